/- Iterators that make memory between two rounds, and the library's Collect over them. -/
import Derived.Test.YtapjglpiofpbmaaPartbbaf3aaf
import Derived.Test.YtapjglpiofpbmaaRange
import Derived.RangeFuncNested
import Derived.RangeFuncOne
import Derived.Shelf.Abstract
import Derived.WalkKit
import Derived.OwnWalkIn
import Derived.TacticsInMore
import Derived.LoopNIn
import Derived.LoopIn
import Derived.Maps.AppendAt
import Derived.Maps.OwnIn
namespace Go.Proofs.Ytapjglpiofpbmaa
open Go.RowKit Go.Sort
attribute [local go_sem] Oper.semAt_some

/-- The block of the slice that lies in box B. -/
def ownB (W : World) (B : Nat) : Option Nat := (W.cell? ⟨B, 0, none⟩).bind Value.ownBlock
/-- What a round keeps: whatever lay below n₀; and of all variables each but box B and the block of the slice in it. -/
structure KpB (n₀ B : Nat) (W W' : World) : Prop where
  below : Below n₀ W W'
  keep : ∀ b o, W.heap[b]? = some o → o.isCells = true → b ≠ B → ownB W B ≠ some b → W'.heap[b]? = some o
  own : ownB W' B = ownB W B ∨ ∃ g, ownB W' B = some g ∧ W.heap.size ≤ g ∧ g < W'.heap.size
section
variable {n₀ B : Nat} {W W' W'' : World}
theorem KpB.refl (n₀ B : Nat) (W : World) : KpB n₀ B W W := ⟨Below.refl _ _, fun _ _ h _ _ _ => h, .inl rfl⟩
theorem KpB.ne (h : KpB n₀ B W W') {b : Nat} (hb : b < W.heap.size) (hn : ownB W B ≠ some b) : ownB W' B ≠ some b := by
  rcases h.own with e | ⟨g, e, h1, -⟩
  · rw [e]; exact hn
  · rw [e]; simp; omega
theorem lt_of_some {b : Nat} {o : Obj} (h : W.heap[b]? = some o) : b < W.heap.size := (Array.getElem?_eq_some_iff.1 h).1
theorem KpB.trans (h : KpB n₀ B W W') (k : KpB n₀ B W' W'') : KpB n₀ B W W'' := by
  refine ⟨h.below.trans k.below, fun b o hb ho hne hn => k.keep b o (h.keep b o hb ho hne hn) ho hne (h.ne (lt_of_some hb) hn), ?_⟩
  rcases k.own with e | ⟨g, e, h1, h2⟩
  · rcases h.own with e' | ⟨g, e', h1, h2⟩
    · exact .inl (e.trans e')
    · exact .inr ⟨g, e.trans e', h1, Nat.lt_of_lt_of_le h2 k.below.size⟩
  · exact .inr ⟨g, e, Nat.le_trans h.below.size h1, h2⟩
theorem ownB_of (h : W'.heap[B]? = W.heap[B]?) : ownB W' B = ownB W B := by
  unfold ownB
  rw [World.cell?_of_block (a := ⟨B, 0, none⟩) h]
theorem KpB.on (h : Below W.heap.size W W') (hn : n₀ ≤ W.heap.size) (hB : B < W.heap.size) : KpB n₀ B W W' :=
  ⟨h.mono hn, fun b _ hb _ _ _ => (h.block b (lt_of_some hb)).trans hb, .inl (ownB_of (h.block B hB))⟩
theorem KpB.put {w : World} (hn : n₀ ≤ w.heap.size) (hB : B < w.heap.size) (W : World) (l : Nat) (o o' : Obj) (hl : w.heap.size ≤ l) (h : W.heap[l]? = some o) (hc : o.isCells = false) (_ : o.isWalk = false) : KpB n₀ B W (W.putObj l o') := by
  refine ⟨belowK_b hn W l o o' hl h hc (by assumption), fun b o2 hb ho _ _ => ?_, .inl (ownB_of (World.putObj_heap_other (by omega)))⟩
  rw [World.putObj_heap_other (by rintro rfl; rw [h] at hb; cases hb; rw [hc] at ho; cases ho)]
  exact hb
theorem KpB.box (h : KpB n₀ B W W') {b : Nat} {cs : List Value} {T : TypeId} (hb : BoxT W b cs T) (hne : b ≠ B) (hn : ownB W B ≠ some b) : BoxT W' b cs T := h.keep b _ hb rfl hne hn
/-- The slice in box B lies in the world. -/
def InR (W : World) (B : Nat) : Prop := ∀ g, ownB W B = some g → g < W.heap.size
theorem KpB.inR (h : KpB n₀ B W W') (hi : InR W B) : InR W' B := fun g hg => by
  rcases h.own with e | ⟨g', e, -, h2⟩
  · exact Nat.lt_of_lt_of_le (hi g (e ▸ hg)) h.below.size
  · rw [e] at hg; cases hg; exact h2
theorem inR_none (h : ownB W B = none) : InR W B := fun g hg => by rw [h] at hg; cases hg
/-- Numbers in memory of the call's own, read behind a round. -/
theorem KpB.ints {lo : Nat} {l : List Int} {v : Value} (h : KpB n₀ B W W') (ho : OwnI lo W l v) (hB : ∀ g, v.ownBlock = some g → g ≠ B ∧ ownB W B ≠ some g) : ∃ ad cap, v = .slice ad l.length cap ∧ l.length ≤ 9223372036854775807 ∧ ∀ k (hk : k < l.length), ∃ b off, ad = some ⟨b, off, none⟩ ∧ W'.cell? ⟨b, off + k, none⟩ = some (.int .i64 l[k]) := by
  have hr := ho.rdl
  have hln := hr.len
  unfold maxLen at hln
  obtain ⟨ys, hys⟩ := ho.owns
  obtain ⟨a, cap, rfl, -, -, hc⟩ := RdInts.opn hr
  refine ⟨a, cap, rfl, hln, fun k hk => ?_⟩
  obtain ⟨b, off, rfl, hb, hcell⟩ := hc (by omega)
  refine ⟨b, off, rfl, (hcell W' ?_ k hk).2⟩
  rcases hys.2 with ⟨e, h0⟩ | ⟨g, cap', cur, e, -, hgb, -⟩
  · cases e
  · cases e
    obtain ⟨h1, h2⟩ := hB b rfl
    exact (h.keep b _ hgb rfl h1 h2).trans hgb.symm
end

/-- What a plain iterator over numbers is: it hands over all of xs, whatever box collects them. -/
def SeqI (n₀ : Nat) (bs : List Nat) (gf : Nat) (lb : Array Value) (xs : List Int) (w : World) : Prop :=
  ∀ (n : Nat) (w' : World) (B : Nat), Below w.heap.size w w' → n₀ ≤ B → B ∉ bs → B < w'.heap.size → ownB w' B = none →
    SeqStopsK Fence.wide n Try.prog gf lb (fun c : Int => #[.int .i64 c]) (KpB n₀ B) (fun ys => ys = xs) (fun pre => pre <+: xs) xs.length w'

theorem ownI_of_row {lo : Nat} {W : World} {xs : List Int} {v : Value} (h : W.ownsRow lo 3 1 v xs.length (xs.map (.int .i64))) (hi : ∀ n ∈ xs, I64 n) : OwnI lo W xs v := by
  refine ⟨xs.map (.int .i64), fun _ => False, h, fun _ h => h.elim, fun i hi' => ⟨hi _ (List.getElem_mem hi'), ?_⟩⟩
  unfold cellsAt
  rw [Nat.mul_one]
  apply List.ext_getElem?
  intro j
  cases j with
  | zero => simp [List.getElem?_drop, hi']
  | succ j => simp; omega

set_option maxRecDepth 100000 in
set_option maxHeartbeats 4000000 in
/-- slices.AppendSeq(nil, seq): all that the iterator hands over. -/
theorem appendSeq_calls (n₀ : Nat) (bs : List Nat) (gf : Nat) (lb : Array Value) (xs : List Int) (w : World) (hn₀ : n₀ ≤ w.heap.size) (hbs : ∀ b ∈ bs, b < w.heap.size) (eg : ∀ args w, (callFunc gf args).run Try.prog w = .ok (.enter gf args) w) (hseq : SeqI n₀ bs gf lb xs w) (hlen : xs.length ≤ 1000000) (hfit : ∀ n ∈ xs, I64 n) :
    Calls Try.prog 34 #[.slice none 0 0, .func (.func gf) #[] lb] w (GivesI xs w) := by
  obtain ⟨i0, hi, hz0, hz1, hz2⟩ := info_parts Try.infoInt
  refine (callsIn_wide (n := 3)).1 ?_
  refine callsIn_of_wp_marks Try.func34 rfl trivial ?_ rfl
  simp only [Try.ntmps34, List.size_toArray, List.length_cons, List.length_nil, Nat.reduceAdd, Nat.reduceSub, Array.replicate_succ, Array.replicate_zero, List.push_toArray, List.append_toArray, List.nil_append, List.cons_append]
  gi_wp2
  obtain ⟨W0, hW0⟩ : ∃ W0 : World, w.alloc (.cells #[.slice none 0 0] 27) = W0 := ⟨_, rfl⟩
  have hz0' : W0.heap.size = w.heap.size + 1 := by rw [← hW0]; simp
  have hb0 : Boxed W0 w.heap.size 27 (.slice none 0 0) := by rw [← hW0]; exact Boxed.new w _ _
  have hB0 : Below w.heap.size w W0 := by rw [← hW0]; exact (Below.refl _ w).alloc (Nat.le_refl _) _
  have hown0 : ownB W0 w.heap.size = none := by unfold ownB; rw [hb0.cell]; rfl
  rw [hW0]
  clear hW0
  refine wpIn_rangeFunc_ownF (F := Fence.wide) rfl (by decide) (gf := gf) (lb := lb) rfl trivial eg (hseq _ W0 w.heap.size hB0 hn₀ (fun h => Nat.lt_irrefl _ (hbs _ h)) (by omega) hown0)
    (fun h k => KpB.trans h k) (KpB.put (w := W0) (by omega) (by omega)) (Below.refl _ _) (fun _ => rfl)
    (fun pre W => (∃ v, Boxed W w.heap.size 27 v ∧ W.ownsRow w.heap.size 3 1 v pre.length (pre.map (.int .i64)) ∧ True) ∧ Below w.heap.size w W)
    (fun _ _ _ => False)
    ?hI (fun _ _ _ _ _ hs _ _ => hs) ⟨⟨_, hb0, World.ownsRow_nil _ _ _ _, trivial⟩, hB0⟩
    (fun x => { tmps := #[.slice none 0 0, .func (.func gf) #[] lb, .pointer (some ⟨w.heap.size, 0, none⟩), undef, .slice none 0 0, .int .i64 x, .func (.func gf) #[] lb, .int .i64 x, undef, undef, undef, undef, undef], defers := [] }) ?assign ?body ?done ?stop
  case hI =>
    exact OwnFrom.and (Own.from (holdsRow_own w.heap.size w.heap.size 27 3 1 (fun pre : List Int => pre.length) (fun pre => pre.map (.int .i64)) (fun _ _ => True)) _) (ownFrom_below (Nat.le_refl _) (by omega))
  case assign =>
    intro l x W K hK
    gi_wp2
    exact hK
  case body =>
    rintro l pre x W ⟨⟨v, hv, hrow, -⟩, hB⟩ hlt
    have hc := hv.cell
    have hfz := hv.frozen
    have hle := hB.size
    gi_wp2_with (first | (gi_at_builtin; refine wpListIn_append_own_at _ rfl _ _ 27 rfl w.heap.size 3 i0 _ 1 8 Try.underlying27 hi hz0 hz1 hz2 rfl (by decide) _ _ _ rfl (hrow.alloc _) ⟨W.heap.size, 0, none⟩ 1 1 [.int .i64 x] rfl rfl (cell_one_new _ _ _) (by simp [Value.oneCell']) (by unfold maxLen; omega) (by omega) (by simp; omega) ?_; intro v' w1 hown' hgrow _ hat; obtain ⟨g', cap', rfl⟩ := ownsRow_succ hown'; obtain ⟨hv1, hv2, hr2, hk2, hb2⟩ := hv.appended (by decide) hrow hB.size (Nat.le_refl _) hown' hgrow; have hc1 := hv1.cell; have hf1 := hv1.frozen))
    refine ⟨hk2, ⟨hb2.mono hn₀, fun b o hb ho hne hno => ?_, ?_⟩, ⟨_, hv2, by rw [List.length_append, List.map_append]; exact hr2, trivial⟩, hB.trans hb2⟩
    · have hno' : some b ≠ v.ownBlock := fun e => hno (by unfold ownB; rw [hc]; exact e.symm)
      rw [Below.heap_setCell _ _ _ _ hne, hgrow.block b (by simp; have := lt_of_some hb; omega) hno']
      exact (Below.heap_alloc W _ _ (lt_of_some hb)).trans hb
    · have e1 : ownB (w1.setCell ⟨w.heap.size, 0, none⟩ (.slice (some ⟨g', 0, none⟩) (pre.length + 1) cap')) w.heap.size = some g' := by unfold ownB; rw [hv2.cell]; rfl
      have e2 : ownB W w.heap.size = v.ownBlock := by unfold ownB; rw [hc]; rfl
      rcases hat with e | e
      · exact .inl (by rw [e1, e2]; exact e)
      · refine .inr ⟨g', e1, ?_, ?_⟩
        · have : g' = (W.alloc (.cells #[.int .i64 x] 3)).heap.size := by simpa [Value.ownBlock] using e
          rw [this]; simp
        · exact (ownsRow_in hr2 g' rfl).2
  case done =>
    rintro D ys W hD rfl ⟨⟨v, hv, hrow, -⟩, hB⟩ hK
    have hc := hv.cell
    gi_wp2
    refine ⟨by simp, .inl ⟨_, _, rfl, run_takeDeferred hK, ?_⟩⟩
    exact ⟨_, results_tmp rfl _ _ _, v, rfl, ownI_of_row (ownsRow_putObj hrow _ hK rfl) hfit, hB.trans (belowK_b (w := w) (Nat.le_refl _) W D _ _ (by omega) hK rfl rfl)⟩
  case stop =>
    rintro D c pre W _ _ h _
    exact h.elim
set_option maxRecDepth 100000 in
set_option maxHeartbeats 4000000 in
/-- slices.Collect(seq). -/
theorem collect_calls (n₀ : Nat) (bs : List Nat) (gf : Nat) (lb : Array Value) (xs : List Int) (w : World) (hn₀ : n₀ ≤ w.heap.size) (hbs : ∀ b ∈ bs, b < w.heap.size) (eg : ∀ args w, (callFunc gf args).run Try.prog w = .ok (.enter gf args) w) (hseq : SeqI n₀ bs gf lb xs w) (hlen : xs.length ≤ 1000000) (hfit : ∀ n ∈ xs, I64 n) :
    Calls Try.prog 21 #[.func (.func gf) #[] lb] w (GivesI xs w) := by
  have HA := Lib.hid (appendSeq_calls n₀ bs gf lb xs w hn₀ hbs eg hseq hlen hfit)
  clear eg hseq hbs
  go_enter Try.func21, Try.ntmps21
  go_wp2_with (go_at_call 34; (with_reducible refine HA.out.mono ?_); rintro e w1 ⟨v, rfl, ho, hb⟩)
  go_ret
  exact ⟨_, rfl, ho, hb⟩
end Go.Proofs.Ytapjglpiofpbmaa
/- nest.children and Children. Printed by gen-ac23.py. -/
namespace Go.Proofs.Ytapjglpiofpbmaa
open Go.RowKit Go.Sort
attribute [local go_sem] Oper.semAt_some

theorem wpListIn_load_T {F : Fence} {nF : Nat} {P : Program} {ops : Array Oper} {rest : List Oper} {a : Act} {w : World} {Q : Exit → Act → World → Prop} {dst : Option Tmp} {ty9 : TypeId} {pos : String} {after : Array Edge} {guard : Option (Nat × Bool)} (ty : TypeId) (x : Operand) (hw : Region.wanted ⟨dst, .load ty x, ty9, pos, after, guard⟩ (yielded ops a.tmps) = true)
    (p : Addr) (hx : a.eval x = .pointer (some p)) (v : Value) (hL : (Instr.loadAt ty (.pointer (some p))).run P w = .ok v w) (h : wpListIn F nF P ops Q rest (a.put dst v) w) : wpListIn F nF P ops Q (⟨dst, .load ty x, ty9, pos, after, guard⟩ :: rest) a w := by
  refine BigFrame.wpListIn_want hw fun K hK => ?_
  refine ⟨fun f hf => by simp [Oper.about] at hf, ?_⟩
  rw [Oper.semAt_eq _ _ _ (by simp), load_run ty x rfl p hx v w hL]
  exact hK _ _ h
theorem grown_of {W W' : World} (h : Below W.heap.size W W') : W.grownBy W' none := ⟨h.os, h.tape, h.output, h.size, fun k hk _ => h.block k hk⟩
theorem abides {β : Type} {B : Nat} {J : β → World → Prop} (hJ : AbidesFrom B J) {s : β} {W W' : World} (h : J s W) (hb : Below W.heap.size W W') : J s W' := hJ s W W' none h (grown_of hb) (fun r e => by cases e)
/-- The iterator over the things in a thing. -/
theorem children_seq (F : Nat → Prop) (w : World) (x : WorldD) (cs : List Value) (hF : Inn F w) (hx : Holds.world.R F w x cs) (hN : Nest x) (hsm : x.parent.length ≤ 1000000) (c0 : Int) (W : World) (hW : Below w.heap.size w W) (bw bx : Nat) (hbw : BoxT W bw cs 38) (hbx : BoxT W bx [.int .i64 c0] 3) : SeqI w.heap.size [bw, bx] 65 #[.pointer (some ⟨bw, 0, none⟩), .pointer (some ⟨bx, 0, none⟩)] (x.kids c0) W := by
  have hn9 : x.n = x.parent.length := rfl
  have HIS0 : Hid (∀ W', Below w.heap.size w W' → ∀ c : Int, Calls Try.prog 63 #[.agg cs.toArray, .int .i64 c] W' (Gives W' (.bool (decide (IsTh x.n c))))) := fun W' h c => nis_calls F W' x cs (fun b hb => Nat.lt_of_lt_of_le (hF b hb) h.size) (Holds.world.keep (fun b hb => h.block b (hF b hb)) (fun _ h => h) hx) c
  have HK0 : Hid (IsTh x.n c0 → x.kids c0 = chainF x.next x.n x.parent.length (atI x.child c0)) := fun h => by unfold WorldD.kids; rw [if_pos h, hn9]
  have HKN : Hid (¬ IsTh x.n c0 → x.kids c0 = []) := fun h => by unfold WorldD.kids; rw [if_neg h]
  have HCL := Lib.hid (hN.child.trans hn9); have HNL := Lib.hid (hN.next.trans hn9); have HN9 := Lib.hid hn9
  have HSTEP : Hid (∀ m c, chainF x.next x.n (m + 1) c = if IsTh x.n c then c :: chainF x.next x.n m (atI x.next c) else []) := fun m c => rfl
  have HZ : Hid (∀ c, chainF x.next x.n 0 c = []) := fun c => rfl
  clear hn9
  generalize x.kids c0 = R at HK0 HKN
  obtain ⟨-, -, -, -, -, -, wv0, wv1, wv2, wv3, wv4, wv5, wv6, rfl, wg0, wg1, wg2, wg3, wg4, wg5, wg6⟩ := hx
  obtain ⟨wa0, wc0, rfl⟩ := wg0.shape
  have wl0 := wg0.len
  obtain ⟨wa1, wc1, rfl⟩ := wg1.shape
  have wl1 := wg1.len
  obtain ⟨wa2, wc2, rfl⟩ := wg2.shape
  have wl2 := wg2.len
  obtain ⟨wa3, wc3, rfl⟩ := wg3.shape
  have wl3 := wg3.len
  obtain ⟨wa4, wc4, rfl⟩ := wg4.shape
  have wl4 := wg4.len
  obtain ⟨wa5, wc5, rfl⟩ := wg5.shape
  have wl5 := wg5.len
  obtain ⟨wa6, wc6, rfl⟩ := wg6.shape
  have wl6 := wg6.len
  unfold maxLen at wl0 wl1 wl2 wl3 wl4 wl5 wl6
  obtain ⟨xa2, xc2, he2, -, -, hA2⟩ := RdInts.elem wg2 hF
  cases he2
  have WA2 := Lib.hid hA2
  clear hA2
  obtain ⟨xa3, xc3, he3, -, -, hA3⟩ := RdInts.elem wg3 hF
  cases he3
  have WA3 := Lib.hid hA3
  clear hA3
  clear wg0 wg1 wg2 wg3 wg4 wg5 wg6 wl0 wl1 wl2 wl3 wl4 wl5 wl6
  intro n w' B hw' hB hbs hBl hown l J Jx V hV hJ hJx hY h0
  have HJ : Hid (∀ (s : List Int) (W W' : World), J s W → Below W.heap.size W W' → J s W') := fun s W W' h hb => abides hJ h hb
  have HY := Lib.hid hY
  have hoV : ownB V B = none := by rw [ownB_of (hV.block B hBl)]; exact hown
  have hVV := btK hw' hV
  have hxw : BoxT V bw [.slice wa0 x.globals.length wc0, .slice wa1 x.parent.length wc1, .slice wa2 x.child.length wc2, .slice wa3 x.next.length wc3, .slice wa4 x.flags.length wc4, .slice wa5 x.props.length wc5, .slice wa6 x.timers.length wc6, .int .u64 x.seed, .int .i64 x.score, .int .i64 x.turns, .int .i64 x.over, .int .i64 x.it, .int .i64 x.go] 38 := hbw.below hVV
  have hxx : BoxT V bx [.int .i64 c0] 3 := hbx.below hVV
  have HWV := Lib.hid (btK hW hVV)
  have hn1 : bw ≠ B := fun e => hbs (by simp [e])
  have hn2 : bx ≠ B := fun e => hbs (by simp [e])
  have HBWr : Hid (∀ W', KpB w.heap.size B V W' → BoxT W' bw [.slice wa0 x.globals.length wc0, .slice wa1 x.parent.length wc1, .slice wa2 x.child.length wc2, .slice wa3 x.next.length wc3, .slice wa4 x.flags.length wc4, .slice wa5 x.props.length wc5, .slice wa6 x.timers.length wc6, .int .u64 x.seed, .int .i64 x.score, .int .i64 x.turns, .int .i64 x.over, .int .i64 x.it, .int .i64 x.go] 38 ∧ BoxT W' bx [.int .i64 c0] 3 ∧ Below w.heap.size w W') := fun W' h => ⟨h.box hxw hn1 (by rw [hoV]; simp), h.box hxx hn2 (by rw [hoV]; simp), HWV.out.trans h.below⟩
  have HON : Hid (∀ W1 W2, Below W1.heap.size W1 W2 → KpB w.heap.size B V W1 → KpB w.heap.size B V W2) := fun W1 W2 h k => k.trans (KpB.on h (Nat.le_trans HWV.out.size k.below.size) (by have := hV.size; have := k.below.size; omega))
  clear hY hJ hJx hoV hVV hxw hxx hn1 hn2 hbw hbx hW hw' hV hB hbs hBl hown
  obtain ⟨WV, hWV⟩ : ∃ v, Value.agg #[.slice wa0 x.globals.length wc0, .slice wa1 x.parent.length wc1, .slice wa2 x.child.length wc2, .slice wa3 x.next.length wc3, .slice wa4 x.flags.length wc4, .slice wa5 x.props.length wc5, .slice wa6 x.timers.length wc6, .int .u64 x.seed, .int .i64 x.score, .int .i64 x.turns, .int .i64 x.over, .int .i64 x.it, .int .i64 x.go] = v := ⟨_, rfl⟩
  have HLW : Hid (∀ W, BoxT W bw [.slice wa0 x.globals.length wc0, .slice wa1 x.parent.length wc1, .slice wa2 x.child.length wc2, .slice wa3 x.next.length wc3, .slice wa4 x.flags.length wc4, .slice wa5 x.props.length wc5, .slice wa6 x.timers.length wc6, .int .u64 x.seed, .int .i64 x.score, .int .i64 x.turns, .int .i64 x.over, .int .i64 x.it, .int .i64 x.go] 38 → (Instr.loadAt 38 (.pointer (some ⟨bw, 0, none⟩))).run Try.prog W = .ok WV W) := fun W h => by
    rw [← hWV]
    exact run_loadAt_mid W _ 0 38 _ _ h.range Try.underlying38 rfl (by kernel_rfl)
  have HIS := Lib.hid HIS0.out
  rw [hWV] at HIS
  clear hWV HIS0
  refine callsIn_of_wp Try.func65 rfl trivial ?_ rfl
  simp only [Try.ntmps65, List.size_toArray, List.length_cons, List.length_nil, Nat.reduceAdd, Nat.reduceSub, Array.replicate_succ, Array.replicate_zero, List.push_toArray, List.append_toArray, List.nil_append, List.cons_append]
  have HK9 := Lib.hid (KpB.refl w.heap.size B V)
  obtain ⟨hbx1, hbx2, hbx3⟩ := HBWr.out V HK9.out
  have d0 := hbx2.cell 0
  simp only [List.getElem?_cons_zero] at d0
  have HXw := Lib.hid hbx1; have HBw := Lib.hid hbx3
  clear hbx1 hbx2 hbx3
  by_cases hc0 : IsTh x.n c0
  rotate_left
  · have hi := fun W h => HIS.out W h c0
    rw [decide_eq_false hc0] at hi
    have HIS := Lib.hid hi
    have HF := Lib.hid (HKN.out hc0)
    clear hi hc0
    gi_wp2_with (first | ((with_reducible refine wpListIn_load_T 38 (.tmp 1) ?hw9 ⟨bw, 0, none⟩ ?hx9 WV (HLW.out _ HXw.out) ?_); (case hw9 => rfl); (case hx9 => first | rfl | (exact rfl))) | ((first | (refine ⟨trivial, ?_⟩; gi_at_call 63; refine (callsIn_wide.2 (HIS.out _ HBw.out)).mono ?_) | (refine ⟨trivial, fun hh => (by simp [Fence.wide] at hh), ?_⟩; refine (callsIn_wide.2 (HIS.out _ HBw.out)).mono ?_)); rintro e w1 ⟨rfl, hb1⟩))
    refine bodyPost_ret (results_none rfl _ _ _) rfl ?_
    exact ⟨⟨_, rfl⟩, .inl ⟨[], HF.out.symm, HJ.out _ _ _ h0 hb1⟩⟩
  have hi := fun W h => HIS.out W h c0
  rw [decide_eq_true hc0] at hi
  have HIS1 := Lib.hid hi
  have hq0 := HK0.out hc0
  clear hi HKN HK0
  obtain ⟨jc, rfl, jc1, jc2⟩ := th_nat hc0
  have j3 : jc < x.child.length := by have := HCL.out; have := HN9.out; omega
  have j4 : (0 : Int) ≤ (jc : Int) := by omega
  have j5 : (jc : Int) < (x.child.length : Int) := by omega
  obtain ⟨xb2, xo2, rfl, hel2⟩ := WA2.out (by omega)
  have HE2 := Lib.hid (fun W h => hel2 W h jc j3)
  rw [atI_get j3] at hq0
  generalize x.child[jc] = y at HE2 hq0
  have HQ0 : Hid ([] ++ chainF x.next x.n x.parent.length y = R) := hq0.symm
  clear hq0 hel2 hc0 WA2
  gi_wp2_with (first | ((with_reducible refine wpListIn_load_T 38 (.tmp 1) ?hw9 ⟨bw, 0, none⟩ ?hx9 WV (HLW.out _ HXw.out) ?_); (case hw9 => rfl); (case hx9 => first | rfl | (exact rfl))) | ((first | (refine ⟨trivial, ?_⟩; gi_at_call 63; refine (callsIn_wide.2 (HIS1.out _ HBw.out)).mono ?_) | (refine ⟨trivial, fun hh => (by simp [Fence.wide] at hh), ?_⟩; refine (callsIn_wide.2 (HIS1.out _ HBw.out)).mono ?_)); rintro e w1 ⟨rfl, hb1⟩; have HK1 := Lib.hid (HON.out _ _ hb1 HK9.out); obtain ⟨hbx1, hbx2, hbx3⟩ := HBWr.out w1 HK1.out; have wy1 := hbx1.cell 1; have wy2 := hbx1.cell 2; have d1 := hbx2.cell 0; simp only [List.getElem?_cons_succ, List.getElem?_cons_zero] at wy1 wy2 d1; have q0 := HE2.out _ hbx3; have HJ1 := Lib.hid (HJ.out _ _ _ h0 hb1); clear hbx1 hbx2 hbx3))
  clear wy1 wy2 d1 d0 q0 hb1
  gi_loopw [4, 5] (fun lf cc wr => ∃ (pre : List Int) (m : Nat) (c : Int), lf = .int .i64 m ∧ cc = .int .i64 c ∧ m ≤ x.parent.length ∧ Hid (pre ++ chainF x.next x.n m c = R) ∧ Hid (J pre wr) ∧ Hid (KpB w.heap.size B V wr)) (fun lf _ _ => (intOf lf).toNat)
  case atStart => exact ⟨[], x.parent.length, y, rfl, rfl, Nat.le_refl _, HQ0.out, HJ1.out, HK1.out⟩
  case round =>
    clear HJ1 HK1 HQ0 HE2 HXw HBw HK9
    obtain ⟨pre, m, c, rfl, rfl, hm, HQ, HJp, HKp⟩ := hrel
    obtain ⟨hbx1, hbx2, hbx3⟩ := HBWr.out wr HKp.out
    have HXw := Lib.hid hbx1; have HBw := Lib.hid hbx3
    clear hbx1 hbx2 hbx3
    by_cases hc : IsTh x.n c
    rotate_left
    · have hi := fun W h => HIS.out W h c
      rw [decide_eq_false hc] at hi
      have HIS := Lib.hid hi
      have HF : Hid (pre = R) := by
        have h9 := HQ.out
        cases m with
        | zero => rwa [HZ.out, List.append_nil] at h9
        | succ m => rwa [HSTEP.out, if_neg hc, List.append_nil] at h9
      clear hi hc
      gi_wp2_with (first | ((with_reducible refine wpListIn_load_T 38 (.tmp 1) ?hw9 ⟨bw, 0, none⟩ ?hx9 WV (HLW.out _ HXw.out) ?_); (case hw9 => rfl); (case hx9 => first | rfl | (exact rfl))) | ((first | (refine ⟨trivial, ?_⟩; gi_at_call 63; refine (callsIn_wide.2 (HIS.out _ HBw.out)).mono ?_) | (refine ⟨trivial, fun hh => (by simp [Fence.wide] at hh), ?_⟩; refine (callsIn_wide.2 (HIS.out _ HBw.out)).mono ?_)); rintro e w1 ⟨rfl, hb1⟩))
      refine ⟨fun _ h => (by cases h), ?_⟩
      gi_wp2
      go_end0
      exact ⟨⟨_, rfl⟩, .inl ⟨pre, HF.out, HJ.out _ _ _ HJp.out hb1⟩⟩
    have hi := fun W h => HIS.out W h c
    rw [decide_eq_true hc] at hi
    have HIS2 := Lib.hid hi
    clear hi
    cases m with
    | zero =>
      have HF : Hid (pre = R) := by
        have h9 := HQ.out
        rwa [HZ.out, List.append_nil] at h9
      clear hc
      gi_wp2_with (first | ((with_reducible refine wpListIn_load_T 38 (.tmp 1) ?hw9 ⟨bw, 0, none⟩ ?hx9 WV (HLW.out _ HXw.out) ?_); (case hw9 => rfl); (case hx9 => first | rfl | (exact rfl))) | ((first | (refine ⟨trivial, ?_⟩; gi_at_call 63; refine (callsIn_wide.2 (HIS2.out _ HBw.out)).mono ?_) | (refine ⟨trivial, fun hh => (by simp [Fence.wide] at hh), ?_⟩; refine (callsIn_wide.2 (HIS2.out _ HBw.out)).mono ?_)); rintro e w1 ⟨rfl, hb1⟩))
      refine ⟨fun _ h => (by cases h), ?_⟩
      gi_wp2
      go_end0
      exact ⟨⟨_, rfl⟩, .inl ⟨pre, HF.out, HJ.out _ _ _ HJp.out hb1⟩⟩
    | succ m =>
      have hq := HQ.out
      rw [HSTEP.out, if_pos hc] at hq
      have HLT : Hid (pre.length < R.length) := by rw [← hq]; show _ < _; simp
      obtain ⟨jn, rfl, jn1, jn2⟩ := th_nat hc
      have k3 : jn < x.next.length := by have := HNL.out; have := HN9.out; omega
      have k4 : (0 : Int) ≤ (jn : Int) := by omega
      have k5 : (jn : Int) < (x.next.length : Int) := by omega
      obtain ⟨xb3, xo3, rfl, hel3⟩ := WA3.out (by omega)
      have HE3 := Lib.hid (fun W h => hel3 W h jn k3)
      rw [atI_get k3] at hq
      generalize x.next[jn] = z at HE3 hq
      have HQN : Hid ((pre ++ [(jn : Int)]) ++ chainF x.next x.n m z = R) := by show _ = R; rw [List.append_assoc]; exact hq
      have hm0 : (0 : Int) < ((m + 1 : Nat) : Int) := by omega
      have hm1 : ((m + 1 : Nat) : Int) ≤ 1000000 := by omega
      have hm2 : ((m + 1 : Nat) : Int) = (m : Int) + 1 := by omega
      obtain ⟨M, hM⟩ : ∃ M : Int, ((m + 1 : Nat) : Int) = M := ⟨_, rfl⟩
      rw [hM] at hm0 hm1 hm2 ⊢
      have HM := Lib.hid hm2
      clear hc hel3 hq hm2 hM
      gi_wp2_with (first | ((with_reducible refine wpListIn_load_T 38 (.tmp 1) ?hw9 ⟨bw, 0, none⟩ ?hx9 WV (HLW.out _ HXw.out) ?_); (case hw9 => rfl); (case hx9 => first | rfl | (exact rfl))) | ((first | (refine ⟨trivial, ?_⟩; gi_at_call 63; refine (callsIn_wide.2 (HIS2.out _ HBw.out)).mono ?_) | (refine ⟨trivial, fun hh => (by simp [Fence.wide] at hh), ?_⟩; refine (callsIn_wide.2 (HIS2.out _ HBw.out)).mono ?_)); rintro e w1 ⟨rfl, hb1⟩; obtain ⟨fn, tmps, assign, body, hy, hR⟩ := HY.out pre (jn : Int) w1 (HJ.out _ _ _ HJp.out hb1) HLT.out; have HK1 := Lib.hid (HON.out _ _ hb1 HKp.out)))
      refine ⟨fun hh => (by simp [Fence.wide] at hh), hR.mono ?_⟩
      rintro e w3 (⟨rfl, hJ3, hk3⟩ | ⟨rfl, hJx3⟩)
      · have HK3 := Lib.hid (HK1.out.trans hk3)
        obtain ⟨hbx1, hbx2, hbx3⟩ := HBWr.out w3 HK3.out
        have wy3 := hbx1.cell 3
        simp only [List.getElem?_cons_succ, List.getElem?_cons_zero] at wy3
        have q3 := HE3.out _ hbx3
        have HJ3 := Lib.hid hJ3
        clear hbx1 hbx2 hbx3 hJ3 hk3 hR hy
        gi_wp2
        go_roundw
        case rel => exact ⟨pre ++ [(jn : Int)], m, z, by have := HM.out; go_num, rfl, by omega, HQN.out, HJ3.out, HK3.out⟩
        case measure => have := HM.out; simp [intOf]; omega
      · have HF : Hid (pre ++ [(jn : Int)] <+: R) := ⟨_, HQN.out⟩
        gi_wp2
        go_end0
        exact ⟨⟨_, rfl⟩, .inr ⟨_, HF.out, hJx3⟩⟩
theorem kids_fit {x : WorldD} (hsm : x.parent.length ≤ 1000000) (c : Int) : ∀ n ∈ x.kids c, I64 n := by
  intro n h
  have h9 := (kids_is h).2
  have hn9 : x.n = x.parent.length := rfl
  unfold IsTh at h9
  unfold I64
  omega
set_option maxRecDepth 100000 in
set_option maxHeartbeats 2000000 in
theorem children_calls (F : Nat → Prop) (w : World) (x : WorldD) (cs : List Value) (_hF : Inn F w) (hx : Holds.world.R F w x cs) (c0 : Int) : Calls Try.prog 61 #[.agg cs.toArray, .int .i64 c0] w (fun e w' => ∃ bw bx, e = .returned (.func (.func 65) #[] #[.pointer (some ⟨bw, 0, none⟩), .pointer (some ⟨bx, 0, none⟩)]) ∧ BoxT w' bw cs 38 ∧ BoxT w' bx [.int .i64 c0] 3 ∧ Below w.heap.size w w') := by
  obtain ⟨-, -, -, -, -, -, wv0, wv1, wv2, wv3, wv4, wv5, wv6, rfl, wg0, wg1, wg2, wg3, wg4, wg5, wg6⟩ := hx
  obtain ⟨wa0, wc0, rfl⟩ := wg0.shape
  have wl0 := wg0.len
  obtain ⟨wa1, wc1, rfl⟩ := wg1.shape
  have wl1 := wg1.len
  obtain ⟨wa2, wc2, rfl⟩ := wg2.shape
  have wl2 := wg2.len
  obtain ⟨wa3, wc3, rfl⟩ := wg3.shape
  have wl3 := wg3.len
  obtain ⟨wa4, wc4, rfl⟩ := wg4.shape
  have wl4 := wg4.len
  obtain ⟨wa5, wc5, rfl⟩ := wg5.shape
  have wl5 := wg5.len
  obtain ⟨wa6, wc6, rfl⟩ := wg6.shape
  have wl6 := wg6.len
  unfold maxLen at wl0 wl1 wl2 wl3 wl4 wl5 wl6
  clear wg0 wg1 wg2 wg3 wg4 wg5 wg6
  obtain ⟨W1, hW1⟩ : ∃ z, w.alloc (.cells #[.slice wa0 x.globals.length wc0, .slice wa1 x.parent.length wc1, .slice wa2 x.child.length wc2, .slice wa3 x.next.length wc3, .slice wa4 x.flags.length wc4, .slice wa5 x.props.length wc5, .slice wa6 x.timers.length wc6, .int .u64 x.seed, .int .i64 x.score, .int .i64 x.turns, .int .i64 x.over, .int .i64 x.it, .int .i64 x.go] 38) = z := ⟨_, rfl⟩
  have hb1 : Below w.heap.size w W1 := by rw [← hW1]; exact (Below.refl _ _).alloc (Nat.le_refl _) _
  have hx1 : BoxT W1 w.heap.size [.slice wa0 x.globals.length wc0, .slice wa1 x.parent.length wc1, .slice wa2 x.child.length wc2, .slice wa3 x.next.length wc3, .slice wa4 x.flags.length wc4, .slice wa5 x.props.length wc5, .slice wa6 x.timers.length wc6, .int .u64 x.seed, .int .i64 x.score, .int .i64 x.turns, .int .i64 x.over, .int .i64 x.it, .int .i64 x.go] 38 := by rw [← hW1]; exact BoxT.new _ _ _
  have HW1 := Lib.hid hW1; have HBv := Lib.hid hb1; have HXv := Lib.hid hx1
  have HSZ := Lib.hid (show W1.heap.size = w.heap.size + 1 by rw [← hW1]; simp)
  clear hW1 hb1 hx1
  go_enter Try.func61, Try.ntmps61
  go_upto_region 1 with fail
  rw [HW1.out]
  obtain ⟨WV, hWV⟩ : ∃ v, Value.agg #[.slice wa0 x.globals.length wc0, .slice wa1 x.parent.length wc1, .slice wa2 x.child.length wc2, .slice wa3 x.next.length wc3, .slice wa4 x.flags.length wc4, .slice wa5 x.props.length wc5, .slice wa6 x.timers.length wc6, .int .u64 x.seed, .int .i64 x.score, .int .i64 x.turns, .int .i64 x.over, .int .i64 x.it, .int .i64 x.go] = v := ⟨_, rfl⟩
  have HLW : Hid (∀ W, BoxT W w.heap.size [.slice wa0 x.globals.length wc0, .slice wa1 x.parent.length wc1, .slice wa2 x.child.length wc2, .slice wa3 x.next.length wc3, .slice wa4 x.flags.length wc4, .slice wa5 x.props.length wc5, .slice wa6 x.timers.length wc6, .int .u64 x.seed, .int .i64 x.score, .int .i64 x.turns, .int .i64 x.over, .int .i64 x.it, .int .i64 x.go] 38 → (Instr.loadAt 38 (.pointer (some ⟨w.heap.size, 0, none⟩))).run Try.prog W = .ok WV W) := fun W h => by
    rw [← hWV]
    exact run_loadAt_mid W _ 0 38 _ _ h.range Try.underlying38 rfl (by kernel_rfl)
  rw [hWV]
  clear HW1
  clear hWV HLW
  have hbA : Below W1.heap.size W1 (W1.alloc (.cells #[.int .i64 c0] 3)) := (Below.refl _ _).alloc (Nat.le_refl _) _
  have HBA := Lib.hid hbA
  clear hbA
  go_wp2
  go_ret
  exact ⟨_, _, rfl, HXv.out.below HBA.out, by rw [← HSZ.out]; exact BoxT.new _ _ _, btK HBv.out HBA.out⟩
set_option maxRecDepth 100000 in
set_option maxHeartbeats 2000000 in
theorem kidsP_calls (F : Nat → Prop) (w : World) (x : WorldD) (cs : List Value) (hF : Inn F w) (hx : Holds.world.R F w x cs) (hN : Nest x) (hsm : x.parent.length ≤ 1000000) (c0 : Int) : Calls Try.prog 51 #[.agg cs.toArray, .int .i64 c0] w (GivesI (x.kids c0) w) := by
  have HCC0 := Lib.hid (fun (W : World) (h : Below w.heap.size w W) => children_calls F W x cs (fun b hb => Nat.lt_of_lt_of_le (hF b hb) h.size) (Holds.world.keep (fun b hb => h.block b (hF b hb)) (fun _ h => h) hx) c0)
  have HSQ := Lib.hid (fun (W : World) (h : Below w.heap.size w W) (bw bx : Nat) (h1 : BoxT W bw cs 38) (h2 : BoxT W bx [.int .i64 c0] 3) => collect_calls w.heap.size [bw, bx] 65 _ _ W h.size (fun b hb => by simp at hb; rcases hb with rfl | rfl; exact h1.lt; exact h2.lt) (enters_of Try.func65 (by kernel_rfl) rfl) (children_seq F w x cs hF hx hN hsm c0 W h bw bx h1 h2) (Nat.le_trans (kids_len x c0) hsm) (kids_fit hsm c0))
  generalize x.kids c0 = l at HSQ ⊢
  obtain ⟨-, -, -, -, -, -, wv0, wv1, wv2, wv3, wv4, wv5, wv6, rfl, wg0, wg1, wg2, wg3, wg4, wg5, wg6⟩ := hx
  obtain ⟨wa0, wc0, rfl⟩ := wg0.shape
  have wl0 := wg0.len
  obtain ⟨wa1, wc1, rfl⟩ := wg1.shape
  have wl1 := wg1.len
  obtain ⟨wa2, wc2, rfl⟩ := wg2.shape
  have wl2 := wg2.len
  obtain ⟨wa3, wc3, rfl⟩ := wg3.shape
  have wl3 := wg3.len
  obtain ⟨wa4, wc4, rfl⟩ := wg4.shape
  have wl4 := wg4.len
  obtain ⟨wa5, wc5, rfl⟩ := wg5.shape
  have wl5 := wg5.len
  obtain ⟨wa6, wc6, rfl⟩ := wg6.shape
  have wl6 := wg6.len
  unfold maxLen at wl0 wl1 wl2 wl3 wl4 wl5 wl6
  clear wg0 wg1 wg2 wg3 wg4 wg5 wg6
  obtain ⟨W1, hW1⟩ : ∃ z, w.alloc (.cells #[.slice wa0 x.globals.length wc0, .slice wa1 x.parent.length wc1, .slice wa2 x.child.length wc2, .slice wa3 x.next.length wc3, .slice wa4 x.flags.length wc4, .slice wa5 x.props.length wc5, .slice wa6 x.timers.length wc6, .int .u64 x.seed, .int .i64 x.score, .int .i64 x.turns, .int .i64 x.over, .int .i64 x.it, .int .i64 x.go] 38) = z := ⟨_, rfl⟩
  have hb1 : Below w.heap.size w W1 := by rw [← hW1]; exact (Below.refl _ _).alloc (Nat.le_refl _) _
  have hx1 : BoxT W1 w.heap.size [.slice wa0 x.globals.length wc0, .slice wa1 x.parent.length wc1, .slice wa2 x.child.length wc2, .slice wa3 x.next.length wc3, .slice wa4 x.flags.length wc4, .slice wa5 x.props.length wc5, .slice wa6 x.timers.length wc6, .int .u64 x.seed, .int .i64 x.score, .int .i64 x.turns, .int .i64 x.over, .int .i64 x.it, .int .i64 x.go] 38 := by rw [← hW1]; exact BoxT.new _ _ _
  have HW1 := Lib.hid hW1; have HBv := Lib.hid hb1; have HXv := Lib.hid hx1
  clear hW1 hb1 hx1
  go_enter Try.func51, Try.ntmps51
  go_upto_region 1 with fail
  rw [HW1.out]
  obtain ⟨WV, hWV⟩ : ∃ v, Value.agg #[.slice wa0 x.globals.length wc0, .slice wa1 x.parent.length wc1, .slice wa2 x.child.length wc2, .slice wa3 x.next.length wc3, .slice wa4 x.flags.length wc4, .slice wa5 x.props.length wc5, .slice wa6 x.timers.length wc6, .int .u64 x.seed, .int .i64 x.score, .int .i64 x.turns, .int .i64 x.over, .int .i64 x.it, .int .i64 x.go] = v := ⟨_, rfl⟩
  have HLW : Hid (∀ W, BoxT W w.heap.size [.slice wa0 x.globals.length wc0, .slice wa1 x.parent.length wc1, .slice wa2 x.child.length wc2, .slice wa3 x.next.length wc3, .slice wa4 x.flags.length wc4, .slice wa5 x.props.length wc5, .slice wa6 x.timers.length wc6, .int .u64 x.seed, .int .i64 x.score, .int .i64 x.turns, .int .i64 x.over, .int .i64 x.it, .int .i64 x.go] 38 → (Instr.loadAt 38 (.pointer (some ⟨w.heap.size, 0, none⟩))).run Try.prog W = .ok WV W) := fun W h => by
    rw [← hWV]
    exact run_loadAt_mid W _ 0 38 _ _ h.range Try.underlying38 rfl (by kernel_rfl)
  rw [hWV]
  clear HW1
  have HCC := Lib.hid HCC0.out
  rw [hWV] at HCC
  clear hWV HCC0
  go_wp2_with (first | ((with_reducible refine wpList_load_T 38 (.tmp 2) ?hw9 ⟨w.heap.size, 0, none⟩ ?hx9 WV (HLW.out _ HXv.out) ?_); (case hw9 => rfl); (case hx9 => first | rfl | (exact rfl))) | (go_at_call 61; (with_reducible refine (HCC.out _ HBv.out).mono ?_); rintro e w1 ⟨bw, bx, rfl, hx1, hx2, hb1⟩; have HCO := Lib.hid (HSQ.out w1 (btK HBv.out hb1) bw bx hx1 hx2)) | (go_at_call 21; (with_reducible refine HCO.out.mono ?_); rintro e w2 ⟨v, rfl, ho, hb2⟩))
  go_ret
  have hb := btK HBv.out hb1
  exact ⟨_, rfl, ho.lower hb.size, btK hb hb2⟩
end Go.Proofs.Ytapjglpiofpbmaa
