/- slices.SortFunc at commands of the call's own: they lie as putsC lays them. -/
import Derived.Test.YtapjglpiofpbmaaPart7f1217dc
import Derived.Test.YtapjglpiofpbmaaShelfG
import Derived.Shelf.SlSortCmp.NoneTotal
import Derived.Test.YtapjglpiofpbmaaAfC
namespace Go.Proofs.Ytapjglpiofpbmaa
open Go.RowKit Go.Sort

def encF (c : CmdF) : List Value := [.int .i64 c.1.verb, .int .i64 c.1.noun, .int .i64 c.1.second, .int .i64 c.1.number, .int .i64 c.1.dir]
instance : Inhabited CmdF := ⟨⟨⟨0, 0, 0, 0, 0⟩, by unfold CmdD.Fit I64; simp⟩⟩
def cmpF (x y : CmdF) : Int := cmpD x.1 y.1
theorem ltOf_cmpF (x y : CmdF) : Go.Proofs.ltOf cmpF x y = decide (x.1.lt y.1) := by
  unfold Go.Proofs.ltOf cmpF cmpD
  by_cases h : x.1.lt y.1
  · simp [h]
  · rw [if_neg h, decide_eq_false h]
    split <;> rfl
theorem swo_cmpF : SWO (Go.Proofs.ltOf cmpF) := by
  have ht : ∀ x y : CmdF, ¬ x.1.lt y.1 → x.1 = y.1 ∨ y.1.lt x.1 := fun x y h => by
    by_cases e : x.1 = y.1
    · exact .inl e
    · exact .inr ((CmdD.lt_total e).resolve_left h)
  refine ⟨fun x => ?_, fun x y z h1 h2 => ?_, fun x y z h1 h2 => ?_⟩
  · rw [ltOf_cmpF]; exact decide_eq_false (CmdD.lt_irrefl _)
  · rw [ltOf_cmpF] at *
    exact decide_eq_true (CmdD.lt_trans (of_decide_eq_true h1) (of_decide_eq_true h2))
  · rw [ltOf_cmpF] at *
    have g1 := of_decide_eq_false h1
    have g2 := of_decide_eq_false h2
    refine decide_eq_false fun h3 => ?_
    rcases ht x y g1 with e | e
    · exact g2 (e ▸ h3)
    · exact g2 (CmdD.lt_trans e h3)
theorem cmp_lays (blk off size : Nat) (w : World) : Go.Proofs.CmpLays Try.prog 16 #[] encF 5 cmpF blk off size w := fun _ _ _ _ x y =>
  (cmpN x.1 y.1 x.2 y.2 _).mono fun _ _ ⟨h1, h2⟩ => ⟨h1, h2.grow⟩
theorem enc_len (c : CmdF) : (encF c).length = 5 := rfl
theorem flatF_len (d : List CmdF) : (d.flatMap encF).length = d.length * 5 := by
  induction d with
  | nil => rfl
  | cons x d ih => rw [List.flatMap_cons, List.length_append, ih, enc_len, List.length_cons]; omega
theorem flatF_get : ∀ (d : List CmdF) (i c : Nat) (h : i < d.length) (_ : c < 5), (d.flatMap encF)[i * 5 + c]? = (encF d[i])[c]?
  | x :: d, 0, c, _, hc => by
    rw [List.flatMap_cons, List.getElem?_append_left (by rw [enc_len]; omega)]
    simp
  | x :: d, i + 1, c, h, hc => by
    rw [List.flatMap_cons, List.getElem?_append_right (by rw [enc_len]; omega), enc_len, show (i + 1) * 5 + c - 5 = i * 5 + c by omega, flatF_get d i c (by simpa using h) hc]
    simp
theorem flatF_part (d : List CmdF) (i : Nat) (h : i < d.length) : cellsAt 5 (d.flatMap encF) i = encF d[i] := by
  unfold cellsAt
  apply List.ext_getElem?
  intro c
  by_cases hc : c < 5
  · rw [List.getElem?_take_of_lt hc, List.getElem?_drop, flatF_get d i c h hc]
  · rw [List.getElem?_take, if_neg hc, List.getElem?_eq_none (by rw [enc_len]; omega)]
theorem flatF_one {d : List CmdF} {ys : List Value} (hl : ys.length = d.length * 5) (h : ∀ i (hi : i < d.length), cellsAt 5 ys i = encF d[i]) : ys = d.flatMap encF := by
  apply List.ext_getElem?
  intro t
  by_cases ht : t < d.length * 5
  · have hi : t / 5 < d.length := by omega
    have h1 := congrArg (fun l => l[t % 5]?) (h (t / 5) hi)
    have h2 := congrArg (fun l => l[t % 5]?) (flatF_part d (t / 5) hi)
    simp only [cellsAt] at h1 h2
    rw [List.getElem?_take_of_lt (by omega), List.getElem?_drop, show t / 5 * 5 + t % 5 = t by omega] at h1 h2
    rw [h1, h2]
  · rw [List.getElem?_eq_none (by omega), List.getElem?_eq_none (by rw [flatF_len]; omega)]
theorem flatF_list (d : List CmdF) : (flatK encF 5 d.toArray).toList = d.flatMap encF := by
  apply List.ext_getElem?
  intro t
  have hs : (flatK encF 5 d.toArray).toList.length = d.length * 5 := by simp
  by_cases ht : t < d.length * 5
  · have hi : t / 5 < d.length := by omega
    have h0 : t < (flatK encF 5 d.toArray).size := by simpa using ht
    have h1 := get_flatK encF 5 d.toArray t (by simpa using ht)
    rw [getElem!_pos _ t h0, getElem!_pos d.toArray (t / 5) (by simpa using hi)] at h1
    rw [Array.getElem?_toList, Array.getElem?_eq_getElem h0, h1]
    have h2 := flatF_get d (t / 5) (t % 5) hi (by omega)
    rw [show t / 5 * 5 + t % 5 = t by omega] at h2
    rw [h2, getElem!_pos _ _ (by rw [enc_len]; omega), List.getElem?_eq_getElem (by rw [enc_len]; omega)]
    rfl
  · rw [List.getElem?_eq_none (by omega), List.getElem?_eq_none (by rw [flatF_len]; omega)]
theorem own_flat {lo : Nat} {W : World} {L : List CmdF} {g cap : Nat} (h : OwnC lo W (L.map (·.1)) (.slice (some ⟨g, 0, none⟩) L.length cap)) : ∃ cur, W.heap[g]? = some (.cells cur 23 (0, 0)) ∧ lo ≤ g ∧ L.length ≤ cap ∧ cap ≤ maxLen ∧ cur.size = cap * 5 ∧ cur.toList.take (L.length * 5) = L.flatMap encF := by
  obtain ⟨ys, G, ⟨h1, h2⟩, -, h4⟩ := h
  rw [List.length_map] at h1 h2
  rcases h2 with ⟨e, -⟩ | ⟨g', cap', cur, e, h5, h6, h7, h8, h9, h10⟩
  · cases e
  cases e
  refine ⟨cur, h6, h5, h7, h8, h9, ?_⟩
  rw [h10]
  refine flatF_one h1 fun i hi => ?_
  have h9 := (h4 i (by simpa using hi)).2.2.2.2.2
  rw [h9]
  simp [encF]
theorem own_of_flat {lo : Nat} {W : World} {L : List CmdF} {g cap : Nat} {cur : Array Value} (h1 : W.heap[g]? = some (.cells cur 23 (0, 0))) (h2 : lo ≤ g) (h3 : L.length ≤ cap) (h4 : cap ≤ maxLen) (h5 : cur.size = cap * 5) (h6 : cur.toList.take (L.length * 5) = L.flatMap encF) : OwnC lo W (L.map (·.1)) (.slice (some ⟨g, 0, none⟩) L.length cap) := by
  refine ⟨L.flatMap encF, fun _ => False, ⟨by rw [flatF_len, List.length_map], .inr ⟨g, cap, cur, by rw [List.length_map], h2, h1, by rw [List.length_map]; exact h3, h4, h5, by rw [List.length_map]; exact h6⟩⟩, fun b h => h.elim, fun i hi => ?_⟩
  have hi' : i < L.length := by simpa using hi
  obtain ⟨a1, a2, a3, a4, a5⟩ := L[i].2
  rw [flatF_part L i hi', List.getElem_map]
  exact ⟨a1, a2, a3, a4, a5, rfl⟩
/-- The cells behind the sort. -/
theorem put_flat (L M : List CmdF) (cur : Array Value) (hM : M.length = L.length) (h : L.length * 5 ≤ cur.size) : (putCells id 0 (flatK encF 5 M.toArray) cur).size = cur.size ∧ (putCells id 0 (flatK encF 5 M.toArray) cur).toList.take (L.length * 5) = M.flatMap encF := by
  refine ⟨by simp [putCells], ?_⟩
  rw [← flatF_list]
  apply List.ext_getElem?
  intro t
  rw [List.getElem?_take]
  by_cases ht : t < L.length * 5
  · have h0 : t < (flatK encF 5 M.toArray).size := by simp; omega
    rw [if_pos ht, Array.getElem?_toList, Array.getElem?_toList]
    simp only [putCells, Array.getElem?_mapIdx]
    rw [Array.getElem?_eq_getElem (show t < cur.size by omega), Option.map_some, if_pos ⟨Nat.zero_le _, by rw [Nat.zero_add]; exact h0⟩, Nat.sub_zero, getElem!_pos _ t h0, Array.getElem?_eq_getElem h0]
    rfl
  · rw [if_neg ht, List.getElem?_eq_none (by simp; omega)]
theorem holds_flat {W : World} {L : List CmdF} {g : Nat} {cur : Array Value} (h1 : W.heap[g]? = some (.cells cur 23 (0, 0))) (h6 : cur.toList.take (L.length * 5) = L.flatMap encF) : HoldsK encF 5 W g 0 L.toArray := by
  intro j hj
  have hj' : j < L.length * 5 := by simpa using hj
  have h2 : cur[j]? = some (flatK encF 5 L.toArray)[j]! := by
    rw [getElem!_pos _ j hj, ← Array.getElem?_toList, ← List.getElem?_take_of_lt hj', h6, ← flatF_list, Array.getElem?_toList, Array.getElem?_eq_getElem hj]
  refine ⟨?_, ?_⟩
  · simp [World.cell?, h1, h2]
  · simp [World.frozen?, h1]
theorem sort_world {W : World} {M : List CmdF} {g m : Nat} {cur : Array Value} {os : Array Obj} (h1 : W.heap[g]? = some (.cells cur 23 (0, 0))) :
    (sortWorldK encF 5 W g 0 m M.toArray os).heap[g]? = some (.cells (putCells id 0 (flatK encF 5 M.toArray) cur) 23 (0, 0)) ∧ W.grownBy (sortWorldK encF 5 W g 0 m M.toArray os) (some g) := by
  have hlt : g < W.heap.size := (Array.getElem?_eq_some_iff.1 h1).1
  have e : (sortWorldK encF 5 W g 0 m M.toArray os).heap = W.heap.modify g (onCells (putCells id 0 (flatK encF 5 M.toArray))) ++ os := rfl
  refine ⟨?_, rfl, rfl, rfl, ?_, fun k hk hne => ?_⟩
  · rw [e, Array.getElem?_append_left (by simpa using hlt), Array.getElem?_modify, if_pos rfl, h1]
    rfl
  · rw [e]; simp
  · rw [e, Array.getElem?_append_left (by simpa using hk), Array.getElem?_modify, if_neg (fun e => hne (by rw [e]))]
theorem rises_of {L M : List CmdF} (hp : M.Perm L) (hnd : (L.map (·.1)).Nodup) (hs : ∀ i j (hi : i < M.length) (hj : j < M.length), i < j → ¬ M[j].1.lt M[i].1) : (M.map (·.1)).Pairwise CmdD.lt := by
  have hnm : (M.map (·.1)).Nodup := (hp.map _).nodup_iff.2 hnd
  rw [List.pairwise_iff_getElem]
  intro i j hi hj hij
  have hi' : i < M.length := by simpa using hi
  have hj' : j < M.length := by simpa using hj
  have h1 := hs i j hi' hj' hij
  rw [List.getElem_map, List.getElem_map]
  refine (CmdD.lt_total fun e => ?_).resolve_right h1
  have := (List.getElem_inj hnm (h₀ := hi) (h₁ := hj)).1 (by rw [List.getElem_map, List.getElem_map]; exact e)
  omega
/-- slices.SortFunc(out, acts.All$1) at a slice of the call's own. -/
theorem sort_calls {lo : Nat} {W : World} {l : List CmdD} {v : Value} (ho : OwnC lo W l v) (hnd : l.Nodup) (hlen : l.length ≤ 2000000000) :
    Calls Try.prog 15 #[v, .func (.func 16) #[] #[]] W (fun e W' => e = .returned (.tuple #[]) ∧ OwnC lo W' (putsC [] l) v ∧ W.grownBy W' v.ownBlock) := by
  have hfit : ∀ c ∈ l, c.Fit := fun c hc => by
    obtain ⟨ys, G, -, -, h4⟩ := ho
    obtain ⟨i, hi, rfl⟩ := List.getElem_of_mem hc
    obtain ⟨a1, a2, a3, a4, a5, -⟩ := h4 i hi
    exact ⟨a1, a2, a3, a4, a5⟩
  obtain ⟨L, rfl⟩ : ∃ L : List CmdF, L.map (·.1) = l := ⟨l.pmap Subtype.mk hfit, by rw [List.map_pmap]; simp⟩
  have hll : (L.map (·.1)).length = L.length := List.length_map _
  obtain ⟨a, cap, rfl⟩ := ho.shape
  by_cases h0 : L = []
  · subst h0
    refine (Go.Proofs.AnyF.slices_SortFunc_none Try.laysSF a cap _ W).mono fun e W' ⟨h1, h2⟩ => ?_
    subst h2
    exact ⟨h1, ho, ⟨rfl, rfl, rfl, Nat.le_refl _, fun _ _ _ => rfl⟩⟩
  have hpos : 0 < L.length := List.length_pos_iff.2 h0
  have hag : ∃ g, a = some ⟨g, 0, none⟩ := by
    obtain ⟨ys, G, ⟨-, h2⟩, -⟩ := ho
    rcases h2 with ⟨-, e⟩ | ⟨g, cap', cur, e, -⟩
    · omega
    · cases e
      exact ⟨g, rfl⟩
  obtain ⟨g, rfl⟩ := hag
  rw [hll] at ho hlen ⊢
  obtain ⟨cur, h1, h2, h3, h4, h5, h6⟩ := own_flat ho
  have hlt : g < W.heap.size := (Array.getElem?_eq_some_iff.1 h1).1
  have hS := Go.Proofs.AnyQ.slices_SortFunc Try.laysSF 5 Try.isAgg23 Try.sizeOf23 encF (fun _ => rfl) (fun x v hv => by simp [encF] at hv; rcases hv with rfl | rfl | rfl | rfl | rfl <;> rfl) cmpF swo_cmpF 16 #[] g 0 cap L.toArray W
    (enters_of Try.func16 (by kernel_rfl) rfl) (cmp_lays g 0 _ W) (holds_flat h1 h6) hlt (by simp; omega)
  rw [List.size_toArray] at hS
  refine Calls.mono hS fun e W' ⟨he, d', n, os, hp, hs, hw⟩ => ?_
  obtain ⟨M, rfl⟩ : ∃ M : List CmdF, d' = M.toArray := ⟨d'.toList, by simp⟩
  obtain ⟨hsz, -, hpm⟩ := hp
  have hML : M.length = L.length := by simpa using hsz
  have hpm' : M.Perm L := by
    have h9 : (M.toArray.extract 0 L.length).toList.Perm (L.toArray.extract 0 L.length).toList := hpm
    rw [← hML] at h9
    simp only [List.extract_toArray] at h9
    simp only [List.extract, Nat.sub_zero, List.drop_zero] at h9
    rwa [List.take_of_length_le (Nat.le_refl _), hML, List.take_of_length_le (Nat.le_refl _)] at h9
  obtain ⟨e1, e2⟩ := sort_world (m := n) (M := M) (os := os) h1
  obtain ⟨e3, e4⟩ := put_flat L M cur hML (by rw [h5]; exact Nat.mul_le_mul_right 5 h3)
  have hr := rises_of hpm' hnd (fun i j hi hj hij => by
    have h9 := hs i j (Nat.zero_le _) hij (by omega)
    rw [getElem!_pos M.toArray j (by simpa using hj), getElem!_pos M.toArray i (by simpa using hi), ltOf_cmpF] at h9
    simpa using of_decide_eq_false h9)
  have hq : M.map (·.1) = putsC [] (L.map (·.1)) := sorted_puts hr fun x => (hpm'.map _).mem_iff
  subst hw
  refine ⟨he, ?_, e2⟩
  rw [← hq, ← hML]
  exact own_of_flat e1 h2 (by omega) h4 (by rw [e3]; exact h5) (by rw [hML]; exact e4)
/-- .. and as the call hands it over, when its marks have gone. -/
theorem own_kept {lo lo' : Nat} {W W' : World} {l : List CmdD} {v : Value} (h : OwnC lo W l v) (hl : lo' ≤ lo) (hb : ∀ k, v.ownBlock = some k → W'.heap[k]? = W.heap[k]?) : OwnC lo' W' l v := by
  obtain ⟨ys, G, h1, -, h3⟩ := h
  have h9 : OwnC lo W' l v := ⟨ys, fun _ => False, ownsRow_blk h1 hb, fun _ h => h.elim, fun i hi => h3 i hi⟩
  exact h9.lower hl
theorem own_isCells {lo : Nat} {W : World} {l : List CmdD} {v : Value} (h : OwnC lo W l v) {k : Nat} (e : v.ownBlock = some k) : ∃ o, W.heap[k]? = some o ∧ o.isCells = true := by
  obtain ⟨ys, G, ⟨-, hy⟩, -⟩ := h
  rcases hy with ⟨rfl, -⟩ | ⟨g', cap, cur, rfl, -, hg, -⟩
  · cases e
  · cases e
    exact ⟨_, hg, rfl⟩
theorem puts_nub (l : List CmdD) : putsC [] (nubC l) = putsC [] l := sorted_puts (putsC_rises List.Pairwise.nil) fun x => by rw [putsC_mem, nubC_mem]; simp
end Go.Proofs.Ytapjglpiofpbmaa
/- acts.All. Printed by gen-ac34.py. -/
namespace Go.Proofs.Ytapjglpiofpbmaa
open Go.RowKit Go.Sort
attribute [local go_sem] Oper.semAt_some

theorem any_cut {F : Fence} {n : Nat} {P : Program} {md : Region.Mode} {ops : Array Oper} {Q : Exit → Act → World → Prop} {fuel : Nat} {listed : Array Bool} {a : Act} {w : World} (aF : Act) (wF : World) (h1 : Q .normal aF wF) (h2 : Q .normal aF wF → wpAnyIn F n P md ops Q fuel listed a w) : wpAnyIn F n P md ops Q fuel listed a w := h2 h1
theorem wpListIn_lookup9 {F : Fence} {nF : Nat} {P : Program} {ops : Array Oper} {rest : List Oper} {a : Act} {w : World} {Q : Exit → Act → World → Prop} {o : Oper} (t : TypeId) (m x : Operand) (ok : Bool) (mv xv v : Value) (ho : o.op = .lookup t m x ok) (hw : Region.wanted o (yielded ops a.tmps) = true) (hm : a.eval m = mv) (hx : a.eval x = xv) (hL : (Instr.lookup t mv xv ok).run P w = .ok v w)
    (h : wpListIn F nF P ops Q rest (a.put o.dst v) w) : wpListIn F nF P ops Q (o :: rest) a w :=
  BigFrame.wpListIn_want hw fun _ hK => in_lookup t m x ok mv xv v ho hm hx hL (hK _ _ h)
theorem wpListIn_app9 {F : Fence} {nF : Nat} {P : Program} {ops : Array Oper} {rest : List Oper} {a : Act} {w : World} {Q : Exit → Act → World → Prop} {o : Oper} (s x : Operand) (t : TypeId)
    (ho : o.op = Op.call { callee := Callee.builtin Builtin.append, args := #[s, x], argTypes := #[t, t] }) (hw : Region.wanted o (yielded ops a.tmps) = true) (v1 v2 : Value) (R : Value → World → Prop) (hs : a.eval s = v1) (hx : a.eval x = v2)
    (hrun : ∃ v' w', (Builtin.append_ #[t, t] o.type #[v1, v2]).run P w = .ok v' w' ∧ R v' w') (h : ∀ v' w', R v' w' → wpListIn F nF P ops Q rest (a.put o.dst v') w') : wpListIn F nF P ops Q (o :: rest) a w := by
  obtain ⟨v', w', hr, hR⟩ := hrun
  refine BigFrame.wpListIn_want hw fun K hK => oper_val (v := v') (fun f hf => by simp [Oper.about, ho, resolve, Target.leads] at hf) (fun c => by rw [ho]; intro h; cases h) ?_ (hK _ _ (h v' w' hR))
  simp [execOp, ho, resolve, invoke, builtin, hs, hx, hr, Result.andThen]
set_option maxRecDepth 100000 in
set_option maxHeartbeats 8000000 in
theorem allP_calls (F : Nat → Prop) (w : World) (t : TabD) (x : WorldD) (cs ds : List Value) (hF : Inn F w) (ht : Holds.tab.R F w t cs) (hx : Holds.world.R F w x ds) (hN : NestK x) (h128 : x.parent.length ≤ 128) (hfl : x.flags.length = x.parent.length) (hf0 : ∀ f ∈ x.flags, 0 ≤ f) (ha : t.acts.length ≤ 64) (ha8 : ∀ a ∈ t.acts, a.lines.length ≤ 8) : Calls Try.prog 10 #[.agg cs.toArray, .agg ds.toArray] w (GivesC (allC t x) w) := by
  have HVI0 := Lib.hid (fun (W : World) (h : Below w.heap.size w W) => visP_calls F W t x cs ds (fun b hb => Nat.lt_of_lt_of_le (hF b hb) h.size) (Holds.tab.keep (fun b hb => h.block b (hF b hb)) (fun _ h => h) ht) (Holds.world.keep (fun b hb => h.block b (hF b hb)) (fun _ h => h) hx) hN h128 hfl hf0)
  have hvl := vis_len hN h128
  have hvf := vis_fit (x := x) h128
  obtain ⟨R, hR⟩ : ∃ r, allC t x = r := ⟨_, rfl⟩
  rw [hR]
  have HQ0 : Hid (putsC [] (actsC x.vis 0 t.acts) = R) := hR
  have hRl0 := acts_len x.vis hvl t.acts 0 ha8
  have HL0 : Hid ((actsC x.vis 0 t.acts).length ≤ 2000000000) := by show _ ≤ _; omega
  clear hR hRl0
  generalize x.vis = vis at HVI0 hvl hvf HQ0 HL0
  have HVF := Lib.hid hvf
  clear hvf hfl hf0 hN
  obtain ⟨i0, i1, i2, i3, i5, v4, v6, v7, v8, v9, v10, v11, v12, v13, v14, rfl, g4, g6, g7, g8, g9, g10, g11, g12, g13, g14⟩ := ht
  obtain ⟨ad4, ca4, rfl⟩ := g4.shape
  obtain ⟨ad6, ca6, rfl⟩ := g6.shape
  obtain ⟨ad7, ca7, rfl⟩ := g7.shape
  obtain ⟨ad8, ca8, rfl⟩ := g8.shape
  obtain ⟨ad9, ca9, rfl⟩ := g9.shape
  obtain ⟨ad10, ca10, rfl⟩ := g10.shape
  obtain ⟨ad11, ca11, rfl⟩ := g11.shape
  obtain ⟨ad12, ca12, rfl⟩ := g12.shape
  obtain ⟨ad13, ca13, rfl⟩ := g13.shape
  obtain ⟨ad14, ca14, rfl⟩ := g14.shape
  have ln4 := g4.len
  have ln6 := g6.len
  have ln7 := g7.len
  have ln8 := g8.len
  have ln9 := g9.len
  have ln10 := g10.len
  have ln11 := g11.len
  have ln12 := g12.len
  have ln13 := g13.len
  have ln14 := g14.len
  unfold maxLen at ln4 ln6 ln7 ln8 ln9 ln10 ln11 ln12 ln13 ln14
  obtain ⟨-, -, -, -, -, -, wv0, wv1, wv2, wv3, wv4, wv5, wv6, rfl, wg0, wg1, wg2, wg3, wg4, wg5, wg6⟩ := hx
  obtain ⟨wa0, wc0, rfl⟩ := wg0.shape
  have wl0 := wg0.len
  obtain ⟨wa1, wc1, rfl⟩ := wg1.shape
  have wl1 := wg1.len
  obtain ⟨wa2, wc2, rfl⟩ := wg2.shape
  have wl2 := wg2.len
  obtain ⟨wa3, wc3, rfl⟩ := wg3.shape
  have wl3 := wg3.len
  obtain ⟨wa4, wc4, rfl⟩ := wg4.shape
  have wl4 := wg4.len
  obtain ⟨wa5, wc5, rfl⟩ := wg5.shape
  have wl5 := wg5.len
  obtain ⟨wa6, wc6, rfl⟩ := wg6.shape
  have wl6 := wg6.len
  unfold maxLen at wl0 wl1 wl2 wl3 wl4 wl5 wl6
  obtain ⟨a9, c9, he9, -, -, hA9⟩ := RdL.elem g9 hF
  cases he9
  have HA9 := Lib.hid hA9
  clear hA9
  clear g4 g6 g7 g8 g9 g10 g11 g12 g13 g14 wg0 wg1 wg2 wg3 wg4 wg5 wg6
  clear i0 i1 i2 i3 i5
  obtain ⟨W1, hW1⟩ : ∃ z, w.alloc (.cells #[.int .i64 t.title, .int .i64 t.byl, .int .i64 t.release, .int .i64 t.most, .slice ad4 t.texts.length ca4, .int .i64 t.flags, .slice ad6 t.props.length ca6, .slice ad7 t.globals.length ca7, .slice ad8 t.things.length ca8, .slice ad9 t.acts.length ca9, .slice ad10 t.deeds.length ca10, .slice ad11 t.funcs.length ca11, .slice ad12 t.daemons.length ca12, .slice ad13 t.params.length ca13, .slice ad14 t.locals.length ca14] 35) = z := ⟨_, rfl⟩
  obtain ⟨W2, hW2⟩ : ∃ z, W1.alloc (.cells #[.slice wa0 x.globals.length wc0, .slice wa1 x.parent.length wc1, .slice wa2 x.child.length wc2, .slice wa3 x.next.length wc3, .slice wa4 x.flags.length wc4, .slice wa5 x.props.length wc5, .slice wa6 x.timers.length wc6, .int .u64 x.seed, .int .i64 x.score, .int .i64 x.turns, .int .i64 x.over, .int .i64 x.it, .int .i64 x.go] 38) = z := ⟨_, rfl⟩
  have hz1 : W1.heap.size = w.heap.size + 1 := by rw [← hW1]; simp
  have hb1 : Below w.heap.size w W1 := by rw [← hW1]; exact (Below.refl _ _).alloc (Nat.le_refl _) _
  have hb2 : Below W1.heap.size W1 W2 := by rw [← hW2]; exact (Below.refl _ _).alloc (Nat.le_refl _) _
  have hx1 : BoxT W1 w.heap.size [.int .i64 t.title, .int .i64 t.byl, .int .i64 t.release, .int .i64 t.most, .slice ad4 t.texts.length ca4, .int .i64 t.flags, .slice ad6 t.props.length ca6, .slice ad7 t.globals.length ca7, .slice ad8 t.things.length ca8, .slice ad9 t.acts.length ca9, .slice ad10 t.deeds.length ca10, .slice ad11 t.funcs.length ca11, .slice ad12 t.daemons.length ca12, .slice ad13 t.params.length ca13, .slice ad14 t.locals.length ca14] 35 := by rw [← hW1]; exact BoxT.new _ _ _
  have hx2 : BoxT W2 (w.heap.size + 1) [.slice wa0 x.globals.length wc0, .slice wa1 x.parent.length wc1, .slice wa2 x.child.length wc2, .slice wa3 x.next.length wc3, .slice wa4 x.flags.length wc4, .slice wa5 x.props.length wc5, .slice wa6 x.timers.length wc6, .int .u64 x.seed, .int .i64 x.score, .int .i64 x.turns, .int .i64 x.over, .int .i64 x.it, .int .i64 x.go] 38 := by rw [← hz1, ← hW2]; exact BoxT.new _ _ _
  have HXt := Lib.hid (hx1.below hb2); have HXv := Lib.hid hx2; have HBv := Lib.hid (btK hb1 hb2)
  have HW1 := Lib.hid hW1; have HW2 := Lib.hid hW2
  have hs2 : W2.heap.size = W1.heap.size + 1 := by rw [← hW2]; simp
  rw [hz1] at hs2
  have HS2 := Lib.hid hs2
  clear hs2
  clear hW1 hW2 hz1 hb1 hb2 hx1 hx2
  refine (callsIn_wide (n := 3)).1 ?_
  refine callsIn_of_wp_marks Try.func10 rfl trivial ?_ rfl
  simp only [Try.ntmps10, List.size_toArray, List.length_cons, List.length_nil, Nat.reduceAdd, Nat.reduceSub, Array.replicate_succ, Array.replicate_zero, List.push_toArray, List.append_toArray, List.nil_append, List.cons_append]
  gi_upto_region 1 with fail
  rw [HW1.out, HW2.out]
  obtain ⟨TV, hTV⟩ : ∃ v, Value.agg #[.int .i64 t.title, .int .i64 t.byl, .int .i64 t.release, .int .i64 t.most, .slice ad4 t.texts.length ca4, .int .i64 t.flags, .slice ad6 t.props.length ca6, .slice ad7 t.globals.length ca7, .slice ad8 t.things.length ca8, .slice ad9 t.acts.length ca9, .slice ad10 t.deeds.length ca10, .slice ad11 t.funcs.length ca11, .slice ad12 t.daemons.length ca12, .slice ad13 t.params.length ca13, .slice ad14 t.locals.length ca14] = v := ⟨_, rfl⟩
  obtain ⟨WV, hWV⟩ : ∃ v, Value.agg #[.slice wa0 x.globals.length wc0, .slice wa1 x.parent.length wc1, .slice wa2 x.child.length wc2, .slice wa3 x.next.length wc3, .slice wa4 x.flags.length wc4, .slice wa5 x.props.length wc5, .slice wa6 x.timers.length wc6, .int .u64 x.seed, .int .i64 x.score, .int .i64 x.turns, .int .i64 x.over, .int .i64 x.it, .int .i64 x.go] = v := ⟨_, rfl⟩
  have HLT : Hid (∀ W, BoxT W w.heap.size [.int .i64 t.title, .int .i64 t.byl, .int .i64 t.release, .int .i64 t.most, .slice ad4 t.texts.length ca4, .int .i64 t.flags, .slice ad6 t.props.length ca6, .slice ad7 t.globals.length ca7, .slice ad8 t.things.length ca8, .slice ad9 t.acts.length ca9, .slice ad10 t.deeds.length ca10, .slice ad11 t.funcs.length ca11, .slice ad12 t.daemons.length ca12, .slice ad13 t.params.length ca13, .slice ad14 t.locals.length ca14] 35 → (Instr.loadAt 35 (.pointer (some ⟨w.heap.size, 0, none⟩))).run Try.prog W = .ok TV W) := fun W h => by
    rw [← hTV]
    exact run_loadAt_mid W _ 0 35 _ _ h.range Try.underlying35 rfl (by kernel_rfl)
  have HLW : Hid (∀ W, BoxT W (w.heap.size + 1) [.slice wa0 x.globals.length wc0, .slice wa1 x.parent.length wc1, .slice wa2 x.child.length wc2, .slice wa3 x.next.length wc3, .slice wa4 x.flags.length wc4, .slice wa5 x.props.length wc5, .slice wa6 x.timers.length wc6, .int .u64 x.seed, .int .i64 x.score, .int .i64 x.turns, .int .i64 x.over, .int .i64 x.it, .int .i64 x.go] 38 → (Instr.loadAt 38 (.pointer (some ⟨w.heap.size + 1, 0, none⟩))).run Try.prog W = .ok WV W) := fun W h => by
    rw [← hWV]
    exact run_loadAt_mid W _ 0 38 _ _ h.range Try.underlying38 rfl (by kernel_rfl)
  rw [hTV, hWV]
  clear HW1 HW2
  clear ln4 ln6 ln7 ln8 ln10 ln11 ln12 ln13 ln14 wl0 wl1 wl2 wl3 wl4 wl5 wl6
  have HVI := Lib.hid HVI0.out
  rw [hWV, hTV] at HVI
  clear hTV hWV HVI0
  have hmm := @run_makeMap Try.prog
  gi_upto_region 2 with (first | ((with_reducible refine wpListIn_load_T 35 (.tmp 2) ?hw9 ⟨w.heap.size, 0, none⟩ ?hx9 TV (HLT.out _ HXt.out) ?_); (case hw9 => rfl); (case hx9 => first | rfl | (exact rfl))) | ((with_reducible refine wpListIn_load_T 38 (.tmp 3) ?hw9 ⟨w.heap.size + 1, 0, none⟩ ?hx9 WV (HLW.out _ HXv.out) ?_); (case hw9 => rfl); (case hx9 => first | rfl | (exact rfl))) | ((first | (refine ⟨trivial, ?_⟩; gi_at_call 13; (with_reducible refine (callsIn_wide.2 (HVI.out _ HBv.out)).mono ?_)) | (refine ⟨trivial, fun hh => (by simp [Fence.wide] at hh), ?_⟩; gi_at_call 13; (with_reducible refine (callsIn_wide.2 (HVI.out _ HBv.out)).mono ?_))); rintro e w1 ⟨vv, rfl, hown, hb1⟩))
  have HOV := Lib.hid hown
  have HX1 := Lib.hid (HXt.out.below hb1)
  have HB1 := Lib.hid (btK HBv.out hb1)
  have HX1w := Lib.hid (show w.heap.size + 1 < w1.heap.size from Nat.lt_of_lt_of_le HXv.out.lt hb1.size)
  clear hown hb1 HXt HXv HBv HLW HLT
  gi_upto_region 4 with fail
  obtain ⟨w4, hw4⟩ : ∃ z, (((w1.alloc (.map #[] 0)).alloc (.cells #[.map (some w1.heap.size)] 55)).alloc (.cells #[.slice none 0 0] 41)) = z := ⟨_, rfl⟩
  rw [hw4]
  obtain ⟨hS4, hv4, hz4, hb4⟩ := allS_new w.heap.size w1 w4 hw4
  have hwl : w.heap.size + 1 + 1 ≤ w1.heap.size := by have := HX1w.out; omega
  have hown4 : ownB w4 (w1.heap.size + 1 + 1) = none := by unfold ownB; rw [hv4.cell]; rfl
  obtain ⟨va, vc, rfl⟩ := HOV.out.shape
  have hsv4 : RdB (w1.heap.size + 1 + 1) w4 vis (.slice va vis.length vc) := RdB.ofOwn2 (HOV.out.below hb4) (fun g hg => by
    have := (own_lt HOV.out g hg).2
    exact ⟨by omega, by rw [hown4]; simp⟩)
  have HRV : Hid (∀ W', KpB w.heap.size (w1.heap.size + 1 + 1) w4 W' → RdB (w1.heap.size + 1 + 1) W' vis (.slice va vis.length vc) ∧ BoxT W' w.heap.size [.int .i64 t.title, .int .i64 t.byl, .int .i64 t.release, .int .i64 t.most, .slice ad4 t.texts.length ca4, .int .i64 t.flags, .slice ad6 t.props.length ca6, .slice ad7 t.globals.length ca7, .slice ad8 t.things.length ca8, .slice ad9 t.acts.length ca9, .slice ad10 t.deeds.length ca10, .slice ad11 t.funcs.length ca11, .slice ad12 t.daemons.length ca12, .slice ad13 t.params.length ca13, .slice ad14 t.locals.length ca14] 35 ∧ Below w.heap.size w W' ∧ w1.heap.size + 1 + 1 < W'.heap.size ∧ InR W' (w1.heap.size + 1 + 1)) := fun W' h =>
    ⟨hsv4.step h, h.box (HX1.out.below hb4) (by omega) (by rw [hown4]; simp), (btK HB1.out hb4).trans h.below, by have := h.below.size; omega, h.inR (inR_none hown4)⟩
  have HS4 := Lib.hid hS4; have HZ4 := Lib.hid hz4; have HWL := Lib.hid hwl
  have HKR := Lib.hid (KpB.refl w.heap.size (w1.heap.size + 1 + 1) w4)
  clear hw4 hS4 hv4 hz4 hb4 hwl hown4 hsv4 HX1 HB1 HX1w HOV
  obtain ⟨-, hbt, hbw, -, -⟩ := HRV.out _ HKR.out
  have y9 := hbt.cell 9
  simp only [List.getElem?_cons_succ, List.getElem?_cons_zero] at y9
  clear hbt hbw
  obtain ⟨R0, hR0⟩ : ∃ r, actsC vis 0 t.acts = r := ⟨_, rfl⟩
  have HR0 : Hid ([] ++ actsC vis 0 (t.acts.drop 0) = R0) := hR0
  rw [hR0] at HQ0 HL0
  clear hR0
  gi_wp2
  obtain ⟨AV9, hAV9⟩ : ∃ v, Value.slice ad9 t.acts.length ca9 = v := ⟨_, rfl⟩
  have HAV9 := Lib.hid hAV9
  rw [hAV9]
  clear hAV9
  refine wpIn_loop (fun a' w' => ∃ (k : Nat) (l : List CmdD) (Ds : List Nat) (u8 u9 u11 u12 u21 u22 u23 u24 u25 u26 u27 u28 u29 u30 u31 u32 u33 u34 u35 u36 u37 u38 u39 u40 u41 u42 u43 u44 u45 u46 u47 u48 u49 u50 u51 u52 u53 u54 : Value), (k ≤ t.acts.length ∧ Hid (l ++ actsC vis k (t.acts.drop k) = R0) ∧ Hid (AllS w.heap.size w1.heap.size (w1.heap.size + 1) (w1.heap.size + 1 + 1) w' l) ∧ Hid (Marks w.heap.size w' Ds) ∧ Hid (KpB w.heap.size (w1.heap.size + 1 + 1) w4 w')) ∧ a' = { tmps := #[TV, WV, .pointer (some ⟨w.heap.size, 0, none⟩), .pointer (some ⟨w.heap.size + 1, 0, none⟩), .slice none 0 0, .slice va vis.length vc, .pointer (some ⟨w1.heap.size + 1, 0, none⟩), .pointer (some ⟨w1.heap.size + 1 + 1, 0, none⟩), u8, u9, undef, u11, u12, TV, WV, .slice va vis.length vc, .map (some w1.heap.size), .pointer (some ⟨w.heap.size, 9, none⟩), AV9, .int .i64 t.acts.length, .int .i64 k, u21, u22, u23, u24, u25, u26, u27, u28, u29, u30, u31, u32, u33, u34, u35, u36, u37, u38, u39, u40, u41, u42, u43, u44, u45, u46, u47, u48, u49, u50, u51, u52, u53, u54, undef, undef, undef], defers := Ds.map markAt }) (fun a' _ => t.acts.length - (intOf (a'.tmps.getD 20 undef)).toNat) ?start ?round
  case start => exact ⟨0, [], [], _, _, _, _, _, _, _, _, _, _, _, _, _, _, _, _, _, _, _, _, _, _, _, _, _, _, _, _, _, _, _, _, _, _, _, _, _, _, ⟨Nat.zero_le _, HR0.out, HS4.out, ⟨List.nodup_nil, fun _ h => absurd h (by simp)⟩, HKR.out⟩, rfl⟩
  case round =>
    clear y9 HR0
    rintro a' wr ⟨k, l, Ds, u8, u9, u11, u12, u21, u22, u23, u24, u25, u26, u27, u28, u29, u30, u31, u32, u33, u34, u35, u36, u37, u38, u39, u40, u41, u42, u43, u44, u45, u46, u47, u48, u49, u50, u51, u52, u53, u54, ⟨hk, HQ, HS, HM, HK⟩, rfl⟩
    rw [← HAV9.out]
    by_cases hlt : k < t.acts.length
    rotate_left
    · have h1 : ¬ (k : Int) < (t.acts.length : Int) := by omega
      have HF : Hid (l = R0) := by
        have h9 := HQ.out
        rwa [List.drop_eq_nil_of_le (by omega), show actsC vis k [] = [] from rfl, List.append_nil] at h9
      have HQ9 : Hid (putsC [] (nubC l) = R) := by show _ = _; rw [puts_nub, HF.out]; exact HQ0.out
      have hnl := nubC_len l
      have hl9 : l.length ≤ 2000000000 := by have := HL0.out; rwa [← HF.out] at this
      obtain ⟨v, hv, ho⟩ := HS.out.out
      have hlw := HWL.out
      have HSC := Lib.hid (sort_calls ho (nubC_nodup l) (by omega))
      rw [HQ9.out] at HSC
      have HOV := Lib.hid ho; have HV := Lib.hid hv
      have HBW := Lib.hid (HRV.out _ HK.out).2.2.1
      have c0 := hv.cell
      clear hv ho hnl hl9 HQ9 HF HQ HS HK HRV HVI HVF HQ0 HL0 HA9 HS4 HKR
      gi_wp2_with (first | ((first | (refine ⟨trivial, ?_⟩; gi_at_call 15; (with_reducible refine (callsIn_wide.2 (HSC.out)).mono ?_)) | (refine ⟨trivial, fun hh => (by simp [Fence.wide] at hh), ?_⟩; gi_at_call 15; (with_reducible refine (callsIn_wide.2 (HSC.out)).mono ?_))); rintro e w5 ⟨rfl, ho5, hg5⟩; have hv5 := HV.out.kept hg5 (fun e => by have := (own_lt HOV.out _ e.symm).1; omega); have c5 := hv5.cell))
      have hM5 := HM.out.grown hg5 (fun r e h9 => by
        obtain ⟨o, h1, h2⟩ := own_isCells HOV.out e
        rw [h1] at h9
        cases h9
        cases h2)
      refine leaves_marks (w := w) Ds _ hM5 (fun W' hKM => ?_)
      refine ⟨_, results_tmp rfl _ _ _, v, rfl, own_kept ho5 (by omega) (fun k e => ?_), ?_⟩
      · obtain ⟨o, h1, h2⟩ := own_isCells ho5 e
        exact (hKM.2 k o h1 h2).trans h1.symm
      · exact (HBW.out.grown hg5 HBW.out.size (fun k e => by have := (own_lt HOV.out _ e).1; omega)).trans hKM.1
    have h1 : (k : Int) < (t.acts.length : Int) := by omega
    have h2 : (0 : Int) ≤ (k : Int) := by omega
    obtain ⟨b9, off9, rfl, hel9⟩ := HA9.out (by omega)
    obtain ⟨xs, -, ⟨lv, rfl, hln⟩, hrg⟩ := hel9 k hlt
    obtain ⟨hsv, hbt, hbw, hBl, hIR⟩ := HRV.out _ HK.out
    have p0 := hrg _ hbw 0 _ rfl
    have p1 := hrg _ hbw 1 _ rfl
    simp only [Nat.add_zero] at p0
    have hq1 := HQ.out
    rw [List.drop_eq_getElem_cons hlt] at hq1
    change l ++ ((if t.acts[k].isMeta then [] else t.acts[k].lines.flatMap fun s => lineC k s vis) ++ actsC vis (k + 1) (t.acts.drop (k + 1))) = R0 at hq1
    generalize t.acts[k].isMeta = mt at hq1 p0
    generalize t.acts[k].lines = lines at hq1 p1 hln
    generalize hT1 : actsC vis (k + 1) (t.acts.drop (k + 1)) = T1 at hq1
    have HT1 := Lib.hid hT1; have HQ1 := Lib.hid hq1
    have hlm := hln.len
    unfold maxLen at hlm
    obtain ⟨ladr, lcap, rfl⟩ := hln.shape
    have HLNS := Lib.hid hln
    clear hrg hT1 hel9 hq1 hln hsv hbt hbw hBl hIR
    gi_upto_region 7 with fail
    obtain ⟨wa, hwa⟩ : ∃ z, wr.alloc (.cells #[.bool mt, .slice ladr lines.length lcap] 53) = z := ⟨_, rfl⟩
    rw [hwa]
    have hba : Below wr.heap.size wr wa := by rw [← hwa]; exact (Below.refl _ _).alloc (Nat.le_refl _) _
    have hxa : BoxT wa wr.heap.size [.bool mt, .slice ladr lines.length lcap] 53 := by rw [← hwa]; exact BoxT.new _ _ _
    obtain ⟨-, -, hbw, hBl, hIR⟩ := HRV.out _ HK.out
    have hKa := HK.out.trans (KpB.on hba hbw.size hBl)
    have hIa : InR wa (w1.heap.size + 1 + 1) := fun g hg => Nat.lt_of_lt_of_le (own_below hIR hBl hba g hg) hba.size
    have HXa : Hid (∀ W', KpB w.heap.size (w1.heap.size + 1 + 1) wa W' → BoxT W' wr.heap.size [.bool mt, .slice ladr lines.length lcap] 53) := fun W' h => h.box hxa (by omega) (fun e => by have := own_below hIR hBl hba _ e; omega)
    have HKa := Lib.hid hKa; have HSa := Lib.hid (HS.out.below hba); have HMa := Lib.hid (HM.out.below hba)
    have HKK := Lib.hid (KpB.refl w.heap.size (w1.heap.size + 1 + 1) wa)
    have y1 := hxa.cell 1
    simp only [List.getElem?_cons_succ, List.getElem?_cons_zero] at y1
    have HQ2 : Hid (l ++ ((if mt then [] else (lines.drop 0).flatMap fun s => lineC k s vis) ++ T1) = R0) := HQ1.out
    clear hwa hba hxa hbw hBl hIR hKa hIa p0 p1 HQ HS HM HK HQ1
    gi_wp2
    obtain ⟨LV26, hLV⟩ : ∃ v, Value.slice ladr lines.length lcap = v := ⟨_, rfl⟩
    have HLV := Lib.hid hLV
    rw [hLV]
    refine wpIn_loop (fun a' w' => ∃ (i : Nat) (l2 : List CmdD) (Ds2 : List Nat) (y11 y12 y29 y30 y31 y32 y33 y34 y35 y36 y37 y38 y39 y40 y41 y42 y43 y44 y45 y46 y47 y48 y49 y50 y51 y52 y53 : Value), (i ≤ lines.length ∧ Hid (l2 ++ ((if mt then [] else (lines.drop i).flatMap fun s => lineC k s vis) ++ T1) = R0) ∧ Hid (AllS w.heap.size w1.heap.size (w1.heap.size + 1) (w1.heap.size + 1 + 1) w' l2) ∧ Hid (Marks w.heap.size w' Ds2) ∧ Hid (KpB w.heap.size (w1.heap.size + 1 + 1) w4 w') ∧ Hid (KpB w.heap.size (w1.heap.size + 1 + 1) wa w')) ∧ a' = { tmps := #[TV, WV, .pointer (some ⟨w.heap.size, 0, none⟩), .pointer (some ⟨w.heap.size + 1, 0, none⟩), .slice none 0 0, .slice va vis.length vc, .pointer (some ⟨w1.heap.size + 1, 0, none⟩), .pointer (some ⟨w1.heap.size + 1 + 1, 0, none⟩), .int .i64 k, .pointer (some ⟨wr.heap.size, 0, none⟩), undef, y11, y12, TV, WV, .slice va vis.length vc, .map (some w1.heap.size), .pointer (some ⟨w.heap.size, 9, none⟩), .slice (some ⟨b9, off9, none⟩) t.acts.length ca9, .int .i64 t.acts.length, .int .i64 k, .bool true, .int .i64 k, .pointer (some ⟨b9, off9 + k * 2, none⟩), .agg #[.bool mt, LV26], .pointer (some ⟨wr.heap.size, 1, none⟩), LV26, .int .i64 lines.length, .int .i64 i, y29, y30, y31, y32, y33, y34, y35, y36, y37, y38, y39, y40, y41, y42, y43, y44, y45, y46, y47, y48, y49, y50, y51, y52, y53, u54, undef, undef, undef], defers := Ds2.map markAt }) (fun a' _ => lines.length - (intOf (a'.tmps.getD 28 undef)).toNat) ?start2 ?round2
    case start2 => exact ⟨0, l, Ds, _, _, _, _, _, _, _, _, _, _, _, _, _, _, _, _, _, _, _, _, _, _, _, _, _, _, _, ⟨Nat.zero_le _, HQ2.out, HSa.out, HMa.out, HKa.out, HKK.out⟩, rfl⟩
    case round2 =>
      clear y1 HQ2 HSa HMa HKa HKK
      clear hLV
      rintro a' wi ⟨i, l2, Ds2, y11, y12, y29, y30, y31, y32, y33, y34, y35, y36, y37, y38, y39, y40, y41, y42, y43, y44, y45, y46, y47, y48, y49, y50, y51, y52, y53, ⟨hi, HQ2, HS2, HM2, HK2, HKa⟩, rfl⟩
      rw [← HLV.out]
      by_cases hil : i < lines.length
      rotate_left
      · have h1 : ¬ (i : Int) < (lines.length : Int) := by omega
        have HF : Hid (l2 ++ T1 = R0) := by
          have h9 := HQ2.out
          rw [List.drop_eq_nil_of_le (by omega)] at h9
          show _ = _
          simpa using h9
        gi_wp2
        refine ⟨⟨k + 1, l2, Ds2, ?_, by omega, rfl⟩, by simp [intOf] <;> omega⟩
        first | exact ⟨by omega, by rw [HT1.out]; exact HF.out, HS2.out, HM2.out⟩ | exact ⟨by omega, by rw [HT1.out]; exact HF.out, HS2.out, HM2.out, HK2.out⟩
      have h1 : (i : Int) < (lines.length : Int) := by omega
      have h2 : (0 : Int) ≤ (i : Int) := by omega
      have hbx := HXa.out _ HKa.out
      have y0 := hbx.cell 0
      simp only [List.getElem?_cons_zero] at y0
      obtain ⟨hsv, -, hbw, hBl, hIR⟩ := HRV.out _ HK2.out
      obtain ⟨ya, yc, he, -, -, hell⟩ := RdL.elem HLNS.out hF
      cases he
      obtain ⟨b8, off8, rfl, hel8⟩ := hell (by omega)
      obtain ⟨xs8, -, ⟨sv, rfl, hsl⟩, hrg8⟩ := hel8 i hil
      have p8 := hrg8 _ hbw 0 _ rfl
      simp only [Nat.mul_one, Nat.add_zero] at p8
      have hq1 := HQ2.out
      cases mt
      rotate_left
      · have HQ3 : Hid (l2 ++ ((if true then [] else (lines.drop (i + 1)).flatMap fun s => lineC k s vis) ++ T1) = R0) := hq1
        clear hq1 hsl hrg8 hel8 hell
        gi_wp2
        refine ⟨⟨i + 1, l2, Ds2, ?_, by omega, rfl⟩, by simp [intOf] <;> omega⟩
        first | exact ⟨by omega, HQ3.out, HS2.out, HM2.out⟩ | exact ⟨by omega, HQ3.out, HS2.out, HM2.out, HK2.out, HKa.out⟩
      have hq2 : l2 ++ ((lines.drop i).flatMap (fun s => lineC k s vis) ++ T1) = R0 := hq1
      rw [flat_drop _ _ _ hil, List.append_assoc] at hq2
      generalize lines[i] = sl at hq2 hsl
      have hver : I64 (k : Int) := by unfold I64; omega
      have hft := line_fit (verb := (k : Int)) (l := sl) hver HVF.out
      have HSQ := Lib.hid (fun (nf : Nat) (W : World) (hW : Below w.heap.size w W) (bl bs bv : Nat) (hBl : (w1.heap.size + 1 + 1) < W.heap.size) => by_seq F w sl sv (k : Int) vis (.slice va vis.length vc) hF hsl hver HVF.out nf W hW (w1.heap.size + 1 + 1) bl bs bv (by have := HWL.out; omega) hBl)
      have HBY := Lib.hid (by_calls wi (k : Int) sv (.slice va vis.length vc) (hsl.shape.elim fun a h => h.elim fun c e => ⟨a, _, c, e⟩) ⟨_, _, _, rfl⟩)
      obtain ⟨ssa, ssc, rfl⟩ := hsl.shape
      generalize lineC (k : Int) sl vis = LC at HSQ hq2 hft
      generalize hT2 : ((lines.drop (i + 1)).flatMap fun s => lineC (k : Int) s vis) ++ T1 = T2 at hq2
      have HT2 := Lib.hid hT2; have HQ3 := Lib.hid hq2
      have HBw := Lib.hid hbw; have HBl := Lib.hid hBl; have HIR := Lib.hid hIR; have HSV := Lib.hid hsv
      clear hsl hrg8 hel8 hell hT2 hq1 hq2 hft hver hsv hbw hBl hIR
      gi_wp2_with (first | ((first | (refine ⟨trivial, ?_⟩; gi_at_call 14; (with_reducible refine (callsIn_wide.2 (HBY.out)).mono ?_)) | (refine ⟨trivial, fun hh => (by simp [Fence.wide] at hh), ?_⟩; gi_at_call 14; (with_reducible refine (callsIn_wide.2 (HBY.out)).mono ?_))); rintro e w5 ⟨bl, bs, bv, rfl, hx1, hx2, hx3, hg1, hg2, hg3, hb5⟩))
      have hst5 : KpB w.heap.size (w1.heap.size + 1 + 1) wi w5 := KpB.on hb5 HBw.out.size HBl.out
      have hB5 : (w1.heap.size + 1 + 1) < w5.heap.size := Nat.lt_of_lt_of_le HBl.out hb5.size
      have hI5 : InR w5 (w1.heap.size + 1 + 1) := fun g hg => Nat.lt_of_lt_of_le (own_below HIR.out HBl.out hb5 g hg) hb5.size
      have hgw : ∀ b, wi.heap.size ≤ b → ownB w5 (w1.heap.size + 1 + 1) ≠ some b := fun b hb e => by have := own_below HIR.out HBl.out hb5 b e; omega
      have hBi := HBl.out
      have hB5w := btK HBw.out hb5
      have HM5 := Lib.hid (HM2.out.below hb5)
      have hD5 : ∀ D ∈ Ds2, D < w5.heap.size := fun D hD => lt_of_some (HM5.out.2 D hD).2
      have hlo5 : w.heap.size ≤ w5.heap.size := hB5w.size
      have hbms : w1.heap.size < w5.heap.size ∧ (w1.heap.size + 1) < w5.heap.size ∧ (w1.heap.size + 1 + 1) < w5.heap.size := ⟨by omega, by omega, hB5⟩
      have HK5 := Lib.hid (HK2.out.trans hst5); have HKa5 := Lib.hid (HKa.out.trans hst5)
      have HLO : Hid (w.heap.size ≤ (w1.heap.size + 1 + 1)) := by show _ ≤ _; have := HWL.out; omega
      refine wpIn_rangeFunc_ownH (F := Fence.wide) rfl (by decide) (gf := 26) (lb := #[.pointer (some ⟨bl, 0, none⟩), .pointer (some ⟨bs, 0, none⟩), .pointer (some ⟨bv, 0, none⟩)]) rfl trivial (enters_of Try.func26 (by kernel_rfl) rfl)
        (HSQ.out _ w5 hB5w bl bs bv hB5 hx1 hx2 hx3 ⟨by omega, by omega, by omega⟩ ⟨hgw _ hg1, hgw _ hg2, hgw _ hg3⟩ hI5 (HSV.out.step hst5))
        (fun h k => KpB.trans h k) (KpB.put (w := w5) hlo5 hB5) (Below.refl _ _) (fun _ => rfl)
        (fun pre W => (AllS w.heap.size w1.heap.size (w1.heap.size + 1) (w1.heap.size + 1 + 1) W (l2 ++ pre.map (fun c => c.1)) ∧ (w1.heap.size < w5.heap.size ∧ (w1.heap.size + 1) < w5.heap.size ∧ (w1.heap.size + 1 + 1) < w5.heap.size)) ∧ (Marks w.heap.size W Ds2 ∧ KpB w.heap.size (w1.heap.size + 1 + 1) w5 W))
        (fun _ _ _ => False)
        ?hI (fun _ _ _ _ _ hs _ _ => hs) ⟨⟨by simpa using HS2.out.below hb5, hbms⟩, HM5.out, KpB.refl _ _ _⟩
        (fun c a' W => ∃ Bx, BoxT W Bx [.int .i64 c.1.verb, .int .i64 c.1.noun, .int .i64 c.1.second, .int .i64 c.1.number, .int .i64 c.1.dir] 23 ∧ Bx ≠ (w1.heap.size + 1 + 1) ∧ a' = { tmps := #[TV, WV, .pointer (some ⟨w.heap.size, 0, none⟩), .pointer (some ⟨w.heap.size + 1, 0, none⟩), .slice none 0 0, .slice va vis.length vc, .pointer (some ⟨w1.heap.size + 1, 0, none⟩), .pointer (some ⟨w1.heap.size + 1 + 1, 0, none⟩), .int .i64 k, .pointer (some ⟨wr.heap.size, 0, none⟩), undef, .slice ssa sl.length ssc, .pointer (some ⟨Bx, 0, none⟩), TV, WV, .slice va vis.length vc, .map (some w1.heap.size), .pointer (some ⟨w.heap.size, 9, none⟩), .slice (some ⟨b9, off9, none⟩) t.acts.length ca9, .int .i64 t.acts.length, .int .i64 k, .bool true, .int .i64 k, .pointer (some ⟨b9, off9 + k * 2, none⟩), .agg #[.bool false, .slice (some ⟨b8, off8, none⟩) lines.length lcap], .pointer (some ⟨wr.heap.size, 1, none⟩), .slice (some ⟨b8, off8, none⟩) lines.length lcap, .int .i64 lines.length, .int .i64 i, .bool true, .pointer (some ⟨b8, off8 + i, none⟩), .slice ssa sl.length ssc, .pointer (some ⟨wr.heap.size, 0, none⟩), .bool false, .int .i64 k, .slice ssa sl.length ssc, .slice va vis.length vc, .func (.func 26) #[] #[.pointer (some ⟨bl, 0, none⟩), .pointer (some ⟨bs, 0, none⟩), .pointer (some ⟨bv, 0, none⟩)], .agg #[.int .i64 c.1.verb, .int .i64 c.1.noun, .int .i64 c.1.second, .int .i64 c.1.number, .int .i64 c.1.dir], y39, y40, y41, y42, y43, y44, y45, y46, y47, y48, y49, y50, y51, y52, y53, u54, undef, undef, undef], defers := [] }) ?hAx ?assign ?body ?done ?stop
      case hI =>
        exact OwnFrom.and (allS_own (lf := fun p => l2 ++ p.map (fun c => c.1))) (OwnFrom.and (marks_own hD5) (kpB_own hlo5 hlo5 hB5 hB5))
      case hAx =>
        intro c a' _ W W' row h g hr
        obtain ⟨Bx, h1, h2, h3⟩ := h
        exact ⟨Bx, boxT_own (β := Unit) Bx _ _ () W W' row h1 g (fun r e => (hr r e).2), h2, h3⟩
      case assign =>
        rintro lp pre c W K ⟨⟨hS, hb0⟩, hM, hKp⟩ hK
        have hal : Below W.heap.size W (W.alloc (.cells #[.int .i64 c.1.verb, .int .i64 c.1.noun, .int .i64 c.1.second, .int .i64 c.1.number, .int .i64 c.1.dir] 23)) := (Below.refl _ _).alloc (Nat.le_refl _) _
        have hkal : KpB w.heap.size (w1.heap.size + 1 + 1) W (W.alloc (.cells #[.int .i64 c.1.verb, .int .i64 c.1.noun, .int .i64 c.1.second, .int .i64 c.1.number, .int .i64 c.1.dir] 23)) := KpB.on hal (Nat.le_trans hlo5 hKp.below.size) (Nat.lt_of_lt_of_le hB5 hKp.below.size)
        have hne9 : W.heap.size ≠ (w1.heap.size + 1 + 1) := by have := hKp.below.size; omega
        have HK := Lib.hid (hK _ _ ((KeepsOthers.alloc W (.cells #[.int .i64 c.1.verb, .int .i64 c.1.noun, .int .i64 c.1.second, .int .i64 c.1.number, .int .i64 c.1.dir] 23)).from _) hkal ⟨⟨hS.below hal, hb0⟩, hM.below hal, hKp.trans hkal⟩ ⟨W.heap.size, BoxT.new W [.int .i64 c.1.verb, .int .i64 c.1.noun, .int .i64 c.1.second, .int .i64 c.1.number, .int .i64 c.1.dir] 23, hne9, rfl⟩)
        clear hK
        simp only [CmdD.val]
        gi_wp2
        exact HK.out
      case body =>
        rintro lp pre c a' W hl hrec ⟨⟨hS, hb0⟩, hM, hKp⟩ ⟨Bx, hbx, hne9, rfl⟩ hlt9
        obtain ⟨L, hL⟩ : ∃ L, l2 ++ pre.map (fun c => c.1) = L := ⟨_, rfl⟩
        have hLn : L.length ≤ 2000000000 := by
          have h9 := congrArg List.length HQ3.out
          have h8 := HL0.out
          rw [← hL]
          simp only [List.length_append, List.length_map] at h9 ⊢
          omega
        have hL2 : l2 ++ (pre ++ [c]).map (fun c => c.1) = L ++ [c.1] := by rw [← hL]; simp
        rw [hL] at hS
        gi_upto_region 13 with fail
        refine wpIn_region_any (by kernel_rfl) ?_
        change wpAnyIn _ _ _ _ _ _ _ _ _ (World.drew _)
        obtain ⟨Wd, hWd⟩ : ∃ z, W.drew = z := ⟨_, rfl⟩
        rw [hWd]
        have hbd : Below W.heap.size W Wd := by rw [← hWd]; exact (Below.refl _ _).drew
        have hbxd := hbx.below hbd
        obtain ⟨n, m, st, Wm, Ws, v0, hcm, hlk0, hlkm, hen, hsto, hlks, hAH, hgr, ⟨es, clock, hmp⟩, hsum, hcms, hv0, hcase⟩ := (hS.below hbd).met c.1 hLn
        have hmpW : W.heap[w1.heap.size]? = some (.map es clock) := by rw [← hbd.block w1.heap.size (Nat.lt_of_lt_of_le hb0.1 hKp.below.size)]; exact hmp
        have hgW := grown_trans (grown_row (some w1.heap.size) (grown_of hbd)) hgr
        have hvW : ∃ T v, Boxed W (w1.heap.size + 1 + 1) T v := by
          obtain ⟨-, -, v, hv, -⟩ := hS
          exact ⟨_, v, hv⟩
        obtain ⟨TB, vB, hvB⟩ := hvW
        have HKs : Hid (KpB w.heap.size (w1.heap.size + 1 + 1) W Ws) := KpB.mapped (by have := HWL.out; omega) hmpW hvB hgW (Nat.le_trans hlo5 hKp.below.size)
        have HMs : Hid (Marks w.heap.size Ws Ds2) := hM.mapped hmpW hgW
        have HFs : Hid (KeepsFrom w5.heap.size W Ws) := KeepsFrom.of_grownBy hgW (fun j e => by cases e; exact hb0.1)
        have HBX : Hid (BoxT Ws Bx [.int .i64 c.1.verb, .int .i64 c.1.noun, .int .i64 c.1.second, .int .i64 c.1.number, .int .i64 c.1.dir] 23) := hbx.mapped hmpW hgW
        have HKp := Lib.hid hKp
        have hL0 : (Instr.loadAt 55 (.pointer (some ⟨w1.heap.size + 1, 0, none⟩))).run Try.prog Wd = .ok (.map (some w1.heap.size)) Wd := by go_simp
        have HL0 := Lib.hid hL0
        have HLC : Hid ((Instr.loadAt 23 (.pointer (some ⟨Bx, 0, none⟩))).run Try.prog Wd = .ok (.agg #[.int .i64 c.1.verb, .int .i64 c.1.noun, .int .i64 c.1.second, .int .i64 c.1.number, .int .i64 c.1.dir]) Wd) := run_loadAt_mid Wd _ 0 23 _ _ hbxd.range Try.underlying23 rfl (by kernel_rfl)
        have HLS : Hid ((Instr.loadAt 23 (.pointer (some ⟨Bx, 0, none⟩))).run Try.prog Ws = .ok (.agg #[.int .i64 c.1.verb, .int .i64 c.1.noun, .int .i64 c.1.second, .int .i64 c.1.number, .int .i64 c.1.dir]) Ws) := run_loadAt_mid Ws _ 0 23 _ _ HBX.out.range Try.underlying23 rfl (by kernel_rfl)
        simp only [CmdD.val] at hlk0 hlkm hen hlks
        have HK0 := Lib.hid hlk0; have HKM := Lib.hid hlkm; have HEN := Lib.hid hen; have HSTO := Lib.hid hsto; have HLKS := Lib.hid hlks; have HSUM := Lib.hid hsum; have HAH := Lib.hid hAH
        have HHS := Lib.hid hS; have HCF := Lib.hid c.2
        clear hL0 hlk0 hlkm hen hsto hlks hgr hmp hmpW hgW hvB hbxd hbd hWd hcm hbx hM hsum hKp hAH hS
        refine met_region (TM := 55) (TC := 23) (mv := (.map (some w1.heap.size))) (cv := .agg #[.int .i64 c.1.verb, .int .i64 c.1.noun, .int .i64 c.1.second, .int .i64 c.1.number, .int .i64 c.1.dir]) (sv := goInt st) (n := n) (W := Wd) (Wm := Wm) (Ws := Ws) (D := [])
          rfl (fun _ => rfl) rfl rfl (fun _ => rfl) rfl rfl (fun _ => rfl) rfl rfl (fun _ => rfl) rfl rfl (fun _ => rfl) rfl rfl (fun _ => rfl) rfl rfl (fun _ => rfl) rfl rfl rfl rfl rfl rfl (fun _ _ => rfl) (by intro c h; cases h) (fun a w h => add_run rfl h HSUM.out) (fun _ _ => rfl) (by intro c h; cases h) (fun a w h => extract_run rfl h)
          (by kernel_rfl) (by kernel_rfl) (by kernel_rfl) (by kernel_rfl) (by kernel_rfl) (by kernel_rfl) (by kernel_rfl) (by kernel_rfl) (by kernel_rfl) (by kernel_rfl) (by kernel_rfl) (by kernel_rfl) (by kernel_rfl)
          HL0.out HLC.out HK0.out HKM.out HEN.out HSTO.out ?_
        clear HL0 HLC HK0 HKM HEN HSTO
        have c0 := hv0.cell
        rcases hcase with ⟨rfl, hnew⟩ | ⟨hne, hold⟩
        · have HN := Lib.hid hnew
          clear hnew
          gi_wp2_with (first | ((with_reducible refine wpListIn_load_T 23 (.tmp 12) ?hw9 ⟨Bx, 0, none⟩ ?hx9 (.agg #[.int .i64 c.1.verb, .int .i64 c.1.noun, .int .i64 c.1.second, .int .i64 c.1.number, .int .i64 c.1.dir]) (HLS.out) ?_); (case hw9 => rfl); (case hx9 => first | rfl | (exact rfl))) | ((with_reducible refine wpListIn_lookup9 55 (.tmp 45) (.tmp 46) false (.map (some w1.heap.size)) (.agg #[.int .i64 c.1.verb, .int .i64 c.1.noun, .int .i64 c.1.second, .int .i64 c.1.number, .int .i64 c.1.dir]) (.int .i64 _) ?ho9 ?hw9 ?hm9 ?hx9 HLKS.out ?_); (case ho9 => rfl); (case hw9 => rfl); (case hm9 => first | rfl | exact rfl); (case hx9 => first | rfl | exact rfl)) | ((with_reducible refine wpListIn_app9 (.tmp 49) (.tmp 51) 41 ?ho9 ?hw9 v0 (.slice (some ⟨Ws.heap.size, 0, none⟩) 1 1) (Pushed w.heap.size w1.heap.size (w1.heap.size + 1) (w1.heap.size + 1 + 1) Ws L c.1 v0) ?hs9 ?hx9 (HAH.out.push HLO.out (by omega) HN.out HCF.out hLn _ _ hv0) ?_); (case ho9 => rfl); (case hw9 => rfl); (case hs9 => first | rfl | exact rfl); (case hx9 => first | rfl | exact rfl); rintro v' w' ⟨⟨ad', n', cap', rfl⟩, hcB, hfB, hS', hK', hO'⟩))
          have HS' := Lib.hid hS'; have HK' := Lib.hid hK'; have HO' := Lib.hid hO'
          refine ⟨HFs.out.trans (HO'.out.from _), HKs.out.trans HK'.out, ⟨?_, hb0⟩, HMs.out.others HO'.out, HKp.out.trans (HKs.out.trans HK'.out)⟩
          rw [hL2]
          exact HS'.out
        · have HN := Lib.hid hold
          have hm1 : (m == 1) = false := by simpa using hne
          clear hold
          gi_wp2_with (first | ((with_reducible refine wpListIn_load_T 23 (.tmp 12) ?hw9 ⟨Bx, 0, none⟩ ?hx9 (.agg #[.int .i64 c.1.verb, .int .i64 c.1.noun, .int .i64 c.1.second, .int .i64 c.1.number, .int .i64 c.1.dir]) (HLS.out) ?_); (case hw9 => rfl); (case hx9 => first | rfl | (exact rfl))) | ((with_reducible refine wpListIn_lookup9 55 (.tmp 45) (.tmp 46) false (.map (some w1.heap.size)) (.agg #[.int .i64 c.1.verb, .int .i64 c.1.noun, .int .i64 c.1.second, .int .i64 c.1.number, .int .i64 c.1.dir]) (.int .i64 _) ?ho9 ?hw9 ?hm9 ?hx9 HLKS.out ?_); (case ho9 => rfl); (case hw9 => rfl); (case hm9 => first | rfl | exact rfl); (case hx9 => first | rfl | exact rfl)))
          refine ⟨HFs.out, HKs.out, ⟨?_, hb0⟩, HMs.out, HKp.out.trans HKs.out⟩
          rw [hL2]
          exact HAH.out.stay HN.out
      case done =>
        rintro D ys W hD hys ⟨⟨hS, -⟩, hM, hKp⟩ hK
        have HS9 := Lib.hid hS
        rw [hys] at HS9
        have HM9 : Hid (Marks w.heap.size W (D :: Ds2)) := ⟨List.nodup_cons.2 ⟨fun h => by have := hD5 D h; omega, hM.1⟩, fun D' h => by
          rcases List.mem_cons.1 h with rfl | h
          · exact ⟨by omega, hK⟩
          · exact hM.2 D' h⟩
        have HK9 := Lib.hid (HK5.out.trans hKp); have HKa9 := Lib.hid (HKa5.out.trans hKp)
        have HQ9 : Hid ((l2 ++ LC) ++ (((lines.drop (i + 1)).flatMap fun s => lineC k s vis) ++ T1) = R0) := by show _ = _; rw [HT2.out, List.append_assoc]; exact HQ3.out
        clear hys hS hM hKp hK
        gi_wp2
        refine ⟨⟨i + 1, l2 ++ LC, D :: Ds2, ?_, by omega, rfl⟩, by simp [intOf] <;> omega⟩
        first | exact ⟨by omega, HQ9.out, HS9.out, HM9.out⟩ | exact ⟨by omega, HQ9.out, HS9.out, HM9.out, HK9.out, HKa9.out⟩
      case stop =>
        rintro D c pre W hD _ hf _
        exact hf.elim
end Go.Proofs.Ytapjglpiofpbmaa
