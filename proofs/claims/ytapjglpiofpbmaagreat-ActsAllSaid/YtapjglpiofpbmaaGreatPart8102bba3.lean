/- clewref23's has and shows. Printed by gen-ac12.py. -/
import Derived.Test.YtapjglpiofpbmaaGreatPart8b08d1c7
namespace Go.Proofs.YtapjglpiofpbmaaGreat
open Go.RowKit Go.Sort

/-- Has a thing this flag? -/
def flagF (fl : List Int) (k : Nat) (c : Int) : Bool := decide (1 ≤ c ∧ c < (fl.length : Int)) && ((atI fl c / 2 ^ k).tmod 2 == 1)
/-- Does a thing show what is in it? -/
def showF (fl : List Int) (c : Int) : Bool := !flagF fl 2 c || flagF fl 1 c
set_option maxRecDepth 100000 in
set_option maxHeartbeats 2000000 in
theorem has23_calls (F : Nat → Prop) (w : World) (x : WorldD) (cs : List Value) (hF : Inn F w) (hx : Holds.world.R F w x cs) (c : Int) (k : Nat) (hk : k < 16) : Calls Tryz.prog 30 #[.agg cs.toArray, .int .i64 c, .int .i64 k] w (Gives w (.bool (flagF x.flags k c))) := by
  have k0 : (0 : Int) ≤ (k : Int) := by omega
  have k1 : ¬ (k : Int) < 0 := by omega
  have k2 : (k : Int) < 64 := by omega
  obtain ⟨R, hR⟩ : ∃ r, flagF x.flags k c = r := ⟨_, rfl⟩
  rw [hR]
  have HR := Lib.hid hR
  clear hR
  obtain ⟨-, -, -, -, -, -, wv0, wv1, wv2, wv3, wv4, wv5, wv6, rfl, wg0, wg1, wg2, wg3, wg4, wg5, wg6⟩ := hx
  obtain ⟨wa0, wc0, rfl⟩ := wg0.shape
  have wl0 := wg0.len
  obtain ⟨wa1, wc1, rfl⟩ := wg1.shape
  have wl1 := wg1.len
  obtain ⟨wa2, wc2, rfl⟩ := wg2.shape
  have wl2 := wg2.len
  obtain ⟨wa3, wc3, rfl⟩ := wg3.shape
  have wl3 := wg3.len
  obtain ⟨wa4, wc4, rfl⟩ := wg4.shape
  have wl4 := wg4.len
  obtain ⟨wa5, wc5, rfl⟩ := wg5.shape
  have wl5 := wg5.len
  obtain ⟨wa6, wc6, rfl⟩ := wg6.shape
  have wl6 := wg6.len
  unfold maxLen at wl0 wl1 wl2 wl3 wl4 wl5 wl6
  obtain ⟨xa4, xc4, he4, -, -, hA4⟩ := RdInts.elem wg4 hF
  cases he4
  have WA4 := Lib.hid hA4
  clear hA4
  clear wg0 wg1 wg2 wg3 wg4 wg5 wg6
  obtain ⟨W1, hW1⟩ : ∃ z, w.alloc (.cells #[.slice wa0 x.globals.length wc0, .slice wa1 x.parent.length wc1, .slice wa2 x.child.length wc2, .slice wa3 x.next.length wc3, .slice wa4 x.flags.length wc4, .slice wa5 x.props.length wc5, .slice wa6 x.timers.length wc6, .int .u64 x.seed, .int .i64 x.score, .int .i64 x.turns, .int .i64 x.over, .int .i64 x.it, .int .i64 x.go] 31) = z := ⟨_, rfl⟩
  have hb1 : Below w.heap.size w W1 := by rw [← hW1]; exact (Below.refl _ _).alloc (Nat.le_refl _) _
  have hx1 : BoxT W1 w.heap.size [.slice wa0 x.globals.length wc0, .slice wa1 x.parent.length wc1, .slice wa2 x.child.length wc2, .slice wa3 x.next.length wc3, .slice wa4 x.flags.length wc4, .slice wa5 x.props.length wc5, .slice wa6 x.timers.length wc6, .int .u64 x.seed, .int .i64 x.score, .int .i64 x.turns, .int .i64 x.over, .int .i64 x.it, .int .i64 x.go] 31 := by rw [← hW1]; exact BoxT.new _ _ _
  have HW1 := Lib.hid hW1; have HBv := Lib.hid hb1; have HXv := Lib.hid hx1
  clear hW1 hb1 hx1
  go_enter Tryz.func30, Tryz.ntmps30
  go_upto_region 1 with fail
  rw [HW1.out]
  obtain ⟨WV, hWV⟩ : ∃ v, Value.agg #[.slice wa0 x.globals.length wc0, .slice wa1 x.parent.length wc1, .slice wa2 x.child.length wc2, .slice wa3 x.next.length wc3, .slice wa4 x.flags.length wc4, .slice wa5 x.props.length wc5, .slice wa6 x.timers.length wc6, .int .u64 x.seed, .int .i64 x.score, .int .i64 x.turns, .int .i64 x.over, .int .i64 x.it, .int .i64 x.go] = v := ⟨_, rfl⟩
  have HLW : Hid (∀ W, BoxT W w.heap.size [.slice wa0 x.globals.length wc0, .slice wa1 x.parent.length wc1, .slice wa2 x.child.length wc2, .slice wa3 x.next.length wc3, .slice wa4 x.flags.length wc4, .slice wa5 x.props.length wc5, .slice wa6 x.timers.length wc6, .int .u64 x.seed, .int .i64 x.score, .int .i64 x.turns, .int .i64 x.over, .int .i64 x.it, .int .i64 x.go] 31 → (Instr.loadAt 31 (.pointer (some ⟨w.heap.size, 0, none⟩))).run Tryz.prog W = .ok WV W) := fun W h => by
    rw [← hWV]
    exact run_loadAt_mid W _ 0 31 _ _ h.range Tryz.underlying31 rfl (by kernel_rfl)
  rw [hWV]
  clear HW1
  clear hWV HLW
  have wy4 := HXv.out.cell 4
  simp only [List.getElem?_cons_succ, List.getElem?_cons_zero] at wy4
  by_cases h1 : 1 ≤ c ∧ c < (x.flags.length : Int)
  · obtain ⟨j, rfl⟩ : ∃ j : Nat, c = j := ⟨c.toNat, by omega⟩
    have j0 : (1 : Int) ≤ (j : Int) := h1.1
    have j1 : (j : Int) < (x.flags.length : Int) := h1.2
    have j2 : (0 : Int) ≤ (j : Int) := by omega
    have j3 : j < x.flags.length := by omega
    obtain ⟨b, off, rfl, hel⟩ := WA4.out (by omega)
    have p0 := hel _ HBv.out j j3
    have e : Hid (R = ((x.flags[j] / 2 ^ k).tmod 2 == 1)) := by
      show R = _
      rw [← HR.out]
      unfold flagF
      rw [decide_eq_true h1, Bool.true_and, atI_get j3]
    generalize x.flags[j] = y at p0 e
    clear h1 hel HR
    go_wp2
    go_ret
    exact ⟨ret_bool e.out.symm, HBv.out⟩
  · have e : Hid (R = false) := by
      show R = _
      rw [← HR.out]
      unfold flagF
      rw [decide_eq_false h1, Bool.false_and]
    clear HR WA4
    by_cases h2 : 1 ≤ c
    · have h3 : ¬ c < (x.flags.length : Int) := by omega
      clear h1
      go_wp2
      go_ret
      exact ⟨ret_bool e.out.symm, HBv.out⟩
    · clear h1
      go_wp2
      go_ret
      exact ⟨ret_bool e.out.symm, HBv.out⟩
set_option maxRecDepth 100000 in
set_option maxHeartbeats 2000000 in
theorem shows23_calls (F : Nat → Prop) (w : World) (x : WorldD) (cs : List Value) (hF : Inn F w) (hx : Holds.world.R F w x cs) (c : Int) : Calls Tryz.prog 61 #[.agg cs.toArray, .int .i64 c] w (Gives w (.bool (showF x.flags c))) := by
  have H20 : Hid (∀ W, Below w.heap.size w W → Calls Tryz.prog 30 #[.agg cs.toArray, .int .i64 c, .int .i64 2] W (Gives W (.bool (flagF x.flags 2 c)))) := fun W h => has23_calls F W x cs (fun b hb => Nat.lt_of_lt_of_le (hF b hb) h.size) (Holds.world.keep (fun b hb => h.block b (hF b hb)) (fun _ h => h) hx) c 2 (by omega)
  have H10 : Hid (∀ W, Below w.heap.size w W → Calls Tryz.prog 30 #[.agg cs.toArray, .int .i64 c, .int .i64 1] W (Gives W (.bool (flagF x.flags 1 c)))) := fun W h => has23_calls F W x cs (fun b hb => Nat.lt_of_lt_of_le (hF b hb) h.size) (Holds.world.keep (fun b hb => h.block b (hF b hb)) (fun _ h => h) hx) c 1 (by omega)
  unfold showF
  generalize flagF x.flags 2 c = r2 at H20 ⊢
  generalize flagF x.flags 1 c = r1 at H10 ⊢
  obtain ⟨-, -, -, -, -, -, wv0, wv1, wv2, wv3, wv4, wv5, wv6, rfl, wg0, wg1, wg2, wg3, wg4, wg5, wg6⟩ := hx
  obtain ⟨wa0, wc0, rfl⟩ := wg0.shape
  have wl0 := wg0.len
  obtain ⟨wa1, wc1, rfl⟩ := wg1.shape
  have wl1 := wg1.len
  obtain ⟨wa2, wc2, rfl⟩ := wg2.shape
  have wl2 := wg2.len
  obtain ⟨wa3, wc3, rfl⟩ := wg3.shape
  have wl3 := wg3.len
  obtain ⟨wa4, wc4, rfl⟩ := wg4.shape
  have wl4 := wg4.len
  obtain ⟨wa5, wc5, rfl⟩ := wg5.shape
  have wl5 := wg5.len
  obtain ⟨wa6, wc6, rfl⟩ := wg6.shape
  have wl6 := wg6.len
  unfold maxLen at wl0 wl1 wl2 wl3 wl4 wl5 wl6
  clear wg0 wg1 wg2 wg3 wg4 wg5 wg6
  obtain ⟨W1, hW1⟩ : ∃ z, w.alloc (.cells #[.slice wa0 x.globals.length wc0, .slice wa1 x.parent.length wc1, .slice wa2 x.child.length wc2, .slice wa3 x.next.length wc3, .slice wa4 x.flags.length wc4, .slice wa5 x.props.length wc5, .slice wa6 x.timers.length wc6, .int .u64 x.seed, .int .i64 x.score, .int .i64 x.turns, .int .i64 x.over, .int .i64 x.it, .int .i64 x.go] 31) = z := ⟨_, rfl⟩
  have hb1 : Below w.heap.size w W1 := by rw [← hW1]; exact (Below.refl _ _).alloc (Nat.le_refl _) _
  have hx1 : BoxT W1 w.heap.size [.slice wa0 x.globals.length wc0, .slice wa1 x.parent.length wc1, .slice wa2 x.child.length wc2, .slice wa3 x.next.length wc3, .slice wa4 x.flags.length wc4, .slice wa5 x.props.length wc5, .slice wa6 x.timers.length wc6, .int .u64 x.seed, .int .i64 x.score, .int .i64 x.turns, .int .i64 x.over, .int .i64 x.it, .int .i64 x.go] 31 := by rw [← hW1]; exact BoxT.new _ _ _
  have HW1 := Lib.hid hW1; have HBv := Lib.hid hb1; have HXv := Lib.hid hx1
  clear hW1 hb1 hx1
  go_enter Tryz.func61, Tryz.ntmps61
  go_upto_region 1 with fail
  rw [HW1.out]
  obtain ⟨WV, hWV⟩ : ∃ v, Value.agg #[.slice wa0 x.globals.length wc0, .slice wa1 x.parent.length wc1, .slice wa2 x.child.length wc2, .slice wa3 x.next.length wc3, .slice wa4 x.flags.length wc4, .slice wa5 x.props.length wc5, .slice wa6 x.timers.length wc6, .int .u64 x.seed, .int .i64 x.score, .int .i64 x.turns, .int .i64 x.over, .int .i64 x.it, .int .i64 x.go] = v := ⟨_, rfl⟩
  have HLW : Hid (∀ W, BoxT W w.heap.size [.slice wa0 x.globals.length wc0, .slice wa1 x.parent.length wc1, .slice wa2 x.child.length wc2, .slice wa3 x.next.length wc3, .slice wa4 x.flags.length wc4, .slice wa5 x.props.length wc5, .slice wa6 x.timers.length wc6, .int .u64 x.seed, .int .i64 x.score, .int .i64 x.turns, .int .i64 x.over, .int .i64 x.it, .int .i64 x.go] 31 → (Instr.loadAt 31 (.pointer (some ⟨w.heap.size, 0, none⟩))).run Tryz.prog W = .ok WV W) := fun W h => by
    rw [← hWV]
    exact run_loadAt_mid W _ 0 31 _ _ h.range Tryz.underlying31 rfl (by kernel_rfl)
  rw [hWV]
  clear HW1
  have H2 := Lib.hid H20.out; have H1 := Lib.hid H10.out
  rw [hWV] at H2 H1
  clear hWV H20 H10
  cases r2
  all_goals
    go_wp2_with (first | ((with_reducible refine wpList_load_T 31 (.tmp 2) ?hw9 ⟨w.heap.size, 0, none⟩ ?hx9 WV (HLW.out _ HXv.out) ?_); (case hw9 => rfl); (case hx9 => first | rfl | (exact rfl))) | (go_at_call 30; (first | (with_reducible refine (H2.out _ HBv.out).mono ?_) | (with_reducible refine (H1.out _ HBv.out).mono ?_)); rintro e w1 ⟨rfl, hb1⟩; have HXv := Lib.hid (HXv.out.below hb1); have HBv := Lib.hid (btK HBv.out hb1)))
    go_ret
    exact ⟨ret_bool (by simp), HBv.out⟩
end Go.Proofs.YtapjglpiofpbmaaGreat
/- What is reached from a thing, in plain words: each thing once; no deeper than there are things; the command row of all that can be done. No program in sight. -/
namespace Go.Proofs.YtapjglpiofpbmaaGreat
open Go.RowKit

section
variable {w : WorldD} {hid shw : Int → Bool}

/-- One who goes up so many steps, things all the way, comes to x. -/
def Ups (w : WorldD) (k : Nat) (y x : Int) : Prop := (∀ i, i < k → IsTh w.n (upI w.parent i y)) ∧ upI w.parent k y = x
theorem Ups.one (hw : Nest w) {c x : Int} (h : c ∈ w.kids x) : Ups w 1 c x := by
  have hc := kids_is h
  refine ⟨fun i hi => ?_, ?_⟩
  · obtain rfl : i = 0 := by omega
    exact hc.2
  · exact hw.up x hc.1 c h
theorem Ups.add {j k : Nat} {z y x : Int} (h : Ups w j z y) (h2 : Ups w k y x) : Ups w (j + k) z x := by
  refine ⟨fun i hi => ?_, ?_⟩
  · by_cases hij : i < j
    · exact h.1 i hij
    · have := h2.1 (i - j) (by omega)
      rwa [← h.2, ← upI_add, show i - j + j = i by omega] at this
  · rw [Nat.add_comm, upI_add, h.2]; exact h2.2
/-- No thing is above itself. -/
theorem Ups.irr (hw : Nest w) {k : Nat} {x : Int} (hk : 0 < k) (h : Ups w k x x) : False := by
  have hall : ∀ i, IsTh w.n (upI w.parent i x) := by
    intro i
    induction i using Nat.strongRecOn with
    | ind i ih =>
      by_cases hik : i < k
      · exact h.1 i hik
      · have := ih (i - k) (by omega)
        rwa [show upI w.parent (i - k) x = upI w.parent i x by
          have e := upI_add w.parent (i - k) k x
          rw [h.2, show i - k + k = i by omega] at e
          exact e.symm] at this
  have := up_few hw x w.n (fun i _ => hall i)
  omega
theorem Ups.sub {j k : Nat} {y a b : Int} (h : Ups w j y a) (h2 : Ups w k y b) (hjk : j ≤ k) : Ups w (k - j) a b := by
  refine ⟨fun i hi => ?_, ?_⟩
  · have := h2.1 (i + j) (by omega)
    rwa [upI_add, h.2] at this
  · have := h2.2
    rwa [show k = k - j + j by omega, upI_add, h.2] at this
/-- What is reached from a thing is below it. -/
theorem reach_ups (hw : Nest w) : ∀ (d : Nat) (x y : Int), y ∈ reachF w.kids hid shw d x → ∃ k, Ups w (k + 1) y x
  | 0, _, _, h => by simp [reachF] at h
  | d + 1, x, y, h => by
    unfold reachF at h
    obtain ⟨c, hc, hy⟩ := List.mem_flatMap.1 h
    split at hy
    · simp at hy
    · rcases List.mem_cons.1 hy with rfl | hy
      · exact ⟨0, Ups.one hw hc⟩
      · split at hy
        · obtain ⟨k, hk⟩ := reach_ups hw d c y hy
          exact ⟨k + 1, hk.add (Ups.one hw hc)⟩
        · simp at hy
theorem reach_is : ∀ (d : Nat) (x y : Int), y ∈ reachF w.kids hid shw d x → IsTh w.n y
  | 0, _, _, h => by simp [reachF] at h
  | d + 1, x, y, h => by
    unfold reachF at h
    obtain ⟨c, hc, hy⟩ := List.mem_flatMap.1 h
    split at hy
    · simp at hy
    · rcases List.mem_cons.1 hy with rfl | hy
      · exact (kids_is hc).2
      · split at hy
        · exact reach_is d c y hy
        · simp at hy
/-- Each thing is reached once. -/
theorem reach_once (hw : NestK w) : ∀ (d : Nat) (x : Int), (reachF w.kids hid shw d x).Nodup
  | 0, _ => by simp [reachF]
  | d + 1, x => by
    unfold reachF
    have hpart : ∀ c, c ∈ w.kids x → ∀ y, y ∈ (if hid c then [] else c :: (if shw c then reachF w.kids hid shw d c else [])) → ∃ k, Ups w k y c := by
      intro c _ y hy
      split at hy
      · simp at hy
      · rcases List.mem_cons.1 hy with rfl | hy
        · exact ⟨0, fun i hi => absurd hi (by omega), rfl⟩
        · split at hy
          · obtain ⟨k, hk⟩ := reach_ups hw.1 d c y hy
            exact ⟨k + 1, hk⟩
          · simp at hy
    rw [List.nodup_iff_pairwise_ne, List.flatMap_def, List.pairwise_flatten]
    refine ⟨fun l hl => ?_, ?_⟩
    · obtain ⟨c, hc, rfl⟩ := List.mem_map.1 hl
      rw [← List.nodup_iff_pairwise_ne]
      split
      · simp
      · rw [List.nodup_cons]
        refine ⟨fun h => ?_, ?_⟩
        · split at h
          · obtain ⟨k, hk⟩ := reach_ups hw.1 d c c h
            exact Ups.irr hw.1 (by omega) hk
          · simp at h
        · split
          · exact reach_once hw d c
          · simp
    · rw [List.pairwise_map]
      by_cases hx : IsTh w.n x
      · refine List.Pairwise.imp_of_mem ?_ (List.nodup_iff_pairwise_ne.1 (hw.2 x hx))
        intro c c' hc hc' hne y hy z hz e
        subst e
        obtain ⟨j, hj⟩ := hpart c hc y hy
        obtain ⟨k, hk⟩ := hpart c' hc' y hz
        have key : ∀ {j k : Nat} {c c' : Int}, c ∈ w.kids x → c' ∈ w.kids x → c ≠ c' → Ups w j y c → Ups w k y c' → j ≤ k → False := by
          intro j k c c' hc hc' hne hj hk hjk
          have h := hj.sub hk hjk
          by_cases e : j = k
          · subst e
            rw [Nat.sub_self] at h
            exact hne h.2
          · have h1 := (Ups.one hw.1 hc).sub (h.add (Ups.one hw.1 hc')) (by omega)
            exact Ups.irr hw.1 (by omega) h1
        rcases Nat.le_total j k with hjk | hjk
        · exact key hc hc' hne hj hk hjk
        · exact key hc' hc (Ne.symm hne) hk hj hjk
      · rw [show w.kids x = [] by unfold WorldD.kids; rw [if_neg hx]]
        exact List.Pairwise.nil
theorem reach_few (hw : NestK w) (d : Nat) (x : Int) : (reachF w.kids hid shw d x).length + 1 ≤ w.n := by
  have := nodup_few (w.n - 1) _ (reach_once (hid := hid) (shw := shw) hw d x) (fun y hy => by
    have := reach_is d x y hy
    unfold IsTh at this
    omega)
  have := hw.1.pos
  omega
/-- Deeper than there are things nothing more is reached. -/
theorem reach_more : ∀ (d : Nat) (x : Int), Deep w d x → ∀ m, reachF w.kids hid shw (d + 1 + m) x = reachF w.kids hid shw (d + 1) x
  | 0, x, h, m => by
    have h' : w.kids x = [] := h
    rw [show 0 + 1 + m = m + 1 by omega]
    simp [reachF, h']
  | d + 1, x, h, m => by
    rw [show d + 1 + 1 + m = (d + 1 + m) + 1 by omega]
    show (w.kids x).flatMap _ = (w.kids x).flatMap _
    rw [List.flatMap_def, List.flatMap_def]
    congr 1
    refine List.map_congr_left fun c hc => ?_
    rw [reach_more d c (h c hc) m]
theorem reach_n (_hw : Nest w) (x : Int) (d : Nat) (h : Deep w d x) (hd : d + 1 ≤ w.n) : reachF w.kids hid shw w.n x = reachF w.kids hid shw (d + 1) x := by
  have := reach_more (hid := hid) (shw := shw) d x h (w.n - (d + 1))
  rwa [show d + 1 + (w.n - (d + 1)) = w.n by omega] at this
end

/-- Into a rising row a command is put at its place, if it is not there. -/
def putC (l : List CmdD) (c : CmdD) : List CmdD :=
  if c ∈ l then l else l.filter (fun x => decide (x.lt c)) ++ c :: l.filter (fun x => decide (c.lt x))
theorem putC_mem {l : List CmdD} {c x : CmdD} : x ∈ putC l c ↔ x ∈ l ∨ x = c := by
  unfold putC
  split
  · rename_i h
    constructor
    · exact Or.inl
    · rintro (h1 | rfl)
      · exact h1
      · exact h
  · rename_i h
    simp only [List.mem_append, List.mem_cons, List.mem_filter, decide_eq_true_eq]
    constructor
    · rintro (⟨h1, _⟩ | rfl | ⟨h1, _⟩)
      · exact Or.inl h1
      · exact Or.inr rfl
      · exact Or.inl h1
    · rintro (h1 | rfl)
      · have hne : x ≠ c := fun e => h (e ▸ h1)
        rcases CmdD.lt_total hne with h2 | h2
        · exact Or.inl ⟨h1, h2⟩
        · exact Or.inr (Or.inr ⟨h1, h2⟩)
      · exact Or.inr (Or.inl rfl)
theorem putC_rises {l : List CmdD} {c : CmdD} (h : l.Pairwise CmdD.lt) : (putC l c).Pairwise CmdD.lt := by
  unfold putC
  split
  · exact h
  · rw [List.pairwise_append, List.pairwise_cons]
    refine ⟨h.filter _, ⟨fun x hx => ?_, h.filter _⟩, fun x hx y hy => ?_⟩
    · exact of_decide_eq_true (List.mem_filter.1 hx).2
    · have h1 : x.lt c := of_decide_eq_true (List.mem_filter.1 hx).2
      rcases List.mem_cons.1 hy with rfl | hy
      · exact h1
      · exact CmdD.lt_trans h1 (of_decide_eq_true (List.mem_filter.1 hy).2)
theorem putC_len (l : List CmdD) (c : CmdD) (_h : l.Pairwise CmdD.lt) : (putC l c).length ≤ l.length + 1 := by
  unfold putC
  split
  · omega
  · rw [List.length_append, List.length_cons]
    have : ∀ m : List CmdD, (m.filter (fun x => decide (x.lt c))).length + (m.filter (fun x => decide (c.lt x))).length ≤ m.length := by
      intro m
      induction m with
      | nil => simp
      | cons a m ih =>
        by_cases h1 : a.lt c
        · have h2 : ¬ c.lt a := CmdD.lt_asymm h1
          simp [h1, h2]; omega
        · by_cases h2 : c.lt a <;> simp [h1, h2] <;> omega
    have := this l
    omega
/-- All that can be done, rising. -/
def putsC (l cs : List CmdD) : List CmdD := cs.foldl putC l
theorem putsC_mem {cs : List CmdD} : ∀ {l : List CmdD} {x : CmdD}, x ∈ putsC l cs ↔ x ∈ l ∨ x ∈ cs := by
  induction cs with
  | nil => simp [putsC]
  | cons c cs ih =>
    intro l x
    show x ∈ putsC (putC l c) cs ↔ _
    rw [ih, putC_mem, List.mem_cons, or_assoc]
theorem putsC_rises {cs : List CmdD} : ∀ {l : List CmdD}, l.Pairwise CmdD.lt → (putsC l cs).Pairwise CmdD.lt := by
  induction cs with
  | nil => exact fun h => h
  | cons c cs ih => exact fun h => ih (putC_rises h)
theorem putsC_len {cs : List CmdD} : ∀ {l : List CmdD}, l.Pairwise CmdD.lt → (putsC l cs).length ≤ l.length + cs.length := by
  induction cs with
  | nil => simp [putsC]
  | cons c cs ih =>
    intro l h
    have h1 := ih (putC_rises (c := c) h)
    have h2 := putC_len l c h
    show (putsC (putC l c) cs).length ≤ _
    rw [List.length_cons]
    omega
theorem putsC_append (l cs ds : List CmdD) : putsC l (cs ++ ds) = putsC (putsC l cs) ds := List.foldl_append
theorem putsC_snoc (l cs : List CmdD) (c : CmdD) : putsC l (cs ++ [c]) = putC (putsC l cs) c := by rw [putsC_append]; rfl
/-- Where it is put, said by the place: so many first, then it, then the others. -/
theorem putC_at {l : List CmdD} {c : CmdD} (h : l.Pairwise CmdD.lt) (i : Nat) (hi : i ≤ l.length) (hlo : ∀ j (hj : j < i), ¬ c.lt (l[j]'(by omega))) (hhi : ∀ j (hj : j < l.length), i ≤ j → c.lt l[j]) :
    putC l c = if ∃ h0 : 0 < i, l[i - 1]'(by omega) = c then l else l.take i ++ c :: l.drop i := by
  by_cases h1 : ∃ h0 : 0 < i, l[i - 1]'(by omega) = c
  · rw [if_pos h1]
    obtain ⟨h0, e⟩ := h1
    unfold putC
    rw [if_pos (e ▸ List.getElem_mem _)]
  · rw [if_neg h1]
    have hlt : ∀ j (hj : j < i), (l[j]'(by omega)).lt c := by
      intro j hj
      have hne : l[j]'(by omega) ≠ c := by
        intro e
        have hji : j ≠ i - 1 := fun e2 => h1 ⟨by omega, by simpa only [← e2] using e⟩
        have := List.pairwise_iff_getElem.1 h j (i - 1) (by omega) (by omega) (by omega)
        rw [e] at this
        exact hlo (i - 1) (by omega) this
      rcases CmdD.lt_total hne with h2 | h2
      · exact h2
      · exact absurd h2 (hlo j hj)
    have hn : c ∉ l := by
      intro hc
      obtain ⟨j, hj, e⟩ := List.getElem_of_mem hc
      by_cases hji : j < i
      · have := hlt j hji
        rw [e] at this
        exact CmdD.lt_irrefl _ this
      · have := hhi j hj (by omega)
        rw [e] at this
        exact CmdD.lt_irrefl _ this
    unfold putC
    rw [if_neg hn]
    have e1 : ∀ x ∈ l.take i, x.lt c := fun x hx => by
      obtain ⟨j, hj, e⟩ := List.getElem_of_mem hx
      rw [List.length_take] at hj
      rw [List.getElem_take] at e
      rw [← e]
      exact hlt j (by omega)
    have e2 : ∀ x ∈ l.drop i, c.lt x := fun x hx => by
      obtain ⟨j, hj, e⟩ := List.getElem_of_mem hx
      rw [List.length_drop] at hj
      rw [List.getElem_drop] at e
      rw [← e]
      exact hhi (i + j) (by omega) (by omega)
    have f1 : l.filter (fun x => decide (x.lt c)) = l.take i := by
      conv => lhs; rw [← List.take_append_drop i l]
      rw [List.filter_append, List.filter_eq_self.2 (fun x hx => decide_eq_true (e1 x hx)), List.filter_eq_nil_iff.2 (fun x hx => by have := CmdD.lt_asymm (e2 x hx); simpa using this), List.append_nil]
    have f2 : l.filter (fun x => decide (c.lt x)) = l.drop i := by
      conv => lhs; rw [← List.take_append_drop i l]
      rw [List.filter_append, List.filter_eq_nil_iff.2 (fun x hx => by have := CmdD.lt_asymm (e1 x hx); simpa using this), List.filter_eq_self.2 (fun x hx => decide_eq_true (e2 x hx)), List.nil_append]
    rw [f1, f2]
/-- What the rows of the commands, each once, sorted, are: rising rows of the same commands are one. -/
theorem sorted_puts {l cs : List CmdD} (hl : l.Pairwise CmdD.lt) (hm : ∀ x, x ∈ l ↔ x ∈ cs) : l = putsC [] cs :=
  rows_one hl (putsC_rises List.Pairwise.nil) fun x => by rw [hm, putsC_mem]; simp
end Go.Proofs.YtapjglpiofpbmaaGreat
/- clewref23's reached and Carried. Printed by gen-ac13.py. -/
namespace Go.Proofs.YtapjglpiofpbmaaGreat
open Go.RowKit Go.Sort

/-- What is reached from a thing by way of one in it. -/
def partD (x : WorldD) : Nat → Int → List Int
  | 0, _ => []
  | d + 1, c => if flagF x.flags 3 c then [] else c :: (if showF x.flags c then reachF x.kids (flagF x.flags 3) (showF x.flags) d c else [])
theorem reach_part (x : WorldD) (d : Nat) (c : Int) : reachF x.kids (flagF x.flags 3) (showF x.flags) d c = (x.kids c).flatMap (partD x d) := by
  cases d with
  | zero =>
    show [] = _
    rw [List.flatMap_def, show (x.kids c).map (partD x 0) = (x.kids c).map (fun _ => []) from rfl]
    generalize x.kids c = l
    induction l with
    | nil => rfl
    | cons a l ih => simp
  | succ d => rfl
theorem flat_drop {α β : Type} (f : α → List β) (l : List α) (k : Nat) (h : k < l.length) : (l.drop k).flatMap f = f l[k] ++ (l.drop (k + 1)).flatMap f := by
  rw [List.drop_eq_getElem_cons h, List.flatMap_cons]
theorem flat_nil {α β : Type} (l : List α) (f : α → List β) (h : ∀ a, f a = []) : l.flatMap f = [] := by
  rw [List.flatMap_eq_nil_iff]; exact fun a _ => h a

/-- An append in a region that draws, where its run is there in some world. -/
theorem step_run {P : Program} {ops : Array Oper} {o : Oper} {a : Act} {w : World} {K : Act → World → Prop} {Q : Exit → Act → World → Prop} {E : Prop}
    (hg : o.guard = none) (s x : Operand) (t : TypeId) (hop : o.op = Op.call { callee := Callee.builtin Builtin.append, args := #[s, x], argTypes := #[t, t] })
    (v1 v2 v' : Value) (w' : World) (hs : a.eval s = v1) (hx : a.eval x = v2) (hrun : (Builtin.append_ #[t, t] o.type #[v1, v2]).run P w = .ok v' w') (hK : K (a.put o.dst v') w') :
    if Region.wanted o (yielded ops a.tmps) = true then Oper.wp P o a w K Q else E := by
  have hw : Region.wanted o (yielded ops a.tmps) = true := by simp [Region.wanted, hg]
  rw [if_pos hw]
  unfold Oper.wp
  simp [execOp, hop, resolve, invoke, builtin, hs, hx, hrun, Result.andThen]
  exact hK
theorem step_app {P : Program} {ops : Array Oper} {o : Oper} {a : Act} {w : World} {K : Act → World → Prop} {Q : Exit → Act → World → Prop} {E : Prop}
    (hg : o.guard = none) (s x : Operand) (t : TypeId) (hop : o.op = Op.call { callee := Callee.builtin Builtin.append, args := #[s, x], argTypes := #[t, t] })
    (v1 v2 : Value) (R : Value → World → Prop) (hs : a.eval s = v1) (hx : a.eval x = v2) (hrun : ∃ v' w', (Builtin.append_ #[t, t] o.type #[v1, v2]).run P w = .ok v' w' ∧ R v' w') (hK : ∀ v' w', R v' w' → K (a.put o.dst v') w') :
    if Region.wanted o (yielded ops a.tmps) = true then Oper.wp P o a w K Q else E := by
  obtain ⟨v', w', hr, hR⟩ := hrun
  exact step_run hg s x t hop v1 v2 v' w' hs hx hr (hK v' w' hR)
theorem tkStartB {P : Program} {ops : Array Oper} {Q : Exit → Act → World → Prop} {S : World → Prop} {js : List Nat} {id : Nat} {a : Act} {w : World} (hok : okAll .any ops js = true) (hf : okFree .any ops js = true) (hm : P.follows .mixedOrders = true) (hS : S w.drew)
    (h : ∀ v, Below w.heap.size w v → S v → okAll .any ops js = true → okFree .any ops js = true → wpAnyH P .any ops Q S ops.size (lis ops.size 0) a v) : (Code.region id ops true).wp P Q a w :=
  wp_region_held_drew hm hS (fun h' => h _ (Below.refl _ _).drew h' hok hf)
theorem int_one (F : Nat → Prop) (w : World) (x : Int) (cs : List Value) (h : Holds.int.R F w x cs) : ∀ u ∈ cs, u.oneCell' = true := by
  obtain ⟨-, rfl⟩ := h
  simp [Value.oneCell']
/-- Numbers behind numbers: the run of append. -/
theorem ints_app {lo s : Nat} {W : World} {acc zs : List Int} {u v : Value} (ho : OwnI lo W acc u) (hz : OwnI s W zs v) (hu : ∀ g, u.ownBlock = some g → g < s) (hls : lo ≤ s) (hlo : lo ≤ W.heap.size) (hl : acc.length + zs.length ≤ 1000000) (ty : TypeId) :
    ∃ v' w', (Builtin.append_ #[23, 23] ty #[u, v]).run Tryz.prog W = .ok v' w' ∧ OwnI lo w' (acc ++ zs) v' ∧ Below lo W w' := by
  obtain ⟨i0, hi, hz0, hz1, hz2⟩ := info_parts Tryz.infoInt
  obtain ⟨ys, hys⟩ := ho.owns
  have hin := ownsRow_in hys
  obtain ⟨a, cap, rfl⟩ := hz.shape
  obtain ⟨ns, -, hnl, hn1, hnR, hnc⟩ := RdL.news (by decide) hz.rdl (int_one _ _)
  rcases Nat.eq_zero_or_pos zs.length with h0 | h0
  · have hzn : zs = [] := List.eq_nil_of_length_eq_zero h0
    subst hzn
    rcases hz.proper with e | ⟨b, off, n, c, e⟩
    · cases e
      exact ⟨u, W, run_append_own_zero (P := Tryz.prog) (w := W) lo 23 ty 3 i0 1 0 Tryz.underlying23 hi u _ ys hys, by simpa using ho, Below.refl _ _⟩
    · cases e
      obtain rfl : ns = [] := List.eq_nil_of_length_eq_zero (by simpa using hnl)
      obtain ⟨v', w', h1, h2, h3, -, h4⟩ := run_append_own_at (P := Tryz.prog) W lo 23 ty 3 i0 _ 1 8 Tryz.underlying23 hi hz0 hz1 hz2 rfl (by decide) u _ ys hys ⟨b, off, none⟩ 0 cap [] rfl (fun j v h => by simp at h) (fun u h => by simp at h) (by unfold maxLen; simp at hl; omega) (by simp at hl; omega) hlo
      refine ⟨v', w', h1, ?_, (Below.refl lo W).grown h3 hlo (fun k e => (hin k e).1)⟩
      exact OwnR.many (zs := []) (ns := []) (G2 := fun _ => False) ho hys (by simpa using h2) rfl h3 h4 (fun _ h => h.elim) (fun i h => absurd h (by simp))
  · obtain ⟨p, rfl, hpF, hpc⟩ := hnc h0
    obtain ⟨v', w', h1, h2, h3, -, h4⟩ := run_append_own_at (P := Tryz.prog) W lo 23 ty 3 i0 _ 1 8 Tryz.underlying23 hi hz0 hz1 hz2 rfl (by decide) u _ ys hys p zs.length cap ns (by simpa using hnl) (hpc W rfl) hn1 (by unfold maxLen; omega) (by omega) hlo
    refine ⟨v', w', h1, ?_, (Below.refl lo W).grown h3 hlo (fun k e => (hin k e).1)⟩
    exact OwnR.many (zs := zs) (ns := ns) (G2 := NewB s W.heap.size) ho hys h2 (by simpa using hnl) h3 h4 (fun b hb => ⟨Nat.le_trans hls hb.1, hb.2, fun e => by have := hu b e; have := hb.1; omega⟩) hnR
theorem wpList_app {P : Program} {ops : Array Oper} {rest : List Oper} {o : Oper} {a : Act} {w : World} {Q : Exit → Act → World → Prop} (hgd : o.guard = none) (s x : Operand) (t : TypeId)
    (ho : o.op = Op.call { callee := Callee.builtin Builtin.append, args := #[s, x], argTypes := #[t, t] }) (v1 v2 : Value) (R : Value → World → Prop) (hs : a.eval s = v1) (hx : a.eval x = v2)
    (hrun : ∃ v' w', (Builtin.append_ #[t, t] o.type #[v1, v2]).run P w = .ok v' w' ∧ R v' w') (h : ∀ v' w', R v' w' → wpList P ops Q rest (a.put o.dst v') w') : wpList P ops Q (o :: rest) a w := by
  obtain ⟨v', w', hr, hR⟩ := hrun
  refine wpList_plain hgd fun K hK => ?_
  unfold Oper.wp
  simp [execOp, ho, resolve, invoke, builtin, hs, hx, hr, Result.andThen]
  exact hK _ _ (h v' w' hR)
/-- One number behind numbers: the run of append. -/
theorem ints_push {lo : Nat} {W : World} {acc : List Int} {u : Value} {c : Int} (ho : OwnI lo W acc u) (hc : I64 c) (hlo : lo ≤ W.heap.size) (hl : acc.length ≤ 1000000) (T ty : TypeId) :
    ∃ v' w', (Builtin.append_ #[23, 23] ty #[u, .slice (some ⟨W.heap.size, 0, none⟩) 1 1]).run Tryz.prog (W.alloc (.cells #[.int .i64 c] T)) = .ok v' w' ∧ OwnI lo w' (acc ++ [c]) v' ∧ Below lo W w' := by
  obtain ⟨i0, hi, hz0, hz1, hz2⟩ := info_parts Tryz.infoInt
  obtain ⟨ys, hys⟩ := ho.owns
  have hin := ownsRow_in hys
  have hal : Below W.heap.size W (W.alloc (.cells #[.int .i64 c] T)) := (Below.refl _ W).alloc (Nat.le_refl _) _
  obtain ⟨v', w', h1, h2, h3, -, h4⟩ := run_append_own_at (P := Tryz.prog) (W.alloc (.cells #[.int .i64 c] T)) lo 23 ty 3 i0 _ 1 8 Tryz.underlying23 hi hz0 hz1 hz2 rfl (by decide) u _ ys (hys.alloc _) ⟨W.heap.size, 0, none⟩ 1 1 [.int .i64 c] rfl (cell_new1 W _ _) (by simp [Value.oneCell']) (by unfold maxLen; omega) (by omega) (by simp; omega)
  refine ⟨v', w', h1, ?_, (hal.mono hlo).grown h3 (by simp; omega) (fun k e => (hin k e).1)⟩
  exact OwnR.push (cs := [.int .i64 c]) (G2 := fun _ => False) (ho.below hal) (hys.alloc _) h2 rfl h3 h4 (fun _ h => h.elim) ⟨hc, rfl⟩
/-- What clewref23.reached gives, so deep. -/
def RchC (d : Nat) : Prop := ∀ (F : Nat → Prop) (w : World) (x : WorldD) (cs : List Value) (c : Int), Inn F w → Holds.world.R F w x cs → NestK x → x.parent.length ≤ 128 → Calls Tryz.prog 28 #[.agg cs.toArray, .int .i64 c, .int .i64 (d : Nat)] w (fun e w' => ∃ v, e = .returned v ∧ OwnI (w.heap.size + 1) w' (reachF x.kids (flagF x.flags 3) (showF x.flags) d c) v ∧ Below w.heap.size w w')
set_option maxRecDepth 100000 in
set_option maxHeartbeats 8000000 in
theorem reached23_step (d : Nat) (hd : d ≤ 1000) (ih : ∀ d', d' + 1 = d → RchC d') : RchC d := by
  intro F w x cs c hF hx hn h128
  have HK0 := Lib.hid (fun (W : World) (h : Below w.heap.size w W) => kids20_calls F W x cs (fun b hb => Nat.lt_of_lt_of_le (hF b hb) h.size) (Holds.world.keep (fun b hb => h.block b (hF b hb)) (fun _ h => h) hx) (by omega) c)
  have HH0 : Hid (∀ W, Below w.heap.size w W → ∀ m : Int, Calls Tryz.prog 30 #[.agg cs.toArray, .int .i64 m, .int .i64 3] W (Gives W (.bool (flagF x.flags 3 m)))) := fun W h m => has23_calls F W x cs (fun b hb => Nat.lt_of_lt_of_le (hF b hb) h.size) (Holds.world.keep (fun b hb => h.block b (hF b hb)) (fun _ h => h) hx) m 3 (by omega)
  have HS0 := Lib.hid (fun (W : World) (h : Below w.heap.size w W) (m : Int) => shows23_calls F W x cs (fun b hb => Nat.lt_of_lt_of_le (hF b hb) h.size) (Holds.world.keep (fun b hb => h.block b (hF b hb)) (fun _ h => h) hx) m)
  have HR0 : Hid (∀ d', d' + 1 = d → ∀ (W : World) (h : Below w.heap.size w W) (m : Int) (q : Value), q = .int .i64 (d' : Nat) → Calls Tryz.prog 28 #[.agg cs.toArray, .int .i64 m, q] W (fun e w' => ∃ v, e = .returned v ∧ OwnI (W.heap.size + 1) w' (reachF x.kids (flagF x.flags 3) (showF x.flags) d' m) v ∧ Below W.heap.size W w')) := fun d' e W h m q hq => hq ▸ ih d' e F W x cs m (fun b hb => Nat.lt_of_lt_of_le (hF b hb) h.size) (Holds.world.keep (fun b hb => h.block b (hF b hb)) (fun _ h => h) hx) hn h128
  obtain ⟨R, hR⟩ : ∃ r, reachF x.kids (flagF x.flags 3) (showF x.flags) d c = r := ⟨_, rfl⟩
  have hRl : R.length ≤ 128 := by
    have := reach_few (hid := flagF x.flags 3) (shw := showF x.flags) hn d c
    rw [hR] at this
    have hn9 : x.n = x.parent.length := rfl
    omega
  rw [hR]
  have HQ0 : Hid ((x.kids c).flatMap (partD x d) = R) := by
    show _ = R
    rw [← reach_part, hR]
  clear hR
  have HI0 : Hid (∀ i (hi : i < (x.kids c).length), I64 (x.kids c)[i]) := fun i hi => by
    have h9 := (kids_is (List.getElem_mem hi)).2
    have hn9 : x.n = x.parent.length := rfl
    unfold IsTh at h9
    unfold I64
    omega
  generalize x.kids c = l at HK0 HQ0 HI0 ⊢
  have HP0 : Hid (∀ d' m, d' + 1 = d → partD x d m = if flagF x.flags 3 m then [] else m :: (if showF x.flags m then reachF x.kids (flagF x.flags 3) (showF x.flags) d' m else [])) := fun d' m e => by subst e; rfl
  have HPZ : Hid (d = 0 → ∀ m, partD x d m = []) := fun e m => by subst e; rfl
  generalize hpd : partD x d = pd at HQ0 HP0 HPZ
  clear hpd
  obtain ⟨-, -, -, -, -, -, wv0, wv1, wv2, wv3, wv4, wv5, wv6, rfl, wg0, wg1, wg2, wg3, wg4, wg5, wg6⟩ := hx
  obtain ⟨wa0, wc0, rfl⟩ := wg0.shape
  have wl0 := wg0.len
  obtain ⟨wa1, wc1, rfl⟩ := wg1.shape
  have wl1 := wg1.len
  obtain ⟨wa2, wc2, rfl⟩ := wg2.shape
  have wl2 := wg2.len
  obtain ⟨wa3, wc3, rfl⟩ := wg3.shape
  have wl3 := wg3.len
  obtain ⟨wa4, wc4, rfl⟩ := wg4.shape
  have wl4 := wg4.len
  obtain ⟨wa5, wc5, rfl⟩ := wg5.shape
  have wl5 := wg5.len
  obtain ⟨wa6, wc6, rfl⟩ := wg6.shape
  have wl6 := wg6.len
  unfold maxLen at wl0 wl1 wl2 wl3 wl4 wl5 wl6
  clear wg0 wg1 wg2 wg3 wg4 wg5 wg6
  obtain ⟨W1, hW1⟩ : ∃ z, w.alloc (.cells #[.slice wa0 x.globals.length wc0, .slice wa1 x.parent.length wc1, .slice wa2 x.child.length wc2, .slice wa3 x.next.length wc3, .slice wa4 x.flags.length wc4, .slice wa5 x.props.length wc5, .slice wa6 x.timers.length wc6, .int .u64 x.seed, .int .i64 x.score, .int .i64 x.turns, .int .i64 x.over, .int .i64 x.it, .int .i64 x.go] 31) = z := ⟨_, rfl⟩
  have hb1 : Below w.heap.size w W1 := by rw [← hW1]; exact (Below.refl _ _).alloc (Nat.le_refl _) _
  have hx1 : BoxT W1 w.heap.size [.slice wa0 x.globals.length wc0, .slice wa1 x.parent.length wc1, .slice wa2 x.child.length wc2, .slice wa3 x.next.length wc3, .slice wa4 x.flags.length wc4, .slice wa5 x.props.length wc5, .slice wa6 x.timers.length wc6, .int .u64 x.seed, .int .i64 x.score, .int .i64 x.turns, .int .i64 x.over, .int .i64 x.it, .int .i64 x.go] 31 := by rw [← hW1]; exact BoxT.new _ _ _
  have HW1 := Lib.hid hW1; have HBv := Lib.hid hb1; have HXv := Lib.hid hx1
  clear hW1 hb1 hx1
  go_enter Tryz.func28, Tryz.ntmps28
  go_upto_region 1 with fail
  rw [HW1.out]
  obtain ⟨WV, hWV⟩ : ∃ v, Value.agg #[.slice wa0 x.globals.length wc0, .slice wa1 x.parent.length wc1, .slice wa2 x.child.length wc2, .slice wa3 x.next.length wc3, .slice wa4 x.flags.length wc4, .slice wa5 x.props.length wc5, .slice wa6 x.timers.length wc6, .int .u64 x.seed, .int .i64 x.score, .int .i64 x.turns, .int .i64 x.over, .int .i64 x.it, .int .i64 x.go] = v := ⟨_, rfl⟩
  have HLW : Hid (∀ W, BoxT W w.heap.size [.slice wa0 x.globals.length wc0, .slice wa1 x.parent.length wc1, .slice wa2 x.child.length wc2, .slice wa3 x.next.length wc3, .slice wa4 x.flags.length wc4, .slice wa5 x.props.length wc5, .slice wa6 x.timers.length wc6, .int .u64 x.seed, .int .i64 x.score, .int .i64 x.turns, .int .i64 x.over, .int .i64 x.it, .int .i64 x.go] 31 → (Instr.loadAt 31 (.pointer (some ⟨w.heap.size, 0, none⟩))).run Tryz.prog W = .ok WV W) := fun W h => by
    rw [← hWV]
    exact run_loadAt_mid W _ 0 31 _ _ h.range Tryz.underlying31 rfl (by kernel_rfl)
  rw [hWV]
  clear HW1
  have HK := Lib.hid HK0.out; have HH := Lib.hid HH0.out; have HS := Lib.hid HS0.out; have HR := Lib.hid HR0.out
  rw [hWV] at HK HH HS HR
  clear hWV HK0 HH0 HS0 HR0
  have HX1 := HXv; have HB1 := HBv
  go_upto_region 3 with (first | ((with_reducible refine wpList_load_T 31 (.tmp 3) ?hw9 ⟨w.heap.size, 0, none⟩ ?hx9 WV (HLW.out _ HXv.out) ?_); (case hw9 => rfl); (case hx9 => first | rfl | (exact rfl))) | (go_at_call 60; (with_reducible refine (HK.out _ HBv.out).mono ?_); rintro e w1 ⟨v, rfl, hown, hb1⟩; have hrd := hown.rdl; clear hown; obtain ⟨va, vc, rfl⟩ := hrd.shape))
  have HXv := Lib.hid (HX1.out.below hb1)
  have HBv := Lib.hid (btK HB1.out hb1)
  obtain ⟨ya, yc, he, -, -, hel⟩ := RdInts.elem hrd (newB_inn _ w1)
  cases he
  have hll := hrd.len
  unfold maxLen at hll
  have HEL := Lib.hid hel
  have HX2 := HXv; have HB2 := HBv
  clear hrd hel hb1 HX1 HB1 HXv HBv
  have hD0 : (0 : Int) ≤ ((d : Nat) : Int) := by omega
  have hD1 : ((d : Nat) : Int) ≤ 1000 := by omega
  obtain ⟨D, hD⟩ : ∃ D : Int, ((d : Nat) : Int) = D := ⟨_, rfl⟩
  rw [hD] at hD0 hD1 ⊢
  have HD := Lib.hid hD
  clear hD
  go_wp2
  go_loopw [7, 9] (fun u i wr => ∃ (k : Nat) (acc : List Int), k ≤ l.length ∧ i = .int .i64 k ∧ acc.length ≤ 128 ∧ Hid (acc ++ (l.drop k).flatMap pd = R) ∧ Hid (OwnI w1.heap.size wr acc u) ∧ Below w1.heap.size w1 wr) (fun _ i _ => l.length - (intOf i).toNat)
  case atStart => exact ⟨0, [], Nat.zero_le _, rfl, Nat.zero_le _, HQ0.out, OwnR.nil _ _ _ _ _, Below.refl _ _⟩
  case round =>
    obtain ⟨k, acc, hk, rfl, hac, HQ, HO, hB⟩ := hrel
    have HBL := Lib.hid hB
    have HXv := Lib.hid (HX2.out.below hB)
    have HBv := Lib.hid (btK HB2.out hB)
    clear hB
    by_cases hend : D = 0 ∨ ¬ k < l.length
    · have HF : Hid (acc = R) := by
        show acc = R
        have h9 := HQ.out
        rcases hend with h | h
        · rw [flat_nil _ pd (HPZ.out (by have := HD.out; omega)), List.append_nil] at h9
          exact h9
        · rw [List.drop_eq_nil_of_le (by omega), List.flatMap_nil, List.append_nil] at h9
          exact h9
      have FIN : ∀ u2 : Value, OwnI w1.heap.size wr acc u2 → ∃ v, Ending.returned u2 = Ending.returned v ∧ OwnI (w.heap.size + 1) wr R v ∧ Below w.heap.size w wr := fun u2 h => ⟨_, rfl, by rw [← HF.out]; exact h.lower (by have := HB2.out.size; have := HX2.out.lt; omega), HBv.out⟩
      have FIN := Lib.hid FIN
      by_cases hlt : k < l.length
      · have h1 : (k : Int) < (l.length : Int) := by omega
        obtain rfl : D = 0 := by rcases hend with h | h; exact h; exact absurd hlt h
        clear hend HF
        go_wp2
        go_ret
        exact FIN.out _ HO.out
      · have h1 : ¬ (k : Int) < (l.length : Int) := by omega
        clear hend HF
        go_wp2
        go_ret
        exact FIN.out _ HO.out
    have hlt : k < l.length := by rcases Nat.lt_or_ge k l.length with h | h; exact h; exact absurd (Or.inr (by omega)) hend
    have hDp : 0 < D := by rcases Int.lt_or_le 0 D with h | h; exact h; exact absurd (Or.inl (by omega)) hend
    clear hend
    obtain ⟨d', hd'⟩ : ∃ d', d' + 1 = d := ⟨d - 1, by have := HD.out; omega⟩
    have h1 : (k : Int) < (l.length : Int) := by omega
    have h2 : (0 : Int) ≤ (k : Int) := by omega
    obtain ⟨vb, voff, rfl, hel4⟩ := HEL.out (by omega)
    have p4 := hel4 _ HBL.out k hlt
    have hiq := HI0.out k hlt
    have hq2 := HQ.out
    rw [flat_drop pd l k hlt, HP0.out d' _ hd'] at hq2
    have hhq := fun W h => HH.out W h l[k]
    have hsq := fun W h => HS.out W h l[k]
    have hrq := fun W h => HR.out d' hd' W h l[k]
    have hek := fun W h => hel4 W h k hlt
    generalize l[k] = q at p4 hq2 hhq hsq hrq hek hiq
    have HIQ := Lib.hid hiq
    clear hiq
    have HEK := Lib.hid hek
    clear hek hel4
    generalize flagF x.flags 3 q = b1 at hq2 hhq
    generalize showF x.flags q = b2 at hq2 hsq
    generalize reachF x.kids (flagF x.flags 3) (showF x.flags) d' q = zs at hq2 hrq
    have HH := Lib.hid hhq; have HS := Lib.hid hsq; have HR := Lib.hid hrq; have HQ2 := Lib.hid hq2
    clear hhq hsq hrq hq2
    have P4 := Lib.hid p4
    cases b1
    rotate_left
    · have HQN : Hid (acc ++ (l.drop (k + 1)).flatMap pd = R) := by show _ = _; have h9 := HQ2.out; simpa using h9
      go_upto_region 6 with fail
      have e4 := fun d os => cell_regrown p4 d os
      have hql : ∀ W, (∃ p : Regrown, W = grow (redrawn wr p.d) p.os) → (Instr.loadAt 31 (.pointer (some ⟨w.heap.size, 0, none⟩))).run Tryz.prog W = .ok WV W := fun W h => HLW.out _ (HXv.out.below (below_of_regrown h))
      have QL := Lib.hid hql
      have g1 := regrownG (w := wr) fun w' h => HH.out w' (btK HBv.out h)
      have G1 := Lib.hid g1
      clear g1 hql p4
      as_aux_lemma =>
        refine wp_region_quiet_below (by kernel_rfl) (by kernel_rfl) ?_
        (try dsimp only [List.append])
        repeat (first | (go_big_quiet_want; (refine quiet_load 31 _ (by rfl) _ (by rfl) WV (fun W hW => QL.out W hW) ?_); simp only [Act.put, List.setIfInBounds_toArray, List.set_cons_succ, List.set_cons_zero]; go_big_quiet_on) | go_big_quiet_step (first | with_reducible exact G1.out _))
        with_reducible refine wpQuiet_nil ?_
        intro w3 hw3
        have hb3 := below_of_regrown hw3
        clear hw3
        go_wp2
        go_roundw
        case rel => exact ⟨k + 1, acc, by omega, by go_num, hac, HQN.out, HO.out.below hb3, HBL.out.trans (hb3.mono HBL.out.size)⟩
        case measure => simp [intOf]; omega
    have HLA : Hid ((acc ++ [q]).length ≤ 128) := by
      have h9 := congrArg List.length HQ2.out
      simp only [Bool.false_eq_true, if_false, List.length_append, List.length_cons] at h9
      show _ ≤ _
      simp only [List.length_append, List.length_cons, List.length_nil]
      omega
    go_upto_region 6 with fail
    have e4 := fun d os => cell_regrown p4 d os
    have hql : ∀ W, (∃ p : Regrown, W = grow (redrawn wr p.d) p.os) → (Instr.loadAt 31 (.pointer (some ⟨w.heap.size, 0, none⟩))).run Tryz.prog W = .ok WV W := fun W h => HLW.out _ (HXv.out.below (below_of_regrown h))
    have QL := Lib.hid hql
    have g1 := regrownG (w := wr) fun w' h => HH.out w' (btK HBv.out h)
    have G1 := Lib.hid g1
    clear g1 hql p4
    as_aux_lemma =>
      refine wp_region_quiet_below (by kernel_rfl) (by kernel_rfl) ?_
      (try dsimp only [List.append])
      repeat (first | (go_big_quiet_want; (refine quiet_load 31 _ (by rfl) _ (by rfl) WV (fun W hW => QL.out W hW) ?_); simp only [Act.put, List.setIfInBounds_toArray, List.set_cons_succ, List.set_cons_zero]; go_big_quiet_on) | go_big_quiet_step (first | with_reducible exact G1.out _))
      with_reducible refine wpQuiet_nil ?_
      intro w3 hw3
      have hb3 := below_of_regrown hw3
      clear hw3
      have p4 := HEK.out _ (HBL.out.trans (hb3.mono HBL.out.size))
      go_upto_region 8 with (first | (at_builtin; refine wpList_app rfl (.tmp 29) (.tmp 34) 23 rfl _ _ (fun v' w' => OwnI w1.heap.size w' (acc ++ [q]) v' ∧ Below w1.heap.size w3 w') rfl rfl (ints_push (HO.out.below hb3) HIQ.out (by have := HBL.out.size; have := hb3.size; omega) (by omega) _ _) ?_; rintro v4 w4 ⟨ho4, hb4⟩))
      have HO4 := Lib.hid ho4
      have HB4 := Lib.hid (HBL.out.trans ((hb3.mono HBL.out.size).trans hb4))
      clear ho4 hb4 hb3 p4
      have HX4 := Lib.hid (HX2.out.below HB4.out)
      have HV4 := Lib.hid (btK HB2.out HB4.out)
      have p4 := HEK.out _ HB4.out
      cases b2
      · have HQZ : Hid ((acc ++ [q]) ++ (l.drop (k + 1)).flatMap pd = R) := by show _ = _; have h9 := HQ2.out; simpa using h9
        have e4 := fun d os => cell_regrown p4 d os
        have hql : ∀ W, (∃ p : Regrown, W = grow (redrawn w4 p.d) p.os) → (Instr.loadAt 31 (.pointer (some ⟨w.heap.size, 0, none⟩))).run Tryz.prog W = .ok WV W := fun W h => HLW.out _ (HX4.out.below (below_of_regrown h))
        have QL := Lib.hid hql
        have g1 := regrownG (w := w4) fun w' h => HS.out w' (btK HV4.out h)
        have G1 := Lib.hid g1
        clear g1 hql p4
        as_aux_lemma =>
          refine wp_region_quiet_below (by kernel_rfl) (by kernel_rfl) ?_
          (try dsimp only [List.append])
          repeat (first | (go_big_quiet_want; (refine quiet_load 31 _ (by rfl) _ (by rfl) WV (fun W hW => QL.out W hW) ?_); simp only [Act.put, List.setIfInBounds_toArray, List.set_cons_succ, List.set_cons_zero]; go_big_quiet_on) | go_big_quiet_step (first | with_reducible exact G1.out _))
          with_reducible refine wpQuiet_nil ?_
          intro w3 hw3
          have hb3 := below_of_regrown hw3
          clear hw3
          go_wp2
          go_roundw
          case rel => exact ⟨k + 1, acc ++ [q], by omega, by go_num, HLA.out, HQZ.out, HO4.out.below hb3, HB4.out.trans (hb3.mono HB4.out.size)⟩
          case measure => simp [intOf]; omega
      have HQZ : Hid (((acc ++ [q]) ++ zs) ++ (l.drop (k + 1)).flatMap pd = R) := by show _ = _; have h9 := HQ2.out; simpa using h9
      have HLN : Hid (acc.length + 1 + zs.length ≤ 128) := by
        have h9 := congrArg List.length HQZ.out
        simp only [List.length_append, List.length_cons, List.length_nil] at h9
        show _ ≤ _
        omega
      have e4 := fun d os => cell_regrown p4 d os
      have hql : ∀ W, (∃ p : Regrown, W = grow (redrawn w4 p.d) p.os) → (Instr.loadAt 31 (.pointer (some ⟨w.heap.size, 0, none⟩))).run Tryz.prog W = .ok WV W := fun W h => HLW.out _ (HX4.out.below (below_of_regrown h))
      have QL := Lib.hid hql
      have g1 := regrownG (w := w4) fun w' h => HS.out w' (btK HV4.out h)
      have G1 := Lib.hid g1
      clear g1 hql p4
      as_aux_lemma =>
        refine wp_region_quiet_below (by kernel_rfl) (by kernel_rfl) ?_
        (try dsimp only [List.append])
        repeat (first | (go_big_quiet_want; (refine quiet_load 31 _ (by rfl) _ (by rfl) WV (fun W hW => QL.out W hW) ?_); simp only [Act.put, List.setIfInBounds_toArray, List.set_cons_succ, List.set_cons_zero]; go_big_quiet_on) | go_big_quiet_step (first | with_reducible exact G1.out _))
        with_reducible refine wpQuiet_nil ?_
        intro w3 hw3
        have hb3 := below_of_regrown hw3
        clear hw3
        have HB5 := Lib.hid (HB4.out.trans (hb3.mono HB4.out.size))
        have HO5 := Lib.hid (HO4.out.below hb3)
        have HU5 : Hid (∀ g, v4.ownBlock = some g → g < w3.heap.size) := by
          obtain ⟨ys, hys⟩ := HO5.out.owns
          exact fun g hg => (ownsRow_in hys g hg).2
        clear hb3
        go_upto_region 9 with fail
        refine tkStartB (S := fun W => Below w1.heap.size w1 W) (js := [8, 9]) (by kernel_rfl) (by kernel_rfl) (by kernel_rfl) HB5.out.drew (fun v0 hv0 h0 HK HF => ?_)
        refine tkW (j := 0) (fuel := 10) (oi := ⟨_, _, _, _, _, _⟩) (v := ?_) HK rfl rfl (by rfl) ?_ (by assumption) ?_
        rotate_left
        focus (intro W hW; go_simp; (try with_reducible rfl); done)
        simp only [Act.put, List.setIfInBounds_toArray, List.set_cons_succ, List.set_cons_zero]
        refine tkW (j := 1) (fuel := 9) (oi := ⟨_, _, _, _, _, _⟩) (v := WV) HK rfl rfl (by rfl) (fun W hW => load_run 31 (.tmp 3) rfl ⟨w.heap.size, 0, none⟩ rfl WV W (HLW.out _ (HX2.out.below hW))) (by assumption) ?_
        simp only [Act.put, List.setIfInBounds_toArray, List.set_cons_succ, List.set_cons_zero]
        refine tkW (j := 2) (fuel := 8) (oi := ⟨_, _, _, _, _, _⟩) (v := ?_) HK rfl rfl (by rfl) ?_ (by assumption) ?_
        rotate_left
        focus (intro W hW; go_simp; (try with_reducible rfl); done)
        simp only [Act.put, List.setIfInBounds_toArray, List.set_cons_succ, List.set_cons_zero]
        refine tkW (j := 3) (fuel := 7) (oi := ⟨_, _, _, _, _, _⟩) (v := ?_) HK rfl rfl (by rfl) ?_ (by assumption) ?_
        rotate_left
        focus (intro W hW; go_simp; (try with_reducible rfl); done)
        simp only [Act.put, List.setIfInBounds_toArray, List.set_cons_succ, List.set_cons_zero]
        refine tkW (j := 4) (fuel := 6) (oi := ⟨_, _, _, _, _, _⟩) (v := ?_) HK rfl rfl (by rfl) ?_ (by assumption) ?_
        rotate_left
        focus (intro W hW; go_simp; (try with_reducible rfl); done)
        simp only [Act.put, List.setIfInBounds_toArray, List.set_cons_succ, List.set_cons_zero]
        refine tkW (j := 5) (fuel := 5) (oi := ⟨_, _, _, _, _, _⟩) (v := ?_) HK rfl rfl (by rfl) ?_ (by assumption) ?_
        rotate_left
        focus (intro W hW; have p9 := HEK.out W hW; go_simp; (try with_reducible rfl); done)
        simp only [Act.put, List.setIfInBounds_toArray, List.set_cons_succ, List.set_cons_zero]
        refine tkW (j := 6) (fuel := 4) (oi := ⟨_, _, _, _, _, _⟩) (v := ?_) HK rfl rfl (by rfl) ?_ (by assumption) ?_
        rotate_left
        focus (intro W hW; go_simp; (try with_reducible rfl); done)
        simp only [Act.put, List.setIfInBounds_toArray, List.set_cons_succ, List.set_cons_zero]
        refine tkW (j := 7) (fuel := 3) (oi := ⟨_, _, _, _, _, _⟩) (v := ?_) HK rfl rfl (by rfl) ?_ (by assumption) ?_
        rotate_left
        focus (intro W hW; go_simp; (try with_reducible rfl); done)
        simp only [Act.put, List.setIfInBounds_toArray, List.set_cons_succ, List.set_cons_zero]
        refine tkC (j := 8) (fuel := 2) (oi := ⟨_, _, _, _, _, _⟩) HK rfl rfl (fun K hK => ?_)
        go_simp
        refine (HR.out _ (btK HB2.out h0) _ (by have h9 : D = (d' : Int) + 1 := (by have := HD.out; omega)
                                                rw [h9, Int.add_sub_cancel]; exact congrArg (Value.int .i64) (IntWalk.i64_in _ (by omega)))).mono ?_
        rintro e v1 ⟨vz, rfl, hoz, hb1⟩
        have h1 := btK h0 hb1
        refine hK.out _ _ h1 ?_
        clear hK K
        (try simp only [Act.put, List.setIfInBounds_toArray, List.set_cons_succ, List.set_cons_zero])
        refine tkC (j := 9) (fuel := 1) (oi := ⟨_, _, _, _, _, _⟩) HK rfl rfl (fun K hK => ?_)
        refine step_app rfl (.tmp 42) (.tmp 50) 23 rfl _ _ (fun v' w' => OwnI w1.heap.size w' ((acc ++ [q]) ++ zs) v' ∧ Below w1.heap.size v1 w') rfl rfl (ints_app (HO5.out.below (btK hv0 hb1)) hoz (fun g hg => by have := HU5.out g hg; have := hv0.size; omega) (by have := h0.size; omega) h1.size (by have := HLN.out; simp; omega) _) ?_
        rintro v' w6 ⟨ho6, hb6⟩
        have h6 := h1.trans hb6
        refine hK.out _ _ h6 ?_
        clear hK K
        (try simp only [Act.put, List.setIfInBounds_toArray, List.set_cons_succ, List.set_cons_zero])
        refine tkW (j := 10) (fuel := 0) (oi := ⟨_, _, _, _, _, _⟩) (v := ?_) HK rfl rfl (by rfl) ?_ (by assumption) ?_
        rotate_left
        focus (intro W hW; go_simp; (try with_reducible rfl); done)
        simp only [Act.put, List.setIfInBounds_toArray, List.set_cons_succ, List.set_cons_zero]
        refine tkE (by kernel_rfl) ?_ _
        go_simp
        go_wp2
        go_roundw
        case rel => exact ⟨k + 1, (acc ++ [q]) ++ zs, by omega, by go_num, by have := HLN.out; simp; omega, HQZ.out, ho6, h6⟩
        case measure => simp [intOf]; omega
theorem reached23_calls : ∀ (d : Nat), d ≤ 1000 → RchC d
  | 0, h => reached23_step 0 h (fun d' e => by omega)
  | d + 1, h => reached23_step (d + 1) h (fun d' e => by obtain rfl : d' = d := by omega
                                                         exact reached23_calls d' (by omega))
/-- What is reached from a thing. -/
def WorldD.reach (x : WorldD) (c : Int) : List Int := reachF x.kids (flagF x.flags 3) (showF x.flags) x.n c
/-- Is it lit where the player is? -/
def WorldD.lit (x : WorldD) : Bool := flagF x.flags 0 (x.top 1) || (x.reach (x.top 1)).any (flagF x.flags 0)
/-- What can be seen. -/
def WorldD.vis (x : WorldD) : List Int := if x.lit then (x.reach (x.top 1)).filter (fun c => decide (c ≠ 1)) else x.reach 1
theorem reach_len {x : WorldD} (hn : NestK x) (h128 : x.parent.length ≤ 128) (c : Int) : (x.reach c).length ≤ 128 := by
  have := reach_few (hid := flagF x.flags 3) (shw := showF x.flags) hn x.n c
  have hn9 : x.n = x.parent.length := rfl
  unfold WorldD.reach
  omega
/-- A call that hands back numbers in new memory. -/
def GivesInts (l : List Int) (w : World) (e : Ending) (w' : World) : Prop := ∃ v, e = .returned v ∧ OwnI (w.heap.size + 1) w' l v ∧ Below w.heap.size w w'
theorem rch_n {F : Nat → Prop} {w : World} {x : WorldD} {cs : List Value} (c : Int) (hF : Inn F w) (hx : Holds.world.R F w x cs) (hn : NestK x) (h128 : x.parent.length ≤ 128) : Calls Tryz.prog 28 #[.agg cs.toArray, .int .i64 c, .int .i64 x.parent.length] w (GivesInts (x.reach c) w) :=
  reached23_calls x.parent.length (by omega) F w x cs c hF hx hn h128
end Go.Proofs.YtapjglpiofpbmaaGreat
