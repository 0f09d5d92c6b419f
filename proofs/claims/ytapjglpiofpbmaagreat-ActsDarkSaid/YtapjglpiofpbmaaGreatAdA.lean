/- clewref19's is, at, count, within, top and Children. Printed by gen-ac8.py. -/
import Derived.Test.YtapjglpiofpbmaaGreatAcY
namespace Go.Proofs.YtapjglpiofpbmaaGreat
open Go.RowKit Go.Sort

/-- A slice of ints, read in any later world. -/
theorem RdInts.elem {F : Nat → Prop} {w : World} {l : List Int} {v : Value} (h : RdInts F w l v) (hF : Inn F w) : ∃ a cap, v = .slice a l.length cap ∧ l.length ≤ cap ∧ cap ≤ 9223372036854775807 ∧ (0 < l.length → ∃ b off, a = some ⟨b, off, none⟩ ∧ ∀ W, Below w.heap.size w W → ∀ k (hk : k < l.length), W.cell? ⟨b, off + k, none⟩ = some (.int .i64 l[k])) := by
  obtain ⟨a, cap, rfl, h1, h2, h3⟩ := RdInts.opn h
  refine ⟨a, cap, rfl, h1, h2, fun h0 => ?_⟩
  obtain ⟨b, off, rfl, hb, hc⟩ := h3 h0
  exact ⟨b, off, rfl, fun W hW k hk => (hc W (hW.block b (hF b hb)) k hk).2⟩
theorem atI_get {l : List Int} {k : Nat} (h : k < l.length) : atI l (k : Int) = l[k] := by
  unfold atI
  rw [if_neg (by omega), Int.toNat_natCast, List.getD_eq_getElem?_getD, List.getElem?_eq_getElem h]
  rfl
theorem atI_out {l : List Int} {x : Int} (h : ¬ (0 ≤ x ∧ x < (l.length : Int))) : atI l x = 0 := by
  unfold atI
  split
  · rfl
  · rw [List.getD_eq_getElem?_getD, List.getElem?_eq_none (by omega)]
    rfl
theorem th_nat {n : Nat} {x : Int} (h : IsTh n x) : ∃ k : Nat, x = k ∧ 1 ≤ k ∧ k < n := ⟨x.toNat, by unfold IsTh at h; omega, by unfold IsTh at h; omega, by unfold IsTh at h; omega⟩
set_option maxRecDepth 100000 in
set_option maxHeartbeats 2000000 in
theorem is19_calls (F : Nat → Prop) (w : World) (x : WorldD) (cs : List Value) (_hF : Inn F w) (hx : Holds.world.R F w x cs) (c : Int) : Calls Tryz.prog 73 #[.agg cs.toArray, .int .i64 c] w (Gives w (.bool (decide (IsTh x.n c)))) := by
  have hn : x.n = x.parent.length := rfl
  obtain ⟨R, hR⟩ : ∃ r, decide (IsTh x.n c) = r := ⟨_, rfl⟩
  rw [hR]
  have HR : Hid (R = (decide (1 ≤ c) && decide (c < (x.parent.length : Int)))) := by
    show R = _
    rw [← hR, hn, ← Bool.decide_and]
    rfl
  clear hR hn
  obtain ⟨-, -, -, -, -, -, wv0, wv1, wv2, wv3, wv4, wv5, wv6, rfl, wg0, wg1, wg2, wg3, wg4, wg5, wg6⟩ := hx
  obtain ⟨wa0, wc0, rfl⟩ := wg0.shape
  have wl0 := wg0.len
  obtain ⟨wa1, wc1, rfl⟩ := wg1.shape
  have wl1 := wg1.len
  obtain ⟨wa2, wc2, rfl⟩ := wg2.shape
  have wl2 := wg2.len
  obtain ⟨wa3, wc3, rfl⟩ := wg3.shape
  have wl3 := wg3.len
  obtain ⟨wa4, wc4, rfl⟩ := wg4.shape
  have wl4 := wg4.len
  obtain ⟨wa5, wc5, rfl⟩ := wg5.shape
  have wl5 := wg5.len
  obtain ⟨wa6, wc6, rfl⟩ := wg6.shape
  have wl6 := wg6.len
  unfold maxLen at wl0 wl1 wl2 wl3 wl4 wl5 wl6
  clear wg0 wg1 wg2 wg3 wg4 wg5 wg6
  obtain ⟨W1, hW1⟩ : ∃ z, w.alloc (.cells #[.slice wa0 x.globals.length wc0, .slice wa1 x.parent.length wc1, .slice wa2 x.child.length wc2, .slice wa3 x.next.length wc3, .slice wa4 x.flags.length wc4, .slice wa5 x.props.length wc5, .slice wa6 x.timers.length wc6, .int .u64 x.seed, .int .i64 x.score, .int .i64 x.turns, .int .i64 x.over, .int .i64 x.it, .int .i64 x.go] 31) = z := ⟨_, rfl⟩
  have hb1 : Below w.heap.size w W1 := by rw [← hW1]; exact (Below.refl _ _).alloc (Nat.le_refl _) _
  have hx1 : BoxT W1 w.heap.size [.slice wa0 x.globals.length wc0, .slice wa1 x.parent.length wc1, .slice wa2 x.child.length wc2, .slice wa3 x.next.length wc3, .slice wa4 x.flags.length wc4, .slice wa5 x.props.length wc5, .slice wa6 x.timers.length wc6, .int .u64 x.seed, .int .i64 x.score, .int .i64 x.turns, .int .i64 x.over, .int .i64 x.it, .int .i64 x.go] 31 := by rw [← hW1]; exact BoxT.new _ _ _
  have HW1 := Lib.hid hW1; have HBv := Lib.hid hb1; have HXv := Lib.hid hx1
  clear hW1 hb1 hx1
  go_enter Tryz.func73, Tryz.ntmps73
  go_upto_region 1 with fail
  rw [HW1.out]
  obtain ⟨WV, hWV⟩ : ∃ v, Value.agg #[.slice wa0 x.globals.length wc0, .slice wa1 x.parent.length wc1, .slice wa2 x.child.length wc2, .slice wa3 x.next.length wc3, .slice wa4 x.flags.length wc4, .slice wa5 x.props.length wc5, .slice wa6 x.timers.length wc6, .int .u64 x.seed, .int .i64 x.score, .int .i64 x.turns, .int .i64 x.over, .int .i64 x.it, .int .i64 x.go] = v := ⟨_, rfl⟩
  have HLW : Hid (∀ W, BoxT W w.heap.size [.slice wa0 x.globals.length wc0, .slice wa1 x.parent.length wc1, .slice wa2 x.child.length wc2, .slice wa3 x.next.length wc3, .slice wa4 x.flags.length wc4, .slice wa5 x.props.length wc5, .slice wa6 x.timers.length wc6, .int .u64 x.seed, .int .i64 x.score, .int .i64 x.turns, .int .i64 x.over, .int .i64 x.it, .int .i64 x.go] 31 → (Instr.loadAt 31 (.pointer (some ⟨w.heap.size, 0, none⟩))).run Tryz.prog W = .ok WV W) := fun W h => by
    rw [← hWV]
    exact run_loadAt_mid W _ 0 31 _ _ h.range Tryz.underlying31 rfl (by kernel_rfl)
  rw [hWV]
  clear HW1
  clear hWV HLW
  have wy1 := HXv.out.cell 1
  simp only [List.getElem?_cons_succ, List.getElem?_cons_zero] at wy1
  by_cases h1 : 1 ≤ c
  · have e : Hid (R = decide (c < (x.parent.length : Int))) := by
      show R = _
      rw [HR.out, decide_eq_true h1, Bool.true_and]
    clear HR
    go_wp2
    go_ret
    exact ⟨ret_bool e.out.symm, HBv.out⟩
  · have e : Hid (R = false) := by
      show R = _
      rw [HR.out, decide_eq_false h1, Bool.false_and]
    clear HR
    go_wp2
    go_ret
    exact ⟨ret_bool e.out.symm, HBv.out⟩
set_option maxRecDepth 100000 in
set_option maxHeartbeats 2000000 in
theorem at19_calls (F : Nat → Prop) (w : World) (l : List Int) (v : Value) (hF : Inn F w) (hr : RdInts F w l v) (i : Int) : Calls Tryz.prog 99 #[v, .int .i64 i] w (Gives w (.int .i64 (atI l i))) := by
  obtain ⟨a, cap, rfl, hl, hc, HA⟩ := hr.elem hF
  obtain ⟨R, hR⟩ : ∃ r, atI l i = r := ⟨_, rfl⟩
  rw [hR]
  by_cases h : 0 ≤ i ∧ i < (l.length : Int)
  · obtain ⟨k, rfl⟩ : ∃ k : Nat, i = k := ⟨i.toNat, by omega⟩
    have hk : k < l.length := by omega
    obtain ⟨b, off, rfl, hel⟩ := HA (by omega)
    have p0 := hel w (Below.refl _ _) k hk
    rw [← atI_get hk, hR] at p0
    have k0 : ¬ (k : Int) < 0 := by omega
    have k1 : (0 : Int) ≤ (k : Int) := by omega
    have k2 : (k : Int) < (l.length : Int) := by omega
    have k3 : ¬ (l.length : Int) ≤ (k : Int) := by omega
    clear hR hel HA h
    go_enter Tryz.func99, Tryz.ntmps99
    go_wp2
    go_ret
    exact ⟨rfl, Below.refl _ _⟩
  · rw [atI_out h] at hR
    subst hR
    clear HA hr
    by_cases h0 : i < 0
    · clear h
      go_enter Tryz.func99, Tryz.ntmps99
      go_wp2
      go_ret
      exact ⟨rfl, Below.refl _ _⟩
    · have h2 : (l.length : Int) ≤ i := by omega
      clear h
      go_enter Tryz.func99, Tryz.ntmps99
      go_wp2
      go_ret
      exact ⟨rfl, Below.refl _ _⟩
theorem count_take (l : List Int) (n : Int) (k : Nat) (h : k < l.length) : (l.take (k + 1)).count n = (l.take k).count n + if l[k] = n then 1 else 0 := by
  rw [List.take_add_one, List.getElem?_eq_getElem h, Option.toList_some, List.count_append, List.count_singleton]
  by_cases e : l[k] = n <;> simp [e]
set_option maxRecDepth 100000 in
set_option maxHeartbeats 2000000 in
theorem count19_calls (F : Nat → Prop) (w : World) (l : List Int) (v : Value) (hF : Inn F w) (hr : RdInts F w l v) (n : Int) : Calls Tryz.prog 75 #[v, .int .i64 n] w (Gives w (.int .i64 (l.count n : Nat))) := by
  obtain ⟨a, cap, rfl, hl, hc, ha⟩ := hr.elem hF
  have HA := Lib.hid ha
  have HC := Lib.hid (count_take l n)
  clear ha hr
  go_enter Tryz.func75, Tryz.ntmps75
  go_wp2
  go_loopw [5, 6] (fun c i wr => ∃ (k m : Nat), k ≤ l.length ∧ i = .int .i64 k ∧ c = .int .i64 m ∧ m ≤ k ∧ Hid (m = (l.take k).count n) ∧ w = wr) (fun _ i _ => l.length - (intOf i).toNat)
  case atStart => exact ⟨0, 0, Nat.zero_le _, rfl, rfl, Nat.le_refl _, (by rw [List.take_zero]; rfl : 0 = (l.take 0).count n), rfl⟩
  case round =>
    obtain ⟨k, m, hk, rfl, rfl, hm, HM, rfl⟩ := hrel
    by_cases hlt : k < l.length
    · have h1 : (k : Int) < (l.length : Int) := by omega
      have h2 : (0 : Int) ≤ (k : Int) := by omega
      obtain ⟨b, off, rfl, hel⟩ := HA.out (by omega)
      have p0 := hel w (Below.refl _ _) k hlt
      have hc1 := HC.out k hlt
      rw [← HM.out] at hc1
      by_cases e : l[k] = n
      · rw [if_pos e] at hc1
        rw [e] at p0
        have HC1 := Lib.hid hc1
        have m1 : (m : Int) ≤ 9223372036854775806 := by omega
        have m0 : (0 : Int) ≤ (m : Int) := by omega
        clear hc1 hel e
        go_wp2
        go_roundw
        case rel => exact ⟨k + 1, m + 1, by omega, by go_num, by go_num, by omega, HC1.out.symm, by first | rfl | trivial⟩
        case measure => simp [intOf]; omega
      · rw [if_neg e] at hc1
        have HC1 := Lib.hid hc1
        have e1 : (l[k] == n) = false := by simpa using e
        have e2 : decide (l[k] = n) = false := by simpa using e
        generalize l[k] = y at p0 e1 e2 e
        clear hc1 hel
        go_wp2
        go_roundw
        case rel => exact ⟨k + 1, m, by omega, by go_num, rfl, by omega, HC1.out.symm, by first | rfl | trivial⟩
        case measure => simp [intOf]; omega
    · have h1 : ¬ (k : Int) < (l.length : Int) := by omega
      have hkn : k = l.length := by omega
      have hm2 : Hid (m = l.count n) := by
        show m = _
        rw [HM.out, hkn, List.take_length]
      clear hkn HM
      go_wp2
      go_ret
      exact ⟨congrArg (fun q : Nat => Ending.returned (.int .i64 (q : Int))) hm2.out, Below.refl _ _⟩
set_option maxRecDepth 100000 in
set_option maxHeartbeats 2000000 in
theorem top19_calls (F : Nat → Prop) (w : World) (x : WorldD) (cs : List Value) (hF : Inn F w) (hx : Holds.world.R F w x cs) (c0 : Int) : Calls Tryz.prog 78 #[.agg cs.toArray, .int .i64 c0] w (Gives w (.int .i64 (x.top c0))) := by
  have HIS0 := Lib.hid (fun (W : World) (h : Below w.heap.size w W) (c : Int) => is19_calls F W x cs (fun b hb => Nat.lt_of_lt_of_le (hF b hb) h.size) (Holds.world.keep (fun b hb => h.block b (hF b hb)) (fun _ h => h) hx) c)
  have HT0 : Hid (∀ f t c, topF x.parent x.n (f + 1) t c = if IsTh x.n c then topF x.parent x.n f c (atI x.parent c) else t) := fun f t c => rfl
  obtain ⟨R, hR⟩ : ∃ r, x.top c0 = r := ⟨_, rfl⟩
  rw [hR]
  have HR : Hid (topF x.parent x.n x.parent.length 0 c0 = R) := hR
  clear hR
  obtain ⟨-, -, -, -, -, -, wv0, wv1, wv2, wv3, wv4, wv5, wv6, rfl, wg0, wg1, wg2, wg3, wg4, wg5, wg6⟩ := hx
  obtain ⟨wa0, wc0, rfl⟩ := wg0.shape
  have wl0 := wg0.len
  obtain ⟨wa1, wc1, rfl⟩ := wg1.shape
  have wl1 := wg1.len
  obtain ⟨wa2, wc2, rfl⟩ := wg2.shape
  have wl2 := wg2.len
  obtain ⟨wa3, wc3, rfl⟩ := wg3.shape
  have wl3 := wg3.len
  obtain ⟨wa4, wc4, rfl⟩ := wg4.shape
  have wl4 := wg4.len
  obtain ⟨wa5, wc5, rfl⟩ := wg5.shape
  have wl5 := wg5.len
  obtain ⟨wa6, wc6, rfl⟩ := wg6.shape
  have wl6 := wg6.len
  unfold maxLen at wl0 wl1 wl2 wl3 wl4 wl5 wl6
  obtain ⟨xa1, xc1, he1, -, -, hA1⟩ := RdInts.elem wg1 hF
  cases he1
  have WA1 := Lib.hid hA1
  clear hA1
  clear wg0 wg1 wg2 wg3 wg4 wg5 wg6
  obtain ⟨W1, hW1⟩ : ∃ z, w.alloc (.cells #[.slice wa0 x.globals.length wc0, .slice wa1 x.parent.length wc1, .slice wa2 x.child.length wc2, .slice wa3 x.next.length wc3, .slice wa4 x.flags.length wc4, .slice wa5 x.props.length wc5, .slice wa6 x.timers.length wc6, .int .u64 x.seed, .int .i64 x.score, .int .i64 x.turns, .int .i64 x.over, .int .i64 x.it, .int .i64 x.go] 31) = z := ⟨_, rfl⟩
  have hb1 : Below w.heap.size w W1 := by rw [← hW1]; exact (Below.refl _ _).alloc (Nat.le_refl _) _
  have hx1 : BoxT W1 w.heap.size [.slice wa0 x.globals.length wc0, .slice wa1 x.parent.length wc1, .slice wa2 x.child.length wc2, .slice wa3 x.next.length wc3, .slice wa4 x.flags.length wc4, .slice wa5 x.props.length wc5, .slice wa6 x.timers.length wc6, .int .u64 x.seed, .int .i64 x.score, .int .i64 x.turns, .int .i64 x.over, .int .i64 x.it, .int .i64 x.go] 31 := by rw [← hW1]; exact BoxT.new _ _ _
  have HW1 := Lib.hid hW1; have HBv := Lib.hid hb1; have HXv := Lib.hid hx1
  clear hW1 hb1 hx1
  go_enter Tryz.func78, Tryz.ntmps78
  go_upto_region 1 with fail
  rw [HW1.out]
  obtain ⟨WV, hWV⟩ : ∃ v, Value.agg #[.slice wa0 x.globals.length wc0, .slice wa1 x.parent.length wc1, .slice wa2 x.child.length wc2, .slice wa3 x.next.length wc3, .slice wa4 x.flags.length wc4, .slice wa5 x.props.length wc5, .slice wa6 x.timers.length wc6, .int .u64 x.seed, .int .i64 x.score, .int .i64 x.turns, .int .i64 x.over, .int .i64 x.it, .int .i64 x.go] = v := ⟨_, rfl⟩
  have HLW : Hid (∀ W, BoxT W w.heap.size [.slice wa0 x.globals.length wc0, .slice wa1 x.parent.length wc1, .slice wa2 x.child.length wc2, .slice wa3 x.next.length wc3, .slice wa4 x.flags.length wc4, .slice wa5 x.props.length wc5, .slice wa6 x.timers.length wc6, .int .u64 x.seed, .int .i64 x.score, .int .i64 x.turns, .int .i64 x.over, .int .i64 x.it, .int .i64 x.go] 31 → (Instr.loadAt 31 (.pointer (some ⟨w.heap.size, 0, none⟩))).run Tryz.prog W = .ok WV W) := fun W h => by
    rw [← hWV]
    exact run_loadAt_mid W _ 0 31 _ _ h.range Tryz.underlying31 rfl (by kernel_rfl)
  rw [hWV]
  clear HW1
  have HIS := Lib.hid HIS0.out
  rw [hWV] at HIS
  clear hWV HIS0
  have wy1 := HXv.out.cell 1
  simp only [List.getElem?_cons_succ, List.getElem?_cons_zero] at wy1
  go_wp2
  clear wy1
  go_loopw [1, 5, 6] (fun a t i wr => ∃ (k : Nat) (c u : Int), k ≤ x.parent.length ∧ i = .int .i64 k ∧ a = .int .i64 c ∧ t = .int .i64 u ∧ Hid (topF x.parent x.n (x.parent.length - k) u c = R) ∧ Below w.heap.size w wr ∧ BoxT wr w.heap.size [.slice wa0 x.globals.length wc0, .slice wa1 x.parent.length wc1, .slice wa2 x.child.length wc2, .slice wa3 x.next.length wc3, .slice wa4 x.flags.length wc4, .slice wa5 x.props.length wc5, .slice wa6 x.timers.length wc6, .int .u64 x.seed, .int .i64 x.score, .int .i64 x.turns, .int .i64 x.over, .int .i64 x.it, .int .i64 x.go] 31) (fun _ _ i _ => x.parent.length - (intOf i).toNat)
  case atStart => exact ⟨0, c0, 0, Nat.zero_le _, rfl, rfl, rfl, HR.out, HBv.out, HXv.out⟩
  case round =>
    obtain ⟨k, c, u, hk, rfl, rfl, rfl, HQ, hB, hX⟩ := hrel
    have HBv := Lib.hid hB
    have HXv := Lib.hid hX
    clear hB hX
    have wy1 := HXv.out.cell 1
    simp only [List.getElem?_cons_succ, List.getElem?_cons_zero] at wy1
    by_cases hlt : k < x.parent.length
    rotate_left
    · have h1 : ¬ (k : Int) < (x.parent.length : Int) := by omega
      have HF : Hid (u = R) := by
        have := HQ.out
        rwa [show x.parent.length - k = 0 by omega] at this
      go_wp2
      go_ret
      exact ⟨congrArg (fun q : Int => Ending.returned (.int .i64 q)) HF.out, HBv.out⟩
    have h1 : (k : Int) < (x.parent.length : Int) := by omega
    by_cases hc : IsTh x.n c
    rotate_left
    · have hi := fun W h => HIS.out W h c
      rw [decide_eq_false hc] at hi
      have HIS := Lib.hid hi
      clear hi
      have HF : Hid (u = R) := by
        have := HQ.out
        rwa [show x.parent.length - k = (x.parent.length - (k + 1)) + 1 by omega, HT0.out, if_neg hc] at this
      clear hc
      go_wp2_with (first | ((with_reducible refine wpList_load_T 31 (.tmp 2) ?hw9 ⟨w.heap.size, 0, none⟩ ?hx9 WV (HLW.out _ HXv.out) ?_); (case hw9 => rfl); (case hx9 => first | rfl | (exact rfl))) | (go_at_call 73; (with_reducible refine (HIS.out _ HBv.out).mono ?_); rintro e w1 ⟨rfl, hb1⟩; have HXv := Lib.hid (HXv.out.below hb1); have HBv := Lib.hid (btK HBv.out hb1); clear wy1; have wy1 := HXv.out.cell 1; simp only [List.getElem?_cons_succ, List.getElem?_cons_zero] at wy1))
      go_ret
      exact ⟨congrArg (fun q : Int => Ending.returned (.int .i64 q)) HF.out, HBv.out⟩
    have hi := fun W h => HIS.out W h c
    rw [decide_eq_true hc] at hi
    have HISa := HIS
    have HIS := Lib.hid hi
    clear hi
    obtain ⟨j, rfl, j1, j2⟩ := th_nat hc
    have j0 : (0 : Int) ≤ (j : Int) := by omega
    have j3 : (j : Int) < (x.parent.length : Int) := by have : x.n = x.parent.length := rfl; omega
    have j4 : j < x.parent.length := j2
    obtain ⟨b, off, rfl, hel⟩ := WA1.out (by omega)
    have HEL := Lib.hid hel
    have hg := atI_get j4
    clear hel
    have HQ2 : Hid (topF x.parent x.n (x.parent.length - (k + 1)) (j : Int) (atI x.parent (j : Int)) = R) := by
      show _ = _
      rw [← HQ.out, show x.parent.length - k = (x.parent.length - (k + 1)) + 1 by omega, HT0.out, if_pos hc]
    clear hc HQ
    have HG := Lib.hid hg
    clear hg
    go_upto_region 6 with (first | ((with_reducible refine wpList_load_T 31 (.tmp 2) ?hw9 ⟨w.heap.size, 0, none⟩ ?hx9 WV (HLW.out _ HXv.out) ?_); (case hw9 => rfl); (case hx9 => first | rfl | (exact rfl))) | (go_at_call 73; (with_reducible refine (HIS.out _ HBv.out).mono ?_); rintro e w1 ⟨rfl, hb1⟩; have HXv := Lib.hid (HXv.out.below hb1); have HBv := Lib.hid (btK HBv.out hb1); clear wy1; have wy1 := HXv.out.cell 1; simp only [List.getElem?_cons_succ, List.getElem?_cons_zero] at wy1))
    have p0 := HEL.out _ HBv.out j j4
    rw [← HG.out] at p0
    generalize atI x.parent (j : Int) = y at p0 HQ2
    go_wp2
    go_roundw
    case rel => exact ⟨k + 1, y, j, by omega, by go_num, rfl, rfl, HQ2.out, HBv.out, HXv.out⟩
    case measure => simp [intOf]; omega
set_option maxRecDepth 100000 in
set_option maxHeartbeats 2000000 in
theorem within19_calls (F : Nat → Prop) (w : World) (x : WorldD) (cs : List Value) (hF : Inn F w) (hx : Holds.world.R F w x cs) (c0 y : Int) : Calls Tryz.prog 77 #[.agg cs.toArray, .int .i64 c0, .int .i64 y] w (Gives w (.bool (inF x.parent x.n y x.n c0))) := by
  have HIS0 := Lib.hid (fun (W : World) (h : Below w.heap.size w W) (c : Int) => is19_calls F W x cs (fun b hb => Nat.lt_of_lt_of_le (hF b hb) h.size) (Holds.world.keep (fun b hb => h.block b (hF b hb)) (fun _ h => h) hx) c)
  have HT0 : Hid (∀ f c, inF x.parent x.n y (f + 1) c = if IsTh x.n c then decide (c = y) || inF x.parent x.n y f (atI x.parent c) else false) := fun f c => rfl
  obtain ⟨R, hR⟩ : ∃ r, inF x.parent x.n y x.n c0 = r := ⟨_, rfl⟩
  rw [hR]
  have HR : Hid (inF x.parent x.n y x.parent.length c0 = R) := hR
  clear hR
  obtain ⟨-, -, -, -, -, -, wv0, wv1, wv2, wv3, wv4, wv5, wv6, rfl, wg0, wg1, wg2, wg3, wg4, wg5, wg6⟩ := hx
  obtain ⟨wa0, wc0, rfl⟩ := wg0.shape
  have wl0 := wg0.len
  obtain ⟨wa1, wc1, rfl⟩ := wg1.shape
  have wl1 := wg1.len
  obtain ⟨wa2, wc2, rfl⟩ := wg2.shape
  have wl2 := wg2.len
  obtain ⟨wa3, wc3, rfl⟩ := wg3.shape
  have wl3 := wg3.len
  obtain ⟨wa4, wc4, rfl⟩ := wg4.shape
  have wl4 := wg4.len
  obtain ⟨wa5, wc5, rfl⟩ := wg5.shape
  have wl5 := wg5.len
  obtain ⟨wa6, wc6, rfl⟩ := wg6.shape
  have wl6 := wg6.len
  unfold maxLen at wl0 wl1 wl2 wl3 wl4 wl5 wl6
  obtain ⟨xa1, xc1, he1, -, -, hA1⟩ := RdInts.elem wg1 hF
  cases he1
  have WA1 := Lib.hid hA1
  clear hA1
  clear wg0 wg1 wg2 wg3 wg4 wg5 wg6
  obtain ⟨W1, hW1⟩ : ∃ z, w.alloc (.cells #[.slice wa0 x.globals.length wc0, .slice wa1 x.parent.length wc1, .slice wa2 x.child.length wc2, .slice wa3 x.next.length wc3, .slice wa4 x.flags.length wc4, .slice wa5 x.props.length wc5, .slice wa6 x.timers.length wc6, .int .u64 x.seed, .int .i64 x.score, .int .i64 x.turns, .int .i64 x.over, .int .i64 x.it, .int .i64 x.go] 31) = z := ⟨_, rfl⟩
  have hb1 : Below w.heap.size w W1 := by rw [← hW1]; exact (Below.refl _ _).alloc (Nat.le_refl _) _
  have hx1 : BoxT W1 w.heap.size [.slice wa0 x.globals.length wc0, .slice wa1 x.parent.length wc1, .slice wa2 x.child.length wc2, .slice wa3 x.next.length wc3, .slice wa4 x.flags.length wc4, .slice wa5 x.props.length wc5, .slice wa6 x.timers.length wc6, .int .u64 x.seed, .int .i64 x.score, .int .i64 x.turns, .int .i64 x.over, .int .i64 x.it, .int .i64 x.go] 31 := by rw [← hW1]; exact BoxT.new _ _ _
  have HW1 := Lib.hid hW1; have HBv := Lib.hid hb1; have HXv := Lib.hid hx1
  clear hW1 hb1 hx1
  go_enter Tryz.func77, Tryz.ntmps77
  go_upto_region 1 with fail
  rw [HW1.out]
  obtain ⟨WV, hWV⟩ : ∃ v, Value.agg #[.slice wa0 x.globals.length wc0, .slice wa1 x.parent.length wc1, .slice wa2 x.child.length wc2, .slice wa3 x.next.length wc3, .slice wa4 x.flags.length wc4, .slice wa5 x.props.length wc5, .slice wa6 x.timers.length wc6, .int .u64 x.seed, .int .i64 x.score, .int .i64 x.turns, .int .i64 x.over, .int .i64 x.it, .int .i64 x.go] = v := ⟨_, rfl⟩
  have HLW : Hid (∀ W, BoxT W w.heap.size [.slice wa0 x.globals.length wc0, .slice wa1 x.parent.length wc1, .slice wa2 x.child.length wc2, .slice wa3 x.next.length wc3, .slice wa4 x.flags.length wc4, .slice wa5 x.props.length wc5, .slice wa6 x.timers.length wc6, .int .u64 x.seed, .int .i64 x.score, .int .i64 x.turns, .int .i64 x.over, .int .i64 x.it, .int .i64 x.go] 31 → (Instr.loadAt 31 (.pointer (some ⟨w.heap.size, 0, none⟩))).run Tryz.prog W = .ok WV W) := fun W h => by
    rw [← hWV]
    exact run_loadAt_mid W _ 0 31 _ _ h.range Tryz.underlying31 rfl (by kernel_rfl)
  rw [hWV]
  clear HW1
  have HIS := Lib.hid HIS0.out
  rw [hWV] at HIS
  clear hWV HIS0
  have wy1 := HXv.out.cell 1
  simp only [List.getElem?_cons_succ, List.getElem?_cons_zero] at wy1
  go_wp2
  clear wy1
  go_loopw [1, 7] (fun a i wr => ∃ (k : Nat) (c : Int), k ≤ x.parent.length ∧ i = .int .i64 k ∧ a = .int .i64 c ∧ Hid (inF x.parent x.n y (x.parent.length - k) c = R) ∧ Below w.heap.size w wr ∧ BoxT wr w.heap.size [.slice wa0 x.globals.length wc0, .slice wa1 x.parent.length wc1, .slice wa2 x.child.length wc2, .slice wa3 x.next.length wc3, .slice wa4 x.flags.length wc4, .slice wa5 x.props.length wc5, .slice wa6 x.timers.length wc6, .int .u64 x.seed, .int .i64 x.score, .int .i64 x.turns, .int .i64 x.over, .int .i64 x.it, .int .i64 x.go] 31) (fun _ i _ => x.parent.length - (intOf i).toNat)
  case atStart => exact ⟨0, c0, Nat.zero_le _, rfl, rfl, HR.out, HBv.out, HXv.out⟩
  case round =>
    obtain ⟨k, c, hk, rfl, rfl, HQ, hB, hX⟩ := hrel
    have HBv := Lib.hid hB
    have HXv := Lib.hid hX
    clear hB hX
    have wy1 := HXv.out.cell 1
    simp only [List.getElem?_cons_succ, List.getElem?_cons_zero] at wy1
    by_cases hlt : k < x.parent.length
    rotate_left
    · have h1 : ¬ (k : Int) < (x.parent.length : Int) := by omega
      have HF : Hid (false = R) := by
        have := HQ.out
        rwa [show x.parent.length - k = 0 by omega] at this
      go_wp2
      go_ret
      exact ⟨ret_bool HF.out, HBv.out⟩
    have h1 : (k : Int) < (x.parent.length : Int) := by omega
    by_cases hc : IsTh x.n c
    rotate_left
    · have hi := fun W h => HIS.out W h c
      rw [decide_eq_false hc] at hi
      have HIS := Lib.hid hi
      clear hi
      have HF : Hid (false = R) := by
        have := HQ.out
        rwa [show x.parent.length - k = (x.parent.length - (k + 1)) + 1 by omega, HT0.out, if_neg hc] at this
      clear hc
      go_wp2_with (first | ((with_reducible refine wpList_load_T 31 (.tmp 3) ?hw9 ⟨w.heap.size, 0, none⟩ ?hx9 WV (HLW.out _ HXv.out) ?_); (case hw9 => rfl); (case hx9 => first | rfl | (exact rfl))) | (go_at_call 73; (with_reducible refine (HIS.out _ HBv.out).mono ?_); rintro e w1 ⟨rfl, hb1⟩; have HXv := Lib.hid (HXv.out.below hb1); have HBv := Lib.hid (btK HBv.out hb1); clear wy1; have wy1 := HXv.out.cell 1; simp only [List.getElem?_cons_succ, List.getElem?_cons_zero] at wy1))
      go_ret
      exact ⟨ret_bool HF.out, HBv.out⟩
    have hi := fun W h => HIS.out W h c
    rw [decide_eq_true hc] at hi
    have HISa := HIS
    have HIS := Lib.hid hi
    clear hi
    obtain ⟨j, rfl, j1, j2⟩ := th_nat hc
    have j0 : (0 : Int) ≤ (j : Int) := by omega
    have j3 : (j : Int) < (x.parent.length : Int) := by have : x.n = x.parent.length := rfl; omega
    have j4 : j < x.parent.length := j2
    obtain ⟨b, off, rfl, hel⟩ := WA1.out (by omega)
    have HEL := Lib.hid hel
    have hg := atI_get j4
    clear hel
    have HQ1 : Hid ((decide ((j : Int) = y) || inF x.parent x.n y (x.parent.length - (k + 1)) (atI x.parent (j : Int))) = R) := by
      show _ = _
      rw [← HQ.out, show x.parent.length - k = (x.parent.length - (k + 1)) + 1 by omega, HT0.out, if_pos hc]
    clear hc HQ
    have HG := Lib.hid hg
    clear hg
    by_cases ey : (j : Int) = y
    · have HF : Hid (true = R) := by
        show _ = _
        rw [← HQ1.out, decide_eq_true ey, Bool.true_or]
      have ey1 : ((j : Int) == y) = true := by simpa using ey
      subst ey
      clear HQ1
      go_wp2_with (first | ((with_reducible refine wpList_load_T 31 (.tmp 3) ?hw9 ⟨w.heap.size, 0, none⟩ ?hx9 WV (HLW.out _ HXv.out) ?_); (case hw9 => rfl); (case hx9 => first | rfl | (exact rfl))) | (go_at_call 73; (with_reducible refine (HIS.out _ HBv.out).mono ?_); rintro e w1 ⟨rfl, hb1⟩; have HXv := Lib.hid (HXv.out.below hb1); have HBv := Lib.hid (btK HBv.out hb1); clear wy1; have wy1 := HXv.out.cell 1; simp only [List.getElem?_cons_succ, List.getElem?_cons_zero] at wy1))
      go_ret
      exact ⟨ret_bool HF.out, HBv.out⟩
    have HQ2 : Hid (inF x.parent x.n y (x.parent.length - (k + 1)) (atI x.parent (j : Int)) = R) := by
      show _ = _
      rw [← HQ1.out, decide_eq_false ey, Bool.false_or]
    have ey1 : ((j : Int) == y) = false := by simpa using ey
    have ey2 : decide ((j : Int) = y) = false := by simpa using ey
    clear HQ1
    go_upto_region 6 with (first | ((with_reducible refine wpList_load_T 31 (.tmp 3) ?hw9 ⟨w.heap.size, 0, none⟩ ?hx9 WV (HLW.out _ HXv.out) ?_); (case hw9 => rfl); (case hx9 => first | rfl | (exact rfl))) | (go_at_call 73; (with_reducible refine (HIS.out _ HBv.out).mono ?_); rintro e w1 ⟨rfl, hb1⟩; have HXv := Lib.hid (HXv.out.below hb1); have HBv := Lib.hid (btK HBv.out hb1); clear wy1; have wy1 := HXv.out.cell 1; simp only [List.getElem?_cons_succ, List.getElem?_cons_zero] at wy1))
    have p0 := HEL.out _ HBv.out j j4
    rw [← HG.out] at p0
    generalize atI x.parent (j : Int) = z at p0 HQ2
    go_wp2
    go_roundw
    case rel => exact ⟨k + 1, z, by omega, by go_num, rfl, HQ2.out, HBv.out, HXv.out⟩
    case measure => simp [intOf]; omega
theorem Tryz.infoInt : (Tryz.prog.info? 3).map (fun i => (i.zero, i.size, i.bytes)) = some (some (.int .i64 0), 1, 8) := by kernel_rfl
theorem cell_new1 (w : World) (v : Value) (T : TypeId) : ∀ j u, [v][j]? = some u → (w.alloc (.cells #[v] T)).cell? ((⟨w.heap.size, 0, none⟩ : Addr).add j) = some u := by
  intro j u h
  rw [Addr.add_lit, Nat.zero_add]
  exact ((BoxT.new w [v] T).cell j).trans h
theorem chain_step {nx : List Int} {n : Nat} (f : Nat) (c : Int) : chainF nx n (f + 1) c = if IsTh n c then c :: chainF nx n f (atI nx c) else [] := rfl
abbrev OwnI (lo : Nat) (w : World) (l : List Int) (v : Value) : Prop := OwnR Holds.int 3 1 lo w l v
set_option maxRecDepth 100000 in
set_option maxHeartbeats 2000000 in
theorem kids19_calls (F : Nat → Prop) (w : World) (x : WorldD) (cs : List Value) (hF : Inn F w) (hx : Holds.world.R F w x cs) (hsm : x.parent.length ≤ 1000000) (c0 : Int) : Calls Tryz.prog 76 #[.agg cs.toArray, .int .i64 c0] w (fun e w' => ∃ v, e = .returned v ∧ OwnI (w.heap.size + 1) w' (x.kids c0) v ∧ Below w.heap.size w w') := by
  have HIS0 := Lib.hid (fun (W : World) (h : Below w.heap.size w W) (c : Int) => is19_calls F W x cs (fun b hb => Nat.lt_of_lt_of_le (hF b hb) h.size) (Holds.world.keep (fun b hb => h.block b (hF b hb)) (fun _ h => h) hx) c)
  obtain ⟨i0, hi, hz0, hz1, hz2⟩ := info_parts Tryz.infoInt
  obtain ⟨R, hR⟩ : ∃ r, x.kids c0 = r := ⟨_, rfl⟩
  rw [hR]
  have HR0 := Lib.hid hR
  clear hR
  obtain ⟨-, -, -, -, -, -, wv0, wv1, wv2, wv3, wv4, wv5, wv6, rfl, wg0, wg1, wg2, wg3, wg4, wg5, wg6⟩ := hx
  obtain ⟨wa0, wc0, rfl⟩ := wg0.shape
  have wl0 := wg0.len
  obtain ⟨wa1, wc1, rfl⟩ := wg1.shape
  have wl1 := wg1.len
  obtain ⟨wa2, wc2, rfl⟩ := wg2.shape
  have wl2 := wg2.len
  obtain ⟨wa3, wc3, rfl⟩ := wg3.shape
  have wl3 := wg3.len
  obtain ⟨wa4, wc4, rfl⟩ := wg4.shape
  have wl4 := wg4.len
  obtain ⟨wa5, wc5, rfl⟩ := wg5.shape
  have wl5 := wg5.len
  obtain ⟨wa6, wc6, rfl⟩ := wg6.shape
  have wl6 := wg6.len
  unfold maxLen at wl0 wl1 wl2 wl3 wl4 wl5 wl6
  have HA2 := Lib.hid (fun (W : World) (h : Below w.heap.size w W) (c : Int) => at19_calls F W x.child _ (fun b hb => Nat.lt_of_lt_of_le (hF b hb) h.size) (RdL.below wg2 hF h (Nat.le_refl _)) c)
  have HA3 := Lib.hid (fun (W : World) (h : Below w.heap.size w W) (c : Int) => at19_calls F W x.next _ (fun b hb => Nat.lt_of_lt_of_le (hF b hb) h.size) (RdL.below wg3 hF h (Nat.le_refl _)) c)
  clear wg0 wg1 wg2 wg3 wg4 wg5 wg6
  obtain ⟨W1, hW1⟩ : ∃ z, w.alloc (.cells #[.slice wa0 x.globals.length wc0, .slice wa1 x.parent.length wc1, .slice wa2 x.child.length wc2, .slice wa3 x.next.length wc3, .slice wa4 x.flags.length wc4, .slice wa5 x.props.length wc5, .slice wa6 x.timers.length wc6, .int .u64 x.seed, .int .i64 x.score, .int .i64 x.turns, .int .i64 x.over, .int .i64 x.it, .int .i64 x.go] 31) = z := ⟨_, rfl⟩
  have hb1 : Below w.heap.size w W1 := by rw [← hW1]; exact (Below.refl _ _).alloc (Nat.le_refl _) _
  have hx1 : BoxT W1 w.heap.size [.slice wa0 x.globals.length wc0, .slice wa1 x.parent.length wc1, .slice wa2 x.child.length wc2, .slice wa3 x.next.length wc3, .slice wa4 x.flags.length wc4, .slice wa5 x.props.length wc5, .slice wa6 x.timers.length wc6, .int .u64 x.seed, .int .i64 x.score, .int .i64 x.turns, .int .i64 x.over, .int .i64 x.it, .int .i64 x.go] 31 := by rw [← hW1]; exact BoxT.new _ _ _
  have HW1 := Lib.hid hW1; have HBv := Lib.hid hb1; have HXv := Lib.hid hx1
  have hsz1 : W1.heap.size = w.heap.size + 1 := by rw [← hW1]; simp
  have HSZ := Lib.hid hsz1
  clear hW1 hb1 hx1 hsz1
  go_enter Tryz.func76, Tryz.ntmps76
  go_upto_region 1 with fail
  rw [HW1.out]
  obtain ⟨WV, hWV⟩ : ∃ v, Value.agg #[.slice wa0 x.globals.length wc0, .slice wa1 x.parent.length wc1, .slice wa2 x.child.length wc2, .slice wa3 x.next.length wc3, .slice wa4 x.flags.length wc4, .slice wa5 x.props.length wc5, .slice wa6 x.timers.length wc6, .int .u64 x.seed, .int .i64 x.score, .int .i64 x.turns, .int .i64 x.over, .int .i64 x.it, .int .i64 x.go] = v := ⟨_, rfl⟩
  have HLW : Hid (∀ W, BoxT W w.heap.size [.slice wa0 x.globals.length wc0, .slice wa1 x.parent.length wc1, .slice wa2 x.child.length wc2, .slice wa3 x.next.length wc3, .slice wa4 x.flags.length wc4, .slice wa5 x.props.length wc5, .slice wa6 x.timers.length wc6, .int .u64 x.seed, .int .i64 x.score, .int .i64 x.turns, .int .i64 x.over, .int .i64 x.it, .int .i64 x.go] 31 → (Instr.loadAt 31 (.pointer (some ⟨w.heap.size, 0, none⟩))).run Tryz.prog W = .ok WV W) := fun W h => by
    rw [← hWV]
    exact run_loadAt_mid W _ 0 31 _ _ h.range Tryz.underlying31 rfl (by kernel_rfl)
  rw [hWV]
  clear HW1
  have HIS := Lib.hid HIS0.out
  rw [hWV] at HIS
  clear hWV HIS0
  have wy1 := HXv.out.cell 1
  have wy2 := HXv.out.cell 2
  have wy3 := HXv.out.cell 3
  simp only [List.getElem?_cons_succ, List.getElem?_cons_zero] at wy1 wy2 wy3
  have HX1 := HXv; have HB1 := HBv
  by_cases hc0 : IsTh x.n c0
  rotate_left
  · have hRn : Hid (R = []) := by
      show R = []
      rw [← HR0.out]
      unfold WorldD.kids
      rw [if_neg hc0]
    have hh := fun W h => HIS.out W h c0
    rw [decide_eq_false hc0] at hh
    have HIS := Lib.hid hh
    clear hh hc0
    go_wp2_with (first | ((with_reducible refine wpList_load_T 31 (.tmp 2) ?hw9 ⟨w.heap.size, 0, none⟩ ?hx9 WV (HLW.out _ HXv.out) ?_); (case hw9 => rfl); (case hx9 => first | rfl | (exact rfl))) | (go_at_call 73; (with_reducible refine (HIS.out _ HBv.out).mono ?_); rintro e w1 ⟨rfl, hb1⟩; have HXv := Lib.hid (HXv.out.below hb1); have HBv := Lib.hid (btK HBv.out hb1); clear wy1; have wy1 := HXv.out.cell 1; simp only [List.getElem?_cons_succ, List.getElem?_cons_zero] at wy1))
    go_ret
    refine ⟨_, rfl, ?_, HBv.out⟩
    rw [hRn.out]
    exact OwnR.nil _ _ _ _ _
  have HQ0 : Hid (chainF x.next x.n x.parent.length (atI x.child c0) = R) := by
    show _ = _
    rw [← HR0.out]
    unfold WorldD.kids
    rw [if_pos hc0]
    rfl
  have hh := fun W h => HIS.out W h c0
  rw [decide_eq_true hc0] at hh
  have HISb := Lib.hid hh
  clear hh hc0
  go_upto_region 4 with (first | ((with_reducible refine wpList_load_T 31 (.tmp 2) ?hw9 ⟨w.heap.size, 0, none⟩ ?hx9 WV (HLW.out _ HXv.out) ?_); (case hw9 => rfl); (case hx9 => first | rfl | (exact rfl))) | (go_at_call 73; (with_reducible refine (HISb.out _ HBv.out).mono ?_); rintro e w1 ⟨rfl, hb1⟩; have HXv := Lib.hid (HXv.out.below hb1); have HBv := Lib.hid (btK HBv.out hb1); clear wy1; have wy1 := HXv.out.cell 1; simp only [List.getElem?_cons_succ, List.getElem?_cons_zero] at wy1))
  have HBI := Lib.hid hb1
  clear wy1 hb1
  have wy1 := HXv.out.cell 1
  have wy2 := HXv.out.cell 2
  simp only [List.getElem?_cons_succ, List.getElem?_cons_zero] at wy1 wy2
  go_wp2_with (go_at_call 99; (with_reducible refine (HA2.out _ HBv.out _).mono ?_); rintro e w1 ⟨rfl, hb1⟩; have HXv := Lib.hid (HXv.out.below hb1); have HBv := Lib.hid (btK HBv.out hb1))
  have HBA := Lib.hid (btK HBI.out hb1)
  clear wy1 wy2 wy3
  generalize atI x.child c0 = c1 at HQ0 ⊢
  go_loopw [5, 6, 7] (fun u cc i wr => ∃ (acc : List Int) (k : Nat) (c : Int), k ≤ x.parent.length ∧ i = .int .i64 k ∧ cc = .int .i64 c ∧ acc.length ≤ k ∧ Hid (acc ++ chainF x.next x.n (x.parent.length - k) c = R) ∧ Hid (OwnI W1.heap.size wr acc u) ∧ Below W1.heap.size W1 wr) (fun _ _ i _ => x.parent.length - (intOf i).toNat)
  case atStart => exact ⟨[], 0, c1, Nat.zero_le _, rfl, rfl, Nat.zero_le _, HQ0.out, OwnR.nil _ _ _ _ _, HBA.out⟩
  case round =>
    obtain ⟨acc, k, c, hk, rfl, rfl, hacc, HQ, HO, hB⟩ := hrel
    have HBL := Lib.hid hB
    have HXv := Lib.hid (HX1.out.below hB)
    have HBv := Lib.hid (btK HB1.out hB)
    have HLE := Lib.hid hB.size
    clear hB
    have wy1 := HXv.out.cell 1
    simp only [List.getElem?_cons_succ, List.getElem?_cons_zero] at wy1
    by_cases hlt : k < x.parent.length
    rotate_left
    · have h1 : ¬ (k : Int) < (x.parent.length : Int) := by omega
      have HF : Hid (acc = R) := by
        have := HQ.out
        rwa [show x.parent.length - k = 0 by omega, show chainF x.next x.n 0 c = [] from rfl, List.append_nil] at this
      go_wp2
      go_ret
      refine ⟨_, rfl, ?_, HBv.out⟩
      rw [← HF.out, ← HSZ.out]
      exact HO.out
    have h1 : (k : Int) < (x.parent.length : Int) := by omega
    have e1 : x.parent.length - k = (x.parent.length - (k + 1)) + 1 := by omega
    have HQ1 := HQ.out
    rw [e1, chain_step] at HQ1
    by_cases hc : IsTh x.n c
    rotate_left
    · have hh := fun W h => HIS.out W h c
      rw [decide_eq_false hc] at hh
      have HIS := Lib.hid hh
      rw [if_neg hc, List.append_nil] at HQ1
      have HF : Hid (acc = R) := HQ1
      clear hh hc HQ1 e1
      go_wp2_with (first | ((with_reducible refine wpList_load_T 31 (.tmp 2) ?hw9 ⟨w.heap.size, 0, none⟩ ?hx9 WV (HLW.out _ HXv.out) ?_); (case hw9 => rfl); (case hx9 => first | rfl | (exact rfl))) | (go_at_call 73; (with_reducible refine (HIS.out _ HBv.out).mono ?_); rintro e w1 ⟨rfl, hb1⟩; have HXv := Lib.hid (HXv.out.below hb1); have HBv := Lib.hid (btK HBv.out hb1); clear wy1; have wy1 := HXv.out.cell 1; simp only [List.getElem?_cons_succ, List.getElem?_cons_zero] at wy1))
      go_ret
      refine ⟨_, rfl, ?_, HBv.out⟩
      rw [← HF.out, ← HSZ.out]
      exact HO.out.below hb1
    have hh := fun W h => HIS.out W h c
    rw [decide_eq_true hc] at hh
    have HISc := Lib.hid hh
    rw [if_pos hc] at HQ1
    have HQ2 : Hid ((acc ++ [c]) ++ chainF x.next x.n (x.parent.length - (k + 1)) (atI x.next c) = R) := by
      show _ = _
      rw [List.append_assoc]
      exact HQ1
    have HI64 : Hid (I64 c) := by
      have hn : x.n = x.parent.length := rfl
      unfold IsTh at hc
      show I64 c
      unfold I64
      omega
    clear hh hc HQ1 e1
    go_upto_region 8 with (first | ((with_reducible refine wpList_load_T 31 (.tmp 2) ?hw9 ⟨w.heap.size, 0, none⟩ ?hx9 WV (HLW.out _ HXv.out) ?_); (case hw9 => rfl); (case hx9 => first | rfl | (exact rfl))) | (go_at_call 73; (with_reducible refine (HISc.out _ HBv.out).mono ?_); rintro e w1 ⟨rfl, hb1⟩; have HXv := Lib.hid (HXv.out.below hb1); have HBv := Lib.hid (btK HBv.out hb1); clear wy1; have wy1 := HXv.out.cell 1; simp only [List.getElem?_cons_succ, List.getElem?_cons_zero] at wy1))
    obtain ⟨ys, hys⟩ := (HO.out.below hb1).owns
    have HB01 := Lib.hid hb1
    have HSZ1 := Lib.hid hb1.size
    clear hb1 wy1
    have hA3 := fun W h => HA3.out W h c
    generalize atI x.next c = c2 at HQ2 hA3
    have HA3c := Lib.hid hA3
    clear hA3
    go_wp2_with (first | (at_builtin; refine wpList_append_own_at _ rfl (.tmp 29) (.tmp 31) 23 rfl W1.heap.size 3 i0 _ 1 8 Tryz.underlying23 hi hz0 hz1 hz2 rfl (by decide) _ acc.length ys rfl (hys.alloc _) ⟨w1.heap.size, 0, none⟩ 1 1 [.int .i64 c] rfl rfl (cell_new1 w1 _ _) (by simp [Value.oneCell']) (by unfold maxLen; have := HLE.out; have := HSZ1.out; omega) (by have := HLE.out; have := HSZ1.out; omega) (by have := HLE.out; have := HSZ1.out; simp; omega) ?_; intro v' w2 hown' hgrow _ hat2; obtain ⟨hnew, hB2⟩ := OwnR.round (s := wr.heap.size) (x := c) HO.out HB01.out HBL.out HLE.out (hys.alloc _) (Nat.le_refl _) ⟨HI64.out, rfl⟩ rfl hown' hgrow hat2; have HO2 := Lib.hid hnew; have HB2 := Lib.hid hB2; clear hown' hgrow hat2 hnew hB2 hys; have HXv := Lib.hid (HX1.out.below HB2.out); have HBv := Lib.hid (btK HB1.out HB2.out); have wy3 := HXv.out.cell 3; simp only [List.getElem?_cons_succ, List.getElem?_cons_zero] at wy3) | (go_at_call 99; (with_reducible refine (HA3c.out _ HBv.out).mono ?_); rintro e w3 ⟨rfl, hb3⟩))
    go_roundw
    case rel => exact ⟨acc ++ [c], k + 1, c2, by omega, by go_num, rfl, by simp; omega, HQ2.out, HO2.out.below hb3, btK HB2.out hb3⟩
    case measure => simp [intOf]; omega
end Go.Proofs.YtapjglpiofpbmaaGreat
