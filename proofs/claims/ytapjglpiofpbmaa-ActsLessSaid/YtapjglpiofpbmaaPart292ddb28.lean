/- nest.ups, Top and view.Here. Printed by gen-ac26.py. -/
import Derived.Test.YtapjglpiofpbmaaPartb68c9d28
namespace Go.Proofs.Ytapjglpiofpbmaa
open Go.RowKit Go.Sort
attribute [local go_sem] Oper.semAt_some

/-- A thing and those it is in, so many at most. -/
def upsF (pa : List Int) (n : Nat) : Nat → Int → List Int
  | 0, _ => []
  | f + 1, c => if IsTh n c then c :: upsF pa n f (atI pa c) else []
theorem top_ups (pa : List Int) (n : Nat) : ∀ (f : Nat) (t c : Int), topF pa n f t c = (upsF pa n f c).foldl (fun _ y => y) t
  | 0, _, _ => rfl
  | f + 1, t, c => by
    unfold topF upsF
    split
    · rw [top_ups pa n f]; rfl
    · rfl
set_option maxRecDepth 100000 in
set_option maxHeartbeats 4000000 in
theorem ups_own (F : Nat → Prop) (w : World) (x : WorldD) (cs : List Value) (hF : Inn F w) (hx : Holds.world.R F w x cs) (hsm : x.parent.length ≤ 1000000) (n : Nat) (B : Nat) (c0 : Int) (W : World) (hW : Below w.heap.size w W) (bw bx : Nat) (hbw : BoxT W bw cs 38) (hbx : BoxT W bx [.int .i64 c0] 3) (h1 : bw ≠ B) (h2 : bx ≠ B) (h3 : bw ≠ bx) (h4 : w.heap.size ≤ bx) (hown : ownB W B = none) (hBl : B < W.heap.size) :
    SeqOwnK n Try.prog 62 #[.pointer (some ⟨bw, 0, none⟩), .pointer (some ⟨bx, 0, none⟩)] (fun c : Int => #[.int .i64 c]) bx (KpB w.heap.size B) (upsF x.parent x.n x.parent.length c0) W := by
  have hn9 : x.n = x.parent.length := rfl
  have HIS0 : Hid (∀ W', Below w.heap.size w W' → ∀ c : Int, Calls Try.prog 63 #[.agg cs.toArray, .int .i64 c] W' (Gives W' (.bool (decide (IsTh x.n c))))) := fun W' h c => nis_calls F W' x cs (fun b hb => Nat.lt_of_lt_of_le (hF b hb) h.size) (Holds.world.keep (fun b hb => h.block b (hF b hb)) (fun _ h => h) hx) c
  have HN9 := Lib.hid hn9
  have HSTEP : Hid (∀ m c, upsF x.parent x.n (m + 1) c = if IsTh x.n c then c :: upsF x.parent x.n m (atI x.parent c) else []) := fun m c => rfl
  have HZ : Hid (∀ c, upsF x.parent x.n 0 c = []) := fun c => rfl
  obtain ⟨R, hR⟩ : ∃ r, upsF x.parent x.n x.parent.length c0 = r := ⟨_, rfl⟩
  rw [hR]
  have HQ0 : Hid ([] ++ upsF x.parent x.n x.parent.length c0 = R) := hR
  clear hn9 hR
  obtain ⟨-, -, -, -, -, -, wv0, wv1, wv2, wv3, wv4, wv5, wv6, rfl, wg0, wg1, wg2, wg3, wg4, wg5, wg6⟩ := hx
  obtain ⟨wa0, wc0, rfl⟩ := wg0.shape
  have wl0 := wg0.len
  obtain ⟨wa1, wc1, rfl⟩ := wg1.shape
  have wl1 := wg1.len
  obtain ⟨wa2, wc2, rfl⟩ := wg2.shape
  have wl2 := wg2.len
  obtain ⟨wa3, wc3, rfl⟩ := wg3.shape
  have wl3 := wg3.len
  obtain ⟨wa4, wc4, rfl⟩ := wg4.shape
  have wl4 := wg4.len
  obtain ⟨wa5, wc5, rfl⟩ := wg5.shape
  have wl5 := wg5.len
  obtain ⟨wa6, wc6, rfl⟩ := wg6.shape
  have wl6 := wg6.len
  unfold maxLen at wl0 wl1 wl2 wl3 wl4 wl5 wl6
  obtain ⟨xa1, xc1, he1, -, -, hA1⟩ := RdInts.elem wg1 hF
  cases he1
  have WA1 := Lib.hid hA1
  clear hA1
  clear wg0 wg1 wg2 wg3 wg4 wg5 wg6 wl0 wl1 wl2 wl3 wl4 wl5 wl6
  intro l J V hKV hqV hJ hY h0
  have HJ := Lib.hid hJ; have HY := Lib.hid hY
  have HJB : Hid (∀ s A B', J s A → Below A.heap.size A B' → J s B') := fun s A B' h hb => hJ s A B' h ⟨hb.os, hb.tape, hb.output, hb.size, fun k hk _ => hb.block k hk⟩
  have hxw : BoxT V bw [.slice wa0 x.globals.length wc0, .slice wa1 x.parent.length wc1, .slice wa2 x.child.length wc2, .slice wa3 x.next.length wc3, .slice wa4 x.flags.length wc4, .slice wa5 x.props.length wc5, .slice wa6 x.timers.length wc6, .int .u64 x.seed, .int .i64 x.score, .int .i64 x.turns, .int .i64 x.over, .int .i64 x.it, .int .i64 x.go] 38 := hKV.box hbw h1 (by rw [hown]; simp)
  have hxx : BoxT V bx [.int .i64 c0] 3 := hqV.trans hbx
  have hov : ownB V B ≠ some bw := hKV.ne hbw.lt (by rw [hown]; simp)
  have HWV := Lib.hid (hW.trans hKV.below)
  have HBV := Lib.hid (Nat.lt_of_lt_of_le hBl hKV.below.size)
  have HXW := Lib.hid hxw; have HXX := Lib.hid hxx; have HOV := Lib.hid hov
  have H1 := Lib.hid h1; have H2 := Lib.hid h2; have H3 := Lib.hid h3
  clear hBl hY hJ hKV hqV hxw hxx hov hbw hbx hW hown h1 h2 h3
  obtain ⟨WV, hWV⟩ : ∃ v, Value.agg #[.slice wa0 x.globals.length wc0, .slice wa1 x.parent.length wc1, .slice wa2 x.child.length wc2, .slice wa3 x.next.length wc3, .slice wa4 x.flags.length wc4, .slice wa5 x.props.length wc5, .slice wa6 x.timers.length wc6, .int .u64 x.seed, .int .i64 x.score, .int .i64 x.turns, .int .i64 x.over, .int .i64 x.it, .int .i64 x.go] = v := ⟨_, rfl⟩
  have HLW : Hid (∀ W, BoxT W bw [.slice wa0 x.globals.length wc0, .slice wa1 x.parent.length wc1, .slice wa2 x.child.length wc2, .slice wa3 x.next.length wc3, .slice wa4 x.flags.length wc4, .slice wa5 x.props.length wc5, .slice wa6 x.timers.length wc6, .int .u64 x.seed, .int .i64 x.score, .int .i64 x.turns, .int .i64 x.over, .int .i64 x.it, .int .i64 x.go] 38 → (Instr.loadAt 38 (.pointer (some ⟨bw, 0, none⟩))).run Try.prog W = .ok WV W) := fun W h => by
    rw [← hWV]
    exact run_loadAt_mid W _ 0 38 _ _ h.range Try.underlying38 rfl (by kernel_rfl)
  have HIS := Lib.hid HIS0.out
  rw [hWV] at HIS
  clear hWV HIS0
  refine callsIn_of_wp Try.func62 rfl trivial ?_ rfl
  simp only [Try.ntmps62, List.size_toArray, List.length_cons, List.length_nil, Nat.reduceAdd, Nat.reduceSub, Array.replicate_succ, Array.replicate_zero, List.push_toArray, List.append_toArray, List.nil_append, List.cons_append]
  have e1 := HXW.out.cell 1
  simp only [List.getElem?_cons_succ, List.getElem?_cons_zero] at e1
  have HJ0 := Lib.hid h0
  clear h0
  gi_wp2
  clear e1
  gi_loopw [4] (fun lf wr => ∃ (pre : List Int) (m : Nat) (c : Int), lf = .int .i64 m ∧ m ≤ x.parent.length ∧ Hid (pre ++ upsF x.parent x.n m c = R) ∧ Hid (J pre wr) ∧ Hid (BoxT wr bw [.slice wa0 x.globals.length wc0, .slice wa1 x.parent.length wc1, .slice wa2 x.child.length wc2, .slice wa3 x.next.length wc3, .slice wa4 x.flags.length wc4, .slice wa5 x.props.length wc5, .slice wa6 x.timers.length wc6, .int .u64 x.seed, .int .i64 x.score, .int .i64 x.turns, .int .i64 x.over, .int .i64 x.it, .int .i64 x.go] 38) ∧ Hid (BoxT wr bx [.int .i64 c] 3) ∧ Hid (Below w.heap.size w wr) ∧ Hid (ownB wr B ≠ some bw) ∧ Hid (B < wr.heap.size)) (fun lf _ => (intOf lf).toNat)
  case atStart => exact ⟨[], x.parent.length, c0, rfl, Nat.le_refl _, HQ0.out, HJ0.out, HXW.out, HXX.out, HWV.out, HOV.out, HBV.out⟩
  case round =>
    clear HQ0 HJ0 HXW HXX HWV HOV
    obtain ⟨pre, m, c, rfl, hm, HQ, HJp, HXw, HXx, HBw, HOw, HBl⟩ := hrel
    have d0 := HXx.out.cell 0
    simp only [List.getElem?_cons_zero] at d0
    by_cases hc : IsTh x.n c
    rotate_left
    · have hi := fun W h => HIS.out W h c
      rw [decide_eq_false hc] at hi
      have HIS := Lib.hid hi
      have HF : Hid (pre = R) := by
        have h9 := HQ.out
        cases m with
        | zero => rwa [HZ.out, List.append_nil] at h9
        | succ m => rwa [HSTEP.out, if_neg hc, List.append_nil] at h9
      clear hi hc
      gi_wp2_with (first | ((with_reducible refine wpListIn_off ?hw9 (fun _ => trivial) ?_); (case hw9 => rfl); simp only [Act.put, List.setIfInBounds_toArray, List.set_cons_succ, List.set_cons_zero]) | ((with_reducible refine wpListIn_load_T 38 (.tmp 1) ?hw9 ⟨bw, 0, none⟩ ?hx9 WV (HLW.out _ HXw.out) ?_); (case hw9 => rfl); (case hx9 => first | rfl | (exact rfl))) | ((first | (refine ⟨trivial, ?_⟩; gi_at_call 63; (with_reducible refine (callsIn_wide.2 (HIS.out _ HBw.out)).mono ?_)) | (refine ⟨trivial, fun hh => (by simp [Fence.wide] at hh), ?_⟩; gi_at_call 63; (with_reducible refine (callsIn_wide.2 (HIS.out _ HBw.out)).mono ?_))); rintro e w1 ⟨rfl, hb1⟩))
      (try (refine ⟨fun _ h => (by cases h), ?_⟩; gi_wp2))
      go_end0
      exact ⟨⟨_, rfl⟩, by rw [← HF.out]; exact HJB.out _ _ _ HJp.out hb1⟩
    have hi := fun W h => HIS.out W h c
    rw [decide_eq_true hc] at hi
    have HIS2 := Lib.hid hi
    clear hi
    cases m with
    | zero =>
      have HF : Hid (pre = R) := by
        have h9 := HQ.out
        rwa [HZ.out, List.append_nil] at h9
      clear hc
      gi_wp2_with (first | ((with_reducible refine wpListIn_off ?hw9 (fun _ => trivial) ?_); (case hw9 => rfl); simp only [Act.put, List.setIfInBounds_toArray, List.set_cons_succ, List.set_cons_zero]) | ((with_reducible refine wpListIn_load_T 38 (.tmp 1) ?hw9 ⟨bw, 0, none⟩ ?hx9 WV (HLW.out _ HXw.out) ?_); (case hw9 => rfl); (case hx9 => first | rfl | (exact rfl))) | ((first | (refine ⟨trivial, ?_⟩; gi_at_call 63; (with_reducible refine (callsIn_wide.2 (HIS2.out _ HBw.out)).mono ?_)) | (refine ⟨trivial, fun hh => (by simp [Fence.wide] at hh), ?_⟩; gi_at_call 63; (with_reducible refine (callsIn_wide.2 (HIS2.out _ HBw.out)).mono ?_))); rintro e w1 ⟨rfl, hb1⟩))
      (try (refine ⟨fun _ h => (by cases h), ?_⟩; gi_wp2))
      go_end0
      exact ⟨⟨_, rfl⟩, by rw [← HF.out]; exact HJB.out _ _ _ HJp.out hb1⟩
    | succ m =>
      have hq := HQ.out
      rw [HSTEP.out, if_pos hc] at hq
      have HPX : Hid (pre ++ [c] <+: R) := ⟨_, by rw [List.append_assoc]; exact hq⟩
      obtain ⟨jn, rfl, jn1, jn2⟩ := th_nat hc
      have k3 : jn < x.parent.length := by have := HN9.out; omega
      have k4 : (0 : Int) ≤ (jn : Int) := by omega
      have k5 : (jn : Int) < (x.parent.length : Int) := by omega
      obtain ⟨xb3, xo3, rfl, hel3⟩ := WA1.out (by omega)
      have HE3 := Lib.hid (fun W h => hel3 W h jn k3)
      rw [atI_get k3] at hq
      generalize x.parent[jn] = z at HE3 hq
      have HQN : Hid ((pre ++ [(jn : Int)]) ++ upsF x.parent x.n m z = R) := by show _ = R; rw [List.append_assoc]; exact hq
      have hm0 : (0 : Int) < ((m + 1 : Nat) : Int) := by omega
      have hm1 : ((m + 1 : Nat) : Int) ≤ 1000000 := by omega
      have hm2 : ((m + 1 : Nat) : Int) = (m : Int) + 1 := by omega
      obtain ⟨M, hM⟩ : ∃ M : Int, ((m + 1 : Nat) : Int) = M := ⟨_, rfl⟩
      rw [hM] at hm0 hm1 hm2 ⊢
      have HM := Lib.hid hm2
      clear hc hel3 hq hm2 hM
      gi_wp2_with (first | ((with_reducible refine wpListIn_load_T 38 (.tmp 1) ?hw9 ⟨bw, 0, none⟩ ?hx9 WV (HLW.out _ HXw.out) ?_); (case hw9 => rfl); (case hx9 => first | rfl | (exact rfl))) | ((first | (refine ⟨trivial, ?_⟩; gi_at_call 63; (with_reducible refine (callsIn_wide.2 (HIS2.out _ HBw.out)).mono ?_)) | (refine ⟨trivial, fun hh => (by simp [Fence.wide] at hh), ?_⟩; gi_at_call 63; (with_reducible refine (callsIn_wide.2 (HIS2.out _ HBw.out)).mono ?_))); rintro e w1 ⟨rfl, hb1⟩; have HX1 := Lib.hid (HXx.out.below hb1); have d1 := HX1.out.cell 0; simp only [List.getElem?_cons_zero] at d1; obtain ⟨fn, tmps, assign, body, hy, hR⟩ := HY.out pre (jn : Int) w1 (HJB.out _ _ _ HJp.out hb1) HPX.out))
      refine ⟨fun hh => (by simp [Fence.wide] at hh), hR.mono ?_⟩
      rintro e w3 ⟨rfl, hJ3, hq3, hk3⟩
      have HW1 := Lib.hid (HXw.out.below hb1)
      have hob : ownB w1 B ≠ some bw := fun e => by
        rw [ownB_of (hb1.block B HBl.out)] at e
        exact HOw.out e
      have HBN := Lib.hid (Nat.lt_of_lt_of_le (Nat.lt_of_lt_of_le HBl.out hb1.size) hk3.below.size)
      have HX3 : Hid (BoxT w3 bx [.int .i64 (jn : Int)] 3) := hq3.trans HX1.out
      have HW3 := Lib.hid (hk3.box HW1.out H1.out hob)
      have HO3 := Lib.hid (hk3.ne HW1.out.lt hob)
      have HB3 := Lib.hid ((HBw.out.trans (hb1.mono HBw.out.size)).trans hk3.below)
      have HJ3 := Lib.hid hJ3
      have wy1 := HW3.out.cell 1
      have d3 := HX3.out.cell 0
      simp only [List.getElem?_cons_succ, List.getElem?_cons_zero] at wy1 d3
      have f3 := Boxed.frozen (show Boxed w3 bx 3 (.int .i64 (jn : Int)) from HX3.out)
      have q3 := HE3.out _ HB3.out
      clear hJ3 hq3 hk3 hob hR hy d1 d0
      gi_wp2
      go_roundw
      case rel => exact ⟨pre ++ [(jn : Int)], m, z, by have := HM.out; go_num, by omega, HQN.out, HJ.out _ _ _ HJ3.out (Turns.setCell _ _ _), (Below.heap_setCell _ _ _ _ H3.out).trans HW3.out, Boxed.set _ HX3.out, HB3.out.setCell (p := ⟨bx, 0, none⟩) h4 _, by rw [ownB_of (Below.heap_setCell _ _ _ _ (Ne.symm H2.out))]; exact HO3.out, Nat.lt_of_lt_of_le HBN.out (Turns.setCell bx w3 _).size⟩
      case measure => have := HM.out; simp [intOf]; omega
set_option maxRecDepth 100000 in
set_option maxHeartbeats 2000000 in
theorem ups_calls (F : Nat → Prop) (w : World) (x : WorldD) (cs : List Value) (_hF : Inn F w) (hx : Holds.world.R F w x cs) (c0 : Int) : Calls Try.prog 53 #[.agg cs.toArray, .int .i64 c0] w (fun e w' => ∃ bw bx, w.heap.size ≤ bw ∧ bw < bx ∧ e = .returned (.func (.func 62) #[] #[.pointer (some ⟨bw, 0, none⟩), .pointer (some ⟨bx, 0, none⟩)]) ∧ BoxT w' bw cs 38 ∧ BoxT w' bx [.int .i64 c0] 3 ∧ Below w.heap.size w w') := by
  obtain ⟨-, -, -, -, -, -, wv0, wv1, wv2, wv3, wv4, wv5, wv6, rfl, wg0, wg1, wg2, wg3, wg4, wg5, wg6⟩ := hx
  obtain ⟨wa0, wc0, rfl⟩ := wg0.shape
  have wl0 := wg0.len
  obtain ⟨wa1, wc1, rfl⟩ := wg1.shape
  have wl1 := wg1.len
  obtain ⟨wa2, wc2, rfl⟩ := wg2.shape
  have wl2 := wg2.len
  obtain ⟨wa3, wc3, rfl⟩ := wg3.shape
  have wl3 := wg3.len
  obtain ⟨wa4, wc4, rfl⟩ := wg4.shape
  have wl4 := wg4.len
  obtain ⟨wa5, wc5, rfl⟩ := wg5.shape
  have wl5 := wg5.len
  obtain ⟨wa6, wc6, rfl⟩ := wg6.shape
  have wl6 := wg6.len
  unfold maxLen at wl0 wl1 wl2 wl3 wl4 wl5 wl6
  clear wg0 wg1 wg2 wg3 wg4 wg5 wg6
  obtain ⟨W1, hW1⟩ : ∃ z, w.alloc (.cells #[.slice wa0 x.globals.length wc0, .slice wa1 x.parent.length wc1, .slice wa2 x.child.length wc2, .slice wa3 x.next.length wc3, .slice wa4 x.flags.length wc4, .slice wa5 x.props.length wc5, .slice wa6 x.timers.length wc6, .int .u64 x.seed, .int .i64 x.score, .int .i64 x.turns, .int .i64 x.over, .int .i64 x.it, .int .i64 x.go] 38) = z := ⟨_, rfl⟩
  have hb1 : Below w.heap.size w W1 := by rw [← hW1]; exact (Below.refl _ _).alloc (Nat.le_refl _) _
  have hx1 : BoxT W1 w.heap.size [.slice wa0 x.globals.length wc0, .slice wa1 x.parent.length wc1, .slice wa2 x.child.length wc2, .slice wa3 x.next.length wc3, .slice wa4 x.flags.length wc4, .slice wa5 x.props.length wc5, .slice wa6 x.timers.length wc6, .int .u64 x.seed, .int .i64 x.score, .int .i64 x.turns, .int .i64 x.over, .int .i64 x.it, .int .i64 x.go] 38 := by rw [← hW1]; exact BoxT.new _ _ _
  have HW1 := Lib.hid hW1; have HBv := Lib.hid hb1; have HXv := Lib.hid hx1
  have HSZ := Lib.hid (show W1.heap.size = w.heap.size + 1 by rw [← hW1]; simp)
  clear hW1 hb1 hx1
  go_enter Try.func53, Try.ntmps53
  go_upto_region 1 with fail
  rw [HW1.out]
  obtain ⟨WV, hWV⟩ : ∃ v, Value.agg #[.slice wa0 x.globals.length wc0, .slice wa1 x.parent.length wc1, .slice wa2 x.child.length wc2, .slice wa3 x.next.length wc3, .slice wa4 x.flags.length wc4, .slice wa5 x.props.length wc5, .slice wa6 x.timers.length wc6, .int .u64 x.seed, .int .i64 x.score, .int .i64 x.turns, .int .i64 x.over, .int .i64 x.it, .int .i64 x.go] = v := ⟨_, rfl⟩
  have HLW : Hid (∀ W, BoxT W w.heap.size [.slice wa0 x.globals.length wc0, .slice wa1 x.parent.length wc1, .slice wa2 x.child.length wc2, .slice wa3 x.next.length wc3, .slice wa4 x.flags.length wc4, .slice wa5 x.props.length wc5, .slice wa6 x.timers.length wc6, .int .u64 x.seed, .int .i64 x.score, .int .i64 x.turns, .int .i64 x.over, .int .i64 x.it, .int .i64 x.go] 38 → (Instr.loadAt 38 (.pointer (some ⟨w.heap.size, 0, none⟩))).run Try.prog W = .ok WV W) := fun W h => by
    rw [← hWV]
    exact run_loadAt_mid W _ 0 38 _ _ h.range Try.underlying38 rfl (by kernel_rfl)
  rw [hWV]
  clear HW1
  clear hWV HLW
  have hbA : Below W1.heap.size W1 (W1.alloc (.cells #[.int .i64 c0] 3)) := (Below.refl _ _).alloc (Nat.le_refl _) _
  have HBA := Lib.hid hbA
  clear hbA
  go_wp2
  go_ret
  exact ⟨_, _, Nat.le_refl _, (show w.heap.size < w.heap.size + 1 by omega), rfl, HXv.out.below HBA.out, by rw [← HSZ.out]; exact BoxT.new _ _ _, btK HBv.out HBA.out⟩
set_option maxRecDepth 100000 in
set_option maxHeartbeats 2000000 in
theorem topP_calls (F : Nat → Prop) (w : World) (x : WorldD) (cs : List Value) (hF : Inn F w) (hx : Holds.world.R F w x cs) (hsm : x.parent.length ≤ 1000000) (c0 : Int) : Calls Try.prog 37 #[.agg cs.toArray, .int .i64 c0] w (Gives w (.int .i64 (x.top c0))) := by
  have HUP0 := Lib.hid (fun (W : World) (h : Below w.heap.size w W) => ups_calls F W x cs (fun b hb => Nat.lt_of_lt_of_le (hF b hb) h.size) (Holds.world.keep (fun b hb => h.block b (hF b hb)) (fun _ h => h) hx) c0)
  have HOWN := Lib.hid (fun (n B : Nat) (W : World) (h : Below w.heap.size w W) (bw bx : Nat) (h1 : BoxT W bw cs 38) (h2 : BoxT W bx [.int .i64 c0] 3) => ups_own F w x cs hF hx hsm n B c0 W h bw bx h1 h2)
  have HTP : Hid (x.top c0 = (upsF x.parent x.n x.parent.length c0).foldl (fun _ y => y) 0) := top_ups x.parent x.n x.parent.length 0 c0
  generalize x.top c0 = R at HTP
  generalize upsF x.parent x.n x.parent.length c0 = us at HOWN HTP
  obtain ⟨-, -, -, -, -, -, wv0, wv1, wv2, wv3, wv4, wv5, wv6, rfl, wg0, wg1, wg2, wg3, wg4, wg5, wg6⟩ := hx
  obtain ⟨wa0, wc0, rfl⟩ := wg0.shape
  have wl0 := wg0.len
  obtain ⟨wa1, wc1, rfl⟩ := wg1.shape
  have wl1 := wg1.len
  obtain ⟨wa2, wc2, rfl⟩ := wg2.shape
  have wl2 := wg2.len
  obtain ⟨wa3, wc3, rfl⟩ := wg3.shape
  have wl3 := wg3.len
  obtain ⟨wa4, wc4, rfl⟩ := wg4.shape
  have wl4 := wg4.len
  obtain ⟨wa5, wc5, rfl⟩ := wg5.shape
  have wl5 := wg5.len
  obtain ⟨wa6, wc6, rfl⟩ := wg6.shape
  have wl6 := wg6.len
  unfold maxLen at wl0 wl1 wl2 wl3 wl4 wl5 wl6
  clear wg0 wg1 wg2 wg3 wg4 wg5 wg6 wl0 wl1 wl2 wl3 wl4 wl5 wl6
  obtain ⟨W1, hW1⟩ : ∃ z, w.alloc (.cells #[.slice wa0 x.globals.length wc0, .slice wa1 x.parent.length wc1, .slice wa2 x.child.length wc2, .slice wa3 x.next.length wc3, .slice wa4 x.flags.length wc4, .slice wa5 x.props.length wc5, .slice wa6 x.timers.length wc6, .int .u64 x.seed, .int .i64 x.score, .int .i64 x.turns, .int .i64 x.over, .int .i64 x.it, .int .i64 x.go] 38) = z := ⟨_, rfl⟩
  obtain ⟨W2, hW2⟩ : ∃ z, W1.alloc (.cells #[.int .i64 0] 3) = z := ⟨_, rfl⟩
  have hz1 : W1.heap.size = w.heap.size + 1 := by rw [← hW1]; simp
  have hz2 : W2.heap.size = W1.heap.size + 1 := by rw [← hW2]; simp
  have hb1 : Below w.heap.size w W1 := by rw [← hW1]; exact (Below.refl _ _).alloc (Nat.le_refl _) _
  have hb2 : Below W1.heap.size W1 W2 := by rw [← hW2]; exact (Below.refl _ _).alloc (Nat.le_refl _) _
  have hx1 : BoxT W1 w.heap.size [.slice wa0 x.globals.length wc0, .slice wa1 x.parent.length wc1, .slice wa2 x.child.length wc2, .slice wa3 x.next.length wc3, .slice wa4 x.flags.length wc4, .slice wa5 x.props.length wc5, .slice wa6 x.timers.length wc6, .int .u64 x.seed, .int .i64 x.score, .int .i64 x.turns, .int .i64 x.over, .int .i64 x.it, .int .i64 x.go] 38 := by rw [← hW1]; exact BoxT.new _ _ _
  have hx2 : BoxT W2 (w.heap.size + 1) [.int .i64 0] 3 := by rw [← hz1, ← hW2]; exact BoxT.new _ _ _
  have HXv := Lib.hid (hx1.below hb2); have HX2 := Lib.hid hx2; have HBv := Lib.hid (btK hb1 hb2); have HW1 := Lib.hid hW1; have HW2 := Lib.hid hW2; have HZ2 := Lib.hid (by rw [hz2, hz1] : W2.heap.size = w.heap.size + 1 + 1)
  clear hW1 hW2 hb1 hb2 hx1 hx2 hz2 hz1
  obtain ⟨WV, hWV⟩ : ∃ v, Value.agg #[.slice wa0 x.globals.length wc0, .slice wa1 x.parent.length wc1, .slice wa2 x.child.length wc2, .slice wa3 x.next.length wc3, .slice wa4 x.flags.length wc4, .slice wa5 x.props.length wc5, .slice wa6 x.timers.length wc6, .int .u64 x.seed, .int .i64 x.score, .int .i64 x.turns, .int .i64 x.over, .int .i64 x.it, .int .i64 x.go] = v := ⟨_, rfl⟩
  have HLW : Hid (∀ W, BoxT W w.heap.size [.slice wa0 x.globals.length wc0, .slice wa1 x.parent.length wc1, .slice wa2 x.child.length wc2, .slice wa3 x.next.length wc3, .slice wa4 x.flags.length wc4, .slice wa5 x.props.length wc5, .slice wa6 x.timers.length wc6, .int .u64 x.seed, .int .i64 x.score, .int .i64 x.turns, .int .i64 x.over, .int .i64 x.it, .int .i64 x.go] 38 → (Instr.loadAt 38 (.pointer (some ⟨w.heap.size, 0, none⟩))).run Try.prog W = .ok WV W) := fun W h => by
    rw [← hWV]
    exact run_loadAt_mid W _ 0 38 _ _ h.range Try.underlying38 rfl (by kernel_rfl)
  have HUP := Lib.hid HUP0.out
  rw [hWV] at HUP
  have HWV := Lib.hid hWV
  clear hWV HUP0
  refine (callsIn_wide (n := 3)).1 ?_
  refine callsIn_of_wp_marks Try.func37 rfl trivial ?_ rfl
  simp only [Try.ntmps37, List.size_toArray, List.length_cons, List.length_nil, Nat.reduceAdd, Nat.reduceSub, Array.replicate_succ, Array.replicate_zero, List.push_toArray, List.append_toArray, List.nil_append, List.cons_append]
  gi_upto_region 2 with fail
  rw [HW1.out, HW2.out, HWV.out]
  clear HW1 HW2 HWV
  gi_wp2_with (first | ((with_reducible refine wpListIn_load_T 38 (.tmp 2) ?hw9 ⟨w.heap.size, 0, none⟩ ?hx9 WV (HLW.out _ HXv.out) ?_); (case hw9 => rfl); (case hx9 => first | rfl | (exact rfl))) | ((first | (refine ⟨trivial, ?_⟩; gi_at_call 53; (with_reducible refine (callsIn_wide.2 (HUP.out _ HBv.out)).mono ?_)) | (refine ⟨trivial, fun hh => (by simp [Fence.wide] at hh), ?_⟩; gi_at_call 53; (with_reducible refine (callsIn_wide.2 (HUP.out _ HBv.out)).mono ?_))); rintro e w1 ⟨bw, bx, hbw, hbx, rfl, hx1, hx2, hb1⟩))
  have hB1 := btK HBv.out hb1
  have hXo := HX2.out.below hb1
  have hsz1 : W2.heap.size ≤ w1.heap.size := hb1.size
  have hz := HZ2.out
  have hob : ownB w1 (w.heap.size + 1) = none := by unfold ownB; rw [show w1.cell? ⟨w.heap.size + 1, 0, none⟩ = some (.int .i64 0) from hXo.cell 0]; rfl
  have HO := HOWN.out 2 (w.heap.size + 1) w1 hB1 bw bx hx1 hx2 (by omega) (by omega) (by omega) (by omega) hob hXo.lt
  refine wpIn_range_ownK (gf := 62) (lb := #[.pointer (some ⟨bw, 0, none⟩), .pointer (some ⟨bx, 0, none⟩)]) rfl (enters_of Try.func62 (by kernel_rfl) rfl) HO hx2.lt rfl (KpB.refl _ _ _) (fun h k => KpB.trans h k) (fun W o h => KpB.on ((Below.refl _ W).alloc (Nat.le_refl _) o) (by omega) (by have := hXo.lt; omega)) (KpB.put (w := w1) (by omega) hXo.lt) (fun _ => rfl)
    (fun pre W => Boxed W (w.heap.size + 1) 3 (.int .i64 (pre.foldl (fun _ y => y) 0)) ∧ Below w.heap.size w W)
    ?hI ?hIq ⟨hXo, hB1⟩
    (fun c => { tmps := #[WV, .int .i64 c0, .pointer (some ⟨w.heap.size, 0, none⟩), undef, .int .i64 0, .pointer (some ⟨w.heap.size + 1, 0, none⟩), .int .i64 c, WV, .int .i64 c0, .func (.func 62) #[] #[.pointer (some ⟨bw, 0, none⟩), .pointer (some ⟨bx, 0, none⟩)], .int .i64 c, undef, undef], defers := [] }) ?assign ?body ?done
  case hI =>
    exact OwnFrom.and (Own.from (boxed_own (w.heap.size + 1) 3 (fun pre : List Int => .int .i64 (pre.foldl (fun _ y => y) 0))) _) (ownFrom_below (Nat.le_refl _) (by omega))
  case hIq =>
    rintro pre A B' ⟨hv, hB⟩ ht
    exact ⟨hv.kept ht (by simp; omega), hB.grown ht hB.size (fun k e => by cases e; omega)⟩
  case assign =>
    intro l c W K hK
    gi_wp2
    exact hK
  case body =>
    rintro l pre c W ⟨hv, hB⟩ hpx
    have hc := hv.cell
    have hf := hv.frozen
    gi_wp2
    refine ⟨KeepsOthers.setCell _ _ _, Below.heap_setCell _ _ _ _ (by show bx ≠ w.heap.size + 1; omega), ⟨(Below.refl _ W).setCell (p := ⟨w.heap.size + 1, 0, none⟩) (by show w.heap.size ≤ w.heap.size + 1; omega) _, fun b o hb ho hne _ => ?_, .inl ?_⟩, by rw [List.foldl_append]; exact hv.set _, hB.setCell (p := ⟨w.heap.size + 1, 0, none⟩) (by show w.heap.size ≤ w.heap.size + 1; omega) _⟩
    · rw [Below.heap_setCell _ _ _ _ hne]; exact hb
    · unfold ownB
      rw [(hv.set (.int .i64 c)).cell, hc]
      rfl
  case done =>
    rintro D W hD ⟨hv, hB⟩ hK
    have hc := hv.cell
    have hR := HTP.out
    subst hR
    gi_wp2
    refine ⟨by simp, .inl ⟨_, _, rfl, run_takeDeferred hK, ?_⟩⟩
    exact ⟨_, results_tmp rfl _ _ _, rfl, hB.trans (belowK_b (w := w) (Nat.le_refl _) W D _ _ (by omega) hK rfl rfl)⟩
set_option maxRecDepth 100000 in
set_option maxHeartbeats 2000000 in
theorem hereP_calls (F : Nat → Prop) (w : World) (x : WorldD) (cs : List Value) (hF : Inn F w) (hx : Holds.world.R F w x cs) (hsm : x.parent.length ≤ 1000000) : Calls Try.prog 23 #[.agg cs.toArray] w (Gives w (.int .i64 (x.top 1))) := by
  have HTP0 : Hid (∀ W, Below w.heap.size w W → Calls Try.prog 37 #[.agg cs.toArray, .int .i64 1] W (Gives W (.int .i64 (x.top 1)))) := fun W h => topP_calls F W x cs (fun b hb => Nat.lt_of_lt_of_le (hF b hb) h.size) (Holds.world.keep (fun b hb => h.block b (hF b hb)) (fun _ h => h) hx) hsm 1
  generalize x.top 1 = l at HTP0 ⊢
  obtain ⟨-, -, -, -, -, -, wv0, wv1, wv2, wv3, wv4, wv5, wv6, rfl, wg0, wg1, wg2, wg3, wg4, wg5, wg6⟩ := hx
  obtain ⟨wa0, wc0, rfl⟩ := wg0.shape
  have wl0 := wg0.len
  obtain ⟨wa1, wc1, rfl⟩ := wg1.shape
  have wl1 := wg1.len
  obtain ⟨wa2, wc2, rfl⟩ := wg2.shape
  have wl2 := wg2.len
  obtain ⟨wa3, wc3, rfl⟩ := wg3.shape
  have wl3 := wg3.len
  obtain ⟨wa4, wc4, rfl⟩ := wg4.shape
  have wl4 := wg4.len
  obtain ⟨wa5, wc5, rfl⟩ := wg5.shape
  have wl5 := wg5.len
  obtain ⟨wa6, wc6, rfl⟩ := wg6.shape
  have wl6 := wg6.len
  unfold maxLen at wl0 wl1 wl2 wl3 wl4 wl5 wl6
  clear wg0 wg1 wg2 wg3 wg4 wg5 wg6
  obtain ⟨W1, hW1⟩ : ∃ z, w.alloc (.cells #[.slice wa0 x.globals.length wc0, .slice wa1 x.parent.length wc1, .slice wa2 x.child.length wc2, .slice wa3 x.next.length wc3, .slice wa4 x.flags.length wc4, .slice wa5 x.props.length wc5, .slice wa6 x.timers.length wc6, .int .u64 x.seed, .int .i64 x.score, .int .i64 x.turns, .int .i64 x.over, .int .i64 x.it, .int .i64 x.go] 38) = z := ⟨_, rfl⟩
  have hb1 : Below w.heap.size w W1 := by rw [← hW1]; exact (Below.refl _ _).alloc (Nat.le_refl _) _
  have hx1 : BoxT W1 w.heap.size [.slice wa0 x.globals.length wc0, .slice wa1 x.parent.length wc1, .slice wa2 x.child.length wc2, .slice wa3 x.next.length wc3, .slice wa4 x.flags.length wc4, .slice wa5 x.props.length wc5, .slice wa6 x.timers.length wc6, .int .u64 x.seed, .int .i64 x.score, .int .i64 x.turns, .int .i64 x.over, .int .i64 x.it, .int .i64 x.go] 38 := by rw [← hW1]; exact BoxT.new _ _ _
  have HW1 := Lib.hid hW1; have HBv := Lib.hid hb1; have HXv := Lib.hid hx1
  clear hW1 hb1 hx1
  go_enter Try.func23, Try.ntmps23
  go_upto_region 1 with fail
  rw [HW1.out]
  obtain ⟨WV, hWV⟩ : ∃ v, Value.agg #[.slice wa0 x.globals.length wc0, .slice wa1 x.parent.length wc1, .slice wa2 x.child.length wc2, .slice wa3 x.next.length wc3, .slice wa4 x.flags.length wc4, .slice wa5 x.props.length wc5, .slice wa6 x.timers.length wc6, .int .u64 x.seed, .int .i64 x.score, .int .i64 x.turns, .int .i64 x.over, .int .i64 x.it, .int .i64 x.go] = v := ⟨_, rfl⟩
  have HLW : Hid (∀ W, BoxT W w.heap.size [.slice wa0 x.globals.length wc0, .slice wa1 x.parent.length wc1, .slice wa2 x.child.length wc2, .slice wa3 x.next.length wc3, .slice wa4 x.flags.length wc4, .slice wa5 x.props.length wc5, .slice wa6 x.timers.length wc6, .int .u64 x.seed, .int .i64 x.score, .int .i64 x.turns, .int .i64 x.over, .int .i64 x.it, .int .i64 x.go] 38 → (Instr.loadAt 38 (.pointer (some ⟨w.heap.size, 0, none⟩))).run Try.prog W = .ok WV W) := fun W h => by
    rw [← hWV]
    exact run_loadAt_mid W _ 0 38 _ _ h.range Try.underlying38 rfl (by kernel_rfl)
  rw [hWV]
  clear HW1
  have HTP := Lib.hid HTP0.out
  rw [hWV] at HTP
  clear hWV HTP0
  go_wp2_with (first | ((with_reducible refine wpList_load_T 38 (.tmp 1) ?hw9 ⟨w.heap.size, 0, none⟩ ?hx9 WV (HLW.out _ HXv.out) ?_); (case hw9 => rfl); (case hx9 => first | rfl | (exact rfl))) | (go_at_call 37; (with_reducible refine (HTP.out _ HBv.out).mono ?_); rintro e w1 ⟨rfl, hb1⟩))
  go_ret
  exact ⟨rfl, btK HBv.out hb1⟩
end Go.Proofs.Ytapjglpiofpbmaa
/- view.Lit. Printed by gen-ac27.py. -/
namespace Go.Proofs.Ytapjglpiofpbmaa
open Go.RowKit Go.Sort
attribute [local go_sem] Oper.semAt_some

theorem boxT_own {β : Type} (b : Nat) (cs : List Value) (T : TypeId) : Own (fun (_ : β) W => BoxT W b cs T) := fun s X Y row hs hg hrow =>
  (hg.block b (BoxT.lt hs) (fun e' => by obtain ⟨o, ho, hc⟩ := hrow b e'.symm; rw [show X.heap[b]? = _ from hs] at ho; cases ho; cases hc)).trans hs
set_option maxRecDepth 100000 in
set_option maxHeartbeats 4000000 in
theorem litP_calls (F : Nat → Prop) (w : World) (t : TabD) (x : WorldD) (cs ds : List Value) (hF : Inn F w) (ht : Holds.tab.R F w t cs) (hx : Holds.world.R F w x ds) (hN : NestK x) (h128 : x.parent.length ≤ 128) (hfl : x.flags.length = x.parent.length) (hf0 : ∀ f ∈ x.flags, 0 ≤ f) : Calls Try.prog 19 #[.agg cs.toArray, .agg ds.toArray] w (Gives w (.bool x.lit)) := by
  have HHE0 : Hid (∀ W, Below w.heap.size w W → Calls Try.prog 23 #[.agg ds.toArray] W (Gives W (.int .i64 (x.top 1)))) := fun W h => hereP_calls F W x ds (fun b hb => Nat.lt_of_lt_of_le (hF b hb) h.size) (Holds.world.keep (fun b hb => h.block b (hF b hb)) (fun _ h => h) hx) (by omega)
  have HVH0 : Hid (∀ W, Below w.heap.size w W → ∀ c : Int, Calls Try.prog 33 #[.agg ds.toArray, .int .i64 c, .int .i64 0] W (Gives W (.bool (flagF x.flags 0 c)))) := fun W h c => hasV_calls F W x ds (fun b hb => Nat.lt_of_lt_of_le (hF b hb) h.size) (Holds.world.keep (fun b hb => h.block b (hF b hb)) (fun _ h => h) hx) hfl hf0 c 0 (by omega)
  have HRE0 : Hid (∀ W, Below w.heap.size w W → ∀ c, Calls Try.prog 22 #[.agg ds.toArray, .int .i64 c] W (fun e w' => ∃ bw bx, e = .returned (.func (.func 35) #[] #[.pointer (some ⟨bw, 0, none⟩), .pointer (some ⟨bx, 0, none⟩)]) ∧ BoxT w' bw ds 38 ∧ BoxT w' bx [.int .i64 c] 3 ∧ Below W.heap.size W w')) := fun W h c => reached_calls F W x ds (fun b hb => Nat.lt_of_lt_of_le (hF b hb) h.size) (Holds.world.keep (fun b hb => h.block b (hF b hb)) (fun _ h => h) hx) c
  have HSQ := Lib.hid (fun (c : Int) (W : World) (h : Below w.heap.size w W) (bw bx : Nat) (h1 : BoxT W bw ds 38) (h2 : BoxT W bx [.int .i64 c] 3) => reached_seq F w x ds hF hx hN h128 hfl hf0 c W h bw bx h1 h2)
  obtain ⟨R, hR⟩ : ∃ r, x.lit = r := ⟨_, rfl⟩
  rw [hR]
  have HQ0 : Hid ((flagF x.flags 0 (x.top 1) || (x.reach (x.top 1)).any (flagF x.flags 0)) = R) := hR
  clear hR
  generalize x.top 1 = c0 at HHE0 HQ0
  have HSQ1 := Lib.hid (HSQ.out c0)
  clear HSQ
  generalize x.reach c0 = l at HSQ1 HQ0
  generalize flagF x.flags 0 = fl at HVH0 HQ0
  clear hfl hf0
  obtain ⟨i0, i1, i2, i3, i5, v4, v6, v7, v8, v9, v10, v11, v12, v13, v14, rfl, g4, g6, g7, g8, g9, g10, g11, g12, g13, g14⟩ := ht
  obtain ⟨ad4, ca4, rfl⟩ := g4.shape
  obtain ⟨ad6, ca6, rfl⟩ := g6.shape
  obtain ⟨ad7, ca7, rfl⟩ := g7.shape
  obtain ⟨ad8, ca8, rfl⟩ := g8.shape
  obtain ⟨ad9, ca9, rfl⟩ := g9.shape
  obtain ⟨ad10, ca10, rfl⟩ := g10.shape
  obtain ⟨ad11, ca11, rfl⟩ := g11.shape
  obtain ⟨ad12, ca12, rfl⟩ := g12.shape
  obtain ⟨ad13, ca13, rfl⟩ := g13.shape
  obtain ⟨ad14, ca14, rfl⟩ := g14.shape
  have ln4 := g4.len
  have ln6 := g6.len
  have ln7 := g7.len
  have ln8 := g8.len
  have ln9 := g9.len
  have ln10 := g10.len
  have ln11 := g11.len
  have ln12 := g12.len
  have ln13 := g13.len
  have ln14 := g14.len
  unfold maxLen at ln4 ln6 ln7 ln8 ln9 ln10 ln11 ln12 ln13 ln14
  obtain ⟨-, -, -, -, -, -, wv0, wv1, wv2, wv3, wv4, wv5, wv6, rfl, wg0, wg1, wg2, wg3, wg4, wg5, wg6⟩ := hx
  obtain ⟨wa0, wc0, rfl⟩ := wg0.shape
  have wl0 := wg0.len
  obtain ⟨wa1, wc1, rfl⟩ := wg1.shape
  have wl1 := wg1.len
  obtain ⟨wa2, wc2, rfl⟩ := wg2.shape
  have wl2 := wg2.len
  obtain ⟨wa3, wc3, rfl⟩ := wg3.shape
  have wl3 := wg3.len
  obtain ⟨wa4, wc4, rfl⟩ := wg4.shape
  have wl4 := wg4.len
  obtain ⟨wa5, wc5, rfl⟩ := wg5.shape
  have wl5 := wg5.len
  obtain ⟨wa6, wc6, rfl⟩ := wg6.shape
  have wl6 := wg6.len
  unfold maxLen at wl0 wl1 wl2 wl3 wl4 wl5 wl6
  clear g4 g6 g7 g8 g9 g10 g11 g12 g13 g14 wg0 wg1 wg2 wg3 wg4 wg5 wg6
  clear i0 i1 i2 i3 i5
  obtain ⟨W1, hW1⟩ : ∃ z, w.alloc (.cells #[.int .i64 t.title, .int .i64 t.byl, .int .i64 t.release, .int .i64 t.most, .slice ad4 t.texts.length ca4, .int .i64 t.flags, .slice ad6 t.props.length ca6, .slice ad7 t.globals.length ca7, .slice ad8 t.things.length ca8, .slice ad9 t.acts.length ca9, .slice ad10 t.deeds.length ca10, .slice ad11 t.funcs.length ca11, .slice ad12 t.daemons.length ca12, .slice ad13 t.params.length ca13, .slice ad14 t.locals.length ca14] 35) = z := ⟨_, rfl⟩
  obtain ⟨W2, hW2⟩ : ∃ z, W1.alloc (.cells #[.slice wa0 x.globals.length wc0, .slice wa1 x.parent.length wc1, .slice wa2 x.child.length wc2, .slice wa3 x.next.length wc3, .slice wa4 x.flags.length wc4, .slice wa5 x.props.length wc5, .slice wa6 x.timers.length wc6, .int .u64 x.seed, .int .i64 x.score, .int .i64 x.turns, .int .i64 x.over, .int .i64 x.it, .int .i64 x.go] 38) = z := ⟨_, rfl⟩
  have hz1 : W1.heap.size = w.heap.size + 1 := by rw [← hW1]; simp
  have hb1 : Below w.heap.size w W1 := by rw [← hW1]; exact (Below.refl _ _).alloc (Nat.le_refl _) _
  have hb2 : Below W1.heap.size W1 W2 := by rw [← hW2]; exact (Below.refl _ _).alloc (Nat.le_refl _) _
  have hx1 : BoxT W1 w.heap.size [.int .i64 t.title, .int .i64 t.byl, .int .i64 t.release, .int .i64 t.most, .slice ad4 t.texts.length ca4, .int .i64 t.flags, .slice ad6 t.props.length ca6, .slice ad7 t.globals.length ca7, .slice ad8 t.things.length ca8, .slice ad9 t.acts.length ca9, .slice ad10 t.deeds.length ca10, .slice ad11 t.funcs.length ca11, .slice ad12 t.daemons.length ca12, .slice ad13 t.params.length ca13, .slice ad14 t.locals.length ca14] 35 := by rw [← hW1]; exact BoxT.new _ _ _
  have hx2 : BoxT W2 (w.heap.size + 1) [.slice wa0 x.globals.length wc0, .slice wa1 x.parent.length wc1, .slice wa2 x.child.length wc2, .slice wa3 x.next.length wc3, .slice wa4 x.flags.length wc4, .slice wa5 x.props.length wc5, .slice wa6 x.timers.length wc6, .int .u64 x.seed, .int .i64 x.score, .int .i64 x.turns, .int .i64 x.over, .int .i64 x.it, .int .i64 x.go] 38 := by rw [← hz1, ← hW2]; exact BoxT.new _ _ _
  have HXt := Lib.hid (hx1.below hb2); have HXv := Lib.hid hx2; have HBv := Lib.hid (btK hb1 hb2)
  have HW1 := Lib.hid hW1; have HW2 := Lib.hid hW2
  have hs2 : W2.heap.size = W1.heap.size + 1 := by rw [← hW2]; simp
  rw [hz1] at hs2
  have HS2 := Lib.hid hs2
  clear hs2
  clear hW1 hW2 hz1 hb1 hb2 hx1 hx2
  obtain ⟨W3, hW3⟩ : ∃ z, W2.alloc (.cells #[.bool false] 4) = z := ⟨_, rfl⟩
  have hb3 : Below W2.heap.size W2 W3 := by rw [← hW3]; exact (Below.refl _ _).alloc (Nat.le_refl _) _
  have hx3 : Boxed W3 (w.heap.size + 1 + 1) 4 (.bool false) := by rw [← HS2.out, ← hW3]; exact Boxed.new _ _ _
  have HXr := Lib.hid hx3; have HW3 := Lib.hid hW3
  have HXt := Lib.hid (HXt.out.below hb3); have HXv := Lib.hid (HXv.out.below hb3); have HBv := Lib.hid (btK HBv.out hb3)
  clear hW3 hb3 hx3
  refine (callsIn_wide (n := 3)).1 ?_
  refine callsIn_of_wp_marks Try.func19 rfl trivial ?_ rfl
  simp only [Try.ntmps19, List.size_toArray, List.length_cons, List.length_nil, Nat.reduceAdd, Nat.reduceSub, Array.replicate_succ, Array.replicate_zero, List.push_toArray, List.append_toArray, List.nil_append, List.cons_append]
  gi_upto_region 1 with fail
  rw [HW1.out, HW2.out, HW3.out]
  clear HW3
  obtain ⟨TV, hTV⟩ : ∃ v, Value.agg #[.int .i64 t.title, .int .i64 t.byl, .int .i64 t.release, .int .i64 t.most, .slice ad4 t.texts.length ca4, .int .i64 t.flags, .slice ad6 t.props.length ca6, .slice ad7 t.globals.length ca7, .slice ad8 t.things.length ca8, .slice ad9 t.acts.length ca9, .slice ad10 t.deeds.length ca10, .slice ad11 t.funcs.length ca11, .slice ad12 t.daemons.length ca12, .slice ad13 t.params.length ca13, .slice ad14 t.locals.length ca14] = v := ⟨_, rfl⟩
  obtain ⟨WV, hWV⟩ : ∃ v, Value.agg #[.slice wa0 x.globals.length wc0, .slice wa1 x.parent.length wc1, .slice wa2 x.child.length wc2, .slice wa3 x.next.length wc3, .slice wa4 x.flags.length wc4, .slice wa5 x.props.length wc5, .slice wa6 x.timers.length wc6, .int .u64 x.seed, .int .i64 x.score, .int .i64 x.turns, .int .i64 x.over, .int .i64 x.it, .int .i64 x.go] = v := ⟨_, rfl⟩
  have HLT : Hid (∀ W, BoxT W w.heap.size [.int .i64 t.title, .int .i64 t.byl, .int .i64 t.release, .int .i64 t.most, .slice ad4 t.texts.length ca4, .int .i64 t.flags, .slice ad6 t.props.length ca6, .slice ad7 t.globals.length ca7, .slice ad8 t.things.length ca8, .slice ad9 t.acts.length ca9, .slice ad10 t.deeds.length ca10, .slice ad11 t.funcs.length ca11, .slice ad12 t.daemons.length ca12, .slice ad13 t.params.length ca13, .slice ad14 t.locals.length ca14] 35 → (Instr.loadAt 35 (.pointer (some ⟨w.heap.size, 0, none⟩))).run Try.prog W = .ok TV W) := fun W h => by
    rw [← hTV]
    exact run_loadAt_mid W _ 0 35 _ _ h.range Try.underlying35 rfl (by kernel_rfl)
  have HLW : Hid (∀ W, BoxT W (w.heap.size + 1) [.slice wa0 x.globals.length wc0, .slice wa1 x.parent.length wc1, .slice wa2 x.child.length wc2, .slice wa3 x.next.length wc3, .slice wa4 x.flags.length wc4, .slice wa5 x.props.length wc5, .slice wa6 x.timers.length wc6, .int .u64 x.seed, .int .i64 x.score, .int .i64 x.turns, .int .i64 x.over, .int .i64 x.it, .int .i64 x.go] 38 → (Instr.loadAt 38 (.pointer (some ⟨w.heap.size + 1, 0, none⟩))).run Try.prog W = .ok WV W) := fun W h => by
    rw [← hWV]
    exact run_loadAt_mid W _ 0 38 _ _ h.range Try.underlying38 rfl (by kernel_rfl)
  rw [hTV, hWV]
  clear HW1 HW2
  clear ln4 ln6 ln7 ln8 ln9 ln10 ln11 ln12 ln13 ln14 wl0 wl1 wl2 wl3 wl4 wl5 wl6
  have HHE := Lib.hid HHE0.out; have HVH := Lib.hid HVH0.out; have HRE := Lib.hid HRE0.out
  rw [hWV] at HHE HVH HRE
  clear hTV hWV HHE0 HVH0 HRE0
  gi_upto_region 2 with (first | ((with_reducible refine wpListIn_load_T 38 (.tmp 3) ?hw9 ⟨w.heap.size + 1, 0, none⟩ ?hx9 WV (HLW.out _ HXv.out) ?_); (case hw9 => rfl); (case hx9 => first | rfl | (exact rfl))) | ((first | (refine ⟨trivial, ?_⟩; gi_at_call 23; (with_reducible refine (callsIn_wide.2 (HHE.out _ HBv.out)).mono ?_)) | (refine ⟨trivial, fun hh => (by simp [Fence.wide] at hh), ?_⟩; gi_at_call 23; (with_reducible refine (callsIn_wide.2 (HHE.out _ HBv.out)).mono ?_))); rintro e w1 ⟨rfl, hb1⟩; have HX1 := Lib.hid (HXv.out.below hb1); have HR1 := Lib.hid (show Boxed w1 (w.heap.size + 1 + 1) 4 (.bool false) from BoxT.below (cs := [.bool false]) HXr.out hb1); have HB1 := Lib.hid (btK HBv.out hb1); have HT1 := Lib.hid (HXt.out.below hb1)))
  clear hb1 HXv HXr HBv HXt
  have hvh := HVH.out _ HB1.out c0
  have hq := HQ0.out
  cases hfc : fl c0
  rotate_left
  · rw [hfc] at hvh hq
    have HVC := Lib.hid hvh
    have HF : Hid (R = true) := by show R = true; rw [← hq]; simp
    clear hvh hq hfc
    gi_upto_region 3 with (first | ((with_reducible refine wpListIn_load_T 38 (.tmp 3) ?hw9 ⟨w.heap.size + 1, 0, none⟩ ?hx9 WV (HLW.out _ HX1.out) ?_); (case hw9 => rfl); (case hx9 => first | rfl | (exact rfl))) | ((first | (refine ⟨trivial, ?_⟩; gi_at_call 33; (with_reducible refine (callsIn_wide.2 (HVC.out)).mono ?_)) | (refine ⟨trivial, fun hh => (by simp [Fence.wide] at hh), ?_⟩; gi_at_call 33; (with_reducible refine (callsIn_wide.2 (HVC.out)).mono ?_))); rintro e w2 ⟨rfl, hb2⟩; have HR2 := Lib.hid (show Boxed w2 (w.heap.size + 1 + 1) 4 (.bool false) from BoxT.below (cs := [.bool false]) HR1.out hb2)))
    have hf2 := HR2.out.frozen
    have hc2 := HR2.out.cell
    have hB2 := Lib.hid (btK HB1.out hb2)
    have hS := Lib.hid (HR2.out.set (.bool true)).cell
    clear hb2
    gi_wp2
    refine ⟨.bool true, ?_, ret_bool HF.out.symm, hB2.out.setCell (p := ⟨w.heap.size + 1 + 1, 0, none⟩) (by show w.heap.size ≤ w.heap.size + 1 + 1; omega) _⟩
    have hc5 := hS.out
    simp [results, Try.results19, go_sem, hc5]
  rw [hfc] at hvh hq
  have HVC := Lib.hid hvh
  have HF : Hid (l.any fl = R) := by show _ = R; rw [← hq]; simp
  clear hvh hq hfc
  gi_wp2_with (first | ((with_reducible refine wpListIn_load_T 38 (.tmp 3) ?hw9 ⟨w.heap.size + 1, 0, none⟩ ?hx9 WV (HLW.out _ HX1.out) ?_); (case hw9 => rfl); (case hx9 => first | rfl | (exact rfl))) | ((first | (refine ⟨trivial, ?_⟩; gi_at_call 33; (with_reducible refine (callsIn_wide.2 (HVC.out)).mono ?_)) | (refine ⟨trivial, fun hh => (by simp [Fence.wide] at hh), ?_⟩; gi_at_call 33; (with_reducible refine (callsIn_wide.2 (HVC.out)).mono ?_))); rintro e w2 ⟨rfl, hb2⟩; have HX1 := Lib.hid (HX1.out.below hb2); have HR2 := Lib.hid (show Boxed w2 (w.heap.size + 1 + 1) 4 (.bool false) from BoxT.below (cs := [.bool false]) HR1.out hb2); have HB2 := Lib.hid (btK HB1.out hb2); have HT2 := Lib.hid (HT1.out.below hb2)) | ((first | (refine ⟨trivial, ?_⟩; gi_at_call 22; (with_reducible refine (callsIn_wide.2 (HRE.out _ HB2.out c0)).mono ?_)) | (refine ⟨trivial, fun hh => (by simp [Fence.wide] at hh), ?_⟩; gi_at_call 22; (with_reducible refine (callsIn_wide.2 (HRE.out _ HB2.out c0)).mono ?_))); rintro e w3 ⟨bw, bx, rfl, hx1, hx2, hb3⟩))
  have HB3 := Lib.hid (btK HB2.out hb3)
  have hT3 := HT2.out.below hb3
  have hX3 := HX1.out.below hb3
  have hR3 : Boxed w3 (w.heap.size + 1 + 1) 4 (.bool false) := BoxT.below (cs := [.bool false]) HR2.out hb3
  have hown : ownB w3 w.heap.size = none := by unfold ownB; rw [show w3.cell? ⟨w.heap.size, 0, none⟩ = some (.int .i64 t.title) from hT3.cell 0]; rfl
  have hn1 : w.heap.size ∉ [bw, bx] := fun h => by
    simp only [List.mem_cons, List.not_mem_nil, or_false] at h
    rcases h with e | e
    · subst e
      have h9 := (show w3.heap[w.heap.size]? = _ from hx1).symm.trans hT3
      simp at h9
    · subst e
      have h9 := (show w3.heap[w.heap.size]? = _ from hx2).symm.trans hT3
      simp at h9
  have hsq := HSQ1.out w3 HB3.out bw bx hx1 hx2 2 w3 w.heap.size (Below.refl _ _) (Nat.le_refl _) hn1 hT3.lt hown
  refine wpIn_rangeFunc_ownF (F := Fence.wide) rfl (by decide) (gf := 35) (lb := #[.pointer (some ⟨bw, 0, none⟩), .pointer (some ⟨bx, 0, none⟩)]) rfl trivial (enters_of Try.func35 (by kernel_rfl) rfl) hsq
    (fun h k => KpB.trans h k) (KpB.put (w := w3) HB3.out.size hT3.lt) (Below.refl _ _) (fun _ => rfl)
    (fun pre W => (Boxed W (w.heap.size + 1 + 1) 4 (.bool false) ∧ BoxT W (w.heap.size + 1) [.slice wa0 x.globals.length wc0, .slice wa1 x.parent.length wc1, .slice wa2 x.child.length wc2, .slice wa3 x.next.length wc3, .slice wa4 x.flags.length wc4, .slice wa5 x.props.length wc5, .slice wa6 x.timers.length wc6, .int .u64 x.seed, .int .i64 x.score, .int .i64 x.turns, .int .i64 x.over, .int .i64 x.it, .int .i64 x.go] 38) ∧ Below w.heap.size w W ∧ pre.any fl = false)
    (fun c pre W => (Boxed W (w.heap.size + 1 + 1) 4 (.bool true) ∧ Below w.heap.size w W) ∧ (c = .ret ∧ pre.any fl = true))
    ?hI ?hIx ⟨⟨hR3, hX3⟩, HB3.out, rfl⟩
    (fun c => { tmps := #[TV, WV, .pointer (some ⟨w.heap.size, 0, none⟩), .pointer (some ⟨w.heap.size + 1, 0, none⟩), .pointer (some ⟨w.heap.size + 1 + 1, 0, none⟩), .int .i64 c0, .int .i64 c, WV, .int .i64 c0, WV, .int .i64 c0, .bool false, WV, .int .i64 c0, .func (.func 35) #[] #[.pointer (some ⟨bw, 0, none⟩), .pointer (some ⟨bx, 0, none⟩)], .int .i64 c, undef, undef, undef], defers := [] }) ?assign ?body ?done ?stop
  case hI =>
    exact OwnFrom.and (OwnFrom.and (Own.from (boxed_own _ _ (fun _ : List Int => .bool false)) _) (Own.from (boxT_own _ _ _) _)) (OwnFrom.and (ownFrom_below (Nat.le_refl _) HB3.out.size) (ownFrom_pure _ _))
  case hIx =>
    intro c
    exact OwnFrom.and (OwnFrom.and (Own.from (boxed_own _ _ (fun _ : List Int => .bool true)) _) (ownFrom_below (Nat.le_refl _) HB3.out.size)) (ownFrom_pure _ _)
  case assign =>
    intro l c W K hK
    gi_wp2
    exact hK
  case body =>
    rintro lr pre c W ⟨⟨hv, hX⟩, hB, hpa⟩ _
    have hvh := HVH.out W hB c
    have HXw := Lib.hid hX
    cases hfc : fl c
    · rw [hfc] at hvh
      have HVC := Lib.hid hvh
      have HPA : Hid ((pre ++ [c]).any fl = false) := by show _ = _; simp [hpa, hfc]
      clear hvh hfc hpa
      gi_wp2_with (first | ((with_reducible refine wpListIn_load_T 38 (.tmp 3) ?hw9 ⟨w.heap.size + 1, 0, none⟩ ?hx9 WV (HLW.out _ HXw.out) ?_); (case hw9 => rfl); (case hx9 => first | rfl | (exact rfl))) | ((refine ⟨trivial, ?_⟩); gi_at_call 33; (refine (CallsIn.inRound lr (callsIn_wide.2 HVC.out)).mono ?_); rintro e w5 ⟨rfl, hb5⟩) | ((refine ⟨trivial, fun hh => (by simp [Fence.wide, Fence.inRound] at hh), ?_⟩); gi_at_call 33; (refine (CallsIn.inRound lr (callsIn_wide.2 HVC.out)).mono ?_); rintro e w5 ⟨rfl, hb5⟩))
      exact ⟨KeepsOthers.of_grownBy (grown_of hb5) (fun _ _ e _ => by cases e), KpB.on hb5 hB.size (by have := hv.lt; omega), ⟨BoxT.below (cs := [.bool false]) hv hb5, HXw.out.below hb5⟩, btK hB hb5, HPA.out⟩
    · rw [hfc] at hvh
      have HVC := Lib.hid hvh
      have HPA : Hid ((pre ++ [c]).any fl = true) := by show _ = _; simp [hfc]
      clear hvh hfc hpa
      gi_wp2_with (first | ((with_reducible refine wpListIn_load_T 38 (.tmp 3) ?hw9 ⟨w.heap.size + 1, 0, none⟩ ?hx9 WV (HLW.out _ HXw.out) ?_); (case hw9 => rfl); (case hx9 => first | rfl | (exact rfl))) | ((refine ⟨trivial, ?_⟩); gi_at_call 33; (refine (CallsIn.inRound lr (callsIn_wide.2 HVC.out)).mono ?_); rintro e w5 ⟨rfl, hb5⟩; have hv5 := (show Boxed w5 (w.heap.size + 1 + 1) 4 (.bool false) from BoxT.below (cs := [.bool false]) hv hb5); have hc5 := hv5.cell; have hf5 := hv5.frozen))
      exact ⟨(KeepsOthers.of_grownBy (grown_of hb5) (fun _ _ e _ => by cases e)).trans (KeepsOthers.setCell _ _ _), ⟨hv5.set _, (btK hB hb5).setCell (p := ⟨w.heap.size + 1 + 1, 0, none⟩) (by show w.heap.size ≤ w.heap.size + 1 + 1; omega) _⟩, rfl, HPA.out⟩
  case done =>
    rintro D ys W hD rfl ⟨⟨hv, hX⟩, hB, hpa⟩ hK
    have hc := hv.cell
    have hf := hv.frozen
    have HR9 : Hid (R = false) := by show R = _; rw [← HF.out, hpa]
    clear hpa hX
    have hDl : w.heap.size ≤ D := Nat.le_trans HB3.out.size hD
    gi_wp2
    have hK' := (KeepsOthers.setCell W ⟨w.heap.size + 1 + 1, 0, none⟩ (.bool false)).same D _ hK rfl
    refine ⟨by simp, .inl ⟨_, _, rfl, run_takeDeferred hK', ?_⟩⟩
    have hc5 := cell_kept (hv.set (.bool false)).cell (grownBy_putObj' _ D (.deferred none)) (fun r e => by cases e; exact ⟨_, hK', rfl⟩)
    refine ⟨.bool false, ?_, ret_bool HR9.out.symm, (hB.setCell (p := ⟨w.heap.size + 1 + 1, 0, none⟩) (by show w.heap.size ≤ w.heap.size + 1 + 1; omega) _).trans (belowK_b (w := w) (Nat.le_refl _) _ D _ _ hDl hK' rfl rfl)⟩
    simp [results, Try.results19, go_sem, hc5]
  case stop =>
    rintro D c pre W hD ⟨r, hr⟩ ⟨⟨hv, hB⟩, rfl, hpa⟩ hK
    have HR9 : Hid (R = true) := by show R = _; rw [← HF.out, ← hr, List.any_append, hpa]; rfl
    clear hpa hr
    have hDl : w.heap.size ≤ D := Nat.le_trans HB3.out.size hD
    gi_wp2
    refine ⟨by simp, .inl ⟨_, _, rfl, run_takeDeferred hK, ?_⟩⟩
    have hc5 := cell_kept hv.cell (grownBy_putObj' _ D (.deferred none)) (fun r e => by cases e; exact ⟨_, hK, rfl⟩)
    refine ⟨.bool true, ?_, ret_bool HR9.out.symm, hB.trans (belowK_b (w := w) (Nat.le_refl _) _ D _ _ hDl hK rfl rfl)⟩
    simp [results, Try.results19, go_sem, hc5]
end Go.Proofs.Ytapjglpiofpbmaa
