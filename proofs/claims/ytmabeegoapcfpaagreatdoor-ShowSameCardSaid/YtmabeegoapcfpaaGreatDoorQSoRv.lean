/- The reference's sameness of verbs. Printed by gen-show9.py. -/
import Derived.Test.YtmabeegoapcfpaaGreatDoorQSoR
namespace Go.Proofs.YtmabeegoapcfpaaGreatDoor
open Go.RowKit Go.Sort
set_option maxRecDepth 100000 in
set_option maxHeartbeats 40000000 in
theorem rVerb_calls (F : Nat → Prop) (w : World) (x y : VerbD) (cs ds : List Value) (hF : Inn F w) (hx : Holds.verb.R F w x cs) (hy : Holds.verb.R F w y ds) :
    Calls Tryz.prog 57 #[.agg cs.toArray, .agg ds.toArray] w (Gives w (.bool (same x y))) := by
  obtain ⟨-, va2, rfl, ka2⟩ := hx
  obtain ⟨da2, fa2, rfl⟩ := ka2.shape
  obtain ⟨-, vb2, rfl, kb2⟩ := hy
  obtain ⟨db2, fb2, rfl⟩ := kb2.shape
  obtain ⟨x_name, x_isMeta, x_lines⟩ := x
  obtain ⟨y_name, y_isMeta, y_lines⟩ := y
  simp only at ka2 kb2
  obtain ⟨W1, hW1⟩ : ∃ W1, w.alloc (.cells #[.string x_name, .bool x_isMeta, .slice da2 x_lines.length fa2] 60) = W1 := ⟨_, rfl⟩
  have hs1 : W1.heap.size = w.heap.size + 1 := by rw [← hW1]; simp
  have hb1 : Below w.heap.size w W1 := by rw [← hW1]; exact (Below.refl _ _).alloc (Nat.le_refl _) _
  have hbx1 : BoxAt W1 w.heap.size [.string x_name, .bool x_isMeta, .slice da2 x_lines.length fa2] := by rw [← hW1]; exact BoxAt.new _ _ _
  obtain ⟨W2, hW2⟩ : ∃ W2, W1.alloc (.cells #[.string y_name, .bool y_isMeta, .slice db2 y_lines.length fb2] 60) = W2 := ⟨_, rfl⟩
  have hs2 : W2.heap.size = w.heap.size + 1 + 1 := by rw [← hW2]; simp; exact hs1
  have hb2 : Below W1.heap.size W1 W2 := by rw [← hW2]; exact (Below.refl _ _).alloc (Nat.le_refl _) _
  have hbx2 : BoxAt W2 W1.heap.size [.string y_name, .bool y_isMeta, .slice db2 y_lines.length fb2] := by rw [← hW2]; exact BoxAt.new _ _ _
  rw [hs1] at hbx2
  have hE : Hid (∀ W, Below W2.heap.size W2 W → BoxAt W (w.heap.size) [.string x_name, .bool x_isMeta, .slice da2 x_lines.length fa2] ∧ BoxAt W (w.heap.size + 1) [.string y_name, .bool y_isMeta, .slice db2 y_lines.length fb2] ∧ Below w.heap.size w W) := fun W h3 => ⟨hbx1.below (bt hb2 h3) (by omega), hbx2.below h3 (by omega), (hb1.trans ((bt hb2 h3).mono hb1.size))⟩
  have HZ0 := Lib.hid hs2
  have HW1 := Lib.hid hW1
  have HW2 := Lib.hid hW2
  clear hW1 hs1 hb1 hbx1 hW2 hs2 hb2 hbx2
  by_cases h : x_name = y_name
  rotate_left
  · have hfin : Hid (same (⟨x_name, x_isMeta, x_lines⟩ : VerbD) ⟨y_name, y_isMeta, y_lines⟩ = false) := same_ne (fun e => h (by cases e; rfl))
    have e1 : (x_name.toList == y_name.toList) = false := strne h
    have e2 : (x_name.toList != y_name.toList) = true := by rw [bne, strne h]; rfl
    clear  ka2 kb2 h hF
    go_enter Tryz.func57, Tryz.ntmps57
    go_upto_region 1 with fail
    rw [HW1.out, HW2.out]
    obtain ⟨hq1, hq2, hqt0⟩ := hE.out W2 (Below.refl _ _)
    have HB0 : Below W2.heap.size W2 W2 := Below.refl _ _
    have ga0 := hq1.2 0 (by simp)
    have gb0 := hq2.2 0 (by simp)
    simp only [cqz] at ga0 gb0
    go_wp2_with fail
    go_ret
    exact ⟨ret_bool hfin.out.symm, hqt0⟩
  subst h
  by_cases h : x_isMeta = y_isMeta
  rotate_left
  · have hfin : Hid (same (⟨x_name, x_isMeta, x_lines⟩ : VerbD) ⟨x_name, y_isMeta, y_lines⟩ = false) := same_ne (fun e => h (by cases e; rfl))
    have e1 : (x_isMeta == y_isMeta) = false := by simpa using h
    have e2 : (x_isMeta != y_isMeta) = true := by simpa using h
    clear  ka2 kb2 h hF
    go_enter Tryz.func57, Tryz.ntmps57
    go_upto_region 1 with fail
    rw [HW1.out, HW2.out]
    obtain ⟨hq1, hq2, hqt0⟩ := hE.out W2 (Below.refl _ _)
    have HB0 : Below W2.heap.size W2 W2 := Below.refl _ _
    have ga0 := hq1.2 0 (by simp)
    have ga1 := hq1.2 1 (by simp)
    have gb0 := hq2.2 0 (by simp)
    have gb1 := hq2.2 1 (by simp)
    simp only [cqs, cqz] at ga0 ga1 gb0 gb1
    go_wp2_with fail
    go_ret
    exact ⟨ret_bool hfin.out.symm, hqt0⟩
  subst h
  by_cases h : x_lines.length = y_lines.length
  rotate_left
  · have hfin : Hid (same (⟨x_name, x_isMeta, x_lines⟩ : VerbD) ⟨x_name, x_isMeta, y_lines⟩ = false) := same_ne (fun e => h (by cases e; rfl))
    have e1 : ((x_lines.length : Int) != (y_lines.length : Int)) = true := by simp; omega
    clear  ka2 kb2 h hF
    go_enter Tryz.func57, Tryz.ntmps57
    go_upto_region 1 with fail
    rw [HW1.out, HW2.out]
    obtain ⟨hq1, hq2, hqt0⟩ := hE.out W2 (Below.refl _ _)
    have HB0 : Below W2.heap.size W2 W2 := Below.refl _ _
    have ga0 := hq1.2 0 (by simp)
    have ga1 := hq1.2 1 (by simp)
    have ga2 := hq1.2 2 (by simp)
    have gb0 := hq2.2 0 (by simp)
    have gb1 := hq2.2 1 (by simp)
    have gb2 := hq2.2 2 (by simp)
    simp only [cqs, cqz] at ga0 ga1 ga2 gb0 gb1 gb2
    go_wp2_with fail
    go_ret
    exact ⟨ret_bool hfin.out.symm, hqt0⟩
  have HL2 := Lib.hid h
  have n2 : ((x_lines.length : Int) != (y_lines.length : Int)) = false := by simp [h]
  clear h
  have KA2 := Lib.hid ka2
  have KB2 := Lib.hid kb2
  have HF := Lib.hid hF
  clear  ka2 kb2 hF
  go_enter Tryz.func57, Tryz.ntmps57
  go_upto_region 1 with fail
  rw [HW1.out, HW2.out]
  obtain ⟨hq1, hq2, hqt0⟩ := hE.out W2 (Below.refl _ _)
  have HB0 : Below W2.heap.size W2 W2 := Below.refl _ _
  have ga0 := hq1.2 0 (by simp)
  have ga1 := hq1.2 1 (by simp)
  have ga2 := hq1.2 2 (by simp)
  have gb0 := hq2.2 0 (by simp)
  have gb1 := hq2.2 1 (by simp)
  have gb2 := hq2.2 2 (by simp)
  simp only [cqs, cqz] at ga0 ga1 ga2 gb0 gb1 gb2
  go_upto_block 0 with fail
  obtain ⟨_, _, he, hl2, hc2, h2⟩ := (KA2.out).opn
  cases he
  obtain ⟨_, _, he, hl2b, hc2b, h2b⟩ := (KB2.out).opn
  cases he
  unfold maxLen at hc2 hc2b
  have hfin1 : Hid (x_lines.take x_lines.length = y_lines.take x_lines.length → same (⟨x_name, x_isMeta, x_lines⟩ : VerbD) ⟨x_name, x_isMeta, y_lines⟩ = true) := fun h => same_eq (by rw [List.take_length, HL2.out, List.take_length] at h; rw [h])
  go_wp2_with fail
  go_loopw [5] (fun i wr => ∃ k : Nat, k ≤ x_lines.length ∧ i = .int .i64 k ∧ Hid (x_lines.take k = y_lines.take k) ∧ Below W2.heap.size W2 wr) (fun i _ => x_lines.length - (intOf i).toNat)
  case atStart => exact ⟨0, Nat.zero_le _, rfl, by show _ = _; rw [List.take_zero, List.take_zero], HB0⟩
  case round =>
    obtain ⟨k, hk, rfl, hq, hB⟩ := hrel
    obtain ⟨hq1, hq2, hqt⟩ := hE.out wr hB
    have u2 := hq1.2 2 (by simp)
    have v2 := hq2.2 2 (by simp)
    simp only [cqs, cqz] at u2 v2
    by_cases hlt : k < x_lines.length
    · have hlt2 : k < y_lines.length := by have := HL2.out; omega
      obtain ⟨b, off, rfl, hFb, hel⟩ := h2 (by omega)
      obtain ⟨b2, off2, rfl, hFb2, hel2⟩ := h2b (by omega)
      obtain ⟨cs, hx, -, hcell⟩ := hel wr (hqt.block b (HF.out b hFb)) k hlt
      obtain ⟨ds, hy, -, hdell⟩ := hel2 wr (hqt.block b2 (HF.out b2 hFb2)) k hlt2
      obtain ⟨x, hxe⟩ : ∃ x, x_lines[k] = x := ⟨_, rfl⟩
      obtain ⟨y, hye⟩ : ∃ y, y_lines[k] = y := ⟨_, rfl⟩
      rw [hxe] at hx
      rw [hye] at hy
      have hnx : Hid (x = y → x_lines.take (k + 1) = y_lines.take (k + 1)) := fun h => take_same hq.out hlt hlt2 (by rw [hxe, hye, h])
      have hno : Hid (x ≠ y → same (⟨x_name, x_isMeta, x_lines⟩ : VerbD) ⟨x_name, x_isMeta, y_lines⟩ = false) := fun h => same_ne (fun e => h (by cases e; rw [← hxe, ← hye]))
      obtain ⟨_, rfl, kx⟩ := hx
      obtain ⟨_, rfl, ky⟩ := hy
      obtain ⟨a3, cap3, rfl, hl3, hc3, h3⟩ := kx.opn
      obtain ⟨a4, cap4, rfl, hl4, hc4, h4⟩ := ky.opn
      unfold maxLen at hc3 hc4
      have g0 := hcell 0 _ rfl
      have h0 := hdell 0 _ rfl
      simp only [Nat.add_zero, Nat.mul_one] at g0 h0
      have G0 : Hid (∀ W, Below w.heap.size w W → W.cell? ⟨b, off + k, none⟩ = some (.slice a3 x.length cap3)) := fun W hW => (hW.cell (HF.out b hFb)).trans ((hqt.cell (HF.out b hFb)).symm.trans g0)
      have H0 : Hid (∀ W, Below w.heap.size w W → W.cell? ⟨b2, off2 + k, none⟩ = some (.slice a4 y.length cap4)) := fun W hW => (hW.cell (HF.out b2 hFb2)).trans ((hqt.cell (HF.out b2 hFb2)).symm.trans h0)
      have hki : (k : Int) < (x_lines.length : Int) := by omega
      have hki2 : (k : Int) < (y_lines.length : Int) := by omega
      have hki0 : (0 : Int) ≤ (k : Int) := by omega
      have HB := Lib.hid hB
      have HQT := Lib.hid hqt
      clear hel hel2 hcell hdell hB hq1 hq2 hqt h2 h2b hq hxe hye kx ky
      by_cases hlen : x.length = y.length
      rotate_left
      · have hfin := Lib.hid (hno.out (fun e => hlen (by rw [e])))
        have e0 : ((x.length : Int) != (y.length : Int)) = true := by simp; omega
        clear hno hnx hlen h3 h4
        have z_u2 := fun d os => cell_regrown u2 d os
        have z_v2 := fun d os => cell_regrown v2 d os
        have z_g0 := fun d os => cell_regrown g0 d os
        have z_h0 := fun d os => cell_regrown h0 d os
        go_upto_region 6 with fail
        refine wp_region_quiet_below (by kernel_rfl) (by kernel_rfl) ?_
        repeat (go_big_quiet_step (fail))
        refine wpQuiet_nil ?_
        intro w3 hw3
        have hb3 := below_of_regrown hw3
        clear hw3 z_u2 z_v2 z_g0 z_h0
        go_wp2_with fail
        go_ret
        exact ⟨ret_bool hfin.out.symm, bt HQT.out hb3⟩
      have e0 : ((x.length : Int) != (y.length : Int)) = false := by simp [hlen]
      have HLN := Lib.hid hlen
      clear hlen
      have z_u2 := fun d os => cell_regrown u2 d os
      have z_v2 := fun d os => cell_regrown v2 d os
      have z_g0 := fun d os => cell_regrown g0 d os
      have z_h0 := fun d os => cell_regrown h0 d os
      go_upto_region 6 with fail
      refine wp_region_quiet_below (by kernel_rfl) (by kernel_rfl) ?_
      repeat (go_big_quiet_step (fail))
      refine wpQuiet_nil ?_
      intro w3 hw3
      have hb3 := below_of_regrown hw3
      clear hw3 z_u2 z_v2 z_g0 z_h0
      have hB3 := bt HB.out hb3
      obtain ⟨hq1, hq2, hqt⟩ := hE.out w3 hB3
      have u2' := hq1.2 2 (by simp)
      simp only [cqs, cqz] at u2'
      have g0' := G0.out w3 hqt
      clear u2 v2 g0 h0 hq1 hq2
      go_wp2_with fail
      go_loopw [6] (fun i wr => ∃ k2 : Nat, k2 ≤ x.length ∧ i = .int .i64 k2 ∧ Hid (x.take k2 = y.take k2) ∧ Below W2.heap.size W2 wr) (fun i _ => x.length - (intOf i).toNat)
      case atStart => exact ⟨0, Nat.zero_le _, rfl, by show _ = _; rw [List.take_zero, List.take_zero], hB3⟩
      case round =>
        obtain ⟨k2, hk2, rfl, hr, hB2⟩ := hrel
        obtain ⟨hq1, hq2, hqt2⟩ := hE.out wr hB2
        have u2 := hq1.2 2 (by simp)
        have v2 := hq2.2 2 (by simp)
        simp only [cqs, cqz] at u2 v2
        have g0 := G0.out wr hqt2
        have h0 := H0.out wr hqt2
        clear u2' g0' hq1 hq2 hb3 hB3
        by_cases hlt : k2 < x.length
        · have hlt2 : k2 < y.length := by have := HLN.out; omega
          obtain ⟨c, of3, rfl, hFc, hel⟩ := h3 (by omega)
          obtain ⟨c2, of4, rfl, hFc2, hel2⟩ := h4 (by omega)
          obtain ⟨cs, hx, -, hcell⟩ := hel wr (hqt2.block c (HF.out c hFc)) k2 hlt
          obtain ⟨ds, hy, -, hdell⟩ := hel2 wr (hqt2.block c2 (HF.out c2 hFc2)) k2 hlt2
          obtain ⟨s, hse⟩ : ∃ s, x[k2] = s := ⟨_, rfl⟩
          obtain ⟨t, hte⟩ : ∃ t, y[k2] = t := ⟨_, rfl⟩
          rw [hse] at hx
          rw [hte] at hy
          have hnx2 : Hid (s = t → x.take (k2 + 1) = y.take (k2 + 1)) := fun h => take_same hr.out hlt hlt2 (by rw [hse, hte, h])
          have hno2 : Hid (s ≠ t → same (⟨x_name, x_isMeta, x_lines⟩ : VerbD) ⟨x_name, x_isMeta, y_lines⟩ = false) := fun h => hno.out (fun e => h (by subst e; rw [← hse, ← hte]))
          obtain ⟨s_kind, s_words⟩ := s
          obtain ⟨t_kind, t_words⟩ := t
          obtain ⟨-, _, rfl, ks⟩ := hx
          obtain ⟨-, _, rfl, kt⟩ := hy
          simp only at ks kt
          obtain ⟨d3, f3, rfl⟩ := ks.shape
          obtain ⟨d4, f4, rfl⟩ := kt.shape
          have m0 := hcell 0 _ rfl
          have m1 := hcell 1 _ rfl
          have n0 := hdell 0 _ rfl
          have n1 := hdell 1 _ rfl
          simp only [Nat.add_zero] at m0 n0
          have hc := fun (W : World) (hW : Below wr.heap.size wr W) => rTexts_calls F W s_words t_words _ _ (HF.out.below (bt hqt2 hW)) (RdL.below ks HF.out (bt hqt2 hW) (Nat.le_refl _)) (RdL.below kt HF.out (bt hqt2 hW) (Nat.le_refl _))
          have hkj : (k2 : Int) < (x.length : Int) := by omega
          have hkj2 : (k2 : Int) < (y.length : Int) := by omega
          have hkj0 : (0 : Int) ≤ (k2 : Int) := by omega
          have HB2 := Lib.hid hB2
          have HQT2 := Lib.hid hqt2
          have K {f : FuncId} {args : Array Value} {u : Value} (h : ∀ w', Below wr.heap.size wr w' → Calls Tryz.prog f args w' (Gives w' u)) (p : Regrown) : Calls Tryz.prog f args (grow (redrawn wr p.d) p.os) fun e w3 => e = .returned u ∧ ∃ p : Regrown, w3 = grow (redrawn wr p.d) p.os := regrown_gives (fun w3 hb => h w3 hb) p
          clear hel hel2 hcell hdell hB2 hqt2 hr hse hte ks kt h3 h4 G0 H0 hno hnx
          by_cases hk1 : s_kind = t_kind
          rotate_left
          · have hfin := Lib.hid (hno2.out (fun e => hk1 (by cases e; rfl)))
            have e1 : (s_kind != t_kind) = true := by simpa using hk1
            clear hno2 hnx2 hk1 hc K
            have z_u2 := fun d os => cell_regrown u2 d os
            have z_v2 := fun d os => cell_regrown v2 d os
            have z_g0 := fun d os => cell_regrown g0 d os
            have z_h0 := fun d os => cell_regrown h0 d os
            have z_m0 := fun d os => cell_regrown m0 d os
            have z_m1 := fun d os => cell_regrown m1 d os
            have z_n0 := fun d os => cell_regrown n0 d os
            have z_n1 := fun d os => cell_regrown n1 d os
            go_upto_region 11 with fail
            refine wp_region_quiet_below (by kernel_rfl) (by kernel_rfl) ?_
            repeat (go_big_quiet_step (fail))
            refine wpQuiet_nil ?_
            intro w3 hw3
            have hb3 := below_of_regrown hw3
            clear hw3 z_u2 z_v2 z_g0 z_h0 z_m0 z_m1 z_n0 z_n1
            go_wp2_with fail
            go_ret
            exact ⟨ret_bool hfin.out.symm, bt HQT2.out hb3⟩
          subst hk1
          by_cases hw1 : s_words = t_words
          rotate_left
          · have hfin := Lib.hid (hno2.out (fun e => hw1 (by cases e; rfl)))
            simp only [same_ne hw1] at hc
            have HC := Lib.hid (K hc)
            clear hno2 hnx2 hw1 hc K
            have z_u2 := fun d os => cell_regrown u2 d os
            have z_v2 := fun d os => cell_regrown v2 d os
            have z_g0 := fun d os => cell_regrown g0 d os
            have z_h0 := fun d os => cell_regrown h0 d os
            have z_m0 := fun d os => cell_regrown m0 d os
            have z_m1 := fun d os => cell_regrown m1 d os
            have z_n0 := fun d os => cell_regrown n0 d os
            have z_n1 := fun d os => cell_regrown n1 d os
            go_upto_region 11 with fail
            refine wp_region_quiet_below (by kernel_rfl) (by kernel_rfl) ?_
            repeat (go_big_quiet_step (first | with_reducible exact HC.out _))
            refine wpQuiet_nil ?_
            intro w3 hw3
            have hb3 := below_of_regrown hw3
            clear hw3 z_u2 z_v2 z_g0 z_h0 z_m0 z_m1 z_n0 z_n1
            go_wp2_with fail
            go_ret
            exact ⟨ret_bool hfin.out.symm, bt HQT2.out hb3⟩
          have hnx3 := Lib.hid (hnx2.out (by rw [hw1]))
          simp only [same_eq hw1] at hc
          have HC := Lib.hid (K hc)
          clear hno2 hnx2 hw1 hc K
          have z_u2 := fun d os => cell_regrown u2 d os
          have z_v2 := fun d os => cell_regrown v2 d os
          have z_g0 := fun d os => cell_regrown g0 d os
          have z_h0 := fun d os => cell_regrown h0 d os
          have z_m0 := fun d os => cell_regrown m0 d os
          have z_m1 := fun d os => cell_regrown m1 d os
          have z_n0 := fun d os => cell_regrown n0 d os
          have z_n1 := fun d os => cell_regrown n1 d os
          go_upto_region 11 with fail
          refine wp_region_quiet_below (by kernel_rfl) (by kernel_rfl) ?_
          repeat (go_big_quiet_step (first | with_reducible exact HC.out _))
          refine wpQuiet_nil ?_
          intro w3 hw3
          have hb3 := below_of_regrown hw3
          clear hw3 z_u2 z_v2 z_g0 z_h0 z_m0 z_m1 z_n0 z_n1
          go_wp2_with fail
          go_roundw
          case rel => exact ⟨k2 + 1, by omega, by go_num, hnx3.out, bt HB2.out hb3⟩
          case measure => simp [intOf]; omega
        · have : k2 = x.length := by omega
          subst this
          have hnx2 := Lib.hid (hnx.out (by have h := hr.out; rw [List.take_length, HLN.out, List.take_length] at h; exact h))
          have hkj : decide ((x.length : Int) < (x.length : Int)) = false := by simp
          have HB2 := Lib.hid hB2
          clear hr hnx hno h3 h4 G0 H0 hB2
          go_wp2
          go_roundw
          case rel => exact ⟨k + 1, by omega, by go_num, hnx2.out, HB2.out⟩
          case measure => simp [intOf]; omega
    · have : k = x_lines.length := by omega
      subst this
      have hfin := Lib.hid (hfin1.out hq.out)
      have hki : decide ((x_lines.length : Int) < (x_lines.length : Int)) = false := by simp
      clear hq hfin1 h2 h2b
      go_wp2
      go_ret
      exact ⟨ret_bool hfin.out.symm, hqt⟩
end Go.Proofs.YtmabeegoapcfpaaGreatDoor
