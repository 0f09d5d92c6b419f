/- The program's Right of a source and of its elements. Printed by gen-show6.py. -/
import Derived.Test.YtmabeegoapcfpaaGreatDoorQPart663812f7
import Derived.Test.YtmabeegoapcfpaaGreatDoorQAlls
import Derived.Test.YtmabeegoapcfpaaGreatDoorQSos
import Derived.Test.YtmabeegoapcfpaaGreatDoorQPart8b87d8c5
import Derived.Laws.EntriesVeiled
namespace Go.Proofs.YtmabeegoapcfpaaGreatDoor
open Go.RowKit
set_option maxHeartbeats 400000 in
theorem riName0 (s : ByteArray) (w : World) (hs : s.size ≤ maxLen) (hm : MX w) : Calls Tryz.prog 18 #[.string s] w (Same0 w (.bool (dec (IsNm s)))) := by
  have h1 := isName_calls s w hs
  by_cases hn : IsName s
  · have h2 := keyT_calls s w hn hm
    have e1 : Hid (dec (IsNm s) = !dec (IsKey s)) := by
      show dec (IsNm s) = _
      by_cases hk : IsKey s
      · rw [dec_true hk, dec_false (fun h => h.2 hk)]; rfl
      · rw [dec_false hk, dec_true ⟨hn, hk⟩]; rfl
    rw [dec_true hn] at h1
    have H1 := Lib.hid h1
    have H2 := Lib.hid h2
    clear h1 h2 hn hm
    go_enter Tryz.func18, Tryz.ntmps18
    go_wp2_with (first | (go_at_call 81; refine H1.out.mono ?_; rintro e w' ⟨rfl, rfl⟩) | (go_at_call 82; refine H2.out.mono ?_; rintro e w' ⟨rfl, rfl⟩))
    go_ret
    exact ⟨ret_bool e1.out.symm, rfl⟩
  · have e1 : Hid (dec (IsNm s) = false) := dec_false (fun h => hn h.1)
    rw [dec_false hn] at h1
    have H1 := Lib.hid h1
    clear h1 hn hm
    go_enter Tryz.func18, Tryz.ntmps18
    go_wp2_with (go_at_call 81; refine H1.out.mono ?_; rintro e w' ⟨rfl, rfl⟩)
    go_ret
    exact ⟨ret_bool e1.out.symm, rfl⟩
theorem riName_calls (s : ByteArray) (w : World) (hs : s.size ≤ maxLen) (hm : MX w) : Calls Tryz.prog 18 #[.string s] w (Gives w (.bool (dec (IsNm s)))) := Same0.gv (riName0 s w hs hm)
theorem ask_text {F : Nat → Prop} {w : World} (x : ByteArray) : Asks1 Holds.str oneA F w 23 #[] x (dec (IsText x)) := by
  rintro w' cs hb ⟨hz, rfl⟩
  exact Same0.gv (isText_calls x w' hz)
theorem ask_name {F : Nat → Prop} {w : World} (x : ByteArray) (hm : MX w) : Asks1 Holds.str oneA F w 18 #[] x (dec (IsNm x)) := by
  rintro w' cs hb ⟨hz, rfl⟩
  exact riName_calls x w' hz (hm.below hb (Nat.le_refl _))
set_option maxHeartbeats 400000 in
theorem riMaybe_calls (s : ByteArray) (w : World) (hs : s.size ≤ maxLen) (hm : MX w) : Calls Tryz.prog 98 #[.string s] w (Gives w (.bool (dec (MaybeR s)))) := by
  have hc_n := fun (W : World) (hW : Below w.heap.size w W) => riName_calls s W hs (hm.below hW (Nat.le_refl _))
  by_cases h_e : s = ⟨#[]⟩
  · have hfin : Hid (dec (MaybeR s) = true) := dec_true (Or.inl h_e)
    have e0 : s.toList.isEmpty = true := emp_t h_e
    clear hc_n hm hs h_e
    go_enter Tryz.func98, Tryz.ntmps98
    have HB0 : Below w.heap.size w w := Below.refl _ _
    go_wp2_with fail
    go_ret
    exact ⟨ret_bool hfin.out.symm, HB0⟩
  · by_cases h_n : IsNm s
    · have hfin : Hid (dec (MaybeR s) = true) := dec_true (Or.inr h_n)
      simp only [dec_true h_n] at hc_n
      have HC_n := Lib.hid hc_n
      have e0 : s.toList.isEmpty = false := emp_f h_e
      clear hc_n hm hs h_e h_n
      go_enter Tryz.func98, Tryz.ntmps98
      have HB0 : Below w.heap.size w w := Below.refl _ _
      go_wp2_with (go_at_call 18; (with_reducible refine (HC_n.out w HB0).mono ?_); rintro e91 w1 ⟨rfl, hb1⟩; have HB1 := bt HB0 hb1)
      go_ret
      exact ⟨ret_bool hfin.out.symm, HB1⟩
    · have hfin : Hid (dec (MaybeR s) = false) := dec_false (fun h => h.elim h_e h_n)
      simp only [dec_false h_n] at hc_n
      have HC_n := Lib.hid hc_n
      have e0 : s.toList.isEmpty = false := emp_f h_e
      clear hc_n hm hs h_e h_n
      go_enter Tryz.func98, Tryz.ntmps98
      have HB0 : Below w.heap.size w w := Below.refl _ _
      go_wp2_with (go_at_call 18; (with_reducible refine (HC_n.out w HB0).mono ?_); rintro e91 w1 ⟨rfl, hb1⟩; have HB1 := bt HB0 hb1)
      go_ret
      exact ⟨ret_bool hfin.out.symm, HB1⟩
set_option maxRecDepth 100000 in
set_option maxHeartbeats 4000000 in
theorem riPair_calls (F : Nat → Prop) (w : World) (x : PairD) (cs : List Value) (_hF : Inn F w) (hm : MX w) (hx : Holds.pair.R F w x cs) :
    Calls Tryz.prog 25 #[.agg cs.toArray] w (Gives w (.bool (dec (PairR x)))) := by
  obtain ⟨x_name, x_num⟩ := x
  obtain ⟨z_name, z_num, rfl⟩ := hx
  simp only at z_name z_num
  obtain ⟨W1, hW1⟩ : ∃ W1, w.alloc (.cells #[.string x_name, .int .i64 x_num] 35) = W1 := ⟨_, rfl⟩
  have hs1 : W1.heap.size = w.heap.size + 1 := by rw [← hW1]; simp
  have hb1 : Below w.heap.size w W1 := by rw [← hW1]; exact (Below.refl _ _).alloc (Nat.le_refl _) _
  have hbx1 : BoxAt W1 w.heap.size [.string x_name, .int .i64 x_num] := by rw [← hW1]; exact BoxAt.new _ _ _
  have hE : Hid (∀ W, Below W1.heap.size W1 W → BoxAt W (w.heap.size) [.string x_name, .int .i64 x_num] ∧ Below w.heap.size w W) := fun W h2 => ⟨hbx1.below h2 (by omega), (bt hb1 h2)⟩
  have HZ0 := Lib.hid hs1
  have HW1 := Lib.hid hW1
  clear hW1 hs1 hb1 hbx1
  have hc_n := fun (W : World) (hW : Below w.heap.size w W) => (riName_calls x_name W z_name (hm.below hW (Nat.le_refl _)))
  by_cases h_n : IsNm x_name
  · by_cases h_l : (-32767 : Int) ≤ x_num
    · by_cases h_h : x_num ≤ (32767 : Int)
      · have hfin : Hid (dec (PairR ⟨x_name, x_num⟩) = true) := dec_true ⟨h_n, h_l, h_h⟩
        simp only [dec_true h_n] at hc_n
        have HC_n := Lib.hid hc_n
        have e0 : decide ((-32767 : Int) ≤ x_num) = true := by simpa using h_l
        have e1 : decide (x_num ≤ (32767 : Int)) = true := by simpa using h_h
        clear hc_n z_name z_num _hF hm h_n h_l h_h
        go_enter Tryz.func25, Tryz.ntmps25
        go_upto_region 1 with fail
        rw [HW1.out]
        obtain ⟨hq1, hqt0⟩ := hE.out W1 (Below.refl _ _)
        have HB0 : Below W1.heap.size W1 W1 := Below.refl _ _
        have g0 := hq1.2 0 (by simp)
        have g1 := hq1.2 1 (by simp)
        simp only [cqs, cqz] at g0 g1
        go_wp2_with (go_at_call 18; (with_reducible refine (HC_n.out W1 hqt0).mono ?_); rintro e91 w1 ⟨rfl, hb1⟩; have HB1 := bt HB0 hb1; obtain ⟨r1hq1, hqt1⟩ := hE.out w1 HB1; have g1_1 := r1hq1.2 1 (by simp); simp only [cqs, cqz] at g1_1)
        go_ret
        exact ⟨ret_bool hfin.out.symm, hqt1⟩
      · have hfin : Hid (dec (PairR ⟨x_name, x_num⟩) = false) := dec_false (fun h => h_h h.2.2)
        simp only [dec_true h_n] at hc_n
        have HC_n := Lib.hid hc_n
        have e0 : decide ((-32767 : Int) ≤ x_num) = true := by simpa using h_l
        have e1 : decide (x_num ≤ (32767 : Int)) = false := by simpa using h_h
        clear hc_n z_name z_num _hF hm h_n h_l h_h
        go_enter Tryz.func25, Tryz.ntmps25
        go_upto_region 1 with fail
        rw [HW1.out]
        obtain ⟨hq1, hqt0⟩ := hE.out W1 (Below.refl _ _)
        have HB0 : Below W1.heap.size W1 W1 := Below.refl _ _
        have g0 := hq1.2 0 (by simp)
        have g1 := hq1.2 1 (by simp)
        simp only [cqs, cqz] at g0 g1
        go_wp2_with (go_at_call 18; (with_reducible refine (HC_n.out W1 hqt0).mono ?_); rintro e91 w1 ⟨rfl, hb1⟩; have HB1 := bt HB0 hb1; obtain ⟨r1hq1, hqt1⟩ := hE.out w1 HB1; have g1_1 := r1hq1.2 1 (by simp); simp only [cqs, cqz] at g1_1)
        go_ret
        exact ⟨ret_bool hfin.out.symm, hqt1⟩
    · have hfin : Hid (dec (PairR ⟨x_name, x_num⟩) = false) := dec_false (fun h => h_l h.2.1)
      simp only [dec_true h_n] at hc_n
      have HC_n := Lib.hid hc_n
      have e0 : decide ((-32767 : Int) ≤ x_num) = false := by simpa using h_l
      clear hc_n z_name z_num _hF hm h_n h_l
      go_enter Tryz.func25, Tryz.ntmps25
      go_upto_region 1 with fail
      rw [HW1.out]
      obtain ⟨hq1, hqt0⟩ := hE.out W1 (Below.refl _ _)
      have HB0 : Below W1.heap.size W1 W1 := Below.refl _ _
      have g0 := hq1.2 0 (by simp)
      have g1 := hq1.2 1 (by simp)
      simp only [cqs, cqz] at g0 g1
      go_wp2_with (go_at_call 18; (with_reducible refine (HC_n.out W1 hqt0).mono ?_); rintro e91 w1 ⟨rfl, hb1⟩; have HB1 := bt HB0 hb1; obtain ⟨r1hq1, hqt1⟩ := hE.out w1 HB1; have g1_1 := r1hq1.2 1 (by simp); simp only [cqs, cqz] at g1_1)
      go_ret
      exact ⟨ret_bool hfin.out.symm, hqt1⟩
  · have hfin : Hid (dec (PairR ⟨x_name, x_num⟩) = false) := dec_false (fun h => h_n h.1)
    simp only [dec_false h_n] at hc_n
    have HC_n := Lib.hid hc_n
    clear hc_n z_name z_num _hF hm h_n
    go_enter Tryz.func25, Tryz.ntmps25
    go_upto_region 1 with fail
    rw [HW1.out]
    obtain ⟨hq1, hqt0⟩ := hE.out W1 (Below.refl _ _)
    have HB0 : Below W1.heap.size W1 W1 := Below.refl _ _
    have g0 := hq1.2 0 (by simp)
    simp only [cqz] at g0
    go_wp2_with (go_at_call 18; (with_reducible refine (HC_n.out W1 hqt0).mono ?_); rintro e91 w1 ⟨rfl, hb1⟩; have HB1 := bt HB0 hb1; obtain ⟨r1hq1, hqt1⟩ := hE.out w1 HB1)
    go_ret
    exact ⟨ret_bool hfin.out.symm, hqt1⟩
set_option maxRecDepth 100000 in
set_option maxHeartbeats 4000000 in
theorem riCond_calls (F : Nat → Prop) (w : World) (x : Ex) (cs : List Value) (hF : Inn F w) (hm : MX w) (hx : RdEx F w x cs) :
    Calls Tryz.prog 160 #[.agg cs.toArray] w (Gives w (.bool (dec (CondR x)))) := by
  have hx2 := hx
  obtain ⟨q1, q2, q3, q4, da4, fa4, rfl⟩ := ex_shape hx2
  obtain ⟨hq1, -, -, -, -, -, -, -, -⟩ := hx.parts
  obtain ⟨W1, hW1⟩ : ∃ W1, w.alloc (.cells #[.int .i64 q1, .int .i64 q2, .int .i64 q3, .string q4, .slice da4 x.args.length fa4] 130) = W1 := ⟨_, rfl⟩
  have hs1 : W1.heap.size = w.heap.size + 1 := by rw [← hW1]; simp
  have hb1 : Below w.heap.size w W1 := by rw [← hW1]; exact (Below.refl _ _).alloc (Nat.le_refl _) _
  have hbx1 : BoxAt W1 w.heap.size [.int .i64 q1, .int .i64 q2, .int .i64 q3, .string q4, .slice da4 x.args.length fa4] := by rw [← hW1]; exact BoxAt.new _ _ _
  have hE : Hid (∀ W, Below W1.heap.size W1 W → BoxAt W (w.heap.size) [.int .i64 q1, .int .i64 q2, .int .i64 q3, .string q4, .slice da4 x.args.length fa4] ∧ Below w.heap.size w W) := fun W h2 => ⟨hbx1.below h2 (by omega), (bt hb1 h2)⟩
  have HZ0 := Lib.hid hs1
  have HW1 := Lib.hid hW1
  clear hW1 hs1 hb1 hbx1
  have hc_r := fun (W : World) (hW : Below w.heap.size w W) => rightT_calls x F W _ (hF.below hW) (hm.below hW (Nat.le_refl _)) (RdEx.below hx hF hW (Nat.le_refl _))
  have hc_D := fun (W : World) (hW : Below w.heap.size w W) => depthT_calls x F W _ (hF.below hW) (RdEx.below hx hF hW (Nat.le_refl _))
  by_cases h_a : ¬ q1 = 2
  · by_cases h_b : ¬ q1 = 13
    · by_cases h_r : RightE x
      · by_cases h_d : ((min x.depth 65 : Nat) : Int) < 32
        · have hfin : Hid (dec (CondR x) = true) := dec_true ⟨by rw [hq1]; exact h_a, by rw [hq1]; exact h_b, h_r, h_d⟩
          simp only [dec_true h_r] at hc_r
          have HC_r := Lib.hid hc_r
          have HC_D := Lib.hid hc_D
          have e0 : (q1 != 2) = true := by simpa using h_a
          have e1 : (q1 == 2) = false := by simpa using h_a
          have e2 : (q1 != 13) = true := by simpa using h_b
          have e3 : (q1 == 13) = false := by simpa using h_b
          have e4 : decide (((min x.depth 65 : Nat) : Int) < 32) = true := by simpa using h_d
          clear hc_r hc_D hx hx2 hq1 hF hm h_a h_b h_r h_d
          go_enter Tryz.func160, Tryz.ntmps160
          go_upto_region 1 with fail
          rw [HW1.out]
          obtain ⟨hq1, hqt0⟩ := hE.out W1 (Below.refl _ _)
          have HB0 : Below W1.heap.size W1 W1 := Below.refl _ _
          have g0 := hq1.2 0 (by simp)
          have g1 := hq1.2 1 (by simp)
          have g2 := hq1.2 2 (by simp)
          have g3 := hq1.2 3 (by simp)
          have g4 := hq1.2 4 (by simp)
          simp only [cqs, cqz] at g0 g1 g2 g3 g4
          go_wp2_with (first | (go_at_call 161; (with_reducible refine (HC_r.out W1 hqt0).mono ?_); rintro e91 w1 ⟨rfl, hb1⟩; have HB1 := bt HB0 hb1; obtain ⟨r1hq1, hqt1⟩ := hE.out w1 HB1; have g1_0 := r1hq1.2 0 (by simp); have g1_1 := r1hq1.2 1 (by simp); have g1_2 := r1hq1.2 2 (by simp); have g1_3 := r1hq1.2 3 (by simp); have g1_4 := r1hq1.2 4 (by simp); simp only [cqs, cqz] at g1_0 g1_1 g1_2 g1_3 g1_4) | (go_at_call 162; (with_reducible refine (HC_D.out w1 hqt1).mono ?_); rintro e92 w2 ⟨rfl, hb2⟩; have HB2 := bt HB1 hb2; obtain ⟨r2hq1, hqt2⟩ := hE.out w2 HB2; have g2_0 := r2hq1.2 0 (by simp); have g2_1 := r2hq1.2 1 (by simp); have g2_2 := r2hq1.2 2 (by simp); have g2_3 := r2hq1.2 3 (by simp); have g2_4 := r2hq1.2 4 (by simp); simp only [cqs, cqz] at g2_0 g2_1 g2_2 g2_3 g2_4))
          go_ret
          exact ⟨ret_bool hfin.out.symm, hqt2⟩
        · have hfin : Hid (dec (CondR x) = false) := dec_false (fun h => h_d h.2.2.2)
          simp only [dec_true h_r] at hc_r
          have HC_r := Lib.hid hc_r
          have HC_D := Lib.hid hc_D
          have e0 : (q1 != 2) = true := by simpa using h_a
          have e1 : (q1 == 2) = false := by simpa using h_a
          have e2 : (q1 != 13) = true := by simpa using h_b
          have e3 : (q1 == 13) = false := by simpa using h_b
          have e4 : decide (((min x.depth 65 : Nat) : Int) < 32) = false := by simpa using h_d
          clear hc_r hc_D hx hx2 hq1 hF hm h_a h_b h_r h_d
          go_enter Tryz.func160, Tryz.ntmps160
          go_upto_region 1 with fail
          rw [HW1.out]
          obtain ⟨hq1, hqt0⟩ := hE.out W1 (Below.refl _ _)
          have HB0 : Below W1.heap.size W1 W1 := Below.refl _ _
          have g0 := hq1.2 0 (by simp)
          have g1 := hq1.2 1 (by simp)
          have g2 := hq1.2 2 (by simp)
          have g3 := hq1.2 3 (by simp)
          have g4 := hq1.2 4 (by simp)
          simp only [cqs, cqz] at g0 g1 g2 g3 g4
          go_wp2_with (first | (go_at_call 161; (with_reducible refine (HC_r.out W1 hqt0).mono ?_); rintro e91 w1 ⟨rfl, hb1⟩; have HB1 := bt HB0 hb1; obtain ⟨r1hq1, hqt1⟩ := hE.out w1 HB1; have g1_0 := r1hq1.2 0 (by simp); have g1_1 := r1hq1.2 1 (by simp); have g1_2 := r1hq1.2 2 (by simp); have g1_3 := r1hq1.2 3 (by simp); have g1_4 := r1hq1.2 4 (by simp); simp only [cqs, cqz] at g1_0 g1_1 g1_2 g1_3 g1_4) | (go_at_call 162; (with_reducible refine (HC_D.out w1 hqt1).mono ?_); rintro e92 w2 ⟨rfl, hb2⟩; have HB2 := bt HB1 hb2; obtain ⟨r2hq1, hqt2⟩ := hE.out w2 HB2; have g2_0 := r2hq1.2 0 (by simp); have g2_1 := r2hq1.2 1 (by simp); have g2_2 := r2hq1.2 2 (by simp); have g2_3 := r2hq1.2 3 (by simp); have g2_4 := r2hq1.2 4 (by simp); simp only [cqs, cqz] at g2_0 g2_1 g2_2 g2_3 g2_4))
          go_ret
          exact ⟨ret_bool hfin.out.symm, hqt2⟩
      · have hfin : Hid (dec (CondR x) = false) := dec_false (fun h => h_r h.2.2.1)
        simp only [dec_false h_r] at hc_r
        have HC_r := Lib.hid hc_r
        have e0 : (q1 != 2) = true := by simpa using h_a
        have e1 : (q1 == 2) = false := by simpa using h_a
        have e2 : (q1 != 13) = true := by simpa using h_b
        have e3 : (q1 == 13) = false := by simpa using h_b
        clear hc_r hc_D hx hx2 hq1 hF hm h_a h_b h_r
        go_enter Tryz.func160, Tryz.ntmps160
        go_upto_region 1 with fail
        rw [HW1.out]
        obtain ⟨hq1, hqt0⟩ := hE.out W1 (Below.refl _ _)
        have HB0 : Below W1.heap.size W1 W1 := Below.refl _ _
        have g0 := hq1.2 0 (by simp)
        have g1 := hq1.2 1 (by simp)
        have g2 := hq1.2 2 (by simp)
        have g3 := hq1.2 3 (by simp)
        have g4 := hq1.2 4 (by simp)
        simp only [cqs, cqz] at g0 g1 g2 g3 g4
        go_wp2_with (go_at_call 161; (with_reducible refine (HC_r.out W1 hqt0).mono ?_); rintro e91 w1 ⟨rfl, hb1⟩; have HB1 := bt HB0 hb1; obtain ⟨r1hq1, hqt1⟩ := hE.out w1 HB1)
        go_ret
        exact ⟨ret_bool hfin.out.symm, hqt1⟩
    · have hfin : Hid (dec (CondR x) = false) := dec_false (fun h => h.2.1 (hq1.trans (Classical.not_not.1 h_b)))
      have e0 : (q1 != 2) = true := by simpa using h_a
      have e1 : (q1 == 2) = false := by simpa using h_a
      have e2 : (q1 != 13) = false := by simpa using h_b
      have e3 : (q1 == 13) = true := by simpa using h_b
      clear hc_r hc_D hx hx2 hq1 hF hm h_a h_b
      go_enter Tryz.func160, Tryz.ntmps160
      go_upto_region 1 with fail
      rw [HW1.out]
      obtain ⟨hq1, hqt0⟩ := hE.out W1 (Below.refl _ _)
      have HB0 : Below W1.heap.size W1 W1 := Below.refl _ _
      have g0 := hq1.2 0 (by simp)
      simp only [cqz] at g0
      go_wp2_with fail
      go_ret
      exact ⟨ret_bool hfin.out.symm, hqt0⟩
  · have hfin : Hid (dec (CondR x) = false) := dec_false (fun h => h.1 (hq1.trans (Classical.not_not.1 h_a)))
    have e0 : (q1 != 2) = false := by simpa using h_a
    have e1 : (q1 == 2) = true := by simpa using h_a
    clear hc_r hc_D hx hx2 hq1 hF hm h_a
    go_enter Tryz.func160, Tryz.ntmps160
    go_upto_region 1 with fail
    rw [HW1.out]
    obtain ⟨hq1, hqt0⟩ := hE.out W1 (Below.refl _ _)
    have HB0 : Below W1.heap.size W1 W1 := Below.refl _ _
    have g0 := hq1.2 0 (by simp)
    simp only [cqz] at g0
    go_wp2_with fail
    go_ret
    exact ⟨ret_bool hfin.out.symm, hqt0⟩
set_option maxRecDepth 100000 in
set_option maxHeartbeats 1000000 in
theorem riWhen_calls (F : Nat → Prop) (w : World) (l : List Ex) (v : Value) (hF : Inn F w) (hm : MX w) (hr : Exs F w l v) :
    Calls Tryz.prog 97 #[v] w (Gives w (.bool (dec (WhenR l)))) := by
  have hc := allExpr_calls F w 160 #[] l 1 v CondR hF (exs_rdl hr) (fun _ _ => by kernel_rfl) (fun x _ W' cs hW' hx => riCond_calls F W' x cs (hF.below hW') (hm.below hW' (Nat.le_refl _)) hx)
  obtain ⟨a, cap, rfl⟩ := hr.shape
  have HC := Lib.hid hc
  clear hc hr hm hF
  go_enter Tryz.func97, Tryz.ntmps97
  go_wp2_with (go_at_call 159; refine HC.out.mono ?_; rintro e w1 ⟨rfl, hb⟩)
  go_ret
  exact ⟨rfl, hb⟩
set_option maxRecDepth 100000 in
set_option maxHeartbeats 4000000 in
theorem riExit_calls (F : Nat → Prop) (w : World) (x : ExitD) (cs : List Value) (hF : Inn F w) (hm : MX w) (hx : Holds.exit.R F w x cs) :
    Calls Tryz.prog 96 #[.agg cs.toArray] w (Gives w (.bool (dec (ExitR x)))) := by
  obtain ⟨x_dir, x_to, x_els, x_cond⟩ := x
  obtain ⟨z_dir, z_to, z_els, va3, rfl, ka3⟩ := hx
  simp only at ka3 z_dir z_to z_els
  obtain ⟨da3, fa3, rfl⟩ := ka3.shape
  obtain ⟨W1, hW1⟩ : ∃ W1, w.alloc (.cells #[.int .i64 x_dir, .string x_to, .string x_els, .slice da3 x_cond.length fa3] 114) = W1 := ⟨_, rfl⟩
  have hs1 : W1.heap.size = w.heap.size + 1 := by rw [← hW1]; simp
  have hb1 : Below w.heap.size w W1 := by rw [← hW1]; exact (Below.refl _ _).alloc (Nat.le_refl _) _
  have hbx1 : BoxAt W1 w.heap.size [.int .i64 x_dir, .string x_to, .string x_els, .slice da3 x_cond.length fa3] := by rw [← hW1]; exact BoxAt.new _ _ _
  have hE : Hid (∀ W, Below W1.heap.size W1 W → BoxAt W (w.heap.size) [.int .i64 x_dir, .string x_to, .string x_els, .slice da3 x_cond.length fa3] ∧ Below w.heap.size w W) := fun W h2 => ⟨hbx1.below h2 (by omega), (bt hb1 h2)⟩
  have HZ0 := Lib.hid hs1
  have HW1 := Lib.hid hW1
  clear hW1 hs1 hb1 hbx1
  have hc_n := fun (W : World) (hW : Below w.heap.size w W) => (riName_calls x_to W z_to (hm.below hW (Nat.le_refl _)))
  have hc_t := fun (W : World) (hW : Below w.heap.size w W) => Same0.gv (isText_calls x_els W z_els)
  have hc_w := fun (W : World) (hW : Below w.heap.size w W) => riWhen_calls F W x_cond _ (hF.below hW) (hm.below hW (Nat.le_refl _)) (Exs.below ka3 hF hW (Nat.le_refl _))
  by_cases h_l : (1 : Int) ≤ x_dir
  · by_cases h_h : x_dir ≤ (12 : Int)
    · by_cases h_n : IsNm x_to
      · by_cases h_t : IsText x_els
        · by_cases h_w : WhenR x_cond
          · have hfin : Hid (dec (ExitR ⟨x_dir, x_to, x_els, x_cond⟩) = true) := dec_true ⟨h_l, h_h, h_n, h_t, h_w⟩
            simp only [dec_true h_n] at hc_n
            have HC_n := Lib.hid hc_n
            simp only [dec_true h_t] at hc_t
            have HC_t := Lib.hid hc_t
            simp only [dec_true h_w] at hc_w
            have HC_w := Lib.hid hc_w
            have e0 : decide ((1 : Int) ≤ x_dir) = true := by simpa using h_l
            have e1 : decide (x_dir ≤ (12 : Int)) = true := by simpa using h_h
            clear hc_n hc_t hc_w ka3 z_dir z_to z_els hF hm h_l h_h h_n h_t h_w
            go_enter Tryz.func96, Tryz.ntmps96
            go_upto_region 1 with fail
            rw [HW1.out]
            obtain ⟨hq1, hqt0⟩ := hE.out W1 (Below.refl _ _)
            have HB0 : Below W1.heap.size W1 W1 := Below.refl _ _
            have g0 := hq1.2 0 (by simp)
            have g1 := hq1.2 1 (by simp)
            have g2 := hq1.2 2 (by simp)
            have g3 := hq1.2 3 (by simp)
            simp only [cqs, cqz] at g0 g1 g2 g3
            go_wp2_with (first | (go_at_call 18; (with_reducible refine (HC_n.out W1 hqt0).mono ?_); rintro e91 w1 ⟨rfl, hb1⟩; have HB1 := bt HB0 hb1; obtain ⟨r1hq1, hqt1⟩ := hE.out w1 HB1; have g1_2 := r1hq1.2 2 (by simp); have g1_3 := r1hq1.2 3 (by simp); simp only [cqs, cqz] at g1_2 g1_3) | (go_at_call 23; (with_reducible refine (HC_t.out w1 hqt1).mono ?_); rintro e92 w2 ⟨rfl, hb2⟩; have HB2 := bt HB1 hb2; obtain ⟨r2hq1, hqt2⟩ := hE.out w2 HB2; have g2_3 := r2hq1.2 3 (by simp); simp only [cqs, cqz] at g2_3) | (go_at_call 97; (with_reducible refine (HC_w.out w2 hqt2).mono ?_); rintro e93 w3 ⟨rfl, hb3⟩; have HB3 := bt HB2 hb3; obtain ⟨r3hq1, hqt3⟩ := hE.out w3 HB3))
            go_ret
            exact ⟨ret_bool hfin.out.symm, hqt3⟩
          · have hfin : Hid (dec (ExitR ⟨x_dir, x_to, x_els, x_cond⟩) = false) := dec_false (fun h => h_w h.2.2.2.2)
            simp only [dec_true h_n] at hc_n
            have HC_n := Lib.hid hc_n
            simp only [dec_true h_t] at hc_t
            have HC_t := Lib.hid hc_t
            simp only [dec_false h_w] at hc_w
            have HC_w := Lib.hid hc_w
            have e0 : decide ((1 : Int) ≤ x_dir) = true := by simpa using h_l
            have e1 : decide (x_dir ≤ (12 : Int)) = true := by simpa using h_h
            clear hc_n hc_t hc_w ka3 z_dir z_to z_els hF hm h_l h_h h_n h_t h_w
            go_enter Tryz.func96, Tryz.ntmps96
            go_upto_region 1 with fail
            rw [HW1.out]
            obtain ⟨hq1, hqt0⟩ := hE.out W1 (Below.refl _ _)
            have HB0 : Below W1.heap.size W1 W1 := Below.refl _ _
            have g0 := hq1.2 0 (by simp)
            have g1 := hq1.2 1 (by simp)
            have g2 := hq1.2 2 (by simp)
            have g3 := hq1.2 3 (by simp)
            simp only [cqs, cqz] at g0 g1 g2 g3
            go_wp2_with (first | (go_at_call 18; (with_reducible refine (HC_n.out W1 hqt0).mono ?_); rintro e91 w1 ⟨rfl, hb1⟩; have HB1 := bt HB0 hb1; obtain ⟨r1hq1, hqt1⟩ := hE.out w1 HB1; have g1_2 := r1hq1.2 2 (by simp); have g1_3 := r1hq1.2 3 (by simp); simp only [cqs, cqz] at g1_2 g1_3) | (go_at_call 23; (with_reducible refine (HC_t.out w1 hqt1).mono ?_); rintro e92 w2 ⟨rfl, hb2⟩; have HB2 := bt HB1 hb2; obtain ⟨r2hq1, hqt2⟩ := hE.out w2 HB2; have g2_3 := r2hq1.2 3 (by simp); simp only [cqs, cqz] at g2_3) | (go_at_call 97; (with_reducible refine (HC_w.out w2 hqt2).mono ?_); rintro e93 w3 ⟨rfl, hb3⟩; have HB3 := bt HB2 hb3; obtain ⟨r3hq1, hqt3⟩ := hE.out w3 HB3))
            go_ret
            exact ⟨ret_bool hfin.out.symm, hqt3⟩
        · have hfin : Hid (dec (ExitR ⟨x_dir, x_to, x_els, x_cond⟩) = false) := dec_false (fun h => h_t h.2.2.2.1)
          simp only [dec_true h_n] at hc_n
          have HC_n := Lib.hid hc_n
          simp only [dec_false h_t] at hc_t
          have HC_t := Lib.hid hc_t
          have e0 : decide ((1 : Int) ≤ x_dir) = true := by simpa using h_l
          have e1 : decide (x_dir ≤ (12 : Int)) = true := by simpa using h_h
          clear hc_n hc_t hc_w ka3 z_dir z_to z_els hF hm h_l h_h h_n h_t
          go_enter Tryz.func96, Tryz.ntmps96
          go_upto_region 1 with fail
          rw [HW1.out]
          obtain ⟨hq1, hqt0⟩ := hE.out W1 (Below.refl _ _)
          have HB0 : Below W1.heap.size W1 W1 := Below.refl _ _
          have g0 := hq1.2 0 (by simp)
          have g1 := hq1.2 1 (by simp)
          have g2 := hq1.2 2 (by simp)
          simp only [cqs, cqz] at g0 g1 g2
          go_wp2_with (first | (go_at_call 18; (with_reducible refine (HC_n.out W1 hqt0).mono ?_); rintro e91 w1 ⟨rfl, hb1⟩; have HB1 := bt HB0 hb1; obtain ⟨r1hq1, hqt1⟩ := hE.out w1 HB1; have g1_2 := r1hq1.2 2 (by simp); simp only [cqs, cqz] at g1_2) | (go_at_call 23; (with_reducible refine (HC_t.out w1 hqt1).mono ?_); rintro e92 w2 ⟨rfl, hb2⟩; have HB2 := bt HB1 hb2; obtain ⟨r2hq1, hqt2⟩ := hE.out w2 HB2))
          go_ret
          exact ⟨ret_bool hfin.out.symm, hqt2⟩
      · have hfin : Hid (dec (ExitR ⟨x_dir, x_to, x_els, x_cond⟩) = false) := dec_false (fun h => h_n h.2.2.1)
        simp only [dec_false h_n] at hc_n
        have HC_n := Lib.hid hc_n
        have e0 : decide ((1 : Int) ≤ x_dir) = true := by simpa using h_l
        have e1 : decide (x_dir ≤ (12 : Int)) = true := by simpa using h_h
        clear hc_n hc_t hc_w ka3 z_dir z_to z_els hF hm h_l h_h h_n
        go_enter Tryz.func96, Tryz.ntmps96
        go_upto_region 1 with fail
        rw [HW1.out]
        obtain ⟨hq1, hqt0⟩ := hE.out W1 (Below.refl _ _)
        have HB0 : Below W1.heap.size W1 W1 := Below.refl _ _
        have g0 := hq1.2 0 (by simp)
        have g1 := hq1.2 1 (by simp)
        simp only [cqs, cqz] at g0 g1
        go_wp2_with (go_at_call 18; (with_reducible refine (HC_n.out W1 hqt0).mono ?_); rintro e91 w1 ⟨rfl, hb1⟩; have HB1 := bt HB0 hb1; obtain ⟨r1hq1, hqt1⟩ := hE.out w1 HB1)
        go_ret
        exact ⟨ret_bool hfin.out.symm, hqt1⟩
    · have hfin : Hid (dec (ExitR ⟨x_dir, x_to, x_els, x_cond⟩) = false) := dec_false (fun h => h_h h.2.1)
      have e0 : decide ((1 : Int) ≤ x_dir) = true := by simpa using h_l
      have e1 : decide (x_dir ≤ (12 : Int)) = false := by simpa using h_h
      clear hc_n hc_t hc_w ka3 z_dir z_to z_els hF hm h_l h_h
      go_enter Tryz.func96, Tryz.ntmps96
      go_upto_region 1 with fail
      rw [HW1.out]
      obtain ⟨hq1, hqt0⟩ := hE.out W1 (Below.refl _ _)
      have HB0 : Below W1.heap.size W1 W1 := Below.refl _ _
      have g0 := hq1.2 0 (by simp)
      simp only [cqz] at g0
      go_wp2_with fail
      go_ret
      exact ⟨ret_bool hfin.out.symm, hqt0⟩
  · have hfin : Hid (dec (ExitR ⟨x_dir, x_to, x_els, x_cond⟩) = false) := dec_false (fun h => h_l h.1)
    have e0 : decide ((1 : Int) ≤ x_dir) = false := by simpa using h_l
    clear hc_n hc_t hc_w ka3 z_dir z_to z_els hF hm h_l
    go_enter Tryz.func96, Tryz.ntmps96
    go_upto_region 1 with fail
    rw [HW1.out]
    obtain ⟨hq1, hqt0⟩ := hE.out W1 (Below.refl _ _)
    have HB0 : Below W1.heap.size W1 W1 := Below.refl _ _
    have g0 := hq1.2 0 (by simp)
    simp only [cqz] at g0
    go_wp2_with fail
    go_ret
    exact ⟨ret_bool hfin.out.symm, hqt0⟩
set_option maxRecDepth 100000 in
set_option maxHeartbeats 4000000 in
theorem riObj_calls (F : Nat → Prop) (w : World) (x : ObjD) (cs : List Value) (hF : Inn F w) (hm : MX w) (hx : Holds.obj.R F w x cs) :
    Calls Tryz.prog 27 #[.agg cs.toArray] w (Gives w (.bool (dec (ObjR x)))) := by
  obtain ⟨x_name, x_title, x_inn, x_text, x_room, x_words, x_adjs, x_flags, x_props, x_exits⟩ := x
  obtain ⟨z_name, z_title, z_inn, z_text, va5, va6, va7, va8, va9, rfl, ka5, ka6, ka7, ka8, ka9⟩ := hx
  simp only at ka5 ka6 ka7 ka8 ka9 z_name z_title z_inn z_text
  obtain ⟨da5, fa5, rfl⟩ := ka5.shape
  obtain ⟨da6, fa6, rfl⟩ := ka6.shape
  obtain ⟨da7, fa7, rfl⟩ := ka7.shape
  obtain ⟨da8, fa8, rfl⟩ := ka8.shape
  obtain ⟨da9, fa9, rfl⟩ := ka9.shape
  obtain ⟨W1, hW1⟩ : ∃ W1, w.alloc (.cells #[.string x_name, .string x_title, .string x_inn, .string x_text, .bool x_room, .slice da5 x_words.length fa5, .slice da6 x_adjs.length fa6, .slice da7 x_flags.length fa7, .slice da8 x_props.length fa8, .slice da9 x_exits.length fa9] 55) = W1 := ⟨_, rfl⟩
  have hs1 : W1.heap.size = w.heap.size + 1 := by rw [← hW1]; simp
  have hb1 : Below w.heap.size w W1 := by rw [← hW1]; exact (Below.refl _ _).alloc (Nat.le_refl _) _
  have hbx1 : BoxAt W1 w.heap.size [.string x_name, .string x_title, .string x_inn, .string x_text, .bool x_room, .slice da5 x_words.length fa5, .slice da6 x_adjs.length fa6, .slice da7 x_flags.length fa7, .slice da8 x_props.length fa8, .slice da9 x_exits.length fa9] := by rw [← hW1]; exact BoxAt.new _ _ _
  have hE : Hid (∀ W, Below W1.heap.size W1 W → BoxAt W (w.heap.size) [.string x_name, .string x_title, .string x_inn, .string x_text, .bool x_room, .slice da5 x_words.length fa5, .slice da6 x_adjs.length fa6, .slice da7 x_flags.length fa7, .slice da8 x_props.length fa8, .slice da9 x_exits.length fa9] ∧ Below w.heap.size w W) := fun W h2 => ⟨hbx1.below h2 (by omega), (bt hb1 h2)⟩
  have HZ0 := Lib.hid hs1
  have HW1 := Lib.hid hW1
  clear hW1 hs1 hb1 hbx1
  have hc_w := fun (W : World) (hW : Below w.heap.size w W) => allString_calls F W 23 #[] x_words 8 _ IsText (hF.below hW) (RdL.below ka5 hF hW (Nat.le_refl _)) (fun _ _ => by kernel_rfl) (fun x _ => ask_text x)
  have hc_a := fun (W : World) (hW : Below w.heap.size w W) => allString_calls F W 23 #[] x_adjs 8 _ IsText (hF.below hW) (RdL.below ka6 hF hW (Nat.le_refl _)) (fun _ _ => by kernel_rfl) (fun x _ => ask_text x)
  have hc_n := fun (W : World) (hW : Below w.heap.size w W) => (riName_calls x_name W z_name (hm.below hW (Nat.le_refl _)))
  have hc_t := fun (W : World) (hW : Below w.heap.size w W) => Same0.gv (isText_calls x_title W z_title)
  have hc_x := fun (W : World) (hW : Below w.heap.size w W) => Same0.gv (isText_calls x_text W z_text)
  have hc_i := fun (W : World) (hW : Below w.heap.size w W) => riMaybe_calls x_inn W z_inn (hm.below hW (Nat.le_refl _))
  have hc_f := fun (W : World) (hW : Below w.heap.size w W) => allString_calls F W 18 #[] x_flags 16 _ IsNm (hF.below hW) (RdL.below ka7 hF hW (Nat.le_refl _)) (fun _ _ => by kernel_rfl) (fun x _ => ask_name x (hm.below hW (Nat.le_refl _)))
  have hc_p := fun (W : World) (hW : Below w.heap.size w W) => allPair_calls F W 25 #[] x_props 16 _ PairR (hF.below hW) (RdL.below ka8 hF hW (Nat.le_refl _)) (fun _ _ => by kernel_rfl) (fun x _ W' cs hW' hx => riPair_calls F W' x cs ((hF.below hW).below hW') ((hm.below hW (Nat.le_refl _)).below hW' (Nat.le_refl _)) hx)
  have hc_E := fun (W : World) (hW : Below w.heap.size w W) => allExit_calls F W 96 #[] x_exits 12 _ ExitR (hF.below hW) (RdL.below ka9 hF hW (Nat.le_refl _)) (fun _ _ => by kernel_rfl) (fun x _ W' cs hW' hx => riExit_calls F W' x cs ((hF.below hW).below hW') ((hm.below hW (Nat.le_refl _)).below hW' (Nat.le_refl _)) hx)
  cases x_room
  · by_cases h_z : x_exits.length = 0
    · by_cases h_w : ((x_words.length : Int) ≤ 8 ∧ ∀ x ∈ x_words, IsText x)
      · by_cases h_a : ((x_adjs.length : Int) ≤ 8 ∧ ∀ x ∈ x_adjs, IsText x)
        · by_cases h_n : IsNm x_name
          · by_cases h_t : IsText x_title
            · by_cases h_x : IsText x_text
              · by_cases h_i : MaybeR x_inn
                · by_cases h_f : ((x_flags.length : Int) ≤ 16 ∧ ∀ x ∈ x_flags, IsNm x)
                  · by_cases h_p : ((x_props.length : Int) ≤ 16 ∧ ∀ x ∈ x_props, PairR x)
                    · by_cases h_E : ((x_exits.length : Int) ≤ 12 ∧ ∀ x ∈ x_exits, ExitR x)
                      · have hfin : Hid (dec (ObjR ⟨x_name, x_title, x_inn, x_text, false, x_words, x_adjs, x_flags, x_props, x_exits⟩) = true) := dec_true ⟨fun h => Bool.noConfusion h, fun _ => h_z, h_w, h_a, h_n, h_t, h_x, h_i, h_f, h_p, h_E⟩
                        simp only [dec_true h_w] at hc_w
                        have HC_w := Lib.hid hc_w
                        simp only [dec_true h_a] at hc_a
                        have HC_a := Lib.hid hc_a
                        simp only [dec_true h_n] at hc_n
                        have HC_n := Lib.hid hc_n
                        simp only [dec_true h_t] at hc_t
                        have HC_t := Lib.hid hc_t
                        simp only [dec_true h_x] at hc_x
                        have HC_x := Lib.hid hc_x
                        simp only [dec_true h_i] at hc_i
                        have HC_i := Lib.hid hc_i
                        simp only [dec_true h_f] at hc_f
                        have HC_f := Lib.hid hc_f
                        simp only [dec_true h_p] at hc_p
                        have HC_p := Lib.hid hc_p
                        simp only [dec_true h_E] at hc_E
                        have HC_E := Lib.hid hc_E
                        have e0 : decide ((0 : Int) < (x_exits.length : Int)) = false := decide_eq_false (by omega)
                        have e1 : decide (0 < x_exits.length) = false := decide_eq_false (by omega)
                        clear hc_w hc_a hc_n hc_t hc_x hc_i hc_f hc_p hc_E ka5 ka6 ka7 ka8 ka9 z_name z_title z_inn z_text hF hm h_z h_w h_a h_n h_t h_x h_i h_f h_p h_E
                        go_enter Tryz.func27, Tryz.ntmps27
                        go_upto_region 1 with fail
                        rw [HW1.out]
                        obtain ⟨hq1, hqt0⟩ := hE.out W1 (Below.refl _ _)
                        have HB0 : Below W1.heap.size W1 W1 := Below.refl _ _
                        have g0 := hq1.2 0 (by simp)
                        have g1 := hq1.2 1 (by simp)
                        have g2 := hq1.2 2 (by simp)
                        have g3 := hq1.2 3 (by simp)
                        have g4 := hq1.2 4 (by simp)
                        have g5 := hq1.2 5 (by simp)
                        have g6 := hq1.2 6 (by simp)
                        have g7 := hq1.2 7 (by simp)
                        have g8 := hq1.2 8 (by simp)
                        have g9 := hq1.2 9 (by simp)
                        simp only [cqs, cqz] at g0 g1 g2 g3 g4 g5 g6 g7 g8 g9
                        go_wp2_with (first | (go_at_call 19; (with_reducible refine (HC_w.out W1 hqt0).mono ?_); rintro e91 w1 ⟨rfl, hb1⟩; have HB1 := bt HB0 hb1; obtain ⟨r1hq1, hqt1⟩ := hE.out w1 HB1; have g1_0 := r1hq1.2 0 (by simp); have g1_1 := r1hq1.2 1 (by simp); have g1_2 := r1hq1.2 2 (by simp); have g1_3 := r1hq1.2 3 (by simp); have g1_6 := r1hq1.2 6 (by simp); have g1_7 := r1hq1.2 7 (by simp); have g1_8 := r1hq1.2 8 (by simp); have g1_9 := r1hq1.2 9 (by simp); simp only [cqs, cqz] at g1_0 g1_1 g1_2 g1_3 g1_6 g1_7 g1_8 g1_9) | (go_at_call 19; (with_reducible refine (HC_a.out w1 hqt1).mono ?_); rintro e92 w2 ⟨rfl, hb2⟩; have HB2 := bt HB1 hb2; obtain ⟨r2hq1, hqt2⟩ := hE.out w2 HB2; have g2_0 := r2hq1.2 0 (by simp); have g2_1 := r2hq1.2 1 (by simp); have g2_2 := r2hq1.2 2 (by simp); have g2_3 := r2hq1.2 3 (by simp); have g2_7 := r2hq1.2 7 (by simp); have g2_8 := r2hq1.2 8 (by simp); have g2_9 := r2hq1.2 9 (by simp); simp only [cqs, cqz] at g2_0 g2_1 g2_2 g2_3 g2_7 g2_8 g2_9) | (go_at_call 18; (with_reducible refine (HC_n.out w2 hqt2).mono ?_); rintro e93 w3 ⟨rfl, hb3⟩; have HB3 := bt HB2 hb3; obtain ⟨r3hq1, hqt3⟩ := hE.out w3 HB3; have g3_1 := r3hq1.2 1 (by simp); have g3_2 := r3hq1.2 2 (by simp); have g3_3 := r3hq1.2 3 (by simp); have g3_7 := r3hq1.2 7 (by simp); have g3_8 := r3hq1.2 8 (by simp); have g3_9 := r3hq1.2 9 (by simp); simp only [cqs, cqz] at g3_1 g3_2 g3_3 g3_7 g3_8 g3_9) | (go_at_call 23; (with_reducible refine (HC_t.out w3 hqt3).mono ?_); rintro e94 w4 ⟨rfl, hb4⟩; have HB4 := bt HB3 hb4; obtain ⟨r4hq1, hqt4⟩ := hE.out w4 HB4; have g4_2 := r4hq1.2 2 (by simp); have g4_3 := r4hq1.2 3 (by simp); have g4_7 := r4hq1.2 7 (by simp); have g4_8 := r4hq1.2 8 (by simp); have g4_9 := r4hq1.2 9 (by simp); simp only [cqs, cqz] at g4_2 g4_3 g4_7 g4_8 g4_9) | (go_at_call 23; (with_reducible refine (HC_x.out w4 hqt4).mono ?_); rintro e95 w5 ⟨rfl, hb5⟩; have HB5 := bt HB4 hb5; obtain ⟨r5hq1, hqt5⟩ := hE.out w5 HB5; have g5_2 := r5hq1.2 2 (by simp); have g5_7 := r5hq1.2 7 (by simp); have g5_8 := r5hq1.2 8 (by simp); have g5_9 := r5hq1.2 9 (by simp); simp only [cqs, cqz] at g5_2 g5_7 g5_8 g5_9) | (go_at_call 98; (with_reducible refine (HC_i.out w5 hqt5).mono ?_); rintro e96 w6 ⟨rfl, hb6⟩; have HB6 := bt HB5 hb6; obtain ⟨r6hq1, hqt6⟩ := hE.out w6 HB6; have g6_7 := r6hq1.2 7 (by simp); have g6_8 := r6hq1.2 8 (by simp); have g6_9 := r6hq1.2 9 (by simp); simp only [cqs, cqz] at g6_7 g6_8 g6_9) | (go_at_call 19; (with_reducible refine (HC_f.out w6 hqt6).mono ?_); rintro e97 w7 ⟨rfl, hb7⟩; have HB7 := bt HB6 hb7; obtain ⟨r7hq1, hqt7⟩ := hE.out w7 HB7; have g7_8 := r7hq1.2 8 (by simp); have g7_9 := r7hq1.2 9 (by simp); simp only [cqs, cqz] at g7_8 g7_9) | (go_at_call 24; (with_reducible refine (HC_p.out w7 hqt7).mono ?_); rintro e98 w8 ⟨rfl, hb8⟩; have HB8 := bt HB7 hb8; obtain ⟨r8hq1, hqt8⟩ := hE.out w8 HB8; have g8_9 := r8hq1.2 9 (by simp); simp only [cqs, cqz] at g8_9) | (go_at_call 99; (with_reducible refine (HC_E.out w8 hqt8).mono ?_); rintro e99 w9 ⟨rfl, hb9⟩; have HB9 := bt HB8 hb9; obtain ⟨r9hq1, hqt9⟩ := hE.out w9 HB9))
                        go_ret
                        exact ⟨ret_bool hfin.out.symm, hqt9⟩
                      · have hfin : Hid (dec (ObjR ⟨x_name, x_title, x_inn, x_text, false, x_words, x_adjs, x_flags, x_props, x_exits⟩) = false) := dec_false (fun h => h_E h.2.2.2.2.2.2.2.2.2.2)
                        simp only [dec_true h_w] at hc_w
                        have HC_w := Lib.hid hc_w
                        simp only [dec_true h_a] at hc_a
                        have HC_a := Lib.hid hc_a
                        simp only [dec_true h_n] at hc_n
                        have HC_n := Lib.hid hc_n
                        simp only [dec_true h_t] at hc_t
                        have HC_t := Lib.hid hc_t
                        simp only [dec_true h_x] at hc_x
                        have HC_x := Lib.hid hc_x
                        simp only [dec_true h_i] at hc_i
                        have HC_i := Lib.hid hc_i
                        simp only [dec_true h_f] at hc_f
                        have HC_f := Lib.hid hc_f
                        simp only [dec_true h_p] at hc_p
                        have HC_p := Lib.hid hc_p
                        simp only [dec_false h_E] at hc_E
                        have HC_E := Lib.hid hc_E
                        have e0 : decide ((0 : Int) < (x_exits.length : Int)) = false := decide_eq_false (by omega)
                        have e1 : decide (0 < x_exits.length) = false := decide_eq_false (by omega)
                        clear hc_w hc_a hc_n hc_t hc_x hc_i hc_f hc_p hc_E ka5 ka6 ka7 ka8 ka9 z_name z_title z_inn z_text hF hm h_z h_w h_a h_n h_t h_x h_i h_f h_p h_E
                        go_enter Tryz.func27, Tryz.ntmps27
                        go_upto_region 1 with fail
                        rw [HW1.out]
                        obtain ⟨hq1, hqt0⟩ := hE.out W1 (Below.refl _ _)
                        have HB0 : Below W1.heap.size W1 W1 := Below.refl _ _
                        have g0 := hq1.2 0 (by simp)
                        have g1 := hq1.2 1 (by simp)
                        have g2 := hq1.2 2 (by simp)
                        have g3 := hq1.2 3 (by simp)
                        have g4 := hq1.2 4 (by simp)
                        have g5 := hq1.2 5 (by simp)
                        have g6 := hq1.2 6 (by simp)
                        have g7 := hq1.2 7 (by simp)
                        have g8 := hq1.2 8 (by simp)
                        have g9 := hq1.2 9 (by simp)
                        simp only [cqs, cqz] at g0 g1 g2 g3 g4 g5 g6 g7 g8 g9
                        go_wp2_with (first | (go_at_call 19; (with_reducible refine (HC_w.out W1 hqt0).mono ?_); rintro e91 w1 ⟨rfl, hb1⟩; have HB1 := bt HB0 hb1; obtain ⟨r1hq1, hqt1⟩ := hE.out w1 HB1; have g1_0 := r1hq1.2 0 (by simp); have g1_1 := r1hq1.2 1 (by simp); have g1_2 := r1hq1.2 2 (by simp); have g1_3 := r1hq1.2 3 (by simp); have g1_6 := r1hq1.2 6 (by simp); have g1_7 := r1hq1.2 7 (by simp); have g1_8 := r1hq1.2 8 (by simp); have g1_9 := r1hq1.2 9 (by simp); simp only [cqs, cqz] at g1_0 g1_1 g1_2 g1_3 g1_6 g1_7 g1_8 g1_9) | (go_at_call 19; (with_reducible refine (HC_a.out w1 hqt1).mono ?_); rintro e92 w2 ⟨rfl, hb2⟩; have HB2 := bt HB1 hb2; obtain ⟨r2hq1, hqt2⟩ := hE.out w2 HB2; have g2_0 := r2hq1.2 0 (by simp); have g2_1 := r2hq1.2 1 (by simp); have g2_2 := r2hq1.2 2 (by simp); have g2_3 := r2hq1.2 3 (by simp); have g2_7 := r2hq1.2 7 (by simp); have g2_8 := r2hq1.2 8 (by simp); have g2_9 := r2hq1.2 9 (by simp); simp only [cqs, cqz] at g2_0 g2_1 g2_2 g2_3 g2_7 g2_8 g2_9) | (go_at_call 18; (with_reducible refine (HC_n.out w2 hqt2).mono ?_); rintro e93 w3 ⟨rfl, hb3⟩; have HB3 := bt HB2 hb3; obtain ⟨r3hq1, hqt3⟩ := hE.out w3 HB3; have g3_1 := r3hq1.2 1 (by simp); have g3_2 := r3hq1.2 2 (by simp); have g3_3 := r3hq1.2 3 (by simp); have g3_7 := r3hq1.2 7 (by simp); have g3_8 := r3hq1.2 8 (by simp); have g3_9 := r3hq1.2 9 (by simp); simp only [cqs, cqz] at g3_1 g3_2 g3_3 g3_7 g3_8 g3_9) | (go_at_call 23; (with_reducible refine (HC_t.out w3 hqt3).mono ?_); rintro e94 w4 ⟨rfl, hb4⟩; have HB4 := bt HB3 hb4; obtain ⟨r4hq1, hqt4⟩ := hE.out w4 HB4; have g4_2 := r4hq1.2 2 (by simp); have g4_3 := r4hq1.2 3 (by simp); have g4_7 := r4hq1.2 7 (by simp); have g4_8 := r4hq1.2 8 (by simp); have g4_9 := r4hq1.2 9 (by simp); simp only [cqs, cqz] at g4_2 g4_3 g4_7 g4_8 g4_9) | (go_at_call 23; (with_reducible refine (HC_x.out w4 hqt4).mono ?_); rintro e95 w5 ⟨rfl, hb5⟩; have HB5 := bt HB4 hb5; obtain ⟨r5hq1, hqt5⟩ := hE.out w5 HB5; have g5_2 := r5hq1.2 2 (by simp); have g5_7 := r5hq1.2 7 (by simp); have g5_8 := r5hq1.2 8 (by simp); have g5_9 := r5hq1.2 9 (by simp); simp only [cqs, cqz] at g5_2 g5_7 g5_8 g5_9) | (go_at_call 98; (with_reducible refine (HC_i.out w5 hqt5).mono ?_); rintro e96 w6 ⟨rfl, hb6⟩; have HB6 := bt HB5 hb6; obtain ⟨r6hq1, hqt6⟩ := hE.out w6 HB6; have g6_7 := r6hq1.2 7 (by simp); have g6_8 := r6hq1.2 8 (by simp); have g6_9 := r6hq1.2 9 (by simp); simp only [cqs, cqz] at g6_7 g6_8 g6_9) | (go_at_call 19; (with_reducible refine (HC_f.out w6 hqt6).mono ?_); rintro e97 w7 ⟨rfl, hb7⟩; have HB7 := bt HB6 hb7; obtain ⟨r7hq1, hqt7⟩ := hE.out w7 HB7; have g7_8 := r7hq1.2 8 (by simp); have g7_9 := r7hq1.2 9 (by simp); simp only [cqs, cqz] at g7_8 g7_9) | (go_at_call 24; (with_reducible refine (HC_p.out w7 hqt7).mono ?_); rintro e98 w8 ⟨rfl, hb8⟩; have HB8 := bt HB7 hb8; obtain ⟨r8hq1, hqt8⟩ := hE.out w8 HB8; have g8_9 := r8hq1.2 9 (by simp); simp only [cqs, cqz] at g8_9) | (go_at_call 99; (with_reducible refine (HC_E.out w8 hqt8).mono ?_); rintro e99 w9 ⟨rfl, hb9⟩; have HB9 := bt HB8 hb9; obtain ⟨r9hq1, hqt9⟩ := hE.out w9 HB9))
                        go_ret
                        exact ⟨ret_bool hfin.out.symm, hqt9⟩
                    · have hfin : Hid (dec (ObjR ⟨x_name, x_title, x_inn, x_text, false, x_words, x_adjs, x_flags, x_props, x_exits⟩) = false) := dec_false (fun h => h_p h.2.2.2.2.2.2.2.2.2.1)
                      simp only [dec_true h_w] at hc_w
                      have HC_w := Lib.hid hc_w
                      simp only [dec_true h_a] at hc_a
                      have HC_a := Lib.hid hc_a
                      simp only [dec_true h_n] at hc_n
                      have HC_n := Lib.hid hc_n
                      simp only [dec_true h_t] at hc_t
                      have HC_t := Lib.hid hc_t
                      simp only [dec_true h_x] at hc_x
                      have HC_x := Lib.hid hc_x
                      simp only [dec_true h_i] at hc_i
                      have HC_i := Lib.hid hc_i
                      simp only [dec_true h_f] at hc_f
                      have HC_f := Lib.hid hc_f
                      simp only [dec_false h_p] at hc_p
                      have HC_p := Lib.hid hc_p
                      have e0 : decide ((0 : Int) < (x_exits.length : Int)) = false := decide_eq_false (by omega)
                      have e1 : decide (0 < x_exits.length) = false := decide_eq_false (by omega)
                      clear hc_w hc_a hc_n hc_t hc_x hc_i hc_f hc_p hc_E ka5 ka6 ka7 ka8 ka9 z_name z_title z_inn z_text hF hm h_z h_w h_a h_n h_t h_x h_i h_f h_p
                      go_enter Tryz.func27, Tryz.ntmps27
                      go_upto_region 1 with fail
                      rw [HW1.out]
                      obtain ⟨hq1, hqt0⟩ := hE.out W1 (Below.refl _ _)
                      have HB0 : Below W1.heap.size W1 W1 := Below.refl _ _
                      have g0 := hq1.2 0 (by simp)
                      have g1 := hq1.2 1 (by simp)
                      have g2 := hq1.2 2 (by simp)
                      have g3 := hq1.2 3 (by simp)
                      have g4 := hq1.2 4 (by simp)
                      have g5 := hq1.2 5 (by simp)
                      have g6 := hq1.2 6 (by simp)
                      have g7 := hq1.2 7 (by simp)
                      have g8 := hq1.2 8 (by simp)
                      have g9 := hq1.2 9 (by simp)
                      simp only [cqs, cqz] at g0 g1 g2 g3 g4 g5 g6 g7 g8 g9
                      go_wp2_with (first | (go_at_call 19; (with_reducible refine (HC_w.out W1 hqt0).mono ?_); rintro e91 w1 ⟨rfl, hb1⟩; have HB1 := bt HB0 hb1; obtain ⟨r1hq1, hqt1⟩ := hE.out w1 HB1; have g1_0 := r1hq1.2 0 (by simp); have g1_1 := r1hq1.2 1 (by simp); have g1_2 := r1hq1.2 2 (by simp); have g1_3 := r1hq1.2 3 (by simp); have g1_6 := r1hq1.2 6 (by simp); have g1_7 := r1hq1.2 7 (by simp); have g1_8 := r1hq1.2 8 (by simp); simp only [cqs, cqz] at g1_0 g1_1 g1_2 g1_3 g1_6 g1_7 g1_8) | (go_at_call 19; (with_reducible refine (HC_a.out w1 hqt1).mono ?_); rintro e92 w2 ⟨rfl, hb2⟩; have HB2 := bt HB1 hb2; obtain ⟨r2hq1, hqt2⟩ := hE.out w2 HB2; have g2_0 := r2hq1.2 0 (by simp); have g2_1 := r2hq1.2 1 (by simp); have g2_2 := r2hq1.2 2 (by simp); have g2_3 := r2hq1.2 3 (by simp); have g2_7 := r2hq1.2 7 (by simp); have g2_8 := r2hq1.2 8 (by simp); simp only [cqs, cqz] at g2_0 g2_1 g2_2 g2_3 g2_7 g2_8) | (go_at_call 18; (with_reducible refine (HC_n.out w2 hqt2).mono ?_); rintro e93 w3 ⟨rfl, hb3⟩; have HB3 := bt HB2 hb3; obtain ⟨r3hq1, hqt3⟩ := hE.out w3 HB3; have g3_1 := r3hq1.2 1 (by simp); have g3_2 := r3hq1.2 2 (by simp); have g3_3 := r3hq1.2 3 (by simp); have g3_7 := r3hq1.2 7 (by simp); have g3_8 := r3hq1.2 8 (by simp); simp only [cqs, cqz] at g3_1 g3_2 g3_3 g3_7 g3_8) | (go_at_call 23; (with_reducible refine (HC_t.out w3 hqt3).mono ?_); rintro e94 w4 ⟨rfl, hb4⟩; have HB4 := bt HB3 hb4; obtain ⟨r4hq1, hqt4⟩ := hE.out w4 HB4; have g4_2 := r4hq1.2 2 (by simp); have g4_3 := r4hq1.2 3 (by simp); have g4_7 := r4hq1.2 7 (by simp); have g4_8 := r4hq1.2 8 (by simp); simp only [cqs, cqz] at g4_2 g4_3 g4_7 g4_8) | (go_at_call 23; (with_reducible refine (HC_x.out w4 hqt4).mono ?_); rintro e95 w5 ⟨rfl, hb5⟩; have HB5 := bt HB4 hb5; obtain ⟨r5hq1, hqt5⟩ := hE.out w5 HB5; have g5_2 := r5hq1.2 2 (by simp); have g5_7 := r5hq1.2 7 (by simp); have g5_8 := r5hq1.2 8 (by simp); simp only [cqs, cqz] at g5_2 g5_7 g5_8) | (go_at_call 98; (with_reducible refine (HC_i.out w5 hqt5).mono ?_); rintro e96 w6 ⟨rfl, hb6⟩; have HB6 := bt HB5 hb6; obtain ⟨r6hq1, hqt6⟩ := hE.out w6 HB6; have g6_7 := r6hq1.2 7 (by simp); have g6_8 := r6hq1.2 8 (by simp); simp only [cqs, cqz] at g6_7 g6_8) | (go_at_call 19; (with_reducible refine (HC_f.out w6 hqt6).mono ?_); rintro e97 w7 ⟨rfl, hb7⟩; have HB7 := bt HB6 hb7; obtain ⟨r7hq1, hqt7⟩ := hE.out w7 HB7; have g7_8 := r7hq1.2 8 (by simp); simp only [cqs, cqz] at g7_8) | (go_at_call 24; (with_reducible refine (HC_p.out w7 hqt7).mono ?_); rintro e98 w8 ⟨rfl, hb8⟩; have HB8 := bt HB7 hb8; obtain ⟨r8hq1, hqt8⟩ := hE.out w8 HB8))
                      go_ret
                      exact ⟨ret_bool hfin.out.symm, hqt8⟩
                  · have hfin : Hid (dec (ObjR ⟨x_name, x_title, x_inn, x_text, false, x_words, x_adjs, x_flags, x_props, x_exits⟩) = false) := dec_false (fun h => h_f h.2.2.2.2.2.2.2.2.1)
                    simp only [dec_true h_w] at hc_w
                    have HC_w := Lib.hid hc_w
                    simp only [dec_true h_a] at hc_a
                    have HC_a := Lib.hid hc_a
                    simp only [dec_true h_n] at hc_n
                    have HC_n := Lib.hid hc_n
                    simp only [dec_true h_t] at hc_t
                    have HC_t := Lib.hid hc_t
                    simp only [dec_true h_x] at hc_x
                    have HC_x := Lib.hid hc_x
                    simp only [dec_true h_i] at hc_i
                    have HC_i := Lib.hid hc_i
                    simp only [dec_false h_f] at hc_f
                    have HC_f := Lib.hid hc_f
                    have e0 : decide ((0 : Int) < (x_exits.length : Int)) = false := decide_eq_false (by omega)
                    have e1 : decide (0 < x_exits.length) = false := decide_eq_false (by omega)
                    clear hc_w hc_a hc_n hc_t hc_x hc_i hc_f hc_p hc_E ka5 ka6 ka7 ka8 ka9 z_name z_title z_inn z_text hF hm h_z h_w h_a h_n h_t h_x h_i h_f
                    go_enter Tryz.func27, Tryz.ntmps27
                    go_upto_region 1 with fail
                    rw [HW1.out]
                    obtain ⟨hq1, hqt0⟩ := hE.out W1 (Below.refl _ _)
                    have HB0 : Below W1.heap.size W1 W1 := Below.refl _ _
                    have g0 := hq1.2 0 (by simp)
                    have g1 := hq1.2 1 (by simp)
                    have g2 := hq1.2 2 (by simp)
                    have g3 := hq1.2 3 (by simp)
                    have g4 := hq1.2 4 (by simp)
                    have g5 := hq1.2 5 (by simp)
                    have g6 := hq1.2 6 (by simp)
                    have g7 := hq1.2 7 (by simp)
                    have g9 := hq1.2 9 (by simp)
                    simp only [cqs, cqz] at g0 g1 g2 g3 g4 g5 g6 g7 g9
                    go_wp2_with (first | (go_at_call 19; (with_reducible refine (HC_w.out W1 hqt0).mono ?_); rintro e91 w1 ⟨rfl, hb1⟩; have HB1 := bt HB0 hb1; obtain ⟨r1hq1, hqt1⟩ := hE.out w1 HB1; have g1_0 := r1hq1.2 0 (by simp); have g1_1 := r1hq1.2 1 (by simp); have g1_2 := r1hq1.2 2 (by simp); have g1_3 := r1hq1.2 3 (by simp); have g1_6 := r1hq1.2 6 (by simp); have g1_7 := r1hq1.2 7 (by simp); simp only [cqs, cqz] at g1_0 g1_1 g1_2 g1_3 g1_6 g1_7) | (go_at_call 19; (with_reducible refine (HC_a.out w1 hqt1).mono ?_); rintro e92 w2 ⟨rfl, hb2⟩; have HB2 := bt HB1 hb2; obtain ⟨r2hq1, hqt2⟩ := hE.out w2 HB2; have g2_0 := r2hq1.2 0 (by simp); have g2_1 := r2hq1.2 1 (by simp); have g2_2 := r2hq1.2 2 (by simp); have g2_3 := r2hq1.2 3 (by simp); have g2_7 := r2hq1.2 7 (by simp); simp only [cqs, cqz] at g2_0 g2_1 g2_2 g2_3 g2_7) | (go_at_call 18; (with_reducible refine (HC_n.out w2 hqt2).mono ?_); rintro e93 w3 ⟨rfl, hb3⟩; have HB3 := bt HB2 hb3; obtain ⟨r3hq1, hqt3⟩ := hE.out w3 HB3; have g3_1 := r3hq1.2 1 (by simp); have g3_2 := r3hq1.2 2 (by simp); have g3_3 := r3hq1.2 3 (by simp); have g3_7 := r3hq1.2 7 (by simp); simp only [cqs, cqz] at g3_1 g3_2 g3_3 g3_7) | (go_at_call 23; (with_reducible refine (HC_t.out w3 hqt3).mono ?_); rintro e94 w4 ⟨rfl, hb4⟩; have HB4 := bt HB3 hb4; obtain ⟨r4hq1, hqt4⟩ := hE.out w4 HB4; have g4_2 := r4hq1.2 2 (by simp); have g4_3 := r4hq1.2 3 (by simp); have g4_7 := r4hq1.2 7 (by simp); simp only [cqs, cqz] at g4_2 g4_3 g4_7) | (go_at_call 23; (with_reducible refine (HC_x.out w4 hqt4).mono ?_); rintro e95 w5 ⟨rfl, hb5⟩; have HB5 := bt HB4 hb5; obtain ⟨r5hq1, hqt5⟩ := hE.out w5 HB5; have g5_2 := r5hq1.2 2 (by simp); have g5_7 := r5hq1.2 7 (by simp); simp only [cqs, cqz] at g5_2 g5_7) | (go_at_call 98; (with_reducible refine (HC_i.out w5 hqt5).mono ?_); rintro e96 w6 ⟨rfl, hb6⟩; have HB6 := bt HB5 hb6; obtain ⟨r6hq1, hqt6⟩ := hE.out w6 HB6; have g6_7 := r6hq1.2 7 (by simp); simp only [cqs, cqz] at g6_7) | (go_at_call 19; (with_reducible refine (HC_f.out w6 hqt6).mono ?_); rintro e97 w7 ⟨rfl, hb7⟩; have HB7 := bt HB6 hb7; obtain ⟨r7hq1, hqt7⟩ := hE.out w7 HB7))
                    go_ret
                    exact ⟨ret_bool hfin.out.symm, hqt7⟩
                · have hfin : Hid (dec (ObjR ⟨x_name, x_title, x_inn, x_text, false, x_words, x_adjs, x_flags, x_props, x_exits⟩) = false) := dec_false (fun h => h_i h.2.2.2.2.2.2.2.1)
                  simp only [dec_true h_w] at hc_w
                  have HC_w := Lib.hid hc_w
                  simp only [dec_true h_a] at hc_a
                  have HC_a := Lib.hid hc_a
                  simp only [dec_true h_n] at hc_n
                  have HC_n := Lib.hid hc_n
                  simp only [dec_true h_t] at hc_t
                  have HC_t := Lib.hid hc_t
                  simp only [dec_true h_x] at hc_x
                  have HC_x := Lib.hid hc_x
                  simp only [dec_false h_i] at hc_i
                  have HC_i := Lib.hid hc_i
                  have e0 : decide ((0 : Int) < (x_exits.length : Int)) = false := decide_eq_false (by omega)
                  have e1 : decide (0 < x_exits.length) = false := decide_eq_false (by omega)
                  clear hc_w hc_a hc_n hc_t hc_x hc_i hc_f hc_p hc_E ka5 ka6 ka7 ka8 ka9 z_name z_title z_inn z_text hF hm h_z h_w h_a h_n h_t h_x h_i
                  go_enter Tryz.func27, Tryz.ntmps27
                  go_upto_region 1 with fail
                  rw [HW1.out]
                  obtain ⟨hq1, hqt0⟩ := hE.out W1 (Below.refl _ _)
                  have HB0 : Below W1.heap.size W1 W1 := Below.refl _ _
                  have g0 := hq1.2 0 (by simp)
                  have g1 := hq1.2 1 (by simp)
                  have g2 := hq1.2 2 (by simp)
                  have g3 := hq1.2 3 (by simp)
                  have g4 := hq1.2 4 (by simp)
                  have g5 := hq1.2 5 (by simp)
                  have g6 := hq1.2 6 (by simp)
                  have g9 := hq1.2 9 (by simp)
                  simp only [cqs, cqz] at g0 g1 g2 g3 g4 g5 g6 g9
                  go_wp2_with (first | (go_at_call 19; (with_reducible refine (HC_w.out W1 hqt0).mono ?_); rintro e91 w1 ⟨rfl, hb1⟩; have HB1 := bt HB0 hb1; obtain ⟨r1hq1, hqt1⟩ := hE.out w1 HB1; have g1_0 := r1hq1.2 0 (by simp); have g1_1 := r1hq1.2 1 (by simp); have g1_2 := r1hq1.2 2 (by simp); have g1_3 := r1hq1.2 3 (by simp); have g1_6 := r1hq1.2 6 (by simp); simp only [cqs, cqz] at g1_0 g1_1 g1_2 g1_3 g1_6) | (go_at_call 19; (with_reducible refine (HC_a.out w1 hqt1).mono ?_); rintro e92 w2 ⟨rfl, hb2⟩; have HB2 := bt HB1 hb2; obtain ⟨r2hq1, hqt2⟩ := hE.out w2 HB2; have g2_0 := r2hq1.2 0 (by simp); have g2_1 := r2hq1.2 1 (by simp); have g2_2 := r2hq1.2 2 (by simp); have g2_3 := r2hq1.2 3 (by simp); simp only [cqs, cqz] at g2_0 g2_1 g2_2 g2_3) | (go_at_call 18; (with_reducible refine (HC_n.out w2 hqt2).mono ?_); rintro e93 w3 ⟨rfl, hb3⟩; have HB3 := bt HB2 hb3; obtain ⟨r3hq1, hqt3⟩ := hE.out w3 HB3; have g3_1 := r3hq1.2 1 (by simp); have g3_2 := r3hq1.2 2 (by simp); have g3_3 := r3hq1.2 3 (by simp); simp only [cqs, cqz] at g3_1 g3_2 g3_3) | (go_at_call 23; (with_reducible refine (HC_t.out w3 hqt3).mono ?_); rintro e94 w4 ⟨rfl, hb4⟩; have HB4 := bt HB3 hb4; obtain ⟨r4hq1, hqt4⟩ := hE.out w4 HB4; have g4_2 := r4hq1.2 2 (by simp); have g4_3 := r4hq1.2 3 (by simp); simp only [cqs, cqz] at g4_2 g4_3) | (go_at_call 23; (with_reducible refine (HC_x.out w4 hqt4).mono ?_); rintro e95 w5 ⟨rfl, hb5⟩; have HB5 := bt HB4 hb5; obtain ⟨r5hq1, hqt5⟩ := hE.out w5 HB5; have g5_2 := r5hq1.2 2 (by simp); simp only [cqs, cqz] at g5_2) | (go_at_call 98; (with_reducible refine (HC_i.out w5 hqt5).mono ?_); rintro e96 w6 ⟨rfl, hb6⟩; have HB6 := bt HB5 hb6; obtain ⟨r6hq1, hqt6⟩ := hE.out w6 HB6))
                  go_ret
                  exact ⟨ret_bool hfin.out.symm, hqt6⟩
              · have hfin : Hid (dec (ObjR ⟨x_name, x_title, x_inn, x_text, false, x_words, x_adjs, x_flags, x_props, x_exits⟩) = false) := dec_false (fun h => h_x h.2.2.2.2.2.2.1)
                simp only [dec_true h_w] at hc_w
                have HC_w := Lib.hid hc_w
                simp only [dec_true h_a] at hc_a
                have HC_a := Lib.hid hc_a
                simp only [dec_true h_n] at hc_n
                have HC_n := Lib.hid hc_n
                simp only [dec_true h_t] at hc_t
                have HC_t := Lib.hid hc_t
                simp only [dec_false h_x] at hc_x
                have HC_x := Lib.hid hc_x
                have e0 : decide ((0 : Int) < (x_exits.length : Int)) = false := decide_eq_false (by omega)
                have e1 : decide (0 < x_exits.length) = false := decide_eq_false (by omega)
                clear hc_w hc_a hc_n hc_t hc_x hc_i hc_f hc_p hc_E ka5 ka6 ka7 ka8 ka9 z_name z_title z_inn z_text hF hm h_z h_w h_a h_n h_t h_x
                go_enter Tryz.func27, Tryz.ntmps27
                go_upto_region 1 with fail
                rw [HW1.out]
                obtain ⟨hq1, hqt0⟩ := hE.out W1 (Below.refl _ _)
                have HB0 : Below W1.heap.size W1 W1 := Below.refl _ _
                have g0 := hq1.2 0 (by simp)
                have g1 := hq1.2 1 (by simp)
                have g3 := hq1.2 3 (by simp)
                have g4 := hq1.2 4 (by simp)
                have g5 := hq1.2 5 (by simp)
                have g6 := hq1.2 6 (by simp)
                have g9 := hq1.2 9 (by simp)
                simp only [cqs, cqz] at g0 g1 g3 g4 g5 g6 g9
                go_wp2_with (first | (go_at_call 19; (with_reducible refine (HC_w.out W1 hqt0).mono ?_); rintro e91 w1 ⟨rfl, hb1⟩; have HB1 := bt HB0 hb1; obtain ⟨r1hq1, hqt1⟩ := hE.out w1 HB1; have g1_0 := r1hq1.2 0 (by simp); have g1_1 := r1hq1.2 1 (by simp); have g1_3 := r1hq1.2 3 (by simp); have g1_6 := r1hq1.2 6 (by simp); simp only [cqs, cqz] at g1_0 g1_1 g1_3 g1_6) | (go_at_call 19; (with_reducible refine (HC_a.out w1 hqt1).mono ?_); rintro e92 w2 ⟨rfl, hb2⟩; have HB2 := bt HB1 hb2; obtain ⟨r2hq1, hqt2⟩ := hE.out w2 HB2; have g2_0 := r2hq1.2 0 (by simp); have g2_1 := r2hq1.2 1 (by simp); have g2_3 := r2hq1.2 3 (by simp); simp only [cqs, cqz] at g2_0 g2_1 g2_3) | (go_at_call 18; (with_reducible refine (HC_n.out w2 hqt2).mono ?_); rintro e93 w3 ⟨rfl, hb3⟩; have HB3 := bt HB2 hb3; obtain ⟨r3hq1, hqt3⟩ := hE.out w3 HB3; have g3_1 := r3hq1.2 1 (by simp); have g3_3 := r3hq1.2 3 (by simp); simp only [cqs, cqz] at g3_1 g3_3) | (go_at_call 23; (with_reducible refine (HC_t.out w3 hqt3).mono ?_); rintro e94 w4 ⟨rfl, hb4⟩; have HB4 := bt HB3 hb4; obtain ⟨r4hq1, hqt4⟩ := hE.out w4 HB4; have g4_3 := r4hq1.2 3 (by simp); simp only [cqs, cqz] at g4_3) | (go_at_call 23; (with_reducible refine (HC_x.out w4 hqt4).mono ?_); rintro e95 w5 ⟨rfl, hb5⟩; have HB5 := bt HB4 hb5; obtain ⟨r5hq1, hqt5⟩ := hE.out w5 HB5))
                go_ret
                exact ⟨ret_bool hfin.out.symm, hqt5⟩
            · have hfin : Hid (dec (ObjR ⟨x_name, x_title, x_inn, x_text, false, x_words, x_adjs, x_flags, x_props, x_exits⟩) = false) := dec_false (fun h => h_t h.2.2.2.2.2.1)
              simp only [dec_true h_w] at hc_w
              have HC_w := Lib.hid hc_w
              simp only [dec_true h_a] at hc_a
              have HC_a := Lib.hid hc_a
              simp only [dec_true h_n] at hc_n
              have HC_n := Lib.hid hc_n
              simp only [dec_false h_t] at hc_t
              have HC_t := Lib.hid hc_t
              have e0 : decide ((0 : Int) < (x_exits.length : Int)) = false := decide_eq_false (by omega)
              have e1 : decide (0 < x_exits.length) = false := decide_eq_false (by omega)
              clear hc_w hc_a hc_n hc_t hc_x hc_i hc_f hc_p hc_E ka5 ka6 ka7 ka8 ka9 z_name z_title z_inn z_text hF hm h_z h_w h_a h_n h_t
              go_enter Tryz.func27, Tryz.ntmps27
              go_upto_region 1 with fail
              rw [HW1.out]
              obtain ⟨hq1, hqt0⟩ := hE.out W1 (Below.refl _ _)
              have HB0 : Below W1.heap.size W1 W1 := Below.refl _ _
              have g0 := hq1.2 0 (by simp)
              have g1 := hq1.2 1 (by simp)
              have g4 := hq1.2 4 (by simp)
              have g5 := hq1.2 5 (by simp)
              have g6 := hq1.2 6 (by simp)
              have g9 := hq1.2 9 (by simp)
              simp only [cqs, cqz] at g0 g1 g4 g5 g6 g9
              go_wp2_with (first | (go_at_call 19; (with_reducible refine (HC_w.out W1 hqt0).mono ?_); rintro e91 w1 ⟨rfl, hb1⟩; have HB1 := bt HB0 hb1; obtain ⟨r1hq1, hqt1⟩ := hE.out w1 HB1; have g1_0 := r1hq1.2 0 (by simp); have g1_1 := r1hq1.2 1 (by simp); have g1_6 := r1hq1.2 6 (by simp); simp only [cqs, cqz] at g1_0 g1_1 g1_6) | (go_at_call 19; (with_reducible refine (HC_a.out w1 hqt1).mono ?_); rintro e92 w2 ⟨rfl, hb2⟩; have HB2 := bt HB1 hb2; obtain ⟨r2hq1, hqt2⟩ := hE.out w2 HB2; have g2_0 := r2hq1.2 0 (by simp); have g2_1 := r2hq1.2 1 (by simp); simp only [cqs, cqz] at g2_0 g2_1) | (go_at_call 18; (with_reducible refine (HC_n.out w2 hqt2).mono ?_); rintro e93 w3 ⟨rfl, hb3⟩; have HB3 := bt HB2 hb3; obtain ⟨r3hq1, hqt3⟩ := hE.out w3 HB3; have g3_1 := r3hq1.2 1 (by simp); simp only [cqs, cqz] at g3_1) | (go_at_call 23; (with_reducible refine (HC_t.out w3 hqt3).mono ?_); rintro e94 w4 ⟨rfl, hb4⟩; have HB4 := bt HB3 hb4; obtain ⟨r4hq1, hqt4⟩ := hE.out w4 HB4))
              go_ret
              exact ⟨ret_bool hfin.out.symm, hqt4⟩
          · have hfin : Hid (dec (ObjR ⟨x_name, x_title, x_inn, x_text, false, x_words, x_adjs, x_flags, x_props, x_exits⟩) = false) := dec_false (fun h => h_n h.2.2.2.2.1)
            simp only [dec_true h_w] at hc_w
            have HC_w := Lib.hid hc_w
            simp only [dec_true h_a] at hc_a
            have HC_a := Lib.hid hc_a
            simp only [dec_false h_n] at hc_n
            have HC_n := Lib.hid hc_n
            have e0 : decide ((0 : Int) < (x_exits.length : Int)) = false := decide_eq_false (by omega)
            have e1 : decide (0 < x_exits.length) = false := decide_eq_false (by omega)
            clear hc_w hc_a hc_n hc_t hc_x hc_i hc_f hc_p hc_E ka5 ka6 ka7 ka8 ka9 z_name z_title z_inn z_text hF hm h_z h_w h_a h_n
            go_enter Tryz.func27, Tryz.ntmps27
            go_upto_region 1 with fail
            rw [HW1.out]
            obtain ⟨hq1, hqt0⟩ := hE.out W1 (Below.refl _ _)
            have HB0 : Below W1.heap.size W1 W1 := Below.refl _ _
            have g0 := hq1.2 0 (by simp)
            have g4 := hq1.2 4 (by simp)
            have g5 := hq1.2 5 (by simp)
            have g6 := hq1.2 6 (by simp)
            have g9 := hq1.2 9 (by simp)
            simp only [cqs, cqz] at g0 g4 g5 g6 g9
            go_wp2_with (first | (go_at_call 19; (with_reducible refine (HC_w.out W1 hqt0).mono ?_); rintro e91 w1 ⟨rfl, hb1⟩; have HB1 := bt HB0 hb1; obtain ⟨r1hq1, hqt1⟩ := hE.out w1 HB1; have g1_0 := r1hq1.2 0 (by simp); have g1_6 := r1hq1.2 6 (by simp); simp only [cqs, cqz] at g1_0 g1_6) | (go_at_call 19; (with_reducible refine (HC_a.out w1 hqt1).mono ?_); rintro e92 w2 ⟨rfl, hb2⟩; have HB2 := bt HB1 hb2; obtain ⟨r2hq1, hqt2⟩ := hE.out w2 HB2; have g2_0 := r2hq1.2 0 (by simp); simp only [cqz] at g2_0) | (go_at_call 18; (with_reducible refine (HC_n.out w2 hqt2).mono ?_); rintro e93 w3 ⟨rfl, hb3⟩; have HB3 := bt HB2 hb3; obtain ⟨r3hq1, hqt3⟩ := hE.out w3 HB3))
            go_ret
            exact ⟨ret_bool hfin.out.symm, hqt3⟩
        · by_cases h_n : IsNm x_name
          · by_cases h_t : IsText x_title
            · by_cases h_x : IsText x_text
              · by_cases h_i : MaybeR x_inn
                · have hfin : Hid (dec (ObjR ⟨x_name, x_title, x_inn, x_text, false, x_words, x_adjs, x_flags, x_props, x_exits⟩) = false) := dec_false (fun h => h_a h.2.2.2.1)
                  simp only [dec_true h_w] at hc_w
                  have HC_w := Lib.hid hc_w
                  simp only [dec_false h_a] at hc_a
                  have HC_a := Lib.hid hc_a
                  simp only [dec_true h_n] at hc_n
                  have HC_n := Lib.hid hc_n
                  simp only [dec_true h_t] at hc_t
                  have HC_t := Lib.hid hc_t
                  simp only [dec_true h_x] at hc_x
                  have HC_x := Lib.hid hc_x
                  simp only [dec_true h_i] at hc_i
                  have HC_i := Lib.hid hc_i
                  have e0 : decide ((0 : Int) < (x_exits.length : Int)) = false := decide_eq_false (by omega)
                  have e1 : decide (0 < x_exits.length) = false := decide_eq_false (by omega)
                  clear hc_w hc_a hc_n hc_t hc_x hc_i hc_f hc_p hc_E ka5 ka6 ka7 ka8 ka9 z_name z_title z_inn z_text hF hm h_z h_w h_a h_n h_t h_x h_i
                  go_enter Tryz.func27, Tryz.ntmps27
                  go_upto_region 1 with fail
                  rw [HW1.out]
                  obtain ⟨hq1, hqt0⟩ := hE.out W1 (Below.refl _ _)
                  have HB0 : Below W1.heap.size W1 W1 := Below.refl _ _
                  have g0 := hq1.2 0 (by simp)
                  have g1 := hq1.2 1 (by simp)
                  have g2 := hq1.2 2 (by simp)
                  have g3 := hq1.2 3 (by simp)
                  have g4 := hq1.2 4 (by simp)
                  have g5 := hq1.2 5 (by simp)
                  have g6 := hq1.2 6 (by simp)
                  have g9 := hq1.2 9 (by simp)
                  simp only [cqs, cqz] at g0 g1 g2 g3 g4 g5 g6 g9
                  go_wp2_with (first | (go_at_call 19; (with_reducible refine (HC_w.out W1 hqt0).mono ?_); rintro e91 w1 ⟨rfl, hb1⟩; have HB1 := bt HB0 hb1; obtain ⟨r1hq1, hqt1⟩ := hE.out w1 HB1; have g1_0 := r1hq1.2 0 (by simp); have g1_1 := r1hq1.2 1 (by simp); have g1_2 := r1hq1.2 2 (by simp); have g1_3 := r1hq1.2 3 (by simp); have g1_6 := r1hq1.2 6 (by simp); simp only [cqs, cqz] at g1_0 g1_1 g1_2 g1_3 g1_6) | (go_at_call 19; (with_reducible refine (HC_a.out w1 hqt1).mono ?_); rintro e92 w2 ⟨rfl, hb2⟩; have HB2 := bt HB1 hb2; obtain ⟨r2hq1, hqt2⟩ := hE.out w2 HB2; have g2_0 := r2hq1.2 0 (by simp); have g2_1 := r2hq1.2 1 (by simp); have g2_2 := r2hq1.2 2 (by simp); have g2_3 := r2hq1.2 3 (by simp); simp only [cqs, cqz] at g2_0 g2_1 g2_2 g2_3) | (go_at_call 18; (with_reducible refine (HC_n.out w2 hqt2).mono ?_); rintro e93 w3 ⟨rfl, hb3⟩; have HB3 := bt HB2 hb3; obtain ⟨r3hq1, hqt3⟩ := hE.out w3 HB3; have g3_1 := r3hq1.2 1 (by simp); have g3_2 := r3hq1.2 2 (by simp); have g3_3 := r3hq1.2 3 (by simp); simp only [cqs, cqz] at g3_1 g3_2 g3_3) | (go_at_call 23; (with_reducible refine (HC_t.out w3 hqt3).mono ?_); rintro e94 w4 ⟨rfl, hb4⟩; have HB4 := bt HB3 hb4; obtain ⟨r4hq1, hqt4⟩ := hE.out w4 HB4; have g4_2 := r4hq1.2 2 (by simp); have g4_3 := r4hq1.2 3 (by simp); simp only [cqs, cqz] at g4_2 g4_3) | (go_at_call 23; (with_reducible refine (HC_x.out w4 hqt4).mono ?_); rintro e95 w5 ⟨rfl, hb5⟩; have HB5 := bt HB4 hb5; obtain ⟨r5hq1, hqt5⟩ := hE.out w5 HB5; have g5_2 := r5hq1.2 2 (by simp); simp only [cqs, cqz] at g5_2) | (go_at_call 98; (with_reducible refine (HC_i.out w5 hqt5).mono ?_); rintro e96 w6 ⟨rfl, hb6⟩; have HB6 := bt HB5 hb6; obtain ⟨r6hq1, hqt6⟩ := hE.out w6 HB6))
                  go_ret
                  exact ⟨ret_bool hfin.out.symm, hqt6⟩
                · have hfin : Hid (dec (ObjR ⟨x_name, x_title, x_inn, x_text, false, x_words, x_adjs, x_flags, x_props, x_exits⟩) = false) := dec_false (fun h => h_a h.2.2.2.1)
                  simp only [dec_true h_w] at hc_w
                  have HC_w := Lib.hid hc_w
                  simp only [dec_false h_a] at hc_a
                  have HC_a := Lib.hid hc_a
                  simp only [dec_true h_n] at hc_n
                  have HC_n := Lib.hid hc_n
                  simp only [dec_true h_t] at hc_t
                  have HC_t := Lib.hid hc_t
                  simp only [dec_true h_x] at hc_x
                  have HC_x := Lib.hid hc_x
                  simp only [dec_false h_i] at hc_i
                  have HC_i := Lib.hid hc_i
                  have e0 : decide ((0 : Int) < (x_exits.length : Int)) = false := decide_eq_false (by omega)
                  have e1 : decide (0 < x_exits.length) = false := decide_eq_false (by omega)
                  clear hc_w hc_a hc_n hc_t hc_x hc_i hc_f hc_p hc_E ka5 ka6 ka7 ka8 ka9 z_name z_title z_inn z_text hF hm h_z h_w h_a h_n h_t h_x h_i
                  go_enter Tryz.func27, Tryz.ntmps27
                  go_upto_region 1 with fail
                  rw [HW1.out]
                  obtain ⟨hq1, hqt0⟩ := hE.out W1 (Below.refl _ _)
                  have HB0 : Below W1.heap.size W1 W1 := Below.refl _ _
                  have g0 := hq1.2 0 (by simp)
                  have g1 := hq1.2 1 (by simp)
                  have g2 := hq1.2 2 (by simp)
                  have g3 := hq1.2 3 (by simp)
                  have g4 := hq1.2 4 (by simp)
                  have g5 := hq1.2 5 (by simp)
                  have g6 := hq1.2 6 (by simp)
                  have g9 := hq1.2 9 (by simp)
                  simp only [cqs, cqz] at g0 g1 g2 g3 g4 g5 g6 g9
                  go_wp2_with (first | (go_at_call 19; (with_reducible refine (HC_w.out W1 hqt0).mono ?_); rintro e91 w1 ⟨rfl, hb1⟩; have HB1 := bt HB0 hb1; obtain ⟨r1hq1, hqt1⟩ := hE.out w1 HB1; have g1_0 := r1hq1.2 0 (by simp); have g1_1 := r1hq1.2 1 (by simp); have g1_2 := r1hq1.2 2 (by simp); have g1_3 := r1hq1.2 3 (by simp); have g1_6 := r1hq1.2 6 (by simp); simp only [cqs, cqz] at g1_0 g1_1 g1_2 g1_3 g1_6) | (go_at_call 19; (with_reducible refine (HC_a.out w1 hqt1).mono ?_); rintro e92 w2 ⟨rfl, hb2⟩; have HB2 := bt HB1 hb2; obtain ⟨r2hq1, hqt2⟩ := hE.out w2 HB2; have g2_0 := r2hq1.2 0 (by simp); have g2_1 := r2hq1.2 1 (by simp); have g2_2 := r2hq1.2 2 (by simp); have g2_3 := r2hq1.2 3 (by simp); simp only [cqs, cqz] at g2_0 g2_1 g2_2 g2_3) | (go_at_call 18; (with_reducible refine (HC_n.out w2 hqt2).mono ?_); rintro e93 w3 ⟨rfl, hb3⟩; have HB3 := bt HB2 hb3; obtain ⟨r3hq1, hqt3⟩ := hE.out w3 HB3; have g3_1 := r3hq1.2 1 (by simp); have g3_2 := r3hq1.2 2 (by simp); have g3_3 := r3hq1.2 3 (by simp); simp only [cqs, cqz] at g3_1 g3_2 g3_3) | (go_at_call 23; (with_reducible refine (HC_t.out w3 hqt3).mono ?_); rintro e94 w4 ⟨rfl, hb4⟩; have HB4 := bt HB3 hb4; obtain ⟨r4hq1, hqt4⟩ := hE.out w4 HB4; have g4_2 := r4hq1.2 2 (by simp); have g4_3 := r4hq1.2 3 (by simp); simp only [cqs, cqz] at g4_2 g4_3) | (go_at_call 23; (with_reducible refine (HC_x.out w4 hqt4).mono ?_); rintro e95 w5 ⟨rfl, hb5⟩; have HB5 := bt HB4 hb5; obtain ⟨r5hq1, hqt5⟩ := hE.out w5 HB5; have g5_2 := r5hq1.2 2 (by simp); simp only [cqs, cqz] at g5_2) | (go_at_call 98; (with_reducible refine (HC_i.out w5 hqt5).mono ?_); rintro e96 w6 ⟨rfl, hb6⟩; have HB6 := bt HB5 hb6; obtain ⟨r6hq1, hqt6⟩ := hE.out w6 HB6))
                  go_ret
                  exact ⟨ret_bool hfin.out.symm, hqt6⟩
              · have hfin : Hid (dec (ObjR ⟨x_name, x_title, x_inn, x_text, false, x_words, x_adjs, x_flags, x_props, x_exits⟩) = false) := dec_false (fun h => h_a h.2.2.2.1)
                simp only [dec_true h_w] at hc_w
                have HC_w := Lib.hid hc_w
                simp only [dec_false h_a] at hc_a
                have HC_a := Lib.hid hc_a
                simp only [dec_true h_n] at hc_n
                have HC_n := Lib.hid hc_n
                simp only [dec_true h_t] at hc_t
                have HC_t := Lib.hid hc_t
                simp only [dec_false h_x] at hc_x
                have HC_x := Lib.hid hc_x
                have e0 : decide ((0 : Int) < (x_exits.length : Int)) = false := decide_eq_false (by omega)
                have e1 : decide (0 < x_exits.length) = false := decide_eq_false (by omega)
                clear hc_w hc_a hc_n hc_t hc_x hc_i hc_f hc_p hc_E ka5 ka6 ka7 ka8 ka9 z_name z_title z_inn z_text hF hm h_z h_w h_a h_n h_t h_x
                go_enter Tryz.func27, Tryz.ntmps27
                go_upto_region 1 with fail
                rw [HW1.out]
                obtain ⟨hq1, hqt0⟩ := hE.out W1 (Below.refl _ _)
                have HB0 : Below W1.heap.size W1 W1 := Below.refl _ _
                have g0 := hq1.2 0 (by simp)
                have g1 := hq1.2 1 (by simp)
                have g3 := hq1.2 3 (by simp)
                have g4 := hq1.2 4 (by simp)
                have g5 := hq1.2 5 (by simp)
                have g6 := hq1.2 6 (by simp)
                have g9 := hq1.2 9 (by simp)
                simp only [cqs, cqz] at g0 g1 g3 g4 g5 g6 g9
                go_wp2_with (first | (go_at_call 19; (with_reducible refine (HC_w.out W1 hqt0).mono ?_); rintro e91 w1 ⟨rfl, hb1⟩; have HB1 := bt HB0 hb1; obtain ⟨r1hq1, hqt1⟩ := hE.out w1 HB1; have g1_0 := r1hq1.2 0 (by simp); have g1_1 := r1hq1.2 1 (by simp); have g1_3 := r1hq1.2 3 (by simp); have g1_6 := r1hq1.2 6 (by simp); simp only [cqs, cqz] at g1_0 g1_1 g1_3 g1_6) | (go_at_call 19; (with_reducible refine (HC_a.out w1 hqt1).mono ?_); rintro e92 w2 ⟨rfl, hb2⟩; have HB2 := bt HB1 hb2; obtain ⟨r2hq1, hqt2⟩ := hE.out w2 HB2; have g2_0 := r2hq1.2 0 (by simp); have g2_1 := r2hq1.2 1 (by simp); have g2_3 := r2hq1.2 3 (by simp); simp only [cqs, cqz] at g2_0 g2_1 g2_3) | (go_at_call 18; (with_reducible refine (HC_n.out w2 hqt2).mono ?_); rintro e93 w3 ⟨rfl, hb3⟩; have HB3 := bt HB2 hb3; obtain ⟨r3hq1, hqt3⟩ := hE.out w3 HB3; have g3_1 := r3hq1.2 1 (by simp); have g3_3 := r3hq1.2 3 (by simp); simp only [cqs, cqz] at g3_1 g3_3) | (go_at_call 23; (with_reducible refine (HC_t.out w3 hqt3).mono ?_); rintro e94 w4 ⟨rfl, hb4⟩; have HB4 := bt HB3 hb4; obtain ⟨r4hq1, hqt4⟩ := hE.out w4 HB4; have g4_3 := r4hq1.2 3 (by simp); simp only [cqs, cqz] at g4_3) | (go_at_call 23; (with_reducible refine (HC_x.out w4 hqt4).mono ?_); rintro e95 w5 ⟨rfl, hb5⟩; have HB5 := bt HB4 hb5; obtain ⟨r5hq1, hqt5⟩ := hE.out w5 HB5))
                go_ret
                exact ⟨ret_bool hfin.out.symm, hqt5⟩
            · have hfin : Hid (dec (ObjR ⟨x_name, x_title, x_inn, x_text, false, x_words, x_adjs, x_flags, x_props, x_exits⟩) = false) := dec_false (fun h => h_a h.2.2.2.1)
              simp only [dec_true h_w] at hc_w
              have HC_w := Lib.hid hc_w
              simp only [dec_false h_a] at hc_a
              have HC_a := Lib.hid hc_a
              simp only [dec_true h_n] at hc_n
              have HC_n := Lib.hid hc_n
              simp only [dec_false h_t] at hc_t
              have HC_t := Lib.hid hc_t
              have e0 : decide ((0 : Int) < (x_exits.length : Int)) = false := decide_eq_false (by omega)
              have e1 : decide (0 < x_exits.length) = false := decide_eq_false (by omega)
              clear hc_w hc_a hc_n hc_t hc_x hc_i hc_f hc_p hc_E ka5 ka6 ka7 ka8 ka9 z_name z_title z_inn z_text hF hm h_z h_w h_a h_n h_t
              go_enter Tryz.func27, Tryz.ntmps27
              go_upto_region 1 with fail
              rw [HW1.out]
              obtain ⟨hq1, hqt0⟩ := hE.out W1 (Below.refl _ _)
              have HB0 : Below W1.heap.size W1 W1 := Below.refl _ _
              have g0 := hq1.2 0 (by simp)
              have g1 := hq1.2 1 (by simp)
              have g4 := hq1.2 4 (by simp)
              have g5 := hq1.2 5 (by simp)
              have g6 := hq1.2 6 (by simp)
              have g9 := hq1.2 9 (by simp)
              simp only [cqs, cqz] at g0 g1 g4 g5 g6 g9
              go_wp2_with (first | (go_at_call 19; (with_reducible refine (HC_w.out W1 hqt0).mono ?_); rintro e91 w1 ⟨rfl, hb1⟩; have HB1 := bt HB0 hb1; obtain ⟨r1hq1, hqt1⟩ := hE.out w1 HB1; have g1_0 := r1hq1.2 0 (by simp); have g1_1 := r1hq1.2 1 (by simp); have g1_6 := r1hq1.2 6 (by simp); simp only [cqs, cqz] at g1_0 g1_1 g1_6) | (go_at_call 19; (with_reducible refine (HC_a.out w1 hqt1).mono ?_); rintro e92 w2 ⟨rfl, hb2⟩; have HB2 := bt HB1 hb2; obtain ⟨r2hq1, hqt2⟩ := hE.out w2 HB2; have g2_0 := r2hq1.2 0 (by simp); have g2_1 := r2hq1.2 1 (by simp); simp only [cqs, cqz] at g2_0 g2_1) | (go_at_call 18; (with_reducible refine (HC_n.out w2 hqt2).mono ?_); rintro e93 w3 ⟨rfl, hb3⟩; have HB3 := bt HB2 hb3; obtain ⟨r3hq1, hqt3⟩ := hE.out w3 HB3; have g3_1 := r3hq1.2 1 (by simp); simp only [cqs, cqz] at g3_1) | (go_at_call 23; (with_reducible refine (HC_t.out w3 hqt3).mono ?_); rintro e94 w4 ⟨rfl, hb4⟩; have HB4 := bt HB3 hb4; obtain ⟨r4hq1, hqt4⟩ := hE.out w4 HB4))
              go_ret
              exact ⟨ret_bool hfin.out.symm, hqt4⟩
          · have hfin : Hid (dec (ObjR ⟨x_name, x_title, x_inn, x_text, false, x_words, x_adjs, x_flags, x_props, x_exits⟩) = false) := dec_false (fun h => h_a h.2.2.2.1)
            simp only [dec_true h_w] at hc_w
            have HC_w := Lib.hid hc_w
            simp only [dec_false h_a] at hc_a
            have HC_a := Lib.hid hc_a
            simp only [dec_false h_n] at hc_n
            have HC_n := Lib.hid hc_n
            have e0 : decide ((0 : Int) < (x_exits.length : Int)) = false := decide_eq_false (by omega)
            have e1 : decide (0 < x_exits.length) = false := decide_eq_false (by omega)
            clear hc_w hc_a hc_n hc_t hc_x hc_i hc_f hc_p hc_E ka5 ka6 ka7 ka8 ka9 z_name z_title z_inn z_text hF hm h_z h_w h_a h_n
            go_enter Tryz.func27, Tryz.ntmps27
            go_upto_region 1 with fail
            rw [HW1.out]
            obtain ⟨hq1, hqt0⟩ := hE.out W1 (Below.refl _ _)
            have HB0 : Below W1.heap.size W1 W1 := Below.refl _ _
            have g0 := hq1.2 0 (by simp)
            have g4 := hq1.2 4 (by simp)
            have g5 := hq1.2 5 (by simp)
            have g6 := hq1.2 6 (by simp)
            have g9 := hq1.2 9 (by simp)
            simp only [cqs, cqz] at g0 g4 g5 g6 g9
            go_wp2_with (first | (go_at_call 19; (with_reducible refine (HC_w.out W1 hqt0).mono ?_); rintro e91 w1 ⟨rfl, hb1⟩; have HB1 := bt HB0 hb1; obtain ⟨r1hq1, hqt1⟩ := hE.out w1 HB1; have g1_0 := r1hq1.2 0 (by simp); have g1_6 := r1hq1.2 6 (by simp); simp only [cqs, cqz] at g1_0 g1_6) | (go_at_call 19; (with_reducible refine (HC_a.out w1 hqt1).mono ?_); rintro e92 w2 ⟨rfl, hb2⟩; have HB2 := bt HB1 hb2; obtain ⟨r2hq1, hqt2⟩ := hE.out w2 HB2; have g2_0 := r2hq1.2 0 (by simp); simp only [cqz] at g2_0) | (go_at_call 18; (with_reducible refine (HC_n.out w2 hqt2).mono ?_); rintro e93 w3 ⟨rfl, hb3⟩; have HB3 := bt HB2 hb3; obtain ⟨r3hq1, hqt3⟩ := hE.out w3 HB3))
            go_ret
            exact ⟨ret_bool hfin.out.symm, hqt3⟩
      · by_cases h_n : IsNm x_name
        · by_cases h_t : IsText x_title
          · by_cases h_x : IsText x_text
            · by_cases h_i : MaybeR x_inn
              · have hfin : Hid (dec (ObjR ⟨x_name, x_title, x_inn, x_text, false, x_words, x_adjs, x_flags, x_props, x_exits⟩) = false) := dec_false (fun h => h_w h.2.2.1)
                simp only [dec_false h_w] at hc_w
                have HC_w := Lib.hid hc_w
                simp only [dec_true h_n] at hc_n
                have HC_n := Lib.hid hc_n
                simp only [dec_true h_t] at hc_t
                have HC_t := Lib.hid hc_t
                simp only [dec_true h_x] at hc_x
                have HC_x := Lib.hid hc_x
                simp only [dec_true h_i] at hc_i
                have HC_i := Lib.hid hc_i
                have e0 : decide ((0 : Int) < (x_exits.length : Int)) = false := decide_eq_false (by omega)
                have e1 : decide (0 < x_exits.length) = false := decide_eq_false (by omega)
                clear hc_w hc_a hc_n hc_t hc_x hc_i hc_f hc_p hc_E ka5 ka6 ka7 ka8 ka9 z_name z_title z_inn z_text hF hm h_z h_w h_n h_t h_x h_i
                go_enter Tryz.func27, Tryz.ntmps27
                go_upto_region 1 with fail
                rw [HW1.out]
                obtain ⟨hq1, hqt0⟩ := hE.out W1 (Below.refl _ _)
                have HB0 : Below W1.heap.size W1 W1 := Below.refl _ _
                have g0 := hq1.2 0 (by simp)
                have g1 := hq1.2 1 (by simp)
                have g2 := hq1.2 2 (by simp)
                have g3 := hq1.2 3 (by simp)
                have g4 := hq1.2 4 (by simp)
                have g5 := hq1.2 5 (by simp)
                have g9 := hq1.2 9 (by simp)
                simp only [cqs, cqz] at g0 g1 g2 g3 g4 g5 g9
                go_wp2_with (first | (go_at_call 19; (with_reducible refine (HC_w.out W1 hqt0).mono ?_); rintro e91 w1 ⟨rfl, hb1⟩; have HB1 := bt HB0 hb1; obtain ⟨r1hq1, hqt1⟩ := hE.out w1 HB1; have g1_0 := r1hq1.2 0 (by simp); have g1_1 := r1hq1.2 1 (by simp); have g1_2 := r1hq1.2 2 (by simp); have g1_3 := r1hq1.2 3 (by simp); simp only [cqs, cqz] at g1_0 g1_1 g1_2 g1_3) | (go_at_call 18; (with_reducible refine (HC_n.out w1 hqt1).mono ?_); rintro e92 w2 ⟨rfl, hb2⟩; have HB2 := bt HB1 hb2; obtain ⟨r2hq1, hqt2⟩ := hE.out w2 HB2; have g2_1 := r2hq1.2 1 (by simp); have g2_2 := r2hq1.2 2 (by simp); have g2_3 := r2hq1.2 3 (by simp); simp only [cqs, cqz] at g2_1 g2_2 g2_3) | (go_at_call 23; (with_reducible refine (HC_t.out w2 hqt2).mono ?_); rintro e93 w3 ⟨rfl, hb3⟩; have HB3 := bt HB2 hb3; obtain ⟨r3hq1, hqt3⟩ := hE.out w3 HB3; have g3_2 := r3hq1.2 2 (by simp); have g3_3 := r3hq1.2 3 (by simp); simp only [cqs, cqz] at g3_2 g3_3) | (go_at_call 23; (with_reducible refine (HC_x.out w3 hqt3).mono ?_); rintro e94 w4 ⟨rfl, hb4⟩; have HB4 := bt HB3 hb4; obtain ⟨r4hq1, hqt4⟩ := hE.out w4 HB4; have g4_2 := r4hq1.2 2 (by simp); simp only [cqs, cqz] at g4_2) | (go_at_call 98; (with_reducible refine (HC_i.out w4 hqt4).mono ?_); rintro e95 w5 ⟨rfl, hb5⟩; have HB5 := bt HB4 hb5; obtain ⟨r5hq1, hqt5⟩ := hE.out w5 HB5))
                go_ret
                exact ⟨ret_bool hfin.out.symm, hqt5⟩
              · have hfin : Hid (dec (ObjR ⟨x_name, x_title, x_inn, x_text, false, x_words, x_adjs, x_flags, x_props, x_exits⟩) = false) := dec_false (fun h => h_w h.2.2.1)
                simp only [dec_false h_w] at hc_w
                have HC_w := Lib.hid hc_w
                simp only [dec_true h_n] at hc_n
                have HC_n := Lib.hid hc_n
                simp only [dec_true h_t] at hc_t
                have HC_t := Lib.hid hc_t
                simp only [dec_true h_x] at hc_x
                have HC_x := Lib.hid hc_x
                simp only [dec_false h_i] at hc_i
                have HC_i := Lib.hid hc_i
                have e0 : decide ((0 : Int) < (x_exits.length : Int)) = false := decide_eq_false (by omega)
                have e1 : decide (0 < x_exits.length) = false := decide_eq_false (by omega)
                clear hc_w hc_a hc_n hc_t hc_x hc_i hc_f hc_p hc_E ka5 ka6 ka7 ka8 ka9 z_name z_title z_inn z_text hF hm h_z h_w h_n h_t h_x h_i
                go_enter Tryz.func27, Tryz.ntmps27
                go_upto_region 1 with fail
                rw [HW1.out]
                obtain ⟨hq1, hqt0⟩ := hE.out W1 (Below.refl _ _)
                have HB0 : Below W1.heap.size W1 W1 := Below.refl _ _
                have g0 := hq1.2 0 (by simp)
                have g1 := hq1.2 1 (by simp)
                have g2 := hq1.2 2 (by simp)
                have g3 := hq1.2 3 (by simp)
                have g4 := hq1.2 4 (by simp)
                have g5 := hq1.2 5 (by simp)
                have g9 := hq1.2 9 (by simp)
                simp only [cqs, cqz] at g0 g1 g2 g3 g4 g5 g9
                go_wp2_with (first | (go_at_call 19; (with_reducible refine (HC_w.out W1 hqt0).mono ?_); rintro e91 w1 ⟨rfl, hb1⟩; have HB1 := bt HB0 hb1; obtain ⟨r1hq1, hqt1⟩ := hE.out w1 HB1; have g1_0 := r1hq1.2 0 (by simp); have g1_1 := r1hq1.2 1 (by simp); have g1_2 := r1hq1.2 2 (by simp); have g1_3 := r1hq1.2 3 (by simp); simp only [cqs, cqz] at g1_0 g1_1 g1_2 g1_3) | (go_at_call 18; (with_reducible refine (HC_n.out w1 hqt1).mono ?_); rintro e92 w2 ⟨rfl, hb2⟩; have HB2 := bt HB1 hb2; obtain ⟨r2hq1, hqt2⟩ := hE.out w2 HB2; have g2_1 := r2hq1.2 1 (by simp); have g2_2 := r2hq1.2 2 (by simp); have g2_3 := r2hq1.2 3 (by simp); simp only [cqs, cqz] at g2_1 g2_2 g2_3) | (go_at_call 23; (with_reducible refine (HC_t.out w2 hqt2).mono ?_); rintro e93 w3 ⟨rfl, hb3⟩; have HB3 := bt HB2 hb3; obtain ⟨r3hq1, hqt3⟩ := hE.out w3 HB3; have g3_2 := r3hq1.2 2 (by simp); have g3_3 := r3hq1.2 3 (by simp); simp only [cqs, cqz] at g3_2 g3_3) | (go_at_call 23; (with_reducible refine (HC_x.out w3 hqt3).mono ?_); rintro e94 w4 ⟨rfl, hb4⟩; have HB4 := bt HB3 hb4; obtain ⟨r4hq1, hqt4⟩ := hE.out w4 HB4; have g4_2 := r4hq1.2 2 (by simp); simp only [cqs, cqz] at g4_2) | (go_at_call 98; (with_reducible refine (HC_i.out w4 hqt4).mono ?_); rintro e95 w5 ⟨rfl, hb5⟩; have HB5 := bt HB4 hb5; obtain ⟨r5hq1, hqt5⟩ := hE.out w5 HB5))
                go_ret
                exact ⟨ret_bool hfin.out.symm, hqt5⟩
            · have hfin : Hid (dec (ObjR ⟨x_name, x_title, x_inn, x_text, false, x_words, x_adjs, x_flags, x_props, x_exits⟩) = false) := dec_false (fun h => h_w h.2.2.1)
              simp only [dec_false h_w] at hc_w
              have HC_w := Lib.hid hc_w
              simp only [dec_true h_n] at hc_n
              have HC_n := Lib.hid hc_n
              simp only [dec_true h_t] at hc_t
              have HC_t := Lib.hid hc_t
              simp only [dec_false h_x] at hc_x
              have HC_x := Lib.hid hc_x
              have e0 : decide ((0 : Int) < (x_exits.length : Int)) = false := decide_eq_false (by omega)
              have e1 : decide (0 < x_exits.length) = false := decide_eq_false (by omega)
              clear hc_w hc_a hc_n hc_t hc_x hc_i hc_f hc_p hc_E ka5 ka6 ka7 ka8 ka9 z_name z_title z_inn z_text hF hm h_z h_w h_n h_t h_x
              go_enter Tryz.func27, Tryz.ntmps27
              go_upto_region 1 with fail
              rw [HW1.out]
              obtain ⟨hq1, hqt0⟩ := hE.out W1 (Below.refl _ _)
              have HB0 : Below W1.heap.size W1 W1 := Below.refl _ _
              have g0 := hq1.2 0 (by simp)
              have g1 := hq1.2 1 (by simp)
              have g3 := hq1.2 3 (by simp)
              have g4 := hq1.2 4 (by simp)
              have g5 := hq1.2 5 (by simp)
              have g9 := hq1.2 9 (by simp)
              simp only [cqs, cqz] at g0 g1 g3 g4 g5 g9
              go_wp2_with (first | (go_at_call 19; (with_reducible refine (HC_w.out W1 hqt0).mono ?_); rintro e91 w1 ⟨rfl, hb1⟩; have HB1 := bt HB0 hb1; obtain ⟨r1hq1, hqt1⟩ := hE.out w1 HB1; have g1_0 := r1hq1.2 0 (by simp); have g1_1 := r1hq1.2 1 (by simp); have g1_3 := r1hq1.2 3 (by simp); simp only [cqs, cqz] at g1_0 g1_1 g1_3) | (go_at_call 18; (with_reducible refine (HC_n.out w1 hqt1).mono ?_); rintro e92 w2 ⟨rfl, hb2⟩; have HB2 := bt HB1 hb2; obtain ⟨r2hq1, hqt2⟩ := hE.out w2 HB2; have g2_1 := r2hq1.2 1 (by simp); have g2_3 := r2hq1.2 3 (by simp); simp only [cqs, cqz] at g2_1 g2_3) | (go_at_call 23; (with_reducible refine (HC_t.out w2 hqt2).mono ?_); rintro e93 w3 ⟨rfl, hb3⟩; have HB3 := bt HB2 hb3; obtain ⟨r3hq1, hqt3⟩ := hE.out w3 HB3; have g3_3 := r3hq1.2 3 (by simp); simp only [cqs, cqz] at g3_3) | (go_at_call 23; (with_reducible refine (HC_x.out w3 hqt3).mono ?_); rintro e94 w4 ⟨rfl, hb4⟩; have HB4 := bt HB3 hb4; obtain ⟨r4hq1, hqt4⟩ := hE.out w4 HB4))
              go_ret
              exact ⟨ret_bool hfin.out.symm, hqt4⟩
          · have hfin : Hid (dec (ObjR ⟨x_name, x_title, x_inn, x_text, false, x_words, x_adjs, x_flags, x_props, x_exits⟩) = false) := dec_false (fun h => h_w h.2.2.1)
            simp only [dec_false h_w] at hc_w
            have HC_w := Lib.hid hc_w
            simp only [dec_true h_n] at hc_n
            have HC_n := Lib.hid hc_n
            simp only [dec_false h_t] at hc_t
            have HC_t := Lib.hid hc_t
            have e0 : decide ((0 : Int) < (x_exits.length : Int)) = false := decide_eq_false (by omega)
            have e1 : decide (0 < x_exits.length) = false := decide_eq_false (by omega)
            clear hc_w hc_a hc_n hc_t hc_x hc_i hc_f hc_p hc_E ka5 ka6 ka7 ka8 ka9 z_name z_title z_inn z_text hF hm h_z h_w h_n h_t
            go_enter Tryz.func27, Tryz.ntmps27
            go_upto_region 1 with fail
            rw [HW1.out]
            obtain ⟨hq1, hqt0⟩ := hE.out W1 (Below.refl _ _)
            have HB0 : Below W1.heap.size W1 W1 := Below.refl _ _
            have g0 := hq1.2 0 (by simp)
            have g1 := hq1.2 1 (by simp)
            have g4 := hq1.2 4 (by simp)
            have g5 := hq1.2 5 (by simp)
            have g9 := hq1.2 9 (by simp)
            simp only [cqs, cqz] at g0 g1 g4 g5 g9
            go_wp2_with (first | (go_at_call 19; (with_reducible refine (HC_w.out W1 hqt0).mono ?_); rintro e91 w1 ⟨rfl, hb1⟩; have HB1 := bt HB0 hb1; obtain ⟨r1hq1, hqt1⟩ := hE.out w1 HB1; have g1_0 := r1hq1.2 0 (by simp); have g1_1 := r1hq1.2 1 (by simp); simp only [cqs, cqz] at g1_0 g1_1) | (go_at_call 18; (with_reducible refine (HC_n.out w1 hqt1).mono ?_); rintro e92 w2 ⟨rfl, hb2⟩; have HB2 := bt HB1 hb2; obtain ⟨r2hq1, hqt2⟩ := hE.out w2 HB2; have g2_1 := r2hq1.2 1 (by simp); simp only [cqs, cqz] at g2_1) | (go_at_call 23; (with_reducible refine (HC_t.out w2 hqt2).mono ?_); rintro e93 w3 ⟨rfl, hb3⟩; have HB3 := bt HB2 hb3; obtain ⟨r3hq1, hqt3⟩ := hE.out w3 HB3))
            go_ret
            exact ⟨ret_bool hfin.out.symm, hqt3⟩
        · have hfin : Hid (dec (ObjR ⟨x_name, x_title, x_inn, x_text, false, x_words, x_adjs, x_flags, x_props, x_exits⟩) = false) := dec_false (fun h => h_w h.2.2.1)
          simp only [dec_false h_w] at hc_w
          have HC_w := Lib.hid hc_w
          simp only [dec_false h_n] at hc_n
          have HC_n := Lib.hid hc_n
          have e0 : decide ((0 : Int) < (x_exits.length : Int)) = false := decide_eq_false (by omega)
          have e1 : decide (0 < x_exits.length) = false := decide_eq_false (by omega)
          clear hc_w hc_a hc_n hc_t hc_x hc_i hc_f hc_p hc_E ka5 ka6 ka7 ka8 ka9 z_name z_title z_inn z_text hF hm h_z h_w h_n
          go_enter Tryz.func27, Tryz.ntmps27
          go_upto_region 1 with fail
          rw [HW1.out]
          obtain ⟨hq1, hqt0⟩ := hE.out W1 (Below.refl _ _)
          have HB0 : Below W1.heap.size W1 W1 := Below.refl _ _
          have g0 := hq1.2 0 (by simp)
          have g4 := hq1.2 4 (by simp)
          have g5 := hq1.2 5 (by simp)
          have g9 := hq1.2 9 (by simp)
          simp only [cqs, cqz] at g0 g4 g5 g9
          go_wp2_with (first | (go_at_call 19; (with_reducible refine (HC_w.out W1 hqt0).mono ?_); rintro e91 w1 ⟨rfl, hb1⟩; have HB1 := bt HB0 hb1; obtain ⟨r1hq1, hqt1⟩ := hE.out w1 HB1; have g1_0 := r1hq1.2 0 (by simp); simp only [cqz] at g1_0) | (go_at_call 18; (with_reducible refine (HC_n.out w1 hqt1).mono ?_); rintro e92 w2 ⟨rfl, hb2⟩; have HB2 := bt HB1 hb2; obtain ⟨r2hq1, hqt2⟩ := hE.out w2 HB2))
          go_ret
          exact ⟨ret_bool hfin.out.symm, hqt2⟩
    · have hfin : Hid (dec (ObjR ⟨x_name, x_title, x_inn, x_text, false, x_words, x_adjs, x_flags, x_props, x_exits⟩) = false) := dec_false (fun h => h_z (h.2.1 rfl))
      have e0 : decide ((0 : Int) < (x_exits.length : Int)) = true := decide_eq_true (by omega)
      have e1 : decide (0 < x_exits.length) = true := decide_eq_true (by omega)
      clear hc_w hc_a hc_n hc_t hc_x hc_i hc_f hc_p hc_E ka5 ka6 ka7 ka8 ka9 z_name z_title z_inn z_text hF hm h_z
      go_enter Tryz.func27, Tryz.ntmps27
      go_upto_region 1 with fail
      rw [HW1.out]
      obtain ⟨hq1, hqt0⟩ := hE.out W1 (Below.refl _ _)
      have HB0 : Below W1.heap.size W1 W1 := Below.refl _ _
      have g4 := hq1.2 4 (by simp)
      have g9 := hq1.2 9 (by simp)
      simp only [cqs, cqz] at g4 g9
      go_wp2_with fail
      go_ret
      exact ⟨ret_bool hfin.out.symm, hqt0⟩
  · by_cases h_e : x_inn = ⟨#[]⟩
    · by_cases h_w : ((x_words.length : Int) ≤ 8 ∧ ∀ x ∈ x_words, IsText x)
      · by_cases h_a : ((x_adjs.length : Int) ≤ 8 ∧ ∀ x ∈ x_adjs, IsText x)
        · by_cases h_n : IsNm x_name
          · by_cases h_t : IsText x_title
            · by_cases h_x : IsText x_text
              · by_cases h_i : MaybeR x_inn
                · by_cases h_f : ((x_flags.length : Int) ≤ 16 ∧ ∀ x ∈ x_flags, IsNm x)
                  · by_cases h_p : ((x_props.length : Int) ≤ 16 ∧ ∀ x ∈ x_props, PairR x)
                    · by_cases h_E : ((x_exits.length : Int) ≤ 12 ∧ ∀ x ∈ x_exits, ExitR x)
                      · have hfin : Hid (dec (ObjR ⟨x_name, x_title, x_inn, x_text, true, x_words, x_adjs, x_flags, x_props, x_exits⟩) = true) := dec_true ⟨fun _ => h_e, fun h => Bool.noConfusion h, h_w, h_a, h_n, h_t, h_x, h_i, h_f, h_p, h_E⟩
                        simp only [dec_true h_w] at hc_w
                        have HC_w := Lib.hid hc_w
                        simp only [dec_true h_a] at hc_a
                        have HC_a := Lib.hid hc_a
                        simp only [dec_true h_n] at hc_n
                        have HC_n := Lib.hid hc_n
                        simp only [dec_true h_t] at hc_t
                        have HC_t := Lib.hid hc_t
                        simp only [dec_true h_x] at hc_x
                        have HC_x := Lib.hid hc_x
                        simp only [dec_true h_i] at hc_i
                        have HC_i := Lib.hid hc_i
                        simp only [dec_true h_f] at hc_f
                        have HC_f := Lib.hid hc_f
                        simp only [dec_true h_p] at hc_p
                        have HC_p := Lib.hid hc_p
                        simp only [dec_true h_E] at hc_E
                        have HC_E := Lib.hid hc_E
                        have e0 : x_inn.toList.isEmpty = true := emp_t h_e
                        clear hc_w hc_a hc_n hc_t hc_x hc_i hc_f hc_p hc_E ka5 ka6 ka7 ka8 ka9 z_name z_title z_inn z_text hF hm h_e h_w h_a h_n h_t h_x h_i h_f h_p h_E
                        go_enter Tryz.func27, Tryz.ntmps27
                        go_upto_region 1 with fail
                        rw [HW1.out]
                        obtain ⟨hq1, hqt0⟩ := hE.out W1 (Below.refl _ _)
                        have HB0 : Below W1.heap.size W1 W1 := Below.refl _ _
                        have g0 := hq1.2 0 (by simp)
                        have g1 := hq1.2 1 (by simp)
                        have g2 := hq1.2 2 (by simp)
                        have g3 := hq1.2 3 (by simp)
                        have g4 := hq1.2 4 (by simp)
                        have g5 := hq1.2 5 (by simp)
                        have g6 := hq1.2 6 (by simp)
                        have g7 := hq1.2 7 (by simp)
                        have g8 := hq1.2 8 (by simp)
                        have g9 := hq1.2 9 (by simp)
                        simp only [cqs, cqz] at g0 g1 g2 g3 g4 g5 g6 g7 g8 g9
                        go_wp2_with (first | (go_at_call 19; (with_reducible refine (HC_w.out W1 hqt0).mono ?_); rintro e91 w1 ⟨rfl, hb1⟩; have HB1 := bt HB0 hb1; obtain ⟨r1hq1, hqt1⟩ := hE.out w1 HB1; have g1_0 := r1hq1.2 0 (by simp); have g1_1 := r1hq1.2 1 (by simp); have g1_2 := r1hq1.2 2 (by simp); have g1_3 := r1hq1.2 3 (by simp); have g1_6 := r1hq1.2 6 (by simp); have g1_7 := r1hq1.2 7 (by simp); have g1_8 := r1hq1.2 8 (by simp); have g1_9 := r1hq1.2 9 (by simp); simp only [cqs, cqz] at g1_0 g1_1 g1_2 g1_3 g1_6 g1_7 g1_8 g1_9) | (go_at_call 19; (with_reducible refine (HC_a.out w1 hqt1).mono ?_); rintro e92 w2 ⟨rfl, hb2⟩; have HB2 := bt HB1 hb2; obtain ⟨r2hq1, hqt2⟩ := hE.out w2 HB2; have g2_0 := r2hq1.2 0 (by simp); have g2_1 := r2hq1.2 1 (by simp); have g2_2 := r2hq1.2 2 (by simp); have g2_3 := r2hq1.2 3 (by simp); have g2_7 := r2hq1.2 7 (by simp); have g2_8 := r2hq1.2 8 (by simp); have g2_9 := r2hq1.2 9 (by simp); simp only [cqs, cqz] at g2_0 g2_1 g2_2 g2_3 g2_7 g2_8 g2_9) | (go_at_call 18; (with_reducible refine (HC_n.out w2 hqt2).mono ?_); rintro e93 w3 ⟨rfl, hb3⟩; have HB3 := bt HB2 hb3; obtain ⟨r3hq1, hqt3⟩ := hE.out w3 HB3; have g3_1 := r3hq1.2 1 (by simp); have g3_2 := r3hq1.2 2 (by simp); have g3_3 := r3hq1.2 3 (by simp); have g3_7 := r3hq1.2 7 (by simp); have g3_8 := r3hq1.2 8 (by simp); have g3_9 := r3hq1.2 9 (by simp); simp only [cqs, cqz] at g3_1 g3_2 g3_3 g3_7 g3_8 g3_9) | (go_at_call 23; (with_reducible refine (HC_t.out w3 hqt3).mono ?_); rintro e94 w4 ⟨rfl, hb4⟩; have HB4 := bt HB3 hb4; obtain ⟨r4hq1, hqt4⟩ := hE.out w4 HB4; have g4_2 := r4hq1.2 2 (by simp); have g4_3 := r4hq1.2 3 (by simp); have g4_7 := r4hq1.2 7 (by simp); have g4_8 := r4hq1.2 8 (by simp); have g4_9 := r4hq1.2 9 (by simp); simp only [cqs, cqz] at g4_2 g4_3 g4_7 g4_8 g4_9) | (go_at_call 23; (with_reducible refine (HC_x.out w4 hqt4).mono ?_); rintro e95 w5 ⟨rfl, hb5⟩; have HB5 := bt HB4 hb5; obtain ⟨r5hq1, hqt5⟩ := hE.out w5 HB5; have g5_2 := r5hq1.2 2 (by simp); have g5_7 := r5hq1.2 7 (by simp); have g5_8 := r5hq1.2 8 (by simp); have g5_9 := r5hq1.2 9 (by simp); simp only [cqs, cqz] at g5_2 g5_7 g5_8 g5_9) | (go_at_call 98; (with_reducible refine (HC_i.out w5 hqt5).mono ?_); rintro e96 w6 ⟨rfl, hb6⟩; have HB6 := bt HB5 hb6; obtain ⟨r6hq1, hqt6⟩ := hE.out w6 HB6; have g6_7 := r6hq1.2 7 (by simp); have g6_8 := r6hq1.2 8 (by simp); have g6_9 := r6hq1.2 9 (by simp); simp only [cqs, cqz] at g6_7 g6_8 g6_9) | (go_at_call 19; (with_reducible refine (HC_f.out w6 hqt6).mono ?_); rintro e97 w7 ⟨rfl, hb7⟩; have HB7 := bt HB6 hb7; obtain ⟨r7hq1, hqt7⟩ := hE.out w7 HB7; have g7_8 := r7hq1.2 8 (by simp); have g7_9 := r7hq1.2 9 (by simp); simp only [cqs, cqz] at g7_8 g7_9) | (go_at_call 24; (with_reducible refine (HC_p.out w7 hqt7).mono ?_); rintro e98 w8 ⟨rfl, hb8⟩; have HB8 := bt HB7 hb8; obtain ⟨r8hq1, hqt8⟩ := hE.out w8 HB8; have g8_9 := r8hq1.2 9 (by simp); simp only [cqs, cqz] at g8_9) | (go_at_call 99; (with_reducible refine (HC_E.out w8 hqt8).mono ?_); rintro e99 w9 ⟨rfl, hb9⟩; have HB9 := bt HB8 hb9; obtain ⟨r9hq1, hqt9⟩ := hE.out w9 HB9))
                        go_ret
                        exact ⟨ret_bool hfin.out.symm, hqt9⟩
                      · have hfin : Hid (dec (ObjR ⟨x_name, x_title, x_inn, x_text, true, x_words, x_adjs, x_flags, x_props, x_exits⟩) = false) := dec_false (fun h => h_E h.2.2.2.2.2.2.2.2.2.2)
                        simp only [dec_true h_w] at hc_w
                        have HC_w := Lib.hid hc_w
                        simp only [dec_true h_a] at hc_a
                        have HC_a := Lib.hid hc_a
                        simp only [dec_true h_n] at hc_n
                        have HC_n := Lib.hid hc_n
                        simp only [dec_true h_t] at hc_t
                        have HC_t := Lib.hid hc_t
                        simp only [dec_true h_x] at hc_x
                        have HC_x := Lib.hid hc_x
                        simp only [dec_true h_i] at hc_i
                        have HC_i := Lib.hid hc_i
                        simp only [dec_true h_f] at hc_f
                        have HC_f := Lib.hid hc_f
                        simp only [dec_true h_p] at hc_p
                        have HC_p := Lib.hid hc_p
                        simp only [dec_false h_E] at hc_E
                        have HC_E := Lib.hid hc_E
                        have e0 : x_inn.toList.isEmpty = true := emp_t h_e
                        clear hc_w hc_a hc_n hc_t hc_x hc_i hc_f hc_p hc_E ka5 ka6 ka7 ka8 ka9 z_name z_title z_inn z_text hF hm h_e h_w h_a h_n h_t h_x h_i h_f h_p h_E
                        go_enter Tryz.func27, Tryz.ntmps27
                        go_upto_region 1 with fail
                        rw [HW1.out]
                        obtain ⟨hq1, hqt0⟩ := hE.out W1 (Below.refl _ _)
                        have HB0 : Below W1.heap.size W1 W1 := Below.refl _ _
                        have g0 := hq1.2 0 (by simp)
                        have g1 := hq1.2 1 (by simp)
                        have g2 := hq1.2 2 (by simp)
                        have g3 := hq1.2 3 (by simp)
                        have g4 := hq1.2 4 (by simp)
                        have g5 := hq1.2 5 (by simp)
                        have g6 := hq1.2 6 (by simp)
                        have g7 := hq1.2 7 (by simp)
                        have g8 := hq1.2 8 (by simp)
                        have g9 := hq1.2 9 (by simp)
                        simp only [cqs, cqz] at g0 g1 g2 g3 g4 g5 g6 g7 g8 g9
                        go_wp2_with (first | (go_at_call 19; (with_reducible refine (HC_w.out W1 hqt0).mono ?_); rintro e91 w1 ⟨rfl, hb1⟩; have HB1 := bt HB0 hb1; obtain ⟨r1hq1, hqt1⟩ := hE.out w1 HB1; have g1_0 := r1hq1.2 0 (by simp); have g1_1 := r1hq1.2 1 (by simp); have g1_2 := r1hq1.2 2 (by simp); have g1_3 := r1hq1.2 3 (by simp); have g1_6 := r1hq1.2 6 (by simp); have g1_7 := r1hq1.2 7 (by simp); have g1_8 := r1hq1.2 8 (by simp); have g1_9 := r1hq1.2 9 (by simp); simp only [cqs, cqz] at g1_0 g1_1 g1_2 g1_3 g1_6 g1_7 g1_8 g1_9) | (go_at_call 19; (with_reducible refine (HC_a.out w1 hqt1).mono ?_); rintro e92 w2 ⟨rfl, hb2⟩; have HB2 := bt HB1 hb2; obtain ⟨r2hq1, hqt2⟩ := hE.out w2 HB2; have g2_0 := r2hq1.2 0 (by simp); have g2_1 := r2hq1.2 1 (by simp); have g2_2 := r2hq1.2 2 (by simp); have g2_3 := r2hq1.2 3 (by simp); have g2_7 := r2hq1.2 7 (by simp); have g2_8 := r2hq1.2 8 (by simp); have g2_9 := r2hq1.2 9 (by simp); simp only [cqs, cqz] at g2_0 g2_1 g2_2 g2_3 g2_7 g2_8 g2_9) | (go_at_call 18; (with_reducible refine (HC_n.out w2 hqt2).mono ?_); rintro e93 w3 ⟨rfl, hb3⟩; have HB3 := bt HB2 hb3; obtain ⟨r3hq1, hqt3⟩ := hE.out w3 HB3; have g3_1 := r3hq1.2 1 (by simp); have g3_2 := r3hq1.2 2 (by simp); have g3_3 := r3hq1.2 3 (by simp); have g3_7 := r3hq1.2 7 (by simp); have g3_8 := r3hq1.2 8 (by simp); have g3_9 := r3hq1.2 9 (by simp); simp only [cqs, cqz] at g3_1 g3_2 g3_3 g3_7 g3_8 g3_9) | (go_at_call 23; (with_reducible refine (HC_t.out w3 hqt3).mono ?_); rintro e94 w4 ⟨rfl, hb4⟩; have HB4 := bt HB3 hb4; obtain ⟨r4hq1, hqt4⟩ := hE.out w4 HB4; have g4_2 := r4hq1.2 2 (by simp); have g4_3 := r4hq1.2 3 (by simp); have g4_7 := r4hq1.2 7 (by simp); have g4_8 := r4hq1.2 8 (by simp); have g4_9 := r4hq1.2 9 (by simp); simp only [cqs, cqz] at g4_2 g4_3 g4_7 g4_8 g4_9) | (go_at_call 23; (with_reducible refine (HC_x.out w4 hqt4).mono ?_); rintro e95 w5 ⟨rfl, hb5⟩; have HB5 := bt HB4 hb5; obtain ⟨r5hq1, hqt5⟩ := hE.out w5 HB5; have g5_2 := r5hq1.2 2 (by simp); have g5_7 := r5hq1.2 7 (by simp); have g5_8 := r5hq1.2 8 (by simp); have g5_9 := r5hq1.2 9 (by simp); simp only [cqs, cqz] at g5_2 g5_7 g5_8 g5_9) | (go_at_call 98; (with_reducible refine (HC_i.out w5 hqt5).mono ?_); rintro e96 w6 ⟨rfl, hb6⟩; have HB6 := bt HB5 hb6; obtain ⟨r6hq1, hqt6⟩ := hE.out w6 HB6; have g6_7 := r6hq1.2 7 (by simp); have g6_8 := r6hq1.2 8 (by simp); have g6_9 := r6hq1.2 9 (by simp); simp only [cqs, cqz] at g6_7 g6_8 g6_9) | (go_at_call 19; (with_reducible refine (HC_f.out w6 hqt6).mono ?_); rintro e97 w7 ⟨rfl, hb7⟩; have HB7 := bt HB6 hb7; obtain ⟨r7hq1, hqt7⟩ := hE.out w7 HB7; have g7_8 := r7hq1.2 8 (by simp); have g7_9 := r7hq1.2 9 (by simp); simp only [cqs, cqz] at g7_8 g7_9) | (go_at_call 24; (with_reducible refine (HC_p.out w7 hqt7).mono ?_); rintro e98 w8 ⟨rfl, hb8⟩; have HB8 := bt HB7 hb8; obtain ⟨r8hq1, hqt8⟩ := hE.out w8 HB8; have g8_9 := r8hq1.2 9 (by simp); simp only [cqs, cqz] at g8_9) | (go_at_call 99; (with_reducible refine (HC_E.out w8 hqt8).mono ?_); rintro e99 w9 ⟨rfl, hb9⟩; have HB9 := bt HB8 hb9; obtain ⟨r9hq1, hqt9⟩ := hE.out w9 HB9))
                        go_ret
                        exact ⟨ret_bool hfin.out.symm, hqt9⟩
                    · have hfin : Hid (dec (ObjR ⟨x_name, x_title, x_inn, x_text, true, x_words, x_adjs, x_flags, x_props, x_exits⟩) = false) := dec_false (fun h => h_p h.2.2.2.2.2.2.2.2.2.1)
                      simp only [dec_true h_w] at hc_w
                      have HC_w := Lib.hid hc_w
                      simp only [dec_true h_a] at hc_a
                      have HC_a := Lib.hid hc_a
                      simp only [dec_true h_n] at hc_n
                      have HC_n := Lib.hid hc_n
                      simp only [dec_true h_t] at hc_t
                      have HC_t := Lib.hid hc_t
                      simp only [dec_true h_x] at hc_x
                      have HC_x := Lib.hid hc_x
                      simp only [dec_true h_i] at hc_i
                      have HC_i := Lib.hid hc_i
                      simp only [dec_true h_f] at hc_f
                      have HC_f := Lib.hid hc_f
                      simp only [dec_false h_p] at hc_p
                      have HC_p := Lib.hid hc_p
                      have e0 : x_inn.toList.isEmpty = true := emp_t h_e
                      clear hc_w hc_a hc_n hc_t hc_x hc_i hc_f hc_p hc_E ka5 ka6 ka7 ka8 ka9 z_name z_title z_inn z_text hF hm h_e h_w h_a h_n h_t h_x h_i h_f h_p
                      go_enter Tryz.func27, Tryz.ntmps27
                      go_upto_region 1 with fail
                      rw [HW1.out]
                      obtain ⟨hq1, hqt0⟩ := hE.out W1 (Below.refl _ _)
                      have HB0 : Below W1.heap.size W1 W1 := Below.refl _ _
                      have g0 := hq1.2 0 (by simp)
                      have g1 := hq1.2 1 (by simp)
                      have g2 := hq1.2 2 (by simp)
                      have g3 := hq1.2 3 (by simp)
                      have g4 := hq1.2 4 (by simp)
                      have g5 := hq1.2 5 (by simp)
                      have g6 := hq1.2 6 (by simp)
                      have g7 := hq1.2 7 (by simp)
                      have g8 := hq1.2 8 (by simp)
                      simp only [cqs, cqz] at g0 g1 g2 g3 g4 g5 g6 g7 g8
                      go_wp2_with (first | (go_at_call 19; (with_reducible refine (HC_w.out W1 hqt0).mono ?_); rintro e91 w1 ⟨rfl, hb1⟩; have HB1 := bt HB0 hb1; obtain ⟨r1hq1, hqt1⟩ := hE.out w1 HB1; have g1_0 := r1hq1.2 0 (by simp); have g1_1 := r1hq1.2 1 (by simp); have g1_2 := r1hq1.2 2 (by simp); have g1_3 := r1hq1.2 3 (by simp); have g1_6 := r1hq1.2 6 (by simp); have g1_7 := r1hq1.2 7 (by simp); have g1_8 := r1hq1.2 8 (by simp); simp only [cqs, cqz] at g1_0 g1_1 g1_2 g1_3 g1_6 g1_7 g1_8) | (go_at_call 19; (with_reducible refine (HC_a.out w1 hqt1).mono ?_); rintro e92 w2 ⟨rfl, hb2⟩; have HB2 := bt HB1 hb2; obtain ⟨r2hq1, hqt2⟩ := hE.out w2 HB2; have g2_0 := r2hq1.2 0 (by simp); have g2_1 := r2hq1.2 1 (by simp); have g2_2 := r2hq1.2 2 (by simp); have g2_3 := r2hq1.2 3 (by simp); have g2_7 := r2hq1.2 7 (by simp); have g2_8 := r2hq1.2 8 (by simp); simp only [cqs, cqz] at g2_0 g2_1 g2_2 g2_3 g2_7 g2_8) | (go_at_call 18; (with_reducible refine (HC_n.out w2 hqt2).mono ?_); rintro e93 w3 ⟨rfl, hb3⟩; have HB3 := bt HB2 hb3; obtain ⟨r3hq1, hqt3⟩ := hE.out w3 HB3; have g3_1 := r3hq1.2 1 (by simp); have g3_2 := r3hq1.2 2 (by simp); have g3_3 := r3hq1.2 3 (by simp); have g3_7 := r3hq1.2 7 (by simp); have g3_8 := r3hq1.2 8 (by simp); simp only [cqs, cqz] at g3_1 g3_2 g3_3 g3_7 g3_8) | (go_at_call 23; (with_reducible refine (HC_t.out w3 hqt3).mono ?_); rintro e94 w4 ⟨rfl, hb4⟩; have HB4 := bt HB3 hb4; obtain ⟨r4hq1, hqt4⟩ := hE.out w4 HB4; have g4_2 := r4hq1.2 2 (by simp); have g4_3 := r4hq1.2 3 (by simp); have g4_7 := r4hq1.2 7 (by simp); have g4_8 := r4hq1.2 8 (by simp); simp only [cqs, cqz] at g4_2 g4_3 g4_7 g4_8) | (go_at_call 23; (with_reducible refine (HC_x.out w4 hqt4).mono ?_); rintro e95 w5 ⟨rfl, hb5⟩; have HB5 := bt HB4 hb5; obtain ⟨r5hq1, hqt5⟩ := hE.out w5 HB5; have g5_2 := r5hq1.2 2 (by simp); have g5_7 := r5hq1.2 7 (by simp); have g5_8 := r5hq1.2 8 (by simp); simp only [cqs, cqz] at g5_2 g5_7 g5_8) | (go_at_call 98; (with_reducible refine (HC_i.out w5 hqt5).mono ?_); rintro e96 w6 ⟨rfl, hb6⟩; have HB6 := bt HB5 hb6; obtain ⟨r6hq1, hqt6⟩ := hE.out w6 HB6; have g6_7 := r6hq1.2 7 (by simp); have g6_8 := r6hq1.2 8 (by simp); simp only [cqs, cqz] at g6_7 g6_8) | (go_at_call 19; (with_reducible refine (HC_f.out w6 hqt6).mono ?_); rintro e97 w7 ⟨rfl, hb7⟩; have HB7 := bt HB6 hb7; obtain ⟨r7hq1, hqt7⟩ := hE.out w7 HB7; have g7_8 := r7hq1.2 8 (by simp); simp only [cqs, cqz] at g7_8) | (go_at_call 24; (with_reducible refine (HC_p.out w7 hqt7).mono ?_); rintro e98 w8 ⟨rfl, hb8⟩; have HB8 := bt HB7 hb8; obtain ⟨r8hq1, hqt8⟩ := hE.out w8 HB8))
                      go_ret
                      exact ⟨ret_bool hfin.out.symm, hqt8⟩
                  · have hfin : Hid (dec (ObjR ⟨x_name, x_title, x_inn, x_text, true, x_words, x_adjs, x_flags, x_props, x_exits⟩) = false) := dec_false (fun h => h_f h.2.2.2.2.2.2.2.2.1)
                    simp only [dec_true h_w] at hc_w
                    have HC_w := Lib.hid hc_w
                    simp only [dec_true h_a] at hc_a
                    have HC_a := Lib.hid hc_a
                    simp only [dec_true h_n] at hc_n
                    have HC_n := Lib.hid hc_n
                    simp only [dec_true h_t] at hc_t
                    have HC_t := Lib.hid hc_t
                    simp only [dec_true h_x] at hc_x
                    have HC_x := Lib.hid hc_x
                    simp only [dec_true h_i] at hc_i
                    have HC_i := Lib.hid hc_i
                    simp only [dec_false h_f] at hc_f
                    have HC_f := Lib.hid hc_f
                    have e0 : x_inn.toList.isEmpty = true := emp_t h_e
                    clear hc_w hc_a hc_n hc_t hc_x hc_i hc_f hc_p hc_E ka5 ka6 ka7 ka8 ka9 z_name z_title z_inn z_text hF hm h_e h_w h_a h_n h_t h_x h_i h_f
                    go_enter Tryz.func27, Tryz.ntmps27
                    go_upto_region 1 with fail
                    rw [HW1.out]
                    obtain ⟨hq1, hqt0⟩ := hE.out W1 (Below.refl _ _)
                    have HB0 : Below W1.heap.size W1 W1 := Below.refl _ _
                    have g0 := hq1.2 0 (by simp)
                    have g1 := hq1.2 1 (by simp)
                    have g2 := hq1.2 2 (by simp)
                    have g3 := hq1.2 3 (by simp)
                    have g4 := hq1.2 4 (by simp)
                    have g5 := hq1.2 5 (by simp)
                    have g6 := hq1.2 6 (by simp)
                    have g7 := hq1.2 7 (by simp)
                    simp only [cqs, cqz] at g0 g1 g2 g3 g4 g5 g6 g7
                    go_wp2_with (first | (go_at_call 19; (with_reducible refine (HC_w.out W1 hqt0).mono ?_); rintro e91 w1 ⟨rfl, hb1⟩; have HB1 := bt HB0 hb1; obtain ⟨r1hq1, hqt1⟩ := hE.out w1 HB1; have g1_0 := r1hq1.2 0 (by simp); have g1_1 := r1hq1.2 1 (by simp); have g1_2 := r1hq1.2 2 (by simp); have g1_3 := r1hq1.2 3 (by simp); have g1_6 := r1hq1.2 6 (by simp); have g1_7 := r1hq1.2 7 (by simp); simp only [cqs, cqz] at g1_0 g1_1 g1_2 g1_3 g1_6 g1_7) | (go_at_call 19; (with_reducible refine (HC_a.out w1 hqt1).mono ?_); rintro e92 w2 ⟨rfl, hb2⟩; have HB2 := bt HB1 hb2; obtain ⟨r2hq1, hqt2⟩ := hE.out w2 HB2; have g2_0 := r2hq1.2 0 (by simp); have g2_1 := r2hq1.2 1 (by simp); have g2_2 := r2hq1.2 2 (by simp); have g2_3 := r2hq1.2 3 (by simp); have g2_7 := r2hq1.2 7 (by simp); simp only [cqs, cqz] at g2_0 g2_1 g2_2 g2_3 g2_7) | (go_at_call 18; (with_reducible refine (HC_n.out w2 hqt2).mono ?_); rintro e93 w3 ⟨rfl, hb3⟩; have HB3 := bt HB2 hb3; obtain ⟨r3hq1, hqt3⟩ := hE.out w3 HB3; have g3_1 := r3hq1.2 1 (by simp); have g3_2 := r3hq1.2 2 (by simp); have g3_3 := r3hq1.2 3 (by simp); have g3_7 := r3hq1.2 7 (by simp); simp only [cqs, cqz] at g3_1 g3_2 g3_3 g3_7) | (go_at_call 23; (with_reducible refine (HC_t.out w3 hqt3).mono ?_); rintro e94 w4 ⟨rfl, hb4⟩; have HB4 := bt HB3 hb4; obtain ⟨r4hq1, hqt4⟩ := hE.out w4 HB4; have g4_2 := r4hq1.2 2 (by simp); have g4_3 := r4hq1.2 3 (by simp); have g4_7 := r4hq1.2 7 (by simp); simp only [cqs, cqz] at g4_2 g4_3 g4_7) | (go_at_call 23; (with_reducible refine (HC_x.out w4 hqt4).mono ?_); rintro e95 w5 ⟨rfl, hb5⟩; have HB5 := bt HB4 hb5; obtain ⟨r5hq1, hqt5⟩ := hE.out w5 HB5; have g5_2 := r5hq1.2 2 (by simp); have g5_7 := r5hq1.2 7 (by simp); simp only [cqs, cqz] at g5_2 g5_7) | (go_at_call 98; (with_reducible refine (HC_i.out w5 hqt5).mono ?_); rintro e96 w6 ⟨rfl, hb6⟩; have HB6 := bt HB5 hb6; obtain ⟨r6hq1, hqt6⟩ := hE.out w6 HB6; have g6_7 := r6hq1.2 7 (by simp); simp only [cqs, cqz] at g6_7) | (go_at_call 19; (with_reducible refine (HC_f.out w6 hqt6).mono ?_); rintro e97 w7 ⟨rfl, hb7⟩; have HB7 := bt HB6 hb7; obtain ⟨r7hq1, hqt7⟩ := hE.out w7 HB7))
                    go_ret
                    exact ⟨ret_bool hfin.out.symm, hqt7⟩
                · have hfin : Hid (dec (ObjR ⟨x_name, x_title, x_inn, x_text, true, x_words, x_adjs, x_flags, x_props, x_exits⟩) = false) := dec_false (fun h => h_i h.2.2.2.2.2.2.2.1)
                  simp only [dec_true h_w] at hc_w
                  have HC_w := Lib.hid hc_w
                  simp only [dec_true h_a] at hc_a
                  have HC_a := Lib.hid hc_a
                  simp only [dec_true h_n] at hc_n
                  have HC_n := Lib.hid hc_n
                  simp only [dec_true h_t] at hc_t
                  have HC_t := Lib.hid hc_t
                  simp only [dec_true h_x] at hc_x
                  have HC_x := Lib.hid hc_x
                  simp only [dec_false h_i] at hc_i
                  have HC_i := Lib.hid hc_i
                  have e0 : x_inn.toList.isEmpty = true := emp_t h_e
                  clear hc_w hc_a hc_n hc_t hc_x hc_i hc_f hc_p hc_E ka5 ka6 ka7 ka8 ka9 z_name z_title z_inn z_text hF hm h_e h_w h_a h_n h_t h_x h_i
                  go_enter Tryz.func27, Tryz.ntmps27
                  go_upto_region 1 with fail
                  rw [HW1.out]
                  obtain ⟨hq1, hqt0⟩ := hE.out W1 (Below.refl _ _)
                  have HB0 : Below W1.heap.size W1 W1 := Below.refl _ _
                  have g0 := hq1.2 0 (by simp)
                  have g1 := hq1.2 1 (by simp)
                  have g2 := hq1.2 2 (by simp)
                  have g3 := hq1.2 3 (by simp)
                  have g4 := hq1.2 4 (by simp)
                  have g5 := hq1.2 5 (by simp)
                  have g6 := hq1.2 6 (by simp)
                  simp only [cqs, cqz] at g0 g1 g2 g3 g4 g5 g6
                  go_wp2_with (first | (go_at_call 19; (with_reducible refine (HC_w.out W1 hqt0).mono ?_); rintro e91 w1 ⟨rfl, hb1⟩; have HB1 := bt HB0 hb1; obtain ⟨r1hq1, hqt1⟩ := hE.out w1 HB1; have g1_0 := r1hq1.2 0 (by simp); have g1_1 := r1hq1.2 1 (by simp); have g1_2 := r1hq1.2 2 (by simp); have g1_3 := r1hq1.2 3 (by simp); have g1_6 := r1hq1.2 6 (by simp); simp only [cqs, cqz] at g1_0 g1_1 g1_2 g1_3 g1_6) | (go_at_call 19; (with_reducible refine (HC_a.out w1 hqt1).mono ?_); rintro e92 w2 ⟨rfl, hb2⟩; have HB2 := bt HB1 hb2; obtain ⟨r2hq1, hqt2⟩ := hE.out w2 HB2; have g2_0 := r2hq1.2 0 (by simp); have g2_1 := r2hq1.2 1 (by simp); have g2_2 := r2hq1.2 2 (by simp); have g2_3 := r2hq1.2 3 (by simp); simp only [cqs, cqz] at g2_0 g2_1 g2_2 g2_3) | (go_at_call 18; (with_reducible refine (HC_n.out w2 hqt2).mono ?_); rintro e93 w3 ⟨rfl, hb3⟩; have HB3 := bt HB2 hb3; obtain ⟨r3hq1, hqt3⟩ := hE.out w3 HB3; have g3_1 := r3hq1.2 1 (by simp); have g3_2 := r3hq1.2 2 (by simp); have g3_3 := r3hq1.2 3 (by simp); simp only [cqs, cqz] at g3_1 g3_2 g3_3) | (go_at_call 23; (with_reducible refine (HC_t.out w3 hqt3).mono ?_); rintro e94 w4 ⟨rfl, hb4⟩; have HB4 := bt HB3 hb4; obtain ⟨r4hq1, hqt4⟩ := hE.out w4 HB4; have g4_2 := r4hq1.2 2 (by simp); have g4_3 := r4hq1.2 3 (by simp); simp only [cqs, cqz] at g4_2 g4_3) | (go_at_call 23; (with_reducible refine (HC_x.out w4 hqt4).mono ?_); rintro e95 w5 ⟨rfl, hb5⟩; have HB5 := bt HB4 hb5; obtain ⟨r5hq1, hqt5⟩ := hE.out w5 HB5; have g5_2 := r5hq1.2 2 (by simp); simp only [cqs, cqz] at g5_2) | (go_at_call 98; (with_reducible refine (HC_i.out w5 hqt5).mono ?_); rintro e96 w6 ⟨rfl, hb6⟩; have HB6 := bt HB5 hb6; obtain ⟨r6hq1, hqt6⟩ := hE.out w6 HB6))
                  go_ret
                  exact ⟨ret_bool hfin.out.symm, hqt6⟩
              · have hfin : Hid (dec (ObjR ⟨x_name, x_title, x_inn, x_text, true, x_words, x_adjs, x_flags, x_props, x_exits⟩) = false) := dec_false (fun h => h_x h.2.2.2.2.2.2.1)
                simp only [dec_true h_w] at hc_w
                have HC_w := Lib.hid hc_w
                simp only [dec_true h_a] at hc_a
                have HC_a := Lib.hid hc_a
                simp only [dec_true h_n] at hc_n
                have HC_n := Lib.hid hc_n
                simp only [dec_true h_t] at hc_t
                have HC_t := Lib.hid hc_t
                simp only [dec_false h_x] at hc_x
                have HC_x := Lib.hid hc_x
                have e0 : x_inn.toList.isEmpty = true := emp_t h_e
                clear hc_w hc_a hc_n hc_t hc_x hc_i hc_f hc_p hc_E ka5 ka6 ka7 ka8 ka9 z_name z_title z_inn z_text hF hm h_e h_w h_a h_n h_t h_x
                go_enter Tryz.func27, Tryz.ntmps27
                go_upto_region 1 with fail
                rw [HW1.out]
                obtain ⟨hq1, hqt0⟩ := hE.out W1 (Below.refl _ _)
                have HB0 : Below W1.heap.size W1 W1 := Below.refl _ _
                have g0 := hq1.2 0 (by simp)
                have g1 := hq1.2 1 (by simp)
                have g2 := hq1.2 2 (by simp)
                have g3 := hq1.2 3 (by simp)
                have g4 := hq1.2 4 (by simp)
                have g5 := hq1.2 5 (by simp)
                have g6 := hq1.2 6 (by simp)
                simp only [cqs, cqz] at g0 g1 g2 g3 g4 g5 g6
                go_wp2_with (first | (go_at_call 19; (with_reducible refine (HC_w.out W1 hqt0).mono ?_); rintro e91 w1 ⟨rfl, hb1⟩; have HB1 := bt HB0 hb1; obtain ⟨r1hq1, hqt1⟩ := hE.out w1 HB1; have g1_0 := r1hq1.2 0 (by simp); have g1_1 := r1hq1.2 1 (by simp); have g1_3 := r1hq1.2 3 (by simp); have g1_6 := r1hq1.2 6 (by simp); simp only [cqs, cqz] at g1_0 g1_1 g1_3 g1_6) | (go_at_call 19; (with_reducible refine (HC_a.out w1 hqt1).mono ?_); rintro e92 w2 ⟨rfl, hb2⟩; have HB2 := bt HB1 hb2; obtain ⟨r2hq1, hqt2⟩ := hE.out w2 HB2; have g2_0 := r2hq1.2 0 (by simp); have g2_1 := r2hq1.2 1 (by simp); have g2_3 := r2hq1.2 3 (by simp); simp only [cqs, cqz] at g2_0 g2_1 g2_3) | (go_at_call 18; (with_reducible refine (HC_n.out w2 hqt2).mono ?_); rintro e93 w3 ⟨rfl, hb3⟩; have HB3 := bt HB2 hb3; obtain ⟨r3hq1, hqt3⟩ := hE.out w3 HB3; have g3_1 := r3hq1.2 1 (by simp); have g3_3 := r3hq1.2 3 (by simp); simp only [cqs, cqz] at g3_1 g3_3) | (go_at_call 23; (with_reducible refine (HC_t.out w3 hqt3).mono ?_); rintro e94 w4 ⟨rfl, hb4⟩; have HB4 := bt HB3 hb4; obtain ⟨r4hq1, hqt4⟩ := hE.out w4 HB4; have g4_3 := r4hq1.2 3 (by simp); simp only [cqs, cqz] at g4_3) | (go_at_call 23; (with_reducible refine (HC_x.out w4 hqt4).mono ?_); rintro e95 w5 ⟨rfl, hb5⟩; have HB5 := bt HB4 hb5; obtain ⟨r5hq1, hqt5⟩ := hE.out w5 HB5))
                go_ret
                exact ⟨ret_bool hfin.out.symm, hqt5⟩
            · have hfin : Hid (dec (ObjR ⟨x_name, x_title, x_inn, x_text, true, x_words, x_adjs, x_flags, x_props, x_exits⟩) = false) := dec_false (fun h => h_t h.2.2.2.2.2.1)
              simp only [dec_true h_w] at hc_w
              have HC_w := Lib.hid hc_w
              simp only [dec_true h_a] at hc_a
              have HC_a := Lib.hid hc_a
              simp only [dec_true h_n] at hc_n
              have HC_n := Lib.hid hc_n
              simp only [dec_false h_t] at hc_t
              have HC_t := Lib.hid hc_t
              have e0 : x_inn.toList.isEmpty = true := emp_t h_e
              clear hc_w hc_a hc_n hc_t hc_x hc_i hc_f hc_p hc_E ka5 ka6 ka7 ka8 ka9 z_name z_title z_inn z_text hF hm h_e h_w h_a h_n h_t
              go_enter Tryz.func27, Tryz.ntmps27
              go_upto_region 1 with fail
              rw [HW1.out]
              obtain ⟨hq1, hqt0⟩ := hE.out W1 (Below.refl _ _)
              have HB0 : Below W1.heap.size W1 W1 := Below.refl _ _
              have g0 := hq1.2 0 (by simp)
              have g1 := hq1.2 1 (by simp)
              have g2 := hq1.2 2 (by simp)
              have g4 := hq1.2 4 (by simp)
              have g5 := hq1.2 5 (by simp)
              have g6 := hq1.2 6 (by simp)
              simp only [cqs, cqz] at g0 g1 g2 g4 g5 g6
              go_wp2_with (first | (go_at_call 19; (with_reducible refine (HC_w.out W1 hqt0).mono ?_); rintro e91 w1 ⟨rfl, hb1⟩; have HB1 := bt HB0 hb1; obtain ⟨r1hq1, hqt1⟩ := hE.out w1 HB1; have g1_0 := r1hq1.2 0 (by simp); have g1_1 := r1hq1.2 1 (by simp); have g1_6 := r1hq1.2 6 (by simp); simp only [cqs, cqz] at g1_0 g1_1 g1_6) | (go_at_call 19; (with_reducible refine (HC_a.out w1 hqt1).mono ?_); rintro e92 w2 ⟨rfl, hb2⟩; have HB2 := bt HB1 hb2; obtain ⟨r2hq1, hqt2⟩ := hE.out w2 HB2; have g2_0 := r2hq1.2 0 (by simp); have g2_1 := r2hq1.2 1 (by simp); simp only [cqs, cqz] at g2_0 g2_1) | (go_at_call 18; (with_reducible refine (HC_n.out w2 hqt2).mono ?_); rintro e93 w3 ⟨rfl, hb3⟩; have HB3 := bt HB2 hb3; obtain ⟨r3hq1, hqt3⟩ := hE.out w3 HB3; have g3_1 := r3hq1.2 1 (by simp); simp only [cqs, cqz] at g3_1) | (go_at_call 23; (with_reducible refine (HC_t.out w3 hqt3).mono ?_); rintro e94 w4 ⟨rfl, hb4⟩; have HB4 := bt HB3 hb4; obtain ⟨r4hq1, hqt4⟩ := hE.out w4 HB4))
              go_ret
              exact ⟨ret_bool hfin.out.symm, hqt4⟩
          · have hfin : Hid (dec (ObjR ⟨x_name, x_title, x_inn, x_text, true, x_words, x_adjs, x_flags, x_props, x_exits⟩) = false) := dec_false (fun h => h_n h.2.2.2.2.1)
            simp only [dec_true h_w] at hc_w
            have HC_w := Lib.hid hc_w
            simp only [dec_true h_a] at hc_a
            have HC_a := Lib.hid hc_a
            simp only [dec_false h_n] at hc_n
            have HC_n := Lib.hid hc_n
            have e0 : x_inn.toList.isEmpty = true := emp_t h_e
            clear hc_w hc_a hc_n hc_t hc_x hc_i hc_f hc_p hc_E ka5 ka6 ka7 ka8 ka9 z_name z_title z_inn z_text hF hm h_e h_w h_a h_n
            go_enter Tryz.func27, Tryz.ntmps27
            go_upto_region 1 with fail
            rw [HW1.out]
            obtain ⟨hq1, hqt0⟩ := hE.out W1 (Below.refl _ _)
            have HB0 : Below W1.heap.size W1 W1 := Below.refl _ _
            have g0 := hq1.2 0 (by simp)
            have g2 := hq1.2 2 (by simp)
            have g4 := hq1.2 4 (by simp)
            have g5 := hq1.2 5 (by simp)
            have g6 := hq1.2 6 (by simp)
            simp only [cqs, cqz] at g0 g2 g4 g5 g6
            go_wp2_with (first | (go_at_call 19; (with_reducible refine (HC_w.out W1 hqt0).mono ?_); rintro e91 w1 ⟨rfl, hb1⟩; have HB1 := bt HB0 hb1; obtain ⟨r1hq1, hqt1⟩ := hE.out w1 HB1; have g1_0 := r1hq1.2 0 (by simp); have g1_6 := r1hq1.2 6 (by simp); simp only [cqs, cqz] at g1_0 g1_6) | (go_at_call 19; (with_reducible refine (HC_a.out w1 hqt1).mono ?_); rintro e92 w2 ⟨rfl, hb2⟩; have HB2 := bt HB1 hb2; obtain ⟨r2hq1, hqt2⟩ := hE.out w2 HB2; have g2_0 := r2hq1.2 0 (by simp); simp only [cqz] at g2_0) | (go_at_call 18; (with_reducible refine (HC_n.out w2 hqt2).mono ?_); rintro e93 w3 ⟨rfl, hb3⟩; have HB3 := bt HB2 hb3; obtain ⟨r3hq1, hqt3⟩ := hE.out w3 HB3))
            go_ret
            exact ⟨ret_bool hfin.out.symm, hqt3⟩
        · by_cases h_n : IsNm x_name
          · by_cases h_t : IsText x_title
            · by_cases h_x : IsText x_text
              · by_cases h_i : MaybeR x_inn
                · have hfin : Hid (dec (ObjR ⟨x_name, x_title, x_inn, x_text, true, x_words, x_adjs, x_flags, x_props, x_exits⟩) = false) := dec_false (fun h => h_a h.2.2.2.1)
                  simp only [dec_true h_w] at hc_w
                  have HC_w := Lib.hid hc_w
                  simp only [dec_false h_a] at hc_a
                  have HC_a := Lib.hid hc_a
                  simp only [dec_true h_n] at hc_n
                  have HC_n := Lib.hid hc_n
                  simp only [dec_true h_t] at hc_t
                  have HC_t := Lib.hid hc_t
                  simp only [dec_true h_x] at hc_x
                  have HC_x := Lib.hid hc_x
                  simp only [dec_true h_i] at hc_i
                  have HC_i := Lib.hid hc_i
                  have e0 : x_inn.toList.isEmpty = true := emp_t h_e
                  clear hc_w hc_a hc_n hc_t hc_x hc_i hc_f hc_p hc_E ka5 ka6 ka7 ka8 ka9 z_name z_title z_inn z_text hF hm h_e h_w h_a h_n h_t h_x h_i
                  go_enter Tryz.func27, Tryz.ntmps27
                  go_upto_region 1 with fail
                  rw [HW1.out]
                  obtain ⟨hq1, hqt0⟩ := hE.out W1 (Below.refl _ _)
                  have HB0 : Below W1.heap.size W1 W1 := Below.refl _ _
                  have g0 := hq1.2 0 (by simp)
                  have g1 := hq1.2 1 (by simp)
                  have g2 := hq1.2 2 (by simp)
                  have g3 := hq1.2 3 (by simp)
                  have g4 := hq1.2 4 (by simp)
                  have g5 := hq1.2 5 (by simp)
                  have g6 := hq1.2 6 (by simp)
                  simp only [cqs, cqz] at g0 g1 g2 g3 g4 g5 g6
                  go_wp2_with (first | (go_at_call 19; (with_reducible refine (HC_w.out W1 hqt0).mono ?_); rintro e91 w1 ⟨rfl, hb1⟩; have HB1 := bt HB0 hb1; obtain ⟨r1hq1, hqt1⟩ := hE.out w1 HB1; have g1_0 := r1hq1.2 0 (by simp); have g1_1 := r1hq1.2 1 (by simp); have g1_2 := r1hq1.2 2 (by simp); have g1_3 := r1hq1.2 3 (by simp); have g1_6 := r1hq1.2 6 (by simp); simp only [cqs, cqz] at g1_0 g1_1 g1_2 g1_3 g1_6) | (go_at_call 19; (with_reducible refine (HC_a.out w1 hqt1).mono ?_); rintro e92 w2 ⟨rfl, hb2⟩; have HB2 := bt HB1 hb2; obtain ⟨r2hq1, hqt2⟩ := hE.out w2 HB2; have g2_0 := r2hq1.2 0 (by simp); have g2_1 := r2hq1.2 1 (by simp); have g2_2 := r2hq1.2 2 (by simp); have g2_3 := r2hq1.2 3 (by simp); simp only [cqs, cqz] at g2_0 g2_1 g2_2 g2_3) | (go_at_call 18; (with_reducible refine (HC_n.out w2 hqt2).mono ?_); rintro e93 w3 ⟨rfl, hb3⟩; have HB3 := bt HB2 hb3; obtain ⟨r3hq1, hqt3⟩ := hE.out w3 HB3; have g3_1 := r3hq1.2 1 (by simp); have g3_2 := r3hq1.2 2 (by simp); have g3_3 := r3hq1.2 3 (by simp); simp only [cqs, cqz] at g3_1 g3_2 g3_3) | (go_at_call 23; (with_reducible refine (HC_t.out w3 hqt3).mono ?_); rintro e94 w4 ⟨rfl, hb4⟩; have HB4 := bt HB3 hb4; obtain ⟨r4hq1, hqt4⟩ := hE.out w4 HB4; have g4_2 := r4hq1.2 2 (by simp); have g4_3 := r4hq1.2 3 (by simp); simp only [cqs, cqz] at g4_2 g4_3) | (go_at_call 23; (with_reducible refine (HC_x.out w4 hqt4).mono ?_); rintro e95 w5 ⟨rfl, hb5⟩; have HB5 := bt HB4 hb5; obtain ⟨r5hq1, hqt5⟩ := hE.out w5 HB5; have g5_2 := r5hq1.2 2 (by simp); simp only [cqs, cqz] at g5_2) | (go_at_call 98; (with_reducible refine (HC_i.out w5 hqt5).mono ?_); rintro e96 w6 ⟨rfl, hb6⟩; have HB6 := bt HB5 hb6; obtain ⟨r6hq1, hqt6⟩ := hE.out w6 HB6))
                  go_ret
                  exact ⟨ret_bool hfin.out.symm, hqt6⟩
                · have hfin : Hid (dec (ObjR ⟨x_name, x_title, x_inn, x_text, true, x_words, x_adjs, x_flags, x_props, x_exits⟩) = false) := dec_false (fun h => h_a h.2.2.2.1)
                  simp only [dec_true h_w] at hc_w
                  have HC_w := Lib.hid hc_w
                  simp only [dec_false h_a] at hc_a
                  have HC_a := Lib.hid hc_a
                  simp only [dec_true h_n] at hc_n
                  have HC_n := Lib.hid hc_n
                  simp only [dec_true h_t] at hc_t
                  have HC_t := Lib.hid hc_t
                  simp only [dec_true h_x] at hc_x
                  have HC_x := Lib.hid hc_x
                  simp only [dec_false h_i] at hc_i
                  have HC_i := Lib.hid hc_i
                  have e0 : x_inn.toList.isEmpty = true := emp_t h_e
                  clear hc_w hc_a hc_n hc_t hc_x hc_i hc_f hc_p hc_E ka5 ka6 ka7 ka8 ka9 z_name z_title z_inn z_text hF hm h_e h_w h_a h_n h_t h_x h_i
                  go_enter Tryz.func27, Tryz.ntmps27
                  go_upto_region 1 with fail
                  rw [HW1.out]
                  obtain ⟨hq1, hqt0⟩ := hE.out W1 (Below.refl _ _)
                  have HB0 : Below W1.heap.size W1 W1 := Below.refl _ _
                  have g0 := hq1.2 0 (by simp)
                  have g1 := hq1.2 1 (by simp)
                  have g2 := hq1.2 2 (by simp)
                  have g3 := hq1.2 3 (by simp)
                  have g4 := hq1.2 4 (by simp)
                  have g5 := hq1.2 5 (by simp)
                  have g6 := hq1.2 6 (by simp)
                  simp only [cqs, cqz] at g0 g1 g2 g3 g4 g5 g6
                  go_wp2_with (first | (go_at_call 19; (with_reducible refine (HC_w.out W1 hqt0).mono ?_); rintro e91 w1 ⟨rfl, hb1⟩; have HB1 := bt HB0 hb1; obtain ⟨r1hq1, hqt1⟩ := hE.out w1 HB1; have g1_0 := r1hq1.2 0 (by simp); have g1_1 := r1hq1.2 1 (by simp); have g1_2 := r1hq1.2 2 (by simp); have g1_3 := r1hq1.2 3 (by simp); have g1_6 := r1hq1.2 6 (by simp); simp only [cqs, cqz] at g1_0 g1_1 g1_2 g1_3 g1_6) | (go_at_call 19; (with_reducible refine (HC_a.out w1 hqt1).mono ?_); rintro e92 w2 ⟨rfl, hb2⟩; have HB2 := bt HB1 hb2; obtain ⟨r2hq1, hqt2⟩ := hE.out w2 HB2; have g2_0 := r2hq1.2 0 (by simp); have g2_1 := r2hq1.2 1 (by simp); have g2_2 := r2hq1.2 2 (by simp); have g2_3 := r2hq1.2 3 (by simp); simp only [cqs, cqz] at g2_0 g2_1 g2_2 g2_3) | (go_at_call 18; (with_reducible refine (HC_n.out w2 hqt2).mono ?_); rintro e93 w3 ⟨rfl, hb3⟩; have HB3 := bt HB2 hb3; obtain ⟨r3hq1, hqt3⟩ := hE.out w3 HB3; have g3_1 := r3hq1.2 1 (by simp); have g3_2 := r3hq1.2 2 (by simp); have g3_3 := r3hq1.2 3 (by simp); simp only [cqs, cqz] at g3_1 g3_2 g3_3) | (go_at_call 23; (with_reducible refine (HC_t.out w3 hqt3).mono ?_); rintro e94 w4 ⟨rfl, hb4⟩; have HB4 := bt HB3 hb4; obtain ⟨r4hq1, hqt4⟩ := hE.out w4 HB4; have g4_2 := r4hq1.2 2 (by simp); have g4_3 := r4hq1.2 3 (by simp); simp only [cqs, cqz] at g4_2 g4_3) | (go_at_call 23; (with_reducible refine (HC_x.out w4 hqt4).mono ?_); rintro e95 w5 ⟨rfl, hb5⟩; have HB5 := bt HB4 hb5; obtain ⟨r5hq1, hqt5⟩ := hE.out w5 HB5; have g5_2 := r5hq1.2 2 (by simp); simp only [cqs, cqz] at g5_2) | (go_at_call 98; (with_reducible refine (HC_i.out w5 hqt5).mono ?_); rintro e96 w6 ⟨rfl, hb6⟩; have HB6 := bt HB5 hb6; obtain ⟨r6hq1, hqt6⟩ := hE.out w6 HB6))
                  go_ret
                  exact ⟨ret_bool hfin.out.symm, hqt6⟩
              · have hfin : Hid (dec (ObjR ⟨x_name, x_title, x_inn, x_text, true, x_words, x_adjs, x_flags, x_props, x_exits⟩) = false) := dec_false (fun h => h_a h.2.2.2.1)
                simp only [dec_true h_w] at hc_w
                have HC_w := Lib.hid hc_w
                simp only [dec_false h_a] at hc_a
                have HC_a := Lib.hid hc_a
                simp only [dec_true h_n] at hc_n
                have HC_n := Lib.hid hc_n
                simp only [dec_true h_t] at hc_t
                have HC_t := Lib.hid hc_t
                simp only [dec_false h_x] at hc_x
                have HC_x := Lib.hid hc_x
                have e0 : x_inn.toList.isEmpty = true := emp_t h_e
                clear hc_w hc_a hc_n hc_t hc_x hc_i hc_f hc_p hc_E ka5 ka6 ka7 ka8 ka9 z_name z_title z_inn z_text hF hm h_e h_w h_a h_n h_t h_x
                go_enter Tryz.func27, Tryz.ntmps27
                go_upto_region 1 with fail
                rw [HW1.out]
                obtain ⟨hq1, hqt0⟩ := hE.out W1 (Below.refl _ _)
                have HB0 : Below W1.heap.size W1 W1 := Below.refl _ _
                have g0 := hq1.2 0 (by simp)
                have g1 := hq1.2 1 (by simp)
                have g2 := hq1.2 2 (by simp)
                have g3 := hq1.2 3 (by simp)
                have g4 := hq1.2 4 (by simp)
                have g5 := hq1.2 5 (by simp)
                have g6 := hq1.2 6 (by simp)
                simp only [cqs, cqz] at g0 g1 g2 g3 g4 g5 g6
                go_wp2_with (first | (go_at_call 19; (with_reducible refine (HC_w.out W1 hqt0).mono ?_); rintro e91 w1 ⟨rfl, hb1⟩; have HB1 := bt HB0 hb1; obtain ⟨r1hq1, hqt1⟩ := hE.out w1 HB1; have g1_0 := r1hq1.2 0 (by simp); have g1_1 := r1hq1.2 1 (by simp); have g1_3 := r1hq1.2 3 (by simp); have g1_6 := r1hq1.2 6 (by simp); simp only [cqs, cqz] at g1_0 g1_1 g1_3 g1_6) | (go_at_call 19; (with_reducible refine (HC_a.out w1 hqt1).mono ?_); rintro e92 w2 ⟨rfl, hb2⟩; have HB2 := bt HB1 hb2; obtain ⟨r2hq1, hqt2⟩ := hE.out w2 HB2; have g2_0 := r2hq1.2 0 (by simp); have g2_1 := r2hq1.2 1 (by simp); have g2_3 := r2hq1.2 3 (by simp); simp only [cqs, cqz] at g2_0 g2_1 g2_3) | (go_at_call 18; (with_reducible refine (HC_n.out w2 hqt2).mono ?_); rintro e93 w3 ⟨rfl, hb3⟩; have HB3 := bt HB2 hb3; obtain ⟨r3hq1, hqt3⟩ := hE.out w3 HB3; have g3_1 := r3hq1.2 1 (by simp); have g3_3 := r3hq1.2 3 (by simp); simp only [cqs, cqz] at g3_1 g3_3) | (go_at_call 23; (with_reducible refine (HC_t.out w3 hqt3).mono ?_); rintro e94 w4 ⟨rfl, hb4⟩; have HB4 := bt HB3 hb4; obtain ⟨r4hq1, hqt4⟩ := hE.out w4 HB4; have g4_3 := r4hq1.2 3 (by simp); simp only [cqs, cqz] at g4_3) | (go_at_call 23; (with_reducible refine (HC_x.out w4 hqt4).mono ?_); rintro e95 w5 ⟨rfl, hb5⟩; have HB5 := bt HB4 hb5; obtain ⟨r5hq1, hqt5⟩ := hE.out w5 HB5))
                go_ret
                exact ⟨ret_bool hfin.out.symm, hqt5⟩
            · have hfin : Hid (dec (ObjR ⟨x_name, x_title, x_inn, x_text, true, x_words, x_adjs, x_flags, x_props, x_exits⟩) = false) := dec_false (fun h => h_a h.2.2.2.1)
              simp only [dec_true h_w] at hc_w
              have HC_w := Lib.hid hc_w
              simp only [dec_false h_a] at hc_a
              have HC_a := Lib.hid hc_a
              simp only [dec_true h_n] at hc_n
              have HC_n := Lib.hid hc_n
              simp only [dec_false h_t] at hc_t
              have HC_t := Lib.hid hc_t
              have e0 : x_inn.toList.isEmpty = true := emp_t h_e
              clear hc_w hc_a hc_n hc_t hc_x hc_i hc_f hc_p hc_E ka5 ka6 ka7 ka8 ka9 z_name z_title z_inn z_text hF hm h_e h_w h_a h_n h_t
              go_enter Tryz.func27, Tryz.ntmps27
              go_upto_region 1 with fail
              rw [HW1.out]
              obtain ⟨hq1, hqt0⟩ := hE.out W1 (Below.refl _ _)
              have HB0 : Below W1.heap.size W1 W1 := Below.refl _ _
              have g0 := hq1.2 0 (by simp)
              have g1 := hq1.2 1 (by simp)
              have g2 := hq1.2 2 (by simp)
              have g4 := hq1.2 4 (by simp)
              have g5 := hq1.2 5 (by simp)
              have g6 := hq1.2 6 (by simp)
              simp only [cqs, cqz] at g0 g1 g2 g4 g5 g6
              go_wp2_with (first | (go_at_call 19; (with_reducible refine (HC_w.out W1 hqt0).mono ?_); rintro e91 w1 ⟨rfl, hb1⟩; have HB1 := bt HB0 hb1; obtain ⟨r1hq1, hqt1⟩ := hE.out w1 HB1; have g1_0 := r1hq1.2 0 (by simp); have g1_1 := r1hq1.2 1 (by simp); have g1_6 := r1hq1.2 6 (by simp); simp only [cqs, cqz] at g1_0 g1_1 g1_6) | (go_at_call 19; (with_reducible refine (HC_a.out w1 hqt1).mono ?_); rintro e92 w2 ⟨rfl, hb2⟩; have HB2 := bt HB1 hb2; obtain ⟨r2hq1, hqt2⟩ := hE.out w2 HB2; have g2_0 := r2hq1.2 0 (by simp); have g2_1 := r2hq1.2 1 (by simp); simp only [cqs, cqz] at g2_0 g2_1) | (go_at_call 18; (with_reducible refine (HC_n.out w2 hqt2).mono ?_); rintro e93 w3 ⟨rfl, hb3⟩; have HB3 := bt HB2 hb3; obtain ⟨r3hq1, hqt3⟩ := hE.out w3 HB3; have g3_1 := r3hq1.2 1 (by simp); simp only [cqs, cqz] at g3_1) | (go_at_call 23; (with_reducible refine (HC_t.out w3 hqt3).mono ?_); rintro e94 w4 ⟨rfl, hb4⟩; have HB4 := bt HB3 hb4; obtain ⟨r4hq1, hqt4⟩ := hE.out w4 HB4))
              go_ret
              exact ⟨ret_bool hfin.out.symm, hqt4⟩
          · have hfin : Hid (dec (ObjR ⟨x_name, x_title, x_inn, x_text, true, x_words, x_adjs, x_flags, x_props, x_exits⟩) = false) := dec_false (fun h => h_a h.2.2.2.1)
            simp only [dec_true h_w] at hc_w
            have HC_w := Lib.hid hc_w
            simp only [dec_false h_a] at hc_a
            have HC_a := Lib.hid hc_a
            simp only [dec_false h_n] at hc_n
            have HC_n := Lib.hid hc_n
            have e0 : x_inn.toList.isEmpty = true := emp_t h_e
            clear hc_w hc_a hc_n hc_t hc_x hc_i hc_f hc_p hc_E ka5 ka6 ka7 ka8 ka9 z_name z_title z_inn z_text hF hm h_e h_w h_a h_n
            go_enter Tryz.func27, Tryz.ntmps27
            go_upto_region 1 with fail
            rw [HW1.out]
            obtain ⟨hq1, hqt0⟩ := hE.out W1 (Below.refl _ _)
            have HB0 : Below W1.heap.size W1 W1 := Below.refl _ _
            have g0 := hq1.2 0 (by simp)
            have g2 := hq1.2 2 (by simp)
            have g4 := hq1.2 4 (by simp)
            have g5 := hq1.2 5 (by simp)
            have g6 := hq1.2 6 (by simp)
            simp only [cqs, cqz] at g0 g2 g4 g5 g6
            go_wp2_with (first | (go_at_call 19; (with_reducible refine (HC_w.out W1 hqt0).mono ?_); rintro e91 w1 ⟨rfl, hb1⟩; have HB1 := bt HB0 hb1; obtain ⟨r1hq1, hqt1⟩ := hE.out w1 HB1; have g1_0 := r1hq1.2 0 (by simp); have g1_6 := r1hq1.2 6 (by simp); simp only [cqs, cqz] at g1_0 g1_6) | (go_at_call 19; (with_reducible refine (HC_a.out w1 hqt1).mono ?_); rintro e92 w2 ⟨rfl, hb2⟩; have HB2 := bt HB1 hb2; obtain ⟨r2hq1, hqt2⟩ := hE.out w2 HB2; have g2_0 := r2hq1.2 0 (by simp); simp only [cqz] at g2_0) | (go_at_call 18; (with_reducible refine (HC_n.out w2 hqt2).mono ?_); rintro e93 w3 ⟨rfl, hb3⟩; have HB3 := bt HB2 hb3; obtain ⟨r3hq1, hqt3⟩ := hE.out w3 HB3))
            go_ret
            exact ⟨ret_bool hfin.out.symm, hqt3⟩
      · by_cases h_n : IsNm x_name
        · by_cases h_t : IsText x_title
          · by_cases h_x : IsText x_text
            · by_cases h_i : MaybeR x_inn
              · have hfin : Hid (dec (ObjR ⟨x_name, x_title, x_inn, x_text, true, x_words, x_adjs, x_flags, x_props, x_exits⟩) = false) := dec_false (fun h => h_w h.2.2.1)
                simp only [dec_false h_w] at hc_w
                have HC_w := Lib.hid hc_w
                simp only [dec_true h_n] at hc_n
                have HC_n := Lib.hid hc_n
                simp only [dec_true h_t] at hc_t
                have HC_t := Lib.hid hc_t
                simp only [dec_true h_x] at hc_x
                have HC_x := Lib.hid hc_x
                simp only [dec_true h_i] at hc_i
                have HC_i := Lib.hid hc_i
                have e0 : x_inn.toList.isEmpty = true := emp_t h_e
                clear hc_w hc_a hc_n hc_t hc_x hc_i hc_f hc_p hc_E ka5 ka6 ka7 ka8 ka9 z_name z_title z_inn z_text hF hm h_e h_w h_n h_t h_x h_i
                go_enter Tryz.func27, Tryz.ntmps27
                go_upto_region 1 with fail
                rw [HW1.out]
                obtain ⟨hq1, hqt0⟩ := hE.out W1 (Below.refl _ _)
                have HB0 : Below W1.heap.size W1 W1 := Below.refl _ _
                have g0 := hq1.2 0 (by simp)
                have g1 := hq1.2 1 (by simp)
                have g2 := hq1.2 2 (by simp)
                have g3 := hq1.2 3 (by simp)
                have g4 := hq1.2 4 (by simp)
                have g5 := hq1.2 5 (by simp)
                simp only [cqs, cqz] at g0 g1 g2 g3 g4 g5
                go_wp2_with (first | (go_at_call 19; (with_reducible refine (HC_w.out W1 hqt0).mono ?_); rintro e91 w1 ⟨rfl, hb1⟩; have HB1 := bt HB0 hb1; obtain ⟨r1hq1, hqt1⟩ := hE.out w1 HB1; have g1_0 := r1hq1.2 0 (by simp); have g1_1 := r1hq1.2 1 (by simp); have g1_2 := r1hq1.2 2 (by simp); have g1_3 := r1hq1.2 3 (by simp); simp only [cqs, cqz] at g1_0 g1_1 g1_2 g1_3) | (go_at_call 18; (with_reducible refine (HC_n.out w1 hqt1).mono ?_); rintro e92 w2 ⟨rfl, hb2⟩; have HB2 := bt HB1 hb2; obtain ⟨r2hq1, hqt2⟩ := hE.out w2 HB2; have g2_1 := r2hq1.2 1 (by simp); have g2_2 := r2hq1.2 2 (by simp); have g2_3 := r2hq1.2 3 (by simp); simp only [cqs, cqz] at g2_1 g2_2 g2_3) | (go_at_call 23; (with_reducible refine (HC_t.out w2 hqt2).mono ?_); rintro e93 w3 ⟨rfl, hb3⟩; have HB3 := bt HB2 hb3; obtain ⟨r3hq1, hqt3⟩ := hE.out w3 HB3; have g3_2 := r3hq1.2 2 (by simp); have g3_3 := r3hq1.2 3 (by simp); simp only [cqs, cqz] at g3_2 g3_3) | (go_at_call 23; (with_reducible refine (HC_x.out w3 hqt3).mono ?_); rintro e94 w4 ⟨rfl, hb4⟩; have HB4 := bt HB3 hb4; obtain ⟨r4hq1, hqt4⟩ := hE.out w4 HB4; have g4_2 := r4hq1.2 2 (by simp); simp only [cqs, cqz] at g4_2) | (go_at_call 98; (with_reducible refine (HC_i.out w4 hqt4).mono ?_); rintro e95 w5 ⟨rfl, hb5⟩; have HB5 := bt HB4 hb5; obtain ⟨r5hq1, hqt5⟩ := hE.out w5 HB5))
                go_ret
                exact ⟨ret_bool hfin.out.symm, hqt5⟩
              · have hfin : Hid (dec (ObjR ⟨x_name, x_title, x_inn, x_text, true, x_words, x_adjs, x_flags, x_props, x_exits⟩) = false) := dec_false (fun h => h_w h.2.2.1)
                simp only [dec_false h_w] at hc_w
                have HC_w := Lib.hid hc_w
                simp only [dec_true h_n] at hc_n
                have HC_n := Lib.hid hc_n
                simp only [dec_true h_t] at hc_t
                have HC_t := Lib.hid hc_t
                simp only [dec_true h_x] at hc_x
                have HC_x := Lib.hid hc_x
                simp only [dec_false h_i] at hc_i
                have HC_i := Lib.hid hc_i
                have e0 : x_inn.toList.isEmpty = true := emp_t h_e
                clear hc_w hc_a hc_n hc_t hc_x hc_i hc_f hc_p hc_E ka5 ka6 ka7 ka8 ka9 z_name z_title z_inn z_text hF hm h_e h_w h_n h_t h_x h_i
                go_enter Tryz.func27, Tryz.ntmps27
                go_upto_region 1 with fail
                rw [HW1.out]
                obtain ⟨hq1, hqt0⟩ := hE.out W1 (Below.refl _ _)
                have HB0 : Below W1.heap.size W1 W1 := Below.refl _ _
                have g0 := hq1.2 0 (by simp)
                have g1 := hq1.2 1 (by simp)
                have g2 := hq1.2 2 (by simp)
                have g3 := hq1.2 3 (by simp)
                have g4 := hq1.2 4 (by simp)
                have g5 := hq1.2 5 (by simp)
                simp only [cqs, cqz] at g0 g1 g2 g3 g4 g5
                go_wp2_with (first | (go_at_call 19; (with_reducible refine (HC_w.out W1 hqt0).mono ?_); rintro e91 w1 ⟨rfl, hb1⟩; have HB1 := bt HB0 hb1; obtain ⟨r1hq1, hqt1⟩ := hE.out w1 HB1; have g1_0 := r1hq1.2 0 (by simp); have g1_1 := r1hq1.2 1 (by simp); have g1_2 := r1hq1.2 2 (by simp); have g1_3 := r1hq1.2 3 (by simp); simp only [cqs, cqz] at g1_0 g1_1 g1_2 g1_3) | (go_at_call 18; (with_reducible refine (HC_n.out w1 hqt1).mono ?_); rintro e92 w2 ⟨rfl, hb2⟩; have HB2 := bt HB1 hb2; obtain ⟨r2hq1, hqt2⟩ := hE.out w2 HB2; have g2_1 := r2hq1.2 1 (by simp); have g2_2 := r2hq1.2 2 (by simp); have g2_3 := r2hq1.2 3 (by simp); simp only [cqs, cqz] at g2_1 g2_2 g2_3) | (go_at_call 23; (with_reducible refine (HC_t.out w2 hqt2).mono ?_); rintro e93 w3 ⟨rfl, hb3⟩; have HB3 := bt HB2 hb3; obtain ⟨r3hq1, hqt3⟩ := hE.out w3 HB3; have g3_2 := r3hq1.2 2 (by simp); have g3_3 := r3hq1.2 3 (by simp); simp only [cqs, cqz] at g3_2 g3_3) | (go_at_call 23; (with_reducible refine (HC_x.out w3 hqt3).mono ?_); rintro e94 w4 ⟨rfl, hb4⟩; have HB4 := bt HB3 hb4; obtain ⟨r4hq1, hqt4⟩ := hE.out w4 HB4; have g4_2 := r4hq1.2 2 (by simp); simp only [cqs, cqz] at g4_2) | (go_at_call 98; (with_reducible refine (HC_i.out w4 hqt4).mono ?_); rintro e95 w5 ⟨rfl, hb5⟩; have HB5 := bt HB4 hb5; obtain ⟨r5hq1, hqt5⟩ := hE.out w5 HB5))
                go_ret
                exact ⟨ret_bool hfin.out.symm, hqt5⟩
            · have hfin : Hid (dec (ObjR ⟨x_name, x_title, x_inn, x_text, true, x_words, x_adjs, x_flags, x_props, x_exits⟩) = false) := dec_false (fun h => h_w h.2.2.1)
              simp only [dec_false h_w] at hc_w
              have HC_w := Lib.hid hc_w
              simp only [dec_true h_n] at hc_n
              have HC_n := Lib.hid hc_n
              simp only [dec_true h_t] at hc_t
              have HC_t := Lib.hid hc_t
              simp only [dec_false h_x] at hc_x
              have HC_x := Lib.hid hc_x
              have e0 : x_inn.toList.isEmpty = true := emp_t h_e
              clear hc_w hc_a hc_n hc_t hc_x hc_i hc_f hc_p hc_E ka5 ka6 ka7 ka8 ka9 z_name z_title z_inn z_text hF hm h_e h_w h_n h_t h_x
              go_enter Tryz.func27, Tryz.ntmps27
              go_upto_region 1 with fail
              rw [HW1.out]
              obtain ⟨hq1, hqt0⟩ := hE.out W1 (Below.refl _ _)
              have HB0 : Below W1.heap.size W1 W1 := Below.refl _ _
              have g0 := hq1.2 0 (by simp)
              have g1 := hq1.2 1 (by simp)
              have g2 := hq1.2 2 (by simp)
              have g3 := hq1.2 3 (by simp)
              have g4 := hq1.2 4 (by simp)
              have g5 := hq1.2 5 (by simp)
              simp only [cqs, cqz] at g0 g1 g2 g3 g4 g5
              go_wp2_with (first | (go_at_call 19; (with_reducible refine (HC_w.out W1 hqt0).mono ?_); rintro e91 w1 ⟨rfl, hb1⟩; have HB1 := bt HB0 hb1; obtain ⟨r1hq1, hqt1⟩ := hE.out w1 HB1; have g1_0 := r1hq1.2 0 (by simp); have g1_1 := r1hq1.2 1 (by simp); have g1_3 := r1hq1.2 3 (by simp); simp only [cqs, cqz] at g1_0 g1_1 g1_3) | (go_at_call 18; (with_reducible refine (HC_n.out w1 hqt1).mono ?_); rintro e92 w2 ⟨rfl, hb2⟩; have HB2 := bt HB1 hb2; obtain ⟨r2hq1, hqt2⟩ := hE.out w2 HB2; have g2_1 := r2hq1.2 1 (by simp); have g2_3 := r2hq1.2 3 (by simp); simp only [cqs, cqz] at g2_1 g2_3) | (go_at_call 23; (with_reducible refine (HC_t.out w2 hqt2).mono ?_); rintro e93 w3 ⟨rfl, hb3⟩; have HB3 := bt HB2 hb3; obtain ⟨r3hq1, hqt3⟩ := hE.out w3 HB3; have g3_3 := r3hq1.2 3 (by simp); simp only [cqs, cqz] at g3_3) | (go_at_call 23; (with_reducible refine (HC_x.out w3 hqt3).mono ?_); rintro e94 w4 ⟨rfl, hb4⟩; have HB4 := bt HB3 hb4; obtain ⟨r4hq1, hqt4⟩ := hE.out w4 HB4))
              go_ret
              exact ⟨ret_bool hfin.out.symm, hqt4⟩
          · have hfin : Hid (dec (ObjR ⟨x_name, x_title, x_inn, x_text, true, x_words, x_adjs, x_flags, x_props, x_exits⟩) = false) := dec_false (fun h => h_w h.2.2.1)
            simp only [dec_false h_w] at hc_w
            have HC_w := Lib.hid hc_w
            simp only [dec_true h_n] at hc_n
            have HC_n := Lib.hid hc_n
            simp only [dec_false h_t] at hc_t
            have HC_t := Lib.hid hc_t
            have e0 : x_inn.toList.isEmpty = true := emp_t h_e
            clear hc_w hc_a hc_n hc_t hc_x hc_i hc_f hc_p hc_E ka5 ka6 ka7 ka8 ka9 z_name z_title z_inn z_text hF hm h_e h_w h_n h_t
            go_enter Tryz.func27, Tryz.ntmps27
            go_upto_region 1 with fail
            rw [HW1.out]
            obtain ⟨hq1, hqt0⟩ := hE.out W1 (Below.refl _ _)
            have HB0 : Below W1.heap.size W1 W1 := Below.refl _ _
            have g0 := hq1.2 0 (by simp)
            have g1 := hq1.2 1 (by simp)
            have g2 := hq1.2 2 (by simp)
            have g4 := hq1.2 4 (by simp)
            have g5 := hq1.2 5 (by simp)
            simp only [cqs, cqz] at g0 g1 g2 g4 g5
            go_wp2_with (first | (go_at_call 19; (with_reducible refine (HC_w.out W1 hqt0).mono ?_); rintro e91 w1 ⟨rfl, hb1⟩; have HB1 := bt HB0 hb1; obtain ⟨r1hq1, hqt1⟩ := hE.out w1 HB1; have g1_0 := r1hq1.2 0 (by simp); have g1_1 := r1hq1.2 1 (by simp); simp only [cqs, cqz] at g1_0 g1_1) | (go_at_call 18; (with_reducible refine (HC_n.out w1 hqt1).mono ?_); rintro e92 w2 ⟨rfl, hb2⟩; have HB2 := bt HB1 hb2; obtain ⟨r2hq1, hqt2⟩ := hE.out w2 HB2; have g2_1 := r2hq1.2 1 (by simp); simp only [cqs, cqz] at g2_1) | (go_at_call 23; (with_reducible refine (HC_t.out w2 hqt2).mono ?_); rintro e93 w3 ⟨rfl, hb3⟩; have HB3 := bt HB2 hb3; obtain ⟨r3hq1, hqt3⟩ := hE.out w3 HB3))
            go_ret
            exact ⟨ret_bool hfin.out.symm, hqt3⟩
        · have hfin : Hid (dec (ObjR ⟨x_name, x_title, x_inn, x_text, true, x_words, x_adjs, x_flags, x_props, x_exits⟩) = false) := dec_false (fun h => h_w h.2.2.1)
          simp only [dec_false h_w] at hc_w
          have HC_w := Lib.hid hc_w
          simp only [dec_false h_n] at hc_n
          have HC_n := Lib.hid hc_n
          have e0 : x_inn.toList.isEmpty = true := emp_t h_e
          clear hc_w hc_a hc_n hc_t hc_x hc_i hc_f hc_p hc_E ka5 ka6 ka7 ka8 ka9 z_name z_title z_inn z_text hF hm h_e h_w h_n
          go_enter Tryz.func27, Tryz.ntmps27
          go_upto_region 1 with fail
          rw [HW1.out]
          obtain ⟨hq1, hqt0⟩ := hE.out W1 (Below.refl _ _)
          have HB0 : Below W1.heap.size W1 W1 := Below.refl _ _
          have g0 := hq1.2 0 (by simp)
          have g2 := hq1.2 2 (by simp)
          have g4 := hq1.2 4 (by simp)
          have g5 := hq1.2 5 (by simp)
          simp only [cqs, cqz] at g0 g2 g4 g5
          go_wp2_with (first | (go_at_call 19; (with_reducible refine (HC_w.out W1 hqt0).mono ?_); rintro e91 w1 ⟨rfl, hb1⟩; have HB1 := bt HB0 hb1; obtain ⟨r1hq1, hqt1⟩ := hE.out w1 HB1; have g1_0 := r1hq1.2 0 (by simp); simp only [cqz] at g1_0) | (go_at_call 18; (with_reducible refine (HC_n.out w1 hqt1).mono ?_); rintro e92 w2 ⟨rfl, hb2⟩; have HB2 := bt HB1 hb2; obtain ⟨r2hq1, hqt2⟩ := hE.out w2 HB2))
          go_ret
          exact ⟨ret_bool hfin.out.symm, hqt2⟩
    · have hfin : Hid (dec (ObjR ⟨x_name, x_title, x_inn, x_text, true, x_words, x_adjs, x_flags, x_props, x_exits⟩) = false) := dec_false (fun h => h_e (h.1 rfl))
      have e0 : x_inn.toList.isEmpty = false := emp_f h_e
      clear hc_w hc_a hc_n hc_t hc_x hc_i hc_f hc_p hc_E ka5 ka6 ka7 ka8 ka9 z_name z_title z_inn z_text hF hm h_e
      go_enter Tryz.func27, Tryz.ntmps27
      go_upto_region 1 with fail
      rw [HW1.out]
      obtain ⟨hq1, hqt0⟩ := hE.out W1 (Below.refl _ _)
      have HB0 : Below W1.heap.size W1 W1 := Below.refl _ _
      have g2 := hq1.2 2 (by simp)
      have g4 := hq1.2 4 (by simp)
      simp only [cqs, cqz] at g2 g4
      go_wp2_with fail
      go_ret
      exact ⟨ret_bool hfin.out.symm, hqt0⟩
set_option maxRecDepth 100000 in
set_option maxHeartbeats 4000000 in
theorem riSlot_calls (F : Nat → Prop) (w : World) (x : SlotD) (cs : List Value) (hF : Inn F w) (_hm : MX w) (hx : Holds.slot.R F w x cs) :
    Calls Tryz.prog 102 #[.agg cs.toArray] w (Gives w (.bool (dec (SlotR x)))) := by
  obtain ⟨x_kind, x_words⟩ := x
  obtain ⟨z_kind, va1, rfl, ka1⟩ := hx
  simp only at ka1 z_kind
  obtain ⟨da1, fa1, rfl⟩ := ka1.shape
  obtain ⟨W1, hW1⟩ : ∃ W1, w.alloc (.cells #[.int .i64 x_kind, .slice da1 x_words.length fa1] 120) = W1 := ⟨_, rfl⟩
  have hs1 : W1.heap.size = w.heap.size + 1 := by rw [← hW1]; simp
  have hb1 : Below w.heap.size w W1 := by rw [← hW1]; exact (Below.refl _ _).alloc (Nat.le_refl _) _
  have hbx1 : BoxAt W1 w.heap.size [.int .i64 x_kind, .slice da1 x_words.length fa1] := by rw [← hW1]; exact BoxAt.new _ _ _
  have hE : Hid (∀ W, Below W1.heap.size W1 W → BoxAt W (w.heap.size) [.int .i64 x_kind, .slice da1 x_words.length fa1] ∧ Below w.heap.size w W) := fun W h2 => ⟨hbx1.below h2 (by omega), (bt hb1 h2)⟩
  have HZ0 := Lib.hid hs1
  have HW1 := Lib.hid hW1
  clear hW1 hs1 hb1 hbx1
  have hc_w := fun (W : World) (hW : Below w.heap.size w W) => allString_calls F W 23 #[] x_words 4 _ IsText (hF.below hW) (RdL.below ka1 hF hW (Nat.le_refl _)) (fun _ _ => by kernel_rfl) (fun x _ => ask_text x)
  by_cases h_l : (1 : Int) ≤ x_kind
  · by_cases h_h : x_kind ≤ (5 : Int)
    · by_cases h_k : x_kind = 1
      · by_cases h_z : 0 < x_words.length
        · by_cases h_w : ((x_words.length : Int) ≤ 4 ∧ ∀ x ∈ x_words, IsText x)
          · have hfin : Hid (dec (SlotR ⟨x_kind, x_words⟩) = true) := dec_true ⟨h_l, h_h, ⟨fun _ => h_z, fun _ => h_k⟩, h_w⟩
            simp only [dec_true h_w] at hc_w
            have HC_w := Lib.hid hc_w
            have e0 : decide (x_kind < (1 : Int)) = false := by simpa using h_l
            have e1 : decide ((5 : Int) < x_kind) = false := by simpa using h_h
            have e2 : (x_kind == 1) = true := by simpa using h_k
            have e3 : decide ((0 : Int) < (x_words.length : Int)) = true := decide_eq_true (by omega)
            have e4 : decide (0 < x_words.length) = true := decide_eq_true (by omega)
            clear hc_w ka1 z_kind hF _hm h_l h_h h_k h_z h_w
            go_enter Tryz.func102, Tryz.ntmps102
            go_upto_region 1 with fail
            rw [HW1.out]
            obtain ⟨hq1, hqt0⟩ := hE.out W1 (Below.refl _ _)
            have HB0 : Below W1.heap.size W1 W1 := Below.refl _ _
            have g0 := hq1.2 0 (by simp)
            have g1 := hq1.2 1 (by simp)
            simp only [cqs, cqz] at g0 g1
            go_wp2_with (go_at_call 19; (with_reducible refine (HC_w.out W1 hqt0).mono ?_); rintro e91 w1 ⟨rfl, hb1⟩; have HB1 := bt HB0 hb1; obtain ⟨r1hq1, hqt1⟩ := hE.out w1 HB1)
            go_ret
            exact ⟨ret_bool hfin.out.symm, hqt1⟩
          · have hfin : Hid (dec (SlotR ⟨x_kind, x_words⟩) = false) := dec_false (fun h => h_w h.2.2.2)
            simp only [dec_false h_w] at hc_w
            have HC_w := Lib.hid hc_w
            have e0 : decide (x_kind < (1 : Int)) = false := by simpa using h_l
            have e1 : decide ((5 : Int) < x_kind) = false := by simpa using h_h
            have e2 : (x_kind == 1) = true := by simpa using h_k
            have e3 : decide ((0 : Int) < (x_words.length : Int)) = true := decide_eq_true (by omega)
            have e4 : decide (0 < x_words.length) = true := decide_eq_true (by omega)
            clear hc_w ka1 z_kind hF _hm h_l h_h h_k h_z h_w
            go_enter Tryz.func102, Tryz.ntmps102
            go_upto_region 1 with fail
            rw [HW1.out]
            obtain ⟨hq1, hqt0⟩ := hE.out W1 (Below.refl _ _)
            have HB0 : Below W1.heap.size W1 W1 := Below.refl _ _
            have g0 := hq1.2 0 (by simp)
            have g1 := hq1.2 1 (by simp)
            simp only [cqs, cqz] at g0 g1
            go_wp2_with (go_at_call 19; (with_reducible refine (HC_w.out W1 hqt0).mono ?_); rintro e91 w1 ⟨rfl, hb1⟩; have HB1 := bt HB0 hb1; obtain ⟨r1hq1, hqt1⟩ := hE.out w1 HB1)
            go_ret
            exact ⟨ret_bool hfin.out.symm, hqt1⟩
        · have hfin : Hid (dec (SlotR ⟨x_kind, x_words⟩) = false) := dec_false (fun h => h_z (h.2.2.1.1 h_k))
          have e0 : decide (x_kind < (1 : Int)) = false := by simpa using h_l
          have e1 : decide ((5 : Int) < x_kind) = false := by simpa using h_h
          have e2 : (x_kind == 1) = true := by simpa using h_k
          have e3 : decide ((0 : Int) < (x_words.length : Int)) = false := decide_eq_false (by omega)
          have e4 : decide (0 < x_words.length) = false := decide_eq_false (by omega)
          clear hc_w ka1 z_kind hF _hm h_l h_h h_k h_z
          go_enter Tryz.func102, Tryz.ntmps102
          go_upto_region 1 with fail
          rw [HW1.out]
          obtain ⟨hq1, hqt0⟩ := hE.out W1 (Below.refl _ _)
          have HB0 : Below W1.heap.size W1 W1 := Below.refl _ _
          have g0 := hq1.2 0 (by simp)
          have g1 := hq1.2 1 (by simp)
          simp only [cqs, cqz] at g0 g1
          go_wp2_with fail
          go_ret
          exact ⟨ret_bool hfin.out.symm, hqt0⟩
      · by_cases h_z : 0 < x_words.length
        · have hfin : Hid (dec (SlotR ⟨x_kind, x_words⟩) = false) := dec_false (fun h => h_k (h.2.2.1.2 h_z))
          have e0 : decide (x_kind < (1 : Int)) = false := by simpa using h_l
          have e1 : decide ((5 : Int) < x_kind) = false := by simpa using h_h
          have e2 : (x_kind == 1) = false := by simpa using h_k
          have e3 : decide ((0 : Int) < (x_words.length : Int)) = true := decide_eq_true (by omega)
          have e4 : decide (0 < x_words.length) = true := decide_eq_true (by omega)
          clear hc_w ka1 z_kind hF _hm h_l h_h h_k h_z
          go_enter Tryz.func102, Tryz.ntmps102
          go_upto_region 1 with fail
          rw [HW1.out]
          obtain ⟨hq1, hqt0⟩ := hE.out W1 (Below.refl _ _)
          have HB0 : Below W1.heap.size W1 W1 := Below.refl _ _
          have g0 := hq1.2 0 (by simp)
          have g1 := hq1.2 1 (by simp)
          simp only [cqs, cqz] at g0 g1
          go_wp2_with fail
          go_ret
          exact ⟨ret_bool hfin.out.symm, hqt0⟩
        · by_cases h_w : ((x_words.length : Int) ≤ 4 ∧ ∀ x ∈ x_words, IsText x)
          · have hfin : Hid (dec (SlotR ⟨x_kind, x_words⟩) = true) := dec_true ⟨h_l, h_h, ⟨fun h => absurd h h_k, fun h => absurd h h_z⟩, h_w⟩
            simp only [dec_true h_w] at hc_w
            have HC_w := Lib.hid hc_w
            have e0 : decide (x_kind < (1 : Int)) = false := by simpa using h_l
            have e1 : decide ((5 : Int) < x_kind) = false := by simpa using h_h
            have e2 : (x_kind == 1) = false := by simpa using h_k
            have e3 : decide ((0 : Int) < (x_words.length : Int)) = false := decide_eq_false (by omega)
            have e4 : decide (0 < x_words.length) = false := decide_eq_false (by omega)
            clear hc_w ka1 z_kind hF _hm h_l h_h h_k h_z h_w
            go_enter Tryz.func102, Tryz.ntmps102
            go_upto_region 1 with fail
            rw [HW1.out]
            obtain ⟨hq1, hqt0⟩ := hE.out W1 (Below.refl _ _)
            have HB0 : Below W1.heap.size W1 W1 := Below.refl _ _
            have g0 := hq1.2 0 (by simp)
            have g1 := hq1.2 1 (by simp)
            simp only [cqs, cqz] at g0 g1
            go_wp2_with (go_at_call 19; (with_reducible refine (HC_w.out W1 hqt0).mono ?_); rintro e91 w1 ⟨rfl, hb1⟩; have HB1 := bt HB0 hb1; obtain ⟨r1hq1, hqt1⟩ := hE.out w1 HB1)
            go_ret
            exact ⟨ret_bool hfin.out.symm, hqt1⟩
          · have hfin : Hid (dec (SlotR ⟨x_kind, x_words⟩) = false) := dec_false (fun h => h_w h.2.2.2)
            simp only [dec_false h_w] at hc_w
            have HC_w := Lib.hid hc_w
            have e0 : decide (x_kind < (1 : Int)) = false := by simpa using h_l
            have e1 : decide ((5 : Int) < x_kind) = false := by simpa using h_h
            have e2 : (x_kind == 1) = false := by simpa using h_k
            have e3 : decide ((0 : Int) < (x_words.length : Int)) = false := decide_eq_false (by omega)
            have e4 : decide (0 < x_words.length) = false := decide_eq_false (by omega)
            clear hc_w ka1 z_kind hF _hm h_l h_h h_k h_z h_w
            go_enter Tryz.func102, Tryz.ntmps102
            go_upto_region 1 with fail
            rw [HW1.out]
            obtain ⟨hq1, hqt0⟩ := hE.out W1 (Below.refl _ _)
            have HB0 : Below W1.heap.size W1 W1 := Below.refl _ _
            have g0 := hq1.2 0 (by simp)
            have g1 := hq1.2 1 (by simp)
            simp only [cqs, cqz] at g0 g1
            go_wp2_with (go_at_call 19; (with_reducible refine (HC_w.out W1 hqt0).mono ?_); rintro e91 w1 ⟨rfl, hb1⟩; have HB1 := bt HB0 hb1; obtain ⟨r1hq1, hqt1⟩ := hE.out w1 HB1)
            go_ret
            exact ⟨ret_bool hfin.out.symm, hqt1⟩
    · have hfin : Hid (dec (SlotR ⟨x_kind, x_words⟩) = false) := dec_false (fun h => h_h h.2.1)
      have e0 : decide (x_kind < (1 : Int)) = false := by simpa using h_l
      have e1 : decide ((5 : Int) < x_kind) = true := decide_eq_true (by omega)
      clear hc_w ka1 z_kind hF _hm h_l h_h
      go_enter Tryz.func102, Tryz.ntmps102
      go_upto_region 1 with fail
      rw [HW1.out]
      obtain ⟨hq1, hqt0⟩ := hE.out W1 (Below.refl _ _)
      have HB0 : Below W1.heap.size W1 W1 := Below.refl _ _
      have g0 := hq1.2 0 (by simp)
      simp only [cqz] at g0
      go_wp2_with fail
      go_ret
      exact ⟨ret_bool hfin.out.symm, hqt0⟩
  · have hfin : Hid (dec (SlotR ⟨x_kind, x_words⟩) = false) := dec_false (fun h => h_l h.1)
    have e0 : decide (x_kind < (1 : Int)) = true := decide_eq_true (by omega)
    clear hc_w ka1 z_kind hF _hm h_l
    go_enter Tryz.func102, Tryz.ntmps102
    go_upto_region 1 with fail
    rw [HW1.out]
    obtain ⟨hq1, hqt0⟩ := hE.out W1 (Below.refl _ _)
    have HB0 : Below W1.heap.size W1 W1 := Below.refl _ _
    have g0 := hq1.2 0 (by simp)
    simp only [cqz] at g0
    go_wp2_with fail
    go_ret
    exact ⟨ret_bool hfin.out.symm, hqt0⟩
end Go.Proofs.YtmabeegoapcfpaaGreatDoor
