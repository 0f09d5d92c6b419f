/- The program's Right of verbs, rules, functions and sources. Printed by gen-show6.py. -/
import Derived.Test.YtmabeegoapcfpaaGreatDoorQRi
namespace Go.Proofs.YtmabeegoapcfpaaGreatDoor
open Go.RowKit
set_option maxRecDepth 100000 in
set_option maxHeartbeats 1000000 in
theorem riLine_calls (F : Nat → Prop) (w : World) (x : List SlotD) (cs : List Value) (q : Nat) (hF : Inn F w) (hm : MX w) (hq : w.cell? ⟨q, 0, none⟩ = some (.func (.func 102) #[] #[])) (hx : (Holds.sl Holds.slot 2).R F w x cs) :
    Calls Tryz.prog 103 (#[oneA cs] ++ #[.pointer (some ⟨q, 0, none⟩)]) w (Gives w (.bool (dec (LineR x)))) := by
  obtain ⟨v, rfl, k1⟩ := hx
  have hc := allSlot_calls F w 102 #[] x 8 v SlotR hF k1 (fun _ _ => by kernel_rfl) (fun x _ W' cs hW' hx => riSlot_calls F W' x cs (hF.below hW') (hm.below hW' (Nat.le_refl _)) hx)
  obtain ⟨a, cap, rfl⟩ := k1.shape
  show Calls Tryz.prog 103 #[.slice a x.length cap, .pointer (some ⟨q, 0, none⟩)] w _
  by_cases h : 0 < x.length
  · by_cases h2 : (x.length : Int) ≤ 8 ∧ ∀ z ∈ x, SlotR z
    · have hfin : Hid (dec (LineR x) = true) := dec_true ⟨h, h2⟩
      simp only [dec_true h2] at hc
      have e0 : decide ((0 : Int) < (x.length : Int)) = true := decide_eq_true (by omega)
      have e9 : decide (0 < x.length) = true := decide_eq_true (by omega)
      have HC := Lib.hid hc
      clear hc h h2 hF hm
      go_enter Tryz.func103, Tryz.ntmps103
      go_wp2_with (go_at_call 104; refine HC.out.mono ?_; rintro e w1 ⟨rfl, hb⟩)
      go_ret
      exact ⟨ret_bool hfin.out.symm, hb⟩
    · have hfin : Hid (dec (LineR x) = false) := dec_false (fun h => h2 h.2)
      simp only [dec_false h2] at hc
      have e0 : decide ((0 : Int) < (x.length : Int)) = true := decide_eq_true (by omega)
      have e9 : decide (0 < x.length) = true := decide_eq_true (by omega)
      have HC := Lib.hid hc
      clear hc h h2 hF hm
      go_enter Tryz.func103, Tryz.ntmps103
      go_wp2_with (go_at_call 104; refine HC.out.mono ?_; rintro e w1 ⟨rfl, hb⟩)
      go_ret
      exact ⟨ret_bool hfin.out.symm, hb⟩
  · have hfin : Hid (dec (LineR x) = false) := dec_false (fun h2 => h h2.1)
    have e0 : decide ((0 : Int) < (x.length : Int)) = false := decide_eq_false (by omega)
    have e9 : decide (0 < x.length) = false := decide_eq_false (by omega)
    clear hc h hF hm
    go_enter Tryz.func103, Tryz.ntmps103
    go_wp2_with fail
    go_ret
    exact ⟨ret_bool hfin.out.symm, Below.refl _ _⟩
set_option maxRecDepth 100000 in
set_option maxHeartbeats 4000000 in
theorem riVerb_calls (F : Nat → Prop) (w : World) (x : VerbD) (cs : List Value) (hF : Inn F w) (hm : MX w) (hx : Holds.verb.R F w x cs) :
    Calls Tryz.prog 29 #[.agg cs.toArray] w (Gives w (.bool (dec (VerbR x)))) := by
  obtain ⟨x_name, x_isMeta, x_lines⟩ := x
  obtain ⟨z_name, va2, rfl, ka2⟩ := hx
  simp only at ka2 z_name
  obtain ⟨da2, fa2, rfl⟩ := ka2.shape
  have hmf : ∀ (fn : Fn) (first cap : Array Value) (w : World), (Instr.makeFunc fn first cap).run Tryz.prog w = .ok (.func fn first cap) w := fun _ _ _ _ => rfl
  obtain ⟨W1, hW1⟩ : ∃ W1, w.alloc (.cells #[.string x_name, .bool x_isMeta, .slice da2 x_lines.length fa2] 60) = W1 := ⟨_, rfl⟩
  have hs1 : W1.heap.size = w.heap.size + 1 := by rw [← hW1]; simp
  have hb1 : Below w.heap.size w W1 := by rw [← hW1]; exact (Below.refl _ _).alloc (Nat.le_refl _) _
  have hbx1 : BoxAt W1 w.heap.size [.string x_name, .bool x_isMeta, .slice da2 x_lines.length fa2] := by rw [← hW1]; exact BoxAt.new _ _ _
  obtain ⟨W2, hW2⟩ : ∃ W2, W1.alloc (.cells #[.func (.func 102) #[] #[]] 121) = W2 := ⟨_, rfl⟩
  have hs2 : W2.heap.size = w.heap.size + 1 + 1 := by rw [← hW2]; simp; exact hs1
  have hb2 : Below W1.heap.size W1 W2 := by rw [← hW2]; exact (Below.refl _ _).alloc (Nat.le_refl _) _
  have hbx2 : BoxAt W2 W1.heap.size [.func (.func 102) #[] #[]] := by rw [← hW2]; exact BoxAt.new _ _ _
  rw [hs1] at hbx2
  have hE : Hid (∀ W, Below W2.heap.size W2 W → BoxAt W (w.heap.size) [.string x_name, .bool x_isMeta, .slice da2 x_lines.length fa2] ∧ BoxAt W (w.heap.size + 1) [.func (.func 102) #[] #[]] ∧ Below w.heap.size w W) := fun W h3 => ⟨hbx1.below (bt hb2 h3) (by omega), hbx2.below h3 (by omega), (hb1.trans ((bt hb2 h3).mono hb1.size))⟩
  have HZ0 := Lib.hid hs2
  have HW1 := Lib.hid hW1
  have HW2 := Lib.hid hW2
  clear hW1 hs1 hb1 hbx1 hW2 hs2 hb2 hbx2
  have hc_n := fun (W : World) (hW : Below w.heap.size w W) => (riName_calls x_name W z_name (hm.below hW (Nat.le_refl _)))
  have hc_L := fun (W : World) (hW : Below W2.heap.size W2 W) => allLine_calls F W 103 #[.pointer (some ⟨w.heap.size + 1, 0, none⟩)] x_lines 8 _ LineR (hF.below (hE.out W hW).2.2) (RdL.below ka2 hF (hE.out W hW).2.2 (Nat.le_refl _)) (fun _ _ => by kernel_rfl) (fun x _ W' cs hW' hx => riLine_calls F W' x cs _ ((hF.below (hE.out W hW).2.2).below hW') ((hm.below (hE.out W hW).2.2 (Nat.le_refl _)).below hW' (Nat.le_refl _)) ((hE.out W' (hW.trans (hW'.mono hW.size))).2.1.2 0 (by simp)) hx)
  by_cases h_n : IsNm x_name
  · by_cases h_z : 0 < x_lines.length
    · by_cases h_L : ((x_lines.length : Int) ≤ 8 ∧ ∀ x ∈ x_lines, LineR x)
      · have hfin : Hid (dec (VerbR ⟨x_name, x_isMeta, x_lines⟩) = true) := dec_true ⟨h_n, h_z, h_L⟩
        simp only [dec_true h_n] at hc_n
        have HC_n := Lib.hid hc_n
        simp only [dec_true h_L] at hc_L
        have HC_L := Lib.hid hc_L
        have e0 : decide ((0 : Int) < (x_lines.length : Int)) = true := decide_eq_true (by omega)
        have e1 : decide (0 < x_lines.length) = true := decide_eq_true (by omega)
        clear hc_n hc_L ka2 z_name hF hm h_n h_z h_L
        go_enter Tryz.func29, Tryz.ntmps29
        go_upto_region 2 with fail
        rw [HW1.out, HW2.out]
        obtain ⟨hq1, hq2, hqt0⟩ := hE.out W2 (Below.refl _ _)
        have HB0 : Below W2.heap.size W2 W2 := Below.refl _ _
        have g0 := hq1.2 0 (by simp)
        have g2 := hq1.2 2 (by simp)
        simp only [cqs, cqz] at g0 g2
        have gx := hq2.2 0 (by simp)
        simp only [cqz] at gx
        go_wp2_with (first | (go_at_call 18; (with_reducible refine (HC_n.out W2 hqt0).mono ?_); rintro e91 w1 ⟨rfl, hb1⟩; have HB1 := bt HB0 hb1; obtain ⟨r1hq1, r1hq2, hqt1⟩ := hE.out w1 HB1; have g1_2 := r1hq1.2 2 (by simp); simp only [cqs, cqz] at g1_2; have gx1 := r1hq2.2 0 (by simp); simp only [cqz] at gx1) | (go_at_call 105; (with_reducible refine (HC_L.out w1 HB1).mono ?_); rintro e92 w2 ⟨rfl, hb2⟩; have HB2 := bt HB1 hb2; obtain ⟨r2hq1, r2hq2, hqt2⟩ := hE.out w2 HB2; have gx2 := r2hq2.2 0 (by simp); simp only [cqz] at gx2))
        go_ret
        exact ⟨ret_bool hfin.out.symm, hqt2⟩
      · have hfin : Hid (dec (VerbR ⟨x_name, x_isMeta, x_lines⟩) = false) := dec_false (fun h => h_L h.2.2)
        simp only [dec_true h_n] at hc_n
        have HC_n := Lib.hid hc_n
        simp only [dec_false h_L] at hc_L
        have HC_L := Lib.hid hc_L
        have e0 : decide ((0 : Int) < (x_lines.length : Int)) = true := decide_eq_true (by omega)
        have e1 : decide (0 < x_lines.length) = true := decide_eq_true (by omega)
        clear hc_n hc_L ka2 z_name hF hm h_n h_z h_L
        go_enter Tryz.func29, Tryz.ntmps29
        go_upto_region 2 with fail
        rw [HW1.out, HW2.out]
        obtain ⟨hq1, hq2, hqt0⟩ := hE.out W2 (Below.refl _ _)
        have HB0 : Below W2.heap.size W2 W2 := Below.refl _ _
        have g0 := hq1.2 0 (by simp)
        have g2 := hq1.2 2 (by simp)
        simp only [cqs, cqz] at g0 g2
        have gx := hq2.2 0 (by simp)
        simp only [cqz] at gx
        go_wp2_with (first | (go_at_call 18; (with_reducible refine (HC_n.out W2 hqt0).mono ?_); rintro e91 w1 ⟨rfl, hb1⟩; have HB1 := bt HB0 hb1; obtain ⟨r1hq1, r1hq2, hqt1⟩ := hE.out w1 HB1; have g1_2 := r1hq1.2 2 (by simp); simp only [cqs, cqz] at g1_2; have gx1 := r1hq2.2 0 (by simp); simp only [cqz] at gx1) | (go_at_call 105; (with_reducible refine (HC_L.out w1 HB1).mono ?_); rintro e92 w2 ⟨rfl, hb2⟩; have HB2 := bt HB1 hb2; obtain ⟨r2hq1, r2hq2, hqt2⟩ := hE.out w2 HB2; have gx2 := r2hq2.2 0 (by simp); simp only [cqz] at gx2))
        go_ret
        exact ⟨ret_bool hfin.out.symm, hqt2⟩
    · have hfin : Hid (dec (VerbR ⟨x_name, x_isMeta, x_lines⟩) = false) := dec_false (fun h => h_z h.2.1)
      simp only [dec_true h_n] at hc_n
      have HC_n := Lib.hid hc_n
      have e0 : decide ((0 : Int) < (x_lines.length : Int)) = false := decide_eq_false (by omega)
      have e1 : decide (0 < x_lines.length) = false := decide_eq_false (by omega)
      clear hc_n hc_L ka2 z_name hF hm h_n h_z
      go_enter Tryz.func29, Tryz.ntmps29
      go_upto_region 2 with fail
      rw [HW1.out, HW2.out]
      obtain ⟨hq1, hq2, hqt0⟩ := hE.out W2 (Below.refl _ _)
      have HB0 : Below W2.heap.size W2 W2 := Below.refl _ _
      have g0 := hq1.2 0 (by simp)
      have g2 := hq1.2 2 (by simp)
      simp only [cqs, cqz] at g0 g2
      have gx := hq2.2 0 (by simp)
      simp only [cqz] at gx
      go_wp2_with (go_at_call 18; (with_reducible refine (HC_n.out W2 hqt0).mono ?_); rintro e91 w1 ⟨rfl, hb1⟩; have HB1 := bt HB0 hb1; obtain ⟨r1hq1, r1hq2, hqt1⟩ := hE.out w1 HB1; have g1_2 := r1hq1.2 2 (by simp); simp only [cqs, cqz] at g1_2; have gx1 := r1hq2.2 0 (by simp); simp only [cqz] at gx1)
      go_ret
      exact ⟨ret_bool hfin.out.symm, hqt1⟩
  · have hfin : Hid (dec (VerbR ⟨x_name, x_isMeta, x_lines⟩) = false) := dec_false (fun h => h_n h.1)
    simp only [dec_false h_n] at hc_n
    have HC_n := Lib.hid hc_n
    clear hc_n hc_L ka2 z_name hF hm h_n
    go_enter Tryz.func29, Tryz.ntmps29
    go_upto_region 2 with fail
    rw [HW1.out, HW2.out]
    obtain ⟨hq1, hq2, hqt0⟩ := hE.out W2 (Below.refl _ _)
    have HB0 : Below W2.heap.size W2 W2 := Below.refl _ _
    have g0 := hq1.2 0 (by simp)
    simp only [cqz] at g0
    have gx := hq2.2 0 (by simp)
    simp only [cqz] at gx
    go_wp2_with (go_at_call 18; (with_reducible refine (HC_n.out W2 hqt0).mono ?_); rintro e91 w1 ⟨rfl, hb1⟩; have HB1 := bt HB0 hb1; obtain ⟨r1hq1, r1hq2, hqt1⟩ := hE.out w1 HB1; have gx1 := r1hq2.2 0 (by simp); simp only [cqz] at gx1)
    go_ret
    exact ⟨ret_bool hfin.out.symm, hqt1⟩
set_option maxRecDepth 100000 in
set_option maxHeartbeats 4000000 in
theorem riRule_calls (F : Nat → Prop) (w : World) (x : RuleD) (cs : List Value) (hF : Inn F w) (hm : MX w) (hx : Holds.rule.R F w x cs) :
    Calls Tryz.prog 31 #[.agg cs.toArray] w (Gives w (.bool (dec (RuleR x)))) := by
  obtain ⟨x_verb, x_phase, x_noun, x_second, x_cond, x_body⟩ := x
  obtain ⟨z_verb, z_phase, z_noun, z_second, va4, va5, rfl, ka4, ka5⟩ := hx
  simp only at ka4 ka5 z_verb z_phase z_noun z_second
  obtain ⟨da4, fa4, rfl⟩ := ka4.shape
  obtain ⟨da5, fa5, rfl⟩ := ka5.shape
  obtain ⟨W1, hW1⟩ : ∃ W1, w.alloc (.cells #[.string x_verb, .int .i64 x_phase, .string x_noun, .string x_second, .slice da4 x_cond.length fa4, .slice da5 x_body.length fa5] 42) = W1 := ⟨_, rfl⟩
  have hs1 : W1.heap.size = w.heap.size + 1 := by rw [← hW1]; simp
  have hb1 : Below w.heap.size w W1 := by rw [← hW1]; exact (Below.refl _ _).alloc (Nat.le_refl _) _
  have hbx1 : BoxAt W1 w.heap.size [.string x_verb, .int .i64 x_phase, .string x_noun, .string x_second, .slice da4 x_cond.length fa4, .slice da5 x_body.length fa5] := by rw [← hW1]; exact BoxAt.new _ _ _
  have hE : Hid (∀ W, Below W1.heap.size W1 W → BoxAt W (w.heap.size) [.string x_verb, .int .i64 x_phase, .string x_noun, .string x_second, .slice da4 x_cond.length fa4, .slice da5 x_body.length fa5] ∧ Below w.heap.size w W) := fun W h2 => ⟨hbx1.below h2 (by omega), (bt hb1 h2)⟩
  have HZ0 := Lib.hid hs1
  have HW1 := Lib.hid hW1
  clear hW1 hs1 hb1 hbx1
  have hc_n := fun (W : World) (hW : Below w.heap.size w W) => (riName_calls x_verb W z_verb (hm.below hW (Nat.le_refl _)))
  have hc_o := fun (W : World) (hW : Below w.heap.size w W) => riMaybe_calls x_noun W z_noun (hm.below hW (Nat.le_refl _))
  have hc_s := fun (W : World) (hW : Below w.heap.size w W) => riMaybe_calls x_second W z_second (hm.below hW (Nat.le_refl _))
  have hc_w := fun (W : World) (hW : Below w.heap.size w W) => riWhen_calls F W x_cond _ (hF.below hW) (hm.below hW (Nat.le_refl _)) (Exs.below ka4 hF hW (Nat.le_refl _))
  have hc_b := fun (W : World) (hW : Below w.heap.size w W) => rightBlock_calls x_body F W _ (hF.below hW) (hm.below hW (Nat.le_refl _)) (Sts.below ka5 hF hW (Nat.le_refl _))
  by_cases h_n : IsNm x_verb
  · by_cases h_l : (1 : Int) ≤ x_phase
    · by_cases h_h : x_phase ≤ (3 : Int)
      · by_cases h_o : MaybeR x_noun
        · by_cases h_s : MaybeR x_second
          · by_cases h_w : WhenR x_cond
            · by_cases h_b : RightB x_body
              · have hfin : Hid (dec (RuleR ⟨x_verb, x_phase, x_noun, x_second, x_cond, x_body⟩) = true) := dec_true ⟨h_n, h_l, h_h, h_o, h_s, h_w, h_b⟩
                simp only [dec_true h_n] at hc_n
                have HC_n := Lib.hid hc_n
                simp only [dec_true h_o] at hc_o
                have HC_o := Lib.hid hc_o
                simp only [dec_true h_s] at hc_s
                have HC_s := Lib.hid hc_s
                simp only [dec_true h_w] at hc_w
                have HC_w := Lib.hid hc_w
                simp only [dec_true h_b] at hc_b
                have HC_b := Lib.hid hc_b
                have e0 : decide ((1 : Int) ≤ x_phase) = true := by simpa using h_l
                have e1 : decide (x_phase ≤ (3 : Int)) = true := by simpa using h_h
                clear hc_n hc_o hc_s hc_w hc_b ka4 ka5 z_verb z_phase z_noun z_second hF hm h_n h_l h_h h_o h_s h_w h_b
                go_enter Tryz.func31, Tryz.ntmps31
                go_upto_region 1 with fail
                rw [HW1.out]
                obtain ⟨hq1, hqt0⟩ := hE.out W1 (Below.refl _ _)
                have HB0 : Below W1.heap.size W1 W1 := Below.refl _ _
                have g0 := hq1.2 0 (by simp)
                have g1 := hq1.2 1 (by simp)
                have g2 := hq1.2 2 (by simp)
                have g3 := hq1.2 3 (by simp)
                have g4 := hq1.2 4 (by simp)
                have g5 := hq1.2 5 (by simp)
                simp only [cqs, cqz] at g0 g1 g2 g3 g4 g5
                go_wp2_with (first | (go_at_call 18; (with_reducible refine (HC_n.out W1 hqt0).mono ?_); rintro e91 w1 ⟨rfl, hb1⟩; have HB1 := bt HB0 hb1; obtain ⟨r1hq1, hqt1⟩ := hE.out w1 HB1; have g1_1 := r1hq1.2 1 (by simp); have g1_2 := r1hq1.2 2 (by simp); have g1_3 := r1hq1.2 3 (by simp); have g1_4 := r1hq1.2 4 (by simp); have g1_5 := r1hq1.2 5 (by simp); simp only [cqs, cqz] at g1_1 g1_2 g1_3 g1_4 g1_5) | (go_at_call 98; (with_reducible refine (HC_o.out w1 hqt1).mono ?_); rintro e92 w2 ⟨rfl, hb2⟩; have HB2 := bt HB1 hb2; obtain ⟨r2hq1, hqt2⟩ := hE.out w2 HB2; have g2_3 := r2hq1.2 3 (by simp); have g2_4 := r2hq1.2 4 (by simp); have g2_5 := r2hq1.2 5 (by simp); simp only [cqs, cqz] at g2_3 g2_4 g2_5) | (go_at_call 98; (with_reducible refine (HC_s.out w2 hqt2).mono ?_); rintro e93 w3 ⟨rfl, hb3⟩; have HB3 := bt HB2 hb3; obtain ⟨r3hq1, hqt3⟩ := hE.out w3 HB3; have g3_4 := r3hq1.2 4 (by simp); have g3_5 := r3hq1.2 5 (by simp); simp only [cqs, cqz] at g3_4 g3_5) | (go_at_call 97; (with_reducible refine (HC_w.out w3 hqt3).mono ?_); rintro e94 w4 ⟨rfl, hb4⟩; have HB4 := bt HB3 hb4; obtain ⟨r4hq1, hqt4⟩ := hE.out w4 HB4; have g4_5 := r4hq1.2 5 (by simp); simp only [cqs, cqz] at g4_5) | (go_at_call 20; (with_reducible refine (HC_b.out w4 hqt4).mono ?_); rintro e95 w5 ⟨rfl, hb5⟩; have HB5 := bt HB4 hb5; obtain ⟨r5hq1, hqt5⟩ := hE.out w5 HB5))
                go_ret
                exact ⟨ret_bool hfin.out.symm, hqt5⟩
              · have hfin : Hid (dec (RuleR ⟨x_verb, x_phase, x_noun, x_second, x_cond, x_body⟩) = false) := dec_false (fun h => h_b h.2.2.2.2.2.2)
                simp only [dec_true h_n] at hc_n
                have HC_n := Lib.hid hc_n
                simp only [dec_true h_o] at hc_o
                have HC_o := Lib.hid hc_o
                simp only [dec_true h_s] at hc_s
                have HC_s := Lib.hid hc_s
                simp only [dec_true h_w] at hc_w
                have HC_w := Lib.hid hc_w
                simp only [dec_false h_b] at hc_b
                have HC_b := Lib.hid hc_b
                have e0 : decide ((1 : Int) ≤ x_phase) = true := by simpa using h_l
                have e1 : decide (x_phase ≤ (3 : Int)) = true := by simpa using h_h
                clear hc_n hc_o hc_s hc_w hc_b ka4 ka5 z_verb z_phase z_noun z_second hF hm h_n h_l h_h h_o h_s h_w h_b
                go_enter Tryz.func31, Tryz.ntmps31
                go_upto_region 1 with fail
                rw [HW1.out]
                obtain ⟨hq1, hqt0⟩ := hE.out W1 (Below.refl _ _)
                have HB0 : Below W1.heap.size W1 W1 := Below.refl _ _
                have g0 := hq1.2 0 (by simp)
                have g1 := hq1.2 1 (by simp)
                have g2 := hq1.2 2 (by simp)
                have g3 := hq1.2 3 (by simp)
                have g4 := hq1.2 4 (by simp)
                have g5 := hq1.2 5 (by simp)
                simp only [cqs, cqz] at g0 g1 g2 g3 g4 g5
                go_wp2_with (first | (go_at_call 18; (with_reducible refine (HC_n.out W1 hqt0).mono ?_); rintro e91 w1 ⟨rfl, hb1⟩; have HB1 := bt HB0 hb1; obtain ⟨r1hq1, hqt1⟩ := hE.out w1 HB1; have g1_1 := r1hq1.2 1 (by simp); have g1_2 := r1hq1.2 2 (by simp); have g1_3 := r1hq1.2 3 (by simp); have g1_4 := r1hq1.2 4 (by simp); have g1_5 := r1hq1.2 5 (by simp); simp only [cqs, cqz] at g1_1 g1_2 g1_3 g1_4 g1_5) | (go_at_call 98; (with_reducible refine (HC_o.out w1 hqt1).mono ?_); rintro e92 w2 ⟨rfl, hb2⟩; have HB2 := bt HB1 hb2; obtain ⟨r2hq1, hqt2⟩ := hE.out w2 HB2; have g2_3 := r2hq1.2 3 (by simp); have g2_4 := r2hq1.2 4 (by simp); have g2_5 := r2hq1.2 5 (by simp); simp only [cqs, cqz] at g2_3 g2_4 g2_5) | (go_at_call 98; (with_reducible refine (HC_s.out w2 hqt2).mono ?_); rintro e93 w3 ⟨rfl, hb3⟩; have HB3 := bt HB2 hb3; obtain ⟨r3hq1, hqt3⟩ := hE.out w3 HB3; have g3_4 := r3hq1.2 4 (by simp); have g3_5 := r3hq1.2 5 (by simp); simp only [cqs, cqz] at g3_4 g3_5) | (go_at_call 97; (with_reducible refine (HC_w.out w3 hqt3).mono ?_); rintro e94 w4 ⟨rfl, hb4⟩; have HB4 := bt HB3 hb4; obtain ⟨r4hq1, hqt4⟩ := hE.out w4 HB4; have g4_5 := r4hq1.2 5 (by simp); simp only [cqs, cqz] at g4_5) | (go_at_call 20; (with_reducible refine (HC_b.out w4 hqt4).mono ?_); rintro e95 w5 ⟨rfl, hb5⟩; have HB5 := bt HB4 hb5; obtain ⟨r5hq1, hqt5⟩ := hE.out w5 HB5))
                go_ret
                exact ⟨ret_bool hfin.out.symm, hqt5⟩
            · have hfin : Hid (dec (RuleR ⟨x_verb, x_phase, x_noun, x_second, x_cond, x_body⟩) = false) := dec_false (fun h => h_w h.2.2.2.2.2.1)
              simp only [dec_true h_n] at hc_n
              have HC_n := Lib.hid hc_n
              simp only [dec_true h_o] at hc_o
              have HC_o := Lib.hid hc_o
              simp only [dec_true h_s] at hc_s
              have HC_s := Lib.hid hc_s
              simp only [dec_false h_w] at hc_w
              have HC_w := Lib.hid hc_w
              have e0 : decide ((1 : Int) ≤ x_phase) = true := by simpa using h_l
              have e1 : decide (x_phase ≤ (3 : Int)) = true := by simpa using h_h
              clear hc_n hc_o hc_s hc_w hc_b ka4 ka5 z_verb z_phase z_noun z_second hF hm h_n h_l h_h h_o h_s h_w
              go_enter Tryz.func31, Tryz.ntmps31
              go_upto_region 1 with fail
              rw [HW1.out]
              obtain ⟨hq1, hqt0⟩ := hE.out W1 (Below.refl _ _)
              have HB0 : Below W1.heap.size W1 W1 := Below.refl _ _
              have g0 := hq1.2 0 (by simp)
              have g1 := hq1.2 1 (by simp)
              have g2 := hq1.2 2 (by simp)
              have g3 := hq1.2 3 (by simp)
              have g4 := hq1.2 4 (by simp)
              simp only [cqs, cqz] at g0 g1 g2 g3 g4
              go_wp2_with (first | (go_at_call 18; (with_reducible refine (HC_n.out W1 hqt0).mono ?_); rintro e91 w1 ⟨rfl, hb1⟩; have HB1 := bt HB0 hb1; obtain ⟨r1hq1, hqt1⟩ := hE.out w1 HB1; have g1_1 := r1hq1.2 1 (by simp); have g1_2 := r1hq1.2 2 (by simp); have g1_3 := r1hq1.2 3 (by simp); have g1_4 := r1hq1.2 4 (by simp); simp only [cqs, cqz] at g1_1 g1_2 g1_3 g1_4) | (go_at_call 98; (with_reducible refine (HC_o.out w1 hqt1).mono ?_); rintro e92 w2 ⟨rfl, hb2⟩; have HB2 := bt HB1 hb2; obtain ⟨r2hq1, hqt2⟩ := hE.out w2 HB2; have g2_3 := r2hq1.2 3 (by simp); have g2_4 := r2hq1.2 4 (by simp); simp only [cqs, cqz] at g2_3 g2_4) | (go_at_call 98; (with_reducible refine (HC_s.out w2 hqt2).mono ?_); rintro e93 w3 ⟨rfl, hb3⟩; have HB3 := bt HB2 hb3; obtain ⟨r3hq1, hqt3⟩ := hE.out w3 HB3; have g3_4 := r3hq1.2 4 (by simp); simp only [cqs, cqz] at g3_4) | (go_at_call 97; (with_reducible refine (HC_w.out w3 hqt3).mono ?_); rintro e94 w4 ⟨rfl, hb4⟩; have HB4 := bt HB3 hb4; obtain ⟨r4hq1, hqt4⟩ := hE.out w4 HB4))
              go_ret
              exact ⟨ret_bool hfin.out.symm, hqt4⟩
          · have hfin : Hid (dec (RuleR ⟨x_verb, x_phase, x_noun, x_second, x_cond, x_body⟩) = false) := dec_false (fun h => h_s h.2.2.2.2.1)
            simp only [dec_true h_n] at hc_n
            have HC_n := Lib.hid hc_n
            simp only [dec_true h_o] at hc_o
            have HC_o := Lib.hid hc_o
            simp only [dec_false h_s] at hc_s
            have HC_s := Lib.hid hc_s
            have e0 : decide ((1 : Int) ≤ x_phase) = true := by simpa using h_l
            have e1 : decide (x_phase ≤ (3 : Int)) = true := by simpa using h_h
            clear hc_n hc_o hc_s hc_w hc_b ka4 ka5 z_verb z_phase z_noun z_second hF hm h_n h_l h_h h_o h_s
            go_enter Tryz.func31, Tryz.ntmps31
            go_upto_region 1 with fail
            rw [HW1.out]
            obtain ⟨hq1, hqt0⟩ := hE.out W1 (Below.refl _ _)
            have HB0 : Below W1.heap.size W1 W1 := Below.refl _ _
            have g0 := hq1.2 0 (by simp)
            have g1 := hq1.2 1 (by simp)
            have g2 := hq1.2 2 (by simp)
            have g3 := hq1.2 3 (by simp)
            simp only [cqs, cqz] at g0 g1 g2 g3
            go_wp2_with (first | (go_at_call 18; (with_reducible refine (HC_n.out W1 hqt0).mono ?_); rintro e91 w1 ⟨rfl, hb1⟩; have HB1 := bt HB0 hb1; obtain ⟨r1hq1, hqt1⟩ := hE.out w1 HB1; have g1_1 := r1hq1.2 1 (by simp); have g1_2 := r1hq1.2 2 (by simp); have g1_3 := r1hq1.2 3 (by simp); simp only [cqs, cqz] at g1_1 g1_2 g1_3) | (go_at_call 98; (with_reducible refine (HC_o.out w1 hqt1).mono ?_); rintro e92 w2 ⟨rfl, hb2⟩; have HB2 := bt HB1 hb2; obtain ⟨r2hq1, hqt2⟩ := hE.out w2 HB2; have g2_3 := r2hq1.2 3 (by simp); simp only [cqs, cqz] at g2_3) | (go_at_call 98; (with_reducible refine (HC_s.out w2 hqt2).mono ?_); rintro e93 w3 ⟨rfl, hb3⟩; have HB3 := bt HB2 hb3; obtain ⟨r3hq1, hqt3⟩ := hE.out w3 HB3))
            go_ret
            exact ⟨ret_bool hfin.out.symm, hqt3⟩
        · have hfin : Hid (dec (RuleR ⟨x_verb, x_phase, x_noun, x_second, x_cond, x_body⟩) = false) := dec_false (fun h => h_o h.2.2.2.1)
          simp only [dec_true h_n] at hc_n
          have HC_n := Lib.hid hc_n
          simp only [dec_false h_o] at hc_o
          have HC_o := Lib.hid hc_o
          have e0 : decide ((1 : Int) ≤ x_phase) = true := by simpa using h_l
          have e1 : decide (x_phase ≤ (3 : Int)) = true := by simpa using h_h
          clear hc_n hc_o hc_s hc_w hc_b ka4 ka5 z_verb z_phase z_noun z_second hF hm h_n h_l h_h h_o
          go_enter Tryz.func31, Tryz.ntmps31
          go_upto_region 1 with fail
          rw [HW1.out]
          obtain ⟨hq1, hqt0⟩ := hE.out W1 (Below.refl _ _)
          have HB0 : Below W1.heap.size W1 W1 := Below.refl _ _
          have g0 := hq1.2 0 (by simp)
          have g1 := hq1.2 1 (by simp)
          have g2 := hq1.2 2 (by simp)
          simp only [cqs, cqz] at g0 g1 g2
          go_wp2_with (first | (go_at_call 18; (with_reducible refine (HC_n.out W1 hqt0).mono ?_); rintro e91 w1 ⟨rfl, hb1⟩; have HB1 := bt HB0 hb1; obtain ⟨r1hq1, hqt1⟩ := hE.out w1 HB1; have g1_1 := r1hq1.2 1 (by simp); have g1_2 := r1hq1.2 2 (by simp); simp only [cqs, cqz] at g1_1 g1_2) | (go_at_call 98; (with_reducible refine (HC_o.out w1 hqt1).mono ?_); rintro e92 w2 ⟨rfl, hb2⟩; have HB2 := bt HB1 hb2; obtain ⟨r2hq1, hqt2⟩ := hE.out w2 HB2))
          go_ret
          exact ⟨ret_bool hfin.out.symm, hqt2⟩
      · have hfin : Hid (dec (RuleR ⟨x_verb, x_phase, x_noun, x_second, x_cond, x_body⟩) = false) := dec_false (fun h => h_h h.2.2.1)
        simp only [dec_true h_n] at hc_n
        have HC_n := Lib.hid hc_n
        have e0 : decide ((1 : Int) ≤ x_phase) = true := by simpa using h_l
        have e1 : decide (x_phase ≤ (3 : Int)) = false := by simpa using h_h
        clear hc_n hc_o hc_s hc_w hc_b ka4 ka5 z_verb z_phase z_noun z_second hF hm h_n h_l h_h
        go_enter Tryz.func31, Tryz.ntmps31
        go_upto_region 1 with fail
        rw [HW1.out]
        obtain ⟨hq1, hqt0⟩ := hE.out W1 (Below.refl _ _)
        have HB0 : Below W1.heap.size W1 W1 := Below.refl _ _
        have g0 := hq1.2 0 (by simp)
        have g1 := hq1.2 1 (by simp)
        simp only [cqs, cqz] at g0 g1
        go_wp2_with (go_at_call 18; (with_reducible refine (HC_n.out W1 hqt0).mono ?_); rintro e91 w1 ⟨rfl, hb1⟩; have HB1 := bt HB0 hb1; obtain ⟨r1hq1, hqt1⟩ := hE.out w1 HB1; have g1_1 := r1hq1.2 1 (by simp); simp only [cqs, cqz] at g1_1)
        go_ret
        exact ⟨ret_bool hfin.out.symm, hqt1⟩
    · have hfin : Hid (dec (RuleR ⟨x_verb, x_phase, x_noun, x_second, x_cond, x_body⟩) = false) := dec_false (fun h => h_l h.2.1)
      simp only [dec_true h_n] at hc_n
      have HC_n := Lib.hid hc_n
      have e0 : decide ((1 : Int) ≤ x_phase) = false := by simpa using h_l
      clear hc_n hc_o hc_s hc_w hc_b ka4 ka5 z_verb z_phase z_noun z_second hF hm h_n h_l
      go_enter Tryz.func31, Tryz.ntmps31
      go_upto_region 1 with fail
      rw [HW1.out]
      obtain ⟨hq1, hqt0⟩ := hE.out W1 (Below.refl _ _)
      have HB0 : Below W1.heap.size W1 W1 := Below.refl _ _
      have g0 := hq1.2 0 (by simp)
      have g1 := hq1.2 1 (by simp)
      simp only [cqs, cqz] at g0 g1
      go_wp2_with (go_at_call 18; (with_reducible refine (HC_n.out W1 hqt0).mono ?_); rintro e91 w1 ⟨rfl, hb1⟩; have HB1 := bt HB0 hb1; obtain ⟨r1hq1, hqt1⟩ := hE.out w1 HB1; have g1_1 := r1hq1.2 1 (by simp); simp only [cqs, cqz] at g1_1)
      go_ret
      exact ⟨ret_bool hfin.out.symm, hqt1⟩
  · have hfin : Hid (dec (RuleR ⟨x_verb, x_phase, x_noun, x_second, x_cond, x_body⟩) = false) := dec_false (fun h => h_n h.1)
    simp only [dec_false h_n] at hc_n
    have HC_n := Lib.hid hc_n
    clear hc_n hc_o hc_s hc_w hc_b ka4 ka5 z_verb z_phase z_noun z_second hF hm h_n
    go_enter Tryz.func31, Tryz.ntmps31
    go_upto_region 1 with fail
    rw [HW1.out]
    obtain ⟨hq1, hqt0⟩ := hE.out W1 (Below.refl _ _)
    have HB0 : Below W1.heap.size W1 W1 := Below.refl _ _
    have g0 := hq1.2 0 (by simp)
    simp only [cqz] at g0
    go_wp2_with (go_at_call 18; (with_reducible refine (HC_n.out W1 hqt0).mono ?_); rintro e91 w1 ⟨rfl, hb1⟩; have HB1 := bt HB0 hb1; obtain ⟨r1hq1, hqt1⟩ := hE.out w1 HB1)
    go_ret
    exact ⟨ret_bool hfin.out.symm, hqt1⟩
set_option maxRecDepth 100000 in
set_option maxHeartbeats 4000000 in
theorem riFun_calls (F : Nat → Prop) (w : World) (x : FuncD) (cs : List Value) (hF : Inn F w) (hm : MX w) (hx : Holds.fnc.R F w x cs) :
    Calls Tryz.prog 17 #[.agg cs.toArray] w (Gives w (.bool (dec ((FunR 8) x)))) := by
  obtain ⟨x_name, x_params, x_body⟩ := x
  obtain ⟨z_name, va1, va2, rfl, ka1, ka2⟩ := hx
  simp only at ka1 ka2 z_name
  obtain ⟨da1, fa1, rfl⟩ := ka1.shape
  obtain ⟨da2, fa2, rfl⟩ := ka2.shape
  obtain ⟨W1, hW1⟩ : ∃ W1, w.alloc (.cells #[.string x_name, .slice da1 x_params.length fa1, .slice da2 x_body.length fa2] 44) = W1 := ⟨_, rfl⟩
  have hs1 : W1.heap.size = w.heap.size + 1 := by rw [← hW1]; simp
  have hb1 : Below w.heap.size w W1 := by rw [← hW1]; exact (Below.refl _ _).alloc (Nat.le_refl _) _
  have hbx1 : BoxAt W1 w.heap.size [.string x_name, .slice da1 x_params.length fa1, .slice da2 x_body.length fa2] := by rw [← hW1]; exact BoxAt.new _ _ _
  have hE : Hid (∀ W, Below W1.heap.size W1 W → BoxAt W (w.heap.size) [.string x_name, .slice da1 x_params.length fa1, .slice da2 x_body.length fa2] ∧ Below w.heap.size w W) := fun W h2 => ⟨hbx1.below h2 (by omega), (bt hb1 h2)⟩
  have HZ0 := Lib.hid hs1
  have HW1 := Lib.hid hW1
  clear hW1 hs1 hb1 hbx1
  have hc_n := fun (W : World) (hW : Below w.heap.size w W) => (riName_calls x_name W z_name (hm.below hW (Nat.le_refl _)))
  have hc_p := fun (W : World) (hW : Below w.heap.size w W) => allString_calls F W 18 #[] x_params 8 _ IsNm (hF.below hW) (RdL.below ka1 hF hW (Nat.le_refl _)) (fun _ _ => by kernel_rfl) (fun x _ => ask_name x (hm.below hW (Nat.le_refl _)))
  have hc_b := fun (W : World) (hW : Below w.heap.size w W) => rightBlock_calls x_body F W _ (hF.below hW) (hm.below hW (Nat.le_refl _)) (Sts.below ka2 hF hW (Nat.le_refl _))
  by_cases h_n : IsNm x_name
  · by_cases h_p : ((x_params.length : Int) ≤ 8 ∧ ∀ x ∈ x_params, IsNm x)
    · by_cases h_b : RightB x_body
      · have hfin : Hid (dec ((FunR 8) ⟨x_name, x_params, x_body⟩) = true) := dec_true ⟨h_n, h_p, h_b⟩
        simp only [dec_true h_n] at hc_n
        have HC_n := Lib.hid hc_n
        simp only [dec_true h_p] at hc_p
        have HC_p := Lib.hid hc_p
        simp only [dec_true h_b] at hc_b
        have HC_b := Lib.hid hc_b
        clear hc_n hc_p hc_b ka1 ka2 z_name hF hm h_n h_p h_b
        go_enter Tryz.func17, Tryz.ntmps17
        go_upto_region 1 with fail
        rw [HW1.out]
        obtain ⟨hq1, hqt0⟩ := hE.out W1 (Below.refl _ _)
        have HB0 : Below W1.heap.size W1 W1 := Below.refl _ _
        have g0 := hq1.2 0 (by simp)
        have g1 := hq1.2 1 (by simp)
        have g2 := hq1.2 2 (by simp)
        simp only [cqs, cqz] at g0 g1 g2
        go_wp2_with (first | (go_at_call 18; (with_reducible refine (HC_n.out W1 hqt0).mono ?_); rintro e91 w1 ⟨rfl, hb1⟩; have HB1 := bt HB0 hb1; obtain ⟨r1hq1, hqt1⟩ := hE.out w1 HB1; have g1_1 := r1hq1.2 1 (by simp); have g1_2 := r1hq1.2 2 (by simp); simp only [cqs, cqz] at g1_1 g1_2) | (go_at_call 19; (with_reducible refine (HC_p.out w1 hqt1).mono ?_); rintro e92 w2 ⟨rfl, hb2⟩; have HB2 := bt HB1 hb2; obtain ⟨r2hq1, hqt2⟩ := hE.out w2 HB2; have g2_2 := r2hq1.2 2 (by simp); simp only [cqs, cqz] at g2_2) | (go_at_call 20; (with_reducible refine (HC_b.out w2 hqt2).mono ?_); rintro e93 w3 ⟨rfl, hb3⟩; have HB3 := bt HB2 hb3; obtain ⟨r3hq1, hqt3⟩ := hE.out w3 HB3))
        go_ret
        exact ⟨ret_bool hfin.out.symm, hqt3⟩
      · have hfin : Hid (dec ((FunR 8) ⟨x_name, x_params, x_body⟩) = false) := dec_false (fun h => h_b h.2.2)
        simp only [dec_true h_n] at hc_n
        have HC_n := Lib.hid hc_n
        simp only [dec_true h_p] at hc_p
        have HC_p := Lib.hid hc_p
        simp only [dec_false h_b] at hc_b
        have HC_b := Lib.hid hc_b
        clear hc_n hc_p hc_b ka1 ka2 z_name hF hm h_n h_p h_b
        go_enter Tryz.func17, Tryz.ntmps17
        go_upto_region 1 with fail
        rw [HW1.out]
        obtain ⟨hq1, hqt0⟩ := hE.out W1 (Below.refl _ _)
        have HB0 : Below W1.heap.size W1 W1 := Below.refl _ _
        have g0 := hq1.2 0 (by simp)
        have g1 := hq1.2 1 (by simp)
        have g2 := hq1.2 2 (by simp)
        simp only [cqs, cqz] at g0 g1 g2
        go_wp2_with (first | (go_at_call 18; (with_reducible refine (HC_n.out W1 hqt0).mono ?_); rintro e91 w1 ⟨rfl, hb1⟩; have HB1 := bt HB0 hb1; obtain ⟨r1hq1, hqt1⟩ := hE.out w1 HB1; have g1_1 := r1hq1.2 1 (by simp); have g1_2 := r1hq1.2 2 (by simp); simp only [cqs, cqz] at g1_1 g1_2) | (go_at_call 19; (with_reducible refine (HC_p.out w1 hqt1).mono ?_); rintro e92 w2 ⟨rfl, hb2⟩; have HB2 := bt HB1 hb2; obtain ⟨r2hq1, hqt2⟩ := hE.out w2 HB2; have g2_2 := r2hq1.2 2 (by simp); simp only [cqs, cqz] at g2_2) | (go_at_call 20; (with_reducible refine (HC_b.out w2 hqt2).mono ?_); rintro e93 w3 ⟨rfl, hb3⟩; have HB3 := bt HB2 hb3; obtain ⟨r3hq1, hqt3⟩ := hE.out w3 HB3))
        go_ret
        exact ⟨ret_bool hfin.out.symm, hqt3⟩
    · have hfin : Hid (dec ((FunR 8) ⟨x_name, x_params, x_body⟩) = false) := dec_false (fun h => h_p h.2.1)
      simp only [dec_true h_n] at hc_n
      have HC_n := Lib.hid hc_n
      simp only [dec_false h_p] at hc_p
      have HC_p := Lib.hid hc_p
      clear hc_n hc_p hc_b ka1 ka2 z_name hF hm h_n h_p
      go_enter Tryz.func17, Tryz.ntmps17
      go_upto_region 1 with fail
      rw [HW1.out]
      obtain ⟨hq1, hqt0⟩ := hE.out W1 (Below.refl _ _)
      have HB0 : Below W1.heap.size W1 W1 := Below.refl _ _
      have g0 := hq1.2 0 (by simp)
      have g1 := hq1.2 1 (by simp)
      simp only [cqs, cqz] at g0 g1
      go_wp2_with (first | (go_at_call 18; (with_reducible refine (HC_n.out W1 hqt0).mono ?_); rintro e91 w1 ⟨rfl, hb1⟩; have HB1 := bt HB0 hb1; obtain ⟨r1hq1, hqt1⟩ := hE.out w1 HB1; have g1_1 := r1hq1.2 1 (by simp); simp only [cqs, cqz] at g1_1) | (go_at_call 19; (with_reducible refine (HC_p.out w1 hqt1).mono ?_); rintro e92 w2 ⟨rfl, hb2⟩; have HB2 := bt HB1 hb2; obtain ⟨r2hq1, hqt2⟩ := hE.out w2 HB2))
      go_ret
      exact ⟨ret_bool hfin.out.symm, hqt2⟩
  · have hfin : Hid (dec ((FunR 8) ⟨x_name, x_params, x_body⟩) = false) := dec_false (fun h => h_n h.1)
    simp only [dec_false h_n] at hc_n
    have HC_n := Lib.hid hc_n
    clear hc_n hc_p hc_b ka1 ka2 z_name hF hm h_n
    go_enter Tryz.func17, Tryz.ntmps17
    go_upto_region 1 with fail
    rw [HW1.out]
    obtain ⟨hq1, hqt0⟩ := hE.out W1 (Below.refl _ _)
    have HB0 : Below W1.heap.size W1 W1 := Below.refl _ _
    have g0 := hq1.2 0 (by simp)
    simp only [cqz] at g0
    go_wp2_with (go_at_call 18; (with_reducible refine (HC_n.out W1 hqt0).mono ?_); rintro e91 w1 ⟨rfl, hb1⟩; have HB1 := bt HB0 hb1; obtain ⟨r1hq1, hqt1⟩ := hE.out w1 HB1)
    go_ret
    exact ⟨ret_bool hfin.out.symm, hqt1⟩
set_option maxRecDepth 100000 in
set_option maxHeartbeats 4000000 in
theorem riDae_calls (F : Nat → Prop) (w : World) (x : FuncD) (cs : List Value) (hF : Inn F w) (hm : MX w) (q : Nat) (hq : w.cell? ⟨q, 0, none⟩ = some (.func (.func 17) #[] #[]))  (hx : Holds.fnc.R F w x cs) :
    Calls Tryz.prog 21 (#[.agg cs.toArray] ++ #[.pointer (some ⟨q, 0, none⟩)]) w (Gives w (.bool (dec (DaeR x)))) := by
  have hx0 := hx
  obtain ⟨x_name, x_params, x_body⟩ := x
  obtain ⟨z_name, va1, va2, rfl, ka1, ka2⟩ := hx
  simp only at ka1 ka2 z_name
  obtain ⟨da1, fa1, rfl⟩ := ka1.shape
  obtain ⟨da2, fa2, rfl⟩ := ka2.shape
  obtain ⟨W1, hW1⟩ : ∃ W1, w.alloc (.cells #[.string x_name, .slice da1 x_params.length fa1, .slice da2 x_body.length fa2] 44) = W1 := ⟨_, rfl⟩
  have hs1 : W1.heap.size = w.heap.size + 1 := by rw [← hW1]; simp
  have hb1 : Below w.heap.size w W1 := by rw [← hW1]; exact (Below.refl _ _).alloc (Nat.le_refl _) _
  have hbx1 : BoxAt W1 w.heap.size [.string x_name, .slice da1 x_params.length fa1, .slice da2 x_body.length fa2] := by rw [← hW1]; exact BoxAt.new _ _ _
  have hE : Hid (∀ W, Below W1.heap.size W1 W → BoxAt W (w.heap.size) [.string x_name, .slice da1 x_params.length fa1, .slice da2 x_body.length fa2] ∧ Below w.heap.size w W) := fun W h2 => ⟨hbx1.below h2 (by omega), (bt hb1 h2)⟩
  have HZ0 := Lib.hid hs1
  have HW1 := Lib.hid hW1
  clear hW1 hs1 hb1 hbx1
  have hc_f := fun (W : World) (hW : Below w.heap.size w W) => riFun_calls F W ⟨x_name, x_params, x_body⟩ _ (hF.below hW) (hm.below hW (Nat.le_refl _)) (Holds.below Holds.fnc hx0 hF hW (Nat.le_refl _))
  by_cases h_z : x_params.length = 0
  · by_cases h_f : FunR 8 ⟨x_name, x_params, x_body⟩
    · have hfin : Hid (dec (DaeR ⟨x_name, x_params, x_body⟩) = true) := dec_true ⟨h_z, h_f⟩
      simp only [dec_true h_f] at hc_f
      have HC_f := Lib.hid hc_f
      have e0 : ((x_params.length : Int) == 0) = true := by simp; exact List.length_eq_zero_iff.1 h_z
      clear hc_f ka1 ka2 z_name hF hm hx0 h_z h_f
      go_enter Tryz.func21, Tryz.ntmps21
      go_upto_region 1 with fail
      rw [HW1.out]
      obtain ⟨hq1, hqt0⟩ := hE.out W1 (Below.refl _ _)
      have HB0 : Below W1.heap.size W1 W1 := Below.refl _ _
      have g0 := hq1.2 0 (by simp)
      have g1 := hq1.2 1 (by simp)
      have g2 := hq1.2 2 (by simp)
      simp only [cqs, cqz] at g0 g1 g2
      have hqa := (hqt0.cell (World.block_lt_of_cell? _ _ hq)).trans hq
      go_wp2_with (go_at_call 17; (with_reducible refine (HC_f.out W1 hqt0).mono ?_); rintro e91 w1 ⟨rfl, hb1⟩; have HB1 := bt HB0 hb1; obtain ⟨r1hq1, hqt1⟩ := hE.out w1 HB1)
      go_ret
      exact ⟨ret_bool hfin.out.symm, hqt1⟩
    · have hfin : Hid (dec (DaeR ⟨x_name, x_params, x_body⟩) = false) := dec_false (fun h => h_f h.2)
      simp only [dec_false h_f] at hc_f
      have HC_f := Lib.hid hc_f
      have e0 : ((x_params.length : Int) == 0) = true := by simp; exact List.length_eq_zero_iff.1 h_z
      clear hc_f ka1 ka2 z_name hF hm hx0 h_z h_f
      go_enter Tryz.func21, Tryz.ntmps21
      go_upto_region 1 with fail
      rw [HW1.out]
      obtain ⟨hq1, hqt0⟩ := hE.out W1 (Below.refl _ _)
      have HB0 : Below W1.heap.size W1 W1 := Below.refl _ _
      have g0 := hq1.2 0 (by simp)
      have g1 := hq1.2 1 (by simp)
      have g2 := hq1.2 2 (by simp)
      simp only [cqs, cqz] at g0 g1 g2
      have hqa := (hqt0.cell (World.block_lt_of_cell? _ _ hq)).trans hq
      go_wp2_with (go_at_call 17; (with_reducible refine (HC_f.out W1 hqt0).mono ?_); rintro e91 w1 ⟨rfl, hb1⟩; have HB1 := bt HB0 hb1; obtain ⟨r1hq1, hqt1⟩ := hE.out w1 HB1)
      go_ret
      exact ⟨ret_bool hfin.out.symm, hqt1⟩
  · have hfin : Hid (dec (DaeR ⟨x_name, x_params, x_body⟩) = false) := dec_false (fun h => h_z h.1)
    have e0 : ((x_params.length : Int) == 0) = false := by simp; exact fun e => h_z (by rw [e]; rfl)
    clear hc_f ka1 ka2 z_name hF hm hx0 h_z
    go_enter Tryz.func21, Tryz.ntmps21
    go_upto_region 1 with fail
    rw [HW1.out]
    obtain ⟨hq1, hqt0⟩ := hE.out W1 (Below.refl _ _)
    have HB0 : Below W1.heap.size W1 W1 := Below.refl _ _
    have g1 := hq1.2 1 (by simp)
    simp only [cqs, cqz] at g1
    have hqa := (hqt0.cell (World.block_lt_of_cell? _ _ hq)).trans hq
    go_wp2_with fail
    go_ret
    exact ⟨ret_bool hfin.out.symm, hqt0⟩
set_option maxHeartbeats 400000 in
theorem riNum_calls (n : Int) (w : World) : Calls Tryz.prog 22 #[.int .i64 n] w (Gives w (.bool (dec (NumR n)))) := by
  by_cases h_l : (0 : Int) ≤ n
  · by_cases h_h : n ≤ (32767 : Int)
    · have hfin : Hid (dec (NumR n) = true) := dec_true ⟨h_l, h_h⟩
      have e0 : decide ((0 : Int) ≤ n) = true := by simpa using h_l
      have e1 : decide (n ≤ (32767 : Int)) = true := by simpa using h_h
      clear h_l h_h
      go_enter Tryz.func22, Tryz.ntmps22
      have HB0 : Below w.heap.size w w := Below.refl _ _
      go_wp2_with fail
      go_ret
      exact ⟨ret_bool hfin.out.symm, HB0⟩
    · have hfin : Hid (dec (NumR n) = false) := dec_false (fun h => h_h h.2)
      have e0 : decide ((0 : Int) ≤ n) = true := by simpa using h_l
      have e1 : decide (n ≤ (32767 : Int)) = false := by simpa using h_h
      clear h_l h_h
      go_enter Tryz.func22, Tryz.ntmps22
      have HB0 : Below w.heap.size w w := Below.refl _ _
      go_wp2_with fail
      go_ret
      exact ⟨ret_bool hfin.out.symm, HB0⟩
  · have hfin : Hid (dec (NumR n) = false) := dec_false (fun h => h_l h.1)
    have e0 : decide ((0 : Int) ≤ n) = false := by simpa using h_l
    clear h_l
    go_enter Tryz.func22, Tryz.ntmps22
    have HB0 : Below w.heap.size w w := Below.refl _ _
    go_wp2_with fail
    go_ret
    exact ⟨ret_bool hfin.out.symm, HB0⟩
set_option maxRecDepth 100000 in
set_option maxHeartbeats 4000000 in
theorem rightS_calls (F : Nat → Prop) (w : World) (x : SrcD) (cs : List Value) (hF : Inn F w) (hm : MX w) (hx : Holds.src.R F w x cs) :
    Calls Tryz.prog 9 #[.agg cs.toArray] w (Gives w (.bool (dec (SrcR x)))) := by
  obtain ⟨x_title, x_author, x_start, x_release, x_most, x_flags, x_props, x_globals, x_objects, x_verbs, x_rules, x_funcs, x_daemons⟩ := x
  obtain ⟨z_title, z_author, z_start, z_release, z_most, va5, va6, va7, va8, va9, va10, va11, va12, rfl, ka5, ka6, ka7, ka8, ka9, ka10, ka11, ka12⟩ := hx
  simp only at ka5 ka6 ka7 ka8 ka9 ka10 ka11 ka12 z_title z_author z_start z_release z_most
  obtain ⟨da5, fa5, rfl⟩ := ka5.shape
  obtain ⟨da6, fa6, rfl⟩ := ka6.shape
  obtain ⟨da7, fa7, rfl⟩ := ka7.shape
  obtain ⟨da8, fa8, rfl⟩ := ka8.shape
  obtain ⟨da9, fa9, rfl⟩ := ka9.shape
  obtain ⟨da10, fa10, rfl⟩ := ka10.shape
  obtain ⟨da11, fa11, rfl⟩ := ka11.shape
  obtain ⟨da12, fa12, rfl⟩ := ka12.shape
  have hmf : ∀ (fn : Fn) (first cap : Array Value) (w : World), (Instr.makeFunc fn first cap).run Tryz.prog w = .ok (.func fn first cap) w := fun _ _ _ _ => rfl
  obtain ⟨W1, hW1⟩ : ∃ W1, w.alloc (.cells #[.string x_title, .string x_author, .string x_start, .int .i64 x_release, .int .i64 x_most, .slice da5 x_flags.length fa5, .slice da6 x_props.length fa6, .slice da7 x_globals.length fa7, .slice da8 x_objects.length fa8, .slice da9 x_verbs.length fa9, .slice da10 x_rules.length fa10, .slice da11 x_funcs.length fa11, .slice da12 x_daemons.length fa12] 29) = W1 := ⟨_, rfl⟩
  have hs1 : W1.heap.size = w.heap.size + 1 := by rw [← hW1]; simp
  have hb1 : Below w.heap.size w W1 := by rw [← hW1]; exact (Below.refl _ _).alloc (Nat.le_refl _) _
  have hbx1 : BoxAt W1 w.heap.size [.string x_title, .string x_author, .string x_start, .int .i64 x_release, .int .i64 x_most, .slice da5 x_flags.length fa5, .slice da6 x_props.length fa6, .slice da7 x_globals.length fa7, .slice da8 x_objects.length fa8, .slice da9 x_verbs.length fa9, .slice da10 x_rules.length fa10, .slice da11 x_funcs.length fa11, .slice da12 x_daemons.length fa12] := by rw [← hW1]; exact BoxAt.new _ _ _
  obtain ⟨W2, hW2⟩ : ∃ W2, W1.alloc (.cells #[.func (.func 17) #[] #[]] 48) = W2 := ⟨_, rfl⟩
  have hs2 : W2.heap.size = w.heap.size + 1 + 1 := by rw [← hW2]; simp; exact hs1
  have hb2 : Below W1.heap.size W1 W2 := by rw [← hW2]; exact (Below.refl _ _).alloc (Nat.le_refl _) _
  have hbx2 : BoxAt W2 W1.heap.size [.func (.func 17) #[] #[]] := by rw [← hW2]; exact BoxAt.new _ _ _
  rw [hs1] at hbx2
  have hE : Hid (∀ W, Below W2.heap.size W2 W → BoxAt W (w.heap.size) [.string x_title, .string x_author, .string x_start, .int .i64 x_release, .int .i64 x_most, .slice da5 x_flags.length fa5, .slice da6 x_props.length fa6, .slice da7 x_globals.length fa7, .slice da8 x_objects.length fa8, .slice da9 x_verbs.length fa9, .slice da10 x_rules.length fa10, .slice da11 x_funcs.length fa11, .slice da12 x_daemons.length fa12] ∧ BoxAt W (w.heap.size + 1) [.func (.func 17) #[] #[]] ∧ Below w.heap.size w W) := fun W h3 => ⟨hbx1.below (bt hb2 h3) (by omega), hbx2.below h3 (by omega), (hb1.trans ((bt hb2 h3).mono hb1.size))⟩
  have HZ0 := Lib.hid hs2
  have HW1 := Lib.hid hW1
  have HW2 := Lib.hid hW2
  clear hW1 hs1 hb1 hbx1 hW2 hs2 hb2 hbx2
  have hc_t := fun (W : World) (hW : Below w.heap.size w W) => Same0.gv (isText_calls x_title W z_title)
  have hc_a := fun (W : World) (hW : Below w.heap.size w W) => Same0.gv (isText_calls x_author W z_author)
  have hc_s := fun (W : World) (hW : Below w.heap.size w W) => (riName_calls x_start W z_start (hm.below hW (Nat.le_refl _)))
  have hc_r := fun (W : World) (hW : Below w.heap.size w W) => riNum_calls x_release W
  have hc_m := fun (W : World) (hW : Below w.heap.size w W) => riNum_calls x_most W
  have hc_f := fun (W : World) (hW : Below w.heap.size w W) => allString_calls F W 18 #[] x_flags 16 _ IsNm (hF.below hW) (RdL.below ka5 hF hW (Nat.le_refl _)) (fun _ _ => by kernel_rfl) (fun x _ => ask_name x (hm.below hW (Nat.le_refl _)))
  have hc_p := fun (W : World) (hW : Below w.heap.size w W) => allPair_calls F W 25 #[] x_props 16 _ PairR (hF.below hW) (RdL.below ka6 hF hW (Nat.le_refl _)) (fun _ _ => by kernel_rfl) (fun x _ W' cs hW' hx => riPair_calls F W' x cs ((hF.below hW).below hW') ((hm.below hW (Nat.le_refl _)).below hW' (Nat.le_refl _)) hx)
  have hc_g := fun (W : World) (hW : Below w.heap.size w W) => allPair_calls F W 25 #[] x_globals 64 _ PairR (hF.below hW) (RdL.below ka7 hF hW (Nat.le_refl _)) (fun _ _ => by kernel_rfl) (fun x _ W' cs hW' hx => riPair_calls F W' x cs ((hF.below hW).below hW') ((hm.below hW (Nat.le_refl _)).below hW' (Nat.le_refl _)) hx)
  have hc_o := fun (W : World) (hW : Below w.heap.size w W) => allObject_calls F W 27 #[] x_objects 126 _ ObjR (hF.below hW) (RdL.below ka8 hF hW (Nat.le_refl _)) (fun _ _ => by kernel_rfl) (fun x _ W' cs hW' hx => riObj_calls F W' x cs ((hF.below hW).below hW') ((hm.below hW (Nat.le_refl _)).below hW' (Nat.le_refl _)) hx)
  have hc_v := fun (W : World) (hW : Below w.heap.size w W) => allVerb_calls F W 29 #[] x_verbs 64 _ VerbR (hF.below hW) (RdL.below ka9 hF hW (Nat.le_refl _)) (fun _ _ => by kernel_rfl) (fun x _ W' cs hW' hx => riVerb_calls F W' x cs ((hF.below hW).below hW') ((hm.below hW (Nat.le_refl _)).below hW' (Nat.le_refl _)) hx)
  have hc_u := fun (W : World) (hW : Below w.heap.size w W) => allRule_calls F W 31 #[] x_rules 512 _ RuleR (hF.below hW) (RdL.below ka10 hF hW (Nat.le_refl _)) (fun _ _ => by kernel_rfl) (fun x _ W' cs hW' hx => riRule_calls F W' x cs ((hF.below hW).below hW') ((hm.below hW (Nat.le_refl _)).below hW' (Nat.le_refl _)) hx)
  have hc_F := fun (W : World) (hW : Below w.heap.size w W) => allFunc_calls F W 17 #[] x_funcs 64 _ (FunR 8) (hF.below hW) (RdL.below ka11 hF hW (Nat.le_refl _)) (fun _ _ => by kernel_rfl) (fun x _ W' cs hW' hx => riFun_calls F W' x cs ((hF.below hW).below hW') ((hm.below hW (Nat.le_refl _)).below hW' (Nat.le_refl _)) hx)
  have hc_D := fun (W : World) (hW : Below W2.heap.size W2 W) => allFunc_calls F W 21 #[.pointer (some ⟨w.heap.size + 1, 0, none⟩)] x_daemons 16 _ DaeR (hF.below (hE.out W hW).2.2) (RdL.below ka12 hF (hE.out W hW).2.2 (Nat.le_refl _)) (fun _ _ => by kernel_rfl) (fun x _ W' cs hW' hx => riDae_calls F W' x cs ((hF.below (hE.out W hW).2.2).below hW') ((hm.below (hE.out W hW).2.2 (Nat.le_refl _)).below hW' (Nat.le_refl _)) _ ((hE.out W' (hW.trans (hW'.mono hW.size))).2.1.2 0 (by simp)) hx)
  by_cases h_t : IsText x_title
  · by_cases h_a : IsText x_author
    · by_cases h_s : IsNm x_start
      · by_cases h_r : NumR x_release
        · by_cases h_m : NumR x_most
          · by_cases h_f : ((x_flags.length : Int) ≤ 16 ∧ ∀ x ∈ x_flags, IsNm x)
            · by_cases h_p : ((x_props.length : Int) ≤ 16 ∧ ∀ x ∈ x_props, PairR x)
              · by_cases h_g : ((x_globals.length : Int) ≤ 64 ∧ ∀ x ∈ x_globals, PairR x)
                · by_cases h_o : ((x_objects.length : Int) ≤ 126 ∧ ∀ x ∈ x_objects, ObjR x)
                  · by_cases h_v : ((x_verbs.length : Int) ≤ 64 ∧ ∀ x ∈ x_verbs, VerbR x)
                    · by_cases h_u : ((x_rules.length : Int) ≤ 512 ∧ ∀ x ∈ x_rules, RuleR x)
                      · by_cases h_F : ((x_funcs.length : Int) ≤ 64 ∧ ∀ x ∈ x_funcs, FunR 8 x)
                        · by_cases h_D : ((x_daemons.length : Int) ≤ 16 ∧ ∀ x ∈ x_daemons, DaeR x)
                          · have hfin : Hid (dec (SrcR ⟨x_title, x_author, x_start, x_release, x_most, x_flags, x_props, x_globals, x_objects, x_verbs, x_rules, x_funcs, x_daemons⟩) = true) := dec_true ⟨h_t, h_a, h_s, h_r, h_m, h_f, h_p, h_g, h_o, h_v, h_u, h_F, h_D⟩
                            simp only [dec_true h_t] at hc_t
                            have HC_t := Lib.hid hc_t
                            simp only [dec_true h_a] at hc_a
                            have HC_a := Lib.hid hc_a
                            simp only [dec_true h_s] at hc_s
                            have HC_s := Lib.hid hc_s
                            simp only [dec_true h_r] at hc_r
                            have HC_r := Lib.hid hc_r
                            simp only [dec_true h_m] at hc_m
                            have HC_m := Lib.hid hc_m
                            simp only [dec_true h_f] at hc_f
                            have HC_f := Lib.hid hc_f
                            simp only [dec_true h_p] at hc_p
                            have HC_p := Lib.hid hc_p
                            simp only [dec_true h_g] at hc_g
                            have HC_g := Lib.hid hc_g
                            simp only [dec_true h_o] at hc_o
                            have HC_o := Lib.hid hc_o
                            simp only [dec_true h_v] at hc_v
                            have HC_v := Lib.hid hc_v
                            simp only [dec_true h_u] at hc_u
                            have HC_u := Lib.hid hc_u
                            simp only [dec_true h_F] at hc_F
                            have HC_F := Lib.hid hc_F
                            simp only [dec_true h_D] at hc_D
                            have HC_D := Lib.hid hc_D
                            clear hc_t hc_a hc_s hc_r hc_m hc_f hc_p hc_g hc_o hc_v hc_u hc_F hc_D ka5 ka6 ka7 ka8 ka9 ka10 ka11 ka12 z_title z_author z_start z_release z_most hF hm h_t h_a h_s h_r h_m h_f h_p h_g h_o h_v h_u h_F h_D
                            go_enter Tryz.func9, Tryz.ntmps9
                            go_upto_region 3 with fail
                            rw [HW1.out, HW2.out]
                            obtain ⟨hq1, hq2, hqt0⟩ := hE.out W2 (Below.refl _ _)
                            have HB0 : Below W2.heap.size W2 W2 := Below.refl _ _
                            have g0 := hq1.2 0 (by simp)
                            have g1 := hq1.2 1 (by simp)
                            have g2 := hq1.2 2 (by simp)
                            have g3 := hq1.2 3 (by simp)
                            have g4 := hq1.2 4 (by simp)
                            have g5 := hq1.2 5 (by simp)
                            have g6 := hq1.2 6 (by simp)
                            have g7 := hq1.2 7 (by simp)
                            have g8 := hq1.2 8 (by simp)
                            have g9 := hq1.2 9 (by simp)
                            have g10 := hq1.2 10 (by simp)
                            have g11 := hq1.2 11 (by simp)
                            have g12 := hq1.2 12 (by simp)
                            simp only [cqs, cqz] at g0 g1 g2 g3 g4 g5 g6 g7 g8 g9 g10 g11 g12
                            have gx := hq2.2 0 (by simp)
                            simp only [cqz] at gx
                            go_wp2_with (first | (go_at_call 23; (with_reducible refine (HC_t.out W2 hqt0).mono ?_); rintro e91 w1 ⟨rfl, hb1⟩; have HB1 := bt HB0 hb1; obtain ⟨r1hq1, r1hq2, hqt1⟩ := hE.out w1 HB1; have g1_1 := r1hq1.2 1 (by simp); have g1_2 := r1hq1.2 2 (by simp); have g1_3 := r1hq1.2 3 (by simp); have g1_4 := r1hq1.2 4 (by simp); have g1_5 := r1hq1.2 5 (by simp); have g1_6 := r1hq1.2 6 (by simp); have g1_7 := r1hq1.2 7 (by simp); have g1_8 := r1hq1.2 8 (by simp); have g1_9 := r1hq1.2 9 (by simp); have g1_10 := r1hq1.2 10 (by simp); have g1_11 := r1hq1.2 11 (by simp); have g1_12 := r1hq1.2 12 (by simp); simp only [cqs, cqz] at g1_1 g1_2 g1_3 g1_4 g1_5 g1_6 g1_7 g1_8 g1_9 g1_10 g1_11 g1_12; have gx1 := r1hq2.2 0 (by simp); simp only [cqz] at gx1) | (go_at_call 23; (with_reducible refine (HC_a.out w1 hqt1).mono ?_); rintro e92 w2 ⟨rfl, hb2⟩; have HB2 := bt HB1 hb2; obtain ⟨r2hq1, r2hq2, hqt2⟩ := hE.out w2 HB2; have g2_2 := r2hq1.2 2 (by simp); have g2_3 := r2hq1.2 3 (by simp); have g2_4 := r2hq1.2 4 (by simp); have g2_5 := r2hq1.2 5 (by simp); have g2_6 := r2hq1.2 6 (by simp); have g2_7 := r2hq1.2 7 (by simp); have g2_8 := r2hq1.2 8 (by simp); have g2_9 := r2hq1.2 9 (by simp); have g2_10 := r2hq1.2 10 (by simp); have g2_11 := r2hq1.2 11 (by simp); have g2_12 := r2hq1.2 12 (by simp); simp only [cqs, cqz] at g2_2 g2_3 g2_4 g2_5 g2_6 g2_7 g2_8 g2_9 g2_10 g2_11 g2_12; have gx2 := r2hq2.2 0 (by simp); simp only [cqz] at gx2) | (go_at_call 18; (with_reducible refine (HC_s.out w2 hqt2).mono ?_); rintro e93 w3 ⟨rfl, hb3⟩; have HB3 := bt HB2 hb3; obtain ⟨r3hq1, r3hq2, hqt3⟩ := hE.out w3 HB3; have g3_3 := r3hq1.2 3 (by simp); have g3_4 := r3hq1.2 4 (by simp); have g3_5 := r3hq1.2 5 (by simp); have g3_6 := r3hq1.2 6 (by simp); have g3_7 := r3hq1.2 7 (by simp); have g3_8 := r3hq1.2 8 (by simp); have g3_9 := r3hq1.2 9 (by simp); have g3_10 := r3hq1.2 10 (by simp); have g3_11 := r3hq1.2 11 (by simp); have g3_12 := r3hq1.2 12 (by simp); simp only [cqs, cqz] at g3_3 g3_4 g3_5 g3_6 g3_7 g3_8 g3_9 g3_10 g3_11 g3_12; have gx3 := r3hq2.2 0 (by simp); simp only [cqz] at gx3) | (go_at_call 22; (with_reducible refine (HC_r.out w3 hqt3).mono ?_); rintro e94 w4 ⟨rfl, hb4⟩; have HB4 := bt HB3 hb4; obtain ⟨r4hq1, r4hq2, hqt4⟩ := hE.out w4 HB4; have g4_4 := r4hq1.2 4 (by simp); have g4_5 := r4hq1.2 5 (by simp); have g4_6 := r4hq1.2 6 (by simp); have g4_7 := r4hq1.2 7 (by simp); have g4_8 := r4hq1.2 8 (by simp); have g4_9 := r4hq1.2 9 (by simp); have g4_10 := r4hq1.2 10 (by simp); have g4_11 := r4hq1.2 11 (by simp); have g4_12 := r4hq1.2 12 (by simp); simp only [cqs, cqz] at g4_4 g4_5 g4_6 g4_7 g4_8 g4_9 g4_10 g4_11 g4_12; have gx4 := r4hq2.2 0 (by simp); simp only [cqz] at gx4) | (go_at_call 22; (with_reducible refine (HC_m.out w4 hqt4).mono ?_); rintro e95 w5 ⟨rfl, hb5⟩; have HB5 := bt HB4 hb5; obtain ⟨r5hq1, r5hq2, hqt5⟩ := hE.out w5 HB5; have g5_5 := r5hq1.2 5 (by simp); have g5_6 := r5hq1.2 6 (by simp); have g5_7 := r5hq1.2 7 (by simp); have g5_8 := r5hq1.2 8 (by simp); have g5_9 := r5hq1.2 9 (by simp); have g5_10 := r5hq1.2 10 (by simp); have g5_11 := r5hq1.2 11 (by simp); have g5_12 := r5hq1.2 12 (by simp); simp only [cqs, cqz] at g5_5 g5_6 g5_7 g5_8 g5_9 g5_10 g5_11 g5_12; have gx5 := r5hq2.2 0 (by simp); simp only [cqz] at gx5) | (go_at_call 19; (with_reducible refine (HC_f.out w5 hqt5).mono ?_); rintro e96 w6 ⟨rfl, hb6⟩; have HB6 := bt HB5 hb6; obtain ⟨r6hq1, r6hq2, hqt6⟩ := hE.out w6 HB6; have g6_6 := r6hq1.2 6 (by simp); have g6_7 := r6hq1.2 7 (by simp); have g6_8 := r6hq1.2 8 (by simp); have g6_9 := r6hq1.2 9 (by simp); have g6_10 := r6hq1.2 10 (by simp); have g6_11 := r6hq1.2 11 (by simp); have g6_12 := r6hq1.2 12 (by simp); simp only [cqs, cqz] at g6_6 g6_7 g6_8 g6_9 g6_10 g6_11 g6_12; have gx6 := r6hq2.2 0 (by simp); simp only [cqz] at gx6) | (go_at_call 24; (with_reducible refine (HC_p.out w6 hqt6).mono ?_); rintro e97 w7 ⟨rfl, hb7⟩; have HB7 := bt HB6 hb7; obtain ⟨r7hq1, r7hq2, hqt7⟩ := hE.out w7 HB7; have g7_7 := r7hq1.2 7 (by simp); have g7_8 := r7hq1.2 8 (by simp); have g7_9 := r7hq1.2 9 (by simp); have g7_10 := r7hq1.2 10 (by simp); have g7_11 := r7hq1.2 11 (by simp); have g7_12 := r7hq1.2 12 (by simp); simp only [cqs, cqz] at g7_7 g7_8 g7_9 g7_10 g7_11 g7_12; have gx7 := r7hq2.2 0 (by simp); simp only [cqz] at gx7) | (go_at_call 24; (with_reducible refine (HC_g.out w7 hqt7).mono ?_); rintro e98 w8 ⟨rfl, hb8⟩; have HB8 := bt HB7 hb8; obtain ⟨r8hq1, r8hq2, hqt8⟩ := hE.out w8 HB8; have g8_8 := r8hq1.2 8 (by simp); have g8_9 := r8hq1.2 9 (by simp); have g8_10 := r8hq1.2 10 (by simp); have g8_11 := r8hq1.2 11 (by simp); have g8_12 := r8hq1.2 12 (by simp); simp only [cqs, cqz] at g8_8 g8_9 g8_10 g8_11 g8_12; have gx8 := r8hq2.2 0 (by simp); simp only [cqz] at gx8) | (go_at_call 26; (with_reducible refine (HC_o.out w8 hqt8).mono ?_); rintro e99 w9 ⟨rfl, hb9⟩; have HB9 := bt HB8 hb9; obtain ⟨r9hq1, r9hq2, hqt9⟩ := hE.out w9 HB9; have g9_9 := r9hq1.2 9 (by simp); have g9_10 := r9hq1.2 10 (by simp); have g9_11 := r9hq1.2 11 (by simp); have g9_12 := r9hq1.2 12 (by simp); simp only [cqs, cqz] at g9_9 g9_10 g9_11 g9_12; have gx9 := r9hq2.2 0 (by simp); simp only [cqz] at gx9) | (go_at_call 28; (with_reducible refine (HC_v.out w9 hqt9).mono ?_); rintro e100 w10 ⟨rfl, hb10⟩; have HB10 := bt HB9 hb10; obtain ⟨r10hq1, r10hq2, hqt10⟩ := hE.out w10 HB10; have g10_10 := r10hq1.2 10 (by simp); have g10_11 := r10hq1.2 11 (by simp); have g10_12 := r10hq1.2 12 (by simp); simp only [cqs, cqz] at g10_10 g10_11 g10_12; have gx10 := r10hq2.2 0 (by simp); simp only [cqz] at gx10) | (go_at_call 30; (with_reducible refine (HC_u.out w10 hqt10).mono ?_); rintro e101 w11 ⟨rfl, hb11⟩; have HB11 := bt HB10 hb11; obtain ⟨r11hq1, r11hq2, hqt11⟩ := hE.out w11 HB11; have g11_11 := r11hq1.2 11 (by simp); have g11_12 := r11hq1.2 12 (by simp); simp only [cqs, cqz] at g11_11 g11_12; have gx11 := r11hq2.2 0 (by simp); simp only [cqz] at gx11) | (go_at_call 32; (with_reducible refine (HC_F.out w11 hqt11).mono ?_); rintro e102 w12 ⟨rfl, hb12⟩; have HB12 := bt HB11 hb12; obtain ⟨r12hq1, r12hq2, hqt12⟩ := hE.out w12 HB12; have g12_12 := r12hq1.2 12 (by simp); simp only [cqs, cqz] at g12_12; have gx12 := r12hq2.2 0 (by simp); simp only [cqz] at gx12) | (go_at_call 32; (with_reducible refine (HC_D.out w12 HB12).mono ?_); rintro e103 w13 ⟨rfl, hb13⟩; have HB13 := bt HB12 hb13; obtain ⟨r13hq1, r13hq2, hqt13⟩ := hE.out w13 HB13; have gx13 := r13hq2.2 0 (by simp); simp only [cqz] at gx13))
                            go_ret
                            exact ⟨ret_bool hfin.out.symm, hqt13⟩
                          · have hfin : Hid (dec (SrcR ⟨x_title, x_author, x_start, x_release, x_most, x_flags, x_props, x_globals, x_objects, x_verbs, x_rules, x_funcs, x_daemons⟩) = false) := dec_false (fun h => h_D h.2.2.2.2.2.2.2.2.2.2.2.2)
                            simp only [dec_true h_t] at hc_t
                            have HC_t := Lib.hid hc_t
                            simp only [dec_true h_a] at hc_a
                            have HC_a := Lib.hid hc_a
                            simp only [dec_true h_s] at hc_s
                            have HC_s := Lib.hid hc_s
                            simp only [dec_true h_r] at hc_r
                            have HC_r := Lib.hid hc_r
                            simp only [dec_true h_m] at hc_m
                            have HC_m := Lib.hid hc_m
                            simp only [dec_true h_f] at hc_f
                            have HC_f := Lib.hid hc_f
                            simp only [dec_true h_p] at hc_p
                            have HC_p := Lib.hid hc_p
                            simp only [dec_true h_g] at hc_g
                            have HC_g := Lib.hid hc_g
                            simp only [dec_true h_o] at hc_o
                            have HC_o := Lib.hid hc_o
                            simp only [dec_true h_v] at hc_v
                            have HC_v := Lib.hid hc_v
                            simp only [dec_true h_u] at hc_u
                            have HC_u := Lib.hid hc_u
                            simp only [dec_true h_F] at hc_F
                            have HC_F := Lib.hid hc_F
                            simp only [dec_false h_D] at hc_D
                            have HC_D := Lib.hid hc_D
                            clear hc_t hc_a hc_s hc_r hc_m hc_f hc_p hc_g hc_o hc_v hc_u hc_F hc_D ka5 ka6 ka7 ka8 ka9 ka10 ka11 ka12 z_title z_author z_start z_release z_most hF hm h_t h_a h_s h_r h_m h_f h_p h_g h_o h_v h_u h_F h_D
                            go_enter Tryz.func9, Tryz.ntmps9
                            go_upto_region 3 with fail
                            rw [HW1.out, HW2.out]
                            obtain ⟨hq1, hq2, hqt0⟩ := hE.out W2 (Below.refl _ _)
                            have HB0 : Below W2.heap.size W2 W2 := Below.refl _ _
                            have g0 := hq1.2 0 (by simp)
                            have g1 := hq1.2 1 (by simp)
                            have g2 := hq1.2 2 (by simp)
                            have g3 := hq1.2 3 (by simp)
                            have g4 := hq1.2 4 (by simp)
                            have g5 := hq1.2 5 (by simp)
                            have g6 := hq1.2 6 (by simp)
                            have g7 := hq1.2 7 (by simp)
                            have g8 := hq1.2 8 (by simp)
                            have g9 := hq1.2 9 (by simp)
                            have g10 := hq1.2 10 (by simp)
                            have g11 := hq1.2 11 (by simp)
                            have g12 := hq1.2 12 (by simp)
                            simp only [cqs, cqz] at g0 g1 g2 g3 g4 g5 g6 g7 g8 g9 g10 g11 g12
                            have gx := hq2.2 0 (by simp)
                            simp only [cqz] at gx
                            go_wp2_with (first | (go_at_call 23; (with_reducible refine (HC_t.out W2 hqt0).mono ?_); rintro e91 w1 ⟨rfl, hb1⟩; have HB1 := bt HB0 hb1; obtain ⟨r1hq1, r1hq2, hqt1⟩ := hE.out w1 HB1; have g1_1 := r1hq1.2 1 (by simp); have g1_2 := r1hq1.2 2 (by simp); have g1_3 := r1hq1.2 3 (by simp); have g1_4 := r1hq1.2 4 (by simp); have g1_5 := r1hq1.2 5 (by simp); have g1_6 := r1hq1.2 6 (by simp); have g1_7 := r1hq1.2 7 (by simp); have g1_8 := r1hq1.2 8 (by simp); have g1_9 := r1hq1.2 9 (by simp); have g1_10 := r1hq1.2 10 (by simp); have g1_11 := r1hq1.2 11 (by simp); have g1_12 := r1hq1.2 12 (by simp); simp only [cqs, cqz] at g1_1 g1_2 g1_3 g1_4 g1_5 g1_6 g1_7 g1_8 g1_9 g1_10 g1_11 g1_12; have gx1 := r1hq2.2 0 (by simp); simp only [cqz] at gx1) | (go_at_call 23; (with_reducible refine (HC_a.out w1 hqt1).mono ?_); rintro e92 w2 ⟨rfl, hb2⟩; have HB2 := bt HB1 hb2; obtain ⟨r2hq1, r2hq2, hqt2⟩ := hE.out w2 HB2; have g2_2 := r2hq1.2 2 (by simp); have g2_3 := r2hq1.2 3 (by simp); have g2_4 := r2hq1.2 4 (by simp); have g2_5 := r2hq1.2 5 (by simp); have g2_6 := r2hq1.2 6 (by simp); have g2_7 := r2hq1.2 7 (by simp); have g2_8 := r2hq1.2 8 (by simp); have g2_9 := r2hq1.2 9 (by simp); have g2_10 := r2hq1.2 10 (by simp); have g2_11 := r2hq1.2 11 (by simp); have g2_12 := r2hq1.2 12 (by simp); simp only [cqs, cqz] at g2_2 g2_3 g2_4 g2_5 g2_6 g2_7 g2_8 g2_9 g2_10 g2_11 g2_12; have gx2 := r2hq2.2 0 (by simp); simp only [cqz] at gx2) | (go_at_call 18; (with_reducible refine (HC_s.out w2 hqt2).mono ?_); rintro e93 w3 ⟨rfl, hb3⟩; have HB3 := bt HB2 hb3; obtain ⟨r3hq1, r3hq2, hqt3⟩ := hE.out w3 HB3; have g3_3 := r3hq1.2 3 (by simp); have g3_4 := r3hq1.2 4 (by simp); have g3_5 := r3hq1.2 5 (by simp); have g3_6 := r3hq1.2 6 (by simp); have g3_7 := r3hq1.2 7 (by simp); have g3_8 := r3hq1.2 8 (by simp); have g3_9 := r3hq1.2 9 (by simp); have g3_10 := r3hq1.2 10 (by simp); have g3_11 := r3hq1.2 11 (by simp); have g3_12 := r3hq1.2 12 (by simp); simp only [cqs, cqz] at g3_3 g3_4 g3_5 g3_6 g3_7 g3_8 g3_9 g3_10 g3_11 g3_12; have gx3 := r3hq2.2 0 (by simp); simp only [cqz] at gx3) | (go_at_call 22; (with_reducible refine (HC_r.out w3 hqt3).mono ?_); rintro e94 w4 ⟨rfl, hb4⟩; have HB4 := bt HB3 hb4; obtain ⟨r4hq1, r4hq2, hqt4⟩ := hE.out w4 HB4; have g4_4 := r4hq1.2 4 (by simp); have g4_5 := r4hq1.2 5 (by simp); have g4_6 := r4hq1.2 6 (by simp); have g4_7 := r4hq1.2 7 (by simp); have g4_8 := r4hq1.2 8 (by simp); have g4_9 := r4hq1.2 9 (by simp); have g4_10 := r4hq1.2 10 (by simp); have g4_11 := r4hq1.2 11 (by simp); have g4_12 := r4hq1.2 12 (by simp); simp only [cqs, cqz] at g4_4 g4_5 g4_6 g4_7 g4_8 g4_9 g4_10 g4_11 g4_12; have gx4 := r4hq2.2 0 (by simp); simp only [cqz] at gx4) | (go_at_call 22; (with_reducible refine (HC_m.out w4 hqt4).mono ?_); rintro e95 w5 ⟨rfl, hb5⟩; have HB5 := bt HB4 hb5; obtain ⟨r5hq1, r5hq2, hqt5⟩ := hE.out w5 HB5; have g5_5 := r5hq1.2 5 (by simp); have g5_6 := r5hq1.2 6 (by simp); have g5_7 := r5hq1.2 7 (by simp); have g5_8 := r5hq1.2 8 (by simp); have g5_9 := r5hq1.2 9 (by simp); have g5_10 := r5hq1.2 10 (by simp); have g5_11 := r5hq1.2 11 (by simp); have g5_12 := r5hq1.2 12 (by simp); simp only [cqs, cqz] at g5_5 g5_6 g5_7 g5_8 g5_9 g5_10 g5_11 g5_12; have gx5 := r5hq2.2 0 (by simp); simp only [cqz] at gx5) | (go_at_call 19; (with_reducible refine (HC_f.out w5 hqt5).mono ?_); rintro e96 w6 ⟨rfl, hb6⟩; have HB6 := bt HB5 hb6; obtain ⟨r6hq1, r6hq2, hqt6⟩ := hE.out w6 HB6; have g6_6 := r6hq1.2 6 (by simp); have g6_7 := r6hq1.2 7 (by simp); have g6_8 := r6hq1.2 8 (by simp); have g6_9 := r6hq1.2 9 (by simp); have g6_10 := r6hq1.2 10 (by simp); have g6_11 := r6hq1.2 11 (by simp); have g6_12 := r6hq1.2 12 (by simp); simp only [cqs, cqz] at g6_6 g6_7 g6_8 g6_9 g6_10 g6_11 g6_12; have gx6 := r6hq2.2 0 (by simp); simp only [cqz] at gx6) | (go_at_call 24; (with_reducible refine (HC_p.out w6 hqt6).mono ?_); rintro e97 w7 ⟨rfl, hb7⟩; have HB7 := bt HB6 hb7; obtain ⟨r7hq1, r7hq2, hqt7⟩ := hE.out w7 HB7; have g7_7 := r7hq1.2 7 (by simp); have g7_8 := r7hq1.2 8 (by simp); have g7_9 := r7hq1.2 9 (by simp); have g7_10 := r7hq1.2 10 (by simp); have g7_11 := r7hq1.2 11 (by simp); have g7_12 := r7hq1.2 12 (by simp); simp only [cqs, cqz] at g7_7 g7_8 g7_9 g7_10 g7_11 g7_12; have gx7 := r7hq2.2 0 (by simp); simp only [cqz] at gx7) | (go_at_call 24; (with_reducible refine (HC_g.out w7 hqt7).mono ?_); rintro e98 w8 ⟨rfl, hb8⟩; have HB8 := bt HB7 hb8; obtain ⟨r8hq1, r8hq2, hqt8⟩ := hE.out w8 HB8; have g8_8 := r8hq1.2 8 (by simp); have g8_9 := r8hq1.2 9 (by simp); have g8_10 := r8hq1.2 10 (by simp); have g8_11 := r8hq1.2 11 (by simp); have g8_12 := r8hq1.2 12 (by simp); simp only [cqs, cqz] at g8_8 g8_9 g8_10 g8_11 g8_12; have gx8 := r8hq2.2 0 (by simp); simp only [cqz] at gx8) | (go_at_call 26; (with_reducible refine (HC_o.out w8 hqt8).mono ?_); rintro e99 w9 ⟨rfl, hb9⟩; have HB9 := bt HB8 hb9; obtain ⟨r9hq1, r9hq2, hqt9⟩ := hE.out w9 HB9; have g9_9 := r9hq1.2 9 (by simp); have g9_10 := r9hq1.2 10 (by simp); have g9_11 := r9hq1.2 11 (by simp); have g9_12 := r9hq1.2 12 (by simp); simp only [cqs, cqz] at g9_9 g9_10 g9_11 g9_12; have gx9 := r9hq2.2 0 (by simp); simp only [cqz] at gx9) | (go_at_call 28; (with_reducible refine (HC_v.out w9 hqt9).mono ?_); rintro e100 w10 ⟨rfl, hb10⟩; have HB10 := bt HB9 hb10; obtain ⟨r10hq1, r10hq2, hqt10⟩ := hE.out w10 HB10; have g10_10 := r10hq1.2 10 (by simp); have g10_11 := r10hq1.2 11 (by simp); have g10_12 := r10hq1.2 12 (by simp); simp only [cqs, cqz] at g10_10 g10_11 g10_12; have gx10 := r10hq2.2 0 (by simp); simp only [cqz] at gx10) | (go_at_call 30; (with_reducible refine (HC_u.out w10 hqt10).mono ?_); rintro e101 w11 ⟨rfl, hb11⟩; have HB11 := bt HB10 hb11; obtain ⟨r11hq1, r11hq2, hqt11⟩ := hE.out w11 HB11; have g11_11 := r11hq1.2 11 (by simp); have g11_12 := r11hq1.2 12 (by simp); simp only [cqs, cqz] at g11_11 g11_12; have gx11 := r11hq2.2 0 (by simp); simp only [cqz] at gx11) | (go_at_call 32; (with_reducible refine (HC_F.out w11 hqt11).mono ?_); rintro e102 w12 ⟨rfl, hb12⟩; have HB12 := bt HB11 hb12; obtain ⟨r12hq1, r12hq2, hqt12⟩ := hE.out w12 HB12; have g12_12 := r12hq1.2 12 (by simp); simp only [cqs, cqz] at g12_12; have gx12 := r12hq2.2 0 (by simp); simp only [cqz] at gx12) | (go_at_call 32; (with_reducible refine (HC_D.out w12 HB12).mono ?_); rintro e103 w13 ⟨rfl, hb13⟩; have HB13 := bt HB12 hb13; obtain ⟨r13hq1, r13hq2, hqt13⟩ := hE.out w13 HB13; have gx13 := r13hq2.2 0 (by simp); simp only [cqz] at gx13))
                            go_ret
                            exact ⟨ret_bool hfin.out.symm, hqt13⟩
                        · have hfin : Hid (dec (SrcR ⟨x_title, x_author, x_start, x_release, x_most, x_flags, x_props, x_globals, x_objects, x_verbs, x_rules, x_funcs, x_daemons⟩) = false) := dec_false (fun h => h_F h.2.2.2.2.2.2.2.2.2.2.2.1)
                          simp only [dec_true h_t] at hc_t
                          have HC_t := Lib.hid hc_t
                          simp only [dec_true h_a] at hc_a
                          have HC_a := Lib.hid hc_a
                          simp only [dec_true h_s] at hc_s
                          have HC_s := Lib.hid hc_s
                          simp only [dec_true h_r] at hc_r
                          have HC_r := Lib.hid hc_r
                          simp only [dec_true h_m] at hc_m
                          have HC_m := Lib.hid hc_m
                          simp only [dec_true h_f] at hc_f
                          have HC_f := Lib.hid hc_f
                          simp only [dec_true h_p] at hc_p
                          have HC_p := Lib.hid hc_p
                          simp only [dec_true h_g] at hc_g
                          have HC_g := Lib.hid hc_g
                          simp only [dec_true h_o] at hc_o
                          have HC_o := Lib.hid hc_o
                          simp only [dec_true h_v] at hc_v
                          have HC_v := Lib.hid hc_v
                          simp only [dec_true h_u] at hc_u
                          have HC_u := Lib.hid hc_u
                          simp only [dec_false h_F] at hc_F
                          have HC_F := Lib.hid hc_F
                          clear hc_t hc_a hc_s hc_r hc_m hc_f hc_p hc_g hc_o hc_v hc_u hc_F hc_D ka5 ka6 ka7 ka8 ka9 ka10 ka11 ka12 z_title z_author z_start z_release z_most hF hm h_t h_a h_s h_r h_m h_f h_p h_g h_o h_v h_u h_F
                          go_enter Tryz.func9, Tryz.ntmps9
                          go_upto_region 3 with fail
                          rw [HW1.out, HW2.out]
                          obtain ⟨hq1, hq2, hqt0⟩ := hE.out W2 (Below.refl _ _)
                          have HB0 : Below W2.heap.size W2 W2 := Below.refl _ _
                          have g0 := hq1.2 0 (by simp)
                          have g1 := hq1.2 1 (by simp)
                          have g2 := hq1.2 2 (by simp)
                          have g3 := hq1.2 3 (by simp)
                          have g4 := hq1.2 4 (by simp)
                          have g5 := hq1.2 5 (by simp)
                          have g6 := hq1.2 6 (by simp)
                          have g7 := hq1.2 7 (by simp)
                          have g8 := hq1.2 8 (by simp)
                          have g9 := hq1.2 9 (by simp)
                          have g10 := hq1.2 10 (by simp)
                          have g11 := hq1.2 11 (by simp)
                          simp only [cqs, cqz] at g0 g1 g2 g3 g4 g5 g6 g7 g8 g9 g10 g11
                          have gx := hq2.2 0 (by simp)
                          simp only [cqz] at gx
                          go_wp2_with (first | (go_at_call 23; (with_reducible refine (HC_t.out W2 hqt0).mono ?_); rintro e91 w1 ⟨rfl, hb1⟩; have HB1 := bt HB0 hb1; obtain ⟨r1hq1, r1hq2, hqt1⟩ := hE.out w1 HB1; have g1_1 := r1hq1.2 1 (by simp); have g1_2 := r1hq1.2 2 (by simp); have g1_3 := r1hq1.2 3 (by simp); have g1_4 := r1hq1.2 4 (by simp); have g1_5 := r1hq1.2 5 (by simp); have g1_6 := r1hq1.2 6 (by simp); have g1_7 := r1hq1.2 7 (by simp); have g1_8 := r1hq1.2 8 (by simp); have g1_9 := r1hq1.2 9 (by simp); have g1_10 := r1hq1.2 10 (by simp); have g1_11 := r1hq1.2 11 (by simp); simp only [cqs, cqz] at g1_1 g1_2 g1_3 g1_4 g1_5 g1_6 g1_7 g1_8 g1_9 g1_10 g1_11; have gx1 := r1hq2.2 0 (by simp); simp only [cqz] at gx1) | (go_at_call 23; (with_reducible refine (HC_a.out w1 hqt1).mono ?_); rintro e92 w2 ⟨rfl, hb2⟩; have HB2 := bt HB1 hb2; obtain ⟨r2hq1, r2hq2, hqt2⟩ := hE.out w2 HB2; have g2_2 := r2hq1.2 2 (by simp); have g2_3 := r2hq1.2 3 (by simp); have g2_4 := r2hq1.2 4 (by simp); have g2_5 := r2hq1.2 5 (by simp); have g2_6 := r2hq1.2 6 (by simp); have g2_7 := r2hq1.2 7 (by simp); have g2_8 := r2hq1.2 8 (by simp); have g2_9 := r2hq1.2 9 (by simp); have g2_10 := r2hq1.2 10 (by simp); have g2_11 := r2hq1.2 11 (by simp); simp only [cqs, cqz] at g2_2 g2_3 g2_4 g2_5 g2_6 g2_7 g2_8 g2_9 g2_10 g2_11; have gx2 := r2hq2.2 0 (by simp); simp only [cqz] at gx2) | (go_at_call 18; (with_reducible refine (HC_s.out w2 hqt2).mono ?_); rintro e93 w3 ⟨rfl, hb3⟩; have HB3 := bt HB2 hb3; obtain ⟨r3hq1, r3hq2, hqt3⟩ := hE.out w3 HB3; have g3_3 := r3hq1.2 3 (by simp); have g3_4 := r3hq1.2 4 (by simp); have g3_5 := r3hq1.2 5 (by simp); have g3_6 := r3hq1.2 6 (by simp); have g3_7 := r3hq1.2 7 (by simp); have g3_8 := r3hq1.2 8 (by simp); have g3_9 := r3hq1.2 9 (by simp); have g3_10 := r3hq1.2 10 (by simp); have g3_11 := r3hq1.2 11 (by simp); simp only [cqs, cqz] at g3_3 g3_4 g3_5 g3_6 g3_7 g3_8 g3_9 g3_10 g3_11; have gx3 := r3hq2.2 0 (by simp); simp only [cqz] at gx3) | (go_at_call 22; (with_reducible refine (HC_r.out w3 hqt3).mono ?_); rintro e94 w4 ⟨rfl, hb4⟩; have HB4 := bt HB3 hb4; obtain ⟨r4hq1, r4hq2, hqt4⟩ := hE.out w4 HB4; have g4_4 := r4hq1.2 4 (by simp); have g4_5 := r4hq1.2 5 (by simp); have g4_6 := r4hq1.2 6 (by simp); have g4_7 := r4hq1.2 7 (by simp); have g4_8 := r4hq1.2 8 (by simp); have g4_9 := r4hq1.2 9 (by simp); have g4_10 := r4hq1.2 10 (by simp); have g4_11 := r4hq1.2 11 (by simp); simp only [cqs, cqz] at g4_4 g4_5 g4_6 g4_7 g4_8 g4_9 g4_10 g4_11; have gx4 := r4hq2.2 0 (by simp); simp only [cqz] at gx4) | (go_at_call 22; (with_reducible refine (HC_m.out w4 hqt4).mono ?_); rintro e95 w5 ⟨rfl, hb5⟩; have HB5 := bt HB4 hb5; obtain ⟨r5hq1, r5hq2, hqt5⟩ := hE.out w5 HB5; have g5_5 := r5hq1.2 5 (by simp); have g5_6 := r5hq1.2 6 (by simp); have g5_7 := r5hq1.2 7 (by simp); have g5_8 := r5hq1.2 8 (by simp); have g5_9 := r5hq1.2 9 (by simp); have g5_10 := r5hq1.2 10 (by simp); have g5_11 := r5hq1.2 11 (by simp); simp only [cqs, cqz] at g5_5 g5_6 g5_7 g5_8 g5_9 g5_10 g5_11; have gx5 := r5hq2.2 0 (by simp); simp only [cqz] at gx5) | (go_at_call 19; (with_reducible refine (HC_f.out w5 hqt5).mono ?_); rintro e96 w6 ⟨rfl, hb6⟩; have HB6 := bt HB5 hb6; obtain ⟨r6hq1, r6hq2, hqt6⟩ := hE.out w6 HB6; have g6_6 := r6hq1.2 6 (by simp); have g6_7 := r6hq1.2 7 (by simp); have g6_8 := r6hq1.2 8 (by simp); have g6_9 := r6hq1.2 9 (by simp); have g6_10 := r6hq1.2 10 (by simp); have g6_11 := r6hq1.2 11 (by simp); simp only [cqs, cqz] at g6_6 g6_7 g6_8 g6_9 g6_10 g6_11; have gx6 := r6hq2.2 0 (by simp); simp only [cqz] at gx6) | (go_at_call 24; (with_reducible refine (HC_p.out w6 hqt6).mono ?_); rintro e97 w7 ⟨rfl, hb7⟩; have HB7 := bt HB6 hb7; obtain ⟨r7hq1, r7hq2, hqt7⟩ := hE.out w7 HB7; have g7_7 := r7hq1.2 7 (by simp); have g7_8 := r7hq1.2 8 (by simp); have g7_9 := r7hq1.2 9 (by simp); have g7_10 := r7hq1.2 10 (by simp); have g7_11 := r7hq1.2 11 (by simp); simp only [cqs, cqz] at g7_7 g7_8 g7_9 g7_10 g7_11; have gx7 := r7hq2.2 0 (by simp); simp only [cqz] at gx7) | (go_at_call 24; (with_reducible refine (HC_g.out w7 hqt7).mono ?_); rintro e98 w8 ⟨rfl, hb8⟩; have HB8 := bt HB7 hb8; obtain ⟨r8hq1, r8hq2, hqt8⟩ := hE.out w8 HB8; have g8_8 := r8hq1.2 8 (by simp); have g8_9 := r8hq1.2 9 (by simp); have g8_10 := r8hq1.2 10 (by simp); have g8_11 := r8hq1.2 11 (by simp); simp only [cqs, cqz] at g8_8 g8_9 g8_10 g8_11; have gx8 := r8hq2.2 0 (by simp); simp only [cqz] at gx8) | (go_at_call 26; (with_reducible refine (HC_o.out w8 hqt8).mono ?_); rintro e99 w9 ⟨rfl, hb9⟩; have HB9 := bt HB8 hb9; obtain ⟨r9hq1, r9hq2, hqt9⟩ := hE.out w9 HB9; have g9_9 := r9hq1.2 9 (by simp); have g9_10 := r9hq1.2 10 (by simp); have g9_11 := r9hq1.2 11 (by simp); simp only [cqs, cqz] at g9_9 g9_10 g9_11; have gx9 := r9hq2.2 0 (by simp); simp only [cqz] at gx9) | (go_at_call 28; (with_reducible refine (HC_v.out w9 hqt9).mono ?_); rintro e100 w10 ⟨rfl, hb10⟩; have HB10 := bt HB9 hb10; obtain ⟨r10hq1, r10hq2, hqt10⟩ := hE.out w10 HB10; have g10_10 := r10hq1.2 10 (by simp); have g10_11 := r10hq1.2 11 (by simp); simp only [cqs, cqz] at g10_10 g10_11; have gx10 := r10hq2.2 0 (by simp); simp only [cqz] at gx10) | (go_at_call 30; (with_reducible refine (HC_u.out w10 hqt10).mono ?_); rintro e101 w11 ⟨rfl, hb11⟩; have HB11 := bt HB10 hb11; obtain ⟨r11hq1, r11hq2, hqt11⟩ := hE.out w11 HB11; have g11_11 := r11hq1.2 11 (by simp); simp only [cqs, cqz] at g11_11; have gx11 := r11hq2.2 0 (by simp); simp only [cqz] at gx11) | (go_at_call 32; (with_reducible refine (HC_F.out w11 hqt11).mono ?_); rintro e102 w12 ⟨rfl, hb12⟩; have HB12 := bt HB11 hb12; obtain ⟨r12hq1, r12hq2, hqt12⟩ := hE.out w12 HB12; have gx12 := r12hq2.2 0 (by simp); simp only [cqz] at gx12))
                          go_ret
                          exact ⟨ret_bool hfin.out.symm, hqt12⟩
                      · have hfin : Hid (dec (SrcR ⟨x_title, x_author, x_start, x_release, x_most, x_flags, x_props, x_globals, x_objects, x_verbs, x_rules, x_funcs, x_daemons⟩) = false) := dec_false (fun h => h_u h.2.2.2.2.2.2.2.2.2.2.1)
                        simp only [dec_true h_t] at hc_t
                        have HC_t := Lib.hid hc_t
                        simp only [dec_true h_a] at hc_a
                        have HC_a := Lib.hid hc_a
                        simp only [dec_true h_s] at hc_s
                        have HC_s := Lib.hid hc_s
                        simp only [dec_true h_r] at hc_r
                        have HC_r := Lib.hid hc_r
                        simp only [dec_true h_m] at hc_m
                        have HC_m := Lib.hid hc_m
                        simp only [dec_true h_f] at hc_f
                        have HC_f := Lib.hid hc_f
                        simp only [dec_true h_p] at hc_p
                        have HC_p := Lib.hid hc_p
                        simp only [dec_true h_g] at hc_g
                        have HC_g := Lib.hid hc_g
                        simp only [dec_true h_o] at hc_o
                        have HC_o := Lib.hid hc_o
                        simp only [dec_true h_v] at hc_v
                        have HC_v := Lib.hid hc_v
                        simp only [dec_false h_u] at hc_u
                        have HC_u := Lib.hid hc_u
                        clear hc_t hc_a hc_s hc_r hc_m hc_f hc_p hc_g hc_o hc_v hc_u hc_F hc_D ka5 ka6 ka7 ka8 ka9 ka10 ka11 ka12 z_title z_author z_start z_release z_most hF hm h_t h_a h_s h_r h_m h_f h_p h_g h_o h_v h_u
                        go_enter Tryz.func9, Tryz.ntmps9
                        go_upto_region 3 with fail
                        rw [HW1.out, HW2.out]
                        obtain ⟨hq1, hq2, hqt0⟩ := hE.out W2 (Below.refl _ _)
                        have HB0 : Below W2.heap.size W2 W2 := Below.refl _ _
                        have g0 := hq1.2 0 (by simp)
                        have g1 := hq1.2 1 (by simp)
                        have g2 := hq1.2 2 (by simp)
                        have g3 := hq1.2 3 (by simp)
                        have g4 := hq1.2 4 (by simp)
                        have g5 := hq1.2 5 (by simp)
                        have g6 := hq1.2 6 (by simp)
                        have g7 := hq1.2 7 (by simp)
                        have g8 := hq1.2 8 (by simp)
                        have g9 := hq1.2 9 (by simp)
                        have g10 := hq1.2 10 (by simp)
                        simp only [cqs, cqz] at g0 g1 g2 g3 g4 g5 g6 g7 g8 g9 g10
                        have gx := hq2.2 0 (by simp)
                        simp only [cqz] at gx
                        go_wp2_with (first | (go_at_call 23; (with_reducible refine (HC_t.out W2 hqt0).mono ?_); rintro e91 w1 ⟨rfl, hb1⟩; have HB1 := bt HB0 hb1; obtain ⟨r1hq1, r1hq2, hqt1⟩ := hE.out w1 HB1; have g1_1 := r1hq1.2 1 (by simp); have g1_2 := r1hq1.2 2 (by simp); have g1_3 := r1hq1.2 3 (by simp); have g1_4 := r1hq1.2 4 (by simp); have g1_5 := r1hq1.2 5 (by simp); have g1_6 := r1hq1.2 6 (by simp); have g1_7 := r1hq1.2 7 (by simp); have g1_8 := r1hq1.2 8 (by simp); have g1_9 := r1hq1.2 9 (by simp); have g1_10 := r1hq1.2 10 (by simp); simp only [cqs, cqz] at g1_1 g1_2 g1_3 g1_4 g1_5 g1_6 g1_7 g1_8 g1_9 g1_10; have gx1 := r1hq2.2 0 (by simp); simp only [cqz] at gx1) | (go_at_call 23; (with_reducible refine (HC_a.out w1 hqt1).mono ?_); rintro e92 w2 ⟨rfl, hb2⟩; have HB2 := bt HB1 hb2; obtain ⟨r2hq1, r2hq2, hqt2⟩ := hE.out w2 HB2; have g2_2 := r2hq1.2 2 (by simp); have g2_3 := r2hq1.2 3 (by simp); have g2_4 := r2hq1.2 4 (by simp); have g2_5 := r2hq1.2 5 (by simp); have g2_6 := r2hq1.2 6 (by simp); have g2_7 := r2hq1.2 7 (by simp); have g2_8 := r2hq1.2 8 (by simp); have g2_9 := r2hq1.2 9 (by simp); have g2_10 := r2hq1.2 10 (by simp); simp only [cqs, cqz] at g2_2 g2_3 g2_4 g2_5 g2_6 g2_7 g2_8 g2_9 g2_10; have gx2 := r2hq2.2 0 (by simp); simp only [cqz] at gx2) | (go_at_call 18; (with_reducible refine (HC_s.out w2 hqt2).mono ?_); rintro e93 w3 ⟨rfl, hb3⟩; have HB3 := bt HB2 hb3; obtain ⟨r3hq1, r3hq2, hqt3⟩ := hE.out w3 HB3; have g3_3 := r3hq1.2 3 (by simp); have g3_4 := r3hq1.2 4 (by simp); have g3_5 := r3hq1.2 5 (by simp); have g3_6 := r3hq1.2 6 (by simp); have g3_7 := r3hq1.2 7 (by simp); have g3_8 := r3hq1.2 8 (by simp); have g3_9 := r3hq1.2 9 (by simp); have g3_10 := r3hq1.2 10 (by simp); simp only [cqs, cqz] at g3_3 g3_4 g3_5 g3_6 g3_7 g3_8 g3_9 g3_10; have gx3 := r3hq2.2 0 (by simp); simp only [cqz] at gx3) | (go_at_call 22; (with_reducible refine (HC_r.out w3 hqt3).mono ?_); rintro e94 w4 ⟨rfl, hb4⟩; have HB4 := bt HB3 hb4; obtain ⟨r4hq1, r4hq2, hqt4⟩ := hE.out w4 HB4; have g4_4 := r4hq1.2 4 (by simp); have g4_5 := r4hq1.2 5 (by simp); have g4_6 := r4hq1.2 6 (by simp); have g4_7 := r4hq1.2 7 (by simp); have g4_8 := r4hq1.2 8 (by simp); have g4_9 := r4hq1.2 9 (by simp); have g4_10 := r4hq1.2 10 (by simp); simp only [cqs, cqz] at g4_4 g4_5 g4_6 g4_7 g4_8 g4_9 g4_10; have gx4 := r4hq2.2 0 (by simp); simp only [cqz] at gx4) | (go_at_call 22; (with_reducible refine (HC_m.out w4 hqt4).mono ?_); rintro e95 w5 ⟨rfl, hb5⟩; have HB5 := bt HB4 hb5; obtain ⟨r5hq1, r5hq2, hqt5⟩ := hE.out w5 HB5; have g5_5 := r5hq1.2 5 (by simp); have g5_6 := r5hq1.2 6 (by simp); have g5_7 := r5hq1.2 7 (by simp); have g5_8 := r5hq1.2 8 (by simp); have g5_9 := r5hq1.2 9 (by simp); have g5_10 := r5hq1.2 10 (by simp); simp only [cqs, cqz] at g5_5 g5_6 g5_7 g5_8 g5_9 g5_10; have gx5 := r5hq2.2 0 (by simp); simp only [cqz] at gx5) | (go_at_call 19; (with_reducible refine (HC_f.out w5 hqt5).mono ?_); rintro e96 w6 ⟨rfl, hb6⟩; have HB6 := bt HB5 hb6; obtain ⟨r6hq1, r6hq2, hqt6⟩ := hE.out w6 HB6; have g6_6 := r6hq1.2 6 (by simp); have g6_7 := r6hq1.2 7 (by simp); have g6_8 := r6hq1.2 8 (by simp); have g6_9 := r6hq1.2 9 (by simp); have g6_10 := r6hq1.2 10 (by simp); simp only [cqs, cqz] at g6_6 g6_7 g6_8 g6_9 g6_10; have gx6 := r6hq2.2 0 (by simp); simp only [cqz] at gx6) | (go_at_call 24; (with_reducible refine (HC_p.out w6 hqt6).mono ?_); rintro e97 w7 ⟨rfl, hb7⟩; have HB7 := bt HB6 hb7; obtain ⟨r7hq1, r7hq2, hqt7⟩ := hE.out w7 HB7; have g7_7 := r7hq1.2 7 (by simp); have g7_8 := r7hq1.2 8 (by simp); have g7_9 := r7hq1.2 9 (by simp); have g7_10 := r7hq1.2 10 (by simp); simp only [cqs, cqz] at g7_7 g7_8 g7_9 g7_10; have gx7 := r7hq2.2 0 (by simp); simp only [cqz] at gx7) | (go_at_call 24; (with_reducible refine (HC_g.out w7 hqt7).mono ?_); rintro e98 w8 ⟨rfl, hb8⟩; have HB8 := bt HB7 hb8; obtain ⟨r8hq1, r8hq2, hqt8⟩ := hE.out w8 HB8; have g8_8 := r8hq1.2 8 (by simp); have g8_9 := r8hq1.2 9 (by simp); have g8_10 := r8hq1.2 10 (by simp); simp only [cqs, cqz] at g8_8 g8_9 g8_10; have gx8 := r8hq2.2 0 (by simp); simp only [cqz] at gx8) | (go_at_call 26; (with_reducible refine (HC_o.out w8 hqt8).mono ?_); rintro e99 w9 ⟨rfl, hb9⟩; have HB9 := bt HB8 hb9; obtain ⟨r9hq1, r9hq2, hqt9⟩ := hE.out w9 HB9; have g9_9 := r9hq1.2 9 (by simp); have g9_10 := r9hq1.2 10 (by simp); simp only [cqs, cqz] at g9_9 g9_10; have gx9 := r9hq2.2 0 (by simp); simp only [cqz] at gx9) | (go_at_call 28; (with_reducible refine (HC_v.out w9 hqt9).mono ?_); rintro e100 w10 ⟨rfl, hb10⟩; have HB10 := bt HB9 hb10; obtain ⟨r10hq1, r10hq2, hqt10⟩ := hE.out w10 HB10; have g10_10 := r10hq1.2 10 (by simp); simp only [cqs, cqz] at g10_10; have gx10 := r10hq2.2 0 (by simp); simp only [cqz] at gx10) | (go_at_call 30; (with_reducible refine (HC_u.out w10 hqt10).mono ?_); rintro e101 w11 ⟨rfl, hb11⟩; have HB11 := bt HB10 hb11; obtain ⟨r11hq1, r11hq2, hqt11⟩ := hE.out w11 HB11; have gx11 := r11hq2.2 0 (by simp); simp only [cqz] at gx11))
                        go_ret
                        exact ⟨ret_bool hfin.out.symm, hqt11⟩
                    · have hfin : Hid (dec (SrcR ⟨x_title, x_author, x_start, x_release, x_most, x_flags, x_props, x_globals, x_objects, x_verbs, x_rules, x_funcs, x_daemons⟩) = false) := dec_false (fun h => h_v h.2.2.2.2.2.2.2.2.2.1)
                      simp only [dec_true h_t] at hc_t
                      have HC_t := Lib.hid hc_t
                      simp only [dec_true h_a] at hc_a
                      have HC_a := Lib.hid hc_a
                      simp only [dec_true h_s] at hc_s
                      have HC_s := Lib.hid hc_s
                      simp only [dec_true h_r] at hc_r
                      have HC_r := Lib.hid hc_r
                      simp only [dec_true h_m] at hc_m
                      have HC_m := Lib.hid hc_m
                      simp only [dec_true h_f] at hc_f
                      have HC_f := Lib.hid hc_f
                      simp only [dec_true h_p] at hc_p
                      have HC_p := Lib.hid hc_p
                      simp only [dec_true h_g] at hc_g
                      have HC_g := Lib.hid hc_g
                      simp only [dec_true h_o] at hc_o
                      have HC_o := Lib.hid hc_o
                      simp only [dec_false h_v] at hc_v
                      have HC_v := Lib.hid hc_v
                      clear hc_t hc_a hc_s hc_r hc_m hc_f hc_p hc_g hc_o hc_v hc_u hc_F hc_D ka5 ka6 ka7 ka8 ka9 ka10 ka11 ka12 z_title z_author z_start z_release z_most hF hm h_t h_a h_s h_r h_m h_f h_p h_g h_o h_v
                      go_enter Tryz.func9, Tryz.ntmps9
                      go_upto_region 3 with fail
                      rw [HW1.out, HW2.out]
                      obtain ⟨hq1, hq2, hqt0⟩ := hE.out W2 (Below.refl _ _)
                      have HB0 : Below W2.heap.size W2 W2 := Below.refl _ _
                      have g0 := hq1.2 0 (by simp)
                      have g1 := hq1.2 1 (by simp)
                      have g2 := hq1.2 2 (by simp)
                      have g3 := hq1.2 3 (by simp)
                      have g4 := hq1.2 4 (by simp)
                      have g5 := hq1.2 5 (by simp)
                      have g6 := hq1.2 6 (by simp)
                      have g7 := hq1.2 7 (by simp)
                      have g8 := hq1.2 8 (by simp)
                      have g9 := hq1.2 9 (by simp)
                      simp only [cqs, cqz] at g0 g1 g2 g3 g4 g5 g6 g7 g8 g9
                      have gx := hq2.2 0 (by simp)
                      simp only [cqz] at gx
                      go_wp2_with (first | (go_at_call 23; (with_reducible refine (HC_t.out W2 hqt0).mono ?_); rintro e91 w1 ⟨rfl, hb1⟩; have HB1 := bt HB0 hb1; obtain ⟨r1hq1, r1hq2, hqt1⟩ := hE.out w1 HB1; have g1_1 := r1hq1.2 1 (by simp); have g1_2 := r1hq1.2 2 (by simp); have g1_3 := r1hq1.2 3 (by simp); have g1_4 := r1hq1.2 4 (by simp); have g1_5 := r1hq1.2 5 (by simp); have g1_6 := r1hq1.2 6 (by simp); have g1_7 := r1hq1.2 7 (by simp); have g1_8 := r1hq1.2 8 (by simp); have g1_9 := r1hq1.2 9 (by simp); simp only [cqs, cqz] at g1_1 g1_2 g1_3 g1_4 g1_5 g1_6 g1_7 g1_8 g1_9; have gx1 := r1hq2.2 0 (by simp); simp only [cqz] at gx1) | (go_at_call 23; (with_reducible refine (HC_a.out w1 hqt1).mono ?_); rintro e92 w2 ⟨rfl, hb2⟩; have HB2 := bt HB1 hb2; obtain ⟨r2hq1, r2hq2, hqt2⟩ := hE.out w2 HB2; have g2_2 := r2hq1.2 2 (by simp); have g2_3 := r2hq1.2 3 (by simp); have g2_4 := r2hq1.2 4 (by simp); have g2_5 := r2hq1.2 5 (by simp); have g2_6 := r2hq1.2 6 (by simp); have g2_7 := r2hq1.2 7 (by simp); have g2_8 := r2hq1.2 8 (by simp); have g2_9 := r2hq1.2 9 (by simp); simp only [cqs, cqz] at g2_2 g2_3 g2_4 g2_5 g2_6 g2_7 g2_8 g2_9; have gx2 := r2hq2.2 0 (by simp); simp only [cqz] at gx2) | (go_at_call 18; (with_reducible refine (HC_s.out w2 hqt2).mono ?_); rintro e93 w3 ⟨rfl, hb3⟩; have HB3 := bt HB2 hb3; obtain ⟨r3hq1, r3hq2, hqt3⟩ := hE.out w3 HB3; have g3_3 := r3hq1.2 3 (by simp); have g3_4 := r3hq1.2 4 (by simp); have g3_5 := r3hq1.2 5 (by simp); have g3_6 := r3hq1.2 6 (by simp); have g3_7 := r3hq1.2 7 (by simp); have g3_8 := r3hq1.2 8 (by simp); have g3_9 := r3hq1.2 9 (by simp); simp only [cqs, cqz] at g3_3 g3_4 g3_5 g3_6 g3_7 g3_8 g3_9; have gx3 := r3hq2.2 0 (by simp); simp only [cqz] at gx3) | (go_at_call 22; (with_reducible refine (HC_r.out w3 hqt3).mono ?_); rintro e94 w4 ⟨rfl, hb4⟩; have HB4 := bt HB3 hb4; obtain ⟨r4hq1, r4hq2, hqt4⟩ := hE.out w4 HB4; have g4_4 := r4hq1.2 4 (by simp); have g4_5 := r4hq1.2 5 (by simp); have g4_6 := r4hq1.2 6 (by simp); have g4_7 := r4hq1.2 7 (by simp); have g4_8 := r4hq1.2 8 (by simp); have g4_9 := r4hq1.2 9 (by simp); simp only [cqs, cqz] at g4_4 g4_5 g4_6 g4_7 g4_8 g4_9; have gx4 := r4hq2.2 0 (by simp); simp only [cqz] at gx4) | (go_at_call 22; (with_reducible refine (HC_m.out w4 hqt4).mono ?_); rintro e95 w5 ⟨rfl, hb5⟩; have HB5 := bt HB4 hb5; obtain ⟨r5hq1, r5hq2, hqt5⟩ := hE.out w5 HB5; have g5_5 := r5hq1.2 5 (by simp); have g5_6 := r5hq1.2 6 (by simp); have g5_7 := r5hq1.2 7 (by simp); have g5_8 := r5hq1.2 8 (by simp); have g5_9 := r5hq1.2 9 (by simp); simp only [cqs, cqz] at g5_5 g5_6 g5_7 g5_8 g5_9; have gx5 := r5hq2.2 0 (by simp); simp only [cqz] at gx5) | (go_at_call 19; (with_reducible refine (HC_f.out w5 hqt5).mono ?_); rintro e96 w6 ⟨rfl, hb6⟩; have HB6 := bt HB5 hb6; obtain ⟨r6hq1, r6hq2, hqt6⟩ := hE.out w6 HB6; have g6_6 := r6hq1.2 6 (by simp); have g6_7 := r6hq1.2 7 (by simp); have g6_8 := r6hq1.2 8 (by simp); have g6_9 := r6hq1.2 9 (by simp); simp only [cqs, cqz] at g6_6 g6_7 g6_8 g6_9; have gx6 := r6hq2.2 0 (by simp); simp only [cqz] at gx6) | (go_at_call 24; (with_reducible refine (HC_p.out w6 hqt6).mono ?_); rintro e97 w7 ⟨rfl, hb7⟩; have HB7 := bt HB6 hb7; obtain ⟨r7hq1, r7hq2, hqt7⟩ := hE.out w7 HB7; have g7_7 := r7hq1.2 7 (by simp); have g7_8 := r7hq1.2 8 (by simp); have g7_9 := r7hq1.2 9 (by simp); simp only [cqs, cqz] at g7_7 g7_8 g7_9; have gx7 := r7hq2.2 0 (by simp); simp only [cqz] at gx7) | (go_at_call 24; (with_reducible refine (HC_g.out w7 hqt7).mono ?_); rintro e98 w8 ⟨rfl, hb8⟩; have HB8 := bt HB7 hb8; obtain ⟨r8hq1, r8hq2, hqt8⟩ := hE.out w8 HB8; have g8_8 := r8hq1.2 8 (by simp); have g8_9 := r8hq1.2 9 (by simp); simp only [cqs, cqz] at g8_8 g8_9; have gx8 := r8hq2.2 0 (by simp); simp only [cqz] at gx8) | (go_at_call 26; (with_reducible refine (HC_o.out w8 hqt8).mono ?_); rintro e99 w9 ⟨rfl, hb9⟩; have HB9 := bt HB8 hb9; obtain ⟨r9hq1, r9hq2, hqt9⟩ := hE.out w9 HB9; have g9_9 := r9hq1.2 9 (by simp); simp only [cqs, cqz] at g9_9; have gx9 := r9hq2.2 0 (by simp); simp only [cqz] at gx9) | (go_at_call 28; (with_reducible refine (HC_v.out w9 hqt9).mono ?_); rintro e100 w10 ⟨rfl, hb10⟩; have HB10 := bt HB9 hb10; obtain ⟨r10hq1, r10hq2, hqt10⟩ := hE.out w10 HB10; have gx10 := r10hq2.2 0 (by simp); simp only [cqz] at gx10))
                      go_ret
                      exact ⟨ret_bool hfin.out.symm, hqt10⟩
                  · have hfin : Hid (dec (SrcR ⟨x_title, x_author, x_start, x_release, x_most, x_flags, x_props, x_globals, x_objects, x_verbs, x_rules, x_funcs, x_daemons⟩) = false) := dec_false (fun h => h_o h.2.2.2.2.2.2.2.2.1)
                    simp only [dec_true h_t] at hc_t
                    have HC_t := Lib.hid hc_t
                    simp only [dec_true h_a] at hc_a
                    have HC_a := Lib.hid hc_a
                    simp only [dec_true h_s] at hc_s
                    have HC_s := Lib.hid hc_s
                    simp only [dec_true h_r] at hc_r
                    have HC_r := Lib.hid hc_r
                    simp only [dec_true h_m] at hc_m
                    have HC_m := Lib.hid hc_m
                    simp only [dec_true h_f] at hc_f
                    have HC_f := Lib.hid hc_f
                    simp only [dec_true h_p] at hc_p
                    have HC_p := Lib.hid hc_p
                    simp only [dec_true h_g] at hc_g
                    have HC_g := Lib.hid hc_g
                    simp only [dec_false h_o] at hc_o
                    have HC_o := Lib.hid hc_o
                    clear hc_t hc_a hc_s hc_r hc_m hc_f hc_p hc_g hc_o hc_v hc_u hc_F hc_D ka5 ka6 ka7 ka8 ka9 ka10 ka11 ka12 z_title z_author z_start z_release z_most hF hm h_t h_a h_s h_r h_m h_f h_p h_g h_o
                    go_enter Tryz.func9, Tryz.ntmps9
                    go_upto_region 3 with fail
                    rw [HW1.out, HW2.out]
                    obtain ⟨hq1, hq2, hqt0⟩ := hE.out W2 (Below.refl _ _)
                    have HB0 : Below W2.heap.size W2 W2 := Below.refl _ _
                    have g0 := hq1.2 0 (by simp)
                    have g1 := hq1.2 1 (by simp)
                    have g2 := hq1.2 2 (by simp)
                    have g3 := hq1.2 3 (by simp)
                    have g4 := hq1.2 4 (by simp)
                    have g5 := hq1.2 5 (by simp)
                    have g6 := hq1.2 6 (by simp)
                    have g7 := hq1.2 7 (by simp)
                    have g8 := hq1.2 8 (by simp)
                    simp only [cqs, cqz] at g0 g1 g2 g3 g4 g5 g6 g7 g8
                    have gx := hq2.2 0 (by simp)
                    simp only [cqz] at gx
                    go_wp2_with (first | (go_at_call 23; (with_reducible refine (HC_t.out W2 hqt0).mono ?_); rintro e91 w1 ⟨rfl, hb1⟩; have HB1 := bt HB0 hb1; obtain ⟨r1hq1, r1hq2, hqt1⟩ := hE.out w1 HB1; have g1_1 := r1hq1.2 1 (by simp); have g1_2 := r1hq1.2 2 (by simp); have g1_3 := r1hq1.2 3 (by simp); have g1_4 := r1hq1.2 4 (by simp); have g1_5 := r1hq1.2 5 (by simp); have g1_6 := r1hq1.2 6 (by simp); have g1_7 := r1hq1.2 7 (by simp); have g1_8 := r1hq1.2 8 (by simp); simp only [cqs, cqz] at g1_1 g1_2 g1_3 g1_4 g1_5 g1_6 g1_7 g1_8; have gx1 := r1hq2.2 0 (by simp); simp only [cqz] at gx1) | (go_at_call 23; (with_reducible refine (HC_a.out w1 hqt1).mono ?_); rintro e92 w2 ⟨rfl, hb2⟩; have HB2 := bt HB1 hb2; obtain ⟨r2hq1, r2hq2, hqt2⟩ := hE.out w2 HB2; have g2_2 := r2hq1.2 2 (by simp); have g2_3 := r2hq1.2 3 (by simp); have g2_4 := r2hq1.2 4 (by simp); have g2_5 := r2hq1.2 5 (by simp); have g2_6 := r2hq1.2 6 (by simp); have g2_7 := r2hq1.2 7 (by simp); have g2_8 := r2hq1.2 8 (by simp); simp only [cqs, cqz] at g2_2 g2_3 g2_4 g2_5 g2_6 g2_7 g2_8; have gx2 := r2hq2.2 0 (by simp); simp only [cqz] at gx2) | (go_at_call 18; (with_reducible refine (HC_s.out w2 hqt2).mono ?_); rintro e93 w3 ⟨rfl, hb3⟩; have HB3 := bt HB2 hb3; obtain ⟨r3hq1, r3hq2, hqt3⟩ := hE.out w3 HB3; have g3_3 := r3hq1.2 3 (by simp); have g3_4 := r3hq1.2 4 (by simp); have g3_5 := r3hq1.2 5 (by simp); have g3_6 := r3hq1.2 6 (by simp); have g3_7 := r3hq1.2 7 (by simp); have g3_8 := r3hq1.2 8 (by simp); simp only [cqs, cqz] at g3_3 g3_4 g3_5 g3_6 g3_7 g3_8; have gx3 := r3hq2.2 0 (by simp); simp only [cqz] at gx3) | (go_at_call 22; (with_reducible refine (HC_r.out w3 hqt3).mono ?_); rintro e94 w4 ⟨rfl, hb4⟩; have HB4 := bt HB3 hb4; obtain ⟨r4hq1, r4hq2, hqt4⟩ := hE.out w4 HB4; have g4_4 := r4hq1.2 4 (by simp); have g4_5 := r4hq1.2 5 (by simp); have g4_6 := r4hq1.2 6 (by simp); have g4_7 := r4hq1.2 7 (by simp); have g4_8 := r4hq1.2 8 (by simp); simp only [cqs, cqz] at g4_4 g4_5 g4_6 g4_7 g4_8; have gx4 := r4hq2.2 0 (by simp); simp only [cqz] at gx4) | (go_at_call 22; (with_reducible refine (HC_m.out w4 hqt4).mono ?_); rintro e95 w5 ⟨rfl, hb5⟩; have HB5 := bt HB4 hb5; obtain ⟨r5hq1, r5hq2, hqt5⟩ := hE.out w5 HB5; have g5_5 := r5hq1.2 5 (by simp); have g5_6 := r5hq1.2 6 (by simp); have g5_7 := r5hq1.2 7 (by simp); have g5_8 := r5hq1.2 8 (by simp); simp only [cqs, cqz] at g5_5 g5_6 g5_7 g5_8; have gx5 := r5hq2.2 0 (by simp); simp only [cqz] at gx5) | (go_at_call 19; (with_reducible refine (HC_f.out w5 hqt5).mono ?_); rintro e96 w6 ⟨rfl, hb6⟩; have HB6 := bt HB5 hb6; obtain ⟨r6hq1, r6hq2, hqt6⟩ := hE.out w6 HB6; have g6_6 := r6hq1.2 6 (by simp); have g6_7 := r6hq1.2 7 (by simp); have g6_8 := r6hq1.2 8 (by simp); simp only [cqs, cqz] at g6_6 g6_7 g6_8; have gx6 := r6hq2.2 0 (by simp); simp only [cqz] at gx6) | (go_at_call 24; (with_reducible refine (HC_p.out w6 hqt6).mono ?_); rintro e97 w7 ⟨rfl, hb7⟩; have HB7 := bt HB6 hb7; obtain ⟨r7hq1, r7hq2, hqt7⟩ := hE.out w7 HB7; have g7_7 := r7hq1.2 7 (by simp); have g7_8 := r7hq1.2 8 (by simp); simp only [cqs, cqz] at g7_7 g7_8; have gx7 := r7hq2.2 0 (by simp); simp only [cqz] at gx7) | (go_at_call 24; (with_reducible refine (HC_g.out w7 hqt7).mono ?_); rintro e98 w8 ⟨rfl, hb8⟩; have HB8 := bt HB7 hb8; obtain ⟨r8hq1, r8hq2, hqt8⟩ := hE.out w8 HB8; have g8_8 := r8hq1.2 8 (by simp); simp only [cqs, cqz] at g8_8; have gx8 := r8hq2.2 0 (by simp); simp only [cqz] at gx8) | (go_at_call 26; (with_reducible refine (HC_o.out w8 hqt8).mono ?_); rintro e99 w9 ⟨rfl, hb9⟩; have HB9 := bt HB8 hb9; obtain ⟨r9hq1, r9hq2, hqt9⟩ := hE.out w9 HB9; have gx9 := r9hq2.2 0 (by simp); simp only [cqz] at gx9))
                    go_ret
                    exact ⟨ret_bool hfin.out.symm, hqt9⟩
                · have hfin : Hid (dec (SrcR ⟨x_title, x_author, x_start, x_release, x_most, x_flags, x_props, x_globals, x_objects, x_verbs, x_rules, x_funcs, x_daemons⟩) = false) := dec_false (fun h => h_g h.2.2.2.2.2.2.2.1)
                  simp only [dec_true h_t] at hc_t
                  have HC_t := Lib.hid hc_t
                  simp only [dec_true h_a] at hc_a
                  have HC_a := Lib.hid hc_a
                  simp only [dec_true h_s] at hc_s
                  have HC_s := Lib.hid hc_s
                  simp only [dec_true h_r] at hc_r
                  have HC_r := Lib.hid hc_r
                  simp only [dec_true h_m] at hc_m
                  have HC_m := Lib.hid hc_m
                  simp only [dec_true h_f] at hc_f
                  have HC_f := Lib.hid hc_f
                  simp only [dec_true h_p] at hc_p
                  have HC_p := Lib.hid hc_p
                  simp only [dec_false h_g] at hc_g
                  have HC_g := Lib.hid hc_g
                  clear hc_t hc_a hc_s hc_r hc_m hc_f hc_p hc_g hc_o hc_v hc_u hc_F hc_D ka5 ka6 ka7 ka8 ka9 ka10 ka11 ka12 z_title z_author z_start z_release z_most hF hm h_t h_a h_s h_r h_m h_f h_p h_g
                  go_enter Tryz.func9, Tryz.ntmps9
                  go_upto_region 3 with fail
                  rw [HW1.out, HW2.out]
                  obtain ⟨hq1, hq2, hqt0⟩ := hE.out W2 (Below.refl _ _)
                  have HB0 : Below W2.heap.size W2 W2 := Below.refl _ _
                  have g0 := hq1.2 0 (by simp)
                  have g1 := hq1.2 1 (by simp)
                  have g2 := hq1.2 2 (by simp)
                  have g3 := hq1.2 3 (by simp)
                  have g4 := hq1.2 4 (by simp)
                  have g5 := hq1.2 5 (by simp)
                  have g6 := hq1.2 6 (by simp)
                  have g7 := hq1.2 7 (by simp)
                  simp only [cqs, cqz] at g0 g1 g2 g3 g4 g5 g6 g7
                  have gx := hq2.2 0 (by simp)
                  simp only [cqz] at gx
                  go_wp2_with (first | (go_at_call 23; (with_reducible refine (HC_t.out W2 hqt0).mono ?_); rintro e91 w1 ⟨rfl, hb1⟩; have HB1 := bt HB0 hb1; obtain ⟨r1hq1, r1hq2, hqt1⟩ := hE.out w1 HB1; have g1_1 := r1hq1.2 1 (by simp); have g1_2 := r1hq1.2 2 (by simp); have g1_3 := r1hq1.2 3 (by simp); have g1_4 := r1hq1.2 4 (by simp); have g1_5 := r1hq1.2 5 (by simp); have g1_6 := r1hq1.2 6 (by simp); have g1_7 := r1hq1.2 7 (by simp); simp only [cqs, cqz] at g1_1 g1_2 g1_3 g1_4 g1_5 g1_6 g1_7; have gx1 := r1hq2.2 0 (by simp); simp only [cqz] at gx1) | (go_at_call 23; (with_reducible refine (HC_a.out w1 hqt1).mono ?_); rintro e92 w2 ⟨rfl, hb2⟩; have HB2 := bt HB1 hb2; obtain ⟨r2hq1, r2hq2, hqt2⟩ := hE.out w2 HB2; have g2_2 := r2hq1.2 2 (by simp); have g2_3 := r2hq1.2 3 (by simp); have g2_4 := r2hq1.2 4 (by simp); have g2_5 := r2hq1.2 5 (by simp); have g2_6 := r2hq1.2 6 (by simp); have g2_7 := r2hq1.2 7 (by simp); simp only [cqs, cqz] at g2_2 g2_3 g2_4 g2_5 g2_6 g2_7; have gx2 := r2hq2.2 0 (by simp); simp only [cqz] at gx2) | (go_at_call 18; (with_reducible refine (HC_s.out w2 hqt2).mono ?_); rintro e93 w3 ⟨rfl, hb3⟩; have HB3 := bt HB2 hb3; obtain ⟨r3hq1, r3hq2, hqt3⟩ := hE.out w3 HB3; have g3_3 := r3hq1.2 3 (by simp); have g3_4 := r3hq1.2 4 (by simp); have g3_5 := r3hq1.2 5 (by simp); have g3_6 := r3hq1.2 6 (by simp); have g3_7 := r3hq1.2 7 (by simp); simp only [cqs, cqz] at g3_3 g3_4 g3_5 g3_6 g3_7; have gx3 := r3hq2.2 0 (by simp); simp only [cqz] at gx3) | (go_at_call 22; (with_reducible refine (HC_r.out w3 hqt3).mono ?_); rintro e94 w4 ⟨rfl, hb4⟩; have HB4 := bt HB3 hb4; obtain ⟨r4hq1, r4hq2, hqt4⟩ := hE.out w4 HB4; have g4_4 := r4hq1.2 4 (by simp); have g4_5 := r4hq1.2 5 (by simp); have g4_6 := r4hq1.2 6 (by simp); have g4_7 := r4hq1.2 7 (by simp); simp only [cqs, cqz] at g4_4 g4_5 g4_6 g4_7; have gx4 := r4hq2.2 0 (by simp); simp only [cqz] at gx4) | (go_at_call 22; (with_reducible refine (HC_m.out w4 hqt4).mono ?_); rintro e95 w5 ⟨rfl, hb5⟩; have HB5 := bt HB4 hb5; obtain ⟨r5hq1, r5hq2, hqt5⟩ := hE.out w5 HB5; have g5_5 := r5hq1.2 5 (by simp); have g5_6 := r5hq1.2 6 (by simp); have g5_7 := r5hq1.2 7 (by simp); simp only [cqs, cqz] at g5_5 g5_6 g5_7; have gx5 := r5hq2.2 0 (by simp); simp only [cqz] at gx5) | (go_at_call 19; (with_reducible refine (HC_f.out w5 hqt5).mono ?_); rintro e96 w6 ⟨rfl, hb6⟩; have HB6 := bt HB5 hb6; obtain ⟨r6hq1, r6hq2, hqt6⟩ := hE.out w6 HB6; have g6_6 := r6hq1.2 6 (by simp); have g6_7 := r6hq1.2 7 (by simp); simp only [cqs, cqz] at g6_6 g6_7; have gx6 := r6hq2.2 0 (by simp); simp only [cqz] at gx6) | (go_at_call 24; (with_reducible refine (HC_p.out w6 hqt6).mono ?_); rintro e97 w7 ⟨rfl, hb7⟩; have HB7 := bt HB6 hb7; obtain ⟨r7hq1, r7hq2, hqt7⟩ := hE.out w7 HB7; have g7_7 := r7hq1.2 7 (by simp); simp only [cqs, cqz] at g7_7; have gx7 := r7hq2.2 0 (by simp); simp only [cqz] at gx7) | (go_at_call 24; (with_reducible refine (HC_g.out w7 hqt7).mono ?_); rintro e98 w8 ⟨rfl, hb8⟩; have HB8 := bt HB7 hb8; obtain ⟨r8hq1, r8hq2, hqt8⟩ := hE.out w8 HB8; have gx8 := r8hq2.2 0 (by simp); simp only [cqz] at gx8))
                  go_ret
                  exact ⟨ret_bool hfin.out.symm, hqt8⟩
              · have hfin : Hid (dec (SrcR ⟨x_title, x_author, x_start, x_release, x_most, x_flags, x_props, x_globals, x_objects, x_verbs, x_rules, x_funcs, x_daemons⟩) = false) := dec_false (fun h => h_p h.2.2.2.2.2.2.1)
                simp only [dec_true h_t] at hc_t
                have HC_t := Lib.hid hc_t
                simp only [dec_true h_a] at hc_a
                have HC_a := Lib.hid hc_a
                simp only [dec_true h_s] at hc_s
                have HC_s := Lib.hid hc_s
                simp only [dec_true h_r] at hc_r
                have HC_r := Lib.hid hc_r
                simp only [dec_true h_m] at hc_m
                have HC_m := Lib.hid hc_m
                simp only [dec_true h_f] at hc_f
                have HC_f := Lib.hid hc_f
                simp only [dec_false h_p] at hc_p
                have HC_p := Lib.hid hc_p
                clear hc_t hc_a hc_s hc_r hc_m hc_f hc_p hc_g hc_o hc_v hc_u hc_F hc_D ka5 ka6 ka7 ka8 ka9 ka10 ka11 ka12 z_title z_author z_start z_release z_most hF hm h_t h_a h_s h_r h_m h_f h_p
                go_enter Tryz.func9, Tryz.ntmps9
                go_upto_region 3 with fail
                rw [HW1.out, HW2.out]
                obtain ⟨hq1, hq2, hqt0⟩ := hE.out W2 (Below.refl _ _)
                have HB0 : Below W2.heap.size W2 W2 := Below.refl _ _
                have g0 := hq1.2 0 (by simp)
                have g1 := hq1.2 1 (by simp)
                have g2 := hq1.2 2 (by simp)
                have g3 := hq1.2 3 (by simp)
                have g4 := hq1.2 4 (by simp)
                have g5 := hq1.2 5 (by simp)
                have g6 := hq1.2 6 (by simp)
                simp only [cqs, cqz] at g0 g1 g2 g3 g4 g5 g6
                have gx := hq2.2 0 (by simp)
                simp only [cqz] at gx
                go_wp2_with (first | (go_at_call 23; (with_reducible refine (HC_t.out W2 hqt0).mono ?_); rintro e91 w1 ⟨rfl, hb1⟩; have HB1 := bt HB0 hb1; obtain ⟨r1hq1, r1hq2, hqt1⟩ := hE.out w1 HB1; have g1_1 := r1hq1.2 1 (by simp); have g1_2 := r1hq1.2 2 (by simp); have g1_3 := r1hq1.2 3 (by simp); have g1_4 := r1hq1.2 4 (by simp); have g1_5 := r1hq1.2 5 (by simp); have g1_6 := r1hq1.2 6 (by simp); simp only [cqs, cqz] at g1_1 g1_2 g1_3 g1_4 g1_5 g1_6; have gx1 := r1hq2.2 0 (by simp); simp only [cqz] at gx1) | (go_at_call 23; (with_reducible refine (HC_a.out w1 hqt1).mono ?_); rintro e92 w2 ⟨rfl, hb2⟩; have HB2 := bt HB1 hb2; obtain ⟨r2hq1, r2hq2, hqt2⟩ := hE.out w2 HB2; have g2_2 := r2hq1.2 2 (by simp); have g2_3 := r2hq1.2 3 (by simp); have g2_4 := r2hq1.2 4 (by simp); have g2_5 := r2hq1.2 5 (by simp); have g2_6 := r2hq1.2 6 (by simp); simp only [cqs, cqz] at g2_2 g2_3 g2_4 g2_5 g2_6; have gx2 := r2hq2.2 0 (by simp); simp only [cqz] at gx2) | (go_at_call 18; (with_reducible refine (HC_s.out w2 hqt2).mono ?_); rintro e93 w3 ⟨rfl, hb3⟩; have HB3 := bt HB2 hb3; obtain ⟨r3hq1, r3hq2, hqt3⟩ := hE.out w3 HB3; have g3_3 := r3hq1.2 3 (by simp); have g3_4 := r3hq1.2 4 (by simp); have g3_5 := r3hq1.2 5 (by simp); have g3_6 := r3hq1.2 6 (by simp); simp only [cqs, cqz] at g3_3 g3_4 g3_5 g3_6; have gx3 := r3hq2.2 0 (by simp); simp only [cqz] at gx3) | (go_at_call 22; (with_reducible refine (HC_r.out w3 hqt3).mono ?_); rintro e94 w4 ⟨rfl, hb4⟩; have HB4 := bt HB3 hb4; obtain ⟨r4hq1, r4hq2, hqt4⟩ := hE.out w4 HB4; have g4_4 := r4hq1.2 4 (by simp); have g4_5 := r4hq1.2 5 (by simp); have g4_6 := r4hq1.2 6 (by simp); simp only [cqs, cqz] at g4_4 g4_5 g4_6; have gx4 := r4hq2.2 0 (by simp); simp only [cqz] at gx4) | (go_at_call 22; (with_reducible refine (HC_m.out w4 hqt4).mono ?_); rintro e95 w5 ⟨rfl, hb5⟩; have HB5 := bt HB4 hb5; obtain ⟨r5hq1, r5hq2, hqt5⟩ := hE.out w5 HB5; have g5_5 := r5hq1.2 5 (by simp); have g5_6 := r5hq1.2 6 (by simp); simp only [cqs, cqz] at g5_5 g5_6; have gx5 := r5hq2.2 0 (by simp); simp only [cqz] at gx5) | (go_at_call 19; (with_reducible refine (HC_f.out w5 hqt5).mono ?_); rintro e96 w6 ⟨rfl, hb6⟩; have HB6 := bt HB5 hb6; obtain ⟨r6hq1, r6hq2, hqt6⟩ := hE.out w6 HB6; have g6_6 := r6hq1.2 6 (by simp); simp only [cqs, cqz] at g6_6; have gx6 := r6hq2.2 0 (by simp); simp only [cqz] at gx6) | (go_at_call 24; (with_reducible refine (HC_p.out w6 hqt6).mono ?_); rintro e97 w7 ⟨rfl, hb7⟩; have HB7 := bt HB6 hb7; obtain ⟨r7hq1, r7hq2, hqt7⟩ := hE.out w7 HB7; have gx7 := r7hq2.2 0 (by simp); simp only [cqz] at gx7))
                go_ret
                exact ⟨ret_bool hfin.out.symm, hqt7⟩
            · have hfin : Hid (dec (SrcR ⟨x_title, x_author, x_start, x_release, x_most, x_flags, x_props, x_globals, x_objects, x_verbs, x_rules, x_funcs, x_daemons⟩) = false) := dec_false (fun h => h_f h.2.2.2.2.2.1)
              simp only [dec_true h_t] at hc_t
              have HC_t := Lib.hid hc_t
              simp only [dec_true h_a] at hc_a
              have HC_a := Lib.hid hc_a
              simp only [dec_true h_s] at hc_s
              have HC_s := Lib.hid hc_s
              simp only [dec_true h_r] at hc_r
              have HC_r := Lib.hid hc_r
              simp only [dec_true h_m] at hc_m
              have HC_m := Lib.hid hc_m
              simp only [dec_false h_f] at hc_f
              have HC_f := Lib.hid hc_f
              clear hc_t hc_a hc_s hc_r hc_m hc_f hc_p hc_g hc_o hc_v hc_u hc_F hc_D ka5 ka6 ka7 ka8 ka9 ka10 ka11 ka12 z_title z_author z_start z_release z_most hF hm h_t h_a h_s h_r h_m h_f
              go_enter Tryz.func9, Tryz.ntmps9
              go_upto_region 3 with fail
              rw [HW1.out, HW2.out]
              obtain ⟨hq1, hq2, hqt0⟩ := hE.out W2 (Below.refl _ _)
              have HB0 : Below W2.heap.size W2 W2 := Below.refl _ _
              have g0 := hq1.2 0 (by simp)
              have g1 := hq1.2 1 (by simp)
              have g2 := hq1.2 2 (by simp)
              have g3 := hq1.2 3 (by simp)
              have g4 := hq1.2 4 (by simp)
              have g5 := hq1.2 5 (by simp)
              simp only [cqs, cqz] at g0 g1 g2 g3 g4 g5
              have gx := hq2.2 0 (by simp)
              simp only [cqz] at gx
              go_wp2_with (first | (go_at_call 23; (with_reducible refine (HC_t.out W2 hqt0).mono ?_); rintro e91 w1 ⟨rfl, hb1⟩; have HB1 := bt HB0 hb1; obtain ⟨r1hq1, r1hq2, hqt1⟩ := hE.out w1 HB1; have g1_1 := r1hq1.2 1 (by simp); have g1_2 := r1hq1.2 2 (by simp); have g1_3 := r1hq1.2 3 (by simp); have g1_4 := r1hq1.2 4 (by simp); have g1_5 := r1hq1.2 5 (by simp); simp only [cqs, cqz] at g1_1 g1_2 g1_3 g1_4 g1_5; have gx1 := r1hq2.2 0 (by simp); simp only [cqz] at gx1) | (go_at_call 23; (with_reducible refine (HC_a.out w1 hqt1).mono ?_); rintro e92 w2 ⟨rfl, hb2⟩; have HB2 := bt HB1 hb2; obtain ⟨r2hq1, r2hq2, hqt2⟩ := hE.out w2 HB2; have g2_2 := r2hq1.2 2 (by simp); have g2_3 := r2hq1.2 3 (by simp); have g2_4 := r2hq1.2 4 (by simp); have g2_5 := r2hq1.2 5 (by simp); simp only [cqs, cqz] at g2_2 g2_3 g2_4 g2_5; have gx2 := r2hq2.2 0 (by simp); simp only [cqz] at gx2) | (go_at_call 18; (with_reducible refine (HC_s.out w2 hqt2).mono ?_); rintro e93 w3 ⟨rfl, hb3⟩; have HB3 := bt HB2 hb3; obtain ⟨r3hq1, r3hq2, hqt3⟩ := hE.out w3 HB3; have g3_3 := r3hq1.2 3 (by simp); have g3_4 := r3hq1.2 4 (by simp); have g3_5 := r3hq1.2 5 (by simp); simp only [cqs, cqz] at g3_3 g3_4 g3_5; have gx3 := r3hq2.2 0 (by simp); simp only [cqz] at gx3) | (go_at_call 22; (with_reducible refine (HC_r.out w3 hqt3).mono ?_); rintro e94 w4 ⟨rfl, hb4⟩; have HB4 := bt HB3 hb4; obtain ⟨r4hq1, r4hq2, hqt4⟩ := hE.out w4 HB4; have g4_4 := r4hq1.2 4 (by simp); have g4_5 := r4hq1.2 5 (by simp); simp only [cqs, cqz] at g4_4 g4_5; have gx4 := r4hq2.2 0 (by simp); simp only [cqz] at gx4) | (go_at_call 22; (with_reducible refine (HC_m.out w4 hqt4).mono ?_); rintro e95 w5 ⟨rfl, hb5⟩; have HB5 := bt HB4 hb5; obtain ⟨r5hq1, r5hq2, hqt5⟩ := hE.out w5 HB5; have g5_5 := r5hq1.2 5 (by simp); simp only [cqs, cqz] at g5_5; have gx5 := r5hq2.2 0 (by simp); simp only [cqz] at gx5) | (go_at_call 19; (with_reducible refine (HC_f.out w5 hqt5).mono ?_); rintro e96 w6 ⟨rfl, hb6⟩; have HB6 := bt HB5 hb6; obtain ⟨r6hq1, r6hq2, hqt6⟩ := hE.out w6 HB6; have gx6 := r6hq2.2 0 (by simp); simp only [cqz] at gx6))
              go_ret
              exact ⟨ret_bool hfin.out.symm, hqt6⟩
          · have hfin : Hid (dec (SrcR ⟨x_title, x_author, x_start, x_release, x_most, x_flags, x_props, x_globals, x_objects, x_verbs, x_rules, x_funcs, x_daemons⟩) = false) := dec_false (fun h => h_m h.2.2.2.2.1)
            simp only [dec_true h_t] at hc_t
            have HC_t := Lib.hid hc_t
            simp only [dec_true h_a] at hc_a
            have HC_a := Lib.hid hc_a
            simp only [dec_true h_s] at hc_s
            have HC_s := Lib.hid hc_s
            simp only [dec_true h_r] at hc_r
            have HC_r := Lib.hid hc_r
            simp only [dec_false h_m] at hc_m
            have HC_m := Lib.hid hc_m
            clear hc_t hc_a hc_s hc_r hc_m hc_f hc_p hc_g hc_o hc_v hc_u hc_F hc_D ka5 ka6 ka7 ka8 ka9 ka10 ka11 ka12 z_title z_author z_start z_release z_most hF hm h_t h_a h_s h_r h_m
            go_enter Tryz.func9, Tryz.ntmps9
            go_upto_region 3 with fail
            rw [HW1.out, HW2.out]
            obtain ⟨hq1, hq2, hqt0⟩ := hE.out W2 (Below.refl _ _)
            have HB0 : Below W2.heap.size W2 W2 := Below.refl _ _
            have g0 := hq1.2 0 (by simp)
            have g1 := hq1.2 1 (by simp)
            have g2 := hq1.2 2 (by simp)
            have g3 := hq1.2 3 (by simp)
            have g4 := hq1.2 4 (by simp)
            simp only [cqs, cqz] at g0 g1 g2 g3 g4
            have gx := hq2.2 0 (by simp)
            simp only [cqz] at gx
            go_wp2_with (first | (go_at_call 23; (with_reducible refine (HC_t.out W2 hqt0).mono ?_); rintro e91 w1 ⟨rfl, hb1⟩; have HB1 := bt HB0 hb1; obtain ⟨r1hq1, r1hq2, hqt1⟩ := hE.out w1 HB1; have g1_1 := r1hq1.2 1 (by simp); have g1_2 := r1hq1.2 2 (by simp); have g1_3 := r1hq1.2 3 (by simp); have g1_4 := r1hq1.2 4 (by simp); simp only [cqs, cqz] at g1_1 g1_2 g1_3 g1_4; have gx1 := r1hq2.2 0 (by simp); simp only [cqz] at gx1) | (go_at_call 23; (with_reducible refine (HC_a.out w1 hqt1).mono ?_); rintro e92 w2 ⟨rfl, hb2⟩; have HB2 := bt HB1 hb2; obtain ⟨r2hq1, r2hq2, hqt2⟩ := hE.out w2 HB2; have g2_2 := r2hq1.2 2 (by simp); have g2_3 := r2hq1.2 3 (by simp); have g2_4 := r2hq1.2 4 (by simp); simp only [cqs, cqz] at g2_2 g2_3 g2_4; have gx2 := r2hq2.2 0 (by simp); simp only [cqz] at gx2) | (go_at_call 18; (with_reducible refine (HC_s.out w2 hqt2).mono ?_); rintro e93 w3 ⟨rfl, hb3⟩; have HB3 := bt HB2 hb3; obtain ⟨r3hq1, r3hq2, hqt3⟩ := hE.out w3 HB3; have g3_3 := r3hq1.2 3 (by simp); have g3_4 := r3hq1.2 4 (by simp); simp only [cqs, cqz] at g3_3 g3_4; have gx3 := r3hq2.2 0 (by simp); simp only [cqz] at gx3) | (go_at_call 22; (with_reducible refine (HC_r.out w3 hqt3).mono ?_); rintro e94 w4 ⟨rfl, hb4⟩; have HB4 := bt HB3 hb4; obtain ⟨r4hq1, r4hq2, hqt4⟩ := hE.out w4 HB4; have g4_4 := r4hq1.2 4 (by simp); simp only [cqs, cqz] at g4_4; have gx4 := r4hq2.2 0 (by simp); simp only [cqz] at gx4) | (go_at_call 22; (with_reducible refine (HC_m.out w4 hqt4).mono ?_); rintro e95 w5 ⟨rfl, hb5⟩; have HB5 := bt HB4 hb5; obtain ⟨r5hq1, r5hq2, hqt5⟩ := hE.out w5 HB5; have gx5 := r5hq2.2 0 (by simp); simp only [cqz] at gx5))
            go_ret
            exact ⟨ret_bool hfin.out.symm, hqt5⟩
        · have hfin : Hid (dec (SrcR ⟨x_title, x_author, x_start, x_release, x_most, x_flags, x_props, x_globals, x_objects, x_verbs, x_rules, x_funcs, x_daemons⟩) = false) := dec_false (fun h => h_r h.2.2.2.1)
          simp only [dec_true h_t] at hc_t
          have HC_t := Lib.hid hc_t
          simp only [dec_true h_a] at hc_a
          have HC_a := Lib.hid hc_a
          simp only [dec_true h_s] at hc_s
          have HC_s := Lib.hid hc_s
          simp only [dec_false h_r] at hc_r
          have HC_r := Lib.hid hc_r
          clear hc_t hc_a hc_s hc_r hc_m hc_f hc_p hc_g hc_o hc_v hc_u hc_F hc_D ka5 ka6 ka7 ka8 ka9 ka10 ka11 ka12 z_title z_author z_start z_release z_most hF hm h_t h_a h_s h_r
          go_enter Tryz.func9, Tryz.ntmps9
          go_upto_region 3 with fail
          rw [HW1.out, HW2.out]
          obtain ⟨hq1, hq2, hqt0⟩ := hE.out W2 (Below.refl _ _)
          have HB0 : Below W2.heap.size W2 W2 := Below.refl _ _
          have g0 := hq1.2 0 (by simp)
          have g1 := hq1.2 1 (by simp)
          have g2 := hq1.2 2 (by simp)
          have g3 := hq1.2 3 (by simp)
          simp only [cqs, cqz] at g0 g1 g2 g3
          have gx := hq2.2 0 (by simp)
          simp only [cqz] at gx
          go_wp2_with (first | (go_at_call 23; (with_reducible refine (HC_t.out W2 hqt0).mono ?_); rintro e91 w1 ⟨rfl, hb1⟩; have HB1 := bt HB0 hb1; obtain ⟨r1hq1, r1hq2, hqt1⟩ := hE.out w1 HB1; have g1_1 := r1hq1.2 1 (by simp); have g1_2 := r1hq1.2 2 (by simp); have g1_3 := r1hq1.2 3 (by simp); simp only [cqs, cqz] at g1_1 g1_2 g1_3; have gx1 := r1hq2.2 0 (by simp); simp only [cqz] at gx1) | (go_at_call 23; (with_reducible refine (HC_a.out w1 hqt1).mono ?_); rintro e92 w2 ⟨rfl, hb2⟩; have HB2 := bt HB1 hb2; obtain ⟨r2hq1, r2hq2, hqt2⟩ := hE.out w2 HB2; have g2_2 := r2hq1.2 2 (by simp); have g2_3 := r2hq1.2 3 (by simp); simp only [cqs, cqz] at g2_2 g2_3; have gx2 := r2hq2.2 0 (by simp); simp only [cqz] at gx2) | (go_at_call 18; (with_reducible refine (HC_s.out w2 hqt2).mono ?_); rintro e93 w3 ⟨rfl, hb3⟩; have HB3 := bt HB2 hb3; obtain ⟨r3hq1, r3hq2, hqt3⟩ := hE.out w3 HB3; have g3_3 := r3hq1.2 3 (by simp); simp only [cqs, cqz] at g3_3; have gx3 := r3hq2.2 0 (by simp); simp only [cqz] at gx3) | (go_at_call 22; (with_reducible refine (HC_r.out w3 hqt3).mono ?_); rintro e94 w4 ⟨rfl, hb4⟩; have HB4 := bt HB3 hb4; obtain ⟨r4hq1, r4hq2, hqt4⟩ := hE.out w4 HB4; have gx4 := r4hq2.2 0 (by simp); simp only [cqz] at gx4))
          go_ret
          exact ⟨ret_bool hfin.out.symm, hqt4⟩
      · have hfin : Hid (dec (SrcR ⟨x_title, x_author, x_start, x_release, x_most, x_flags, x_props, x_globals, x_objects, x_verbs, x_rules, x_funcs, x_daemons⟩) = false) := dec_false (fun h => h_s h.2.2.1)
        simp only [dec_true h_t] at hc_t
        have HC_t := Lib.hid hc_t
        simp only [dec_true h_a] at hc_a
        have HC_a := Lib.hid hc_a
        simp only [dec_false h_s] at hc_s
        have HC_s := Lib.hid hc_s
        clear hc_t hc_a hc_s hc_r hc_m hc_f hc_p hc_g hc_o hc_v hc_u hc_F hc_D ka5 ka6 ka7 ka8 ka9 ka10 ka11 ka12 z_title z_author z_start z_release z_most hF hm h_t h_a h_s
        go_enter Tryz.func9, Tryz.ntmps9
        go_upto_region 3 with fail
        rw [HW1.out, HW2.out]
        obtain ⟨hq1, hq2, hqt0⟩ := hE.out W2 (Below.refl _ _)
        have HB0 : Below W2.heap.size W2 W2 := Below.refl _ _
        have g0 := hq1.2 0 (by simp)
        have g1 := hq1.2 1 (by simp)
        have g2 := hq1.2 2 (by simp)
        simp only [cqs, cqz] at g0 g1 g2
        have gx := hq2.2 0 (by simp)
        simp only [cqz] at gx
        go_wp2_with (first | (go_at_call 23; (with_reducible refine (HC_t.out W2 hqt0).mono ?_); rintro e91 w1 ⟨rfl, hb1⟩; have HB1 := bt HB0 hb1; obtain ⟨r1hq1, r1hq2, hqt1⟩ := hE.out w1 HB1; have g1_1 := r1hq1.2 1 (by simp); have g1_2 := r1hq1.2 2 (by simp); simp only [cqs, cqz] at g1_1 g1_2; have gx1 := r1hq2.2 0 (by simp); simp only [cqz] at gx1) | (go_at_call 23; (with_reducible refine (HC_a.out w1 hqt1).mono ?_); rintro e92 w2 ⟨rfl, hb2⟩; have HB2 := bt HB1 hb2; obtain ⟨r2hq1, r2hq2, hqt2⟩ := hE.out w2 HB2; have g2_2 := r2hq1.2 2 (by simp); simp only [cqs, cqz] at g2_2; have gx2 := r2hq2.2 0 (by simp); simp only [cqz] at gx2) | (go_at_call 18; (with_reducible refine (HC_s.out w2 hqt2).mono ?_); rintro e93 w3 ⟨rfl, hb3⟩; have HB3 := bt HB2 hb3; obtain ⟨r3hq1, r3hq2, hqt3⟩ := hE.out w3 HB3; have gx3 := r3hq2.2 0 (by simp); simp only [cqz] at gx3))
        go_ret
        exact ⟨ret_bool hfin.out.symm, hqt3⟩
    · have hfin : Hid (dec (SrcR ⟨x_title, x_author, x_start, x_release, x_most, x_flags, x_props, x_globals, x_objects, x_verbs, x_rules, x_funcs, x_daemons⟩) = false) := dec_false (fun h => h_a h.2.1)
      simp only [dec_true h_t] at hc_t
      have HC_t := Lib.hid hc_t
      simp only [dec_false h_a] at hc_a
      have HC_a := Lib.hid hc_a
      clear hc_t hc_a hc_s hc_r hc_m hc_f hc_p hc_g hc_o hc_v hc_u hc_F hc_D ka5 ka6 ka7 ka8 ka9 ka10 ka11 ka12 z_title z_author z_start z_release z_most hF hm h_t h_a
      go_enter Tryz.func9, Tryz.ntmps9
      go_upto_region 3 with fail
      rw [HW1.out, HW2.out]
      obtain ⟨hq1, hq2, hqt0⟩ := hE.out W2 (Below.refl _ _)
      have HB0 : Below W2.heap.size W2 W2 := Below.refl _ _
      have g0 := hq1.2 0 (by simp)
      have g1 := hq1.2 1 (by simp)
      simp only [cqs, cqz] at g0 g1
      have gx := hq2.2 0 (by simp)
      simp only [cqz] at gx
      go_wp2_with (first | (go_at_call 23; (with_reducible refine (HC_t.out W2 hqt0).mono ?_); rintro e91 w1 ⟨rfl, hb1⟩; have HB1 := bt HB0 hb1; obtain ⟨r1hq1, r1hq2, hqt1⟩ := hE.out w1 HB1; have g1_1 := r1hq1.2 1 (by simp); simp only [cqs, cqz] at g1_1; have gx1 := r1hq2.2 0 (by simp); simp only [cqz] at gx1) | (go_at_call 23; (with_reducible refine (HC_a.out w1 hqt1).mono ?_); rintro e92 w2 ⟨rfl, hb2⟩; have HB2 := bt HB1 hb2; obtain ⟨r2hq1, r2hq2, hqt2⟩ := hE.out w2 HB2; have gx2 := r2hq2.2 0 (by simp); simp only [cqz] at gx2))
      go_ret
      exact ⟨ret_bool hfin.out.symm, hqt2⟩
  · have hfin : Hid (dec (SrcR ⟨x_title, x_author, x_start, x_release, x_most, x_flags, x_props, x_globals, x_objects, x_verbs, x_rules, x_funcs, x_daemons⟩) = false) := dec_false (fun h => h_t h.1)
    simp only [dec_false h_t] at hc_t
    have HC_t := Lib.hid hc_t
    clear hc_t hc_a hc_s hc_r hc_m hc_f hc_p hc_g hc_o hc_v hc_u hc_F hc_D ka5 ka6 ka7 ka8 ka9 ka10 ka11 ka12 z_title z_author z_start z_release z_most hF hm h_t
    go_enter Tryz.func9, Tryz.ntmps9
    go_upto_region 3 with fail
    rw [HW1.out, HW2.out]
    obtain ⟨hq1, hq2, hqt0⟩ := hE.out W2 (Below.refl _ _)
    have HB0 : Below W2.heap.size W2 W2 := Below.refl _ _
    have g0 := hq1.2 0 (by simp)
    simp only [cqz] at g0
    have gx := hq2.2 0 (by simp)
    simp only [cqz] at gx
    go_wp2_with (go_at_call 23; (with_reducible refine (HC_t.out W2 hqt0).mono ?_); rintro e91 w1 ⟨rfl, hb1⟩; have HB1 := bt HB0 hb1; obtain ⟨r1hq1, r1hq2, hqt1⟩ := hE.out w1 HB1; have gx1 := r1hq2.2 0 (by simp); simp only [cqz] at gx1)
    go_ret
    exact ⟨ret_bool hfin.out.symm, hqt1⟩
end Go.Proofs.YtmabeegoapcfpaaGreatDoor
