/- The reference's Right (clewref14) of conditions, rules, verbs, objects and sources. Printed by gen-show8.py. -/
import Derived.Test.YtdeecfkipknkbaaGreatDoorPart88a0c298
import Derived.Laws.EntriesVeiled
namespace Go.Proofs.YtdeecfkipknkbaaGreatDoor
set_option maxRecDepth 100000
set_option maxHeartbeats 4000000
open Go.RowKit
theorem rrWhen_calls (F : Nat → Prop) (w : World) (l : List Ex) (v : Value) (hF : Inn F w) (hr : Exs F w l v) :
 Calls Tryz.prog 78 #[v] w (Gives w (.bool (dec (WhenR l)))) := by
 obtain ⟨a, cap, rfl, hl, hc, ha⟩ := (exs_rdl hr).opn
 clear hr
 unfold maxLen at hc
 rcases l with _ | ⟨x, _ | ⟨y, l⟩⟩
 · have hfin : Hid (dec (WhenR []) = true) := dec_true ⟨by simp, fun y hy => by cases hy⟩
   simp only [List.length_nil]
   clear ha hF
   go_enter Tryz.func78, Tryz.ntmps78
   go_wp2
   go_ret
   exact ⟨ret_bool hfin.out.symm, Below.refl _ _⟩
 rotate_left
 · have hfin : Hid (dec (WhenR (x :: y :: l)) = false) := dec_false (fun h => by have h2 := h.1; simp only [List.length_cons] at h2; omega)
   obtain ⟨m, hm⟩ : ∃ m, (x :: y :: l).length = m := ⟨_, rfl⟩
   have hm2 : 2 ≤ m := by rw [← hm]; simp
   rw [hm]
   have e0 : ((m : Int) == 0) = false := by simp; omega
   have e1 : ((m : Int) == 1) = false := by simp; omega
   clear ha hF hm hl
   go_enter Tryz.func78, Tryz.ntmps78
   go_wp2
   go_ret
   exact ⟨ret_bool hfin.out.symm, Below.refl _ _⟩
 obtain ⟨b, off, rfl, hFb, hel⟩ := ha (by simp)
 obtain ⟨cs, hx, -, hcell⟩ := hel w rfl 0 (by simp)
 simp only [List.getElem_cons_zero] at hx
 simp only [List.length_cons, List.length_nil] at hl
 show Calls Tryz.prog 78 #[.slice (some ⟨b, off, none⟩) 1 cap] w _
 have hx2 := hx
 obtain ⟨q1, q2, q3, q4, da4, fa4, rfl⟩ := ex_shape hx2
 obtain ⟨hq1, -, -, -, -, -, -, -, -⟩ := hx.parts
 have g0 := hcell 0 _ rfl
 have g1 := hcell 1 _ rfl
 have g2 := hcell 2 _ rfl
 have g3 := hcell 3 _ rfl
 have g4 := hcell 4 _ rfl
 simp only [Nat.zero_mul, Nat.add_zero] at g0 g1 g2 g3 g4
 have hc_r := fun (W : World) (hW : Below w.heap.size w W) => rightRef_calls x F W _ (hF.below hW) (RdEx.below hx hF hW (Nat.le_refl _))
 have hc_D := fun (W : World) (hW : Below w.heap.size w W) => depthR_calls x F W _ (hF.below hW) (RdEx.below hx hF hW (Nat.le_refl _))
 by_cases h_a : ¬ q1 = 2
 · by_cases h_b : ¬ q1 = 13
   · by_cases h_r : RightE x
     · by_cases h_d : ((min x.depth 65 : Nat) : Int) < 32
       · have hfin : Hid (dec (WhenR [x]) = true) := dec_true ⟨by simp, fun y hy => by rw [List.mem_singleton.1 hy]; exact ⟨by rw [hq1]; exact h_a, by rw [hq1]; exact h_b, h_r, h_d⟩⟩
         simp only [dec_true h_r] at hc_r
         have HC_r := Lib.hid hc_r
         have HC_D := Lib.hid hc_D
         have e_a0 : (q1 != 2) = true := by simpa using h_a
         have e_a1 : (q1 == 2) = false := by simpa using h_a
         have e_b2 : (q1 != 13) = true := by simpa using h_b
         have e_b3 : (q1 == 13) = false := by simpa using h_b
         have e_d4 : decide (((min x.depth 65 : Nat) : Int) ≤ 31) = true := decide_eq_true (by omega)
         clear hc_r hc_D hx hx2 hq1 hF ha hel hcell h_a h_b h_r h_d
         have HB0 := b0' w
         go_enter Tryz.func78, Tryz.ntmps78
         go_wp2_with (first | (go_at_call 159; (with_reducible refine (HC_r.out w HB0).mono ?_); rintro e91 w1 ⟨rfl, hb1⟩; have HB1 := bt HB0 hb1; have g1_0 := (HB1.cell (World.block_lt_of_cell? _ _ g0)).trans g0; have g1_1 := (HB1.cell (World.block_lt_of_cell? _ _ g1)).trans g1; have g1_2 := (HB1.cell (World.block_lt_of_cell? _ _ g2)).trans g2; have g1_3 := (HB1.cell (World.block_lt_of_cell? _ _ g3)).trans g3; have g1_4 := (HB1.cell (World.block_lt_of_cell? _ _ g4)).trans g4) | (go_at_call 160; (with_reducible refine (HC_D.out w1 HB1).mono ?_); rintro e92 w2 ⟨rfl, hb2⟩; have HB2 := bt HB1 hb2))
         go_ret
         exact ⟨ret_bool hfin.out.symm, HB2⟩
       have hfin : Hid (dec (WhenR [x]) = false) := dec_false (fun h => h_d (h.2 x (List.mem_singleton.2 rfl)).2.2.2)
       simp only [dec_true h_r] at hc_r
       have HC_r := Lib.hid hc_r
       have HC_D := Lib.hid hc_D
       have e_a0 : (q1 != 2) = true := by simpa using h_a
       have e_a1 : (q1 == 2) = false := by simpa using h_a
       have e_b2 : (q1 != 13) = true := by simpa using h_b
       have e_b3 : (q1 == 13) = false := by simpa using h_b
       have e_d4 : decide (((min x.depth 65 : Nat) : Int) ≤ 31) = false := decide_eq_false (by omega)
       clear hc_r hc_D hx hx2 hq1 hF ha hel hcell h_a h_b h_r h_d
       have HB0 := b0' w
       go_enter Tryz.func78, Tryz.ntmps78
       go_wp2_with (first | (go_at_call 159; (with_reducible refine (HC_r.out w HB0).mono ?_); rintro e91 w1 ⟨rfl, hb1⟩; have HB1 := bt HB0 hb1; have g1_0 := (HB1.cell (World.block_lt_of_cell? _ _ g0)).trans g0; have g1_1 := (HB1.cell (World.block_lt_of_cell? _ _ g1)).trans g1; have g1_2 := (HB1.cell (World.block_lt_of_cell? _ _ g2)).trans g2; have g1_3 := (HB1.cell (World.block_lt_of_cell? _ _ g3)).trans g3; have g1_4 := (HB1.cell (World.block_lt_of_cell? _ _ g4)).trans g4) | (go_at_call 160; (with_reducible refine (HC_D.out w1 HB1).mono ?_); rintro e92 w2 ⟨rfl, hb2⟩; have HB2 := bt HB1 hb2))
       go_ret
       exact ⟨ret_bool hfin.out.symm, HB2⟩
     have hfin : Hid (dec (WhenR [x]) = false) := dec_false (fun h => h_r (h.2 x (List.mem_singleton.2 rfl)).2.2.1)
     simp only [dec_false h_r] at hc_r
     have HC_r := Lib.hid hc_r
     have e_a0 : (q1 != 2) = true := by simpa using h_a
     have e_a1 : (q1 == 2) = false := by simpa using h_a
     have e_b2 : (q1 != 13) = true := by simpa using h_b
     have e_b3 : (q1 == 13) = false := by simpa using h_b
     clear hc_r hc_D hx hx2 hq1 hF ha hel hcell h_a h_b h_r
     have HB0 := b0' w
     go_enter Tryz.func78, Tryz.ntmps78
     go_wp2_with (go_at_call 159; (with_reducible refine (HC_r.out w HB0).mono ?_); rintro e91 w1 ⟨rfl, hb1⟩; have HB1 := bt HB0 hb1)
     go_ret
     exact ⟨ret_bool hfin.out.symm, HB1⟩
   have hfin : Hid (dec (WhenR [x]) = false) := dec_false (fun h => (h.2 x (List.mem_singleton.2 rfl)).2.1 (hq1.trans (Classical.not_not.1 h_b)))
   have e_a0 : (q1 != 2) = true := by simpa using h_a
   have e_a1 : (q1 == 2) = false := by simpa using h_a
   have e_b2 : (q1 != 13) = false := by simpa using h_b
   have e_b3 : (q1 == 13) = true := by simpa using h_b
   clear hc_r hc_D hx hx2 hq1 hF ha hel hcell h_a h_b
   have HB0 := b0' w
   go_enter Tryz.func78, Tryz.ntmps78
   go_wp2_with fail
   go_ret
   exact ⟨ret_bool hfin.out.symm, HB0⟩
 have hfin : Hid (dec (WhenR [x]) = false) := dec_false (fun h => (h.2 x (List.mem_singleton.2 rfl)).1 (hq1.trans (Classical.not_not.1 h_a)))
 have e_a0 : (q1 != 2) = false := by simpa using h_a
 have e_a1 : (q1 == 2) = true := by simpa using h_a
 clear hc_r hc_D hx hx2 hq1 hF ha hel hcell h_a
 have HB0 := b0' w
 go_enter Tryz.func78, Tryz.ntmps78
 go_wp2_with fail
 go_ret
 exact ⟨ret_bool hfin.out.symm, HB0⟩
theorem rrRule_calls (F : Nat → Prop) (w : World) (x : RuleD) (cs : List Value) (hF : Inn F w) (hx : Holds.rule.R F w x cs) :
 Calls Tryz.prog 33 #[.agg cs.toArray] w (Gives w (.bool (dec (RuleR x)))) := by
 obtain ⟨x_verb, x_phase, x_noun, x_second, x_cond, x_body⟩ := x
 obtain ⟨z_verb, z_phase, z_noun, z_second, va4, va5, rfl, ka4, ka5⟩ := hx
 simp only at ka4 ka5 z_verb z_phase z_noun z_second
 obtain ⟨da4, fa4, rfl⟩ := ka4.shape
 obtain ⟨da5, fa5, rfl⟩ := ka5.shape
 obtain ⟨W1, hW1⟩ : ∃ W1, w.alloc (.cells #[.string x_verb, .int .i64 x_phase, .string x_noun, .string x_second, .slice da4 x_cond.length fa4, .slice da5 x_body.length fa5] 70) = W1 := ⟨_, rfl⟩
 have hs1 := bs' hW1
 have hb1 := ba' hW1
 have hbx1 := bn' hW1
 have hE : Hid (∀ W, Below W1.heap.size W1 W → BoxAt W (w.heap.size) [.string x_verb, .int .i64 x_phase, .string x_noun, .string x_second, .slice da4 x_cond.length fa4, .slice da5 x_body.length fa5] ∧ Below w.heap.size w W) := fun W h2 => ⟨hbx1.below h2 (by omega), (bt hb1 h2)⟩
 have HZ0 := Lib.hid hs1
 have HW1 := Lib.hid hW1
 clear hW1 hs1 hb1 hbx1
 have hc_n := fun (W : World) (hW : Below w.heap.size w W) => rrName_calls x_verb W z_verb
 have hc_o := fun (W : World) (hW : Below w.heap.size w W) => rrName_calls x_noun W z_noun
 have hc_s := fun (W : World) (hW : Below w.heap.size w W) => rrName_calls x_second W z_second
 have hc_w := fun (W : World) (hW : Below w.heap.size w W) => rrWhen_calls F W x_cond _ (hF.below hW) (Exs.below ka4 hF hW (Nat.le_refl _))
 have hc_b := fun (W : World) (hW : Below w.heap.size w W) => rightBlockR_calls x_body F W _ (hF.below hW) (Sts.below ka5 hF hW (Nat.le_refl _))
 by_cases h_n : IsNm x_verb
 · by_cases h_l : (1 : Int) ≤ x_phase
   · by_cases h_h : x_phase ≤ (3 : Int)
     · by_cases h_e : x_noun = ⟨#[]⟩
       · by_cases h_f : x_second = ⟨#[]⟩
         · by_cases h_w : WhenR x_cond
           · by_cases h_b : RightB x_body
             · have hfin : Hid (dec (RuleR ⟨x_verb, x_phase, x_noun, x_second, x_cond, x_body⟩) = true) := dec_true ⟨h_n, h_l, h_h, Or.inl h_e, Or.inl h_f, h_w, h_b⟩
               simp only [dec_true h_n] at hc_n
               have HC_n := Lib.hid hc_n
               simp only [dec_true h_w] at hc_w
               have HC_w := Lib.hid hc_w
               simp only [dec_true h_b] at hc_b
               have HC_b := Lib.hid hc_b
               have e0 : decide ((1 : Int) ≤ x_phase) = true := decide_eq_true h_l
               have e1 : decide (x_phase ≤ (3 : Int)) = true := decide_eq_true h_h
               have e2 : x_noun.toList.isEmpty = true := emp_t h_e
               have e3 : x_second.toList.isEmpty = true := emp_t h_f
               clear hc_n hc_o hc_s hc_w hc_b ka4 ka5 z_verb z_phase z_noun z_second hF h_n h_l h_h h_e h_f h_w h_b
               go_enter Tryz.func33, Tryz.ntmps33
               go_upto_region 1 with fail
               rw [HW1.out]
               obtain ⟨hq1, hqt0⟩ := hE.out W1 (Below.refl _ _)
               have HB0 := b0' W1
               obtain ⟨g0, g1, g2, g3, g4, g5⟩ := p5' hq1.2
               go_wp2_with (first | (go_at_call 27; (with_reducible refine (HC_n.out W1 hqt0).mono ?_); rintro e91 w1 ⟨rfl, hb1⟩; have HB1 := bt HB0 hb1; obtain ⟨r1hq1, hqt1⟩ := hE.out w1 HB1; have g1_1 := e1' r1hq1.2; have g1_2 := e2' r1hq1.2; have g1_3 := e3' r1hq1.2; have g1_4 := e4' r1hq1.2; have g1_5 := e5' r1hq1.2) | (go_at_call 78; (with_reducible refine (HC_w.out w1 hqt1).mono ?_); rintro e92 w2 ⟨rfl, hb2⟩; have HB2 := bt HB1 hb2; obtain ⟨r2hq1, hqt2⟩ := hE.out w2 HB2; have g2_5 := e5' r2hq1.2) | (go_at_call 56; (with_reducible refine (HC_b.out w2 hqt2).mono ?_); rintro e93 w3 ⟨rfl, hb3⟩; have HB3 := bt HB2 hb3; obtain ⟨r3hq1, hqt3⟩ := hE.out w3 HB3))
               go_ret
               exact ⟨ret_bool hfin.out.symm, hqt3⟩
             have hfin : Hid (dec (RuleR ⟨x_verb, x_phase, x_noun, x_second, x_cond, x_body⟩) = false) := dec_false (fun h => h_b h.2.2.2.2.2.2)
             simp only [dec_true h_n] at hc_n
             have HC_n := Lib.hid hc_n
             simp only [dec_true h_w] at hc_w
             have HC_w := Lib.hid hc_w
             simp only [dec_false h_b] at hc_b
             have HC_b := Lib.hid hc_b
             have e0 : decide ((1 : Int) ≤ x_phase) = true := decide_eq_true h_l
             have e1 : decide (x_phase ≤ (3 : Int)) = true := decide_eq_true h_h
             have e2 : x_noun.toList.isEmpty = true := emp_t h_e
             have e3 : x_second.toList.isEmpty = true := emp_t h_f
             clear hc_n hc_o hc_s hc_w hc_b ka4 ka5 z_verb z_phase z_noun z_second hF h_n h_l h_h h_e h_f h_w h_b
             go_enter Tryz.func33, Tryz.ntmps33
             go_upto_region 1 with fail
             rw [HW1.out]
             obtain ⟨hq1, hqt0⟩ := hE.out W1 (Below.refl _ _)
             have HB0 := b0' W1
             obtain ⟨g0, g1, g2, g3, g4, g5⟩ := p5' hq1.2
             go_wp2_with (first | (go_at_call 27; (with_reducible refine (HC_n.out W1 hqt0).mono ?_); rintro e91 w1 ⟨rfl, hb1⟩; have HB1 := bt HB0 hb1; obtain ⟨r1hq1, hqt1⟩ := hE.out w1 HB1; have g1_1 := e1' r1hq1.2; have g1_2 := e2' r1hq1.2; have g1_3 := e3' r1hq1.2; have g1_4 := e4' r1hq1.2; have g1_5 := e5' r1hq1.2) | (go_at_call 78; (with_reducible refine (HC_w.out w1 hqt1).mono ?_); rintro e92 w2 ⟨rfl, hb2⟩; have HB2 := bt HB1 hb2; obtain ⟨r2hq1, hqt2⟩ := hE.out w2 HB2; have g2_5 := e5' r2hq1.2) | (go_at_call 56; (with_reducible refine (HC_b.out w2 hqt2).mono ?_); rintro e93 w3 ⟨rfl, hb3⟩; have HB3 := bt HB2 hb3; obtain ⟨r3hq1, hqt3⟩ := hE.out w3 HB3))
             go_ret
             exact ⟨ret_bool hfin.out.symm, hqt3⟩
           have hfin : Hid (dec (RuleR ⟨x_verb, x_phase, x_noun, x_second, x_cond, x_body⟩) = false) := dec_false (fun h => h_w h.2.2.2.2.2.1)
           simp only [dec_true h_n] at hc_n
           have HC_n := Lib.hid hc_n
           simp only [dec_false h_w] at hc_w
           have HC_w := Lib.hid hc_w
           have e0 : decide ((1 : Int) ≤ x_phase) = true := decide_eq_true h_l
           have e1 : decide (x_phase ≤ (3 : Int)) = true := decide_eq_true h_h
           have e2 : x_noun.toList.isEmpty = true := emp_t h_e
           have e3 : x_second.toList.isEmpty = true := emp_t h_f
           clear hc_n hc_o hc_s hc_w hc_b ka4 ka5 z_verb z_phase z_noun z_second hF h_n h_l h_h h_e h_f h_w
           go_enter Tryz.func33, Tryz.ntmps33
           go_upto_region 1 with fail
           rw [HW1.out]
           obtain ⟨hq1, hqt0⟩ := hE.out W1 (Below.refl _ _)
           have HB0 := b0' W1
           obtain ⟨g0, g1, g2, g3, g4⟩ := p4' hq1.2
           go_wp2_with (first | (go_at_call 27; (with_reducible refine (HC_n.out W1 hqt0).mono ?_); rintro e91 w1 ⟨rfl, hb1⟩; have HB1 := bt HB0 hb1; obtain ⟨r1hq1, hqt1⟩ := hE.out w1 HB1; have g1_1 := e1' r1hq1.2; have g1_2 := e2' r1hq1.2; have g1_3 := e3' r1hq1.2; have g1_4 := e4' r1hq1.2) | (go_at_call 78; (with_reducible refine (HC_w.out w1 hqt1).mono ?_); rintro e92 w2 ⟨rfl, hb2⟩; have HB2 := bt HB1 hb2; obtain ⟨r2hq1, hqt2⟩ := hE.out w2 HB2))
           go_ret
           exact ⟨ret_bool hfin.out.symm, hqt2⟩
         by_cases h_s : IsNm x_second
         · by_cases h_w : WhenR x_cond
           · by_cases h_b : RightB x_body
             · have hfin : Hid (dec (RuleR ⟨x_verb, x_phase, x_noun, x_second, x_cond, x_body⟩) = true) := dec_true ⟨h_n, h_l, h_h, Or.inl h_e, Or.inr h_s, h_w, h_b⟩
               simp only [dec_true h_n] at hc_n
               have HC_n := Lib.hid hc_n
               simp only [dec_true h_s] at hc_s
               have HC_s := Lib.hid hc_s
               simp only [dec_true h_w] at hc_w
               have HC_w := Lib.hid hc_w
               simp only [dec_true h_b] at hc_b
               have HC_b := Lib.hid hc_b
               have e0 : decide ((1 : Int) ≤ x_phase) = true := decide_eq_true h_l
               have e1 : decide (x_phase ≤ (3 : Int)) = true := decide_eq_true h_h
               have e2 : x_noun.toList.isEmpty = true := emp_t h_e
               have e3 : x_second.toList.isEmpty = false := emp_f h_f
               clear hc_n hc_o hc_s hc_w hc_b ka4 ka5 z_verb z_phase z_noun z_second hF h_n h_l h_h h_e h_f h_s h_w h_b
               go_enter Tryz.func33, Tryz.ntmps33
               go_upto_region 1 with fail
               rw [HW1.out]
               obtain ⟨hq1, hqt0⟩ := hE.out W1 (Below.refl _ _)
               have HB0 := b0' W1
               obtain ⟨g0, g1, g2, g3, g4, g5⟩ := p5' hq1.2
               go_wp2_with (first | (go_at_call 27; (with_reducible refine (HC_n.out W1 hqt0).mono ?_); rintro e91 w1 ⟨rfl, hb1⟩; have HB1 := bt HB0 hb1; obtain ⟨r1hq1, hqt1⟩ := hE.out w1 HB1; have g1_1 := e1' r1hq1.2; have g1_2 := e2' r1hq1.2; have g1_3 := e3' r1hq1.2; have g1_4 := e4' r1hq1.2; have g1_5 := e5' r1hq1.2) | (go_at_call 27; (with_reducible refine (HC_s.out w1 hqt1).mono ?_); rintro e92 w2 ⟨rfl, hb2⟩; have HB2 := bt HB1 hb2; obtain ⟨r2hq1, hqt2⟩ := hE.out w2 HB2; have g2_4 := e4' r2hq1.2; have g2_5 := e5' r2hq1.2) | (go_at_call 78; (with_reducible refine (HC_w.out w2 hqt2).mono ?_); rintro e93 w3 ⟨rfl, hb3⟩; have HB3 := bt HB2 hb3; obtain ⟨r3hq1, hqt3⟩ := hE.out w3 HB3; have g3_5 := e5' r3hq1.2) | (go_at_call 56; (with_reducible refine (HC_b.out w3 hqt3).mono ?_); rintro e94 w4 ⟨rfl, hb4⟩; have HB4 := bt HB3 hb4; obtain ⟨r4hq1, hqt4⟩ := hE.out w4 HB4))
               go_ret
               exact ⟨ret_bool hfin.out.symm, hqt4⟩
             have hfin : Hid (dec (RuleR ⟨x_verb, x_phase, x_noun, x_second, x_cond, x_body⟩) = false) := dec_false (fun h => h_b h.2.2.2.2.2.2)
             simp only [dec_true h_n] at hc_n
             have HC_n := Lib.hid hc_n
             simp only [dec_true h_s] at hc_s
             have HC_s := Lib.hid hc_s
             simp only [dec_true h_w] at hc_w
             have HC_w := Lib.hid hc_w
             simp only [dec_false h_b] at hc_b
             have HC_b := Lib.hid hc_b
             have e0 : decide ((1 : Int) ≤ x_phase) = true := decide_eq_true h_l
             have e1 : decide (x_phase ≤ (3 : Int)) = true := decide_eq_true h_h
             have e2 : x_noun.toList.isEmpty = true := emp_t h_e
             have e3 : x_second.toList.isEmpty = false := emp_f h_f
             clear hc_n hc_o hc_s hc_w hc_b ka4 ka5 z_verb z_phase z_noun z_second hF h_n h_l h_h h_e h_f h_s h_w h_b
             go_enter Tryz.func33, Tryz.ntmps33
             go_upto_region 1 with fail
             rw [HW1.out]
             obtain ⟨hq1, hqt0⟩ := hE.out W1 (Below.refl _ _)
             have HB0 := b0' W1
             obtain ⟨g0, g1, g2, g3, g4, g5⟩ := p5' hq1.2
             go_wp2_with (first | (go_at_call 27; (with_reducible refine (HC_n.out W1 hqt0).mono ?_); rintro e91 w1 ⟨rfl, hb1⟩; have HB1 := bt HB0 hb1; obtain ⟨r1hq1, hqt1⟩ := hE.out w1 HB1; have g1_1 := e1' r1hq1.2; have g1_2 := e2' r1hq1.2; have g1_3 := e3' r1hq1.2; have g1_4 := e4' r1hq1.2; have g1_5 := e5' r1hq1.2) | (go_at_call 27; (with_reducible refine (HC_s.out w1 hqt1).mono ?_); rintro e92 w2 ⟨rfl, hb2⟩; have HB2 := bt HB1 hb2; obtain ⟨r2hq1, hqt2⟩ := hE.out w2 HB2; have g2_4 := e4' r2hq1.2; have g2_5 := e5' r2hq1.2) | (go_at_call 78; (with_reducible refine (HC_w.out w2 hqt2).mono ?_); rintro e93 w3 ⟨rfl, hb3⟩; have HB3 := bt HB2 hb3; obtain ⟨r3hq1, hqt3⟩ := hE.out w3 HB3; have g3_5 := e5' r3hq1.2) | (go_at_call 56; (with_reducible refine (HC_b.out w3 hqt3).mono ?_); rintro e94 w4 ⟨rfl, hb4⟩; have HB4 := bt HB3 hb4; obtain ⟨r4hq1, hqt4⟩ := hE.out w4 HB4))
             go_ret
             exact ⟨ret_bool hfin.out.symm, hqt4⟩
           have hfin : Hid (dec (RuleR ⟨x_verb, x_phase, x_noun, x_second, x_cond, x_body⟩) = false) := dec_false (fun h => h_w h.2.2.2.2.2.1)
           simp only [dec_true h_n] at hc_n
           have HC_n := Lib.hid hc_n
           simp only [dec_true h_s] at hc_s
           have HC_s := Lib.hid hc_s
           simp only [dec_false h_w] at hc_w
           have HC_w := Lib.hid hc_w
           have e0 : decide ((1 : Int) ≤ x_phase) = true := decide_eq_true h_l
           have e1 : decide (x_phase ≤ (3 : Int)) = true := decide_eq_true h_h
           have e2 : x_noun.toList.isEmpty = true := emp_t h_e
           have e3 : x_second.toList.isEmpty = false := emp_f h_f
           clear hc_n hc_o hc_s hc_w hc_b ka4 ka5 z_verb z_phase z_noun z_second hF h_n h_l h_h h_e h_f h_s h_w
           go_enter Tryz.func33, Tryz.ntmps33
           go_upto_region 1 with fail
           rw [HW1.out]
           obtain ⟨hq1, hqt0⟩ := hE.out W1 (Below.refl _ _)
           have HB0 := b0' W1
           obtain ⟨g0, g1, g2, g3, g4⟩ := p4' hq1.2
           go_wp2_with (first | (go_at_call 27; (with_reducible refine (HC_n.out W1 hqt0).mono ?_); rintro e91 w1 ⟨rfl, hb1⟩; have HB1 := bt HB0 hb1; obtain ⟨r1hq1, hqt1⟩ := hE.out w1 HB1; have g1_1 := e1' r1hq1.2; have g1_2 := e2' r1hq1.2; have g1_3 := e3' r1hq1.2; have g1_4 := e4' r1hq1.2) | (go_at_call 27; (with_reducible refine (HC_s.out w1 hqt1).mono ?_); rintro e92 w2 ⟨rfl, hb2⟩; have HB2 := bt HB1 hb2; obtain ⟨r2hq1, hqt2⟩ := hE.out w2 HB2; have g2_4 := e4' r2hq1.2) | (go_at_call 78; (with_reducible refine (HC_w.out w2 hqt2).mono ?_); rintro e93 w3 ⟨rfl, hb3⟩; have HB3 := bt HB2 hb3; obtain ⟨r3hq1, hqt3⟩ := hE.out w3 HB3))
           go_ret
           exact ⟨ret_bool hfin.out.symm, hqt3⟩
         have hfin : Hid (dec (RuleR ⟨x_verb, x_phase, x_noun, x_second, x_cond, x_body⟩) = false) := dec_false (fun h => h.2.2.2.2.1.elim h_f h_s)
         simp only [dec_true h_n] at hc_n
         have HC_n := Lib.hid hc_n
         simp only [dec_false h_s] at hc_s
         have HC_s := Lib.hid hc_s
         have e0 : decide ((1 : Int) ≤ x_phase) = true := decide_eq_true h_l
         have e1 : decide (x_phase ≤ (3 : Int)) = true := decide_eq_true h_h
         have e2 : x_noun.toList.isEmpty = true := emp_t h_e
         have e3 : x_second.toList.isEmpty = false := emp_f h_f
         clear hc_n hc_o hc_s hc_w hc_b ka4 ka5 z_verb z_phase z_noun z_second hF h_n h_l h_h h_e h_f h_s
         go_enter Tryz.func33, Tryz.ntmps33
         go_upto_region 1 with fail
         rw [HW1.out]
         obtain ⟨hq1, hqt0⟩ := hE.out W1 (Below.refl _ _)
         have HB0 := b0' W1
         obtain ⟨g0, g1, g2, g3⟩ := p3' hq1.2
         go_wp2_with (first | (go_at_call 27; (with_reducible refine (HC_n.out W1 hqt0).mono ?_); rintro e91 w1 ⟨rfl, hb1⟩; have HB1 := bt HB0 hb1; obtain ⟨r1hq1, hqt1⟩ := hE.out w1 HB1; have g1_1 := e1' r1hq1.2; have g1_2 := e2' r1hq1.2; have g1_3 := e3' r1hq1.2) | (go_at_call 27; (with_reducible refine (HC_s.out w1 hqt1).mono ?_); rintro e92 w2 ⟨rfl, hb2⟩; have HB2 := bt HB1 hb2; obtain ⟨r2hq1, hqt2⟩ := hE.out w2 HB2))
         go_ret
         exact ⟨ret_bool hfin.out.symm, hqt2⟩
       by_cases h_o : IsNm x_noun
       · by_cases h_f : x_second = ⟨#[]⟩
         · by_cases h_w : WhenR x_cond
           · by_cases h_b : RightB x_body
             · have hfin : Hid (dec (RuleR ⟨x_verb, x_phase, x_noun, x_second, x_cond, x_body⟩) = true) := dec_true ⟨h_n, h_l, h_h, Or.inr h_o, Or.inl h_f, h_w, h_b⟩
               simp only [dec_true h_n] at hc_n
               have HC_n := Lib.hid hc_n
               simp only [dec_true h_o] at hc_o
               have HC_o := Lib.hid hc_o
               simp only [dec_true h_w] at hc_w
               have HC_w := Lib.hid hc_w
               simp only [dec_true h_b] at hc_b
               have HC_b := Lib.hid hc_b
               have e0 : decide ((1 : Int) ≤ x_phase) = true := decide_eq_true h_l
               have e1 : decide (x_phase ≤ (3 : Int)) = true := decide_eq_true h_h
               have e2 : x_noun.toList.isEmpty = false := emp_f h_e
               have e3 : x_second.toList.isEmpty = true := emp_t h_f
               clear hc_n hc_o hc_s hc_w hc_b ka4 ka5 z_verb z_phase z_noun z_second hF h_n h_l h_h h_e h_o h_f h_w h_b
               go_enter Tryz.func33, Tryz.ntmps33
               go_upto_region 1 with fail
               rw [HW1.out]
               obtain ⟨hq1, hqt0⟩ := hE.out W1 (Below.refl _ _)
               have HB0 := b0' W1
               obtain ⟨g0, g1, g2, g3, g4, g5⟩ := p5' hq1.2
               go_wp2_with (first | (go_at_call 27; (with_reducible refine (HC_n.out W1 hqt0).mono ?_); rintro e91 w1 ⟨rfl, hb1⟩; have HB1 := bt HB0 hb1; obtain ⟨r1hq1, hqt1⟩ := hE.out w1 HB1; have g1_1 := e1' r1hq1.2; have g1_2 := e2' r1hq1.2; have g1_3 := e3' r1hq1.2; have g1_4 := e4' r1hq1.2; have g1_5 := e5' r1hq1.2) | (go_at_call 27; (with_reducible refine (HC_o.out w1 hqt1).mono ?_); rintro e92 w2 ⟨rfl, hb2⟩; have HB2 := bt HB1 hb2; obtain ⟨r2hq1, hqt2⟩ := hE.out w2 HB2; have g2_3 := e3' r2hq1.2; have g2_4 := e4' r2hq1.2; have g2_5 := e5' r2hq1.2) | (go_at_call 78; (with_reducible refine (HC_w.out w2 hqt2).mono ?_); rintro e93 w3 ⟨rfl, hb3⟩; have HB3 := bt HB2 hb3; obtain ⟨r3hq1, hqt3⟩ := hE.out w3 HB3; have g3_5 := e5' r3hq1.2) | (go_at_call 56; (with_reducible refine (HC_b.out w3 hqt3).mono ?_); rintro e94 w4 ⟨rfl, hb4⟩; have HB4 := bt HB3 hb4; obtain ⟨r4hq1, hqt4⟩ := hE.out w4 HB4))
               go_ret
               exact ⟨ret_bool hfin.out.symm, hqt4⟩
             have hfin : Hid (dec (RuleR ⟨x_verb, x_phase, x_noun, x_second, x_cond, x_body⟩) = false) := dec_false (fun h => h_b h.2.2.2.2.2.2)
             simp only [dec_true h_n] at hc_n
             have HC_n := Lib.hid hc_n
             simp only [dec_true h_o] at hc_o
             have HC_o := Lib.hid hc_o
             simp only [dec_true h_w] at hc_w
             have HC_w := Lib.hid hc_w
             simp only [dec_false h_b] at hc_b
             have HC_b := Lib.hid hc_b
             have e0 : decide ((1 : Int) ≤ x_phase) = true := decide_eq_true h_l
             have e1 : decide (x_phase ≤ (3 : Int)) = true := decide_eq_true h_h
             have e2 : x_noun.toList.isEmpty = false := emp_f h_e
             have e3 : x_second.toList.isEmpty = true := emp_t h_f
             clear hc_n hc_o hc_s hc_w hc_b ka4 ka5 z_verb z_phase z_noun z_second hF h_n h_l h_h h_e h_o h_f h_w h_b
             go_enter Tryz.func33, Tryz.ntmps33
             go_upto_region 1 with fail
             rw [HW1.out]
             obtain ⟨hq1, hqt0⟩ := hE.out W1 (Below.refl _ _)
             have HB0 := b0' W1
             obtain ⟨g0, g1, g2, g3, g4, g5⟩ := p5' hq1.2
             go_wp2_with (first | (go_at_call 27; (with_reducible refine (HC_n.out W1 hqt0).mono ?_); rintro e91 w1 ⟨rfl, hb1⟩; have HB1 := bt HB0 hb1; obtain ⟨r1hq1, hqt1⟩ := hE.out w1 HB1; have g1_1 := e1' r1hq1.2; have g1_2 := e2' r1hq1.2; have g1_3 := e3' r1hq1.2; have g1_4 := e4' r1hq1.2; have g1_5 := e5' r1hq1.2) | (go_at_call 27; (with_reducible refine (HC_o.out w1 hqt1).mono ?_); rintro e92 w2 ⟨rfl, hb2⟩; have HB2 := bt HB1 hb2; obtain ⟨r2hq1, hqt2⟩ := hE.out w2 HB2; have g2_3 := e3' r2hq1.2; have g2_4 := e4' r2hq1.2; have g2_5 := e5' r2hq1.2) | (go_at_call 78; (with_reducible refine (HC_w.out w2 hqt2).mono ?_); rintro e93 w3 ⟨rfl, hb3⟩; have HB3 := bt HB2 hb3; obtain ⟨r3hq1, hqt3⟩ := hE.out w3 HB3; have g3_5 := e5' r3hq1.2) | (go_at_call 56; (with_reducible refine (HC_b.out w3 hqt3).mono ?_); rintro e94 w4 ⟨rfl, hb4⟩; have HB4 := bt HB3 hb4; obtain ⟨r4hq1, hqt4⟩ := hE.out w4 HB4))
             go_ret
             exact ⟨ret_bool hfin.out.symm, hqt4⟩
           have hfin : Hid (dec (RuleR ⟨x_verb, x_phase, x_noun, x_second, x_cond, x_body⟩) = false) := dec_false (fun h => h_w h.2.2.2.2.2.1)
           simp only [dec_true h_n] at hc_n
           have HC_n := Lib.hid hc_n
           simp only [dec_true h_o] at hc_o
           have HC_o := Lib.hid hc_o
           simp only [dec_false h_w] at hc_w
           have HC_w := Lib.hid hc_w
           have e0 : decide ((1 : Int) ≤ x_phase) = true := decide_eq_true h_l
           have e1 : decide (x_phase ≤ (3 : Int)) = true := decide_eq_true h_h
           have e2 : x_noun.toList.isEmpty = false := emp_f h_e
           have e3 : x_second.toList.isEmpty = true := emp_t h_f
           clear hc_n hc_o hc_s hc_w hc_b ka4 ka5 z_verb z_phase z_noun z_second hF h_n h_l h_h h_e h_o h_f h_w
           go_enter Tryz.func33, Tryz.ntmps33
           go_upto_region 1 with fail
           rw [HW1.out]
           obtain ⟨hq1, hqt0⟩ := hE.out W1 (Below.refl _ _)
           have HB0 := b0' W1
           obtain ⟨g0, g1, g2, g3, g4⟩ := p4' hq1.2
           go_wp2_with (first | (go_at_call 27; (with_reducible refine (HC_n.out W1 hqt0).mono ?_); rintro e91 w1 ⟨rfl, hb1⟩; have HB1 := bt HB0 hb1; obtain ⟨r1hq1, hqt1⟩ := hE.out w1 HB1; have g1_1 := e1' r1hq1.2; have g1_2 := e2' r1hq1.2; have g1_3 := e3' r1hq1.2; have g1_4 := e4' r1hq1.2) | (go_at_call 27; (with_reducible refine (HC_o.out w1 hqt1).mono ?_); rintro e92 w2 ⟨rfl, hb2⟩; have HB2 := bt HB1 hb2; obtain ⟨r2hq1, hqt2⟩ := hE.out w2 HB2; have g2_3 := e3' r2hq1.2; have g2_4 := e4' r2hq1.2) | (go_at_call 78; (with_reducible refine (HC_w.out w2 hqt2).mono ?_); rintro e93 w3 ⟨rfl, hb3⟩; have HB3 := bt HB2 hb3; obtain ⟨r3hq1, hqt3⟩ := hE.out w3 HB3))
           go_ret
           exact ⟨ret_bool hfin.out.symm, hqt3⟩
         by_cases h_s : IsNm x_second
         · by_cases h_w : WhenR x_cond
           · by_cases h_b : RightB x_body
             · have hfin : Hid (dec (RuleR ⟨x_verb, x_phase, x_noun, x_second, x_cond, x_body⟩) = true) := dec_true ⟨h_n, h_l, h_h, Or.inr h_o, Or.inr h_s, h_w, h_b⟩
               simp only [dec_true h_n] at hc_n
               have HC_n := Lib.hid hc_n
               simp only [dec_true h_o] at hc_o
               have HC_o := Lib.hid hc_o
               simp only [dec_true h_s] at hc_s
               have HC_s := Lib.hid hc_s
               simp only [dec_true h_w] at hc_w
               have HC_w := Lib.hid hc_w
               simp only [dec_true h_b] at hc_b
               have HC_b := Lib.hid hc_b
               have e0 : decide ((1 : Int) ≤ x_phase) = true := decide_eq_true h_l
               have e1 : decide (x_phase ≤ (3 : Int)) = true := decide_eq_true h_h
               have e2 : x_noun.toList.isEmpty = false := emp_f h_e
               have e3 : x_second.toList.isEmpty = false := emp_f h_f
               clear hc_n hc_o hc_s hc_w hc_b ka4 ka5 z_verb z_phase z_noun z_second hF h_n h_l h_h h_e h_o h_f h_s h_w h_b
               go_enter Tryz.func33, Tryz.ntmps33
               go_upto_region 1 with fail
               rw [HW1.out]
               obtain ⟨hq1, hqt0⟩ := hE.out W1 (Below.refl _ _)
               have HB0 := b0' W1
               obtain ⟨g0, g1, g2, g3, g4, g5⟩ := p5' hq1.2
               go_wp2_with (first | (go_at_call 27; (with_reducible refine (HC_n.out W1 hqt0).mono ?_); rintro e91 w1 ⟨rfl, hb1⟩; have HB1 := bt HB0 hb1; obtain ⟨r1hq1, hqt1⟩ := hE.out w1 HB1; have g1_1 := e1' r1hq1.2; have g1_2 := e2' r1hq1.2; have g1_3 := e3' r1hq1.2; have g1_4 := e4' r1hq1.2; have g1_5 := e5' r1hq1.2) | (go_at_call 27; (with_reducible refine (HC_o.out w1 hqt1).mono ?_); rintro e92 w2 ⟨rfl, hb2⟩; have HB2 := bt HB1 hb2; obtain ⟨r2hq1, hqt2⟩ := hE.out w2 HB2; have g2_3 := e3' r2hq1.2; have g2_4 := e4' r2hq1.2; have g2_5 := e5' r2hq1.2) | (go_at_call 27; (with_reducible refine (HC_s.out w2 hqt2).mono ?_); rintro e93 w3 ⟨rfl, hb3⟩; have HB3 := bt HB2 hb3; obtain ⟨r3hq1, hqt3⟩ := hE.out w3 HB3; have g3_4 := e4' r3hq1.2; have g3_5 := e5' r3hq1.2) | (go_at_call 78; (with_reducible refine (HC_w.out w3 hqt3).mono ?_); rintro e94 w4 ⟨rfl, hb4⟩; have HB4 := bt HB3 hb4; obtain ⟨r4hq1, hqt4⟩ := hE.out w4 HB4; have g4_5 := e5' r4hq1.2) | (go_at_call 56; (with_reducible refine (HC_b.out w4 hqt4).mono ?_); rintro e95 w5 ⟨rfl, hb5⟩; have HB5 := bt HB4 hb5; obtain ⟨r5hq1, hqt5⟩ := hE.out w5 HB5))
               go_ret
               exact ⟨ret_bool hfin.out.symm, hqt5⟩
             have hfin : Hid (dec (RuleR ⟨x_verb, x_phase, x_noun, x_second, x_cond, x_body⟩) = false) := dec_false (fun h => h_b h.2.2.2.2.2.2)
             simp only [dec_true h_n] at hc_n
             have HC_n := Lib.hid hc_n
             simp only [dec_true h_o] at hc_o
             have HC_o := Lib.hid hc_o
             simp only [dec_true h_s] at hc_s
             have HC_s := Lib.hid hc_s
             simp only [dec_true h_w] at hc_w
             have HC_w := Lib.hid hc_w
             simp only [dec_false h_b] at hc_b
             have HC_b := Lib.hid hc_b
             have e0 : decide ((1 : Int) ≤ x_phase) = true := decide_eq_true h_l
             have e1 : decide (x_phase ≤ (3 : Int)) = true := decide_eq_true h_h
             have e2 : x_noun.toList.isEmpty = false := emp_f h_e
             have e3 : x_second.toList.isEmpty = false := emp_f h_f
             clear hc_n hc_o hc_s hc_w hc_b ka4 ka5 z_verb z_phase z_noun z_second hF h_n h_l h_h h_e h_o h_f h_s h_w h_b
             go_enter Tryz.func33, Tryz.ntmps33
             go_upto_region 1 with fail
             rw [HW1.out]
             obtain ⟨hq1, hqt0⟩ := hE.out W1 (Below.refl _ _)
             have HB0 := b0' W1
             obtain ⟨g0, g1, g2, g3, g4, g5⟩ := p5' hq1.2
             go_wp2_with (first | (go_at_call 27; (with_reducible refine (HC_n.out W1 hqt0).mono ?_); rintro e91 w1 ⟨rfl, hb1⟩; have HB1 := bt HB0 hb1; obtain ⟨r1hq1, hqt1⟩ := hE.out w1 HB1; have g1_1 := e1' r1hq1.2; have g1_2 := e2' r1hq1.2; have g1_3 := e3' r1hq1.2; have g1_4 := e4' r1hq1.2; have g1_5 := e5' r1hq1.2) | (go_at_call 27; (with_reducible refine (HC_o.out w1 hqt1).mono ?_); rintro e92 w2 ⟨rfl, hb2⟩; have HB2 := bt HB1 hb2; obtain ⟨r2hq1, hqt2⟩ := hE.out w2 HB2; have g2_3 := e3' r2hq1.2; have g2_4 := e4' r2hq1.2; have g2_5 := e5' r2hq1.2) | (go_at_call 27; (with_reducible refine (HC_s.out w2 hqt2).mono ?_); rintro e93 w3 ⟨rfl, hb3⟩; have HB3 := bt HB2 hb3; obtain ⟨r3hq1, hqt3⟩ := hE.out w3 HB3; have g3_4 := e4' r3hq1.2; have g3_5 := e5' r3hq1.2) | (go_at_call 78; (with_reducible refine (HC_w.out w3 hqt3).mono ?_); rintro e94 w4 ⟨rfl, hb4⟩; have HB4 := bt HB3 hb4; obtain ⟨r4hq1, hqt4⟩ := hE.out w4 HB4; have g4_5 := e5' r4hq1.2) | (go_at_call 56; (with_reducible refine (HC_b.out w4 hqt4).mono ?_); rintro e95 w5 ⟨rfl, hb5⟩; have HB5 := bt HB4 hb5; obtain ⟨r5hq1, hqt5⟩ := hE.out w5 HB5))
             go_ret
             exact ⟨ret_bool hfin.out.symm, hqt5⟩
           have hfin : Hid (dec (RuleR ⟨x_verb, x_phase, x_noun, x_second, x_cond, x_body⟩) = false) := dec_false (fun h => h_w h.2.2.2.2.2.1)
           simp only [dec_true h_n] at hc_n
           have HC_n := Lib.hid hc_n
           simp only [dec_true h_o] at hc_o
           have HC_o := Lib.hid hc_o
           simp only [dec_true h_s] at hc_s
           have HC_s := Lib.hid hc_s
           simp only [dec_false h_w] at hc_w
           have HC_w := Lib.hid hc_w
           have e0 : decide ((1 : Int) ≤ x_phase) = true := decide_eq_true h_l
           have e1 : decide (x_phase ≤ (3 : Int)) = true := decide_eq_true h_h
           have e2 : x_noun.toList.isEmpty = false := emp_f h_e
           have e3 : x_second.toList.isEmpty = false := emp_f h_f
           clear hc_n hc_o hc_s hc_w hc_b ka4 ka5 z_verb z_phase z_noun z_second hF h_n h_l h_h h_e h_o h_f h_s h_w
           go_enter Tryz.func33, Tryz.ntmps33
           go_upto_region 1 with fail
           rw [HW1.out]
           obtain ⟨hq1, hqt0⟩ := hE.out W1 (Below.refl _ _)
           have HB0 := b0' W1
           obtain ⟨g0, g1, g2, g3, g4⟩ := p4' hq1.2
           go_wp2_with (first | (go_at_call 27; (with_reducible refine (HC_n.out W1 hqt0).mono ?_); rintro e91 w1 ⟨rfl, hb1⟩; have HB1 := bt HB0 hb1; obtain ⟨r1hq1, hqt1⟩ := hE.out w1 HB1; have g1_1 := e1' r1hq1.2; have g1_2 := e2' r1hq1.2; have g1_3 := e3' r1hq1.2; have g1_4 := e4' r1hq1.2) | (go_at_call 27; (with_reducible refine (HC_o.out w1 hqt1).mono ?_); rintro e92 w2 ⟨rfl, hb2⟩; have HB2 := bt HB1 hb2; obtain ⟨r2hq1, hqt2⟩ := hE.out w2 HB2; have g2_3 := e3' r2hq1.2; have g2_4 := e4' r2hq1.2) | (go_at_call 27; (with_reducible refine (HC_s.out w2 hqt2).mono ?_); rintro e93 w3 ⟨rfl, hb3⟩; have HB3 := bt HB2 hb3; obtain ⟨r3hq1, hqt3⟩ := hE.out w3 HB3; have g3_4 := e4' r3hq1.2) | (go_at_call 78; (with_reducible refine (HC_w.out w3 hqt3).mono ?_); rintro e94 w4 ⟨rfl, hb4⟩; have HB4 := bt HB3 hb4; obtain ⟨r4hq1, hqt4⟩ := hE.out w4 HB4))
           go_ret
           exact ⟨ret_bool hfin.out.symm, hqt4⟩
         have hfin : Hid (dec (RuleR ⟨x_verb, x_phase, x_noun, x_second, x_cond, x_body⟩) = false) := dec_false (fun h => h.2.2.2.2.1.elim h_f h_s)
         simp only [dec_true h_n] at hc_n
         have HC_n := Lib.hid hc_n
         simp only [dec_true h_o] at hc_o
         have HC_o := Lib.hid hc_o
         simp only [dec_false h_s] at hc_s
         have HC_s := Lib.hid hc_s
         have e0 : decide ((1 : Int) ≤ x_phase) = true := decide_eq_true h_l
         have e1 : decide (x_phase ≤ (3 : Int)) = true := decide_eq_true h_h
         have e2 : x_noun.toList.isEmpty = false := emp_f h_e
         have e3 : x_second.toList.isEmpty = false := emp_f h_f
         clear hc_n hc_o hc_s hc_w hc_b ka4 ka5 z_verb z_phase z_noun z_second hF h_n h_l h_h h_e h_o h_f h_s
         go_enter Tryz.func33, Tryz.ntmps33
         go_upto_region 1 with fail
         rw [HW1.out]
         obtain ⟨hq1, hqt0⟩ := hE.out W1 (Below.refl _ _)
         have HB0 := b0' W1
         obtain ⟨g0, g1, g2, g3⟩ := p3' hq1.2
         go_wp2_with (first | (go_at_call 27; (with_reducible refine (HC_n.out W1 hqt0).mono ?_); rintro e91 w1 ⟨rfl, hb1⟩; have HB1 := bt HB0 hb1; obtain ⟨r1hq1, hqt1⟩ := hE.out w1 HB1; have g1_1 := e1' r1hq1.2; have g1_2 := e2' r1hq1.2; have g1_3 := e3' r1hq1.2) | (go_at_call 27; (with_reducible refine (HC_o.out w1 hqt1).mono ?_); rintro e92 w2 ⟨rfl, hb2⟩; have HB2 := bt HB1 hb2; obtain ⟨r2hq1, hqt2⟩ := hE.out w2 HB2; have g2_3 := e3' r2hq1.2) | (go_at_call 27; (with_reducible refine (HC_s.out w2 hqt2).mono ?_); rintro e93 w3 ⟨rfl, hb3⟩; have HB3 := bt HB2 hb3; obtain ⟨r3hq1, hqt3⟩ := hE.out w3 HB3))
         go_ret
         exact ⟨ret_bool hfin.out.symm, hqt3⟩
       have hfin : Hid (dec (RuleR ⟨x_verb, x_phase, x_noun, x_second, x_cond, x_body⟩) = false) := dec_false (fun h => h.2.2.2.1.elim h_e h_o)
       simp only [dec_true h_n] at hc_n
       have HC_n := Lib.hid hc_n
       simp only [dec_false h_o] at hc_o
       have HC_o := Lib.hid hc_o
       have e0 : decide ((1 : Int) ≤ x_phase) = true := decide_eq_true h_l
       have e1 : decide (x_phase ≤ (3 : Int)) = true := decide_eq_true h_h
       have e2 : x_noun.toList.isEmpty = false := emp_f h_e
       clear hc_n hc_o hc_s hc_w hc_b ka4 ka5 z_verb z_phase z_noun z_second hF h_n h_l h_h h_e h_o
       go_enter Tryz.func33, Tryz.ntmps33
       go_upto_region 1 with fail
       rw [HW1.out]
       obtain ⟨hq1, hqt0⟩ := hE.out W1 (Below.refl _ _)
       have HB0 := b0' W1
       obtain ⟨g0, g1, g2⟩ := p2' hq1.2
       go_wp2_with (first | (go_at_call 27; (with_reducible refine (HC_n.out W1 hqt0).mono ?_); rintro e91 w1 ⟨rfl, hb1⟩; have HB1 := bt HB0 hb1; obtain ⟨r1hq1, hqt1⟩ := hE.out w1 HB1; have g1_1 := e1' r1hq1.2; have g1_2 := e2' r1hq1.2) | (go_at_call 27; (with_reducible refine (HC_o.out w1 hqt1).mono ?_); rintro e92 w2 ⟨rfl, hb2⟩; have HB2 := bt HB1 hb2; obtain ⟨r2hq1, hqt2⟩ := hE.out w2 HB2))
       go_ret
       exact ⟨ret_bool hfin.out.symm, hqt2⟩
     have hfin : Hid (dec (RuleR ⟨x_verb, x_phase, x_noun, x_second, x_cond, x_body⟩) = false) := dec_false (fun h => h_h h.2.2.1)
     simp only [dec_true h_n] at hc_n
     have HC_n := Lib.hid hc_n
     have e0 : decide ((1 : Int) ≤ x_phase) = true := decide_eq_true h_l
     have e1 : decide (x_phase ≤ (3 : Int)) = false := decide_eq_false h_h
     clear hc_n hc_o hc_s hc_w hc_b ka4 ka5 z_verb z_phase z_noun z_second hF h_n h_l h_h
     go_enter Tryz.func33, Tryz.ntmps33
     go_upto_region 1 with fail
     rw [HW1.out]
     obtain ⟨hq1, hqt0⟩ := hE.out W1 (Below.refl _ _)
     have HB0 := b0' W1
     obtain ⟨g0, g1⟩ := p1' hq1.2
     go_wp2_with (go_at_call 27; (with_reducible refine (HC_n.out W1 hqt0).mono ?_); rintro e91 w1 ⟨rfl, hb1⟩; have HB1 := bt HB0 hb1; obtain ⟨r1hq1, hqt1⟩ := hE.out w1 HB1; have g1_1 := e1' r1hq1.2)
     go_ret
     exact ⟨ret_bool hfin.out.symm, hqt1⟩
   have hfin : Hid (dec (RuleR ⟨x_verb, x_phase, x_noun, x_second, x_cond, x_body⟩) = false) := dec_false (fun h => h_l h.2.1)
   simp only [dec_true h_n] at hc_n
   have HC_n := Lib.hid hc_n
   have e0 : decide ((1 : Int) ≤ x_phase) = false := decide_eq_false h_l
   clear hc_n hc_o hc_s hc_w hc_b ka4 ka5 z_verb z_phase z_noun z_second hF h_n h_l
   go_enter Tryz.func33, Tryz.ntmps33
   go_upto_region 1 with fail
   rw [HW1.out]
   obtain ⟨hq1, hqt0⟩ := hE.out W1 (Below.refl _ _)
   have HB0 := b0' W1
   obtain ⟨g0, g1⟩ := p1' hq1.2
   go_wp2_with (go_at_call 27; (with_reducible refine (HC_n.out W1 hqt0).mono ?_); rintro e91 w1 ⟨rfl, hb1⟩; have HB1 := bt HB0 hb1; obtain ⟨r1hq1, hqt1⟩ := hE.out w1 HB1; have g1_1 := e1' r1hq1.2)
   go_ret
   exact ⟨ret_bool hfin.out.symm, hqt1⟩
 have hfin : Hid (dec (RuleR ⟨x_verb, x_phase, x_noun, x_second, x_cond, x_body⟩) = false) := dec_false (fun h => h_n h.1)
 simp only [dec_false h_n] at hc_n
 have HC_n := Lib.hid hc_n
 clear hc_n hc_o hc_s hc_w hc_b ka4 ka5 z_verb z_phase z_noun z_second hF h_n
 go_enter Tryz.func33, Tryz.ntmps33
 go_upto_region 1 with fail
 rw [HW1.out]
 obtain ⟨hq1, hqt0⟩ := hE.out W1 (Below.refl _ _)
 have HB0 := b0' W1
 have g0 := e0' hq1.2
 go_wp2_with (go_at_call 27; (with_reducible refine (HC_n.out W1 hqt0).mono ?_); rintro e91 w1 ⟨rfl, hb1⟩; have HB1 := bt HB0 hb1; obtain ⟨r1hq1, hqt1⟩ := hE.out w1 HB1)
 go_ret
 exact ⟨ret_bool hfin.out.symm, hqt1⟩
end Go.Proofs.YtdeecfkipknkbaaGreatDoor
