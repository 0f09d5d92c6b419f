/- The reference's Right of objects. Printed by gen-show8.py. -/
import Derived.Test.YtdeecfkipknkbaaGreatDoorRrW
import Derived.Laws.EntriesVeiled
namespace Go.Proofs.YtdeecfkipknkbaaGreatDoor
set_option maxRecDepth 100000
set_option maxHeartbeats 4000000
open Go.RowKit
theorem rrObj_calls (F : Nat → Prop) (w : World) (x : ObjD) (cs : List Value) (hF : Inn F w) (hx : Holds.obj.R F w x cs) :
 Calls Tryz.prog 31 #[.agg cs.toArray] w (Gives w (.bool (dec (ObjR x)))) := by
 obtain ⟨x_name, x_title, x_inn, x_text, x_room, x_words, x_adjs, x_flags, x_props, x_exits⟩ := x
 obtain ⟨z_name, z_title, z_inn, z_text, va5, va6, va7, va8, va9, rfl, ka5, ka6, ka7, ka8, ka9⟩ := hx
 simp only at ka5 ka6 ka7 ka8 ka9 z_name z_title z_inn z_text
 obtain ⟨da5, fa5, rfl⟩ := ka5.shape
 obtain ⟨da6, fa6, rfl⟩ := ka6.shape
 obtain ⟨da7, fa7, rfl⟩ := ka7.shape
 obtain ⟨da8, fa8, rfl⟩ := ka8.shape
 obtain ⟨da9, fa9, rfl⟩ := ka9.shape
 obtain ⟨W1, hW1⟩ : ∃ W1, w.alloc (.cells #[.string x_name, .string x_title, .string x_inn, .string x_text, .bool x_room, .slice da5 x_words.length fa5, .slice da6 x_adjs.length fa6, .slice da7 x_flags.length fa7, .slice da8 x_props.length fa8, .slice da9 x_exits.length fa9] 63) = W1 := ⟨_, rfl⟩
 have hs1 := bs' hW1
 have hb1 := ba' hW1
 have hbx1 := bn' hW1
 have hE : Hid (∀ W, Below W1.heap.size W1 W → BoxAt W (w.heap.size) [.string x_name, .string x_title, .string x_inn, .string x_text, .bool x_room, .slice da5 x_words.length fa5, .slice da6 x_adjs.length fa6, .slice da7 x_flags.length fa7, .slice da8 x_props.length fa8, .slice da9 x_exits.length fa9] ∧ Below w.heap.size w W) := fun W h2 => ⟨hbx1.below h2 (by omega), (bt hb1 h2)⟩
 have HZ0 := Lib.hid hs1
 have HW1 := Lib.hid hW1
 clear hW1 hs1 hb1 hbx1
 have hc_n := fun (W : World) (hW : Below w.heap.size w W) => rrName_calls x_name W z_name
 have hc_t := fun (W : World) (hW : Below w.heap.size w W) => Same0.gv (isTextR_calls x_title W z_title)
 have hc_x := fun (W : World) (hW : Below w.heap.size w W) => Same0.gv (isTextR_calls x_text W z_text)
 have hc_w := fun (W : World) (hW : Below w.heap.size w W) => rrTexts_calls F W x_words 8 _ (hF.below hW) (RdL.below ka5 hF hW (Nat.le_refl _))
 have hc_a := fun (W : World) (hW : Below w.heap.size w W) => rrTexts_calls F W x_adjs 8 _ (hF.below hW) (RdL.below ka6 hF hW (Nat.le_refl _))
 have hc_f := fun (W : World) (hW : Below w.heap.size w W) => rrNames_calls F W x_flags 16 _ (hF.below hW) (RdL.below ka7 hF hW (Nat.le_refl _))
 have hc_p := fun (W : World) (hW : Below w.heap.size w W) => rrPairs_calls F W x_props 16 _ (hF.below hW) (RdL.below ka8 hF hW (Nat.le_refl _))
 have hc_i := fun (W : World) (hW : Below w.heap.size w W) => rrName_calls x_inn W z_inn
 by_cases h_n : IsNm x_name
 · by_cases h_t : IsText x_title
   · by_cases h_x : IsText x_text
     · by_cases h_w : TextsR 8 x_words
       · by_cases h_a : TextsR 8 x_adjs
         · by_cases h_f : NamesR 16 x_flags
           · by_cases h_p : PairsR 16 x_props
             · by_cases h_E : (x_exits.length : Int) ≤ (12 : Int)
               · cases x_room
                 · by_cases h_e : x_inn = ⟨#[]⟩
                   · by_cases h_z : x_exits.length = 0
                     · have HH_n := Lib.hid h_n
                       have HH_t := Lib.hid h_t
                       have HH_x := Lib.hid h_x
                       have HH_w := Lib.hid h_w
                       have HH_a := Lib.hid h_a
                       have HH_f := Lib.hid h_f
                       have HH_p := Lib.hid h_p
                       have HH_E := Lib.hid h_E
                       have HH_e := Lib.hid h_e
                       have HH_z := Lib.hid h_z
                       have HF := Lib.hid hF
                       simp only [dec_true h_n] at hc_n
                       have HC_n := Lib.hid hc_n
                       simp only [dec_true h_t] at hc_t
                       have HC_t := Lib.hid hc_t
                       simp only [dec_true h_x] at hc_x
                       have HC_x := Lib.hid hc_x
                       simp only [dec_true h_w] at hc_w
                       have HC_w := Lib.hid hc_w
                       simp only [dec_true h_a] at hc_a
                       have HC_a := Lib.hid hc_a
                       simp only [dec_true h_f] at hc_f
                       have HC_f := Lib.hid hc_f
                       simp only [dec_true h_p] at hc_p
                       have HC_p := Lib.hid hc_p
                       have e_E0 : decide ((12 : Int) < (x_exits.length : Int)) = false := decide_eq_false (by omega)
                       have e_e1 : x_inn.toList.isEmpty = true := emp_t h_e
                       have e_z2 : decide ((0 : Int) < (x_exits.length : Int)) = false := decide_eq_false (by omega)
                       have e_z3 : decide (0 < x_exits.length) = false := decide_eq_false (by omega)
                       obtain ⟨_, _, he, hl9, hc9, h9⟩ := ka9.opn
                       cases he
                       unfold maxLen at hc9
                       clear hc_n hc_t hc_x hc_w hc_a hc_f hc_p hc_i ka5 ka6 ka7 ka8 ka9 z_name z_title z_inn z_text hF h_n h_t h_x h_w h_a h_f h_p h_E h_e h_z
                       go_enter Tryz.func31, Tryz.ntmps31
                       go_upto_region 1 with fail
                       rw [HW1.out]
                       obtain ⟨bq, bt0⟩ := hE.out W1 (Below.refl _ _)
                       have HB0 := b0' W1
                       obtain ⟨g0, g1, g2, g3, g4, g5, g6, g7, g8, g9⟩ := p9' bq.2
                       go_wp2_with (first | (go_at_call 27; (with_reducible refine (HC_n.out W1 bt0).mono ?_); rintro e91 w1 ⟨rfl, hb1⟩; have HB1 := bt HB0 hb1; obtain ⟨bq1, bt1⟩ := hE.out w1 HB1; have g1_1 := e1' bq1.2; have g1_2 := e2' bq1.2; have g1_3 := e3' bq1.2; have g1_4 := e4' bq1.2; have g1_5 := e5' bq1.2; have g1_6 := e6' bq1.2; have g1_7 := e7' bq1.2; have g1_8 := e8' bq1.2; have g1_9 := e9' bq1.2) | (go_at_call 26; (with_reducible refine (HC_t.out w1 bt1).mono ?_); rintro e92 w2 ⟨rfl, hb2⟩; have HB2 := bt HB1 hb2; obtain ⟨bq2, bt2⟩ := hE.out w2 HB2; have g2_2 := e2' bq2.2; have g2_3 := e3' bq2.2; have g2_4 := e4' bq2.2; have g2_5 := e5' bq2.2; have g2_6 := e6' bq2.2; have g2_7 := e7' bq2.2; have g2_8 := e8' bq2.2; have g2_9 := e9' bq2.2) | (go_at_call 26; (with_reducible refine (HC_x.out w2 bt2).mono ?_); rintro e93 w3 ⟨rfl, hb3⟩; have HB3 := bt HB2 hb3; obtain ⟨bq3, bt3⟩ := hE.out w3 HB3; have g3_2 := e2' bq3.2; have g3_4 := e4' bq3.2; have g3_5 := e5' bq3.2; have g3_6 := e6' bq3.2; have g3_7 := e7' bq3.2; have g3_8 := e8' bq3.2; have g3_9 := e9' bq3.2) | (go_at_call 77; (with_reducible refine (HC_w.out w3 bt3).mono ?_); rintro e94 w4 ⟨rfl, hb4⟩; have HB4 := bt HB3 hb4; obtain ⟨bq4, bt4⟩ := hE.out w4 HB4; have g4_2 := e2' bq4.2; have g4_4 := e4' bq4.2; have g4_6 := e6' bq4.2; have g4_7 := e7' bq4.2; have g4_8 := e8' bq4.2; have g4_9 := e9' bq4.2) | (go_at_call 77; (with_reducible refine (HC_a.out w4 bt4).mono ?_); rintro e95 w5 ⟨rfl, hb5⟩; have HB5 := bt HB4 hb5; obtain ⟨bq5, bt5⟩ := hE.out w5 HB5; have g5_2 := e2' bq5.2; have g5_4 := e4' bq5.2; have g5_7 := e7' bq5.2; have g5_8 := e8' bq5.2; have g5_9 := e9' bq5.2) | (go_at_call 28; (with_reducible refine (HC_f.out w5 bt5).mono ?_); rintro e96 w6 ⟨rfl, hb6⟩; have HB6 := bt HB5 hb6; obtain ⟨bq6, bt6⟩ := hE.out w6 HB6; have g6_2 := e2' bq6.2; have g6_4 := e4' bq6.2; have g6_8 := e8' bq6.2; have g6_9 := e9' bq6.2) | (go_at_call 29; (with_reducible refine (HC_p.out w6 bt6).mono ?_); rintro e97 w7 ⟨rfl, hb7⟩; have HB7 := bt HB6 hb7; obtain ⟨bq7, bt7⟩ := hE.out w7 HB7; have g7_2 := e2' bq7.2; have g7_4 := e4' bq7.2; have g7_9 := e9' bq7.2))
                       go_loopw [3] (fun i wr => ∃ k : Nat, k ≤ x_exits.length ∧ i = .int .i64 k ∧ Hid (∀ x ∈ x_exits.take k, ExitR x) ∧ Below W1.heap.size W1 wr) (fun i _ => x_exits.length - (intOf i).toNat)
                       case atStart => exact ⟨0, Nat.zero_le _, rfl, (by show ∀ x ∈ x_exits.take 0, ExitR x; rw [List.take_zero]; exact fun _ h => (by cases h)), HB7⟩
                       case round =>
                        obtain ⟨k, hk, rfl, hq, hB⟩ := hrel
                        obtain ⟨bq, hqt⟩ := hE.out wr hB
                        have u9 := e9' bq.2
                        by_cases hlt : k < x_exits.length
                        · obtain ⟨b, off, rfl, hFb, hel⟩ := h9 (by omega)
                          obtain ⟨cs, hx, -, hcell⟩ := hel wr (hqt.block b (HF.out b hFb)) k hlt
                          obtain ⟨x, hxe⟩ : ∃ x, x_exits[k] = x := ⟨_, rfl⟩
                          rw [hxe] at hx
                          have hki : (k : Int) < (x_exits.length : Int) := by omega
                          have hki0 : (0 : Int) ≤ (k : Int) := by omega
                          have HB := Lib.hid hB
                          have HQT := Lib.hid hqt
                          have hnx : Hid (ExitR x → ∀ y ∈ x_exits.take (k + 1), ExitR y) := fun h y hy => by
                           rw [List.take_succ_eq_append_getElem hlt, hxe] at hy
                           rcases List.mem_append.1 hy with h1 | h1
                           · exact hq.out y h1
                           rw [List.mem_singleton.1 h1]; exact h
                          have hno : Hid (¬ ExitR x → dec (ObjR ⟨x_name, x_title, x_inn, x_text, false, x_words, x_adjs, x_flags, x_props, x_exits⟩) = false) := fun h => dec_false (fun h2 => h (by have h3 := h2.2.2.2.2.2.2.2.2.2.2.2 _ (List.getElem_mem hlt); rw [hxe] at h3; exact h3))
                          clear hq hxe hB hqt bq
                          obtain ⟨q_dir, q_to, q_els, q_cond⟩ := x
                          obtain ⟨-, zq_to, zq_els, vq3, rfl, kq3⟩ := hx
                          simp only at zq_to zq_els kq3
                          obtain ⟨dq3, fq3, rfl⟩ := kq3.shape
                          have g0 := hcell 0 _ rfl
                          have g1 := hcell 1 _ rfl
                          have g2 := hcell 2 _ rfl
                          have g3 := hcell 3 _ rfl
                          simp only [Nat.add_zero] at g0
                          obtain ⟨we, hwe⟩ : ∃ we, wr.alloc (.cells #[.int .i64 q_dir, .string q_to, .string q_els, .slice dq3 q_cond.length fq3] 121) = we := ⟨_, rfl⟩
                          have hbe := ba' hwe
                          have hxb := bn' hwe
                          have hEE : Hid (∀ W, Below we.heap.size we W → BoxAt W wr.heap.size [.int .i64 q_dir, .string q_to, .string q_els, .slice dq3 q_cond.length fq3] ∧ Below wr.heap.size wr W) := fun W hW => ⟨hxb.below hW hxb.1, bt hbe hW⟩
                          have HWE := Lib.hid hwe
                          have hc_n := fun (W : World) (hW : Below wr.heap.size wr W) => rrName_calls q_to W zq_to
                          have hc_t := fun (W : World) (hW : Below wr.heap.size wr W) => Same0.gv (isTextR_calls q_els W zq_els)
                          have hc_w := fun (W : World) (hW : Below wr.heap.size wr W) => rrWhen_calls F W q_cond _ (HF.out.below (bt HQT.out hW)) (Exs.below kq3 HF.out (bt HQT.out hW) (Nat.le_refl _))
                          clear hel hcell hFb kq3 zq_to zq_els hwe hbe hxb
                          go_upto_region 9 with fail
                          rw [HWE.out]
                          clear g0 g1 g2 g3
                          by_cases h_l : (1 : Int) ≤ q_dir
                          · by_cases h_h : q_dir ≤ (12 : Int)
                            · by_cases h_n : IsNm q_to
                              · by_cases h_t : IsText q_els
                                · by_cases h_w : WhenR q_cond
                                  · have hnx2 := Lib.hid (hnx.out ⟨h_l, h_h, h_n, h_t, h_w⟩)
                                    simp only [dec_true h_n] at hc_n
                                    have HC_n := Lib.hid hc_n
                                    simp only [dec_true h_t] at hc_t
                                    have HC_t := Lib.hid hc_t
                                    simp only [dec_true h_w] at hc_w
                                    have HC_w := Lib.hid hc_w
                                    have e_l0 : decide (q_dir < (1 : Int)) = false := decide_eq_false (by omega)
                                    have e_h1 : decide ((12 : Int) < q_dir) = false := decide_eq_false (by omega)
                                    clear hc_n hc_t hc_w hnx hno h_l h_h h_n h_t h_w
                                    obtain ⟨bq, bt0⟩ := hEE.out we (Below.refl _ _)
                                    have HB0 := b0' we
                                    obtain ⟨g0, g1, g2, g3⟩ := p3' bq.2
                                    go_wp2_with (first | (go_at_call 27; (with_reducible refine (HC_n.out we bt0).mono ?_); rintro e91 w1 ⟨rfl, hb1⟩; have HB1 := bt HB0 hb1; obtain ⟨bq1, bt1⟩ := hEE.out w1 HB1; have g1_2 := e2' bq1.2; have g1_3 := e3' bq1.2) | (go_at_call 26; (with_reducible refine (HC_t.out w1 bt1).mono ?_); rintro e92 w2 ⟨rfl, hb2⟩; have HB2 := bt HB1 hb2; obtain ⟨bq2, bt2⟩ := hEE.out w2 HB2; have g2_3 := e3' bq2.2) | (go_at_call 78; (with_reducible refine (HC_w.out w2 bt2).mono ?_); rintro e93 w3 ⟨rfl, hb3⟩; have HB3 := bt HB2 hb3; obtain ⟨bq3, bt3⟩ := hEE.out w3 HB3))
                                    go_roundw
                                    case rel => exact ⟨k + 1, by omega, by go_num, hnx2.out, bt HB.out bt3⟩
                                    case measure => simp [intOf]; omega
                                  have hfin := Lib.hid (hno.out (fun h => h_w h.2.2.2.2))
                                  simp only [dec_true h_n] at hc_n
                                  have HC_n := Lib.hid hc_n
                                  simp only [dec_true h_t] at hc_t
                                  have HC_t := Lib.hid hc_t
                                  simp only [dec_false h_w] at hc_w
                                  have HC_w := Lib.hid hc_w
                                  have e_l0 : decide (q_dir < (1 : Int)) = false := decide_eq_false (by omega)
                                  have e_h1 : decide ((12 : Int) < q_dir) = false := decide_eq_false (by omega)
                                  clear hc_n hc_t hc_w hnx hno h_l h_h h_n h_t h_w
                                  obtain ⟨bq, bt0⟩ := hEE.out we (Below.refl _ _)
                                  have HB0 := b0' we
                                  obtain ⟨g0, g1, g2, g3⟩ := p3' bq.2
                                  go_wp2_with (first | (go_at_call 27; (with_reducible refine (HC_n.out we bt0).mono ?_); rintro e91 w1 ⟨rfl, hb1⟩; have HB1 := bt HB0 hb1; obtain ⟨bq1, bt1⟩ := hEE.out w1 HB1; have g1_2 := e2' bq1.2; have g1_3 := e3' bq1.2) | (go_at_call 26; (with_reducible refine (HC_t.out w1 bt1).mono ?_); rintro e92 w2 ⟨rfl, hb2⟩; have HB2 := bt HB1 hb2; obtain ⟨bq2, bt2⟩ := hEE.out w2 HB2; have g2_3 := e3' bq2.2) | (go_at_call 78; (with_reducible refine (HC_w.out w2 bt2).mono ?_); rintro e93 w3 ⟨rfl, hb3⟩; have HB3 := bt HB2 hb3; obtain ⟨bq3, bt3⟩ := hEE.out w3 HB3))
                                  go_ret
                                  exact ⟨ret_bool hfin.out.symm, (hE.out _ (bt HB.out bt3)).2⟩
                                have hfin := Lib.hid (hno.out (fun h => h_t h.2.2.2.1))
                                simp only [dec_true h_n] at hc_n
                                have HC_n := Lib.hid hc_n
                                simp only [dec_false h_t] at hc_t
                                have HC_t := Lib.hid hc_t
                                have e_l0 : decide (q_dir < (1 : Int)) = false := decide_eq_false (by omega)
                                have e_h1 : decide ((12 : Int) < q_dir) = false := decide_eq_false (by omega)
                                clear hc_n hc_t hc_w hnx hno h_l h_h h_n h_t
                                obtain ⟨bq, bt0⟩ := hEE.out we (Below.refl _ _)
                                have HB0 := b0' we
                                obtain ⟨g0, g1, g2⟩ := p2' bq.2
                                go_wp2_with (first | (go_at_call 27; (with_reducible refine (HC_n.out we bt0).mono ?_); rintro e91 w1 ⟨rfl, hb1⟩; have HB1 := bt HB0 hb1; obtain ⟨bq1, bt1⟩ := hEE.out w1 HB1; have g1_2 := e2' bq1.2) | (go_at_call 26; (with_reducible refine (HC_t.out w1 bt1).mono ?_); rintro e92 w2 ⟨rfl, hb2⟩; have HB2 := bt HB1 hb2; obtain ⟨bq2, bt2⟩ := hEE.out w2 HB2))
                                go_ret
                                exact ⟨ret_bool hfin.out.symm, (hE.out _ (bt HB.out bt2)).2⟩
                              have hfin := Lib.hid (hno.out (fun h => h_n h.2.2.1))
                              simp only [dec_false h_n] at hc_n
                              have HC_n := Lib.hid hc_n
                              have e_l0 : decide (q_dir < (1 : Int)) = false := decide_eq_false (by omega)
                              have e_h1 : decide ((12 : Int) < q_dir) = false := decide_eq_false (by omega)
                              clear hc_n hc_t hc_w hnx hno h_l h_h h_n
                              obtain ⟨bq, bt0⟩ := hEE.out we (Below.refl _ _)
                              have HB0 := b0' we
                              obtain ⟨g0, g1⟩ := p1' bq.2
                              go_wp2_with (go_at_call 27; (with_reducible refine (HC_n.out we bt0).mono ?_); rintro e91 w1 ⟨rfl, hb1⟩; have HB1 := bt HB0 hb1; obtain ⟨bq1, bt1⟩ := hEE.out w1 HB1)
                              go_ret
                              exact ⟨ret_bool hfin.out.symm, (hE.out _ (bt HB.out bt1)).2⟩
                            have hfin := Lib.hid (hno.out (fun h => h_h h.2.1))
                            have e_l0 : decide (q_dir < (1 : Int)) = false := decide_eq_false (by omega)
                            have e_h1 : decide ((12 : Int) < q_dir) = true := decide_eq_true (by omega)
                            clear hc_n hc_t hc_w hnx hno h_l h_h
                            obtain ⟨bq, bt0⟩ := hEE.out we (Below.refl _ _)
                            have HB0 := b0' we
                            have g0 := e0' bq.2
                            go_wp2_with fail
                            go_ret
                            exact ⟨ret_bool hfin.out.symm, (hE.out _ (bt HB.out bt0)).2⟩
                          have hfin := Lib.hid (hno.out (fun h => h_l h.1))
                          have e_l0 : decide (q_dir < (1 : Int)) = true := decide_eq_true (by omega)
                          clear hc_n hc_t hc_w hnx hno h_l
                          obtain ⟨bq, bt0⟩ := hEE.out we (Below.refl _ _)
                          have HB0 := b0' we
                          have g0 := e0' bq.2
                          go_wp2_with fail
                          go_ret
                          exact ⟨ret_bool hfin.out.symm, (hE.out _ (bt HB.out bt0)).2⟩
                        have : k = x_exits.length := by omega
                        subst this
                        have hall_exits : Hid (∀ x ∈ x_exits, ExitR x) := fun x hx => hq.out x (by rw [List.take_length]; exact hx)
                        have hki : decide ((x_exits.length : Int) < (x_exits.length : Int)) = false := by simp
                        clear hq h9
                        have hfin : Hid (dec (ObjR ⟨x_name, x_title, x_inn, x_text, false, x_words, x_adjs, x_flags, x_props, x_exits⟩) = true) := dec_true ⟨fun h => Bool.noConfusion h, fun _ => HH_z.out, HH_w.out, HH_a.out, HH_n.out, HH_t.out, HH_x.out, Or.inl HH_e.out, HH_f.out, HH_p.out, ⟨HH_E.out, hall_exits.out⟩⟩
                        go_wp2
                        go_ret
                        exact ⟨ret_bool hfin.out.symm, hqt⟩
                     have hfin : Hid (dec (ObjR ⟨x_name, x_title, x_inn, x_text, false, x_words, x_adjs, x_flags, x_props, x_exits⟩) = false) := dec_false (fun h => h_z (h.2.1 rfl))
                     simp only [dec_true h_n] at hc_n
                     have HC_n := Lib.hid hc_n
                     simp only [dec_true h_t] at hc_t
                     have HC_t := Lib.hid hc_t
                     simp only [dec_true h_x] at hc_x
                     have HC_x := Lib.hid hc_x
                     simp only [dec_true h_w] at hc_w
                     have HC_w := Lib.hid hc_w
                     simp only [dec_true h_a] at hc_a
                     have HC_a := Lib.hid hc_a
                     simp only [dec_true h_f] at hc_f
                     have HC_f := Lib.hid hc_f
                     simp only [dec_true h_p] at hc_p
                     have HC_p := Lib.hid hc_p
                     have e_E0 : decide ((12 : Int) < (x_exits.length : Int)) = false := decide_eq_false (by omega)
                     have e_e1 : x_inn.toList.isEmpty = true := emp_t h_e
                     have e_z2 : decide ((0 : Int) < (x_exits.length : Int)) = true := decide_eq_true (by omega)
                     have e_z3 : decide (0 < x_exits.length) = true := decide_eq_true (by omega)
                     clear hc_n hc_t hc_x hc_w hc_a hc_f hc_p hc_i ka5 ka6 ka7 ka8 ka9 z_name z_title z_inn z_text hF h_n h_t h_x h_w h_a h_f h_p h_E h_e h_z
                     go_enter Tryz.func31, Tryz.ntmps31
                     go_upto_region 1 with fail
                     rw [HW1.out]
                     obtain ⟨bq, bt0⟩ := hE.out W1 (Below.refl _ _)
                     have HB0 := b0' W1
                     obtain ⟨g0, g1, g2, g3, g4, g5, g6, g7, g8, g9⟩ := p9' bq.2
                     go_wp2_with (first | (go_at_call 27; (with_reducible refine (HC_n.out W1 bt0).mono ?_); rintro e91 w1 ⟨rfl, hb1⟩; have HB1 := bt HB0 hb1; obtain ⟨bq1, bt1⟩ := hE.out w1 HB1; have g1_1 := e1' bq1.2; have g1_2 := e2' bq1.2; have g1_3 := e3' bq1.2; have g1_4 := e4' bq1.2; have g1_5 := e5' bq1.2; have g1_6 := e6' bq1.2; have g1_7 := e7' bq1.2; have g1_8 := e8' bq1.2; have g1_9 := e9' bq1.2) | (go_at_call 26; (with_reducible refine (HC_t.out w1 bt1).mono ?_); rintro e92 w2 ⟨rfl, hb2⟩; have HB2 := bt HB1 hb2; obtain ⟨bq2, bt2⟩ := hE.out w2 HB2; have g2_2 := e2' bq2.2; have g2_3 := e3' bq2.2; have g2_4 := e4' bq2.2; have g2_5 := e5' bq2.2; have g2_6 := e6' bq2.2; have g2_7 := e7' bq2.2; have g2_8 := e8' bq2.2; have g2_9 := e9' bq2.2) | (go_at_call 26; (with_reducible refine (HC_x.out w2 bt2).mono ?_); rintro e93 w3 ⟨rfl, hb3⟩; have HB3 := bt HB2 hb3; obtain ⟨bq3, bt3⟩ := hE.out w3 HB3; have g3_2 := e2' bq3.2; have g3_4 := e4' bq3.2; have g3_5 := e5' bq3.2; have g3_6 := e6' bq3.2; have g3_7 := e7' bq3.2; have g3_8 := e8' bq3.2; have g3_9 := e9' bq3.2) | (go_at_call 77; (with_reducible refine (HC_w.out w3 bt3).mono ?_); rintro e94 w4 ⟨rfl, hb4⟩; have HB4 := bt HB3 hb4; obtain ⟨bq4, bt4⟩ := hE.out w4 HB4; have g4_2 := e2' bq4.2; have g4_4 := e4' bq4.2; have g4_6 := e6' bq4.2; have g4_7 := e7' bq4.2; have g4_8 := e8' bq4.2; have g4_9 := e9' bq4.2) | (go_at_call 77; (with_reducible refine (HC_a.out w4 bt4).mono ?_); rintro e95 w5 ⟨rfl, hb5⟩; have HB5 := bt HB4 hb5; obtain ⟨bq5, bt5⟩ := hE.out w5 HB5; have g5_2 := e2' bq5.2; have g5_4 := e4' bq5.2; have g5_7 := e7' bq5.2; have g5_8 := e8' bq5.2; have g5_9 := e9' bq5.2) | (go_at_call 28; (with_reducible refine (HC_f.out w5 bt5).mono ?_); rintro e96 w6 ⟨rfl, hb6⟩; have HB6 := bt HB5 hb6; obtain ⟨bq6, bt6⟩ := hE.out w6 HB6; have g6_2 := e2' bq6.2; have g6_4 := e4' bq6.2; have g6_8 := e8' bq6.2; have g6_9 := e9' bq6.2) | (go_at_call 29; (with_reducible refine (HC_p.out w6 bt6).mono ?_); rintro e97 w7 ⟨rfl, hb7⟩; have HB7 := bt HB6 hb7; obtain ⟨bq7, bt7⟩ := hE.out w7 HB7; have g7_2 := e2' bq7.2; have g7_4 := e4' bq7.2; have g7_9 := e9' bq7.2))
                     go_ret
                     exact ⟨ret_bool hfin.out.symm, bt7⟩
                   by_cases h_i : IsNm x_inn
                   · by_cases h_z : x_exits.length = 0
                     · have HH_n := Lib.hid h_n
                       have HH_t := Lib.hid h_t
                       have HH_x := Lib.hid h_x
                       have HH_w := Lib.hid h_w
                       have HH_a := Lib.hid h_a
                       have HH_f := Lib.hid h_f
                       have HH_p := Lib.hid h_p
                       have HH_E := Lib.hid h_E
                       have HH_e := Lib.hid h_e
                       have HH_i := Lib.hid h_i
                       have HH_z := Lib.hid h_z
                       have HF := Lib.hid hF
                       simp only [dec_true h_n] at hc_n
                       have HC_n := Lib.hid hc_n
                       simp only [dec_true h_t] at hc_t
                       have HC_t := Lib.hid hc_t
                       simp only [dec_true h_x] at hc_x
                       have HC_x := Lib.hid hc_x
                       simp only [dec_true h_w] at hc_w
                       have HC_w := Lib.hid hc_w
                       simp only [dec_true h_a] at hc_a
                       have HC_a := Lib.hid hc_a
                       simp only [dec_true h_f] at hc_f
                       have HC_f := Lib.hid hc_f
                       simp only [dec_true h_p] at hc_p
                       have HC_p := Lib.hid hc_p
                       simp only [dec_true h_i] at hc_i
                       have HC_i := Lib.hid hc_i
                       have e_E0 : decide ((12 : Int) < (x_exits.length : Int)) = false := decide_eq_false (by omega)
                       have e_e1 : x_inn.toList.isEmpty = false := emp_f h_e
                       have e_z2 : decide ((0 : Int) < (x_exits.length : Int)) = false := decide_eq_false (by omega)
                       have e_z3 : decide (0 < x_exits.length) = false := decide_eq_false (by omega)
                       obtain ⟨_, _, he, hl9, hc9, h9⟩ := ka9.opn
                       cases he
                       unfold maxLen at hc9
                       clear hc_n hc_t hc_x hc_w hc_a hc_f hc_p hc_i ka5 ka6 ka7 ka8 ka9 z_name z_title z_inn z_text hF h_n h_t h_x h_w h_a h_f h_p h_E h_e h_i h_z
                       go_enter Tryz.func31, Tryz.ntmps31
                       go_upto_region 1 with fail
                       rw [HW1.out]
                       obtain ⟨bq, bt0⟩ := hE.out W1 (Below.refl _ _)
                       have HB0 := b0' W1
                       obtain ⟨g0, g1, g2, g3, g4, g5, g6, g7, g8, g9⟩ := p9' bq.2
                       go_wp2_with (first | (go_at_call 27; (with_reducible refine (HC_n.out W1 bt0).mono ?_); rintro e91 w1 ⟨rfl, hb1⟩; have HB1 := bt HB0 hb1; obtain ⟨bq1, bt1⟩ := hE.out w1 HB1; have g1_1 := e1' bq1.2; have g1_2 := e2' bq1.2; have g1_3 := e3' bq1.2; have g1_4 := e4' bq1.2; have g1_5 := e5' bq1.2; have g1_6 := e6' bq1.2; have g1_7 := e7' bq1.2; have g1_8 := e8' bq1.2; have g1_9 := e9' bq1.2) | (go_at_call 26; (with_reducible refine (HC_t.out w1 bt1).mono ?_); rintro e92 w2 ⟨rfl, hb2⟩; have HB2 := bt HB1 hb2; obtain ⟨bq2, bt2⟩ := hE.out w2 HB2; have g2_2 := e2' bq2.2; have g2_3 := e3' bq2.2; have g2_4 := e4' bq2.2; have g2_5 := e5' bq2.2; have g2_6 := e6' bq2.2; have g2_7 := e7' bq2.2; have g2_8 := e8' bq2.2; have g2_9 := e9' bq2.2) | (go_at_call 26; (with_reducible refine (HC_x.out w2 bt2).mono ?_); rintro e93 w3 ⟨rfl, hb3⟩; have HB3 := bt HB2 hb3; obtain ⟨bq3, bt3⟩ := hE.out w3 HB3; have g3_2 := e2' bq3.2; have g3_4 := e4' bq3.2; have g3_5 := e5' bq3.2; have g3_6 := e6' bq3.2; have g3_7 := e7' bq3.2; have g3_8 := e8' bq3.2; have g3_9 := e9' bq3.2) | (go_at_call 77; (with_reducible refine (HC_w.out w3 bt3).mono ?_); rintro e94 w4 ⟨rfl, hb4⟩; have HB4 := bt HB3 hb4; obtain ⟨bq4, bt4⟩ := hE.out w4 HB4; have g4_2 := e2' bq4.2; have g4_4 := e4' bq4.2; have g4_6 := e6' bq4.2; have g4_7 := e7' bq4.2; have g4_8 := e8' bq4.2; have g4_9 := e9' bq4.2) | (go_at_call 77; (with_reducible refine (HC_a.out w4 bt4).mono ?_); rintro e95 w5 ⟨rfl, hb5⟩; have HB5 := bt HB4 hb5; obtain ⟨bq5, bt5⟩ := hE.out w5 HB5; have g5_2 := e2' bq5.2; have g5_4 := e4' bq5.2; have g5_7 := e7' bq5.2; have g5_8 := e8' bq5.2; have g5_9 := e9' bq5.2) | (go_at_call 28; (with_reducible refine (HC_f.out w5 bt5).mono ?_); rintro e96 w6 ⟨rfl, hb6⟩; have HB6 := bt HB5 hb6; obtain ⟨bq6, bt6⟩ := hE.out w6 HB6; have g6_2 := e2' bq6.2; have g6_4 := e4' bq6.2; have g6_8 := e8' bq6.2; have g6_9 := e9' bq6.2) | (go_at_call 29; (with_reducible refine (HC_p.out w6 bt6).mono ?_); rintro e97 w7 ⟨rfl, hb7⟩; have HB7 := bt HB6 hb7; obtain ⟨bq7, bt7⟩ := hE.out w7 HB7; have g7_2 := e2' bq7.2; have g7_4 := e4' bq7.2; have g7_9 := e9' bq7.2) | (go_at_call 27; (with_reducible refine (HC_i.out w7 bt7).mono ?_); rintro e98 w8 ⟨rfl, hb8⟩; have HB8 := bt HB7 hb8; obtain ⟨bq8, bt8⟩ := hE.out w8 HB8; have g8_4 := e4' bq8.2; have g8_9 := e9' bq8.2))
                       go_loopw [3] (fun i wr => ∃ k : Nat, k ≤ x_exits.length ∧ i = .int .i64 k ∧ Hid (∀ x ∈ x_exits.take k, ExitR x) ∧ Below W1.heap.size W1 wr) (fun i _ => x_exits.length - (intOf i).toNat)
                       case atStart => exact ⟨0, Nat.zero_le _, rfl, (by show ∀ x ∈ x_exits.take 0, ExitR x; rw [List.take_zero]; exact fun _ h => (by cases h)), HB8⟩
                       case round =>
                        obtain ⟨k, hk, rfl, hq, hB⟩ := hrel
                        obtain ⟨bq, hqt⟩ := hE.out wr hB
                        have u9 := e9' bq.2
                        by_cases hlt : k < x_exits.length
                        · obtain ⟨b, off, rfl, hFb, hel⟩ := h9 (by omega)
                          obtain ⟨cs, hx, -, hcell⟩ := hel wr (hqt.block b (HF.out b hFb)) k hlt
                          obtain ⟨x, hxe⟩ : ∃ x, x_exits[k] = x := ⟨_, rfl⟩
                          rw [hxe] at hx
                          have hki : (k : Int) < (x_exits.length : Int) := by omega
                          have hki0 : (0 : Int) ≤ (k : Int) := by omega
                          have HB := Lib.hid hB
                          have HQT := Lib.hid hqt
                          have hnx : Hid (ExitR x → ∀ y ∈ x_exits.take (k + 1), ExitR y) := fun h y hy => by
                           rw [List.take_succ_eq_append_getElem hlt, hxe] at hy
                           rcases List.mem_append.1 hy with h1 | h1
                           · exact hq.out y h1
                           rw [List.mem_singleton.1 h1]; exact h
                          have hno : Hid (¬ ExitR x → dec (ObjR ⟨x_name, x_title, x_inn, x_text, false, x_words, x_adjs, x_flags, x_props, x_exits⟩) = false) := fun h => dec_false (fun h2 => h (by have h3 := h2.2.2.2.2.2.2.2.2.2.2.2 _ (List.getElem_mem hlt); rw [hxe] at h3; exact h3))
                          clear hq hxe hB hqt bq
                          obtain ⟨q_dir, q_to, q_els, q_cond⟩ := x
                          obtain ⟨-, zq_to, zq_els, vq3, rfl, kq3⟩ := hx
                          simp only at zq_to zq_els kq3
                          obtain ⟨dq3, fq3, rfl⟩ := kq3.shape
                          have g0 := hcell 0 _ rfl
                          have g1 := hcell 1 _ rfl
                          have g2 := hcell 2 _ rfl
                          have g3 := hcell 3 _ rfl
                          simp only [Nat.add_zero] at g0
                          obtain ⟨we, hwe⟩ : ∃ we, wr.alloc (.cells #[.int .i64 q_dir, .string q_to, .string q_els, .slice dq3 q_cond.length fq3] 121) = we := ⟨_, rfl⟩
                          have hbe := ba' hwe
                          have hxb := bn' hwe
                          have hEE : Hid (∀ W, Below we.heap.size we W → BoxAt W wr.heap.size [.int .i64 q_dir, .string q_to, .string q_els, .slice dq3 q_cond.length fq3] ∧ Below wr.heap.size wr W) := fun W hW => ⟨hxb.below hW hxb.1, bt hbe hW⟩
                          have HWE := Lib.hid hwe
                          have hc_n := fun (W : World) (hW : Below wr.heap.size wr W) => rrName_calls q_to W zq_to
                          have hc_t := fun (W : World) (hW : Below wr.heap.size wr W) => Same0.gv (isTextR_calls q_els W zq_els)
                          have hc_w := fun (W : World) (hW : Below wr.heap.size wr W) => rrWhen_calls F W q_cond _ (HF.out.below (bt HQT.out hW)) (Exs.below kq3 HF.out (bt HQT.out hW) (Nat.le_refl _))
                          clear hel hcell hFb kq3 zq_to zq_els hwe hbe hxb
                          go_upto_region 9 with fail
                          rw [HWE.out]
                          clear g0 g1 g2 g3
                          by_cases h_l : (1 : Int) ≤ q_dir
                          · by_cases h_h : q_dir ≤ (12 : Int)
                            · by_cases h_n : IsNm q_to
                              · by_cases h_t : IsText q_els
                                · by_cases h_w : WhenR q_cond
                                  · have hnx2 := Lib.hid (hnx.out ⟨h_l, h_h, h_n, h_t, h_w⟩)
                                    simp only [dec_true h_n] at hc_n
                                    have HC_n := Lib.hid hc_n
                                    simp only [dec_true h_t] at hc_t
                                    have HC_t := Lib.hid hc_t
                                    simp only [dec_true h_w] at hc_w
                                    have HC_w := Lib.hid hc_w
                                    have e_l0 : decide (q_dir < (1 : Int)) = false := decide_eq_false (by omega)
                                    have e_h1 : decide ((12 : Int) < q_dir) = false := decide_eq_false (by omega)
                                    clear hc_n hc_t hc_w hnx hno h_l h_h h_n h_t h_w
                                    obtain ⟨bq, bt0⟩ := hEE.out we (Below.refl _ _)
                                    have HB0 := b0' we
                                    obtain ⟨g0, g1, g2, g3⟩ := p3' bq.2
                                    go_wp2_with (first | (go_at_call 27; (with_reducible refine (HC_n.out we bt0).mono ?_); rintro e91 w1 ⟨rfl, hb1⟩; have HB1 := bt HB0 hb1; obtain ⟨bq1, bt1⟩ := hEE.out w1 HB1; have g1_2 := e2' bq1.2; have g1_3 := e3' bq1.2) | (go_at_call 26; (with_reducible refine (HC_t.out w1 bt1).mono ?_); rintro e92 w2 ⟨rfl, hb2⟩; have HB2 := bt HB1 hb2; obtain ⟨bq2, bt2⟩ := hEE.out w2 HB2; have g2_3 := e3' bq2.2) | (go_at_call 78; (with_reducible refine (HC_w.out w2 bt2).mono ?_); rintro e93 w3 ⟨rfl, hb3⟩; have HB3 := bt HB2 hb3; obtain ⟨bq3, bt3⟩ := hEE.out w3 HB3))
                                    go_roundw
                                    case rel => exact ⟨k + 1, by omega, by go_num, hnx2.out, bt HB.out bt3⟩
                                    case measure => simp [intOf]; omega
                                  have hfin := Lib.hid (hno.out (fun h => h_w h.2.2.2.2))
                                  simp only [dec_true h_n] at hc_n
                                  have HC_n := Lib.hid hc_n
                                  simp only [dec_true h_t] at hc_t
                                  have HC_t := Lib.hid hc_t
                                  simp only [dec_false h_w] at hc_w
                                  have HC_w := Lib.hid hc_w
                                  have e_l0 : decide (q_dir < (1 : Int)) = false := decide_eq_false (by omega)
                                  have e_h1 : decide ((12 : Int) < q_dir) = false := decide_eq_false (by omega)
                                  clear hc_n hc_t hc_w hnx hno h_l h_h h_n h_t h_w
                                  obtain ⟨bq, bt0⟩ := hEE.out we (Below.refl _ _)
                                  have HB0 := b0' we
                                  obtain ⟨g0, g1, g2, g3⟩ := p3' bq.2
                                  go_wp2_with (first | (go_at_call 27; (with_reducible refine (HC_n.out we bt0).mono ?_); rintro e91 w1 ⟨rfl, hb1⟩; have HB1 := bt HB0 hb1; obtain ⟨bq1, bt1⟩ := hEE.out w1 HB1; have g1_2 := e2' bq1.2; have g1_3 := e3' bq1.2) | (go_at_call 26; (with_reducible refine (HC_t.out w1 bt1).mono ?_); rintro e92 w2 ⟨rfl, hb2⟩; have HB2 := bt HB1 hb2; obtain ⟨bq2, bt2⟩ := hEE.out w2 HB2; have g2_3 := e3' bq2.2) | (go_at_call 78; (with_reducible refine (HC_w.out w2 bt2).mono ?_); rintro e93 w3 ⟨rfl, hb3⟩; have HB3 := bt HB2 hb3; obtain ⟨bq3, bt3⟩ := hEE.out w3 HB3))
                                  go_ret
                                  exact ⟨ret_bool hfin.out.symm, (hE.out _ (bt HB.out bt3)).2⟩
                                have hfin := Lib.hid (hno.out (fun h => h_t h.2.2.2.1))
                                simp only [dec_true h_n] at hc_n
                                have HC_n := Lib.hid hc_n
                                simp only [dec_false h_t] at hc_t
                                have HC_t := Lib.hid hc_t
                                have e_l0 : decide (q_dir < (1 : Int)) = false := decide_eq_false (by omega)
                                have e_h1 : decide ((12 : Int) < q_dir) = false := decide_eq_false (by omega)
                                clear hc_n hc_t hc_w hnx hno h_l h_h h_n h_t
                                obtain ⟨bq, bt0⟩ := hEE.out we (Below.refl _ _)
                                have HB0 := b0' we
                                obtain ⟨g0, g1, g2⟩ := p2' bq.2
                                go_wp2_with (first | (go_at_call 27; (with_reducible refine (HC_n.out we bt0).mono ?_); rintro e91 w1 ⟨rfl, hb1⟩; have HB1 := bt HB0 hb1; obtain ⟨bq1, bt1⟩ := hEE.out w1 HB1; have g1_2 := e2' bq1.2) | (go_at_call 26; (with_reducible refine (HC_t.out w1 bt1).mono ?_); rintro e92 w2 ⟨rfl, hb2⟩; have HB2 := bt HB1 hb2; obtain ⟨bq2, bt2⟩ := hEE.out w2 HB2))
                                go_ret
                                exact ⟨ret_bool hfin.out.symm, (hE.out _ (bt HB.out bt2)).2⟩
                              have hfin := Lib.hid (hno.out (fun h => h_n h.2.2.1))
                              simp only [dec_false h_n] at hc_n
                              have HC_n := Lib.hid hc_n
                              have e_l0 : decide (q_dir < (1 : Int)) = false := decide_eq_false (by omega)
                              have e_h1 : decide ((12 : Int) < q_dir) = false := decide_eq_false (by omega)
                              clear hc_n hc_t hc_w hnx hno h_l h_h h_n
                              obtain ⟨bq, bt0⟩ := hEE.out we (Below.refl _ _)
                              have HB0 := b0' we
                              obtain ⟨g0, g1⟩ := p1' bq.2
                              go_wp2_with (go_at_call 27; (with_reducible refine (HC_n.out we bt0).mono ?_); rintro e91 w1 ⟨rfl, hb1⟩; have HB1 := bt HB0 hb1; obtain ⟨bq1, bt1⟩ := hEE.out w1 HB1)
                              go_ret
                              exact ⟨ret_bool hfin.out.symm, (hE.out _ (bt HB.out bt1)).2⟩
                            have hfin := Lib.hid (hno.out (fun h => h_h h.2.1))
                            have e_l0 : decide (q_dir < (1 : Int)) = false := decide_eq_false (by omega)
                            have e_h1 : decide ((12 : Int) < q_dir) = true := decide_eq_true (by omega)
                            clear hc_n hc_t hc_w hnx hno h_l h_h
                            obtain ⟨bq, bt0⟩ := hEE.out we (Below.refl _ _)
                            have HB0 := b0' we
                            have g0 := e0' bq.2
                            go_wp2_with fail
                            go_ret
                            exact ⟨ret_bool hfin.out.symm, (hE.out _ (bt HB.out bt0)).2⟩
                          have hfin := Lib.hid (hno.out (fun h => h_l h.1))
                          have e_l0 : decide (q_dir < (1 : Int)) = true := decide_eq_true (by omega)
                          clear hc_n hc_t hc_w hnx hno h_l
                          obtain ⟨bq, bt0⟩ := hEE.out we (Below.refl _ _)
                          have HB0 := b0' we
                          have g0 := e0' bq.2
                          go_wp2_with fail
                          go_ret
                          exact ⟨ret_bool hfin.out.symm, (hE.out _ (bt HB.out bt0)).2⟩
                        have : k = x_exits.length := by omega
                        subst this
                        have hall_exits : Hid (∀ x ∈ x_exits, ExitR x) := fun x hx => hq.out x (by rw [List.take_length]; exact hx)
                        have hki : decide ((x_exits.length : Int) < (x_exits.length : Int)) = false := by simp
                        clear hq h9
                        have hfin : Hid (dec (ObjR ⟨x_name, x_title, x_inn, x_text, false, x_words, x_adjs, x_flags, x_props, x_exits⟩) = true) := dec_true ⟨fun h => Bool.noConfusion h, fun _ => HH_z.out, HH_w.out, HH_a.out, HH_n.out, HH_t.out, HH_x.out, Or.inr HH_i.out, HH_f.out, HH_p.out, ⟨HH_E.out, hall_exits.out⟩⟩
                        go_wp2
                        go_ret
                        exact ⟨ret_bool hfin.out.symm, hqt⟩
                     have hfin : Hid (dec (ObjR ⟨x_name, x_title, x_inn, x_text, false, x_words, x_adjs, x_flags, x_props, x_exits⟩) = false) := dec_false (fun h => h_z (h.2.1 rfl))
                     simp only [dec_true h_n] at hc_n
                     have HC_n := Lib.hid hc_n
                     simp only [dec_true h_t] at hc_t
                     have HC_t := Lib.hid hc_t
                     simp only [dec_true h_x] at hc_x
                     have HC_x := Lib.hid hc_x
                     simp only [dec_true h_w] at hc_w
                     have HC_w := Lib.hid hc_w
                     simp only [dec_true h_a] at hc_a
                     have HC_a := Lib.hid hc_a
                     simp only [dec_true h_f] at hc_f
                     have HC_f := Lib.hid hc_f
                     simp only [dec_true h_p] at hc_p
                     have HC_p := Lib.hid hc_p
                     simp only [dec_true h_i] at hc_i
                     have HC_i := Lib.hid hc_i
                     have e_E0 : decide ((12 : Int) < (x_exits.length : Int)) = false := decide_eq_false (by omega)
                     have e_e1 : x_inn.toList.isEmpty = false := emp_f h_e
                     have e_z2 : decide ((0 : Int) < (x_exits.length : Int)) = true := decide_eq_true (by omega)
                     have e_z3 : decide (0 < x_exits.length) = true := decide_eq_true (by omega)
                     clear hc_n hc_t hc_x hc_w hc_a hc_f hc_p hc_i ka5 ka6 ka7 ka8 ka9 z_name z_title z_inn z_text hF h_n h_t h_x h_w h_a h_f h_p h_E h_e h_i h_z
                     go_enter Tryz.func31, Tryz.ntmps31
                     go_upto_region 1 with fail
                     rw [HW1.out]
                     obtain ⟨bq, bt0⟩ := hE.out W1 (Below.refl _ _)
                     have HB0 := b0' W1
                     obtain ⟨g0, g1, g2, g3, g4, g5, g6, g7, g8, g9⟩ := p9' bq.2
                     go_wp2_with (first | (go_at_call 27; (with_reducible refine (HC_n.out W1 bt0).mono ?_); rintro e91 w1 ⟨rfl, hb1⟩; have HB1 := bt HB0 hb1; obtain ⟨bq1, bt1⟩ := hE.out w1 HB1; have g1_1 := e1' bq1.2; have g1_2 := e2' bq1.2; have g1_3 := e3' bq1.2; have g1_4 := e4' bq1.2; have g1_5 := e5' bq1.2; have g1_6 := e6' bq1.2; have g1_7 := e7' bq1.2; have g1_8 := e8' bq1.2; have g1_9 := e9' bq1.2) | (go_at_call 26; (with_reducible refine (HC_t.out w1 bt1).mono ?_); rintro e92 w2 ⟨rfl, hb2⟩; have HB2 := bt HB1 hb2; obtain ⟨bq2, bt2⟩ := hE.out w2 HB2; have g2_2 := e2' bq2.2; have g2_3 := e3' bq2.2; have g2_4 := e4' bq2.2; have g2_5 := e5' bq2.2; have g2_6 := e6' bq2.2; have g2_7 := e7' bq2.2; have g2_8 := e8' bq2.2; have g2_9 := e9' bq2.2) | (go_at_call 26; (with_reducible refine (HC_x.out w2 bt2).mono ?_); rintro e93 w3 ⟨rfl, hb3⟩; have HB3 := bt HB2 hb3; obtain ⟨bq3, bt3⟩ := hE.out w3 HB3; have g3_2 := e2' bq3.2; have g3_4 := e4' bq3.2; have g3_5 := e5' bq3.2; have g3_6 := e6' bq3.2; have g3_7 := e7' bq3.2; have g3_8 := e8' bq3.2; have g3_9 := e9' bq3.2) | (go_at_call 77; (with_reducible refine (HC_w.out w3 bt3).mono ?_); rintro e94 w4 ⟨rfl, hb4⟩; have HB4 := bt HB3 hb4; obtain ⟨bq4, bt4⟩ := hE.out w4 HB4; have g4_2 := e2' bq4.2; have g4_4 := e4' bq4.2; have g4_6 := e6' bq4.2; have g4_7 := e7' bq4.2; have g4_8 := e8' bq4.2; have g4_9 := e9' bq4.2) | (go_at_call 77; (with_reducible refine (HC_a.out w4 bt4).mono ?_); rintro e95 w5 ⟨rfl, hb5⟩; have HB5 := bt HB4 hb5; obtain ⟨bq5, bt5⟩ := hE.out w5 HB5; have g5_2 := e2' bq5.2; have g5_4 := e4' bq5.2; have g5_7 := e7' bq5.2; have g5_8 := e8' bq5.2; have g5_9 := e9' bq5.2) | (go_at_call 28; (with_reducible refine (HC_f.out w5 bt5).mono ?_); rintro e96 w6 ⟨rfl, hb6⟩; have HB6 := bt HB5 hb6; obtain ⟨bq6, bt6⟩ := hE.out w6 HB6; have g6_2 := e2' bq6.2; have g6_4 := e4' bq6.2; have g6_8 := e8' bq6.2; have g6_9 := e9' bq6.2) | (go_at_call 29; (with_reducible refine (HC_p.out w6 bt6).mono ?_); rintro e97 w7 ⟨rfl, hb7⟩; have HB7 := bt HB6 hb7; obtain ⟨bq7, bt7⟩ := hE.out w7 HB7; have g7_2 := e2' bq7.2; have g7_4 := e4' bq7.2; have g7_9 := e9' bq7.2) | (go_at_call 27; (with_reducible refine (HC_i.out w7 bt7).mono ?_); rintro e98 w8 ⟨rfl, hb8⟩; have HB8 := bt HB7 hb8; obtain ⟨bq8, bt8⟩ := hE.out w8 HB8; have g8_4 := e4' bq8.2; have g8_9 := e9' bq8.2))
                     go_ret
                     exact ⟨ret_bool hfin.out.symm, bt8⟩
                   have hfin : Hid (dec (ObjR ⟨x_name, x_title, x_inn, x_text, false, x_words, x_adjs, x_flags, x_props, x_exits⟩) = false) := dec_false (fun h => h.2.2.2.2.2.2.2.1.elim h_e h_i)
                   simp only [dec_true h_n] at hc_n
                   have HC_n := Lib.hid hc_n
                   simp only [dec_true h_t] at hc_t
                   have HC_t := Lib.hid hc_t
                   simp only [dec_true h_x] at hc_x
                   have HC_x := Lib.hid hc_x
                   simp only [dec_true h_w] at hc_w
                   have HC_w := Lib.hid hc_w
                   simp only [dec_true h_a] at hc_a
                   have HC_a := Lib.hid hc_a
                   simp only [dec_true h_f] at hc_f
                   have HC_f := Lib.hid hc_f
                   simp only [dec_true h_p] at hc_p
                   have HC_p := Lib.hid hc_p
                   simp only [dec_false h_i] at hc_i
                   have HC_i := Lib.hid hc_i
                   have e_E0 : decide ((12 : Int) < (x_exits.length : Int)) = false := decide_eq_false (by omega)
                   have e_e1 : x_inn.toList.isEmpty = false := emp_f h_e
                   clear hc_n hc_t hc_x hc_w hc_a hc_f hc_p hc_i ka5 ka6 ka7 ka8 ka9 z_name z_title z_inn z_text hF h_n h_t h_x h_w h_a h_f h_p h_E h_e h_i
                   go_enter Tryz.func31, Tryz.ntmps31
                   go_upto_region 1 with fail
                   rw [HW1.out]
                   obtain ⟨bq, bt0⟩ := hE.out W1 (Below.refl _ _)
                   have HB0 := b0' W1
                   obtain ⟨g0, g1, g2, g3, g4, g5, g6, g7, g8, g9⟩ := p9' bq.2
                   go_wp2_with (first | (go_at_call 27; (with_reducible refine (HC_n.out W1 bt0).mono ?_); rintro e91 w1 ⟨rfl, hb1⟩; have HB1 := bt HB0 hb1; obtain ⟨bq1, bt1⟩ := hE.out w1 HB1; have g1_1 := e1' bq1.2; have g1_2 := e2' bq1.2; have g1_3 := e3' bq1.2; have g1_4 := e4' bq1.2; have g1_5 := e5' bq1.2; have g1_6 := e6' bq1.2; have g1_7 := e7' bq1.2; have g1_8 := e8' bq1.2; have g1_9 := e9' bq1.2) | (go_at_call 26; (with_reducible refine (HC_t.out w1 bt1).mono ?_); rintro e92 w2 ⟨rfl, hb2⟩; have HB2 := bt HB1 hb2; obtain ⟨bq2, bt2⟩ := hE.out w2 HB2; have g2_2 := e2' bq2.2; have g2_3 := e3' bq2.2; have g2_4 := e4' bq2.2; have g2_5 := e5' bq2.2; have g2_6 := e6' bq2.2; have g2_7 := e7' bq2.2; have g2_8 := e8' bq2.2; have g2_9 := e9' bq2.2) | (go_at_call 26; (with_reducible refine (HC_x.out w2 bt2).mono ?_); rintro e93 w3 ⟨rfl, hb3⟩; have HB3 := bt HB2 hb3; obtain ⟨bq3, bt3⟩ := hE.out w3 HB3; have g3_2 := e2' bq3.2; have g3_4 := e4' bq3.2; have g3_5 := e5' bq3.2; have g3_6 := e6' bq3.2; have g3_7 := e7' bq3.2; have g3_8 := e8' bq3.2; have g3_9 := e9' bq3.2) | (go_at_call 77; (with_reducible refine (HC_w.out w3 bt3).mono ?_); rintro e94 w4 ⟨rfl, hb4⟩; have HB4 := bt HB3 hb4; obtain ⟨bq4, bt4⟩ := hE.out w4 HB4; have g4_2 := e2' bq4.2; have g4_4 := e4' bq4.2; have g4_6 := e6' bq4.2; have g4_7 := e7' bq4.2; have g4_8 := e8' bq4.2; have g4_9 := e9' bq4.2) | (go_at_call 77; (with_reducible refine (HC_a.out w4 bt4).mono ?_); rintro e95 w5 ⟨rfl, hb5⟩; have HB5 := bt HB4 hb5; obtain ⟨bq5, bt5⟩ := hE.out w5 HB5; have g5_2 := e2' bq5.2; have g5_4 := e4' bq5.2; have g5_7 := e7' bq5.2; have g5_8 := e8' bq5.2; have g5_9 := e9' bq5.2) | (go_at_call 28; (with_reducible refine (HC_f.out w5 bt5).mono ?_); rintro e96 w6 ⟨rfl, hb6⟩; have HB6 := bt HB5 hb6; obtain ⟨bq6, bt6⟩ := hE.out w6 HB6; have g6_2 := e2' bq6.2; have g6_4 := e4' bq6.2; have g6_8 := e8' bq6.2; have g6_9 := e9' bq6.2) | (go_at_call 29; (with_reducible refine (HC_p.out w6 bt6).mono ?_); rintro e97 w7 ⟨rfl, hb7⟩; have HB7 := bt HB6 hb7; obtain ⟨bq7, bt7⟩ := hE.out w7 HB7; have g7_2 := e2' bq7.2; have g7_4 := e4' bq7.2; have g7_9 := e9' bq7.2) | (go_at_call 27; (with_reducible refine (HC_i.out w7 bt7).mono ?_); rintro e98 w8 ⟨rfl, hb8⟩; have HB8 := bt HB7 hb8; obtain ⟨bq8, bt8⟩ := hE.out w8 HB8))
                   go_ret
                   exact ⟨ret_bool hfin.out.symm, bt8⟩
                 by_cases h_e : x_inn = ⟨#[]⟩
                 · have HH_n := Lib.hid h_n
                   have HH_t := Lib.hid h_t
                   have HH_x := Lib.hid h_x
                   have HH_w := Lib.hid h_w
                   have HH_a := Lib.hid h_a
                   have HH_f := Lib.hid h_f
                   have HH_p := Lib.hid h_p
                   have HH_E := Lib.hid h_E
                   have HH_e := Lib.hid h_e
                   have HF := Lib.hid hF
                   simp only [dec_true h_n] at hc_n
                   have HC_n := Lib.hid hc_n
                   simp only [dec_true h_t] at hc_t
                   have HC_t := Lib.hid hc_t
                   simp only [dec_true h_x] at hc_x
                   have HC_x := Lib.hid hc_x
                   simp only [dec_true h_w] at hc_w
                   have HC_w := Lib.hid hc_w
                   simp only [dec_true h_a] at hc_a
                   have HC_a := Lib.hid hc_a
                   simp only [dec_true h_f] at hc_f
                   have HC_f := Lib.hid hc_f
                   simp only [dec_true h_p] at hc_p
                   have HC_p := Lib.hid hc_p
                   have e_E0 : decide ((12 : Int) < (x_exits.length : Int)) = false := decide_eq_false (by omega)
                   have e_e1 : x_inn.toList.isEmpty = true := emp_t h_e
                   obtain ⟨_, _, he, hl9, hc9, h9⟩ := ka9.opn
                   cases he
                   unfold maxLen at hc9
                   clear hc_n hc_t hc_x hc_w hc_a hc_f hc_p hc_i ka5 ka6 ka7 ka8 ka9 z_name z_title z_inn z_text hF h_n h_t h_x h_w h_a h_f h_p h_E h_e
                   go_enter Tryz.func31, Tryz.ntmps31
                   go_upto_region 1 with fail
                   rw [HW1.out]
                   obtain ⟨bq, bt0⟩ := hE.out W1 (Below.refl _ _)
                   have HB0 := b0' W1
                   obtain ⟨g0, g1, g2, g3, g4, g5, g6, g7, g8, g9⟩ := p9' bq.2
                   go_wp2_with (first | (go_at_call 27; (with_reducible refine (HC_n.out W1 bt0).mono ?_); rintro e91 w1 ⟨rfl, hb1⟩; have HB1 := bt HB0 hb1; obtain ⟨bq1, bt1⟩ := hE.out w1 HB1; have g1_1 := e1' bq1.2; have g1_2 := e2' bq1.2; have g1_3 := e3' bq1.2; have g1_4 := e4' bq1.2; have g1_5 := e5' bq1.2; have g1_6 := e6' bq1.2; have g1_7 := e7' bq1.2; have g1_8 := e8' bq1.2; have g1_9 := e9' bq1.2) | (go_at_call 26; (with_reducible refine (HC_t.out w1 bt1).mono ?_); rintro e92 w2 ⟨rfl, hb2⟩; have HB2 := bt HB1 hb2; obtain ⟨bq2, bt2⟩ := hE.out w2 HB2; have g2_2 := e2' bq2.2; have g2_3 := e3' bq2.2; have g2_4 := e4' bq2.2; have g2_5 := e5' bq2.2; have g2_6 := e6' bq2.2; have g2_7 := e7' bq2.2; have g2_8 := e8' bq2.2; have g2_9 := e9' bq2.2) | (go_at_call 26; (with_reducible refine (HC_x.out w2 bt2).mono ?_); rintro e93 w3 ⟨rfl, hb3⟩; have HB3 := bt HB2 hb3; obtain ⟨bq3, bt3⟩ := hE.out w3 HB3; have g3_2 := e2' bq3.2; have g3_4 := e4' bq3.2; have g3_5 := e5' bq3.2; have g3_6 := e6' bq3.2; have g3_7 := e7' bq3.2; have g3_8 := e8' bq3.2; have g3_9 := e9' bq3.2) | (go_at_call 77; (with_reducible refine (HC_w.out w3 bt3).mono ?_); rintro e94 w4 ⟨rfl, hb4⟩; have HB4 := bt HB3 hb4; obtain ⟨bq4, bt4⟩ := hE.out w4 HB4; have g4_2 := e2' bq4.2; have g4_4 := e4' bq4.2; have g4_6 := e6' bq4.2; have g4_7 := e7' bq4.2; have g4_8 := e8' bq4.2; have g4_9 := e9' bq4.2) | (go_at_call 77; (with_reducible refine (HC_a.out w4 bt4).mono ?_); rintro e95 w5 ⟨rfl, hb5⟩; have HB5 := bt HB4 hb5; obtain ⟨bq5, bt5⟩ := hE.out w5 HB5; have g5_2 := e2' bq5.2; have g5_4 := e4' bq5.2; have g5_7 := e7' bq5.2; have g5_8 := e8' bq5.2; have g5_9 := e9' bq5.2) | (go_at_call 28; (with_reducible refine (HC_f.out w5 bt5).mono ?_); rintro e96 w6 ⟨rfl, hb6⟩; have HB6 := bt HB5 hb6; obtain ⟨bq6, bt6⟩ := hE.out w6 HB6; have g6_2 := e2' bq6.2; have g6_4 := e4' bq6.2; have g6_8 := e8' bq6.2; have g6_9 := e9' bq6.2) | (go_at_call 29; (with_reducible refine (HC_p.out w6 bt6).mono ?_); rintro e97 w7 ⟨rfl, hb7⟩; have HB7 := bt HB6 hb7; obtain ⟨bq7, bt7⟩ := hE.out w7 HB7; have g7_2 := e2' bq7.2; have g7_4 := e4' bq7.2; have g7_9 := e9' bq7.2))
                   go_loopw [3] (fun i wr => ∃ k : Nat, k ≤ x_exits.length ∧ i = .int .i64 k ∧ Hid (∀ x ∈ x_exits.take k, ExitR x) ∧ Below W1.heap.size W1 wr) (fun i _ => x_exits.length - (intOf i).toNat)
                   case atStart => exact ⟨0, Nat.zero_le _, rfl, (by show ∀ x ∈ x_exits.take 0, ExitR x; rw [List.take_zero]; exact fun _ h => (by cases h)), HB7⟩
                   case round =>
                    obtain ⟨k, hk, rfl, hq, hB⟩ := hrel
                    obtain ⟨bq, hqt⟩ := hE.out wr hB
                    have u9 := e9' bq.2
                    by_cases hlt : k < x_exits.length
                    · obtain ⟨b, off, rfl, hFb, hel⟩ := h9 (by omega)
                      obtain ⟨cs, hx, -, hcell⟩ := hel wr (hqt.block b (HF.out b hFb)) k hlt
                      obtain ⟨x, hxe⟩ : ∃ x, x_exits[k] = x := ⟨_, rfl⟩
                      rw [hxe] at hx
                      have hki : (k : Int) < (x_exits.length : Int) := by omega
                      have hki0 : (0 : Int) ≤ (k : Int) := by omega
                      have HB := Lib.hid hB
                      have HQT := Lib.hid hqt
                      have hnx : Hid (ExitR x → ∀ y ∈ x_exits.take (k + 1), ExitR y) := fun h y hy => by
                       rw [List.take_succ_eq_append_getElem hlt, hxe] at hy
                       rcases List.mem_append.1 hy with h1 | h1
                       · exact hq.out y h1
                       rw [List.mem_singleton.1 h1]; exact h
                      have hno : Hid (¬ ExitR x → dec (ObjR ⟨x_name, x_title, x_inn, x_text, true, x_words, x_adjs, x_flags, x_props, x_exits⟩) = false) := fun h => dec_false (fun h2 => h (by have h3 := h2.2.2.2.2.2.2.2.2.2.2.2 _ (List.getElem_mem hlt); rw [hxe] at h3; exact h3))
                      clear hq hxe hB hqt bq
                      obtain ⟨q_dir, q_to, q_els, q_cond⟩ := x
                      obtain ⟨-, zq_to, zq_els, vq3, rfl, kq3⟩ := hx
                      simp only at zq_to zq_els kq3
                      obtain ⟨dq3, fq3, rfl⟩ := kq3.shape
                      have g0 := hcell 0 _ rfl
                      have g1 := hcell 1 _ rfl
                      have g2 := hcell 2 _ rfl
                      have g3 := hcell 3 _ rfl
                      simp only [Nat.add_zero] at g0
                      obtain ⟨we, hwe⟩ : ∃ we, wr.alloc (.cells #[.int .i64 q_dir, .string q_to, .string q_els, .slice dq3 q_cond.length fq3] 121) = we := ⟨_, rfl⟩
                      have hbe := ba' hwe
                      have hxb := bn' hwe
                      have hEE : Hid (∀ W, Below we.heap.size we W → BoxAt W wr.heap.size [.int .i64 q_dir, .string q_to, .string q_els, .slice dq3 q_cond.length fq3] ∧ Below wr.heap.size wr W) := fun W hW => ⟨hxb.below hW hxb.1, bt hbe hW⟩
                      have HWE := Lib.hid hwe
                      have hc_n := fun (W : World) (hW : Below wr.heap.size wr W) => rrName_calls q_to W zq_to
                      have hc_t := fun (W : World) (hW : Below wr.heap.size wr W) => Same0.gv (isTextR_calls q_els W zq_els)
                      have hc_w := fun (W : World) (hW : Below wr.heap.size wr W) => rrWhen_calls F W q_cond _ (HF.out.below (bt HQT.out hW)) (Exs.below kq3 HF.out (bt HQT.out hW) (Nat.le_refl _))
                      clear hel hcell hFb kq3 zq_to zq_els hwe hbe hxb
                      go_upto_region 9 with fail
                      rw [HWE.out]
                      clear g0 g1 g2 g3
                      by_cases h_l : (1 : Int) ≤ q_dir
                      · by_cases h_h : q_dir ≤ (12 : Int)
                        · by_cases h_n : IsNm q_to
                          · by_cases h_t : IsText q_els
                            · by_cases h_w : WhenR q_cond
                              · have hnx2 := Lib.hid (hnx.out ⟨h_l, h_h, h_n, h_t, h_w⟩)
                                simp only [dec_true h_n] at hc_n
                                have HC_n := Lib.hid hc_n
                                simp only [dec_true h_t] at hc_t
                                have HC_t := Lib.hid hc_t
                                simp only [dec_true h_w] at hc_w
                                have HC_w := Lib.hid hc_w
                                have e_l0 : decide (q_dir < (1 : Int)) = false := decide_eq_false (by omega)
                                have e_h1 : decide ((12 : Int) < q_dir) = false := decide_eq_false (by omega)
                                clear hc_n hc_t hc_w hnx hno h_l h_h h_n h_t h_w
                                obtain ⟨bq, bt0⟩ := hEE.out we (Below.refl _ _)
                                have HB0 := b0' we
                                obtain ⟨g0, g1, g2, g3⟩ := p3' bq.2
                                go_wp2_with (first | (go_at_call 27; (with_reducible refine (HC_n.out we bt0).mono ?_); rintro e91 w1 ⟨rfl, hb1⟩; have HB1 := bt HB0 hb1; obtain ⟨bq1, bt1⟩ := hEE.out w1 HB1; have g1_2 := e2' bq1.2; have g1_3 := e3' bq1.2) | (go_at_call 26; (with_reducible refine (HC_t.out w1 bt1).mono ?_); rintro e92 w2 ⟨rfl, hb2⟩; have HB2 := bt HB1 hb2; obtain ⟨bq2, bt2⟩ := hEE.out w2 HB2; have g2_3 := e3' bq2.2) | (go_at_call 78; (with_reducible refine (HC_w.out w2 bt2).mono ?_); rintro e93 w3 ⟨rfl, hb3⟩; have HB3 := bt HB2 hb3; obtain ⟨bq3, bt3⟩ := hEE.out w3 HB3))
                                go_roundw
                                case rel => exact ⟨k + 1, by omega, by go_num, hnx2.out, bt HB.out bt3⟩
                                case measure => simp [intOf]; omega
                              have hfin := Lib.hid (hno.out (fun h => h_w h.2.2.2.2))
                              simp only [dec_true h_n] at hc_n
                              have HC_n := Lib.hid hc_n
                              simp only [dec_true h_t] at hc_t
                              have HC_t := Lib.hid hc_t
                              simp only [dec_false h_w] at hc_w
                              have HC_w := Lib.hid hc_w
                              have e_l0 : decide (q_dir < (1 : Int)) = false := decide_eq_false (by omega)
                              have e_h1 : decide ((12 : Int) < q_dir) = false := decide_eq_false (by omega)
                              clear hc_n hc_t hc_w hnx hno h_l h_h h_n h_t h_w
                              obtain ⟨bq, bt0⟩ := hEE.out we (Below.refl _ _)
                              have HB0 := b0' we
                              obtain ⟨g0, g1, g2, g3⟩ := p3' bq.2
                              go_wp2_with (first | (go_at_call 27; (with_reducible refine (HC_n.out we bt0).mono ?_); rintro e91 w1 ⟨rfl, hb1⟩; have HB1 := bt HB0 hb1; obtain ⟨bq1, bt1⟩ := hEE.out w1 HB1; have g1_2 := e2' bq1.2; have g1_3 := e3' bq1.2) | (go_at_call 26; (with_reducible refine (HC_t.out w1 bt1).mono ?_); rintro e92 w2 ⟨rfl, hb2⟩; have HB2 := bt HB1 hb2; obtain ⟨bq2, bt2⟩ := hEE.out w2 HB2; have g2_3 := e3' bq2.2) | (go_at_call 78; (with_reducible refine (HC_w.out w2 bt2).mono ?_); rintro e93 w3 ⟨rfl, hb3⟩; have HB3 := bt HB2 hb3; obtain ⟨bq3, bt3⟩ := hEE.out w3 HB3))
                              go_ret
                              exact ⟨ret_bool hfin.out.symm, (hE.out _ (bt HB.out bt3)).2⟩
                            have hfin := Lib.hid (hno.out (fun h => h_t h.2.2.2.1))
                            simp only [dec_true h_n] at hc_n
                            have HC_n := Lib.hid hc_n
                            simp only [dec_false h_t] at hc_t
                            have HC_t := Lib.hid hc_t
                            have e_l0 : decide (q_dir < (1 : Int)) = false := decide_eq_false (by omega)
                            have e_h1 : decide ((12 : Int) < q_dir) = false := decide_eq_false (by omega)
                            clear hc_n hc_t hc_w hnx hno h_l h_h h_n h_t
                            obtain ⟨bq, bt0⟩ := hEE.out we (Below.refl _ _)
                            have HB0 := b0' we
                            obtain ⟨g0, g1, g2⟩ := p2' bq.2
                            go_wp2_with (first | (go_at_call 27; (with_reducible refine (HC_n.out we bt0).mono ?_); rintro e91 w1 ⟨rfl, hb1⟩; have HB1 := bt HB0 hb1; obtain ⟨bq1, bt1⟩ := hEE.out w1 HB1; have g1_2 := e2' bq1.2) | (go_at_call 26; (with_reducible refine (HC_t.out w1 bt1).mono ?_); rintro e92 w2 ⟨rfl, hb2⟩; have HB2 := bt HB1 hb2; obtain ⟨bq2, bt2⟩ := hEE.out w2 HB2))
                            go_ret
                            exact ⟨ret_bool hfin.out.symm, (hE.out _ (bt HB.out bt2)).2⟩
                          have hfin := Lib.hid (hno.out (fun h => h_n h.2.2.1))
                          simp only [dec_false h_n] at hc_n
                          have HC_n := Lib.hid hc_n
                          have e_l0 : decide (q_dir < (1 : Int)) = false := decide_eq_false (by omega)
                          have e_h1 : decide ((12 : Int) < q_dir) = false := decide_eq_false (by omega)
                          clear hc_n hc_t hc_w hnx hno h_l h_h h_n
                          obtain ⟨bq, bt0⟩ := hEE.out we (Below.refl _ _)
                          have HB0 := b0' we
                          obtain ⟨g0, g1⟩ := p1' bq.2
                          go_wp2_with (go_at_call 27; (with_reducible refine (HC_n.out we bt0).mono ?_); rintro e91 w1 ⟨rfl, hb1⟩; have HB1 := bt HB0 hb1; obtain ⟨bq1, bt1⟩ := hEE.out w1 HB1)
                          go_ret
                          exact ⟨ret_bool hfin.out.symm, (hE.out _ (bt HB.out bt1)).2⟩
                        have hfin := Lib.hid (hno.out (fun h => h_h h.2.1))
                        have e_l0 : decide (q_dir < (1 : Int)) = false := decide_eq_false (by omega)
                        have e_h1 : decide ((12 : Int) < q_dir) = true := decide_eq_true (by omega)
                        clear hc_n hc_t hc_w hnx hno h_l h_h
                        obtain ⟨bq, bt0⟩ := hEE.out we (Below.refl _ _)
                        have HB0 := b0' we
                        have g0 := e0' bq.2
                        go_wp2_with fail
                        go_ret
                        exact ⟨ret_bool hfin.out.symm, (hE.out _ (bt HB.out bt0)).2⟩
                      have hfin := Lib.hid (hno.out (fun h => h_l h.1))
                      have e_l0 : decide (q_dir < (1 : Int)) = true := decide_eq_true (by omega)
                      clear hc_n hc_t hc_w hnx hno h_l
                      obtain ⟨bq, bt0⟩ := hEE.out we (Below.refl _ _)
                      have HB0 := b0' we
                      have g0 := e0' bq.2
                      go_wp2_with fail
                      go_ret
                      exact ⟨ret_bool hfin.out.symm, (hE.out _ (bt HB.out bt0)).2⟩
                    have : k = x_exits.length := by omega
                    subst this
                    have hall_exits : Hid (∀ x ∈ x_exits, ExitR x) := fun x hx => hq.out x (by rw [List.take_length]; exact hx)
                    have hki : decide ((x_exits.length : Int) < (x_exits.length : Int)) = false := by simp
                    clear hq h9
                    have hfin : Hid (dec (ObjR ⟨x_name, x_title, x_inn, x_text, true, x_words, x_adjs, x_flags, x_props, x_exits⟩) = true) := dec_true ⟨fun _ => HH_e.out, fun h => Bool.noConfusion h, HH_w.out, HH_a.out, HH_n.out, HH_t.out, HH_x.out, Or.inl HH_e.out, HH_f.out, HH_p.out, ⟨HH_E.out, hall_exits.out⟩⟩
                    go_wp2
                    go_ret
                    exact ⟨ret_bool hfin.out.symm, hqt⟩
                 have hfin : Hid (dec (ObjR ⟨x_name, x_title, x_inn, x_text, true, x_words, x_adjs, x_flags, x_props, x_exits⟩) = false) := dec_false (fun h => h_e (h.1 rfl))
                 simp only [dec_true h_n] at hc_n
                 have HC_n := Lib.hid hc_n
                 simp only [dec_true h_t] at hc_t
                 have HC_t := Lib.hid hc_t
                 simp only [dec_true h_x] at hc_x
                 have HC_x := Lib.hid hc_x
                 simp only [dec_true h_w] at hc_w
                 have HC_w := Lib.hid hc_w
                 simp only [dec_true h_a] at hc_a
                 have HC_a := Lib.hid hc_a
                 simp only [dec_true h_f] at hc_f
                 have HC_f := Lib.hid hc_f
                 simp only [dec_true h_p] at hc_p
                 have HC_p := Lib.hid hc_p
                 have e_E0 : decide ((12 : Int) < (x_exits.length : Int)) = false := decide_eq_false (by omega)
                 have e_e1 : x_inn.toList.isEmpty = false := emp_f h_e
                 clear hc_n hc_t hc_x hc_w hc_a hc_f hc_p hc_i ka5 ka6 ka7 ka8 ka9 z_name z_title z_inn z_text hF h_n h_t h_x h_w h_a h_f h_p h_E h_e
                 go_enter Tryz.func31, Tryz.ntmps31
                 go_upto_region 1 with fail
                 rw [HW1.out]
                 obtain ⟨bq, bt0⟩ := hE.out W1 (Below.refl _ _)
                 have HB0 := b0' W1
                 obtain ⟨g0, g1, g2, g3, g4, g5, g6, g7, g8, g9⟩ := p9' bq.2
                 go_wp2_with (first | (go_at_call 27; (with_reducible refine (HC_n.out W1 bt0).mono ?_); rintro e91 w1 ⟨rfl, hb1⟩; have HB1 := bt HB0 hb1; obtain ⟨bq1, bt1⟩ := hE.out w1 HB1; have g1_1 := e1' bq1.2; have g1_2 := e2' bq1.2; have g1_3 := e3' bq1.2; have g1_4 := e4' bq1.2; have g1_5 := e5' bq1.2; have g1_6 := e6' bq1.2; have g1_7 := e7' bq1.2; have g1_8 := e8' bq1.2; have g1_9 := e9' bq1.2) | (go_at_call 26; (with_reducible refine (HC_t.out w1 bt1).mono ?_); rintro e92 w2 ⟨rfl, hb2⟩; have HB2 := bt HB1 hb2; obtain ⟨bq2, bt2⟩ := hE.out w2 HB2; have g2_2 := e2' bq2.2; have g2_3 := e3' bq2.2; have g2_4 := e4' bq2.2; have g2_5 := e5' bq2.2; have g2_6 := e6' bq2.2; have g2_7 := e7' bq2.2; have g2_8 := e8' bq2.2; have g2_9 := e9' bq2.2) | (go_at_call 26; (with_reducible refine (HC_x.out w2 bt2).mono ?_); rintro e93 w3 ⟨rfl, hb3⟩; have HB3 := bt HB2 hb3; obtain ⟨bq3, bt3⟩ := hE.out w3 HB3; have g3_2 := e2' bq3.2; have g3_4 := e4' bq3.2; have g3_5 := e5' bq3.2; have g3_6 := e6' bq3.2; have g3_7 := e7' bq3.2; have g3_8 := e8' bq3.2; have g3_9 := e9' bq3.2) | (go_at_call 77; (with_reducible refine (HC_w.out w3 bt3).mono ?_); rintro e94 w4 ⟨rfl, hb4⟩; have HB4 := bt HB3 hb4; obtain ⟨bq4, bt4⟩ := hE.out w4 HB4; have g4_2 := e2' bq4.2; have g4_4 := e4' bq4.2; have g4_6 := e6' bq4.2; have g4_7 := e7' bq4.2; have g4_8 := e8' bq4.2; have g4_9 := e9' bq4.2) | (go_at_call 77; (with_reducible refine (HC_a.out w4 bt4).mono ?_); rintro e95 w5 ⟨rfl, hb5⟩; have HB5 := bt HB4 hb5; obtain ⟨bq5, bt5⟩ := hE.out w5 HB5; have g5_2 := e2' bq5.2; have g5_4 := e4' bq5.2; have g5_7 := e7' bq5.2; have g5_8 := e8' bq5.2; have g5_9 := e9' bq5.2) | (go_at_call 28; (with_reducible refine (HC_f.out w5 bt5).mono ?_); rintro e96 w6 ⟨rfl, hb6⟩; have HB6 := bt HB5 hb6; obtain ⟨bq6, bt6⟩ := hE.out w6 HB6; have g6_2 := e2' bq6.2; have g6_4 := e4' bq6.2; have g6_8 := e8' bq6.2; have g6_9 := e9' bq6.2) | (go_at_call 29; (with_reducible refine (HC_p.out w6 bt6).mono ?_); rintro e97 w7 ⟨rfl, hb7⟩; have HB7 := bt HB6 hb7; obtain ⟨bq7, bt7⟩ := hE.out w7 HB7; have g7_2 := e2' bq7.2; have g7_4 := e4' bq7.2; have g7_9 := e9' bq7.2))
                 go_ret
                 exact ⟨ret_bool hfin.out.symm, bt7⟩
               have hfin : Hid (dec (ObjR ⟨x_name, x_title, x_inn, x_text, x_room, x_words, x_adjs, x_flags, x_props, x_exits⟩) = false) := dec_false (fun h => h_E h.2.2.2.2.2.2.2.2.2.2.1)
               simp only [dec_true h_n] at hc_n
               have HC_n := Lib.hid hc_n
               simp only [dec_true h_t] at hc_t
               have HC_t := Lib.hid hc_t
               simp only [dec_true h_x] at hc_x
               have HC_x := Lib.hid hc_x
               simp only [dec_true h_w] at hc_w
               have HC_w := Lib.hid hc_w
               simp only [dec_true h_a] at hc_a
               have HC_a := Lib.hid hc_a
               simp only [dec_true h_f] at hc_f
               have HC_f := Lib.hid hc_f
               simp only [dec_true h_p] at hc_p
               have HC_p := Lib.hid hc_p
               have e_E0 : decide ((12 : Int) < (x_exits.length : Int)) = true := decide_eq_true (by omega)
               clear hc_n hc_t hc_x hc_w hc_a hc_f hc_p hc_i ka5 ka6 ka7 ka8 ka9 z_name z_title z_inn z_text hF h_n h_t h_x h_w h_a h_f h_p h_E
               go_enter Tryz.func31, Tryz.ntmps31
               go_upto_region 1 with fail
               rw [HW1.out]
               obtain ⟨bq, bt0⟩ := hE.out W1 (Below.refl _ _)
               have HB0 := b0' W1
               have g0 := e0' bq.2
               have g1 := e1' bq.2
               have g3 := e3' bq.2
               have g5 := e5' bq.2
               have g6 := e6' bq.2
               have g7 := e7' bq.2
               have g8 := e8' bq.2
               have g9 := e9' bq.2
               go_wp2_with (first | (go_at_call 27; (with_reducible refine (HC_n.out W1 bt0).mono ?_); rintro e91 w1 ⟨rfl, hb1⟩; have HB1 := bt HB0 hb1; obtain ⟨bq1, bt1⟩ := hE.out w1 HB1; have g1_1 := e1' bq1.2; have g1_3 := e3' bq1.2; have g1_5 := e5' bq1.2; have g1_6 := e6' bq1.2; have g1_7 := e7' bq1.2; have g1_8 := e8' bq1.2; have g1_9 := e9' bq1.2) | (go_at_call 26; (with_reducible refine (HC_t.out w1 bt1).mono ?_); rintro e92 w2 ⟨rfl, hb2⟩; have HB2 := bt HB1 hb2; obtain ⟨bq2, bt2⟩ := hE.out w2 HB2; have g2_3 := e3' bq2.2; have g2_5 := e5' bq2.2; have g2_6 := e6' bq2.2; have g2_7 := e7' bq2.2; have g2_8 := e8' bq2.2; have g2_9 := e9' bq2.2) | (go_at_call 26; (with_reducible refine (HC_x.out w2 bt2).mono ?_); rintro e93 w3 ⟨rfl, hb3⟩; have HB3 := bt HB2 hb3; obtain ⟨bq3, bt3⟩ := hE.out w3 HB3; have g3_5 := e5' bq3.2; have g3_6 := e6' bq3.2; have g3_7 := e7' bq3.2; have g3_8 := e8' bq3.2; have g3_9 := e9' bq3.2) | (go_at_call 77; (with_reducible refine (HC_w.out w3 bt3).mono ?_); rintro e94 w4 ⟨rfl, hb4⟩; have HB4 := bt HB3 hb4; obtain ⟨bq4, bt4⟩ := hE.out w4 HB4; have g4_6 := e6' bq4.2; have g4_7 := e7' bq4.2; have g4_8 := e8' bq4.2; have g4_9 := e9' bq4.2) | (go_at_call 77; (with_reducible refine (HC_a.out w4 bt4).mono ?_); rintro e95 w5 ⟨rfl, hb5⟩; have HB5 := bt HB4 hb5; obtain ⟨bq5, bt5⟩ := hE.out w5 HB5; have g5_7 := e7' bq5.2; have g5_8 := e8' bq5.2; have g5_9 := e9' bq5.2) | (go_at_call 28; (with_reducible refine (HC_f.out w5 bt5).mono ?_); rintro e96 w6 ⟨rfl, hb6⟩; have HB6 := bt HB5 hb6; obtain ⟨bq6, bt6⟩ := hE.out w6 HB6; have g6_8 := e8' bq6.2; have g6_9 := e9' bq6.2) | (go_at_call 29; (with_reducible refine (HC_p.out w6 bt6).mono ?_); rintro e97 w7 ⟨rfl, hb7⟩; have HB7 := bt HB6 hb7; obtain ⟨bq7, bt7⟩ := hE.out w7 HB7; have g7_9 := e9' bq7.2))
               go_ret
               exact ⟨ret_bool hfin.out.symm, bt7⟩
             have hfin : Hid (dec (ObjR ⟨x_name, x_title, x_inn, x_text, x_room, x_words, x_adjs, x_flags, x_props, x_exits⟩) = false) := dec_false (fun h => h_p h.2.2.2.2.2.2.2.2.2.1)
             simp only [dec_true h_n] at hc_n
             have HC_n := Lib.hid hc_n
             simp only [dec_true h_t] at hc_t
             have HC_t := Lib.hid hc_t
             simp only [dec_true h_x] at hc_x
             have HC_x := Lib.hid hc_x
             simp only [dec_true h_w] at hc_w
             have HC_w := Lib.hid hc_w
             simp only [dec_true h_a] at hc_a
             have HC_a := Lib.hid hc_a
             simp only [dec_true h_f] at hc_f
             have HC_f := Lib.hid hc_f
             simp only [dec_false h_p] at hc_p
             have HC_p := Lib.hid hc_p
             clear hc_n hc_t hc_x hc_w hc_a hc_f hc_p hc_i ka5 ka6 ka7 ka8 ka9 z_name z_title z_inn z_text hF h_n h_t h_x h_w h_a h_f h_p
             go_enter Tryz.func31, Tryz.ntmps31
             go_upto_region 1 with fail
             rw [HW1.out]
             obtain ⟨bq, bt0⟩ := hE.out W1 (Below.refl _ _)
             have HB0 := b0' W1
             have g0 := e0' bq.2
             have g1 := e1' bq.2
             have g3 := e3' bq.2
             have g5 := e5' bq.2
             have g6 := e6' bq.2
             have g7 := e7' bq.2
             have g8 := e8' bq.2
             go_wp2_with (first | (go_at_call 27; (with_reducible refine (HC_n.out W1 bt0).mono ?_); rintro e91 w1 ⟨rfl, hb1⟩; have HB1 := bt HB0 hb1; obtain ⟨bq1, bt1⟩ := hE.out w1 HB1; have g1_1 := e1' bq1.2; have g1_3 := e3' bq1.2; have g1_5 := e5' bq1.2; have g1_6 := e6' bq1.2; have g1_7 := e7' bq1.2; have g1_8 := e8' bq1.2) | (go_at_call 26; (with_reducible refine (HC_t.out w1 bt1).mono ?_); rintro e92 w2 ⟨rfl, hb2⟩; have HB2 := bt HB1 hb2; obtain ⟨bq2, bt2⟩ := hE.out w2 HB2; have g2_3 := e3' bq2.2; have g2_5 := e5' bq2.2; have g2_6 := e6' bq2.2; have g2_7 := e7' bq2.2; have g2_8 := e8' bq2.2) | (go_at_call 26; (with_reducible refine (HC_x.out w2 bt2).mono ?_); rintro e93 w3 ⟨rfl, hb3⟩; have HB3 := bt HB2 hb3; obtain ⟨bq3, bt3⟩ := hE.out w3 HB3; have g3_5 := e5' bq3.2; have g3_6 := e6' bq3.2; have g3_7 := e7' bq3.2; have g3_8 := e8' bq3.2) | (go_at_call 77; (with_reducible refine (HC_w.out w3 bt3).mono ?_); rintro e94 w4 ⟨rfl, hb4⟩; have HB4 := bt HB3 hb4; obtain ⟨bq4, bt4⟩ := hE.out w4 HB4; have g4_6 := e6' bq4.2; have g4_7 := e7' bq4.2; have g4_8 := e8' bq4.2) | (go_at_call 77; (with_reducible refine (HC_a.out w4 bt4).mono ?_); rintro e95 w5 ⟨rfl, hb5⟩; have HB5 := bt HB4 hb5; obtain ⟨bq5, bt5⟩ := hE.out w5 HB5; have g5_7 := e7' bq5.2; have g5_8 := e8' bq5.2) | (go_at_call 28; (with_reducible refine (HC_f.out w5 bt5).mono ?_); rintro e96 w6 ⟨rfl, hb6⟩; have HB6 := bt HB5 hb6; obtain ⟨bq6, bt6⟩ := hE.out w6 HB6; have g6_8 := e8' bq6.2) | (go_at_call 29; (with_reducible refine (HC_p.out w6 bt6).mono ?_); rintro e97 w7 ⟨rfl, hb7⟩; have HB7 := bt HB6 hb7; obtain ⟨bq7, bt7⟩ := hE.out w7 HB7))
             go_ret
             exact ⟨ret_bool hfin.out.symm, bt7⟩
           have hfin : Hid (dec (ObjR ⟨x_name, x_title, x_inn, x_text, x_room, x_words, x_adjs, x_flags, x_props, x_exits⟩) = false) := dec_false (fun h => h_f h.2.2.2.2.2.2.2.2.1)
           simp only [dec_true h_n] at hc_n
           have HC_n := Lib.hid hc_n
           simp only [dec_true h_t] at hc_t
           have HC_t := Lib.hid hc_t
           simp only [dec_true h_x] at hc_x
           have HC_x := Lib.hid hc_x
           simp only [dec_true h_w] at hc_w
           have HC_w := Lib.hid hc_w
           simp only [dec_true h_a] at hc_a
           have HC_a := Lib.hid hc_a
           simp only [dec_false h_f] at hc_f
           have HC_f := Lib.hid hc_f
           clear hc_n hc_t hc_x hc_w hc_a hc_f hc_p hc_i ka5 ka6 ka7 ka8 ka9 z_name z_title z_inn z_text hF h_n h_t h_x h_w h_a h_f
           go_enter Tryz.func31, Tryz.ntmps31
           go_upto_region 1 with fail
           rw [HW1.out]
           obtain ⟨bq, bt0⟩ := hE.out W1 (Below.refl _ _)
           have HB0 := b0' W1
           have g0 := e0' bq.2
           have g1 := e1' bq.2
           have g3 := e3' bq.2
           have g5 := e5' bq.2
           have g6 := e6' bq.2
           have g7 := e7' bq.2
           go_wp2_with (first | (go_at_call 27; (with_reducible refine (HC_n.out W1 bt0).mono ?_); rintro e91 w1 ⟨rfl, hb1⟩; have HB1 := bt HB0 hb1; obtain ⟨bq1, bt1⟩ := hE.out w1 HB1; have g1_1 := e1' bq1.2; have g1_3 := e3' bq1.2; have g1_5 := e5' bq1.2; have g1_6 := e6' bq1.2; have g1_7 := e7' bq1.2) | (go_at_call 26; (with_reducible refine (HC_t.out w1 bt1).mono ?_); rintro e92 w2 ⟨rfl, hb2⟩; have HB2 := bt HB1 hb2; obtain ⟨bq2, bt2⟩ := hE.out w2 HB2; have g2_3 := e3' bq2.2; have g2_5 := e5' bq2.2; have g2_6 := e6' bq2.2; have g2_7 := e7' bq2.2) | (go_at_call 26; (with_reducible refine (HC_x.out w2 bt2).mono ?_); rintro e93 w3 ⟨rfl, hb3⟩; have HB3 := bt HB2 hb3; obtain ⟨bq3, bt3⟩ := hE.out w3 HB3; have g3_5 := e5' bq3.2; have g3_6 := e6' bq3.2; have g3_7 := e7' bq3.2) | (go_at_call 77; (with_reducible refine (HC_w.out w3 bt3).mono ?_); rintro e94 w4 ⟨rfl, hb4⟩; have HB4 := bt HB3 hb4; obtain ⟨bq4, bt4⟩ := hE.out w4 HB4; have g4_6 := e6' bq4.2; have g4_7 := e7' bq4.2) | (go_at_call 77; (with_reducible refine (HC_a.out w4 bt4).mono ?_); rintro e95 w5 ⟨rfl, hb5⟩; have HB5 := bt HB4 hb5; obtain ⟨bq5, bt5⟩ := hE.out w5 HB5; have g5_7 := e7' bq5.2) | (go_at_call 28; (with_reducible refine (HC_f.out w5 bt5).mono ?_); rintro e96 w6 ⟨rfl, hb6⟩; have HB6 := bt HB5 hb6; obtain ⟨bq6, bt6⟩ := hE.out w6 HB6))
           go_ret
           exact ⟨ret_bool hfin.out.symm, bt6⟩
         have hfin : Hid (dec (ObjR ⟨x_name, x_title, x_inn, x_text, x_room, x_words, x_adjs, x_flags, x_props, x_exits⟩) = false) := dec_false (fun h => h_a h.2.2.2.1)
         simp only [dec_true h_n] at hc_n
         have HC_n := Lib.hid hc_n
         simp only [dec_true h_t] at hc_t
         have HC_t := Lib.hid hc_t
         simp only [dec_true h_x] at hc_x
         have HC_x := Lib.hid hc_x
         simp only [dec_true h_w] at hc_w
         have HC_w := Lib.hid hc_w
         simp only [dec_false h_a] at hc_a
         have HC_a := Lib.hid hc_a
         clear hc_n hc_t hc_x hc_w hc_a hc_f hc_p hc_i ka5 ka6 ka7 ka8 ka9 z_name z_title z_inn z_text hF h_n h_t h_x h_w h_a
         go_enter Tryz.func31, Tryz.ntmps31
         go_upto_region 1 with fail
         rw [HW1.out]
         obtain ⟨bq, bt0⟩ := hE.out W1 (Below.refl _ _)
         have HB0 := b0' W1
         have g0 := e0' bq.2
         have g1 := e1' bq.2
         have g3 := e3' bq.2
         have g5 := e5' bq.2
         have g6 := e6' bq.2
         go_wp2_with (first | (go_at_call 27; (with_reducible refine (HC_n.out W1 bt0).mono ?_); rintro e91 w1 ⟨rfl, hb1⟩; have HB1 := bt HB0 hb1; obtain ⟨bq1, bt1⟩ := hE.out w1 HB1; have g1_1 := e1' bq1.2; have g1_3 := e3' bq1.2; have g1_5 := e5' bq1.2; have g1_6 := e6' bq1.2) | (go_at_call 26; (with_reducible refine (HC_t.out w1 bt1).mono ?_); rintro e92 w2 ⟨rfl, hb2⟩; have HB2 := bt HB1 hb2; obtain ⟨bq2, bt2⟩ := hE.out w2 HB2; have g2_3 := e3' bq2.2; have g2_5 := e5' bq2.2; have g2_6 := e6' bq2.2) | (go_at_call 26; (with_reducible refine (HC_x.out w2 bt2).mono ?_); rintro e93 w3 ⟨rfl, hb3⟩; have HB3 := bt HB2 hb3; obtain ⟨bq3, bt3⟩ := hE.out w3 HB3; have g3_5 := e5' bq3.2; have g3_6 := e6' bq3.2) | (go_at_call 77; (with_reducible refine (HC_w.out w3 bt3).mono ?_); rintro e94 w4 ⟨rfl, hb4⟩; have HB4 := bt HB3 hb4; obtain ⟨bq4, bt4⟩ := hE.out w4 HB4; have g4_6 := e6' bq4.2) | (go_at_call 77; (with_reducible refine (HC_a.out w4 bt4).mono ?_); rintro e95 w5 ⟨rfl, hb5⟩; have HB5 := bt HB4 hb5; obtain ⟨bq5, bt5⟩ := hE.out w5 HB5))
         go_ret
         exact ⟨ret_bool hfin.out.symm, bt5⟩
       have hfin : Hid (dec (ObjR ⟨x_name, x_title, x_inn, x_text, x_room, x_words, x_adjs, x_flags, x_props, x_exits⟩) = false) := dec_false (fun h => h_w h.2.2.1)
       simp only [dec_true h_n] at hc_n
       have HC_n := Lib.hid hc_n
       simp only [dec_true h_t] at hc_t
       have HC_t := Lib.hid hc_t
       simp only [dec_true h_x] at hc_x
       have HC_x := Lib.hid hc_x
       simp only [dec_false h_w] at hc_w
       have HC_w := Lib.hid hc_w
       clear hc_n hc_t hc_x hc_w hc_a hc_f hc_p hc_i ka5 ka6 ka7 ka8 ka9 z_name z_title z_inn z_text hF h_n h_t h_x h_w
       go_enter Tryz.func31, Tryz.ntmps31
       go_upto_region 1 with fail
       rw [HW1.out]
       obtain ⟨bq, bt0⟩ := hE.out W1 (Below.refl _ _)
       have HB0 := b0' W1
       have g0 := e0' bq.2
       have g1 := e1' bq.2
       have g3 := e3' bq.2
       have g5 := e5' bq.2
       go_wp2_with (first | (go_at_call 27; (with_reducible refine (HC_n.out W1 bt0).mono ?_); rintro e91 w1 ⟨rfl, hb1⟩; have HB1 := bt HB0 hb1; obtain ⟨bq1, bt1⟩ := hE.out w1 HB1; have g1_1 := e1' bq1.2; have g1_3 := e3' bq1.2; have g1_5 := e5' bq1.2) | (go_at_call 26; (with_reducible refine (HC_t.out w1 bt1).mono ?_); rintro e92 w2 ⟨rfl, hb2⟩; have HB2 := bt HB1 hb2; obtain ⟨bq2, bt2⟩ := hE.out w2 HB2; have g2_3 := e3' bq2.2; have g2_5 := e5' bq2.2) | (go_at_call 26; (with_reducible refine (HC_x.out w2 bt2).mono ?_); rintro e93 w3 ⟨rfl, hb3⟩; have HB3 := bt HB2 hb3; obtain ⟨bq3, bt3⟩ := hE.out w3 HB3; have g3_5 := e5' bq3.2) | (go_at_call 77; (with_reducible refine (HC_w.out w3 bt3).mono ?_); rintro e94 w4 ⟨rfl, hb4⟩; have HB4 := bt HB3 hb4; obtain ⟨bq4, bt4⟩ := hE.out w4 HB4))
       go_ret
       exact ⟨ret_bool hfin.out.symm, bt4⟩
     have hfin : Hid (dec (ObjR ⟨x_name, x_title, x_inn, x_text, x_room, x_words, x_adjs, x_flags, x_props, x_exits⟩) = false) := dec_false (fun h => h_x h.2.2.2.2.2.2.1)
     simp only [dec_true h_n] at hc_n
     have HC_n := Lib.hid hc_n
     simp only [dec_true h_t] at hc_t
     have HC_t := Lib.hid hc_t
     simp only [dec_false h_x] at hc_x
     have HC_x := Lib.hid hc_x
     clear hc_n hc_t hc_x hc_w hc_a hc_f hc_p hc_i ka5 ka6 ka7 ka8 ka9 z_name z_title z_inn z_text hF h_n h_t h_x
     go_enter Tryz.func31, Tryz.ntmps31
     go_upto_region 1 with fail
     rw [HW1.out]
     obtain ⟨bq, bt0⟩ := hE.out W1 (Below.refl _ _)
     have HB0 := b0' W1
     have g0 := e0' bq.2
     have g1 := e1' bq.2
     have g3 := e3' bq.2
     go_wp2_with (first | (go_at_call 27; (with_reducible refine (HC_n.out W1 bt0).mono ?_); rintro e91 w1 ⟨rfl, hb1⟩; have HB1 := bt HB0 hb1; obtain ⟨bq1, bt1⟩ := hE.out w1 HB1; have g1_1 := e1' bq1.2; have g1_3 := e3' bq1.2) | (go_at_call 26; (with_reducible refine (HC_t.out w1 bt1).mono ?_); rintro e92 w2 ⟨rfl, hb2⟩; have HB2 := bt HB1 hb2; obtain ⟨bq2, bt2⟩ := hE.out w2 HB2; have g2_3 := e3' bq2.2) | (go_at_call 26; (with_reducible refine (HC_x.out w2 bt2).mono ?_); rintro e93 w3 ⟨rfl, hb3⟩; have HB3 := bt HB2 hb3; obtain ⟨bq3, bt3⟩ := hE.out w3 HB3))
     go_ret
     exact ⟨ret_bool hfin.out.symm, bt3⟩
   have hfin : Hid (dec (ObjR ⟨x_name, x_title, x_inn, x_text, x_room, x_words, x_adjs, x_flags, x_props, x_exits⟩) = false) := dec_false (fun h => h_t h.2.2.2.2.2.1)
   simp only [dec_true h_n] at hc_n
   have HC_n := Lib.hid hc_n
   simp only [dec_false h_t] at hc_t
   have HC_t := Lib.hid hc_t
   clear hc_n hc_t hc_x hc_w hc_a hc_f hc_p hc_i ka5 ka6 ka7 ka8 ka9 z_name z_title z_inn z_text hF h_n h_t
   go_enter Tryz.func31, Tryz.ntmps31
   go_upto_region 1 with fail
   rw [HW1.out]
   obtain ⟨bq, bt0⟩ := hE.out W1 (Below.refl _ _)
   have HB0 := b0' W1
   obtain ⟨g0, g1⟩ := p1' bq.2
   go_wp2_with (first | (go_at_call 27; (with_reducible refine (HC_n.out W1 bt0).mono ?_); rintro e91 w1 ⟨rfl, hb1⟩; have HB1 := bt HB0 hb1; obtain ⟨bq1, bt1⟩ := hE.out w1 HB1; have g1_1 := e1' bq1.2) | (go_at_call 26; (with_reducible refine (HC_t.out w1 bt1).mono ?_); rintro e92 w2 ⟨rfl, hb2⟩; have HB2 := bt HB1 hb2; obtain ⟨bq2, bt2⟩ := hE.out w2 HB2))
   go_ret
   exact ⟨ret_bool hfin.out.symm, bt2⟩
 have hfin : Hid (dec (ObjR ⟨x_name, x_title, x_inn, x_text, x_room, x_words, x_adjs, x_flags, x_props, x_exits⟩) = false) := dec_false (fun h => h_n h.2.2.2.2.1)
 simp only [dec_false h_n] at hc_n
 have HC_n := Lib.hid hc_n
 clear hc_n hc_t hc_x hc_w hc_a hc_f hc_p hc_i ka5 ka6 ka7 ka8 ka9 z_name z_title z_inn z_text hF h_n
 go_enter Tryz.func31, Tryz.ntmps31
 go_upto_region 1 with fail
 rw [HW1.out]
 obtain ⟨bq, bt0⟩ := hE.out W1 (Below.refl _ _)
 have HB0 := b0' W1
 have g0 := e0' bq.2
 go_wp2_with (go_at_call 27; (with_reducible refine (HC_n.out W1 bt0).mono ?_); rintro e91 w1 ⟨rfl, hb1⟩; have HB1 := bt HB0 hb1; obtain ⟨bq1, bt1⟩ := hE.out w1 HB1)
 go_ret
 exact ⟨ret_bool hfin.out.symm, bt1⟩
end Go.Proofs.YtdeecfkipknkbaaGreatDoor
