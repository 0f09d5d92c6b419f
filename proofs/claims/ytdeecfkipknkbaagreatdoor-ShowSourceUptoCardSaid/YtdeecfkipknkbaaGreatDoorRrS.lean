/- The reference's Right of sources. Printed by gen-show8.py. -/
import Derived.Test.YtdeecfkipknkbaaGreatDoorRrV
import Derived.Test.YtdeecfkipknkbaaGreatDoorRrO
import Derived.Laws.EntriesVeiled
namespace Go.Proofs.YtdeecfkipknkbaaGreatDoor
set_option maxRecDepth 100000
set_option maxHeartbeats 4000000
open Go.RowKit
theorem rrRight_calls (F : Nat → Prop) (w : World) (x : SrcD) (cs : List Value) (hF : Inn F w) (hx : Holds.src.R F w x cs) :
 Calls Tryz.prog 8 #[.agg cs.toArray] w (Gives w (.bool (dec (SrcR x)))) := by
 obtain ⟨x_title, x_author, x_start, x_release, x_most, x_flags, x_props, x_globals, x_objects, x_verbs, x_rules, x_funcs, x_daemons⟩ := x
 obtain ⟨z_title, z_author, z_start, z_release, z_most, va5, va6, va7, va8, va9, va10, va11, va12, rfl, ka5, ka6, ka7, ka8, ka9, ka10, ka11, ka12⟩ := hx
 simp only at ka5 ka6 ka7 ka8 ka9 ka10 ka11 ka12 z_title z_author z_start z_release z_most
 obtain ⟨da5, fa5, rfl⟩ := ka5.shape
 obtain ⟨da6, fa6, rfl⟩ := ka6.shape
 obtain ⟨da7, fa7, rfl⟩ := ka7.shape
 obtain ⟨da8, fa8, rfl⟩ := ka8.shape
 obtain ⟨da9, fa9, rfl⟩ := ka9.shape
 obtain ⟨da10, fa10, rfl⟩ := ka10.shape
 obtain ⟨da11, fa11, rfl⟩ := ka11.shape
 obtain ⟨da12, fa12, rfl⟩ := ka12.shape
 obtain ⟨W1, hW1⟩ : ∃ W1, w.alloc (.cells #[.string x_title, .string x_author, .string x_start, .int .i64 x_release, .int .i64 x_most, .slice da5 x_flags.length fa5, .slice da6 x_props.length fa6, .slice da7 x_globals.length fa7, .slice da8 x_objects.length fa8, .slice da9 x_verbs.length fa9, .slice da10 x_rules.length fa10, .slice da11 x_funcs.length fa11, .slice da12 x_daemons.length fa12] 29) = W1 := ⟨_, rfl⟩
 have hs1 := bs' hW1
 have hb1 := ba' hW1
 have hbx1 := bn' hW1
 have hE : Hid (∀ W, Below W1.heap.size W1 W → BoxAt W (w.heap.size) [.string x_title, .string x_author, .string x_start, .int .i64 x_release, .int .i64 x_most, .slice da5 x_flags.length fa5, .slice da6 x_props.length fa6, .slice da7 x_globals.length fa7, .slice da8 x_objects.length fa8, .slice da9 x_verbs.length fa9, .slice da10 x_rules.length fa10, .slice da11 x_funcs.length fa11, .slice da12 x_daemons.length fa12] ∧ Below w.heap.size w W) := fun W h2 => ⟨hbx1.below h2 (by omega), (bt hb1 h2)⟩
 have HZ0 := Lib.hid hs1
 have HW1 := Lib.hid hW1
 clear hW1 hs1 hb1 hbx1
 have hc_t := fun (W : World) (hW : Below w.heap.size w W) => Same0.gv (isTextR_calls x_title W z_title)
 have hc_a := fun (W : World) (hW : Below w.heap.size w W) => Same0.gv (isTextR_calls x_author W z_author)
 have hc_s := fun (W : World) (hW : Below w.heap.size w W) => rrName_calls x_start W z_start
 have hc_f := fun (W : World) (hW : Below w.heap.size w W) => rrNames_calls F W x_flags 16 _ (hF.below hW) (RdL.below ka5 hF hW (Nat.le_refl _))
 have hc_p := fun (W : World) (hW : Below w.heap.size w W) => rrPairs_calls F W x_props 16 _ (hF.below hW) (RdL.below ka6 hF hW (Nat.le_refl _))
 have hc_g := fun (W : World) (hW : Below w.heap.size w W) => rrPairs_calls F W x_globals 64 _ (hF.below hW) (RdL.below ka7 hF hW (Nat.le_refl _))
 have hc_F := fun (W : World) (hW : Below w.heap.size w W) => rrFuncs_calls F W x_funcs 64 8 _ (hF.below hW) (RdL.below ka11 hF hW (Nat.le_refl _))
 have hc_D := fun (W : World) (hW : Below w.heap.size w W) => rrFuncs_calls F W x_daemons 16 0 _ (hF.below hW) (RdL.below ka12 hF hW (Nat.le_refl _))
 by_cases h_t : IsText x_title
 · by_cases h_a : IsText x_author
   · by_cases h_s : IsNm x_start
     · by_cases h_r : (0 : Int) ≤ x_release
       · by_cases h_R : x_release ≤ (32767 : Int)
         · by_cases h_m : (0 : Int) ≤ x_most
           · by_cases h_M : x_most ≤ (32767 : Int)
             · by_cases h_f : NamesR 16 x_flags
               · by_cases h_p : PairsR 16 x_props
                 · by_cases h_g : PairsR 64 x_globals
                   · by_cases h_o : (x_objects.length : Int) ≤ (126 : Int)
                     · by_cases h_v : (x_verbs.length : Int) ≤ (64 : Int)
                       · by_cases h_u : (x_rules.length : Int) ≤ (512 : Int)
                         · by_cases h_F : ((x_funcs.length : Int) ≤ 64 ∧ ∀ x ∈ x_funcs, FunR 8 x)
                           · by_cases h_D : ((x_daemons.length : Int) ≤ 16 ∧ ∀ x ∈ x_daemons, FunR 0 x)
                             · have HH_t := Lib.hid h_t
                               have HH_a := Lib.hid h_a
                               have HH_s := Lib.hid h_s
                               have HH_r := Lib.hid h_r
                               have HH_R := Lib.hid h_R
                               have HH_m := Lib.hid h_m
                               have HH_M := Lib.hid h_M
                               have HH_f := Lib.hid h_f
                               have HH_p := Lib.hid h_p
                               have HH_g := Lib.hid h_g
                               have HH_o := Lib.hid h_o
                               have HH_v := Lib.hid h_v
                               have HH_u := Lib.hid h_u
                               have HH_F := Lib.hid h_F
                               have HH_D := Lib.hid h_D
                               have HF := Lib.hid hF
                               simp only [dec_true h_t] at hc_t
                               have HC_t := Lib.hid hc_t
                               simp only [dec_true h_a] at hc_a
                               have HC_a := Lib.hid hc_a
                               simp only [dec_true h_s] at hc_s
                               have HC_s := Lib.hid hc_s
                               simp only [dec_true h_f] at hc_f
                               have HC_f := Lib.hid hc_f
                               simp only [dec_true h_p] at hc_p
                               have HC_p := Lib.hid hc_p
                               simp only [dec_true h_g] at hc_g
                               have HC_g := Lib.hid hc_g
                               simp only [dec_true h_F] at hc_F
                               have HC_F := Lib.hid hc_F
                               simp only [dec_true h_D] at hc_D
                               have HC_D := Lib.hid hc_D
                               have e_r0 : decide (x_release < (0 : Int)) = false := decide_eq_false (by omega)
                               have e_R1 : decide ((32767 : Int) < x_release) = false := decide_eq_false (by omega)
                               have e_m2 : decide (x_most < (0 : Int)) = false := decide_eq_false (by omega)
                               have e_M3 : decide ((32767 : Int) < x_most) = false := decide_eq_false (by omega)
                               have e_o4 : decide ((126 : Int) < (x_objects.length : Int)) = false := decide_eq_false (by omega)
                               have e_v5 : decide ((64 : Int) < (x_verbs.length : Int)) = false := decide_eq_false (by omega)
                               have e_u6 : decide ((512 : Int) < (x_rules.length : Int)) = false := decide_eq_false (by omega)
                               obtain ⟨_, _, he, hl8, hc8, h8⟩ := ka8.opn
                               cases he
                               unfold maxLen at hc8
                               obtain ⟨_, _, he, hl9, hc9, h9⟩ := ka9.opn
                               cases he
                               unfold maxLen at hc9
                               obtain ⟨_, _, he, hl10, hc10, h10⟩ := ka10.opn
                               cases he
                               unfold maxLen at hc10
                               clear hc_t hc_a hc_s hc_f hc_p hc_g hc_F hc_D ka5 ka6 ka7 ka8 ka9 ka10 ka11 ka12 z_title z_author z_start z_release z_most hF h_t h_a h_s h_r h_R h_m h_M h_f h_p h_g h_o h_v h_u h_F h_D
                               go_enter Tryz.func8, Tryz.ntmps8
                               go_upto_region 1 with fail
                               rw [HW1.out]
                               obtain ⟨bq, bt0⟩ := hE.out W1 (Below.refl _ _)
                               have HB0 := b0' W1
                               obtain ⟨g0, g1, g2, g3, g4, g5, g6, g7, g8, g9, g10, g11, g12⟩ := p12' bq.2
                               go_wp2_with (first | (go_at_call 26; (with_reducible refine (HC_t.out W1 bt0).mono ?_); rintro e91 w1 ⟨rfl, hb1⟩; have HB1 := bt HB0 hb1; obtain ⟨bq1, bt1⟩ := hE.out w1 HB1; have g1_1 := e1' bq1.2; have g1_2 := e2' bq1.2; have g1_3 := e3' bq1.2; have g1_4 := e4' bq1.2; have g1_5 := e5' bq1.2; have g1_6 := e6' bq1.2; have g1_7 := e7' bq1.2; have g1_8 := e8' bq1.2; have g1_9 := e9' bq1.2; have g1_10 := e10' bq1.2; have g1_11 := e11' bq1.2; have g1_12 := e12' bq1.2) | (go_at_call 26; (with_reducible refine (HC_a.out w1 bt1).mono ?_); rintro e92 w2 ⟨rfl, hb2⟩; have HB2 := bt HB1 hb2; obtain ⟨bq2, bt2⟩ := hE.out w2 HB2; have g2_2 := e2' bq2.2; have g2_3 := e3' bq2.2; have g2_4 := e4' bq2.2; have g2_5 := e5' bq2.2; have g2_6 := e6' bq2.2; have g2_7 := e7' bq2.2; have g2_8 := e8' bq2.2; have g2_9 := e9' bq2.2; have g2_10 := e10' bq2.2; have g2_11 := e11' bq2.2; have g2_12 := e12' bq2.2) | (go_at_call 27; (with_reducible refine (HC_s.out w2 bt2).mono ?_); rintro e93 w3 ⟨rfl, hb3⟩; have HB3 := bt HB2 hb3; obtain ⟨bq3, bt3⟩ := hE.out w3 HB3; have g3_3 := e3' bq3.2; have g3_4 := e4' bq3.2; have g3_5 := e5' bq3.2; have g3_6 := e6' bq3.2; have g3_7 := e7' bq3.2; have g3_8 := e8' bq3.2; have g3_9 := e9' bq3.2; have g3_10 := e10' bq3.2; have g3_11 := e11' bq3.2; have g3_12 := e12' bq3.2) | (go_at_call 28; (with_reducible refine (HC_f.out w3 bt3).mono ?_); rintro e94 w4 ⟨rfl, hb4⟩; have HB4 := bt HB3 hb4; obtain ⟨bq4, bt4⟩ := hE.out w4 HB4; have g4_6 := e6' bq4.2; have g4_7 := e7' bq4.2; have g4_8 := e8' bq4.2; have g4_9 := e9' bq4.2; have g4_10 := e10' bq4.2; have g4_11 := e11' bq4.2; have g4_12 := e12' bq4.2) | (go_at_call 29; (with_reducible refine (HC_p.out w4 bt4).mono ?_); rintro e95 w5 ⟨rfl, hb5⟩; have HB5 := bt HB4 hb5; obtain ⟨bq5, bt5⟩ := hE.out w5 HB5; have g5_7 := e7' bq5.2; have g5_8 := e8' bq5.2; have g5_9 := e9' bq5.2; have g5_10 := e10' bq5.2; have g5_11 := e11' bq5.2; have g5_12 := e12' bq5.2) | (go_at_call 29; (with_reducible refine (HC_g.out w5 bt5).mono ?_); rintro e96 w6 ⟨rfl, hb6⟩; have HB6 := bt HB5 hb6; obtain ⟨bq6, bt6⟩ := hE.out w6 HB6; have g6_8 := e8' bq6.2; have g6_9 := e9' bq6.2; have g6_10 := e10' bq6.2; have g6_11 := e11' bq6.2; have g6_12 := e12' bq6.2) | (go_at_call 30; (with_reducible refine (HC_F.out w6 bt6).mono ?_); rintro e97 w7 ⟨rfl, hb7⟩; have HB7 := bt HB6 hb7; obtain ⟨bq7, bt7⟩ := hE.out w7 HB7; have g7_8 := e8' bq7.2; have g7_12 := e12' bq7.2) | (go_at_call 30; (with_reducible refine (HC_D.out w7 bt7).mono ?_); rintro e98 w8 ⟨rfl, hb8⟩; have HB8 := bt HB7 hb8; obtain ⟨bq8, bt8⟩ := hE.out w8 HB8; have g8_8 := e8' bq8.2))
                               go_loopw [3] (fun i wr => ∃ k : Nat, k ≤ x_objects.length ∧ i = .int .i64 k ∧ Hid (∀ x ∈ x_objects.take k, ObjR x) ∧ Below W1.heap.size W1 wr) (fun i _ => x_objects.length - (intOf i).toNat)
                               case atStart => exact ⟨0, Nat.zero_le _, rfl, (by show ∀ x ∈ x_objects.take 0, ObjR x; rw [List.take_zero]; exact fun _ h => (by cases h)), HB8⟩
                               case round =>
                                obtain ⟨k, hk, rfl, hq, hB⟩ := hrel
                                obtain ⟨bq, hqt⟩ := hE.out wr hB
                                have u8 := e8' bq.2
                                by_cases hlt : k < x_objects.length
                                · obtain ⟨b, off, rfl, hFb, hel⟩ := h8 (by omega)
                                  obtain ⟨cs, hx, -, hcell⟩ := hel wr (hqt.block b (HF.out b hFb)) k hlt
                                  obtain ⟨x, hxe⟩ : ∃ x, x_objects[k] = x := ⟨_, rfl⟩
                                  rw [hxe] at hx
                                  have hki : (k : Int) < (x_objects.length : Int) := by omega
                                  have hki0 : (0 : Int) ≤ (k : Int) := by omega
                                  have HB := Lib.hid hB
                                  have HQT := Lib.hid hqt
                                  have hnx : Hid (ObjR x → ∀ y ∈ x_objects.take (k + 1), ObjR y) := fun h y hy => by
                                   rw [List.take_succ_eq_append_getElem hlt, hxe] at hy
                                   rcases List.mem_append.1 hy with h1 | h1
                                   · exact hq.out y h1
                                   rw [List.mem_singleton.1 h1]; exact h
                                  have hno : Hid (¬ ObjR x → dec (SrcR ⟨x_title, x_author, x_start, x_release, x_most, x_flags, x_props, x_globals, x_objects, x_verbs, x_rules, x_funcs, x_daemons⟩) = false) := fun h => dec_false (fun h2 => h (by have h3 := h2.2.2.2.2.2.2.2.2.1.2 _ (List.getElem_mem hlt); rw [hxe] at h3; exact h3))
                                  clear hq hxe hB hqt bq
                                  have hx2 := hx
                                  obtain ⟨-, -, -, -, ve5, ve6, ve7, ve8, ve9, rfl, ke5, ke6, ke7, ke8, ke9⟩ := hx2
                                  obtain ⟨de5, fe5, rfl⟩ := ke5.shape
                                  obtain ⟨de6, fe6, rfl⟩ := ke6.shape
                                  obtain ⟨de7, fe7, rfl⟩ := ke7.shape
                                  obtain ⟨de8, fe8, rfl⟩ := ke8.shape
                                  obtain ⟨de9, fe9, rfl⟩ := ke9.shape
                                  have g0 := hcell 0 _ rfl
                                  have g1 := hcell 1 _ rfl
                                  have g2 := hcell 2 _ rfl
                                  have g3 := hcell 3 _ rfl
                                  have g4 := hcell 4 _ rfl
                                  have g5 := hcell 5 _ rfl
                                  have g6 := hcell 6 _ rfl
                                  have g7 := hcell 7 _ rfl
                                  have g8 := hcell 8 _ rfl
                                  have g9 := hcell 9 _ rfl
                                  simp only [Nat.add_zero] at g0
                                  have hc := fun (W : World) (hW : Below wr.heap.size wr W) => rrObj_calls F W x _ (HF.out.below (bt HQT.out hW)) (Holds.below Holds.obj hx HF.out (bt HQT.out hW) (Nat.le_refl _))
                                  clear hel hcell hx ke5 ke6 ke7 ke8 ke9 hFb
                                  by_cases h : ObjR x
                                  · have hnx2 := Lib.hid (hnx.out h)
                                    simp only [dec_true h] at hc
                                    have HC := Lib.hid hc
                                    clear hc hnx hno h
                                    go_wp2_with (go_at_call 31; (with_reducible refine (HC.out _ (Below.refl _ _)).mono ?_); rintro e w3 ⟨rfl, hb3⟩)
                                    go_roundw
                                    case rel => exact ⟨k + 1, by omega, by go_num, hnx2.out, bt HB.out hb3⟩
                                    case measure => simp [intOf]; omega
                                  have hfin := Lib.hid (hno.out h)
                                  simp only [dec_false h] at hc
                                  have HC := Lib.hid hc
                                  clear hc hnx hno h
                                  go_wp2_with (go_at_call 31; (with_reducible refine (HC.out _ (Below.refl _ _)).mono ?_); rintro e w3 ⟨rfl, hb3⟩)
                                  go_ret
                                  exact ⟨ret_bool hfin.out.symm, (hE.out _ (bt HB.out hb3)).2⟩
                                have : k = x_objects.length := by omega
                                subst this
                                have hall_objects : Hid (∀ x ∈ x_objects, ObjR x) := fun x hx => hq.out x (by rw [List.take_length]; exact hx)
                                have hki : decide ((x_objects.length : Int) < (x_objects.length : Int)) = false := by simp
                                clear hq h8
                                have u9' := e9' bq.2
                                go_wp2
                                go_loopw [4] (fun i wr => ∃ k : Nat, k ≤ x_verbs.length ∧ i = .int .i64 k ∧ Hid (∀ x ∈ x_verbs.take k, VerbR x) ∧ Below W1.heap.size W1 wr) (fun i _ => x_verbs.length - (intOf i).toNat)
                                case atStart => exact ⟨0, Nat.zero_le _, rfl, (by show ∀ x ∈ x_verbs.take 0, VerbR x; rw [List.take_zero]; exact fun _ h => (by cases h)), hB⟩
                                case round =>
                                 obtain ⟨k, hk, rfl, hq, hB⟩ := hrel
                                 obtain ⟨bq, hqt⟩ := hE.out wr hB
                                 have u9 := e9' bq.2
                                 by_cases hlt : k < x_verbs.length
                                 · obtain ⟨b, off, rfl, hFb, hel⟩ := h9 (by omega)
                                   obtain ⟨cs, hx, -, hcell⟩ := hel wr (hqt.block b (HF.out b hFb)) k hlt
                                   obtain ⟨x, hxe⟩ : ∃ x, x_verbs[k] = x := ⟨_, rfl⟩
                                   rw [hxe] at hx
                                   have hki : (k : Int) < (x_verbs.length : Int) := by omega
                                   have hki0 : (0 : Int) ≤ (k : Int) := by omega
                                   have HB := Lib.hid hB
                                   have HQT := Lib.hid hqt
                                   have hnx : Hid (VerbR x → ∀ y ∈ x_verbs.take (k + 1), VerbR y) := fun h y hy => by
                                    rw [List.take_succ_eq_append_getElem hlt, hxe] at hy
                                    rcases List.mem_append.1 hy with h1 | h1
                                    · exact hq.out y h1
                                    rw [List.mem_singleton.1 h1]; exact h
                                   have hno : Hid (¬ VerbR x → dec (SrcR ⟨x_title, x_author, x_start, x_release, x_most, x_flags, x_props, x_globals, x_objects, x_verbs, x_rules, x_funcs, x_daemons⟩) = false) := fun h => dec_false (fun h2 => h (by have h3 := h2.2.2.2.2.2.2.2.2.2.1.2 _ (List.getElem_mem hlt); rw [hxe] at h3; exact h3))
                                   clear hq hxe hB hqt bq
                                   have hx2 := hx
                                   obtain ⟨-, ve2, rfl, ke2⟩ := hx2
                                   obtain ⟨de2, fe2, rfl⟩ := ke2.shape
                                   have g0 := hcell 0 _ rfl
                                   have g1 := hcell 1 _ rfl
                                   have g2 := hcell 2 _ rfl
                                   simp only [Nat.add_zero] at g0
                                   have hc := fun (W : World) (hW : Below wr.heap.size wr W) => rrVerb_calls F W x _ (HF.out.below (bt HQT.out hW)) (Holds.below Holds.verb hx HF.out (bt HQT.out hW) (Nat.le_refl _))
                                   clear hel hcell hx ke2 hFb
                                   by_cases h : VerbR x
                                   · have hnx2 := Lib.hid (hnx.out h)
                                     simp only [dec_true h] at hc
                                     have HC := Lib.hid hc
                                     clear hc hnx hno h
                                     go_wp2_with (go_at_call 32; (with_reducible refine (HC.out _ (Below.refl _ _)).mono ?_); rintro e w3 ⟨rfl, hb3⟩)
                                     go_roundw
                                     case rel => exact ⟨k + 1, by omega, by go_num, hnx2.out, bt HB.out hb3⟩
                                     case measure => simp [intOf]; omega
                                   have hfin := Lib.hid (hno.out h)
                                   simp only [dec_false h] at hc
                                   have HC := Lib.hid hc
                                   clear hc hnx hno h
                                   go_wp2_with (go_at_call 32; (with_reducible refine (HC.out _ (Below.refl _ _)).mono ?_); rintro e w3 ⟨rfl, hb3⟩)
                                   go_ret
                                   exact ⟨ret_bool hfin.out.symm, (hE.out _ (bt HB.out hb3)).2⟩
                                 have : k = x_verbs.length := by omega
                                 subst this
                                 have hall_verbs : Hid (∀ x ∈ x_verbs, VerbR x) := fun x hx => hq.out x (by rw [List.take_length]; exact hx)
                                 have hki : decide ((x_verbs.length : Int) < (x_verbs.length : Int)) = false := by simp
                                 clear hq h9
                                 have u10' := e10' bq.2
                                 go_wp2
                                 go_loopw [5] (fun i wr => ∃ k : Nat, k ≤ x_rules.length ∧ i = .int .i64 k ∧ Hid (∀ x ∈ x_rules.take k, RuleR x) ∧ Below W1.heap.size W1 wr) (fun i _ => x_rules.length - (intOf i).toNat)
                                 case atStart => exact ⟨0, Nat.zero_le _, rfl, (by show ∀ x ∈ x_rules.take 0, RuleR x; rw [List.take_zero]; exact fun _ h => (by cases h)), hB⟩
                                 case round =>
                                  obtain ⟨k, hk, rfl, hq, hB⟩ := hrel
                                  obtain ⟨bq, hqt⟩ := hE.out wr hB
                                  have u10 := e10' bq.2
                                  by_cases hlt : k < x_rules.length
                                  · obtain ⟨b, off, rfl, hFb, hel⟩ := h10 (by omega)
                                    obtain ⟨cs, hx, -, hcell⟩ := hel wr (hqt.block b (HF.out b hFb)) k hlt
                                    obtain ⟨x, hxe⟩ : ∃ x, x_rules[k] = x := ⟨_, rfl⟩
                                    rw [hxe] at hx
                                    have hki : (k : Int) < (x_rules.length : Int) := by omega
                                    have hki0 : (0 : Int) ≤ (k : Int) := by omega
                                    have HB := Lib.hid hB
                                    have HQT := Lib.hid hqt
                                    have hnx : Hid (RuleR x → ∀ y ∈ x_rules.take (k + 1), RuleR y) := fun h y hy => by
                                     rw [List.take_succ_eq_append_getElem hlt, hxe] at hy
                                     rcases List.mem_append.1 hy with h1 | h1
                                     · exact hq.out y h1
                                     rw [List.mem_singleton.1 h1]; exact h
                                    have hno : Hid (¬ RuleR x → dec (SrcR ⟨x_title, x_author, x_start, x_release, x_most, x_flags, x_props, x_globals, x_objects, x_verbs, x_rules, x_funcs, x_daemons⟩) = false) := fun h => dec_false (fun h2 => h (by have h3 := h2.2.2.2.2.2.2.2.2.2.2.1.2 _ (List.getElem_mem hlt); rw [hxe] at h3; exact h3))
                                    clear hq hxe hB hqt bq
                                    have hx2 := hx
                                    obtain ⟨-, -, -, -, ve4, ve5, rfl, ke4, ke5⟩ := hx2
                                    obtain ⟨de4, fe4, rfl⟩ := ke4.shape
                                    obtain ⟨de5, fe5, rfl⟩ := ke5.shape
                                    have g0 := hcell 0 _ rfl
                                    have g1 := hcell 1 _ rfl
                                    have g2 := hcell 2 _ rfl
                                    have g3 := hcell 3 _ rfl
                                    have g4 := hcell 4 _ rfl
                                    have g5 := hcell 5 _ rfl
                                    simp only [Nat.add_zero] at g0
                                    have hc := fun (W : World) (hW : Below wr.heap.size wr W) => rrRule_calls F W x _ (HF.out.below (bt HQT.out hW)) (Holds.below Holds.rule hx HF.out (bt HQT.out hW) (Nat.le_refl _))
                                    clear hel hcell hx ke4 ke5 hFb
                                    by_cases h : RuleR x
                                    · have hnx2 := Lib.hid (hnx.out h)
                                      simp only [dec_true h] at hc
                                      have HC := Lib.hid hc
                                      clear hc hnx hno h
                                      go_wp2_with (go_at_call 33; (with_reducible refine (HC.out _ (Below.refl _ _)).mono ?_); rintro e w3 ⟨rfl, hb3⟩)
                                      go_roundw
                                      case rel => exact ⟨k + 1, by omega, by go_num, hnx2.out, bt HB.out hb3⟩
                                      case measure => simp [intOf]; omega
                                    have hfin := Lib.hid (hno.out h)
                                    simp only [dec_false h] at hc
                                    have HC := Lib.hid hc
                                    clear hc hnx hno h
                                    go_wp2_with (go_at_call 33; (with_reducible refine (HC.out _ (Below.refl _ _)).mono ?_); rintro e w3 ⟨rfl, hb3⟩)
                                    go_ret
                                    exact ⟨ret_bool hfin.out.symm, (hE.out _ (bt HB.out hb3)).2⟩
                                  have : k = x_rules.length := by omega
                                  subst this
                                  have hall_rules : Hid (∀ x ∈ x_rules, RuleR x) := fun x hx => hq.out x (by rw [List.take_length]; exact hx)
                                  have hki : decide ((x_rules.length : Int) < (x_rules.length : Int)) = false := by simp
                                  clear hq h10
                                  have hfin : Hid (dec (SrcR ⟨x_title, x_author, x_start, x_release, x_most, x_flags, x_props, x_globals, x_objects, x_verbs, x_rules, x_funcs, x_daemons⟩) = true) := dec_true ⟨HH_t.out, HH_a.out, HH_s.out, ⟨HH_r.out, HH_R.out⟩, ⟨HH_m.out, HH_M.out⟩, HH_f.out, HH_p.out, HH_g.out, ⟨HH_o.out, hall_objects.out⟩, ⟨HH_v.out, hall_verbs.out⟩, ⟨HH_u.out, hall_rules.out⟩, HH_F.out, ⟨HH_D.out.1, fun x hx => (dae_iff x).2 (HH_D.out.2 x hx)⟩⟩
                                  go_wp2
                                  go_ret
                                  exact ⟨ret_bool hfin.out.symm, hqt⟩
                             have hfin : Hid (dec (SrcR ⟨x_title, x_author, x_start, x_release, x_most, x_flags, x_props, x_globals, x_objects, x_verbs, x_rules, x_funcs, x_daemons⟩) = false) := dec_false (fun h => h_D ⟨h.2.2.2.2.2.2.2.2.2.2.2.2.1, fun x hx => (dae_iff x).1 (h.2.2.2.2.2.2.2.2.2.2.2.2.2 x hx)⟩)
                             simp only [dec_true h_t] at hc_t
                             have HC_t := Lib.hid hc_t
                             simp only [dec_true h_a] at hc_a
                             have HC_a := Lib.hid hc_a
                             simp only [dec_true h_s] at hc_s
                             have HC_s := Lib.hid hc_s
                             simp only [dec_true h_f] at hc_f
                             have HC_f := Lib.hid hc_f
                             simp only [dec_true h_p] at hc_p
                             have HC_p := Lib.hid hc_p
                             simp only [dec_true h_g] at hc_g
                             have HC_g := Lib.hid hc_g
                             simp only [dec_true h_F] at hc_F
                             have HC_F := Lib.hid hc_F
                             simp only [dec_false h_D] at hc_D
                             have HC_D := Lib.hid hc_D
                             have e_r0 : decide (x_release < (0 : Int)) = false := decide_eq_false (by omega)
                             have e_R1 : decide ((32767 : Int) < x_release) = false := decide_eq_false (by omega)
                             have e_m2 : decide (x_most < (0 : Int)) = false := decide_eq_false (by omega)
                             have e_M3 : decide ((32767 : Int) < x_most) = false := decide_eq_false (by omega)
                             have e_o4 : decide ((126 : Int) < (x_objects.length : Int)) = false := decide_eq_false (by omega)
                             have e_v5 : decide ((64 : Int) < (x_verbs.length : Int)) = false := decide_eq_false (by omega)
                             have e_u6 : decide ((512 : Int) < (x_rules.length : Int)) = false := decide_eq_false (by omega)
                             clear hc_t hc_a hc_s hc_f hc_p hc_g hc_F hc_D ka5 ka6 ka7 ka8 ka9 ka10 ka11 ka12 z_title z_author z_start z_release z_most hF h_t h_a h_s h_r h_R h_m h_M h_f h_p h_g h_o h_v h_u h_F h_D
                             go_enter Tryz.func8, Tryz.ntmps8
                             go_upto_region 1 with fail
                             rw [HW1.out]
                             obtain ⟨bq, bt0⟩ := hE.out W1 (Below.refl _ _)
                             have HB0 := b0' W1
                             obtain ⟨g0, g1, g2, g3, g4, g5, g6, g7, g8, g9, g10, g11, g12⟩ := p12' bq.2
                             go_wp2_with (first | (go_at_call 26; (with_reducible refine (HC_t.out W1 bt0).mono ?_); rintro e91 w1 ⟨rfl, hb1⟩; have HB1 := bt HB0 hb1; obtain ⟨bq1, bt1⟩ := hE.out w1 HB1; have g1_1 := e1' bq1.2; have g1_2 := e2' bq1.2; have g1_3 := e3' bq1.2; have g1_4 := e4' bq1.2; have g1_5 := e5' bq1.2; have g1_6 := e6' bq1.2; have g1_7 := e7' bq1.2; have g1_8 := e8' bq1.2; have g1_9 := e9' bq1.2; have g1_10 := e10' bq1.2; have g1_11 := e11' bq1.2; have g1_12 := e12' bq1.2) | (go_at_call 26; (with_reducible refine (HC_a.out w1 bt1).mono ?_); rintro e92 w2 ⟨rfl, hb2⟩; have HB2 := bt HB1 hb2; obtain ⟨bq2, bt2⟩ := hE.out w2 HB2; have g2_2 := e2' bq2.2; have g2_3 := e3' bq2.2; have g2_4 := e4' bq2.2; have g2_5 := e5' bq2.2; have g2_6 := e6' bq2.2; have g2_7 := e7' bq2.2; have g2_8 := e8' bq2.2; have g2_9 := e9' bq2.2; have g2_10 := e10' bq2.2; have g2_11 := e11' bq2.2; have g2_12 := e12' bq2.2) | (go_at_call 27; (with_reducible refine (HC_s.out w2 bt2).mono ?_); rintro e93 w3 ⟨rfl, hb3⟩; have HB3 := bt HB2 hb3; obtain ⟨bq3, bt3⟩ := hE.out w3 HB3; have g3_3 := e3' bq3.2; have g3_4 := e4' bq3.2; have g3_5 := e5' bq3.2; have g3_6 := e6' bq3.2; have g3_7 := e7' bq3.2; have g3_8 := e8' bq3.2; have g3_9 := e9' bq3.2; have g3_10 := e10' bq3.2; have g3_11 := e11' bq3.2; have g3_12 := e12' bq3.2) | (go_at_call 28; (with_reducible refine (HC_f.out w3 bt3).mono ?_); rintro e94 w4 ⟨rfl, hb4⟩; have HB4 := bt HB3 hb4; obtain ⟨bq4, bt4⟩ := hE.out w4 HB4; have g4_6 := e6' bq4.2; have g4_7 := e7' bq4.2; have g4_8 := e8' bq4.2; have g4_9 := e9' bq4.2; have g4_10 := e10' bq4.2; have g4_11 := e11' bq4.2; have g4_12 := e12' bq4.2) | (go_at_call 29; (with_reducible refine (HC_p.out w4 bt4).mono ?_); rintro e95 w5 ⟨rfl, hb5⟩; have HB5 := bt HB4 hb5; obtain ⟨bq5, bt5⟩ := hE.out w5 HB5; have g5_7 := e7' bq5.2; have g5_8 := e8' bq5.2; have g5_9 := e9' bq5.2; have g5_10 := e10' bq5.2; have g5_11 := e11' bq5.2; have g5_12 := e12' bq5.2) | (go_at_call 29; (with_reducible refine (HC_g.out w5 bt5).mono ?_); rintro e96 w6 ⟨rfl, hb6⟩; have HB6 := bt HB5 hb6; obtain ⟨bq6, bt6⟩ := hE.out w6 HB6; have g6_8 := e8' bq6.2; have g6_9 := e9' bq6.2; have g6_10 := e10' bq6.2; have g6_11 := e11' bq6.2; have g6_12 := e12' bq6.2) | (go_at_call 30; (with_reducible refine (HC_F.out w6 bt6).mono ?_); rintro e97 w7 ⟨rfl, hb7⟩; have HB7 := bt HB6 hb7; obtain ⟨bq7, bt7⟩ := hE.out w7 HB7; have g7_12 := e12' bq7.2) | (go_at_call 30; (with_reducible refine (HC_D.out w7 bt7).mono ?_); rintro e98 w8 ⟨rfl, hb8⟩; have HB8 := bt HB7 hb8; obtain ⟨bq8, bt8⟩ := hE.out w8 HB8))
                             go_ret
                             exact ⟨ret_bool hfin.out.symm, bt8⟩
                           have hfin : Hid (dec (SrcR ⟨x_title, x_author, x_start, x_release, x_most, x_flags, x_props, x_globals, x_objects, x_verbs, x_rules, x_funcs, x_daemons⟩) = false) := dec_false (fun h => h_F h.2.2.2.2.2.2.2.2.2.2.2.1)
                           simp only [dec_true h_t] at hc_t
                           have HC_t := Lib.hid hc_t
                           simp only [dec_true h_a] at hc_a
                           have HC_a := Lib.hid hc_a
                           simp only [dec_true h_s] at hc_s
                           have HC_s := Lib.hid hc_s
                           simp only [dec_true h_f] at hc_f
                           have HC_f := Lib.hid hc_f
                           simp only [dec_true h_p] at hc_p
                           have HC_p := Lib.hid hc_p
                           simp only [dec_true h_g] at hc_g
                           have HC_g := Lib.hid hc_g
                           simp only [dec_false h_F] at hc_F
                           have HC_F := Lib.hid hc_F
                           have e_r0 : decide (x_release < (0 : Int)) = false := decide_eq_false (by omega)
                           have e_R1 : decide ((32767 : Int) < x_release) = false := decide_eq_false (by omega)
                           have e_m2 : decide (x_most < (0 : Int)) = false := decide_eq_false (by omega)
                           have e_M3 : decide ((32767 : Int) < x_most) = false := decide_eq_false (by omega)
                           have e_o4 : decide ((126 : Int) < (x_objects.length : Int)) = false := decide_eq_false (by omega)
                           have e_v5 : decide ((64 : Int) < (x_verbs.length : Int)) = false := decide_eq_false (by omega)
                           have e_u6 : decide ((512 : Int) < (x_rules.length : Int)) = false := decide_eq_false (by omega)
                           clear hc_t hc_a hc_s hc_f hc_p hc_g hc_F hc_D ka5 ka6 ka7 ka8 ka9 ka10 ka11 ka12 z_title z_author z_start z_release z_most hF h_t h_a h_s h_r h_R h_m h_M h_f h_p h_g h_o h_v h_u h_F
                           go_enter Tryz.func8, Tryz.ntmps8
                           go_upto_region 1 with fail
                           rw [HW1.out]
                           obtain ⟨bq, bt0⟩ := hE.out W1 (Below.refl _ _)
                           have HB0 := b0' W1
                           obtain ⟨g0, g1, g2, g3, g4, g5, g6, g7, g8, g9, g10, g11⟩ := p11' bq.2
                           go_wp2_with (first | (go_at_call 26; (with_reducible refine (HC_t.out W1 bt0).mono ?_); rintro e91 w1 ⟨rfl, hb1⟩; have HB1 := bt HB0 hb1; obtain ⟨bq1, bt1⟩ := hE.out w1 HB1; have g1_1 := e1' bq1.2; have g1_2 := e2' bq1.2; have g1_3 := e3' bq1.2; have g1_4 := e4' bq1.2; have g1_5 := e5' bq1.2; have g1_6 := e6' bq1.2; have g1_7 := e7' bq1.2; have g1_8 := e8' bq1.2; have g1_9 := e9' bq1.2; have g1_10 := e10' bq1.2; have g1_11 := e11' bq1.2) | (go_at_call 26; (with_reducible refine (HC_a.out w1 bt1).mono ?_); rintro e92 w2 ⟨rfl, hb2⟩; have HB2 := bt HB1 hb2; obtain ⟨bq2, bt2⟩ := hE.out w2 HB2; have g2_2 := e2' bq2.2; have g2_3 := e3' bq2.2; have g2_4 := e4' bq2.2; have g2_5 := e5' bq2.2; have g2_6 := e6' bq2.2; have g2_7 := e7' bq2.2; have g2_8 := e8' bq2.2; have g2_9 := e9' bq2.2; have g2_10 := e10' bq2.2; have g2_11 := e11' bq2.2) | (go_at_call 27; (with_reducible refine (HC_s.out w2 bt2).mono ?_); rintro e93 w3 ⟨rfl, hb3⟩; have HB3 := bt HB2 hb3; obtain ⟨bq3, bt3⟩ := hE.out w3 HB3; have g3_3 := e3' bq3.2; have g3_4 := e4' bq3.2; have g3_5 := e5' bq3.2; have g3_6 := e6' bq3.2; have g3_7 := e7' bq3.2; have g3_8 := e8' bq3.2; have g3_9 := e9' bq3.2; have g3_10 := e10' bq3.2; have g3_11 := e11' bq3.2) | (go_at_call 28; (with_reducible refine (HC_f.out w3 bt3).mono ?_); rintro e94 w4 ⟨rfl, hb4⟩; have HB4 := bt HB3 hb4; obtain ⟨bq4, bt4⟩ := hE.out w4 HB4; have g4_6 := e6' bq4.2; have g4_7 := e7' bq4.2; have g4_8 := e8' bq4.2; have g4_9 := e9' bq4.2; have g4_10 := e10' bq4.2; have g4_11 := e11' bq4.2) | (go_at_call 29; (with_reducible refine (HC_p.out w4 bt4).mono ?_); rintro e95 w5 ⟨rfl, hb5⟩; have HB5 := bt HB4 hb5; obtain ⟨bq5, bt5⟩ := hE.out w5 HB5; have g5_7 := e7' bq5.2; have g5_8 := e8' bq5.2; have g5_9 := e9' bq5.2; have g5_10 := e10' bq5.2; have g5_11 := e11' bq5.2) | (go_at_call 29; (with_reducible refine (HC_g.out w5 bt5).mono ?_); rintro e96 w6 ⟨rfl, hb6⟩; have HB6 := bt HB5 hb6; obtain ⟨bq6, bt6⟩ := hE.out w6 HB6; have g6_8 := e8' bq6.2; have g6_9 := e9' bq6.2; have g6_10 := e10' bq6.2; have g6_11 := e11' bq6.2) | (go_at_call 30; (with_reducible refine (HC_F.out w6 bt6).mono ?_); rintro e97 w7 ⟨rfl, hb7⟩; have HB7 := bt HB6 hb7; obtain ⟨bq7, bt7⟩ := hE.out w7 HB7))
                           go_ret
                           exact ⟨ret_bool hfin.out.symm, bt7⟩
                         have hfin : Hid (dec (SrcR ⟨x_title, x_author, x_start, x_release, x_most, x_flags, x_props, x_globals, x_objects, x_verbs, x_rules, x_funcs, x_daemons⟩) = false) := dec_false (fun h => h_u h.2.2.2.2.2.2.2.2.2.2.1.1)
                         simp only [dec_true h_t] at hc_t
                         have HC_t := Lib.hid hc_t
                         simp only [dec_true h_a] at hc_a
                         have HC_a := Lib.hid hc_a
                         simp only [dec_true h_s] at hc_s
                         have HC_s := Lib.hid hc_s
                         simp only [dec_true h_f] at hc_f
                         have HC_f := Lib.hid hc_f
                         simp only [dec_true h_p] at hc_p
                         have HC_p := Lib.hid hc_p
                         simp only [dec_true h_g] at hc_g
                         have HC_g := Lib.hid hc_g
                         have e_r0 : decide (x_release < (0 : Int)) = false := decide_eq_false (by omega)
                         have e_R1 : decide ((32767 : Int) < x_release) = false := decide_eq_false (by omega)
                         have e_m2 : decide (x_most < (0 : Int)) = false := decide_eq_false (by omega)
                         have e_M3 : decide ((32767 : Int) < x_most) = false := decide_eq_false (by omega)
                         have e_o4 : decide ((126 : Int) < (x_objects.length : Int)) = false := decide_eq_false (by omega)
                         have e_v5 : decide ((64 : Int) < (x_verbs.length : Int)) = false := decide_eq_false (by omega)
                         have e_u6 : decide ((512 : Int) < (x_rules.length : Int)) = true := decide_eq_true (by omega)
                         clear hc_t hc_a hc_s hc_f hc_p hc_g hc_F hc_D ka5 ka6 ka7 ka8 ka9 ka10 ka11 ka12 z_title z_author z_start z_release z_most hF h_t h_a h_s h_r h_R h_m h_M h_f h_p h_g h_o h_v h_u
                         go_enter Tryz.func8, Tryz.ntmps8
                         go_upto_region 1 with fail
                         rw [HW1.out]
                         obtain ⟨bq, bt0⟩ := hE.out W1 (Below.refl _ _)
                         have HB0 := b0' W1
                         obtain ⟨g0, g1, g2, g3, g4, g5, g6, g7, g8, g9, g10⟩ := p10' bq.2
                         go_wp2_with (first | (go_at_call 26; (with_reducible refine (HC_t.out W1 bt0).mono ?_); rintro e91 w1 ⟨rfl, hb1⟩; have HB1 := bt HB0 hb1; obtain ⟨bq1, bt1⟩ := hE.out w1 HB1; have g1_1 := e1' bq1.2; have g1_2 := e2' bq1.2; have g1_3 := e3' bq1.2; have g1_4 := e4' bq1.2; have g1_5 := e5' bq1.2; have g1_6 := e6' bq1.2; have g1_7 := e7' bq1.2; have g1_8 := e8' bq1.2; have g1_9 := e9' bq1.2; have g1_10 := e10' bq1.2) | (go_at_call 26; (with_reducible refine (HC_a.out w1 bt1).mono ?_); rintro e92 w2 ⟨rfl, hb2⟩; have HB2 := bt HB1 hb2; obtain ⟨bq2, bt2⟩ := hE.out w2 HB2; have g2_2 := e2' bq2.2; have g2_3 := e3' bq2.2; have g2_4 := e4' bq2.2; have g2_5 := e5' bq2.2; have g2_6 := e6' bq2.2; have g2_7 := e7' bq2.2; have g2_8 := e8' bq2.2; have g2_9 := e9' bq2.2; have g2_10 := e10' bq2.2) | (go_at_call 27; (with_reducible refine (HC_s.out w2 bt2).mono ?_); rintro e93 w3 ⟨rfl, hb3⟩; have HB3 := bt HB2 hb3; obtain ⟨bq3, bt3⟩ := hE.out w3 HB3; have g3_3 := e3' bq3.2; have g3_4 := e4' bq3.2; have g3_5 := e5' bq3.2; have g3_6 := e6' bq3.2; have g3_7 := e7' bq3.2; have g3_8 := e8' bq3.2; have g3_9 := e9' bq3.2; have g3_10 := e10' bq3.2) | (go_at_call 28; (with_reducible refine (HC_f.out w3 bt3).mono ?_); rintro e94 w4 ⟨rfl, hb4⟩; have HB4 := bt HB3 hb4; obtain ⟨bq4, bt4⟩ := hE.out w4 HB4; have g4_6 := e6' bq4.2; have g4_7 := e7' bq4.2; have g4_8 := e8' bq4.2; have g4_9 := e9' bq4.2; have g4_10 := e10' bq4.2) | (go_at_call 29; (with_reducible refine (HC_p.out w4 bt4).mono ?_); rintro e95 w5 ⟨rfl, hb5⟩; have HB5 := bt HB4 hb5; obtain ⟨bq5, bt5⟩ := hE.out w5 HB5; have g5_7 := e7' bq5.2; have g5_8 := e8' bq5.2; have g5_9 := e9' bq5.2; have g5_10 := e10' bq5.2) | (go_at_call 29; (with_reducible refine (HC_g.out w5 bt5).mono ?_); rintro e96 w6 ⟨rfl, hb6⟩; have HB6 := bt HB5 hb6; obtain ⟨bq6, bt6⟩ := hE.out w6 HB6; have g6_8 := e8' bq6.2; have g6_9 := e9' bq6.2; have g6_10 := e10' bq6.2))
                         go_ret
                         exact ⟨ret_bool hfin.out.symm, bt6⟩
                       have hfin : Hid (dec (SrcR ⟨x_title, x_author, x_start, x_release, x_most, x_flags, x_props, x_globals, x_objects, x_verbs, x_rules, x_funcs, x_daemons⟩) = false) := dec_false (fun h => h_v h.2.2.2.2.2.2.2.2.2.1.1)
                       simp only [dec_true h_t] at hc_t
                       have HC_t := Lib.hid hc_t
                       simp only [dec_true h_a] at hc_a
                       have HC_a := Lib.hid hc_a
                       simp only [dec_true h_s] at hc_s
                       have HC_s := Lib.hid hc_s
                       simp only [dec_true h_f] at hc_f
                       have HC_f := Lib.hid hc_f
                       simp only [dec_true h_p] at hc_p
                       have HC_p := Lib.hid hc_p
                       simp only [dec_true h_g] at hc_g
                       have HC_g := Lib.hid hc_g
                       have e_r0 : decide (x_release < (0 : Int)) = false := decide_eq_false (by omega)
                       have e_R1 : decide ((32767 : Int) < x_release) = false := decide_eq_false (by omega)
                       have e_m2 : decide (x_most < (0 : Int)) = false := decide_eq_false (by omega)
                       have e_M3 : decide ((32767 : Int) < x_most) = false := decide_eq_false (by omega)
                       have e_o4 : decide ((126 : Int) < (x_objects.length : Int)) = false := decide_eq_false (by omega)
                       have e_v5 : decide ((64 : Int) < (x_verbs.length : Int)) = true := decide_eq_true (by omega)
                       clear hc_t hc_a hc_s hc_f hc_p hc_g hc_F hc_D ka5 ka6 ka7 ka8 ka9 ka10 ka11 ka12 z_title z_author z_start z_release z_most hF h_t h_a h_s h_r h_R h_m h_M h_f h_p h_g h_o h_v
                       go_enter Tryz.func8, Tryz.ntmps8
                       go_upto_region 1 with fail
                       rw [HW1.out]
                       obtain ⟨bq, bt0⟩ := hE.out W1 (Below.refl _ _)
                       have HB0 := b0' W1
                       obtain ⟨g0, g1, g2, g3, g4, g5, g6, g7, g8, g9⟩ := p9' bq.2
                       go_wp2_with (first | (go_at_call 26; (with_reducible refine (HC_t.out W1 bt0).mono ?_); rintro e91 w1 ⟨rfl, hb1⟩; have HB1 := bt HB0 hb1; obtain ⟨bq1, bt1⟩ := hE.out w1 HB1; have g1_1 := e1' bq1.2; have g1_2 := e2' bq1.2; have g1_3 := e3' bq1.2; have g1_4 := e4' bq1.2; have g1_5 := e5' bq1.2; have g1_6 := e6' bq1.2; have g1_7 := e7' bq1.2; have g1_8 := e8' bq1.2; have g1_9 := e9' bq1.2) | (go_at_call 26; (with_reducible refine (HC_a.out w1 bt1).mono ?_); rintro e92 w2 ⟨rfl, hb2⟩; have HB2 := bt HB1 hb2; obtain ⟨bq2, bt2⟩ := hE.out w2 HB2; have g2_2 := e2' bq2.2; have g2_3 := e3' bq2.2; have g2_4 := e4' bq2.2; have g2_5 := e5' bq2.2; have g2_6 := e6' bq2.2; have g2_7 := e7' bq2.2; have g2_8 := e8' bq2.2; have g2_9 := e9' bq2.2) | (go_at_call 27; (with_reducible refine (HC_s.out w2 bt2).mono ?_); rintro e93 w3 ⟨rfl, hb3⟩; have HB3 := bt HB2 hb3; obtain ⟨bq3, bt3⟩ := hE.out w3 HB3; have g3_3 := e3' bq3.2; have g3_4 := e4' bq3.2; have g3_5 := e5' bq3.2; have g3_6 := e6' bq3.2; have g3_7 := e7' bq3.2; have g3_8 := e8' bq3.2; have g3_9 := e9' bq3.2) | (go_at_call 28; (with_reducible refine (HC_f.out w3 bt3).mono ?_); rintro e94 w4 ⟨rfl, hb4⟩; have HB4 := bt HB3 hb4; obtain ⟨bq4, bt4⟩ := hE.out w4 HB4; have g4_6 := e6' bq4.2; have g4_7 := e7' bq4.2; have g4_8 := e8' bq4.2; have g4_9 := e9' bq4.2) | (go_at_call 29; (with_reducible refine (HC_p.out w4 bt4).mono ?_); rintro e95 w5 ⟨rfl, hb5⟩; have HB5 := bt HB4 hb5; obtain ⟨bq5, bt5⟩ := hE.out w5 HB5; have g5_7 := e7' bq5.2; have g5_8 := e8' bq5.2; have g5_9 := e9' bq5.2) | (go_at_call 29; (with_reducible refine (HC_g.out w5 bt5).mono ?_); rintro e96 w6 ⟨rfl, hb6⟩; have HB6 := bt HB5 hb6; obtain ⟨bq6, bt6⟩ := hE.out w6 HB6; have g6_8 := e8' bq6.2; have g6_9 := e9' bq6.2))
                       go_ret
                       exact ⟨ret_bool hfin.out.symm, bt6⟩
                     have hfin : Hid (dec (SrcR ⟨x_title, x_author, x_start, x_release, x_most, x_flags, x_props, x_globals, x_objects, x_verbs, x_rules, x_funcs, x_daemons⟩) = false) := dec_false (fun h => h_o h.2.2.2.2.2.2.2.2.1.1)
                     simp only [dec_true h_t] at hc_t
                     have HC_t := Lib.hid hc_t
                     simp only [dec_true h_a] at hc_a
                     have HC_a := Lib.hid hc_a
                     simp only [dec_true h_s] at hc_s
                     have HC_s := Lib.hid hc_s
                     simp only [dec_true h_f] at hc_f
                     have HC_f := Lib.hid hc_f
                     simp only [dec_true h_p] at hc_p
                     have HC_p := Lib.hid hc_p
                     simp only [dec_true h_g] at hc_g
                     have HC_g := Lib.hid hc_g
                     have e_r0 : decide (x_release < (0 : Int)) = false := decide_eq_false (by omega)
                     have e_R1 : decide ((32767 : Int) < x_release) = false := decide_eq_false (by omega)
                     have e_m2 : decide (x_most < (0 : Int)) = false := decide_eq_false (by omega)
                     have e_M3 : decide ((32767 : Int) < x_most) = false := decide_eq_false (by omega)
                     have e_o4 : decide ((126 : Int) < (x_objects.length : Int)) = true := decide_eq_true (by omega)
                     clear hc_t hc_a hc_s hc_f hc_p hc_g hc_F hc_D ka5 ka6 ka7 ka8 ka9 ka10 ka11 ka12 z_title z_author z_start z_release z_most hF h_t h_a h_s h_r h_R h_m h_M h_f h_p h_g h_o
                     go_enter Tryz.func8, Tryz.ntmps8
                     go_upto_region 1 with fail
                     rw [HW1.out]
                     obtain ⟨bq, bt0⟩ := hE.out W1 (Below.refl _ _)
                     have HB0 := b0' W1
                     obtain ⟨g0, g1, g2, g3, g4, g5, g6, g7, g8⟩ := p8' bq.2
                     go_wp2_with (first | (go_at_call 26; (with_reducible refine (HC_t.out W1 bt0).mono ?_); rintro e91 w1 ⟨rfl, hb1⟩; have HB1 := bt HB0 hb1; obtain ⟨bq1, bt1⟩ := hE.out w1 HB1; have g1_1 := e1' bq1.2; have g1_2 := e2' bq1.2; have g1_3 := e3' bq1.2; have g1_4 := e4' bq1.2; have g1_5 := e5' bq1.2; have g1_6 := e6' bq1.2; have g1_7 := e7' bq1.2; have g1_8 := e8' bq1.2) | (go_at_call 26; (with_reducible refine (HC_a.out w1 bt1).mono ?_); rintro e92 w2 ⟨rfl, hb2⟩; have HB2 := bt HB1 hb2; obtain ⟨bq2, bt2⟩ := hE.out w2 HB2; have g2_2 := e2' bq2.2; have g2_3 := e3' bq2.2; have g2_4 := e4' bq2.2; have g2_5 := e5' bq2.2; have g2_6 := e6' bq2.2; have g2_7 := e7' bq2.2; have g2_8 := e8' bq2.2) | (go_at_call 27; (with_reducible refine (HC_s.out w2 bt2).mono ?_); rintro e93 w3 ⟨rfl, hb3⟩; have HB3 := bt HB2 hb3; obtain ⟨bq3, bt3⟩ := hE.out w3 HB3; have g3_3 := e3' bq3.2; have g3_4 := e4' bq3.2; have g3_5 := e5' bq3.2; have g3_6 := e6' bq3.2; have g3_7 := e7' bq3.2; have g3_8 := e8' bq3.2) | (go_at_call 28; (with_reducible refine (HC_f.out w3 bt3).mono ?_); rintro e94 w4 ⟨rfl, hb4⟩; have HB4 := bt HB3 hb4; obtain ⟨bq4, bt4⟩ := hE.out w4 HB4; have g4_6 := e6' bq4.2; have g4_7 := e7' bq4.2; have g4_8 := e8' bq4.2) | (go_at_call 29; (with_reducible refine (HC_p.out w4 bt4).mono ?_); rintro e95 w5 ⟨rfl, hb5⟩; have HB5 := bt HB4 hb5; obtain ⟨bq5, bt5⟩ := hE.out w5 HB5; have g5_7 := e7' bq5.2; have g5_8 := e8' bq5.2) | (go_at_call 29; (with_reducible refine (HC_g.out w5 bt5).mono ?_); rintro e96 w6 ⟨rfl, hb6⟩; have HB6 := bt HB5 hb6; obtain ⟨bq6, bt6⟩ := hE.out w6 HB6; have g6_8 := e8' bq6.2))
                     go_ret
                     exact ⟨ret_bool hfin.out.symm, bt6⟩
                   have hfin : Hid (dec (SrcR ⟨x_title, x_author, x_start, x_release, x_most, x_flags, x_props, x_globals, x_objects, x_verbs, x_rules, x_funcs, x_daemons⟩) = false) := dec_false (fun h => h_g h.2.2.2.2.2.2.2.1)
                   simp only [dec_true h_t] at hc_t
                   have HC_t := Lib.hid hc_t
                   simp only [dec_true h_a] at hc_a
                   have HC_a := Lib.hid hc_a
                   simp only [dec_true h_s] at hc_s
                   have HC_s := Lib.hid hc_s
                   simp only [dec_true h_f] at hc_f
                   have HC_f := Lib.hid hc_f
                   simp only [dec_true h_p] at hc_p
                   have HC_p := Lib.hid hc_p
                   simp only [dec_false h_g] at hc_g
                   have HC_g := Lib.hid hc_g
                   have e_r0 : decide (x_release < (0 : Int)) = false := decide_eq_false (by omega)
                   have e_R1 : decide ((32767 : Int) < x_release) = false := decide_eq_false (by omega)
                   have e_m2 : decide (x_most < (0 : Int)) = false := decide_eq_false (by omega)
                   have e_M3 : decide ((32767 : Int) < x_most) = false := decide_eq_false (by omega)
                   clear hc_t hc_a hc_s hc_f hc_p hc_g hc_F hc_D ka5 ka6 ka7 ka8 ka9 ka10 ka11 ka12 z_title z_author z_start z_release z_most hF h_t h_a h_s h_r h_R h_m h_M h_f h_p h_g
                   go_enter Tryz.func8, Tryz.ntmps8
                   go_upto_region 1 with fail
                   rw [HW1.out]
                   obtain ⟨bq, bt0⟩ := hE.out W1 (Below.refl _ _)
                   have HB0 := b0' W1
                   obtain ⟨g0, g1, g2, g3, g4, g5, g6, g7⟩ := p7' bq.2
                   go_wp2_with (first | (go_at_call 26; (with_reducible refine (HC_t.out W1 bt0).mono ?_); rintro e91 w1 ⟨rfl, hb1⟩; have HB1 := bt HB0 hb1; obtain ⟨bq1, bt1⟩ := hE.out w1 HB1; have g1_1 := e1' bq1.2; have g1_2 := e2' bq1.2; have g1_3 := e3' bq1.2; have g1_4 := e4' bq1.2; have g1_5 := e5' bq1.2; have g1_6 := e6' bq1.2; have g1_7 := e7' bq1.2) | (go_at_call 26; (with_reducible refine (HC_a.out w1 bt1).mono ?_); rintro e92 w2 ⟨rfl, hb2⟩; have HB2 := bt HB1 hb2; obtain ⟨bq2, bt2⟩ := hE.out w2 HB2; have g2_2 := e2' bq2.2; have g2_3 := e3' bq2.2; have g2_4 := e4' bq2.2; have g2_5 := e5' bq2.2; have g2_6 := e6' bq2.2; have g2_7 := e7' bq2.2) | (go_at_call 27; (with_reducible refine (HC_s.out w2 bt2).mono ?_); rintro e93 w3 ⟨rfl, hb3⟩; have HB3 := bt HB2 hb3; obtain ⟨bq3, bt3⟩ := hE.out w3 HB3; have g3_3 := e3' bq3.2; have g3_4 := e4' bq3.2; have g3_5 := e5' bq3.2; have g3_6 := e6' bq3.2; have g3_7 := e7' bq3.2) | (go_at_call 28; (with_reducible refine (HC_f.out w3 bt3).mono ?_); rintro e94 w4 ⟨rfl, hb4⟩; have HB4 := bt HB3 hb4; obtain ⟨bq4, bt4⟩ := hE.out w4 HB4; have g4_6 := e6' bq4.2; have g4_7 := e7' bq4.2) | (go_at_call 29; (with_reducible refine (HC_p.out w4 bt4).mono ?_); rintro e95 w5 ⟨rfl, hb5⟩; have HB5 := bt HB4 hb5; obtain ⟨bq5, bt5⟩ := hE.out w5 HB5; have g5_7 := e7' bq5.2) | (go_at_call 29; (with_reducible refine (HC_g.out w5 bt5).mono ?_); rintro e96 w6 ⟨rfl, hb6⟩; have HB6 := bt HB5 hb6; obtain ⟨bq6, bt6⟩ := hE.out w6 HB6))
                   go_ret
                   exact ⟨ret_bool hfin.out.symm, bt6⟩
                 have hfin : Hid (dec (SrcR ⟨x_title, x_author, x_start, x_release, x_most, x_flags, x_props, x_globals, x_objects, x_verbs, x_rules, x_funcs, x_daemons⟩) = false) := dec_false (fun h => h_p h.2.2.2.2.2.2.1)
                 simp only [dec_true h_t] at hc_t
                 have HC_t := Lib.hid hc_t
                 simp only [dec_true h_a] at hc_a
                 have HC_a := Lib.hid hc_a
                 simp only [dec_true h_s] at hc_s
                 have HC_s := Lib.hid hc_s
                 simp only [dec_true h_f] at hc_f
                 have HC_f := Lib.hid hc_f
                 simp only [dec_false h_p] at hc_p
                 have HC_p := Lib.hid hc_p
                 have e_r0 : decide (x_release < (0 : Int)) = false := decide_eq_false (by omega)
                 have e_R1 : decide ((32767 : Int) < x_release) = false := decide_eq_false (by omega)
                 have e_m2 : decide (x_most < (0 : Int)) = false := decide_eq_false (by omega)
                 have e_M3 : decide ((32767 : Int) < x_most) = false := decide_eq_false (by omega)
                 clear hc_t hc_a hc_s hc_f hc_p hc_g hc_F hc_D ka5 ka6 ka7 ka8 ka9 ka10 ka11 ka12 z_title z_author z_start z_release z_most hF h_t h_a h_s h_r h_R h_m h_M h_f h_p
                 go_enter Tryz.func8, Tryz.ntmps8
                 go_upto_region 1 with fail
                 rw [HW1.out]
                 obtain ⟨bq, bt0⟩ := hE.out W1 (Below.refl _ _)
                 have HB0 := b0' W1
                 obtain ⟨g0, g1, g2, g3, g4, g5, g6⟩ := p6' bq.2
                 go_wp2_with (first | (go_at_call 26; (with_reducible refine (HC_t.out W1 bt0).mono ?_); rintro e91 w1 ⟨rfl, hb1⟩; have HB1 := bt HB0 hb1; obtain ⟨bq1, bt1⟩ := hE.out w1 HB1; have g1_1 := e1' bq1.2; have g1_2 := e2' bq1.2; have g1_3 := e3' bq1.2; have g1_4 := e4' bq1.2; have g1_5 := e5' bq1.2; have g1_6 := e6' bq1.2) | (go_at_call 26; (with_reducible refine (HC_a.out w1 bt1).mono ?_); rintro e92 w2 ⟨rfl, hb2⟩; have HB2 := bt HB1 hb2; obtain ⟨bq2, bt2⟩ := hE.out w2 HB2; have g2_2 := e2' bq2.2; have g2_3 := e3' bq2.2; have g2_4 := e4' bq2.2; have g2_5 := e5' bq2.2; have g2_6 := e6' bq2.2) | (go_at_call 27; (with_reducible refine (HC_s.out w2 bt2).mono ?_); rintro e93 w3 ⟨rfl, hb3⟩; have HB3 := bt HB2 hb3; obtain ⟨bq3, bt3⟩ := hE.out w3 HB3; have g3_3 := e3' bq3.2; have g3_4 := e4' bq3.2; have g3_5 := e5' bq3.2; have g3_6 := e6' bq3.2) | (go_at_call 28; (with_reducible refine (HC_f.out w3 bt3).mono ?_); rintro e94 w4 ⟨rfl, hb4⟩; have HB4 := bt HB3 hb4; obtain ⟨bq4, bt4⟩ := hE.out w4 HB4; have g4_6 := e6' bq4.2) | (go_at_call 29; (with_reducible refine (HC_p.out w4 bt4).mono ?_); rintro e95 w5 ⟨rfl, hb5⟩; have HB5 := bt HB4 hb5; obtain ⟨bq5, bt5⟩ := hE.out w5 HB5))
                 go_ret
                 exact ⟨ret_bool hfin.out.symm, bt5⟩
               have hfin : Hid (dec (SrcR ⟨x_title, x_author, x_start, x_release, x_most, x_flags, x_props, x_globals, x_objects, x_verbs, x_rules, x_funcs, x_daemons⟩) = false) := dec_false (fun h => h_f h.2.2.2.2.2.1)
               simp only [dec_true h_t] at hc_t
               have HC_t := Lib.hid hc_t
               simp only [dec_true h_a] at hc_a
               have HC_a := Lib.hid hc_a
               simp only [dec_true h_s] at hc_s
               have HC_s := Lib.hid hc_s
               simp only [dec_false h_f] at hc_f
               have HC_f := Lib.hid hc_f
               have e_r0 : decide (x_release < (0 : Int)) = false := decide_eq_false (by omega)
               have e_R1 : decide ((32767 : Int) < x_release) = false := decide_eq_false (by omega)
               have e_m2 : decide (x_most < (0 : Int)) = false := decide_eq_false (by omega)
               have e_M3 : decide ((32767 : Int) < x_most) = false := decide_eq_false (by omega)
               clear hc_t hc_a hc_s hc_f hc_p hc_g hc_F hc_D ka5 ka6 ka7 ka8 ka9 ka10 ka11 ka12 z_title z_author z_start z_release z_most hF h_t h_a h_s h_r h_R h_m h_M h_f
               go_enter Tryz.func8, Tryz.ntmps8
               go_upto_region 1 with fail
               rw [HW1.out]
               obtain ⟨bq, bt0⟩ := hE.out W1 (Below.refl _ _)
               have HB0 := b0' W1
               obtain ⟨g0, g1, g2, g3, g4, g5⟩ := p5' bq.2
               go_wp2_with (first | (go_at_call 26; (with_reducible refine (HC_t.out W1 bt0).mono ?_); rintro e91 w1 ⟨rfl, hb1⟩; have HB1 := bt HB0 hb1; obtain ⟨bq1, bt1⟩ := hE.out w1 HB1; have g1_1 := e1' bq1.2; have g1_2 := e2' bq1.2; have g1_3 := e3' bq1.2; have g1_4 := e4' bq1.2; have g1_5 := e5' bq1.2) | (go_at_call 26; (with_reducible refine (HC_a.out w1 bt1).mono ?_); rintro e92 w2 ⟨rfl, hb2⟩; have HB2 := bt HB1 hb2; obtain ⟨bq2, bt2⟩ := hE.out w2 HB2; have g2_2 := e2' bq2.2; have g2_3 := e3' bq2.2; have g2_4 := e4' bq2.2; have g2_5 := e5' bq2.2) | (go_at_call 27; (with_reducible refine (HC_s.out w2 bt2).mono ?_); rintro e93 w3 ⟨rfl, hb3⟩; have HB3 := bt HB2 hb3; obtain ⟨bq3, bt3⟩ := hE.out w3 HB3; have g3_3 := e3' bq3.2; have g3_4 := e4' bq3.2; have g3_5 := e5' bq3.2) | (go_at_call 28; (with_reducible refine (HC_f.out w3 bt3).mono ?_); rintro e94 w4 ⟨rfl, hb4⟩; have HB4 := bt HB3 hb4; obtain ⟨bq4, bt4⟩ := hE.out w4 HB4))
               go_ret
               exact ⟨ret_bool hfin.out.symm, bt4⟩
             have hfin : Hid (dec (SrcR ⟨x_title, x_author, x_start, x_release, x_most, x_flags, x_props, x_globals, x_objects, x_verbs, x_rules, x_funcs, x_daemons⟩) = false) := dec_false (fun h => h_M h.2.2.2.2.1.2)
             simp only [dec_true h_t] at hc_t
             have HC_t := Lib.hid hc_t
             simp only [dec_true h_a] at hc_a
             have HC_a := Lib.hid hc_a
             simp only [dec_true h_s] at hc_s
             have HC_s := Lib.hid hc_s
             have e_r0 : decide (x_release < (0 : Int)) = false := decide_eq_false (by omega)
             have e_R1 : decide ((32767 : Int) < x_release) = false := decide_eq_false (by omega)
             have e_m2 : decide (x_most < (0 : Int)) = false := decide_eq_false (by omega)
             have e_M3 : decide ((32767 : Int) < x_most) = true := decide_eq_true (by omega)
             clear hc_t hc_a hc_s hc_f hc_p hc_g hc_F hc_D ka5 ka6 ka7 ka8 ka9 ka10 ka11 ka12 z_title z_author z_start z_release z_most hF h_t h_a h_s h_r h_R h_m h_M
             go_enter Tryz.func8, Tryz.ntmps8
             go_upto_region 1 with fail
             rw [HW1.out]
             obtain ⟨bq, bt0⟩ := hE.out W1 (Below.refl _ _)
             have HB0 := b0' W1
             obtain ⟨g0, g1, g2, g3, g4⟩ := p4' bq.2
             go_wp2_with (first | (go_at_call 26; (with_reducible refine (HC_t.out W1 bt0).mono ?_); rintro e91 w1 ⟨rfl, hb1⟩; have HB1 := bt HB0 hb1; obtain ⟨bq1, bt1⟩ := hE.out w1 HB1; have g1_1 := e1' bq1.2; have g1_2 := e2' bq1.2; have g1_3 := e3' bq1.2; have g1_4 := e4' bq1.2) | (go_at_call 26; (with_reducible refine (HC_a.out w1 bt1).mono ?_); rintro e92 w2 ⟨rfl, hb2⟩; have HB2 := bt HB1 hb2; obtain ⟨bq2, bt2⟩ := hE.out w2 HB2; have g2_2 := e2' bq2.2; have g2_3 := e3' bq2.2; have g2_4 := e4' bq2.2) | (go_at_call 27; (with_reducible refine (HC_s.out w2 bt2).mono ?_); rintro e93 w3 ⟨rfl, hb3⟩; have HB3 := bt HB2 hb3; obtain ⟨bq3, bt3⟩ := hE.out w3 HB3; have g3_3 := e3' bq3.2; have g3_4 := e4' bq3.2))
             go_ret
             exact ⟨ret_bool hfin.out.symm, bt3⟩
           have hfin : Hid (dec (SrcR ⟨x_title, x_author, x_start, x_release, x_most, x_flags, x_props, x_globals, x_objects, x_verbs, x_rules, x_funcs, x_daemons⟩) = false) := dec_false (fun h => h_m h.2.2.2.2.1.1)
           simp only [dec_true h_t] at hc_t
           have HC_t := Lib.hid hc_t
           simp only [dec_true h_a] at hc_a
           have HC_a := Lib.hid hc_a
           simp only [dec_true h_s] at hc_s
           have HC_s := Lib.hid hc_s
           have e_r0 : decide (x_release < (0 : Int)) = false := decide_eq_false (by omega)
           have e_R1 : decide ((32767 : Int) < x_release) = false := decide_eq_false (by omega)
           have e_m2 : decide (x_most < (0 : Int)) = true := decide_eq_true (by omega)
           clear hc_t hc_a hc_s hc_f hc_p hc_g hc_F hc_D ka5 ka6 ka7 ka8 ka9 ka10 ka11 ka12 z_title z_author z_start z_release z_most hF h_t h_a h_s h_r h_R h_m
           go_enter Tryz.func8, Tryz.ntmps8
           go_upto_region 1 with fail
           rw [HW1.out]
           obtain ⟨bq, bt0⟩ := hE.out W1 (Below.refl _ _)
           have HB0 := b0' W1
           obtain ⟨g0, g1, g2, g3, g4⟩ := p4' bq.2
           go_wp2_with (first | (go_at_call 26; (with_reducible refine (HC_t.out W1 bt0).mono ?_); rintro e91 w1 ⟨rfl, hb1⟩; have HB1 := bt HB0 hb1; obtain ⟨bq1, bt1⟩ := hE.out w1 HB1; have g1_1 := e1' bq1.2; have g1_2 := e2' bq1.2; have g1_3 := e3' bq1.2; have g1_4 := e4' bq1.2) | (go_at_call 26; (with_reducible refine (HC_a.out w1 bt1).mono ?_); rintro e92 w2 ⟨rfl, hb2⟩; have HB2 := bt HB1 hb2; obtain ⟨bq2, bt2⟩ := hE.out w2 HB2; have g2_2 := e2' bq2.2; have g2_3 := e3' bq2.2; have g2_4 := e4' bq2.2) | (go_at_call 27; (with_reducible refine (HC_s.out w2 bt2).mono ?_); rintro e93 w3 ⟨rfl, hb3⟩; have HB3 := bt HB2 hb3; obtain ⟨bq3, bt3⟩ := hE.out w3 HB3; have g3_3 := e3' bq3.2; have g3_4 := e4' bq3.2))
           go_ret
           exact ⟨ret_bool hfin.out.symm, bt3⟩
         have hfin : Hid (dec (SrcR ⟨x_title, x_author, x_start, x_release, x_most, x_flags, x_props, x_globals, x_objects, x_verbs, x_rules, x_funcs, x_daemons⟩) = false) := dec_false (fun h => h_R h.2.2.2.1.2)
         simp only [dec_true h_t] at hc_t
         have HC_t := Lib.hid hc_t
         simp only [dec_true h_a] at hc_a
         have HC_a := Lib.hid hc_a
         simp only [dec_true h_s] at hc_s
         have HC_s := Lib.hid hc_s
         have e_r0 : decide (x_release < (0 : Int)) = false := decide_eq_false (by omega)
         have e_R1 : decide ((32767 : Int) < x_release) = true := decide_eq_true (by omega)
         clear hc_t hc_a hc_s hc_f hc_p hc_g hc_F hc_D ka5 ka6 ka7 ka8 ka9 ka10 ka11 ka12 z_title z_author z_start z_release z_most hF h_t h_a h_s h_r h_R
         go_enter Tryz.func8, Tryz.ntmps8
         go_upto_region 1 with fail
         rw [HW1.out]
         obtain ⟨bq, bt0⟩ := hE.out W1 (Below.refl _ _)
         have HB0 := b0' W1
         obtain ⟨g0, g1, g2, g3⟩ := p3' bq.2
         go_wp2_with (first | (go_at_call 26; (with_reducible refine (HC_t.out W1 bt0).mono ?_); rintro e91 w1 ⟨rfl, hb1⟩; have HB1 := bt HB0 hb1; obtain ⟨bq1, bt1⟩ := hE.out w1 HB1; have g1_1 := e1' bq1.2; have g1_2 := e2' bq1.2; have g1_3 := e3' bq1.2) | (go_at_call 26; (with_reducible refine (HC_a.out w1 bt1).mono ?_); rintro e92 w2 ⟨rfl, hb2⟩; have HB2 := bt HB1 hb2; obtain ⟨bq2, bt2⟩ := hE.out w2 HB2; have g2_2 := e2' bq2.2; have g2_3 := e3' bq2.2) | (go_at_call 27; (with_reducible refine (HC_s.out w2 bt2).mono ?_); rintro e93 w3 ⟨rfl, hb3⟩; have HB3 := bt HB2 hb3; obtain ⟨bq3, bt3⟩ := hE.out w3 HB3; have g3_3 := e3' bq3.2))
         go_ret
         exact ⟨ret_bool hfin.out.symm, bt3⟩
       have hfin : Hid (dec (SrcR ⟨x_title, x_author, x_start, x_release, x_most, x_flags, x_props, x_globals, x_objects, x_verbs, x_rules, x_funcs, x_daemons⟩) = false) := dec_false (fun h => h_r h.2.2.2.1.1)
       simp only [dec_true h_t] at hc_t
       have HC_t := Lib.hid hc_t
       simp only [dec_true h_a] at hc_a
       have HC_a := Lib.hid hc_a
       simp only [dec_true h_s] at hc_s
       have HC_s := Lib.hid hc_s
       have e_r0 : decide (x_release < (0 : Int)) = true := decide_eq_true (by omega)
       clear hc_t hc_a hc_s hc_f hc_p hc_g hc_F hc_D ka5 ka6 ka7 ka8 ka9 ka10 ka11 ka12 z_title z_author z_start z_release z_most hF h_t h_a h_s h_r
       go_enter Tryz.func8, Tryz.ntmps8
       go_upto_region 1 with fail
       rw [HW1.out]
       obtain ⟨bq, bt0⟩ := hE.out W1 (Below.refl _ _)
       have HB0 := b0' W1
       obtain ⟨g0, g1, g2, g3⟩ := p3' bq.2
       go_wp2_with (first | (go_at_call 26; (with_reducible refine (HC_t.out W1 bt0).mono ?_); rintro e91 w1 ⟨rfl, hb1⟩; have HB1 := bt HB0 hb1; obtain ⟨bq1, bt1⟩ := hE.out w1 HB1; have g1_1 := e1' bq1.2; have g1_2 := e2' bq1.2; have g1_3 := e3' bq1.2) | (go_at_call 26; (with_reducible refine (HC_a.out w1 bt1).mono ?_); rintro e92 w2 ⟨rfl, hb2⟩; have HB2 := bt HB1 hb2; obtain ⟨bq2, bt2⟩ := hE.out w2 HB2; have g2_2 := e2' bq2.2; have g2_3 := e3' bq2.2) | (go_at_call 27; (with_reducible refine (HC_s.out w2 bt2).mono ?_); rintro e93 w3 ⟨rfl, hb3⟩; have HB3 := bt HB2 hb3; obtain ⟨bq3, bt3⟩ := hE.out w3 HB3; have g3_3 := e3' bq3.2))
       go_ret
       exact ⟨ret_bool hfin.out.symm, bt3⟩
     have hfin : Hid (dec (SrcR ⟨x_title, x_author, x_start, x_release, x_most, x_flags, x_props, x_globals, x_objects, x_verbs, x_rules, x_funcs, x_daemons⟩) = false) := dec_false (fun h => h_s h.2.2.1)
     simp only [dec_true h_t] at hc_t
     have HC_t := Lib.hid hc_t
     simp only [dec_true h_a] at hc_a
     have HC_a := Lib.hid hc_a
     simp only [dec_false h_s] at hc_s
     have HC_s := Lib.hid hc_s
     clear hc_t hc_a hc_s hc_f hc_p hc_g hc_F hc_D ka5 ka6 ka7 ka8 ka9 ka10 ka11 ka12 z_title z_author z_start z_release z_most hF h_t h_a h_s
     go_enter Tryz.func8, Tryz.ntmps8
     go_upto_region 1 with fail
     rw [HW1.out]
     obtain ⟨bq, bt0⟩ := hE.out W1 (Below.refl _ _)
     have HB0 := b0' W1
     obtain ⟨g0, g1, g2⟩ := p2' bq.2
     go_wp2_with (first | (go_at_call 26; (with_reducible refine (HC_t.out W1 bt0).mono ?_); rintro e91 w1 ⟨rfl, hb1⟩; have HB1 := bt HB0 hb1; obtain ⟨bq1, bt1⟩ := hE.out w1 HB1; have g1_1 := e1' bq1.2; have g1_2 := e2' bq1.2) | (go_at_call 26; (with_reducible refine (HC_a.out w1 bt1).mono ?_); rintro e92 w2 ⟨rfl, hb2⟩; have HB2 := bt HB1 hb2; obtain ⟨bq2, bt2⟩ := hE.out w2 HB2; have g2_2 := e2' bq2.2) | (go_at_call 27; (with_reducible refine (HC_s.out w2 bt2).mono ?_); rintro e93 w3 ⟨rfl, hb3⟩; have HB3 := bt HB2 hb3; obtain ⟨bq3, bt3⟩ := hE.out w3 HB3))
     go_ret
     exact ⟨ret_bool hfin.out.symm, bt3⟩
   have hfin : Hid (dec (SrcR ⟨x_title, x_author, x_start, x_release, x_most, x_flags, x_props, x_globals, x_objects, x_verbs, x_rules, x_funcs, x_daemons⟩) = false) := dec_false (fun h => h_a h.2.1)
   simp only [dec_true h_t] at hc_t
   have HC_t := Lib.hid hc_t
   simp only [dec_false h_a] at hc_a
   have HC_a := Lib.hid hc_a
   clear hc_t hc_a hc_s hc_f hc_p hc_g hc_F hc_D ka5 ka6 ka7 ka8 ka9 ka10 ka11 ka12 z_title z_author z_start z_release z_most hF h_t h_a
   go_enter Tryz.func8, Tryz.ntmps8
   go_upto_region 1 with fail
   rw [HW1.out]
   obtain ⟨bq, bt0⟩ := hE.out W1 (Below.refl _ _)
   have HB0 := b0' W1
   obtain ⟨g0, g1⟩ := p1' bq.2
   go_wp2_with (first | (go_at_call 26; (with_reducible refine (HC_t.out W1 bt0).mono ?_); rintro e91 w1 ⟨rfl, hb1⟩; have HB1 := bt HB0 hb1; obtain ⟨bq1, bt1⟩ := hE.out w1 HB1; have g1_1 := e1' bq1.2) | (go_at_call 26; (with_reducible refine (HC_a.out w1 bt1).mono ?_); rintro e92 w2 ⟨rfl, hb2⟩; have HB2 := bt HB1 hb2; obtain ⟨bq2, bt2⟩ := hE.out w2 HB2))
   go_ret
   exact ⟨ret_bool hfin.out.symm, bt2⟩
 have hfin : Hid (dec (SrcR ⟨x_title, x_author, x_start, x_release, x_most, x_flags, x_props, x_globals, x_objects, x_verbs, x_rules, x_funcs, x_daemons⟩) = false) := dec_false (fun h => h_t h.1)
 simp only [dec_false h_t] at hc_t
 have HC_t := Lib.hid hc_t
 clear hc_t hc_a hc_s hc_f hc_p hc_g hc_F hc_D ka5 ka6 ka7 ka8 ka9 ka10 ka11 ka12 z_title z_author z_start z_release z_most hF h_t
 go_enter Tryz.func8, Tryz.ntmps8
 go_upto_region 1 with fail
 rw [HW1.out]
 obtain ⟨bq, bt0⟩ := hE.out W1 (Below.refl _ _)
 have HB0 := b0' W1
 have g0 := e0' bq.2
 go_wp2_with (go_at_call 26; (with_reducible refine (HC_t.out W1 bt0).mono ?_); rintro e91 w1 ⟨rfl, hb1⟩; have HB1 := bt HB0 hb1; obtain ⟨bq1, bt1⟩ := hE.out w1 HB1)
 go_ret
 exact ⟨ret_bool hfin.out.symm, bt1⟩
end Go.Proofs.YtdeecfkipknkbaaGreatDoor
