/- The reference's Right of verbs. Printed by gen-show8.py. -/
import Derived.Test.YtdeecfkipknkbaaGreatDoorRrW
import Derived.Laws.EntriesVeiled
namespace Go.Proofs.YtdeecfkipknkbaaGreatDoor
set_option maxRecDepth 100000
set_option maxHeartbeats 4000000
open Go.RowKit
theorem rrVerb_calls (F : Nat → Prop) (w : World) (x : VerbD) (cs : List Value) (hF : Inn F w) (hx : Holds.verb.R F w x cs) :
 Calls Tryz.prog 32 #[.agg cs.toArray] w (Gives w (.bool (dec (VerbR x)))) := by
 obtain ⟨x_name, x_isMeta, x_lines⟩ := x
 obtain ⟨z_name, va2, rfl, ka2⟩ := hx
 simp only at ka2 z_name
 obtain ⟨da2, fa2, rfl⟩ := ka2.shape
 obtain ⟨W1, hW1⟩ : ∃ W1, w.alloc (.cells #[.string x_name, .bool x_isMeta, .slice da2 x_lines.length fa2] 67) = W1 := ⟨_, rfl⟩
 have hs1 := bs' hW1
 have hb1 := ba' hW1
 have hbx1 := bn' hW1
 have hE : Hid (∀ W, Below W1.heap.size W1 W → BoxAt W (w.heap.size) [.string x_name, .bool x_isMeta, .slice da2 x_lines.length fa2] ∧ Below w.heap.size w W) := fun W h2 => ⟨hbx1.below h2 (by omega), (bt hb1 h2)⟩
 have HZ0 := Lib.hid hs1
 have HW1 := Lib.hid hW1
 clear hW1 hs1 hb1 hbx1
 have hc_n := fun (W : World) (hW : Below w.heap.size w W) => rrName_calls x_name W z_name
 by_cases h_n : IsNm x_name
 · by_cases h_z : 0 < x_lines.length
   · by_cases h_m : (x_lines.length : Int) ≤ (8 : Int)
     · have HH_n := Lib.hid h_n
       have HH_z := Lib.hid h_z
       have HH_m := Lib.hid h_m
       have HF := Lib.hid hF
       simp only [dec_true h_n] at hc_n
       have HC_n := Lib.hid hc_n
       have e_z0 : decide ((x_lines.length : Int) < 1) = false := decide_eq_false (by omega)
       have e_m1 : decide ((8 : Int) < (x_lines.length : Int)) = false := decide_eq_false (by omega)
       obtain ⟨_, _, he, hl2, hc2, h2⟩ := ka2.opn
       cases he
       unfold maxLen at hc2
       clear hc_n ka2 z_name hF h_n h_z h_m
       go_enter Tryz.func32, Tryz.ntmps32
       go_upto_region 1 with fail
       rw [HW1.out]
       obtain ⟨bq, bt0⟩ := hE.out W1 (Below.refl _ _)
       have HB0 := b0' W1
       have g0 := e0' bq.2
       have g2 := e2' bq.2
       go_wp2_with (go_at_call 27; (with_reducible refine (HC_n.out W1 bt0).mono ?_); rintro e91 w1 ⟨rfl, hb1⟩; have HB1 := bt HB0 hb1; obtain ⟨bq1, bt1⟩ := hE.out w1 HB1; have g1_2 := e2' bq1.2)
       go_loopw [3] (fun i wr => ∃ k : Nat, k ≤ x_lines.length ∧ i = .int .i64 k ∧ Hid (∀ x ∈ x_lines.take k, LineR x) ∧ Below W1.heap.size W1 wr) (fun i _ => x_lines.length - (intOf i).toNat)
       case atStart => exact ⟨0, Nat.zero_le _, rfl, (by show ∀ x ∈ x_lines.take 0, LineR x; rw [List.take_zero]; exact fun _ h => (by cases h)), HB1⟩
       case round =>
        obtain ⟨k, hk, rfl, hq, hB⟩ := hrel
        obtain ⟨bq, hqt⟩ := hE.out wr hB
        have u2 := e2' bq.2
        by_cases hlt : k < x_lines.length
        · obtain ⟨b, off, rfl, hFb, hel⟩ := h2 (by omega)
          obtain ⟨cs, hx, -, hcell⟩ := hel wr (hqt.block b (HF.out b hFb)) k hlt
          obtain ⟨x, hxe⟩ : ∃ x, x_lines[k] = x := ⟨_, rfl⟩
          rw [hxe] at hx
          have hki : (k : Int) < (x_lines.length : Int) := by omega
          have hki0 : (0 : Int) ≤ (k : Int) := by omega
          have HB := Lib.hid hB
          have HQT := Lib.hid hqt
          have hnx : Hid (LineR x → ∀ y ∈ x_lines.take (k + 1), LineR y) := fun h y hy => by
           rw [List.take_succ_eq_append_getElem hlt, hxe] at hy
           rcases List.mem_append.1 hy with h1 | h1
           · exact hq.out y h1
           rw [List.mem_singleton.1 h1]; exact h
          have hno : Hid (¬ LineR x → dec (VerbR ⟨x_name, x_isMeta, x_lines⟩) = false) := fun h => dec_false (fun h2 => h (by have h3 := h2.2.2.2 _ (List.getElem_mem hlt); rw [hxe] at h3; exact h3))
          clear hq hxe hB hqt bq
          obtain ⟨v, rfl, kx⟩ := hx
          obtain ⟨a2, cap2, rfl, hl3, hc3, h3⟩ := kx.opn
          have g0 := hcell 0 _ rfl
          simp only [Nat.add_zero, Nat.mul_one] at g0
          unfold maxLen at hc3
          clear hel hcell kx hFb
          by_cases hm : 0 < x.length
          rotate_left
          · have hfin := Lib.hid (hno.out (fun h => hm h.1))
            have e0 : decide ((x.length : Int) < 1) = true := decide_eq_true (by omega)
            clear hnx hno hm h3
            go_wp2
            go_ret
            exact ⟨ret_bool hfin.out.symm, HQT.out⟩
          have e0 : decide ((x.length : Int) < 1) = false := decide_eq_false (by omega)
          by_cases hm8 : (x.length : Int) ≤ 8
          rotate_left
          · have hfin := Lib.hid (hno.out (fun h => hm8 h.2.1))
            have e1 : decide ((8 : Int) < (x.length : Int)) = true := decide_eq_true (by omega)
            clear hnx hno hm h3
            go_wp2
            go_ret
            exact ⟨ret_bool hfin.out.symm, HQT.out⟩
          have e1 : decide ((8 : Int) < (x.length : Int)) = false := decide_eq_false (by omega)
          have hdone : Hid ((∀ s ∈ x, SlotR s) → ∀ y ∈ x_lines.take (k + 1), LineR y) := fun h => hnx.out ⟨hm, hm8, h⟩
          have hfail : Hid (∀ s ∈ x, ¬ SlotR s → dec (VerbR ⟨x_name, x_isMeta, x_lines⟩) = false) := fun s hs hn => hno.out (fun h => hn (h.2.2 s hs))
          clear hm hm8 hnx hno
          go_wp2
          go_loopw [5] (fun i wr => ∃ k2 : Nat, k2 ≤ x.length ∧ i = .int .i64 k2 ∧ Hid (∀ s ∈ x.take k2, SlotR s) ∧ Below W1.heap.size W1 wr) (fun i _ => x.length - (intOf i).toNat)
          case atStart => exact ⟨0, Nat.zero_le _, rfl, (by show ∀ s ∈ x.take 0, SlotR s; rw [List.take_zero]; exact fun _ h => (by cases h)), HB.out⟩
          case round =>
           obtain ⟨k2, hk2, rfl, hq2, hB2⟩ := hrel
           by_cases hlt2 : k2 < x.length
           · obtain ⟨b2, off2, rfl, hFb2, hel2⟩ := h3 (by omega)
             obtain ⟨bq2, hqt2⟩ := hE.out wr hB2
             obtain ⟨ds, hy, -, hdell⟩ := hel2 wr (hqt2.block b2 (HF.out b2 hFb2)) k2 hlt2
             obtain ⟨y, hye⟩ : ∃ y, x[k2] = y := ⟨_, rfl⟩
             rw [hye] at hy
             obtain ⟨q_kind, q_words⟩ := y
             obtain ⟨-, vq1, rfl, kq1⟩ := hy
             simp only at kq1
             obtain ⟨dq1, fq1, rfl⟩ := kq1.shape
             have g0 := hdell 0 _ rfl
             have g1 := hdell 1 _ rfl
             simp only [Nat.add_zero] at g0
             have hki2 : (k2 : Int) < (x.length : Int) := by omega
             have hki20 : (0 : Int) ≤ (k2 : Int) := by omega
             have HBI := Lib.hid hB2
             have HQT2 := Lib.hid hqt2
             have hnx : Hid (SlotR ⟨q_kind, q_words⟩ → ∀ y ∈ x.take (k2 + 1), SlotR y) := fun h y hy => by
              rw [List.take_succ_eq_append_getElem hlt2, hye] at hy
              rcases List.mem_append.1 hy with h1 | h1
              · exact hq2.out y h1
              rw [List.mem_singleton.1 h1]; exact h
             have hno : Hid (¬ SlotR ⟨q_kind, q_words⟩ → dec (VerbR ⟨x_name, x_isMeta, x_lines⟩) = false) := fun h => hfail.out _ (List.getElem_mem hlt2) (by rw [hye]; exact h)
             have hc_w := fun (W : World) (hW : Below wr.heap.size wr W) => rrTexts_calls F W q_words 4 _ (HF.out.below (bt HQT2.out hW)) (RdL.below kq1 HF.out (bt HQT2.out hW) (Nat.le_refl _))
             clear hel2 hdell hye hB2 hqt2 bq2 hq2 h3 kq1 hfail hdone hFb2
             by_cases h_l : (1 : Int) ≤ q_kind
             · by_cases h_h : q_kind ≤ (5 : Int)
               · by_cases h_w : TextsR 4 q_words
                 · by_cases h_k : q_kind = 1
                   · by_cases h_z : 0 < q_words.length
                     · have hnx2 := Lib.hid (hnx.out ⟨h_l, h_h, ⟨fun _ => h_z, fun _ => h_k⟩, h_w⟩)
                       simp only [dec_true h_w] at hc_w
                       have HC_w := Lib.hid hc_w
                       have e_l0 : decide (q_kind < (1 : Int)) = false := decide_eq_false (by omega)
                       have e_h1 : decide ((5 : Int) < q_kind) = false := decide_eq_false (by omega)
                       have e_k2 : (q_kind == 1) = true := by simpa using h_k
                       have e_z3 : decide ((0 : Int) < (q_words.length : Int)) = true := decide_eq_true (by omega)
                       have e_z4 : decide (0 < q_words.length) = true := decide_eq_true (by omega)
                       clear hc_w hnx hno h_l h_h h_w h_k h_z
                       have HB0 := b0' wr
                       go_wp2_with (go_at_call 77; (with_reducible refine (HC_w.out wr HB0).mono ?_); rintro e91 w1 ⟨rfl, hb1⟩; have HB1 := bt HB0 hb1; have g1_0 := (HB1.cell (World.block_lt_of_cell? _ _ g0)).trans g0; have g1_1 := (HB1.cell (World.block_lt_of_cell? _ _ g1)).trans g1)
                       go_roundw
                       case rel => exact ⟨k2 + 1, by omega, by go_num, hnx2.out, bt HBI.out HB1⟩
                       case measure => simp [intOf]; omega
                     have hfin := Lib.hid (hno.out (fun h => h_z (h.2.2.1.1 h_k)))
                     simp only [dec_true h_w] at hc_w
                     have HC_w := Lib.hid hc_w
                     have e_l0 : decide (q_kind < (1 : Int)) = false := decide_eq_false (by omega)
                     have e_h1 : decide ((5 : Int) < q_kind) = false := decide_eq_false (by omega)
                     have e_k2 : (q_kind == 1) = true := by simpa using h_k
                     have e_z3 : decide ((0 : Int) < (q_words.length : Int)) = false := decide_eq_false (by omega)
                     have e_z4 : decide (0 < q_words.length) = false := decide_eq_false (by omega)
                     clear hc_w hnx hno h_l h_h h_w h_k h_z
                     have HB0 := b0' wr
                     go_wp2_with (go_at_call 77; (with_reducible refine (HC_w.out wr HB0).mono ?_); rintro e91 w1 ⟨rfl, hb1⟩; have HB1 := bt HB0 hb1; have g1_0 := (HB1.cell (World.block_lt_of_cell? _ _ g0)).trans g0; have g1_1 := (HB1.cell (World.block_lt_of_cell? _ _ g1)).trans g1)
                     go_ret
                     exact ⟨ret_bool hfin.out.symm, (hE.out _ (bt HBI.out HB1)).2⟩
                   by_cases h_z : 0 < q_words.length
                   · have hfin := Lib.hid (hno.out (fun h => h_k (h.2.2.1.2 h_z)))
                     simp only [dec_true h_w] at hc_w
                     have HC_w := Lib.hid hc_w
                     have e_l0 : decide (q_kind < (1 : Int)) = false := decide_eq_false (by omega)
                     have e_h1 : decide ((5 : Int) < q_kind) = false := decide_eq_false (by omega)
                     have e_k2 : (q_kind == 1) = false := by simpa using h_k
                     have e_z3 : decide ((0 : Int) < (q_words.length : Int)) = true := decide_eq_true (by omega)
                     have e_z4 : decide (0 < q_words.length) = true := decide_eq_true (by omega)
                     clear hc_w hnx hno h_l h_h h_w h_k h_z
                     have HB0 := b0' wr
                     go_wp2_with (go_at_call 77; (with_reducible refine (HC_w.out wr HB0).mono ?_); rintro e91 w1 ⟨rfl, hb1⟩; have HB1 := bt HB0 hb1; have g1_0 := (HB1.cell (World.block_lt_of_cell? _ _ g0)).trans g0; have g1_1 := (HB1.cell (World.block_lt_of_cell? _ _ g1)).trans g1)
                     go_ret
                     exact ⟨ret_bool hfin.out.symm, (hE.out _ (bt HBI.out HB1)).2⟩
                   have hnx2 := Lib.hid (hnx.out ⟨h_l, h_h, ⟨fun h => absurd h h_k, fun h => absurd h h_z⟩, h_w⟩)
                   simp only [dec_true h_w] at hc_w
                   have HC_w := Lib.hid hc_w
                   have e_l0 : decide (q_kind < (1 : Int)) = false := decide_eq_false (by omega)
                   have e_h1 : decide ((5 : Int) < q_kind) = false := decide_eq_false (by omega)
                   have e_k2 : (q_kind == 1) = false := by simpa using h_k
                   have e_z3 : decide ((0 : Int) < (q_words.length : Int)) = false := decide_eq_false (by omega)
                   have e_z4 : decide (0 < q_words.length) = false := decide_eq_false (by omega)
                   clear hc_w hnx hno h_l h_h h_w h_k h_z
                   have HB0 := b0' wr
                   go_wp2_with (go_at_call 77; (with_reducible refine (HC_w.out wr HB0).mono ?_); rintro e91 w1 ⟨rfl, hb1⟩; have HB1 := bt HB0 hb1; have g1_0 := (HB1.cell (World.block_lt_of_cell? _ _ g0)).trans g0; have g1_1 := (HB1.cell (World.block_lt_of_cell? _ _ g1)).trans g1)
                   go_roundw
                   case rel => exact ⟨k2 + 1, by omega, by go_num, hnx2.out, bt HBI.out HB1⟩
                   case measure => simp [intOf]; omega
                 have hfin := Lib.hid (hno.out (fun h => h_w h.2.2.2))
                 simp only [dec_false h_w] at hc_w
                 have HC_w := Lib.hid hc_w
                 have e_l0 : decide (q_kind < (1 : Int)) = false := decide_eq_false (by omega)
                 have e_h1 : decide ((5 : Int) < q_kind) = false := decide_eq_false (by omega)
                 clear hc_w hnx hno h_l h_h h_w
                 have HB0 := b0' wr
                 go_wp2_with (go_at_call 77; (with_reducible refine (HC_w.out wr HB0).mono ?_); rintro e91 w1 ⟨rfl, hb1⟩; have HB1 := bt HB0 hb1)
                 go_ret
                 exact ⟨ret_bool hfin.out.symm, (hE.out _ (bt HBI.out HB1)).2⟩
               have hfin := Lib.hid (hno.out (fun h => h_h h.2.1))
               have e_l0 : decide (q_kind < (1 : Int)) = false := decide_eq_false (by omega)
               have e_h1 : decide ((5 : Int) < q_kind) = true := decide_eq_true (by omega)
               clear hc_w hnx hno h_l h_h
               have HB0 := b0' wr
               go_wp2_with fail
               go_ret
               exact ⟨ret_bool hfin.out.symm, (hE.out _ (bt HBI.out HB0)).2⟩
             have hfin := Lib.hid (hno.out (fun h => h_l h.1))
             have e_l0 : decide (q_kind < (1 : Int)) = true := decide_eq_true (by omega)
             clear hc_w hnx hno h_l
             have HB0 := b0' wr
             go_wp2_with fail
             go_ret
             exact ⟨ret_bool hfin.out.symm, (hE.out _ (bt HBI.out HB0)).2⟩
           have : k2 = x.length := by omega
           subst this
           have hnx2 : Hid (∀ y ∈ x_lines.take (k + 1), LineR y) := hdone.out (fun s hs => hq2.out s (by rw [List.take_length]; exact hs))
           have hki2 : decide ((x.length : Int) < (x.length : Int)) = false := by simp
           have HBI := Lib.hid hB2
           clear hq2 h3 hfail hdone hB2
           go_wp2
           go_roundw
           case rel => exact ⟨k + 1, by omega, by go_num, hnx2.out, HBI.out⟩
           case measure => simp [intOf]; omega
        have : k = x_lines.length := by omega
        subst this
        have hall_lines : Hid (∀ x ∈ x_lines, LineR x) := fun x hx => hq.out x (by rw [List.take_length]; exact hx)
        have hki : decide ((x_lines.length : Int) < (x_lines.length : Int)) = false := by simp
        clear hq h2
        have hfin : Hid (dec (VerbR ⟨x_name, x_isMeta, x_lines⟩) = true) := dec_true ⟨HH_n.out, HH_z.out, HH_m.out, hall_lines.out⟩
        go_wp2
        go_ret
        exact ⟨ret_bool hfin.out.symm, hqt⟩
     have hfin : Hid (dec (VerbR ⟨x_name, x_isMeta, x_lines⟩) = false) := dec_false (fun h => h_m h.2.2.1)
     simp only [dec_true h_n] at hc_n
     have HC_n := Lib.hid hc_n
     have e_z0 : decide ((x_lines.length : Int) < 1) = false := decide_eq_false (by omega)
     have e_m1 : decide ((8 : Int) < (x_lines.length : Int)) = true := decide_eq_true (by omega)
     clear hc_n ka2 z_name hF h_n h_z h_m
     go_enter Tryz.func32, Tryz.ntmps32
     go_upto_region 1 with fail
     rw [HW1.out]
     obtain ⟨bq, bt0⟩ := hE.out W1 (Below.refl _ _)
     have HB0 := b0' W1
     have g0 := e0' bq.2
     have g2 := e2' bq.2
     go_wp2_with (go_at_call 27; (with_reducible refine (HC_n.out W1 bt0).mono ?_); rintro e91 w1 ⟨rfl, hb1⟩; have HB1 := bt HB0 hb1; obtain ⟨bq1, bt1⟩ := hE.out w1 HB1; have g1_2 := e2' bq1.2)
     go_ret
     exact ⟨ret_bool hfin.out.symm, bt1⟩
   have hfin : Hid (dec (VerbR ⟨x_name, x_isMeta, x_lines⟩) = false) := dec_false (fun h => h_z h.2.1)
   simp only [dec_true h_n] at hc_n
   have HC_n := Lib.hid hc_n
   have e_z0 : decide ((x_lines.length : Int) < 1) = true := decide_eq_true (by omega)
   clear hc_n ka2 z_name hF h_n h_z
   go_enter Tryz.func32, Tryz.ntmps32
   go_upto_region 1 with fail
   rw [HW1.out]
   obtain ⟨bq, bt0⟩ := hE.out W1 (Below.refl _ _)
   have HB0 := b0' W1
   have g0 := e0' bq.2
   have g2 := e2' bq.2
   go_wp2_with (go_at_call 27; (with_reducible refine (HC_n.out W1 bt0).mono ?_); rintro e91 w1 ⟨rfl, hb1⟩; have HB1 := bt HB0 hb1; obtain ⟨bq1, bt1⟩ := hE.out w1 HB1; have g1_2 := e2' bq1.2)
   go_ret
   exact ⟨ret_bool hfin.out.symm, bt1⟩
 have hfin : Hid (dec (VerbR ⟨x_name, x_isMeta, x_lines⟩) = false) := dec_false (fun h => h_n h.1)
 simp only [dec_false h_n] at hc_n
 have HC_n := Lib.hid hc_n
 clear hc_n ka2 z_name hF h_n
 go_enter Tryz.func32, Tryz.ntmps32
 go_upto_region 1 with fail
 rw [HW1.out]
 obtain ⟨bq, bt0⟩ := hE.out W1 (Below.refl _ _)
 have HB0 := b0' W1
 have g0 := e0' bq.2
 go_wp2_with (go_at_call 27; (with_reducible refine (HC_n.out W1 bt0).mono ?_); rintro e91 w1 ⟨rfl, hb1⟩; have HB1 := bt HB0 hb1; obtain ⟨bq1, bt1⟩ := hE.out w1 HB1)
 go_ret
 exact ⟨ret_bool hfin.out.symm, bt1⟩
end Go.Proofs.YtdeecfkipknkbaaGreatDoor
