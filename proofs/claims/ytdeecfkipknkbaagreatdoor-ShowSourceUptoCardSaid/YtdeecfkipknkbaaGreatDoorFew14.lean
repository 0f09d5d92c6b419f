/- The law's blocks and few, of any source: they return something. Printed by gen-show11.py. -/
import Derived.Test.YtdeecfkipknkbaaGreatDoorSizeAny14
import Derived.IntWalk
import Derived.Test.YtdeecfkipknkbaaGreatDoorPart8a88c5f8
import Derived.Test.YtdeecfkipknkbaaGreatDoorPart01a3ceaf
namespace Go.Proofs.YtdeecfkipknkbaaGreatDoor
set_option maxRecDepth 100000
set_option maxHeartbeats 4000000
open Go.RowKit
def GivesN (w : World) (e : Ending) (w' : World) : Prop := ∃ n : Int, e = .returned (.int .i64 n) ∧ Below w.heap.size w w'
def GivesB (w : World) (e : Ending) (w' : World) : Prop := ∃ b : Bool, e = .returned (.bool b) ∧ Below w.heap.size w w'
theorem blocks_calls (F : Nat → Prop) (w : World) (x : SrcD) (cs : List Value) (hF : Inn F w) (hx : Holds.src.R F w x cs) :
 Calls Tryz.prog 25 #[.agg cs.toArray] w (GivesN w) := by
 obtain ⟨x_title, x_author, x_start, x_release, x_most, x_flags, x_props, x_globals, x_objects, x_verbs, x_rules, x_funcs, x_daemons⟩ := x
 obtain ⟨z_title, z_author, z_start, z_release, z_most, va5, va6, va7, va8, va9, va10, va11, va12, rfl, ka5, ka6, ka7, ka8, ka9, ka10, ka11, ka12⟩ := hx
 simp only at ka5 ka6 ka7 ka8 ka9 ka10 ka11 ka12 z_title z_author z_start z_release z_most
 obtain ⟨da5, fa5, rfl⟩ := ka5.shape
 obtain ⟨da6, fa6, rfl⟩ := ka6.shape
 obtain ⟨da7, fa7, rfl⟩ := ka7.shape
 obtain ⟨da8, fa8, rfl⟩ := ka8.shape
 obtain ⟨da9, fa9, rfl⟩ := ka9.shape
 obtain ⟨da10, fa10, rfl⟩ := ka10.shape
 obtain ⟨da11, fa11, rfl⟩ := ka11.shape
 obtain ⟨da12, fa12, rfl⟩ := ka12.shape
 obtain ⟨_, _, he, hl10, hc10, h10⟩ := ka10.opn
 cases he
 unfold maxLen at hc10
 obtain ⟨_, _, he, hl11, hc11, h11⟩ := ka11.opn
 cases he
 unfold maxLen at hc11
 obtain ⟨_, _, he, hl12, hc12, h12⟩ := ka12.opn
 cases he
 unfold maxLen at hc12
 obtain ⟨W1, hW1⟩ : ∃ W1, w.alloc (.cells #[.string x_title, .string x_author, .string x_start, .int .i64 x_release, .int .i64 x_most, .slice da5 x_flags.length fa5, .slice da6 x_props.length fa6, .slice da7 x_globals.length fa7, .slice da8 x_objects.length fa8, .slice da9 x_verbs.length fa9, .slice da10 x_rules.length fa10, .slice da11 x_funcs.length fa11, .slice da12 x_daemons.length fa12] 29) = W1 := ⟨_, rfl⟩
 have hs1 := bs' hW1
 have hb1 := ba' hW1
 have hbx1 := bn' hW1
 have hE : Hid (∀ W, Below W1.heap.size W1 W → BoxAt W (w.heap.size) [.string x_title, .string x_author, .string x_start, .int .i64 x_release, .int .i64 x_most, .slice da5 x_flags.length fa5, .slice da6 x_props.length fa6, .slice da7 x_globals.length fa7, .slice da8 x_objects.length fa8, .slice da9 x_verbs.length fa9, .slice da10 x_rules.length fa10, .slice da11 x_funcs.length fa11, .slice da12 x_daemons.length fa12] ∧ Below w.heap.size w W) := fun W h2 => ⟨hbx1.below h2 (by omega), (bt hb1 h2)⟩
 have HZ0 := Lib.hid hs1
 have HW1 := Lib.hid hW1
 clear hW1 hs1 hb1 hbx1
 have HF := Lib.hid hF
 clear hF ka5 ka6 ka7 ka8 ka9 ka10 ka11 ka12 z_title z_author z_start z_release z_most
 go_enter Tryz.func25, Tryz.ntmps25
 go_upto_region 1 with fail
 rw [HW1.out]
 obtain ⟨bq, bt0⟩ := hE.out W1 (Below.refl _ _)
 have HB0 := b0' W1
 have g10 := e10' bq.2
 go_wp2
 go_loopw [3, 4] (fun n i wr => ∃ (m : Int) (k : Nat), k ≤ x_rules.length ∧ n = .int .i64 m ∧ i = .int .i64 k ∧ Below W1.heap.size W1 wr) (fun _ i _ => x_rules.length - (intOf i).toNat)
 case atStart => exact ⟨_, 0, Nat.zero_le _, rfl, rfl, HB0⟩
 case round =>
  obtain ⟨m, k, hk, rfl, rfl, hB⟩ := hrel
  obtain ⟨bq, hqt⟩ := hE.out wr hB
  have u10 := e10' bq.2
  by_cases hlt : k < x_rules.length
  · obtain ⟨b, off, rfl, hFb, hel⟩ := h10 (by omega)
    obtain ⟨cs, hx, -, hcell⟩ := hel wr (hqt.block b (HF.out b hFb)) k hlt
    obtain ⟨x, hxe⟩ : ∃ x, x_rules[k] = x := ⟨_, rfl⟩
    rw [hxe] at hx
    have hx2 := hx
    obtain ⟨-, -, -, -, ve4, ve5, rfl, ke4, ke5⟩ := hx2
    obtain ⟨de4, fe4, rfl⟩ := ke4.shape
    obtain ⟨de5, fe5, rfl⟩ := ke5.shape
    have g5 := hcell 5 _ rfl
    have hki : (k : Int) < (x_rules.length : Int) := by omega
    have hki0 : (0 : Int) ≤ (k : Int) := by omega
    obtain ⟨q, hq⟩ := sizeBA_calls x.body
    have HC := Lib.hid (hq F wr _ (HF.out.below hqt) (Sts.below ke5 HF.out hqt (Nat.le_refl _)))
    have HB := Lib.hid hB
    clear hel hcell hx hxe hB hqt bq hq ke4 ke5
    go_wp2_with (go_at_call 55; (with_reducible refine HC.out.mono ?_); rintro e w3 ⟨rfl, hb3⟩)
    go_roundw
    case rel => exact ⟨_, k + 1, by omega, rfl, by go_num, bt HB.out hb3⟩
    case measure => simp [intOf]; omega
  have : k = x_rules.length := by omega
  subst this
  have hki : decide ((x_rules.length : Int) < (x_rules.length : Int)) = false := by simp
  clear h10
  have u11' := e11' bq.2
  go_wp2
  go_loopw [3, 5] (fun n i wr => ∃ (m : Int) (k : Nat), k ≤ x_funcs.length ∧ n = .int .i64 m ∧ i = .int .i64 k ∧ Below W1.heap.size W1 wr) (fun _ i _ => x_funcs.length - (intOf i).toNat)
  case atStart => exact ⟨_, 0, Nat.zero_le _, rfl, rfl, hB⟩
  case round =>
   obtain ⟨m, k, hk, rfl, rfl, hB⟩ := hrel
   obtain ⟨bq, hqt⟩ := hE.out wr hB
   have u11 := e11' bq.2
   by_cases hlt : k < x_funcs.length
   · obtain ⟨b, off, rfl, hFb, hel⟩ := h11 (by omega)
     obtain ⟨cs, hx, -, hcell⟩ := hel wr (hqt.block b (HF.out b hFb)) k hlt
     obtain ⟨x, hxe⟩ : ∃ x, x_funcs[k] = x := ⟨_, rfl⟩
     rw [hxe] at hx
     have hx2 := hx
     obtain ⟨-, ve1, ve2, rfl, ke1, ke2⟩ := hx2
     obtain ⟨de1, fe1, rfl⟩ := ke1.shape
     obtain ⟨de2, fe2, rfl⟩ := ke2.shape
     have g2 := hcell 2 _ rfl
     have hki : (k : Int) < (x_funcs.length : Int) := by omega
     have hki0 : (0 : Int) ≤ (k : Int) := by omega
     obtain ⟨q, hq⟩ := sizeBA_calls x.body
     have HC := Lib.hid (hq F wr _ (HF.out.below hqt) (Sts.below ke2 HF.out hqt (Nat.le_refl _)))
     have HB := Lib.hid hB
     clear hel hcell hx hxe hB hqt bq hq ke1 ke2
     go_wp2_with (go_at_call 55; (with_reducible refine HC.out.mono ?_); rintro e w3 ⟨rfl, hb3⟩)
     go_roundw
     case rel => exact ⟨_, k + 1, by omega, rfl, by go_num, bt HB.out hb3⟩
     case measure => simp [intOf]; omega
   have : k = x_funcs.length := by omega
   subst this
   have hki : decide ((x_funcs.length : Int) < (x_funcs.length : Int)) = false := by simp
   clear h11
   have u12' := e12' bq.2
   go_wp2
   go_loopw [3, 6] (fun n i wr => ∃ (m : Int) (k : Nat), k ≤ x_daemons.length ∧ n = .int .i64 m ∧ i = .int .i64 k ∧ Below W1.heap.size W1 wr) (fun _ i _ => x_daemons.length - (intOf i).toNat)
   case atStart => exact ⟨_, 0, Nat.zero_le _, rfl, rfl, hB⟩
   case round =>
    obtain ⟨m, k, hk, rfl, rfl, hB⟩ := hrel
    obtain ⟨bq, hqt⟩ := hE.out wr hB
    have u12 := e12' bq.2
    by_cases hlt : k < x_daemons.length
    · obtain ⟨b, off, rfl, hFb, hel⟩ := h12 (by omega)
      obtain ⟨cs, hx, -, hcell⟩ := hel wr (hqt.block b (HF.out b hFb)) k hlt
      obtain ⟨x, hxe⟩ : ∃ x, x_daemons[k] = x := ⟨_, rfl⟩
      rw [hxe] at hx
      have hx2 := hx
      obtain ⟨-, ve1, ve2, rfl, ke1, ke2⟩ := hx2
      obtain ⟨de1, fe1, rfl⟩ := ke1.shape
      obtain ⟨de2, fe2, rfl⟩ := ke2.shape
      have g2 := hcell 2 _ rfl
      have hki : (k : Int) < (x_daemons.length : Int) := by omega
      have hki0 : (0 : Int) ≤ (k : Int) := by omega
      obtain ⟨q, hq⟩ := sizeBA_calls x.body
      have HC := Lib.hid (hq F wr _ (HF.out.below hqt) (Sts.below ke2 HF.out hqt (Nat.le_refl _)))
      have HB := Lib.hid hB
      clear hel hcell hx hxe hB hqt bq hq ke1 ke2
      go_wp2_with (go_at_call 55; (with_reducible refine HC.out.mono ?_); rintro e w3 ⟨rfl, hb3⟩)
      go_roundw
      case rel => exact ⟨_, k + 1, by omega, rfl, by go_num, bt HB.out hb3⟩
      case measure => simp [intOf]; omega
    have : k = x_daemons.length := by omega
    subst this
    have hki : decide ((x_daemons.length : Int) < (x_daemons.length : Int)) = false := by simp
    clear h12
    go_wp2
    go_ret
    exact ⟨_, rfl, hqt⟩
theorem few14_calls (F : Nat → Prop) (w : World) (x : SrcD) (cs : List Value) (hF : Inn F w) (hx : Holds.src.R F w x cs) :
 Calls Tryz.prog 7 #[.agg cs.toArray] w (GivesB w) := by
 have hx2 := hx
 obtain ⟨x_title, x_author, x_start, x_release, x_most, x_flags, x_props, x_globals, x_objects, x_verbs, x_rules, x_funcs, x_daemons⟩ := x
 obtain ⟨z_title, z_author, z_start, z_release, z_most, va5, va6, va7, va8, va9, va10, va11, va12, rfl, ka5, ka6, ka7, ka8, ka9, ka10, ka11, ka12⟩ := hx
 simp only at ka5 ka6 ka7 ka8 ka9 ka10 ka11 ka12 z_title z_author z_start z_release z_most
 obtain ⟨da5, fa5, rfl⟩ := ka5.shape
 obtain ⟨da6, fa6, rfl⟩ := ka6.shape
 obtain ⟨da7, fa7, rfl⟩ := ka7.shape
 obtain ⟨da8, fa8, rfl⟩ := ka8.shape
 obtain ⟨da9, fa9, rfl⟩ := ka9.shape
 obtain ⟨da10, fa10, rfl⟩ := ka10.shape
 obtain ⟨da11, fa11, rfl⟩ := ka11.shape
 obtain ⟨da12, fa12, rfl⟩ := ka12.shape
 obtain ⟨_, _, he, hl5, hc5, -⟩ := ka5.opn
 cases he
 unfold maxLen at hc5
 obtain ⟨_, _, he, hl6, hc6, -⟩ := ka6.opn
 cases he
 unfold maxLen at hc6
 obtain ⟨_, _, he, hl7, hc7, -⟩ := ka7.opn
 cases he
 unfold maxLen at hc7
 obtain ⟨_, _, he, hl8, hc8, -⟩ := ka8.opn
 cases he
 unfold maxLen at hc8
 obtain ⟨_, _, he, hl9, hc9, -⟩ := ka9.opn
 cases he
 unfold maxLen at hc9
 obtain ⟨_, _, he, hl10, hc10, -⟩ := ka10.opn
 cases he
 unfold maxLen at hc10
 obtain ⟨_, _, he, hl11, hc11, -⟩ := ka11.opn
 cases he
 unfold maxLen at hc11
 obtain ⟨_, _, he, hl12, hc12, -⟩ := ka12.opn
 cases he
 unfold maxLen at hc12
 obtain ⟨W1, hW1⟩ : ∃ W1, w.alloc (.cells #[.string x_title, .string x_author, .string x_start, .int .i64 x_release, .int .i64 x_most, .slice da5 x_flags.length fa5, .slice da6 x_props.length fa6, .slice da7 x_globals.length fa7, .slice da8 x_objects.length fa8, .slice da9 x_verbs.length fa9, .slice da10 x_rules.length fa10, .slice da11 x_funcs.length fa11, .slice da12 x_daemons.length fa12] 29) = W1 := ⟨_, rfl⟩
 have hs1 := bs' hW1
 have hb1 := ba' hW1
 have hbx1 := bn' hW1
 have hE : Hid (∀ W, Below W1.heap.size W1 W → BoxAt W (w.heap.size) [.string x_title, .string x_author, .string x_start, .int .i64 x_release, .int .i64 x_most, .slice da5 x_flags.length fa5, .slice da6 x_props.length fa6, .slice da7 x_globals.length fa7, .slice da8 x_objects.length fa8, .slice da9 x_verbs.length fa9, .slice da10 x_rules.length fa10, .slice da11 x_funcs.length fa11, .slice da12 x_daemons.length fa12] ∧ Below w.heap.size w W) := fun W h2 => ⟨hbx1.below h2 (by omega), (bt hb1 h2)⟩
 have HZ0 := Lib.hid hs1
 have HW1 := Lib.hid hW1
 clear hW1 hs1 hb1 hbx1
 have hcb := fun (W : World) (hW : Below w.heap.size w W) => blocks_calls F W _ _ (hF.below hW) (Holds.below Holds.src hx2 hF hW (Nat.le_refl _))
 have HC := Lib.hid hcb
 clear hF hcb hx2 ka5 ka6 ka7 ka8 ka9 ka10 ka11 ka12 z_title z_author z_start z_release z_most
 go_enter Tryz.func7, Tryz.ntmps7
 go_upto_region 1 with fail
 rw [HW1.out]
 obtain ⟨bq, bt0⟩ := hE.out W1 (Below.refl _ _)
 obtain ⟨g0, g1, g2, g3, g4, g5, g6, g7, g8, g9, g10, g11, g12⟩ := p12' bq.2
 have HB0 := b0' W1
 by_cases q0 : wrap64 (wrap64 ((x_flags.length : Int) + (x_props.length : Int)) + (x_globals.length : Int)) ≤ 120
 rotate_left
 · have e0 : decide (wrap64 (wrap64 ((x_flags.length : Int) + (x_props.length : Int)) + (x_globals.length : Int)) ≤ 120) = false := decide_eq_false q0
   clear q0 hl5 hc5 hl6 hc6 hl7 hc7 hl8 hc8 hl9 hc9 hl10 hc10 hl11 hc11 hl12 hc12
   go_wp2_with fail
   go_ret
   exact ⟨_, rfl, bt0⟩
 have e0 : decide (wrap64 (wrap64 ((x_flags.length : Int) + (x_props.length : Int)) + (x_globals.length : Int)) ≤ 120) = true := decide_eq_true q0
 clear q0
 by_cases q1 : (x_objects.length : Int) ≤ 130
 rotate_left
 · have e1 : decide ((x_objects.length : Int) ≤ 130) = false := decide_eq_false q1
   clear q1 hl5 hc5 hl6 hc6 hl7 hc7 hl8 hc8 hl9 hc9 hl10 hc10 hl11 hc11 hl12 hc12
   go_wp2_with fail
   go_ret
   exact ⟨_, rfl, bt0⟩
 have e1 : decide ((x_objects.length : Int) ≤ 130) = true := decide_eq_true q1
 clear q1
 by_cases q2 : (x_verbs.length : Int) ≤ 70
 rotate_left
 · have e2 : decide ((x_verbs.length : Int) ≤ 70) = false := decide_eq_false q2
   clear q2 hl5 hc5 hl6 hc6 hl7 hc7 hl8 hc8 hl9 hc9 hl10 hc10 hl11 hc11 hl12 hc12
   go_wp2_with fail
   go_ret
   exact ⟨_, rfl, bt0⟩
 have e2 : decide ((x_verbs.length : Int) ≤ 70) = true := decide_eq_true q2
 clear q2
 by_cases q3 : (x_rules.length : Int) ≤ 520
 rotate_left
 · have e3 : decide ((x_rules.length : Int) ≤ 520) = false := decide_eq_false q3
   clear q3 hl5 hc5 hl6 hc6 hl7 hc7 hl8 hc8 hl9 hc9 hl10 hc10 hl11 hc11 hl12 hc12
   go_wp2_with fail
   go_ret
   exact ⟨_, rfl, bt0⟩
 have e3 : decide ((x_rules.length : Int) ≤ 520) = true := decide_eq_true q3
 clear q3
 by_cases q4 : (x_funcs.length : Int) ≤ 70
 rotate_left
 · have e4 : decide ((x_funcs.length : Int) ≤ 70) = false := decide_eq_false q4
   clear q4 hl5 hc5 hl6 hc6 hl7 hc7 hl8 hc8 hl9 hc9 hl10 hc10 hl11 hc11 hl12 hc12
   go_wp2_with fail
   go_ret
   exact ⟨_, rfl, bt0⟩
 have e4 : decide ((x_funcs.length : Int) ≤ 70) = true := decide_eq_true q4
 clear q4
 by_cases q5 : (x_daemons.length : Int) ≤ 20
 rotate_left
 · have e5 : decide ((x_daemons.length : Int) ≤ 20) = false := decide_eq_false q5
   clear q5 hl5 hc5 hl6 hc6 hl7 hc7 hl8 hc8 hl9 hc9 hl10 hc10 hl11 hc11 hl12 hc12
   go_wp2_with fail
   go_ret
   exact ⟨_, rfl, bt0⟩
 have e5 : decide ((x_daemons.length : Int) ≤ 20) = true := decide_eq_true q5
 clear q5
 clear hl5 hc5 hl6 hc6 hl7 hc7 hl8 hc8 hl9 hc9 hl10 hc10 hl11 hc11 hl12 hc12
 go_wp2_with (go_at_call 25; (with_reducible refine (HC.out W1 bt0).mono ?_); rintro e w3 ⟨m, rfl, hb3⟩; have HB3 := (hE.out w3 hb3).2)
 go_ret
 exact ⟨_, rfl, HB3⟩
end Go.Proofs.YtdeecfkipknkbaaGreatDoor
