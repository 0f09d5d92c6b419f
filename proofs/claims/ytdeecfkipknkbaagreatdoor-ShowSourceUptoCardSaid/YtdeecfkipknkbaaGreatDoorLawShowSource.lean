/- The law ShowSource, walked: it returns true at any source in memory that has few enough expressions and statements. Printed by gen-sh10.py. -/
import Derived.Test.YtdeecfkipknkbaaGreatDoorShowG
import Derived.Test.YtdeecfkipknkbaaGreatDoorRrS
import Derived.Test.YtdeecfkipknkbaaGreatDoorFew14
import Derived.Test.YtdeecfkipknkbaaGreatDoorShW
import Derived.Test.YtdeecfkipknkbaaGreatDoorShX
namespace Go.Proofs.YtdeecfkipknkbaaGreatDoor
set_option maxRecDepth 100000
set_option maxHeartbeats 20000000
open Go.RowKit Go.Sort
theorem showSource_calls (F : Nat → Prop) (w : World) (x : SrcD) (cs : List Value) (hF : Inn F w) (hm : MX w) (ht : TB w) (ha : TA w) (hz : x.nds ≤ 1048576) (hx : Holds.src.R F w x cs) :
 Calls Tryz.prog 3 #[.agg cs.toArray] w (Gives w (.bool true)) := by
 have hx2 := hx
 obtain ⟨da5, fa5, da6, fa6, da7, fa7, da8, fa8, da9, fa9, da10, fa10, da11, fa11, da12, fa12, rfl, ka5, ka6, ka7, ka8, ka9, ka10, ka11, ka12⟩ := src_shape hx2
 clear ka5 ka6 ka7 ka8 ka9 ka10 ka11 ka12
 obtain ⟨W1, hW1⟩ : ∃ W1, w.alloc (.cells #[.string x.title, .string x.author, .string x.start, .int .i64 x.release, .int .i64 x.most, .slice da5 x.flags.length fa5, .slice da6 x.props.length fa6, .slice da7 x.globals.length fa7, .slice da8 x.objects.length fa8, .slice da9 x.verbs.length fa9, .slice da10 x.rules.length fa10, .slice da11 x.funcs.length fa11, .slice da12 x.daemons.length fa12] 29) = W1 := ⟨_, rfl⟩
 have hs1 := bs' hW1
 have hb1 := ba' hW1
 have hbx1 := bn' hW1
 have hE : Hid (∀ W, Below W1.heap.size W1 W → BoxAt W (w.heap.size) [.string x.title, .string x.author, .string x.start, .int .i64 x.release, .int .i64 x.most, .slice da5 x.flags.length fa5, .slice da6 x.props.length fa6, .slice da7 x.globals.length fa7, .slice da8 x.objects.length fa8, .slice da9 x.verbs.length fa9, .slice da10 x.rules.length fa10, .slice da11 x.funcs.length fa11, .slice da12 x.daemons.length fa12] ∧ Below w.heap.size w W) := fun W h2 => ⟨hbx1.below h2 (by omega), (bt hb1 h2)⟩
 have HZ0 := Lib.hid hs1
 have HW1 := Lib.hid hW1
 clear hW1 hs1 hb1 hbx1
 have HFX := Lib.hid (fun (W : World) (hW : Below w.heap.size w W) => few14_calls F W x _ (hF.below hW) (Holds.below Holds.src hx hF hW (Nat.le_refl _)))
 have HAW := Lib.hid (fun (W : World) (hW : Below w.heap.size w W) => awake14_calls W (hm.below hW (Nat.le_refl _)) (ht.below hW (Nat.le_refl _)) (ha.below hW (Nat.le_refl _)))
 have hq := fun (W : World) (hW : Below w.heap.size w W) => rrRight_calls F W x _ (hF.below hW) (Holds.below Holds.src hx hF hW (Nat.le_refl _))
 have HT : Hid (SrcR x → ∃ r : ByteArray, (∀ W, Below w.heap.size w W → Calls Tryz.prog 10 #[.agg #[.string x.title, .string x.author, .string x.start, .int .i64 x.release, .int .i64 x.most, .slice da5 x.flags.length fa5, .slice da6 x.props.length fa6, .slice da7 x.globals.length fa7, .slice da8 x.objects.length fa8, .slice da9 x.verbs.length fa9, .slice da10 x.rules.length fa10, .slice da11 x.funcs.length fa11, .slice da12 x.daemons.length fa12]] W (Gives W (.string r))) ∧ (∀ W, Below w.heap.size w W → Calls Tryz.prog 11 #[.agg #[.string x.title, .string x.author, .string x.start, .int .i64 x.release, .int .i64 x.most, .slice da5 x.flags.length fa5, .slice da6 x.props.length fa6, .slice da7 x.globals.length fa7, .slice da8 x.objects.length fa8, .slice da9 x.verbs.length fa9, .slice da10 x.rules.length fa10, .slice da11 x.funcs.length fa11, .slice da12 x.daemons.length fa12]] W (Gives W (.string r)))) := fun hR => by
  have h := srcB_sz hR
  exact ⟨srcB x, fun W hW => srcShow_calls F W x [.string x.title, .string x.author, .string x.start, .int .i64 x.release, .int .i64 x.most, .slice da5 x.flags.length fa5, .slice da6 x.props.length fa6, .slice da7 x.globals.length fa7, .slice da8 x.objects.length fa8, .slice da9 x.verbs.length fa9, .slice da10 x.rules.length fa10, .slice da11 x.funcs.length fa11, .slice da12 x.daemons.length fa12] (hF.below hW) (ht.below hW (Nat.le_refl _)) (ha.below hW (Nat.le_refl _)) hR (by omega) (Holds.below Holds.src hx hF hW (Nat.le_refl _)), fun W hW => srcShowR_calls F W x [.string x.title, .string x.author, .string x.start, .int .i64 x.release, .int .i64 x.most, .slice da5 x.flags.length fa5, .slice da6 x.props.length fa6, .slice da7 x.globals.length fa7, .slice da8 x.objects.length fa8, .slice da9 x.verbs.length fa9, .slice da10 x.rules.length fa10, .slice da11 x.funcs.length fa11, .slice da12 x.daemons.length fa12] (hF.below hW) hR (by omega) (Holds.below Holds.src hx hF hW (Nat.le_refl _))⟩
 obtain ⟨sm, hsm⟩ : ∃ b, dec (SrcR x) = b := ⟨_, rfl⟩
 simp only [hsm] at hq
 have HQ := Lib.hid hq
 have HSM := Lib.hid hsm
 clear hsm hq hx hF hm ht ha hz
 go_enter Tryz.func3, Tryz.ntmps3
 go_upto_region 1 with fail
 rw [HW1.out]
 obtain ⟨hq1, hqt⟩ := hE.out W1 (Below.refl _ _)
 have HB := b0' W1
 obtain ⟨y0, y1, y2, y3, y4, y5, y6, y7, y8, y9, y10, y11, y12⟩ := p12' hq1.2
 go_wp2_with (go_at_call 7; (with_reducible refine (HFX.out _ hqt).mono ?_))
 rintro e w3 ⟨q, rfl, hb3⟩
 have HB := bt HB hb3; obtain ⟨hq1, hqt⟩ := hE.out _ HB; clear y0 y1 y2 y3 y4 y5 y6 y7 y8 y9 y10 y11 y12; obtain ⟨y0, y1, y2, y3, y4, y5, y6, y7, y8, y9, y10, y11, y12⟩ := p12' hq1.2
 cases q
 · go_wp2_with (go_at_call 9; (with_reducible refine (HAW.out _ hqt).mono ?_); rintro e w5 ⟨rfl, hb5⟩)
   go_ret
   exact ⟨rfl, bt hqt hb5⟩
 go_wp2_with (go_at_call 8; (with_reducible refine (HQ.out _ hqt).mono ?_))
 rintro e w4 ⟨rfl, hb4⟩
 have HB := bt HB hb4; obtain ⟨hq1, hqt⟩ := hE.out _ HB; clear y0 y1 y2 y3 y4 y5 y6 y7 y8 y9 y10 y11 y12; obtain ⟨y0, y1, y2, y3, y4, y5, y6, y7, y8, y9, y10, y11, y12⟩ := p12' hq1.2
 cases sm
 · go_wp2_with (go_at_call 9; (with_reducible refine (HAW.out _ hqt).mono ?_); rintro e w5 ⟨rfl, hb5⟩)
   go_ret
   exact ⟨rfl, bt hqt hb5⟩
 have hR : SrcR x := by
  by_cases h : SrcR x
  · exact h
  have := HSM.out; rw [dec_false h] at this; cases this
 obtain ⟨r, hs, ht⟩ := HT.out hR
 clear hR HT HQ HSM
 have K := @rg' Tryz.prog w4
 have G1 := Lib.hid (K (fun W hW => hs W (bt hqt hW)))
 have G2 := Lib.hid (K (fun W hW => ht W (bt hqt hW)))
 have G5 := Lib.hid (K (fun W hW => HAW.out W (bt hqt hW)))
 clear K hs ht
 have c0 := fun d os => cell_regrown y0 d os; have c1 := fun d os => cell_regrown y1 d os; have c2 := fun d os => cell_regrown y2 d os; have c3 := fun d os => cell_regrown y3 d os; have c4 := fun d os => cell_regrown y4 d os; have c5 := fun d os => cell_regrown y5 d os; have c6 := fun d os => cell_regrown y6 d os; have c7 := fun d os => cell_regrown y7 d os; have c8 := fun d os => cell_regrown y8 d os; have c9 := fun d os => cell_regrown y9 d os; have c10 := fun d os => cell_regrown y10 d os; have c11 := fun d os => cell_regrown y11 d os; have c12 := fun d os => cell_regrown y12 d os
 have HQT := Lib.hid hqt
 go_upto_region 3 with fail
 refine wp_region_quiet_below (by kernel_rfl) (by kernel_rfl) ?_
 repeat (go_big_quiet_step (first | with_reducible exact G1.out _ | with_reducible exact G2.out _ | with_reducible exact G5.out _))
 refine wpQuiet_nil ?_
 intro w6 hw6
 have hb6 := below_of_regrown hw6
 clear hw6
 go_wp2_with fail
 go_ret
 exact ⟨rfl, bt HQT.out hb6⟩
end Go.Proofs.YtdeecfkipknkbaaGreatDoor
