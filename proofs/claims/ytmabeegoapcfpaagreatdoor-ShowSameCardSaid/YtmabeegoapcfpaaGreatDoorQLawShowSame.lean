/- The law ShowSame, walked: it returns true at any two sources in memory. Printed by gen-show17.py. -/
import Derived.Test.YtmabeegoapcfpaaGreatDoorQShowE
import Derived.Test.YtmabeegoapcfpaaGreatDoorQSoRs
import Derived.Test.YtmabeegoapcfpaaGreatDoorQFew14
namespace Go.Proofs.YtmabeegoapcfpaaGreatDoor
open Go.RowKit Go.Sort
theorem same_comm {α : Type} (a b : α) : same a b = same b a := by
  by_cases h : a = b
  · rw [h]
  · rw [same_ne h, same_ne (fun e => h e.symm)]
set_option maxRecDepth 100000 in
set_option maxHeartbeats 20000000 in
theorem showSame_calls (F : Nat → Prop) (w : World) (x y : SrcD) (cs ds : List Value) (hF : Inn F w) (hm : MX w) (hx : Holds.src.R F w x cs) (hy : Holds.src.R F w y ds) :
    Calls Tryz.prog 4 #[.agg cs.toArray, .agg ds.toArray] w (Gives w (.bool true)) := by
  have hx2 := hx
  have hy2 := hy
  obtain ⟨da5, fa5, da6, fa6, da7, fa7, da8, fa8, da9, fa9, da10, fa10, da11, fa11, da12, fa12, rfl, ka5, ka6, ka7, ka8, ka9, ka10, ka11, ka12⟩ := src_shape hx2
  obtain ⟨db5, fb5, db6, fb6, db7, fb7, db8, fb8, db9, fb9, db10, fb10, db11, fb11, db12, fb12, rfl, kb5, kb6, kb7, kb8, kb9, kb10, kb11, kb12⟩ := src_shape hy2
  clear ka5 kb5 ka6 kb6 ka7 kb7 ka8 kb8 ka9 kb9 ka10 kb10 ka11 kb11 ka12 kb12
  obtain ⟨W1, hW1⟩ : ∃ W1, w.alloc (.cells #[.string x.title, .string x.author, .string x.start, .int .i64 x.release, .int .i64 x.most, .slice da5 x.flags.length fa5, .slice da6 x.props.length fa6, .slice da7 x.globals.length fa7, .slice da8 x.objects.length fa8, .slice da9 x.verbs.length fa9, .slice da10 x.rules.length fa10, .slice da11 x.funcs.length fa11, .slice da12 x.daemons.length fa12] 29) = W1 := ⟨_, rfl⟩
  have hs1 : W1.heap.size = w.heap.size + 1 := by rw [← hW1]; simp
  have hb1 : Below w.heap.size w W1 := by rw [← hW1]; exact (Below.refl _ _).alloc (Nat.le_refl _) _
  have hbx1 : BoxAt W1 w.heap.size [.string x.title, .string x.author, .string x.start, .int .i64 x.release, .int .i64 x.most, .slice da5 x.flags.length fa5, .slice da6 x.props.length fa6, .slice da7 x.globals.length fa7, .slice da8 x.objects.length fa8, .slice da9 x.verbs.length fa9, .slice da10 x.rules.length fa10, .slice da11 x.funcs.length fa11, .slice da12 x.daemons.length fa12] := by rw [← hW1]; exact BoxAt.new _ _ _
  obtain ⟨W2, hW2⟩ : ∃ W2, W1.alloc (.cells #[.string y.title, .string y.author, .string y.start, .int .i64 y.release, .int .i64 y.most, .slice db5 y.flags.length fb5, .slice db6 y.props.length fb6, .slice db7 y.globals.length fb7, .slice db8 y.objects.length fb8, .slice db9 y.verbs.length fb9, .slice db10 y.rules.length fb10, .slice db11 y.funcs.length fb11, .slice db12 y.daemons.length fb12] 29) = W2 := ⟨_, rfl⟩
  have hs2 : W2.heap.size = w.heap.size + 1 + 1 := by rw [← hW2]; simp; exact hs1
  have hb2 : Below W1.heap.size W1 W2 := by rw [← hW2]; exact (Below.refl _ _).alloc (Nat.le_refl _) _
  have hbx2 : BoxAt W2 W1.heap.size [.string y.title, .string y.author, .string y.start, .int .i64 y.release, .int .i64 y.most, .slice db5 y.flags.length fb5, .slice db6 y.props.length fb6, .slice db7 y.globals.length fb7, .slice db8 y.objects.length fb8, .slice db9 y.verbs.length fb9, .slice db10 y.rules.length fb10, .slice db11 y.funcs.length fb11, .slice db12 y.daemons.length fb12] := by rw [← hW2]; exact BoxAt.new _ _ _
  rw [hs1] at hbx2
  have hE : Hid (∀ W, Below W2.heap.size W2 W → BoxAt W (w.heap.size) [.string x.title, .string x.author, .string x.start, .int .i64 x.release, .int .i64 x.most, .slice da5 x.flags.length fa5, .slice da6 x.props.length fa6, .slice da7 x.globals.length fa7, .slice da8 x.objects.length fa8, .slice da9 x.verbs.length fa9, .slice da10 x.rules.length fa10, .slice da11 x.funcs.length fa11, .slice da12 x.daemons.length fa12] ∧ BoxAt W (w.heap.size + 1) [.string y.title, .string y.author, .string y.start, .int .i64 y.release, .int .i64 y.most, .slice db5 y.flags.length fb5, .slice db6 y.props.length fb6, .slice db7 y.globals.length fb7, .slice db8 y.objects.length fb8, .slice db9 y.verbs.length fb9, .slice db10 y.rules.length fb10, .slice db11 y.funcs.length fb11, .slice db12 y.daemons.length fb12] ∧ Below w.heap.size w W) := fun W h3 => ⟨hbx1.below (bt hb2 h3) (by omega), hbx2.below h3 (by omega), (hb1.trans ((bt hb2 h3).mono hb1.size))⟩
  have HZ0 := Lib.hid hs2
  have HW1 := Lib.hid hW1
  have HW2 := Lib.hid hW2
  clear hW1 hs1 hb1 hbx1 hW2 hs2 hb2 hbx2
  have HFX := Lib.hid (fun (W : World) (hW : Below w.heap.size w W) => few14_calls F W x _ (hF.below hW) (Holds.below Holds.src hx hF hW (Nat.le_refl _)))
  have HFY := Lib.hid (fun (W : World) (hW : Below w.heap.size w W) => few14_calls F W y _ (hF.below hW) (Holds.below Holds.src hy hF hW (Nat.le_refl _)))
  have HXY := Lib.hid (fun (W : World) (hW : Below w.heap.size w W) => sameS_calls F W x y _ _ (hF.below hW) (Holds.below Holds.src hx hF hW (Nat.le_refl _)) (Holds.below Holds.src hy hF hW (Nat.le_refl _)))
  have HRR := Lib.hid (fun (W : World) (hW : Below w.heap.size w W) => rSource_calls F W x y _ _ (hF.below hW) (Holds.below Holds.src hx hF hW (Nat.le_refl _)) (Holds.below Holds.src hy hF hW (Nat.le_refl _)))
  have hxx := fun (W : World) (hW : Below w.heap.size w W) => sameS_calls F W x x _ _ (hF.below hW) (Holds.below Holds.src hx hF hW (Nat.le_refl _)) (Holds.below Holds.src hx hF hW (Nat.le_refl _))
  have hyx := fun (W : World) (hW : Below w.heap.size w W) => sameS_calls F W y x _ _ (hF.below hW) (Holds.below Holds.src hy hF hW (Nat.le_refl _)) (Holds.below Holds.src hx hF hW (Nat.le_refl _))
  simp only [same_self] at hxx
  simp only [same_comm y x] at hyx
  have HXX := Lib.hid hxx
  have HYX := Lib.hid hyx
  have HAW := Lib.hid (fun (W : World) (hW : Below w.heap.size w W) => awake14_calls W (hm.below hW (Nat.le_refl _)))
  clear hx hy hF hm hxx hyx
  obtain ⟨sm, hsm⟩ : ∃ b, same x y = b := ⟨_, rfl⟩
  rw [hsm] at HXY HRR HYX
  clear hsm
  go_enter Tryz.func4, Tryz.ntmps4
  go_upto_region 1 with fail
  rw [HW1.out, HW2.out]
  obtain ⟨hq1, hq2, hqt⟩ := hE.out W2 (Below.refl _ _)
  have HB : Below W2.heap.size W2 W2 := Below.refl _ _
  have y0 := hq1.2 0 (by simp); have y1 := hq1.2 1 (by simp); have y2 := hq1.2 2 (by simp); have y3 := hq1.2 3 (by simp); have y4 := hq1.2 4 (by simp); have y5 := hq1.2 5 (by simp); have y6 := hq1.2 6 (by simp); have y7 := hq1.2 7 (by simp); have y8 := hq1.2 8 (by simp); have y9 := hq1.2 9 (by simp); have y10 := hq1.2 10 (by simp); have y11 := hq1.2 11 (by simp); have y12 := hq1.2 12 (by simp); simp only [cqs, cqz] at y0 y1 y2 y3 y4 y5 y6 y7 y8 y9 y10 y11 y12
  have z0 := hq2.2 0 (by simp); have z1 := hq2.2 1 (by simp); have z2 := hq2.2 2 (by simp); have z3 := hq2.2 3 (by simp); have z4 := hq2.2 4 (by simp); have z5 := hq2.2 5 (by simp); have z6 := hq2.2 6 (by simp); have z7 := hq2.2 7 (by simp); have z8 := hq2.2 8 (by simp); have z9 := hq2.2 9 (by simp); have z10 := hq2.2 10 (by simp); have z11 := hq2.2 11 (by simp); have z12 := hq2.2 12 (by simp); simp only [cqs, cqz] at z0 z1 z2 z3 z4 z5 z6 z7 z8 z9 z10 z11 z12
  go_wp2_with (go_at_call 7; (with_reducible refine (HFX.out _ hqt).mono ?_))
  rintro e w3 ⟨q, rfl, hb3⟩
  have HB := bt HB hb3; obtain ⟨hq1, hq2, hqt⟩ := hE.out _ HB; clear y0 z0 y1 z1 y2 z2 y3 z3 y4 z4 y5 z5 y6 z6 y7 z7 y8 z8 y9 z9 y10 z10 y11 z11 y12 z12; have y0 := hq1.2 0 (by simp); have y1 := hq1.2 1 (by simp); have y2 := hq1.2 2 (by simp); have y3 := hq1.2 3 (by simp); have y4 := hq1.2 4 (by simp); have y5 := hq1.2 5 (by simp); have y6 := hq1.2 6 (by simp); have y7 := hq1.2 7 (by simp); have y8 := hq1.2 8 (by simp); have y9 := hq1.2 9 (by simp); have y10 := hq1.2 10 (by simp); have y11 := hq1.2 11 (by simp); have y12 := hq1.2 12 (by simp); simp only [cqs, cqz] at y0 y1 y2 y3 y4 y5 y6 y7 y8 y9 y10 y11 y12; have z0 := hq2.2 0 (by simp); have z1 := hq2.2 1 (by simp); have z2 := hq2.2 2 (by simp); have z3 := hq2.2 3 (by simp); have z4 := hq2.2 4 (by simp); have z5 := hq2.2 5 (by simp); have z6 := hq2.2 6 (by simp); have z7 := hq2.2 7 (by simp); have z8 := hq2.2 8 (by simp); have z9 := hq2.2 9 (by simp); have z10 := hq2.2 10 (by simp); have z11 := hq2.2 11 (by simp); have z12 := hq2.2 12 (by simp); simp only [cqs, cqz] at z0 z1 z2 z3 z4 z5 z6 z7 z8 z9 z10 z11 z12
  cases q
  · go_wp2_with (go_at_call 8; (with_reducible refine (HAW.out _ hqt).mono ?_); rintro e w5 ⟨rfl, hb5⟩)
    go_ret
    exact ⟨rfl, bt hqt hb5⟩
  go_wp2_with (go_at_call 7; (with_reducible refine (HFY.out _ hqt).mono ?_))
  rintro e w4 ⟨q, rfl, hb4⟩
  have HB := bt HB hb4; obtain ⟨hq1, hq2, hqt⟩ := hE.out _ HB; clear y0 z0 y1 z1 y2 z2 y3 z3 y4 z4 y5 z5 y6 z6 y7 z7 y8 z8 y9 z9 y10 z10 y11 z11 y12 z12; have y0 := hq1.2 0 (by simp); have y1 := hq1.2 1 (by simp); have y2 := hq1.2 2 (by simp); have y3 := hq1.2 3 (by simp); have y4 := hq1.2 4 (by simp); have y5 := hq1.2 5 (by simp); have y6 := hq1.2 6 (by simp); have y7 := hq1.2 7 (by simp); have y8 := hq1.2 8 (by simp); have y9 := hq1.2 9 (by simp); have y10 := hq1.2 10 (by simp); have y11 := hq1.2 11 (by simp); have y12 := hq1.2 12 (by simp); simp only [cqs, cqz] at y0 y1 y2 y3 y4 y5 y6 y7 y8 y9 y10 y11 y12; have z0 := hq2.2 0 (by simp); have z1 := hq2.2 1 (by simp); have z2 := hq2.2 2 (by simp); have z3 := hq2.2 3 (by simp); have z4 := hq2.2 4 (by simp); have z5 := hq2.2 5 (by simp); have z6 := hq2.2 6 (by simp); have z7 := hq2.2 7 (by simp); have z8 := hq2.2 8 (by simp); have z9 := hq2.2 9 (by simp); have z10 := hq2.2 10 (by simp); have z11 := hq2.2 11 (by simp); have z12 := hq2.2 12 (by simp); simp only [cqs, cqz] at z0 z1 z2 z3 z4 z5 z6 z7 z8 z9 z10 z11 z12
  cases q
  · go_wp2_with (go_at_call 8; (with_reducible refine (HAW.out _ hqt).mono ?_); rintro e w5 ⟨rfl, hb5⟩)
    go_ret
    exact ⟨rfl, bt hqt hb5⟩
  have K {f : FuncId} {args : Array Value} {u : Value} (h : ∀ w', Below w4.heap.size w4 w' → Calls Tryz.prog f args w' (Gives w' u)) (p : Regrown) : Calls Tryz.prog f args (grow (redrawn w4 p.d) p.os) fun e w3 => e = .returned u ∧ ∃ p : Regrown, w3 = grow (redrawn w4 p.d) p.os := regrown_gives (fun w3 hb => h w3 hb) p
  have G1 := Lib.hid (K (fun W hW => HXY.out W (bt hqt hW)))
  have G2 := Lib.hid (K (fun W hW => HRR.out W (bt hqt hW)))
  have G3 := Lib.hid (K (fun W hW => HXX.out W (bt hqt hW)))
  have G4 := Lib.hid (K (fun W hW => HYX.out W (bt hqt hW)))
  have G5 := Lib.hid (K (fun W hW => HAW.out W (bt hqt hW)))
  clear K
  have c0 := fun d os => cell_regrown y0 d os; have d0 := fun d os => cell_regrown z0 d os; have c1 := fun d os => cell_regrown y1 d os; have d1 := fun d os => cell_regrown z1 d os; have c2 := fun d os => cell_regrown y2 d os; have d2 := fun d os => cell_regrown z2 d os; have c3 := fun d os => cell_regrown y3 d os; have d3 := fun d os => cell_regrown z3 d os; have c4 := fun d os => cell_regrown y4 d os; have d4 := fun d os => cell_regrown z4 d os; have c5 := fun d os => cell_regrown y5 d os; have d5 := fun d os => cell_regrown z5 d os; have c6 := fun d os => cell_regrown y6 d os; have d6 := fun d os => cell_regrown z6 d os; have c7 := fun d os => cell_regrown y7 d os; have d7 := fun d os => cell_regrown z7 d os; have c8 := fun d os => cell_regrown y8 d os; have d8 := fun d os => cell_regrown z8 d os; have c9 := fun d os => cell_regrown y9 d os; have d9 := fun d os => cell_regrown z9 d os; have c10 := fun d os => cell_regrown y10 d os; have d10 := fun d os => cell_regrown z10 d os; have c11 := fun d os => cell_regrown y11 d os; have d11 := fun d os => cell_regrown z11 d os; have c12 := fun d os => cell_regrown y12 d os; have d12 := fun d os => cell_regrown z12 d os
  have HQT := Lib.hid hqt
  go_upto_region 3 with fail
  refine wp_region_quiet_below (by kernel_rfl) (by kernel_rfl) ?_
  repeat (go_big_quiet_step (first | with_reducible exact G1.out _ | with_reducible exact G2.out _ | with_reducible exact G3.out _ | with_reducible exact G4.out _ | with_reducible exact G5.out _))
  refine wpQuiet_nil ?_
  intro w6 hw6
  have hb6 := below_of_regrown hw6
  clear hw6
  go_wp2_with fail
  go_ret
  exact ⟨rfl, bt HQT.out hb6⟩
end Go.Proofs.YtmabeegoapcfpaaGreatDoor
