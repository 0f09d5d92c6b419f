/- The law ShowRight, walked: it returns true at any source in memory. Printed by gen-show18.py. -/
import Derived.Test.YtmabeegoapcfpaaGreatDoorQShowE
import Derived.Test.YtmabeegoapcfpaaGreatDoorQRrS
import Derived.Test.YtmabeegoapcfpaaGreatDoorQFew14
namespace Go.Proofs.YtmabeegoapcfpaaGreatDoor
open Go.RowKit Go.Sort
set_option maxRecDepth 100000 in
set_option maxHeartbeats 20000000 in
theorem showRight_calls (F : Nat → Prop) (w : World) (x : SrcD) (cs : List Value) (hF : Inn F w) (hm : MX w) (hx : Holds.src.R F w x cs) :
    Calls Tryz.prog 3 #[.agg cs.toArray] w (Gives w (.bool true)) := by
  have hx2 := hx
  obtain ⟨da5, fa5, da6, fa6, da7, fa7, da8, fa8, da9, fa9, da10, fa10, da11, fa11, da12, fa12, rfl, ka5, ka6, ka7, ka8, ka9, ka10, ka11, ka12⟩ := src_shape hx2
  clear ka5 ka6 ka7 ka8 ka9 ka10 ka11 ka12
  obtain ⟨W1, hW1⟩ : ∃ W1, w.alloc (.cells #[.string x.title, .string x.author, .string x.start, .int .i64 x.release, .int .i64 x.most, .slice da5 x.flags.length fa5, .slice da6 x.props.length fa6, .slice da7 x.globals.length fa7, .slice da8 x.objects.length fa8, .slice da9 x.verbs.length fa9, .slice da10 x.rules.length fa10, .slice da11 x.funcs.length fa11, .slice da12 x.daemons.length fa12] 29) = W1 := ⟨_, rfl⟩
  have hs1 : W1.heap.size = w.heap.size + 1 := by rw [← hW1]; simp
  have hb1 : Below w.heap.size w W1 := by rw [← hW1]; exact (Below.refl _ _).alloc (Nat.le_refl _) _
  have hbx1 : BoxAt W1 w.heap.size [.string x.title, .string x.author, .string x.start, .int .i64 x.release, .int .i64 x.most, .slice da5 x.flags.length fa5, .slice da6 x.props.length fa6, .slice da7 x.globals.length fa7, .slice da8 x.objects.length fa8, .slice da9 x.verbs.length fa9, .slice da10 x.rules.length fa10, .slice da11 x.funcs.length fa11, .slice da12 x.daemons.length fa12] := by rw [← hW1]; exact BoxAt.new _ _ _
  have hE : Hid (∀ W, Below W1.heap.size W1 W → BoxAt W (w.heap.size) [.string x.title, .string x.author, .string x.start, .int .i64 x.release, .int .i64 x.most, .slice da5 x.flags.length fa5, .slice da6 x.props.length fa6, .slice da7 x.globals.length fa7, .slice da8 x.objects.length fa8, .slice da9 x.verbs.length fa9, .slice da10 x.rules.length fa10, .slice da11 x.funcs.length fa11, .slice da12 x.daemons.length fa12] ∧ Below w.heap.size w W) := fun W h2 => ⟨hbx1.below h2 (by omega), (bt hb1 h2)⟩
  have HZ0 := Lib.hid hs1
  have HW1 := Lib.hid hW1
  clear hW1 hs1 hb1 hbx1
  have HFX := Lib.hid (fun (W : World) (hW : Below w.heap.size w W) => few14_calls F W x _ (hF.below hW) (Holds.below Holds.src hx hF hW (Nat.le_refl _)))
  have HR := Lib.hid (fun (W : World) (hW : Below w.heap.size w W) => rightS_calls F W x _ (hF.below hW) (hm.below hW (Nat.le_refl _)) (Holds.below Holds.src hx hF hW (Nat.le_refl _)))
  have HQ := Lib.hid (fun (W : World) (hW : Below w.heap.size w W) => rrRight_calls F W x _ (hF.below hW) (Holds.below Holds.src hx hF hW (Nat.le_refl _)))
  have HAW := Lib.hid (fun (W : World) (hW : Below w.heap.size w W) => awake14_calls W (hm.below hW (Nat.le_refl _)))
  clear hx hF hm
  obtain ⟨sm, hsm⟩ : ∃ b, dec (SrcR x) = b := ⟨_, rfl⟩
  rw [hsm] at HR HQ
  clear hsm
  go_enter Tryz.func3, Tryz.ntmps3
  go_upto_region 1 with fail
  rw [HW1.out]
  obtain ⟨hq1, hqt⟩ := hE.out W1 (Below.refl _ _)
  have HB : Below W1.heap.size W1 W1 := Below.refl _ _
  have y0 := hq1.2 0 (by simp); have y1 := hq1.2 1 (by simp); have y2 := hq1.2 2 (by simp); have y3 := hq1.2 3 (by simp); have y4 := hq1.2 4 (by simp); have y5 := hq1.2 5 (by simp); have y6 := hq1.2 6 (by simp); have y7 := hq1.2 7 (by simp); have y8 := hq1.2 8 (by simp); have y9 := hq1.2 9 (by simp); have y10 := hq1.2 10 (by simp); have y11 := hq1.2 11 (by simp); have y12 := hq1.2 12 (by simp); simp only [cqs, cqz] at y0 y1 y2 y3 y4 y5 y6 y7 y8 y9 y10 y11 y12
  go_wp2_with (go_at_call 7; (with_reducible refine (HFX.out _ hqt).mono ?_))
  rintro e w4 ⟨q, rfl, hb3⟩
  have HB := bt HB hb3; obtain ⟨hq1, hqt⟩ := hE.out _ HB; clear y0 y1 y2 y3 y4 y5 y6 y7 y8 y9 y10 y11 y12; have y0 := hq1.2 0 (by simp); have y1 := hq1.2 1 (by simp); have y2 := hq1.2 2 (by simp); have y3 := hq1.2 3 (by simp); have y4 := hq1.2 4 (by simp); have y5 := hq1.2 5 (by simp); have y6 := hq1.2 6 (by simp); have y7 := hq1.2 7 (by simp); have y8 := hq1.2 8 (by simp); have y9 := hq1.2 9 (by simp); have y10 := hq1.2 10 (by simp); have y11 := hq1.2 11 (by simp); have y12 := hq1.2 12 (by simp); simp only [cqs, cqz] at y0 y1 y2 y3 y4 y5 y6 y7 y8 y9 y10 y11 y12
  cases q
  · go_wp2_with (go_at_call 8; (with_reducible refine (HAW.out _ hqt).mono ?_); rintro e w5 ⟨rfl, hb5⟩)
    go_ret
    exact ⟨rfl, bt hqt hb5⟩
  have K {f : FuncId} {args : Array Value} {u : Value} (h : ∀ w', Below w4.heap.size w4 w' → Calls Tryz.prog f args w' (Gives w' u)) (p : Regrown) : Calls Tryz.prog f args (grow (redrawn w4 p.d) p.os) fun e w3 => e = .returned u ∧ ∃ p : Regrown, w3 = grow (redrawn w4 p.d) p.os := regrown_gives (fun w3 hb => h w3 hb) p
  have G1 := Lib.hid (K (fun W hW => HR.out W (bt hqt hW)))
  have G2 := Lib.hid (K (fun W hW => HQ.out W (bt hqt hW)))
  have G5 := Lib.hid (K (fun W hW => HAW.out W (bt hqt hW)))
  clear K
  have c0 := fun d os => cell_regrown y0 d os; have c1 := fun d os => cell_regrown y1 d os; have c2 := fun d os => cell_regrown y2 d os; have c3 := fun d os => cell_regrown y3 d os; have c4 := fun d os => cell_regrown y4 d os; have c5 := fun d os => cell_regrown y5 d os; have c6 := fun d os => cell_regrown y6 d os; have c7 := fun d os => cell_regrown y7 d os; have c8 := fun d os => cell_regrown y8 d os; have c9 := fun d os => cell_regrown y9 d os; have c10 := fun d os => cell_regrown y10 d os; have c11 := fun d os => cell_regrown y11 d os; have c12 := fun d os => cell_regrown y12 d os
  have HQT := Lib.hid hqt
  go_upto_region 3 with fail
  refine wp_region_quiet_below (by kernel_rfl) (by kernel_rfl) ?_
  repeat (go_big_quiet_step (first | with_reducible exact G1.out _ | with_reducible exact G2.out _ | with_reducible exact G5.out _))
  refine wpQuiet_nil ?_
  intro w6 hw6
  have hb6 := below_of_regrown hw6
  clear hw6
  go_wp2_with fail
  go_ret
  exact ⟨rfl, bt HQT.out hb6⟩
end Go.Proofs.YtmabeegoapcfpaaGreatDoor
