/- The reference's sameness of sources. Printed by gen-show10.py. -/
import Derived.Test.YtmabeegoapcfpaaGreatDoorQSoRo
import Derived.Test.YtmabeegoapcfpaaGreatDoorQSoRv
import Derived.Test.YtmabeegoapcfpaaGreatDoorQSameBR
namespace Go.Proofs.YtmabeegoapcfpaaGreatDoor
open Go.RowKit Go.Sort
theorem boxes_kept {w : World} {b c : Nat} {C D : List Value} (h : BoxAt w b C) (k : BoxAt w c D) : Hid (∀ W, Below w.heap.size w W → BoxAt W b C ∧ BoxAt W c D) := fun _ hW => ⟨h.below hW h.1, k.below hW k.1⟩
set_option maxRecDepth 100000 in
set_option maxHeartbeats 40000000 in
theorem rSource_calls (F : Nat → Prop) (w : World) (x y : SrcD) (cs ds : List Value) (hF : Inn F w) (hx : Holds.src.R F w x cs) (hy : Holds.src.R F w y ds) :
    Calls Tryz.prog 12 #[.agg cs.toArray, .agg ds.toArray] w (Gives w (.bool (same x y))) := by
  obtain ⟨da5, fa5, da6, fa6, da7, fa7, da8, fa8, da9, fa9, da10, fa10, da11, fa11, da12, fa12, rfl, ka5, ka6, ka7, ka8, ka9, ka10, ka11, ka12⟩ := src_shape hx
  obtain ⟨db5, fb5, db6, fb6, db7, fb7, db8, fb8, db9, fb9, db10, fb10, db11, fb11, db12, fb12, rfl, kb5, kb6, kb7, kb8, kb9, kb10, kb11, kb12⟩ := src_shape hy
  obtain ⟨x_title, x_author, x_start, x_release, x_most, x_flags, x_props, x_globals, x_objects, x_verbs, x_rules, x_funcs, x_daemons⟩ := x
  obtain ⟨y_title, y_author, y_start, y_release, y_most, y_flags, y_props, y_globals, y_objects, y_verbs, y_rules, y_funcs, y_daemons⟩ := y
  simp only at ka5 kb5 ka6 kb6 ka7 kb7 ka8 kb8 ka9 kb9 ka10 kb10 ka11 kb11 ka12 kb12
  have hc5 := fun (W : World) (hW : Below w.heap.size w W) => rTexts_calls F W x_flags y_flags _ _ (hF.below hW) (RdL.below ka5 hF hW (Nat.le_refl _)) (RdL.below kb5 hF hW (Nat.le_refl _))
  have hc6 := fun (W : World) (hW : Below w.heap.size w W) => rPairs_calls F W x_props y_props _ _ (hF.below hW) (RdL.below ka6 hF hW (Nat.le_refl _)) (RdL.below kb6 hF hW (Nat.le_refl _))
  have hc7 := fun (W : World) (hW : Below w.heap.size w W) => rPairs_calls F W x_globals y_globals _ _ (hF.below hW) (RdL.below ka7 hF hW (Nat.le_refl _)) (RdL.below kb7 hF hW (Nat.le_refl _))
  have hc11 := fun (W : World) (hW : Below w.heap.size w W) => rFuncs_calls F W x_funcs y_funcs _ _ (hF.below hW) (RdL.below ka11 hF hW (Nat.le_refl _)) (RdL.below kb11 hF hW (Nat.le_refl _))
  have hc12 := fun (W : World) (hW : Below w.heap.size w W) => rFuncs_calls F W x_daemons y_daemons _ _ (hF.below hW) (RdL.below ka12 hF hW (Nat.le_refl _)) (RdL.below kb12 hF hW (Nat.le_refl _))
  obtain ⟨W1, hW1⟩ : ∃ W1, w.alloc (.cells #[.string x_title, .string x_author, .string x_start, .int .i64 x_release, .int .i64 x_most, .slice da5 x_flags.length fa5, .slice da6 x_props.length fa6, .slice da7 x_globals.length fa7, .slice da8 x_objects.length fa8, .slice da9 x_verbs.length fa9, .slice da10 x_rules.length fa10, .slice da11 x_funcs.length fa11, .slice da12 x_daemons.length fa12] 29) = W1 := ⟨_, rfl⟩
  have hs1 : W1.heap.size = w.heap.size + 1 := by rw [← hW1]; simp
  have hb1 : Below w.heap.size w W1 := by rw [← hW1]; exact (Below.refl _ _).alloc (Nat.le_refl _) _
  have hbx1 : BoxAt W1 w.heap.size [.string x_title, .string x_author, .string x_start, .int .i64 x_release, .int .i64 x_most, .slice da5 x_flags.length fa5, .slice da6 x_props.length fa6, .slice da7 x_globals.length fa7, .slice da8 x_objects.length fa8, .slice da9 x_verbs.length fa9, .slice da10 x_rules.length fa10, .slice da11 x_funcs.length fa11, .slice da12 x_daemons.length fa12] := by rw [← hW1]; exact BoxAt.new _ _ _
  obtain ⟨W2, hW2⟩ : ∃ W2, W1.alloc (.cells #[.string y_title, .string y_author, .string y_start, .int .i64 y_release, .int .i64 y_most, .slice db5 y_flags.length fb5, .slice db6 y_props.length fb6, .slice db7 y_globals.length fb7, .slice db8 y_objects.length fb8, .slice db9 y_verbs.length fb9, .slice db10 y_rules.length fb10, .slice db11 y_funcs.length fb11, .slice db12 y_daemons.length fb12] 29) = W2 := ⟨_, rfl⟩
  have hs2 : W2.heap.size = w.heap.size + 1 + 1 := by rw [← hW2]; simp; exact hs1
  have hb2 : Below W1.heap.size W1 W2 := by rw [← hW2]; exact (Below.refl _ _).alloc (Nat.le_refl _) _
  have hbx2 : BoxAt W2 W1.heap.size [.string y_title, .string y_author, .string y_start, .int .i64 y_release, .int .i64 y_most, .slice db5 y_flags.length fb5, .slice db6 y_props.length fb6, .slice db7 y_globals.length fb7, .slice db8 y_objects.length fb8, .slice db9 y_verbs.length fb9, .slice db10 y_rules.length fb10, .slice db11 y_funcs.length fb11, .slice db12 y_daemons.length fb12] := by rw [← hW2]; exact BoxAt.new _ _ _
  rw [hs1] at hbx2
  have hE : Hid (∀ W, Below W2.heap.size W2 W → BoxAt W (w.heap.size) [.string x_title, .string x_author, .string x_start, .int .i64 x_release, .int .i64 x_most, .slice da5 x_flags.length fa5, .slice da6 x_props.length fa6, .slice da7 x_globals.length fa7, .slice da8 x_objects.length fa8, .slice da9 x_verbs.length fa9, .slice da10 x_rules.length fa10, .slice da11 x_funcs.length fa11, .slice da12 x_daemons.length fa12] ∧ BoxAt W (w.heap.size + 1) [.string y_title, .string y_author, .string y_start, .int .i64 y_release, .int .i64 y_most, .slice db5 y_flags.length fb5, .slice db6 y_props.length fb6, .slice db7 y_globals.length fb7, .slice db8 y_objects.length fb8, .slice db9 y_verbs.length fb9, .slice db10 y_rules.length fb10, .slice db11 y_funcs.length fb11, .slice db12 y_daemons.length fb12] ∧ Below w.heap.size w W) := fun W h3 => ⟨hbx1.below (bt hb2 h3) (by omega), hbx2.below h3 (by omega), (hb1.trans ((bt hb2 h3).mono hb1.size))⟩
  have HZ0 := Lib.hid hs2
  have HW1 := Lib.hid hW1
  have HW2 := Lib.hid hW2
  clear hW1 hs1 hb1 hbx1 hW2 hs2 hb2 hbx2
  by_cases h : x_title = y_title
  rotate_left
  · have hfin : Hid (same (⟨x_title, x_author, x_start, x_release, x_most, x_flags, x_props, x_globals, x_objects, x_verbs, x_rules, x_funcs, x_daemons⟩ : SrcD) ⟨y_title, y_author, y_start, y_release, y_most, y_flags, y_props, y_globals, y_objects, y_verbs, y_rules, y_funcs, y_daemons⟩ = false) := same_ne (fun e => h (by cases e; rfl))
    have e1 : (x_title.toList == y_title.toList) = false := strne h
    have e2 : (x_title.toList != y_title.toList) = true := by rw [bne, strne h]; rfl
    clear hc5 hc6 hc7 hc11 hc12 ka5 kb5 ka6 kb6 ka7 kb7 ka8 kb8 ka9 kb9 ka10 kb10 ka11 kb11 ka12 kb12 h hF
    go_enter Tryz.func12, Tryz.ntmps12
    go_upto_region 1 with fail
    rw [HW1.out, HW2.out]
    obtain ⟨hq1, hq2, hqt0⟩ := hE.out W2 (Below.refl _ _)
    have HB0 : Below W2.heap.size W2 W2 := Below.refl _ _
    have ga0 := hq1.2 0 (by simp)
    have gb0 := hq2.2 0 (by simp)
    simp only [cqz] at ga0 gb0
    go_wp2_with fail
    go_ret
    exact ⟨ret_bool hfin.out.symm, hqt0⟩
  subst h
  by_cases h : x_author = y_author
  rotate_left
  · have hfin : Hid (same (⟨x_title, x_author, x_start, x_release, x_most, x_flags, x_props, x_globals, x_objects, x_verbs, x_rules, x_funcs, x_daemons⟩ : SrcD) ⟨x_title, y_author, y_start, y_release, y_most, y_flags, y_props, y_globals, y_objects, y_verbs, y_rules, y_funcs, y_daemons⟩ = false) := same_ne (fun e => h (by cases e; rfl))
    have e1 : (x_author.toList == y_author.toList) = false := strne h
    have e2 : (x_author.toList != y_author.toList) = true := by rw [bne, strne h]; rfl
    clear hc5 hc6 hc7 hc11 hc12 ka5 kb5 ka6 kb6 ka7 kb7 ka8 kb8 ka9 kb9 ka10 kb10 ka11 kb11 ka12 kb12 h hF
    go_enter Tryz.func12, Tryz.ntmps12
    go_upto_region 1 with fail
    rw [HW1.out, HW2.out]
    obtain ⟨hq1, hq2, hqt0⟩ := hE.out W2 (Below.refl _ _)
    have HB0 : Below W2.heap.size W2 W2 := Below.refl _ _
    have ga0 := hq1.2 0 (by simp)
    have ga1 := hq1.2 1 (by simp)
    have gb0 := hq2.2 0 (by simp)
    have gb1 := hq2.2 1 (by simp)
    simp only [cqs, cqz] at ga0 ga1 gb0 gb1
    go_wp2_with fail
    go_ret
    exact ⟨ret_bool hfin.out.symm, hqt0⟩
  subst h
  by_cases h : x_start = y_start
  rotate_left
  · have hfin : Hid (same (⟨x_title, x_author, x_start, x_release, x_most, x_flags, x_props, x_globals, x_objects, x_verbs, x_rules, x_funcs, x_daemons⟩ : SrcD) ⟨x_title, x_author, y_start, y_release, y_most, y_flags, y_props, y_globals, y_objects, y_verbs, y_rules, y_funcs, y_daemons⟩ = false) := same_ne (fun e => h (by cases e; rfl))
    have e1 : (x_start.toList == y_start.toList) = false := strne h
    have e2 : (x_start.toList != y_start.toList) = true := by rw [bne, strne h]; rfl
    clear hc5 hc6 hc7 hc11 hc12 ka5 kb5 ka6 kb6 ka7 kb7 ka8 kb8 ka9 kb9 ka10 kb10 ka11 kb11 ka12 kb12 h hF
    go_enter Tryz.func12, Tryz.ntmps12
    go_upto_region 1 with fail
    rw [HW1.out, HW2.out]
    obtain ⟨hq1, hq2, hqt0⟩ := hE.out W2 (Below.refl _ _)
    have HB0 : Below W2.heap.size W2 W2 := Below.refl _ _
    have ga0 := hq1.2 0 (by simp)
    have ga1 := hq1.2 1 (by simp)
    have ga2 := hq1.2 2 (by simp)
    have gb0 := hq2.2 0 (by simp)
    have gb1 := hq2.2 1 (by simp)
    have gb2 := hq2.2 2 (by simp)
    simp only [cqs, cqz] at ga0 ga1 ga2 gb0 gb1 gb2
    go_wp2_with fail
    go_ret
    exact ⟨ret_bool hfin.out.symm, hqt0⟩
  subst h
  by_cases h : x_release = y_release
  rotate_left
  · have hfin : Hid (same (⟨x_title, x_author, x_start, x_release, x_most, x_flags, x_props, x_globals, x_objects, x_verbs, x_rules, x_funcs, x_daemons⟩ : SrcD) ⟨x_title, x_author, x_start, y_release, y_most, y_flags, y_props, y_globals, y_objects, y_verbs, y_rules, y_funcs, y_daemons⟩ = false) := same_ne (fun e => h (by cases e; rfl))
    have e1 : (x_release == y_release) = false := by simpa using h
    have e2 : (x_release != y_release) = true := by simpa using h
    clear hc5 hc6 hc7 hc11 hc12 ka5 kb5 ka6 kb6 ka7 kb7 ka8 kb8 ka9 kb9 ka10 kb10 ka11 kb11 ka12 kb12 h hF
    go_enter Tryz.func12, Tryz.ntmps12
    go_upto_region 1 with fail
    rw [HW1.out, HW2.out]
    obtain ⟨hq1, hq2, hqt0⟩ := hE.out W2 (Below.refl _ _)
    have HB0 : Below W2.heap.size W2 W2 := Below.refl _ _
    have ga0 := hq1.2 0 (by simp)
    have ga1 := hq1.2 1 (by simp)
    have ga2 := hq1.2 2 (by simp)
    have ga3 := hq1.2 3 (by simp)
    have gb0 := hq2.2 0 (by simp)
    have gb1 := hq2.2 1 (by simp)
    have gb2 := hq2.2 2 (by simp)
    have gb3 := hq2.2 3 (by simp)
    simp only [cqs, cqz] at ga0 ga1 ga2 ga3 gb0 gb1 gb2 gb3
    go_wp2_with fail
    go_ret
    exact ⟨ret_bool hfin.out.symm, hqt0⟩
  subst h
  by_cases h : x_most = y_most
  rotate_left
  · have hfin : Hid (same (⟨x_title, x_author, x_start, x_release, x_most, x_flags, x_props, x_globals, x_objects, x_verbs, x_rules, x_funcs, x_daemons⟩ : SrcD) ⟨x_title, x_author, x_start, x_release, y_most, y_flags, y_props, y_globals, y_objects, y_verbs, y_rules, y_funcs, y_daemons⟩ = false) := same_ne (fun e => h (by cases e; rfl))
    have e1 : (x_most == y_most) = false := by simpa using h
    have e2 : (x_most != y_most) = true := by simpa using h
    clear hc5 hc6 hc7 hc11 hc12 ka5 kb5 ka6 kb6 ka7 kb7 ka8 kb8 ka9 kb9 ka10 kb10 ka11 kb11 ka12 kb12 h hF
    go_enter Tryz.func12, Tryz.ntmps12
    go_upto_region 1 with fail
    rw [HW1.out, HW2.out]
    obtain ⟨hq1, hq2, hqt0⟩ := hE.out W2 (Below.refl _ _)
    have HB0 : Below W2.heap.size W2 W2 := Below.refl _ _
    have ga0 := hq1.2 0 (by simp)
    have ga1 := hq1.2 1 (by simp)
    have ga2 := hq1.2 2 (by simp)
    have ga3 := hq1.2 3 (by simp)
    have ga4 := hq1.2 4 (by simp)
    have gb0 := hq2.2 0 (by simp)
    have gb1 := hq2.2 1 (by simp)
    have gb2 := hq2.2 2 (by simp)
    have gb3 := hq2.2 3 (by simp)
    have gb4 := hq2.2 4 (by simp)
    simp only [cqs, cqz] at ga0 ga1 ga2 ga3 ga4 gb0 gb1 gb2 gb3 gb4
    go_wp2_with fail
    go_ret
    exact ⟨ret_bool hfin.out.symm, hqt0⟩
  subst h
  by_cases h : x_flags = y_flags
  rotate_left
  · have hfin : Hid (same (⟨x_title, x_author, x_start, x_release, x_most, x_flags, x_props, x_globals, x_objects, x_verbs, x_rules, x_funcs, x_daemons⟩ : SrcD) ⟨x_title, x_author, x_start, x_release, x_most, y_flags, y_props, y_globals, y_objects, y_verbs, y_rules, y_funcs, y_daemons⟩ = false) := same_ne (fun e => h (by cases e; rfl))
    simp only [same_ne h] at hc5
    have HC5 := Lib.hid hc5
    clear hc5 hc6 hc7 hc11 hc12 ka5 kb5 ka6 kb6 ka7 kb7 ka8 kb8 ka9 kb9 ka10 kb10 ka11 kb11 ka12 kb12 h hF
    go_enter Tryz.func12, Tryz.ntmps12
    go_upto_region 1 with fail
    rw [HW1.out, HW2.out]
    obtain ⟨hq1, hq2, hqt0⟩ := hE.out W2 (Below.refl _ _)
    have HB0 : Below W2.heap.size W2 W2 := Below.refl _ _
    have ga0 := hq1.2 0 (by simp)
    have ga1 := hq1.2 1 (by simp)
    have ga2 := hq1.2 2 (by simp)
    have ga3 := hq1.2 3 (by simp)
    have ga4 := hq1.2 4 (by simp)
    have ga5 := hq1.2 5 (by simp)
    have gb0 := hq2.2 0 (by simp)
    have gb1 := hq2.2 1 (by simp)
    have gb2 := hq2.2 2 (by simp)
    have gb3 := hq2.2 3 (by simp)
    have gb4 := hq2.2 4 (by simp)
    have gb5 := hq2.2 5 (by simp)
    simp only [cqs, cqz] at ga0 ga1 ga2 ga3 ga4 ga5 gb0 gb1 gb2 gb3 gb4 gb5
    go_wp2_with (go_at_call 53; (with_reducible refine (HC5.out W2 hqt0).mono ?_); rintro e1 w1 ⟨rfl, hb1⟩; have HB1 := bt HB0 hb1; obtain ⟨r1hq1, r1hq2, hqt1⟩ := hE.out w1 HB1)
    go_ret
    exact ⟨ret_bool hfin.out.symm, hqt1⟩
  subst h
  by_cases h : x_props = y_props
  rotate_left
  · have hfin : Hid (same (⟨x_title, x_author, x_start, x_release, x_most, x_flags, x_props, x_globals, x_objects, x_verbs, x_rules, x_funcs, x_daemons⟩ : SrcD) ⟨x_title, x_author, x_start, x_release, x_most, x_flags, y_props, y_globals, y_objects, y_verbs, y_rules, y_funcs, y_daemons⟩ = false) := same_ne (fun e => h (by cases e; rfl))
    simp only [same_self] at hc5
    have HC5 := Lib.hid hc5
    simp only [same_ne h] at hc6
    have HC6 := Lib.hid hc6
    clear hc5 hc6 hc7 hc11 hc12 ka5 kb5 ka6 kb6 ka7 kb7 ka8 kb8 ka9 kb9 ka10 kb10 ka11 kb11 ka12 kb12 h hF
    go_enter Tryz.func12, Tryz.ntmps12
    go_upto_region 1 with fail
    rw [HW1.out, HW2.out]
    obtain ⟨hq1, hq2, hqt0⟩ := hE.out W2 (Below.refl _ _)
    have HB0 : Below W2.heap.size W2 W2 := Below.refl _ _
    have ga0 := hq1.2 0 (by simp)
    have ga1 := hq1.2 1 (by simp)
    have ga2 := hq1.2 2 (by simp)
    have ga3 := hq1.2 3 (by simp)
    have ga4 := hq1.2 4 (by simp)
    have ga5 := hq1.2 5 (by simp)
    have ga6 := hq1.2 6 (by simp)
    have gb0 := hq2.2 0 (by simp)
    have gb1 := hq2.2 1 (by simp)
    have gb2 := hq2.2 2 (by simp)
    have gb3 := hq2.2 3 (by simp)
    have gb4 := hq2.2 4 (by simp)
    have gb5 := hq2.2 5 (by simp)
    have gb6 := hq2.2 6 (by simp)
    simp only [cqs, cqz] at ga0 ga1 ga2 ga3 ga4 ga5 ga6 gb0 gb1 gb2 gb3 gb4 gb5 gb6
    go_wp2_with (first | (go_at_call 53; (with_reducible refine (HC5.out W2 hqt0).mono ?_); rintro e1 w1 ⟨rfl, hb1⟩; have HB1 := bt HB0 hb1; obtain ⟨r1hq1, r1hq2, hqt1⟩ := hE.out w1 HB1; have g1_a6 := r1hq1.2 6 (by simp); have g1_b6 := r1hq2.2 6 (by simp); simp only [cqs, cqz] at g1_a6 g1_b6) | (go_at_call 54; (with_reducible refine (HC6.out w1 hqt1).mono ?_); rintro e2 w2 ⟨rfl, hb2⟩; have HB2 := bt HB1 hb2; obtain ⟨r2hq1, r2hq2, hqt2⟩ := hE.out w2 HB2))
    go_ret
    exact ⟨ret_bool hfin.out.symm, hqt2⟩
  subst h
  by_cases h : x_globals = y_globals
  rotate_left
  · have hfin : Hid (same (⟨x_title, x_author, x_start, x_release, x_most, x_flags, x_props, x_globals, x_objects, x_verbs, x_rules, x_funcs, x_daemons⟩ : SrcD) ⟨x_title, x_author, x_start, x_release, x_most, x_flags, x_props, y_globals, y_objects, y_verbs, y_rules, y_funcs, y_daemons⟩ = false) := same_ne (fun e => h (by cases e; rfl))
    simp only [same_self] at hc5
    have HC5 := Lib.hid hc5
    simp only [same_self] at hc6
    have HC6 := Lib.hid hc6
    simp only [same_ne h] at hc7
    have HC7 := Lib.hid hc7
    clear hc5 hc6 hc7 hc11 hc12 ka5 kb5 ka6 kb6 ka7 kb7 ka8 kb8 ka9 kb9 ka10 kb10 ka11 kb11 ka12 kb12 h hF
    go_enter Tryz.func12, Tryz.ntmps12
    go_upto_region 1 with fail
    rw [HW1.out, HW2.out]
    obtain ⟨hq1, hq2, hqt0⟩ := hE.out W2 (Below.refl _ _)
    have HB0 : Below W2.heap.size W2 W2 := Below.refl _ _
    have ga0 := hq1.2 0 (by simp)
    have ga1 := hq1.2 1 (by simp)
    have ga2 := hq1.2 2 (by simp)
    have ga3 := hq1.2 3 (by simp)
    have ga4 := hq1.2 4 (by simp)
    have ga5 := hq1.2 5 (by simp)
    have ga6 := hq1.2 6 (by simp)
    have ga7 := hq1.2 7 (by simp)
    have gb0 := hq2.2 0 (by simp)
    have gb1 := hq2.2 1 (by simp)
    have gb2 := hq2.2 2 (by simp)
    have gb3 := hq2.2 3 (by simp)
    have gb4 := hq2.2 4 (by simp)
    have gb5 := hq2.2 5 (by simp)
    have gb6 := hq2.2 6 (by simp)
    have gb7 := hq2.2 7 (by simp)
    simp only [cqs, cqz] at ga0 ga1 ga2 ga3 ga4 ga5 ga6 ga7 gb0 gb1 gb2 gb3 gb4 gb5 gb6 gb7
    go_wp2_with (first | (go_at_call 53; (with_reducible refine (HC5.out W2 hqt0).mono ?_); rintro e1 w1 ⟨rfl, hb1⟩; have HB1 := bt HB0 hb1; obtain ⟨r1hq1, r1hq2, hqt1⟩ := hE.out w1 HB1; have g1_a6 := r1hq1.2 6 (by simp); have g1_a7 := r1hq1.2 7 (by simp); have g1_b6 := r1hq2.2 6 (by simp); have g1_b7 := r1hq2.2 7 (by simp); simp only [cqs, cqz] at g1_a6 g1_a7 g1_b6 g1_b7) | (go_at_call 54; (with_reducible refine (HC6.out w1 hqt1).mono ?_); rintro e2 w2 ⟨rfl, hb2⟩; have HB2 := bt HB1 hb2; obtain ⟨r2hq1, r2hq2, hqt2⟩ := hE.out w2 HB2; have g2_a7 := r2hq1.2 7 (by simp); have g2_b7 := r2hq2.2 7 (by simp); simp only [cqs, cqz] at g2_a7 g2_b7) | (go_at_call 54; (with_reducible refine (HC7.out w2 hqt2).mono ?_); rintro e3 w3 ⟨rfl, hb3⟩; have HB3 := bt HB2 hb3; obtain ⟨r3hq1, r3hq2, hqt3⟩ := hE.out w3 HB3))
    go_ret
    exact ⟨ret_bool hfin.out.symm, hqt3⟩
  subst h
  by_cases h : x_objects.length = y_objects.length
  rotate_left
  · have hfin : Hid (same (⟨x_title, x_author, x_start, x_release, x_most, x_flags, x_props, x_globals, x_objects, x_verbs, x_rules, x_funcs, x_daemons⟩ : SrcD) ⟨x_title, x_author, x_start, x_release, x_most, x_flags, x_props, x_globals, y_objects, y_verbs, y_rules, y_funcs, y_daemons⟩ = false) := same_ne (fun e => h (by cases e; rfl))
    have e1 : ((x_objects.length : Int) != (y_objects.length : Int)) = true := by simp; omega
    simp only [same_self] at hc5
    have HC5 := Lib.hid hc5
    simp only [same_self] at hc6
    have HC6 := Lib.hid hc6
    simp only [same_self] at hc7
    have HC7 := Lib.hid hc7
    clear hc5 hc6 hc7 hc11 hc12 ka5 kb5 ka6 kb6 ka7 kb7 ka8 kb8 ka9 kb9 ka10 kb10 ka11 kb11 ka12 kb12 h hF
    go_enter Tryz.func12, Tryz.ntmps12
    go_upto_region 1 with fail
    rw [HW1.out, HW2.out]
    obtain ⟨hq1, hq2, hqt0⟩ := hE.out W2 (Below.refl _ _)
    have HB0 : Below W2.heap.size W2 W2 := Below.refl _ _
    have ga0 := hq1.2 0 (by simp)
    have ga1 := hq1.2 1 (by simp)
    have ga2 := hq1.2 2 (by simp)
    have ga3 := hq1.2 3 (by simp)
    have ga4 := hq1.2 4 (by simp)
    have ga5 := hq1.2 5 (by simp)
    have ga6 := hq1.2 6 (by simp)
    have ga7 := hq1.2 7 (by simp)
    have ga8 := hq1.2 8 (by simp)
    have gb0 := hq2.2 0 (by simp)
    have gb1 := hq2.2 1 (by simp)
    have gb2 := hq2.2 2 (by simp)
    have gb3 := hq2.2 3 (by simp)
    have gb4 := hq2.2 4 (by simp)
    have gb5 := hq2.2 5 (by simp)
    have gb6 := hq2.2 6 (by simp)
    have gb7 := hq2.2 7 (by simp)
    have gb8 := hq2.2 8 (by simp)
    simp only [cqs, cqz] at ga0 ga1 ga2 ga3 ga4 ga5 ga6 ga7 ga8 gb0 gb1 gb2 gb3 gb4 gb5 gb6 gb7 gb8
    go_wp2_with (first | (go_at_call 53; (with_reducible refine (HC5.out W2 hqt0).mono ?_); rintro e1 w1 ⟨rfl, hb1⟩; have HB1 := bt HB0 hb1; obtain ⟨r1hq1, r1hq2, hqt1⟩ := hE.out w1 HB1; have g1_a6 := r1hq1.2 6 (by simp); have g1_a7 := r1hq1.2 7 (by simp); have g1_a8 := r1hq1.2 8 (by simp); have g1_b6 := r1hq2.2 6 (by simp); have g1_b7 := r1hq2.2 7 (by simp); have g1_b8 := r1hq2.2 8 (by simp); simp only [cqs, cqz] at g1_a6 g1_a7 g1_a8 g1_b6 g1_b7 g1_b8) | (go_at_call 54; (with_reducible refine (HC6.out w1 hqt1).mono ?_); rintro e2 w2 ⟨rfl, hb2⟩; have HB2 := bt HB1 hb2; obtain ⟨r2hq1, r2hq2, hqt2⟩ := hE.out w2 HB2; have g2_a7 := r2hq1.2 7 (by simp); have g2_a8 := r2hq1.2 8 (by simp); have g2_b7 := r2hq2.2 7 (by simp); have g2_b8 := r2hq2.2 8 (by simp); simp only [cqs, cqz] at g2_a7 g2_a8 g2_b7 g2_b8) | (go_at_call 54; (with_reducible refine (HC7.out w2 hqt2).mono ?_); rintro e3 w3 ⟨rfl, hb3⟩; have HB3 := bt HB2 hb3; obtain ⟨r3hq1, r3hq2, hqt3⟩ := hE.out w3 HB3; have g3_a8 := r3hq1.2 8 (by simp); have g3_b8 := r3hq2.2 8 (by simp); simp only [cqs, cqz] at g3_a8 g3_b8))
    go_ret
    exact ⟨ret_bool hfin.out.symm, hqt3⟩
  have HL8 := Lib.hid h
  have n8 : ((x_objects.length : Int) != (y_objects.length : Int)) = false := by simp [h]
  clear h
  by_cases h : x_verbs.length = y_verbs.length
  rotate_left
  · have hfin : Hid (same (⟨x_title, x_author, x_start, x_release, x_most, x_flags, x_props, x_globals, x_objects, x_verbs, x_rules, x_funcs, x_daemons⟩ : SrcD) ⟨x_title, x_author, x_start, x_release, x_most, x_flags, x_props, x_globals, y_objects, y_verbs, y_rules, y_funcs, y_daemons⟩ = false) := same_ne (fun e => h (by cases e; rfl))
    have e1 : ((x_verbs.length : Int) != (y_verbs.length : Int)) = true := by simp; omega
    simp only [same_self] at hc5
    have HC5 := Lib.hid hc5
    simp only [same_self] at hc6
    have HC6 := Lib.hid hc6
    simp only [same_self] at hc7
    have HC7 := Lib.hid hc7
    clear hc5 hc6 hc7 hc11 hc12 ka5 kb5 ka6 kb6 ka7 kb7 ka8 kb8 ka9 kb9 ka10 kb10 ka11 kb11 ka12 kb12 h hF
    go_enter Tryz.func12, Tryz.ntmps12
    go_upto_region 1 with fail
    rw [HW1.out, HW2.out]
    obtain ⟨hq1, hq2, hqt0⟩ := hE.out W2 (Below.refl _ _)
    have HB0 : Below W2.heap.size W2 W2 := Below.refl _ _
    have ga0 := hq1.2 0 (by simp)
    have ga1 := hq1.2 1 (by simp)
    have ga2 := hq1.2 2 (by simp)
    have ga3 := hq1.2 3 (by simp)
    have ga4 := hq1.2 4 (by simp)
    have ga5 := hq1.2 5 (by simp)
    have ga6 := hq1.2 6 (by simp)
    have ga7 := hq1.2 7 (by simp)
    have ga8 := hq1.2 8 (by simp)
    have ga9 := hq1.2 9 (by simp)
    have gb0 := hq2.2 0 (by simp)
    have gb1 := hq2.2 1 (by simp)
    have gb2 := hq2.2 2 (by simp)
    have gb3 := hq2.2 3 (by simp)
    have gb4 := hq2.2 4 (by simp)
    have gb5 := hq2.2 5 (by simp)
    have gb6 := hq2.2 6 (by simp)
    have gb7 := hq2.2 7 (by simp)
    have gb8 := hq2.2 8 (by simp)
    have gb9 := hq2.2 9 (by simp)
    simp only [cqs, cqz] at ga0 ga1 ga2 ga3 ga4 ga5 ga6 ga7 ga8 ga9 gb0 gb1 gb2 gb3 gb4 gb5 gb6 gb7 gb8 gb9
    go_wp2_with (first | (go_at_call 53; (with_reducible refine (HC5.out W2 hqt0).mono ?_); rintro e1 w1 ⟨rfl, hb1⟩; have HB1 := bt HB0 hb1; obtain ⟨r1hq1, r1hq2, hqt1⟩ := hE.out w1 HB1; have g1_a6 := r1hq1.2 6 (by simp); have g1_a7 := r1hq1.2 7 (by simp); have g1_a8 := r1hq1.2 8 (by simp); have g1_a9 := r1hq1.2 9 (by simp); have g1_b6 := r1hq2.2 6 (by simp); have g1_b7 := r1hq2.2 7 (by simp); have g1_b8 := r1hq2.2 8 (by simp); have g1_b9 := r1hq2.2 9 (by simp); simp only [cqs, cqz] at g1_a6 g1_a7 g1_a8 g1_a9 g1_b6 g1_b7 g1_b8 g1_b9) | (go_at_call 54; (with_reducible refine (HC6.out w1 hqt1).mono ?_); rintro e2 w2 ⟨rfl, hb2⟩; have HB2 := bt HB1 hb2; obtain ⟨r2hq1, r2hq2, hqt2⟩ := hE.out w2 HB2; have g2_a7 := r2hq1.2 7 (by simp); have g2_a8 := r2hq1.2 8 (by simp); have g2_a9 := r2hq1.2 9 (by simp); have g2_b7 := r2hq2.2 7 (by simp); have g2_b8 := r2hq2.2 8 (by simp); have g2_b9 := r2hq2.2 9 (by simp); simp only [cqs, cqz] at g2_a7 g2_a8 g2_a9 g2_b7 g2_b8 g2_b9) | (go_at_call 54; (with_reducible refine (HC7.out w2 hqt2).mono ?_); rintro e3 w3 ⟨rfl, hb3⟩; have HB3 := bt HB2 hb3; obtain ⟨r3hq1, r3hq2, hqt3⟩ := hE.out w3 HB3; have g3_a8 := r3hq1.2 8 (by simp); have g3_a9 := r3hq1.2 9 (by simp); have g3_b8 := r3hq2.2 8 (by simp); have g3_b9 := r3hq2.2 9 (by simp); simp only [cqs, cqz] at g3_a8 g3_a9 g3_b8 g3_b9))
    go_ret
    exact ⟨ret_bool hfin.out.symm, hqt3⟩
  have HL9 := Lib.hid h
  have n9 : ((x_verbs.length : Int) != (y_verbs.length : Int)) = false := by simp [h]
  clear h
  by_cases h : x_rules.length = y_rules.length
  rotate_left
  · have hfin : Hid (same (⟨x_title, x_author, x_start, x_release, x_most, x_flags, x_props, x_globals, x_objects, x_verbs, x_rules, x_funcs, x_daemons⟩ : SrcD) ⟨x_title, x_author, x_start, x_release, x_most, x_flags, x_props, x_globals, y_objects, y_verbs, y_rules, y_funcs, y_daemons⟩ = false) := same_ne (fun e => h (by cases e; rfl))
    have e1 : ((x_rules.length : Int) != (y_rules.length : Int)) = true := by simp; omega
    simp only [same_self] at hc5
    have HC5 := Lib.hid hc5
    simp only [same_self] at hc6
    have HC6 := Lib.hid hc6
    simp only [same_self] at hc7
    have HC7 := Lib.hid hc7
    clear hc5 hc6 hc7 hc11 hc12 ka5 kb5 ka6 kb6 ka7 kb7 ka8 kb8 ka9 kb9 ka10 kb10 ka11 kb11 ka12 kb12 h hF
    go_enter Tryz.func12, Tryz.ntmps12
    go_upto_region 1 with fail
    rw [HW1.out, HW2.out]
    obtain ⟨hq1, hq2, hqt0⟩ := hE.out W2 (Below.refl _ _)
    have HB0 : Below W2.heap.size W2 W2 := Below.refl _ _
    have ga0 := hq1.2 0 (by simp)
    have ga1 := hq1.2 1 (by simp)
    have ga2 := hq1.2 2 (by simp)
    have ga3 := hq1.2 3 (by simp)
    have ga4 := hq1.2 4 (by simp)
    have ga5 := hq1.2 5 (by simp)
    have ga6 := hq1.2 6 (by simp)
    have ga7 := hq1.2 7 (by simp)
    have ga8 := hq1.2 8 (by simp)
    have ga9 := hq1.2 9 (by simp)
    have ga10 := hq1.2 10 (by simp)
    have gb0 := hq2.2 0 (by simp)
    have gb1 := hq2.2 1 (by simp)
    have gb2 := hq2.2 2 (by simp)
    have gb3 := hq2.2 3 (by simp)
    have gb4 := hq2.2 4 (by simp)
    have gb5 := hq2.2 5 (by simp)
    have gb6 := hq2.2 6 (by simp)
    have gb7 := hq2.2 7 (by simp)
    have gb8 := hq2.2 8 (by simp)
    have gb9 := hq2.2 9 (by simp)
    have gb10 := hq2.2 10 (by simp)
    simp only [cqs, cqz] at ga0 ga1 ga2 ga3 ga4 ga5 ga6 ga7 ga8 ga9 ga10 gb0 gb1 gb2 gb3 gb4 gb5 gb6 gb7 gb8 gb9 gb10
    go_wp2_with (first | (go_at_call 53; (with_reducible refine (HC5.out W2 hqt0).mono ?_); rintro e1 w1 ⟨rfl, hb1⟩; have HB1 := bt HB0 hb1; obtain ⟨r1hq1, r1hq2, hqt1⟩ := hE.out w1 HB1; have g1_a6 := r1hq1.2 6 (by simp); have g1_a7 := r1hq1.2 7 (by simp); have g1_a8 := r1hq1.2 8 (by simp); have g1_a9 := r1hq1.2 9 (by simp); have g1_a10 := r1hq1.2 10 (by simp); have g1_b6 := r1hq2.2 6 (by simp); have g1_b7 := r1hq2.2 7 (by simp); have g1_b8 := r1hq2.2 8 (by simp); have g1_b9 := r1hq2.2 9 (by simp); have g1_b10 := r1hq2.2 10 (by simp); simp only [cqs, cqz] at g1_a6 g1_a7 g1_a8 g1_a9 g1_a10 g1_b6 g1_b7 g1_b8 g1_b9 g1_b10) | (go_at_call 54; (with_reducible refine (HC6.out w1 hqt1).mono ?_); rintro e2 w2 ⟨rfl, hb2⟩; have HB2 := bt HB1 hb2; obtain ⟨r2hq1, r2hq2, hqt2⟩ := hE.out w2 HB2; have g2_a7 := r2hq1.2 7 (by simp); have g2_a8 := r2hq1.2 8 (by simp); have g2_a9 := r2hq1.2 9 (by simp); have g2_a10 := r2hq1.2 10 (by simp); have g2_b7 := r2hq2.2 7 (by simp); have g2_b8 := r2hq2.2 8 (by simp); have g2_b9 := r2hq2.2 9 (by simp); have g2_b10 := r2hq2.2 10 (by simp); simp only [cqs, cqz] at g2_a7 g2_a8 g2_a9 g2_a10 g2_b7 g2_b8 g2_b9 g2_b10) | (go_at_call 54; (with_reducible refine (HC7.out w2 hqt2).mono ?_); rintro e3 w3 ⟨rfl, hb3⟩; have HB3 := bt HB2 hb3; obtain ⟨r3hq1, r3hq2, hqt3⟩ := hE.out w3 HB3; have g3_a8 := r3hq1.2 8 (by simp); have g3_a9 := r3hq1.2 9 (by simp); have g3_a10 := r3hq1.2 10 (by simp); have g3_b8 := r3hq2.2 8 (by simp); have g3_b9 := r3hq2.2 9 (by simp); have g3_b10 := r3hq2.2 10 (by simp); simp only [cqs, cqz] at g3_a8 g3_a9 g3_a10 g3_b8 g3_b9 g3_b10))
    go_ret
    exact ⟨ret_bool hfin.out.symm, hqt3⟩
  have HL10 := Lib.hid h
  have n10 : ((x_rules.length : Int) != (y_rules.length : Int)) = false := by simp [h]
  clear h
  by_cases h : x_funcs = y_funcs
  rotate_left
  · have hfin : Hid (same (⟨x_title, x_author, x_start, x_release, x_most, x_flags, x_props, x_globals, x_objects, x_verbs, x_rules, x_funcs, x_daemons⟩ : SrcD) ⟨x_title, x_author, x_start, x_release, x_most, x_flags, x_props, x_globals, y_objects, y_verbs, y_rules, y_funcs, y_daemons⟩ = false) := same_ne (fun e => h (by cases e; rfl))
    simp only [same_self] at hc5
    have HC5 := Lib.hid hc5
    simp only [same_self] at hc6
    have HC6 := Lib.hid hc6
    simp only [same_self] at hc7
    have HC7 := Lib.hid hc7
    simp only [same_ne h] at hc11
    have HC11 := Lib.hid hc11
    clear hc5 hc6 hc7 hc11 hc12 ka5 kb5 ka6 kb6 ka7 kb7 ka8 kb8 ka9 kb9 ka10 kb10 ka11 kb11 ka12 kb12 h hF
    go_enter Tryz.func12, Tryz.ntmps12
    go_upto_region 1 with fail
    rw [HW1.out, HW2.out]
    obtain ⟨hq1, hq2, hqt0⟩ := hE.out W2 (Below.refl _ _)
    have HB0 : Below W2.heap.size W2 W2 := Below.refl _ _
    have ga0 := hq1.2 0 (by simp)
    have ga1 := hq1.2 1 (by simp)
    have ga2 := hq1.2 2 (by simp)
    have ga3 := hq1.2 3 (by simp)
    have ga4 := hq1.2 4 (by simp)
    have ga5 := hq1.2 5 (by simp)
    have ga6 := hq1.2 6 (by simp)
    have ga7 := hq1.2 7 (by simp)
    have ga8 := hq1.2 8 (by simp)
    have ga9 := hq1.2 9 (by simp)
    have ga10 := hq1.2 10 (by simp)
    have ga11 := hq1.2 11 (by simp)
    have gb0 := hq2.2 0 (by simp)
    have gb1 := hq2.2 1 (by simp)
    have gb2 := hq2.2 2 (by simp)
    have gb3 := hq2.2 3 (by simp)
    have gb4 := hq2.2 4 (by simp)
    have gb5 := hq2.2 5 (by simp)
    have gb6 := hq2.2 6 (by simp)
    have gb7 := hq2.2 7 (by simp)
    have gb8 := hq2.2 8 (by simp)
    have gb9 := hq2.2 9 (by simp)
    have gb10 := hq2.2 10 (by simp)
    have gb11 := hq2.2 11 (by simp)
    simp only [cqs, cqz] at ga0 ga1 ga2 ga3 ga4 ga5 ga6 ga7 ga8 ga9 ga10 ga11 gb0 gb1 gb2 gb3 gb4 gb5 gb6 gb7 gb8 gb9 gb10 gb11
    go_wp2_with (first | (go_at_call 53; (with_reducible refine (HC5.out W2 hqt0).mono ?_); rintro e1 w1 ⟨rfl, hb1⟩; have HB1 := bt HB0 hb1; obtain ⟨r1hq1, r1hq2, hqt1⟩ := hE.out w1 HB1; have g1_a6 := r1hq1.2 6 (by simp); have g1_a7 := r1hq1.2 7 (by simp); have g1_a8 := r1hq1.2 8 (by simp); have g1_a9 := r1hq1.2 9 (by simp); have g1_a10 := r1hq1.2 10 (by simp); have g1_a11 := r1hq1.2 11 (by simp); have g1_b6 := r1hq2.2 6 (by simp); have g1_b7 := r1hq2.2 7 (by simp); have g1_b8 := r1hq2.2 8 (by simp); have g1_b9 := r1hq2.2 9 (by simp); have g1_b10 := r1hq2.2 10 (by simp); have g1_b11 := r1hq2.2 11 (by simp); simp only [cqs, cqz] at g1_a6 g1_a7 g1_a8 g1_a9 g1_a10 g1_a11 g1_b6 g1_b7 g1_b8 g1_b9 g1_b10 g1_b11) | (go_at_call 54; (with_reducible refine (HC6.out w1 hqt1).mono ?_); rintro e2 w2 ⟨rfl, hb2⟩; have HB2 := bt HB1 hb2; obtain ⟨r2hq1, r2hq2, hqt2⟩ := hE.out w2 HB2; have g2_a7 := r2hq1.2 7 (by simp); have g2_a8 := r2hq1.2 8 (by simp); have g2_a9 := r2hq1.2 9 (by simp); have g2_a10 := r2hq1.2 10 (by simp); have g2_a11 := r2hq1.2 11 (by simp); have g2_b7 := r2hq2.2 7 (by simp); have g2_b8 := r2hq2.2 8 (by simp); have g2_b9 := r2hq2.2 9 (by simp); have g2_b10 := r2hq2.2 10 (by simp); have g2_b11 := r2hq2.2 11 (by simp); simp only [cqs, cqz] at g2_a7 g2_a8 g2_a9 g2_a10 g2_a11 g2_b7 g2_b8 g2_b9 g2_b10 g2_b11) | (go_at_call 54; (with_reducible refine (HC7.out w2 hqt2).mono ?_); rintro e3 w3 ⟨rfl, hb3⟩; have HB3 := bt HB2 hb3; obtain ⟨r3hq1, r3hq2, hqt3⟩ := hE.out w3 HB3; have g3_a8 := r3hq1.2 8 (by simp); have g3_a9 := r3hq1.2 9 (by simp); have g3_a10 := r3hq1.2 10 (by simp); have g3_a11 := r3hq1.2 11 (by simp); have g3_b8 := r3hq2.2 8 (by simp); have g3_b9 := r3hq2.2 9 (by simp); have g3_b10 := r3hq2.2 10 (by simp); have g3_b11 := r3hq2.2 11 (by simp); simp only [cqs, cqz] at g3_a8 g3_a9 g3_a10 g3_a11 g3_b8 g3_b9 g3_b10 g3_b11) | (go_at_call 55; (with_reducible refine (HC11.out w3 hqt3).mono ?_); rintro e4 w4 ⟨rfl, hb4⟩; have HB4 := bt HB3 hb4; obtain ⟨r4hq1, r4hq2, hqt4⟩ := hE.out w4 HB4))
    go_ret
    exact ⟨ret_bool hfin.out.symm, hqt4⟩
  subst h
  by_cases h : x_daemons = y_daemons
  rotate_left
  · have hfin : Hid (same (⟨x_title, x_author, x_start, x_release, x_most, x_flags, x_props, x_globals, x_objects, x_verbs, x_rules, x_funcs, x_daemons⟩ : SrcD) ⟨x_title, x_author, x_start, x_release, x_most, x_flags, x_props, x_globals, y_objects, y_verbs, y_rules, x_funcs, y_daemons⟩ = false) := same_ne (fun e => h (by cases e; rfl))
    simp only [same_self] at hc5
    have HC5 := Lib.hid hc5
    simp only [same_self] at hc6
    have HC6 := Lib.hid hc6
    simp only [same_self] at hc7
    have HC7 := Lib.hid hc7
    simp only [same_self] at hc11
    have HC11 := Lib.hid hc11
    simp only [same_ne h] at hc12
    have HC12 := Lib.hid hc12
    clear hc5 hc6 hc7 hc11 hc12 ka5 kb5 ka6 kb6 ka7 kb7 ka8 kb8 ka9 kb9 ka10 kb10 ka11 kb11 ka12 kb12 h hF
    go_enter Tryz.func12, Tryz.ntmps12
    go_upto_region 1 with fail
    rw [HW1.out, HW2.out]
    obtain ⟨hq1, hq2, hqt0⟩ := hE.out W2 (Below.refl _ _)
    have HB0 : Below W2.heap.size W2 W2 := Below.refl _ _
    have ga0 := hq1.2 0 (by simp)
    have ga1 := hq1.2 1 (by simp)
    have ga2 := hq1.2 2 (by simp)
    have ga3 := hq1.2 3 (by simp)
    have ga4 := hq1.2 4 (by simp)
    have ga5 := hq1.2 5 (by simp)
    have ga6 := hq1.2 6 (by simp)
    have ga7 := hq1.2 7 (by simp)
    have ga8 := hq1.2 8 (by simp)
    have ga9 := hq1.2 9 (by simp)
    have ga10 := hq1.2 10 (by simp)
    have ga11 := hq1.2 11 (by simp)
    have ga12 := hq1.2 12 (by simp)
    have gb0 := hq2.2 0 (by simp)
    have gb1 := hq2.2 1 (by simp)
    have gb2 := hq2.2 2 (by simp)
    have gb3 := hq2.2 3 (by simp)
    have gb4 := hq2.2 4 (by simp)
    have gb5 := hq2.2 5 (by simp)
    have gb6 := hq2.2 6 (by simp)
    have gb7 := hq2.2 7 (by simp)
    have gb8 := hq2.2 8 (by simp)
    have gb9 := hq2.2 9 (by simp)
    have gb10 := hq2.2 10 (by simp)
    have gb11 := hq2.2 11 (by simp)
    have gb12 := hq2.2 12 (by simp)
    simp only [cqs, cqz] at ga0 ga1 ga2 ga3 ga4 ga5 ga6 ga7 ga8 ga9 ga10 ga11 ga12 gb0 gb1 gb2 gb3 gb4 gb5 gb6 gb7 gb8 gb9 gb10 gb11 gb12
    go_wp2_with (first | (go_at_call 53; (with_reducible refine (HC5.out W2 hqt0).mono ?_); rintro e1 w1 ⟨rfl, hb1⟩; have HB1 := bt HB0 hb1; obtain ⟨r1hq1, r1hq2, hqt1⟩ := hE.out w1 HB1; have g1_a6 := r1hq1.2 6 (by simp); have g1_a7 := r1hq1.2 7 (by simp); have g1_a8 := r1hq1.2 8 (by simp); have g1_a9 := r1hq1.2 9 (by simp); have g1_a10 := r1hq1.2 10 (by simp); have g1_a11 := r1hq1.2 11 (by simp); have g1_a12 := r1hq1.2 12 (by simp); have g1_b6 := r1hq2.2 6 (by simp); have g1_b7 := r1hq2.2 7 (by simp); have g1_b8 := r1hq2.2 8 (by simp); have g1_b9 := r1hq2.2 9 (by simp); have g1_b10 := r1hq2.2 10 (by simp); have g1_b11 := r1hq2.2 11 (by simp); have g1_b12 := r1hq2.2 12 (by simp); simp only [cqs, cqz] at g1_a6 g1_a7 g1_a8 g1_a9 g1_a10 g1_a11 g1_a12 g1_b6 g1_b7 g1_b8 g1_b9 g1_b10 g1_b11 g1_b12) | (go_at_call 54; (with_reducible refine (HC6.out w1 hqt1).mono ?_); rintro e2 w2 ⟨rfl, hb2⟩; have HB2 := bt HB1 hb2; obtain ⟨r2hq1, r2hq2, hqt2⟩ := hE.out w2 HB2; have g2_a7 := r2hq1.2 7 (by simp); have g2_a8 := r2hq1.2 8 (by simp); have g2_a9 := r2hq1.2 9 (by simp); have g2_a10 := r2hq1.2 10 (by simp); have g2_a11 := r2hq1.2 11 (by simp); have g2_a12 := r2hq1.2 12 (by simp); have g2_b7 := r2hq2.2 7 (by simp); have g2_b8 := r2hq2.2 8 (by simp); have g2_b9 := r2hq2.2 9 (by simp); have g2_b10 := r2hq2.2 10 (by simp); have g2_b11 := r2hq2.2 11 (by simp); have g2_b12 := r2hq2.2 12 (by simp); simp only [cqs, cqz] at g2_a7 g2_a8 g2_a9 g2_a10 g2_a11 g2_a12 g2_b7 g2_b8 g2_b9 g2_b10 g2_b11 g2_b12) | (go_at_call 54; (with_reducible refine (HC7.out w2 hqt2).mono ?_); rintro e3 w3 ⟨rfl, hb3⟩; have HB3 := bt HB2 hb3; obtain ⟨r3hq1, r3hq2, hqt3⟩ := hE.out w3 HB3; have g3_a8 := r3hq1.2 8 (by simp); have g3_a9 := r3hq1.2 9 (by simp); have g3_a10 := r3hq1.2 10 (by simp); have g3_a11 := r3hq1.2 11 (by simp); have g3_a12 := r3hq1.2 12 (by simp); have g3_b8 := r3hq2.2 8 (by simp); have g3_b9 := r3hq2.2 9 (by simp); have g3_b10 := r3hq2.2 10 (by simp); have g3_b11 := r3hq2.2 11 (by simp); have g3_b12 := r3hq2.2 12 (by simp); simp only [cqs, cqz] at g3_a8 g3_a9 g3_a10 g3_a11 g3_a12 g3_b8 g3_b9 g3_b10 g3_b11 g3_b12) | (go_at_call 55; (with_reducible refine (HC11.out w3 hqt3).mono ?_); rintro e4 w4 ⟨rfl, hb4⟩; have HB4 := bt HB3 hb4; obtain ⟨r4hq1, r4hq2, hqt4⟩ := hE.out w4 HB4; have g4_a12 := r4hq1.2 12 (by simp); have g4_b12 := r4hq2.2 12 (by simp); simp only [cqs, cqz] at g4_a12 g4_b12) | (go_at_call 55; (with_reducible refine (HC12.out w4 hqt4).mono ?_); rintro e5 w5 ⟨rfl, hb5⟩; have HB5 := bt HB4 hb5; obtain ⟨r5hq1, r5hq2, hqt5⟩ := hE.out w5 HB5))
    go_ret
    exact ⟨ret_bool hfin.out.symm, hqt5⟩
  subst h
  simp only [same_self] at hc5
  have HC5 := Lib.hid hc5
  simp only [same_self] at hc6
  have HC6 := Lib.hid hc6
  simp only [same_self] at hc7
  have HC7 := Lib.hid hc7
  simp only [same_self] at hc11
  have HC11 := Lib.hid hc11
  simp only [same_self] at hc12
  have HC12 := Lib.hid hc12
  have KA5 := Lib.hid ka5
  have KB5 := Lib.hid kb5
  have KA6 := Lib.hid ka6
  have KB6 := Lib.hid kb6
  have KA7 := Lib.hid ka7
  have KB7 := Lib.hid kb7
  have KA8 := Lib.hid ka8
  have KB8 := Lib.hid kb8
  have KA9 := Lib.hid ka9
  have KB9 := Lib.hid kb9
  have KA10 := Lib.hid ka10
  have KB10 := Lib.hid kb10
  have KA11 := Lib.hid ka11
  have KB11 := Lib.hid kb11
  have KA12 := Lib.hid ka12
  have KB12 := Lib.hid kb12
  have HF := Lib.hid hF
  clear hc5 hc6 hc7 hc11 hc12 ka5 kb5 ka6 kb6 ka7 kb7 ka8 kb8 ka9 kb9 ka10 kb10 ka11 kb11 ka12 kb12 hF
  go_enter Tryz.func12, Tryz.ntmps12
  go_upto_region 1 with fail
  rw [HW1.out, HW2.out]
  obtain ⟨hq1, hq2, hqt0⟩ := hE.out W2 (Below.refl _ _)
  have HB0 : Below W2.heap.size W2 W2 := Below.refl _ _
  have ga0 := hq1.2 0 (by simp)
  have ga1 := hq1.2 1 (by simp)
  have ga2 := hq1.2 2 (by simp)
  have ga3 := hq1.2 3 (by simp)
  have ga4 := hq1.2 4 (by simp)
  have ga5 := hq1.2 5 (by simp)
  have ga6 := hq1.2 6 (by simp)
  have ga7 := hq1.2 7 (by simp)
  have ga8 := hq1.2 8 (by simp)
  have ga9 := hq1.2 9 (by simp)
  have ga10 := hq1.2 10 (by simp)
  have ga11 := hq1.2 11 (by simp)
  have ga12 := hq1.2 12 (by simp)
  have gb0 := hq2.2 0 (by simp)
  have gb1 := hq2.2 1 (by simp)
  have gb2 := hq2.2 2 (by simp)
  have gb3 := hq2.2 3 (by simp)
  have gb4 := hq2.2 4 (by simp)
  have gb5 := hq2.2 5 (by simp)
  have gb6 := hq2.2 6 (by simp)
  have gb7 := hq2.2 7 (by simp)
  have gb8 := hq2.2 8 (by simp)
  have gb9 := hq2.2 9 (by simp)
  have gb10 := hq2.2 10 (by simp)
  have gb11 := hq2.2 11 (by simp)
  have gb12 := hq2.2 12 (by simp)
  simp only [cqs, cqz] at ga0 ga1 ga2 ga3 ga4 ga5 ga6 ga7 ga8 ga9 ga10 ga11 ga12 gb0 gb1 gb2 gb3 gb4 gb5 gb6 gb7 gb8 gb9 gb10 gb11 gb12
  go_wp2_with (first | (go_at_call 53; (with_reducible refine (HC5.out W2 hqt0).mono ?_); rintro e1 w1 ⟨rfl, hb1⟩; have HB1 := bt HB0 hb1; obtain ⟨r1hq1, r1hq2, hqt1⟩ := hE.out w1 HB1; have g1_a6 := r1hq1.2 6 (by simp); have g1_a7 := r1hq1.2 7 (by simp); have g1_a8 := r1hq1.2 8 (by simp); have g1_a9 := r1hq1.2 9 (by simp); have g1_a10 := r1hq1.2 10 (by simp); have g1_a11 := r1hq1.2 11 (by simp); have g1_a12 := r1hq1.2 12 (by simp); have g1_b6 := r1hq2.2 6 (by simp); have g1_b7 := r1hq2.2 7 (by simp); have g1_b8 := r1hq2.2 8 (by simp); have g1_b9 := r1hq2.2 9 (by simp); have g1_b10 := r1hq2.2 10 (by simp); have g1_b11 := r1hq2.2 11 (by simp); have g1_b12 := r1hq2.2 12 (by simp); simp only [cqs, cqz] at g1_a6 g1_a7 g1_a8 g1_a9 g1_a10 g1_a11 g1_a12 g1_b6 g1_b7 g1_b8 g1_b9 g1_b10 g1_b11 g1_b12) | (go_at_call 54; (with_reducible refine (HC6.out w1 hqt1).mono ?_); rintro e2 w2 ⟨rfl, hb2⟩; have HB2 := bt HB1 hb2; obtain ⟨r2hq1, r2hq2, hqt2⟩ := hE.out w2 HB2; have g2_a7 := r2hq1.2 7 (by simp); have g2_a8 := r2hq1.2 8 (by simp); have g2_a9 := r2hq1.2 9 (by simp); have g2_a10 := r2hq1.2 10 (by simp); have g2_a11 := r2hq1.2 11 (by simp); have g2_a12 := r2hq1.2 12 (by simp); have g2_b7 := r2hq2.2 7 (by simp); have g2_b8 := r2hq2.2 8 (by simp); have g2_b9 := r2hq2.2 9 (by simp); have g2_b10 := r2hq2.2 10 (by simp); have g2_b11 := r2hq2.2 11 (by simp); have g2_b12 := r2hq2.2 12 (by simp); simp only [cqs, cqz] at g2_a7 g2_a8 g2_a9 g2_a10 g2_a11 g2_a12 g2_b7 g2_b8 g2_b9 g2_b10 g2_b11 g2_b12) | (go_at_call 54; (with_reducible refine (HC7.out w2 hqt2).mono ?_); rintro e3 w3 ⟨rfl, hb3⟩; have HB3 := bt HB2 hb3; obtain ⟨r3hq1, r3hq2, hqt3⟩ := hE.out w3 HB3; have g3_a8 := r3hq1.2 8 (by simp); have g3_a9 := r3hq1.2 9 (by simp); have g3_a10 := r3hq1.2 10 (by simp); have g3_a11 := r3hq1.2 11 (by simp); have g3_a12 := r3hq1.2 12 (by simp); have g3_b8 := r3hq2.2 8 (by simp); have g3_b9 := r3hq2.2 9 (by simp); have g3_b10 := r3hq2.2 10 (by simp); have g3_b11 := r3hq2.2 11 (by simp); have g3_b12 := r3hq2.2 12 (by simp); simp only [cqs, cqz] at g3_a8 g3_a9 g3_a10 g3_a11 g3_a12 g3_b8 g3_b9 g3_b10 g3_b11 g3_b12) | (go_at_call 55; (with_reducible refine (HC11.out w3 hqt3).mono ?_); rintro e4 w4 ⟨rfl, hb4⟩; have HB4 := bt HB3 hb4; obtain ⟨r4hq1, r4hq2, hqt4⟩ := hE.out w4 HB4; have g4_a12 := r4hq1.2 12 (by simp); have g4_b12 := r4hq2.2 12 (by simp); simp only [cqs, cqz] at g4_a12 g4_b12) | (go_at_call 55; (with_reducible refine (HC12.out w4 hqt4).mono ?_); rintro e5 w5 ⟨rfl, hb5⟩; have HB5 := bt HB4 hb5; obtain ⟨r5hq1, r5hq2, hqt5⟩ := hE.out w5 HB5))
  obtain ⟨_, _, he, hl8, hc8, h8⟩ := (KA8.out).opn
  cases he
  obtain ⟨_, _, he, hl8b, hc8b, h8b⟩ := (KB8.out).opn
  cases he
  unfold maxLen at hc8 hc8b
  go_loopw [5] (fun i wr => ∃ k : Nat, k ≤ x_objects.length ∧ i = .int .i64 k ∧ Hid (x_objects.take k = y_objects.take k) ∧ Below W2.heap.size W2 wr) (fun i _ => x_objects.length - (intOf i).toNat)
  case atStart => exact ⟨0, Nat.zero_le _, rfl, by show _ = _; rw [List.take_zero, List.take_zero], HB5⟩
  case round =>
    obtain ⟨k, hk, rfl, hq, hB⟩ := hrel
    obtain ⟨hq1, hq2, hqt⟩ := hE.out wr hB
    have u8 := hq1.2 8 (by simp)
    have v8 := hq2.2 8 (by simp)
    simp only [cqs, cqz] at u8 v8
    by_cases hlt : k < x_objects.length
    · have hlt2 : k < y_objects.length := by have := HL8.out; omega
      obtain ⟨b, off, rfl, hFb, hel⟩ := h8 (by omega)
      obtain ⟨b2, off2, rfl, hFb2, hel2⟩ := h8b (by omega)
      obtain ⟨cs, hx, -, hcell⟩ := hel wr (hqt.block b (HF.out b hFb)) k hlt
      obtain ⟨ds, hy, -, hdell⟩ := hel2 wr (hqt.block b2 (HF.out b2 hFb2)) k hlt2
      obtain ⟨x, hxe⟩ : ∃ x, x_objects[k] = x := ⟨_, rfl⟩
      obtain ⟨y, hye⟩ : ∃ y, y_objects[k] = y := ⟨_, rfl⟩
      rw [hxe] at hx
      rw [hye] at hy
      have hnx : Hid (x = y → x_objects.take (k + 1) = y_objects.take (k + 1)) := fun h => take_same hq.out hlt hlt2 (by rw [hxe, hye, h])
      have hno : Hid (x ≠ y → same (⟨x_title, x_author, x_start, x_release, x_most, x_flags, x_props, x_globals, x_objects, x_verbs, x_rules, x_funcs, x_daemons⟩ : SrcD) ⟨x_title, x_author, x_start, x_release, x_most, x_flags, x_props, x_globals, y_objects, y_verbs, y_rules, x_funcs, x_daemons⟩ = false) := fun h => same_ne (fun e => h (by cases e; rw [← hxe, ← hye]))
      have hx2 := hx
      have hy2 := hy
      obtain ⟨-, -, -, -, vc5, vc6, vc7, vc8, vc9, rfl, kc5, kc6, kc7, kc8, kc9⟩ := hx2
      obtain ⟨dc5, fc5, rfl⟩ := kc5.shape
      obtain ⟨dc6, fc6, rfl⟩ := kc6.shape
      obtain ⟨dc7, fc7, rfl⟩ := kc7.shape
      obtain ⟨dc8, fc8, rfl⟩ := kc8.shape
      obtain ⟨dc9, fc9, rfl⟩ := kc9.shape
      obtain ⟨-, -, -, -, vd5, vd6, vd7, vd8, vd9, rfl, kd5, kd6, kd7, kd8, kd9⟩ := hy2
      obtain ⟨dd5, fd5, rfl⟩ := kd5.shape
      obtain ⟨dd6, fd6, rfl⟩ := kd6.shape
      obtain ⟨dd7, fd7, rfl⟩ := kd7.shape
      obtain ⟨dd8, fd8, rfl⟩ := kd8.shape
      obtain ⟨dd9, fd9, rfl⟩ := kd9.shape
      have g0 := hcell 0 _ rfl
      have h0' := hdell 0 _ rfl
      have g1 := hcell 1 _ rfl
      have h1' := hdell 1 _ rfl
      have g2 := hcell 2 _ rfl
      have h2' := hdell 2 _ rfl
      have g3 := hcell 3 _ rfl
      have h3' := hdell 3 _ rfl
      have g4 := hcell 4 _ rfl
      have h4' := hdell 4 _ rfl
      have g5 := hcell 5 _ rfl
      have h5' := hdell 5 _ rfl
      have g6 := hcell 6 _ rfl
      have h6' := hdell 6 _ rfl
      have g7 := hcell 7 _ rfl
      have h7' := hdell 7 _ rfl
      have g8 := hcell 8 _ rfl
      have h8' := hdell 8 _ rfl
      have g9 := hcell 9 _ rfl
      have h9' := hdell 9 _ rfl
      simp only [Nat.add_zero] at g0 h0'
      have hki : (k : Int) < (x_objects.length : Int) := by omega
      have hki2 : (k : Int) < (y_objects.length : Int) := by omega
      have hki0 : (0 : Int) ≤ (k : Int) := by omega
      have HB := Lib.hid hB
      have HQT := Lib.hid hqt
      clear hel hel2 hcell hdell hB hq1 hq2 hqt h8 h8b hq hxe hye
      have hc := fun (W : World) (hW : Below wr.heap.size wr W) => rObject_calls F W x y _ _ (HF.out.below (bt HQT.out hW)) (Holds.below Holds.obj hx HF.out (bt HQT.out hW) (Nat.le_refl _)) (Holds.below Holds.obj hy HF.out (bt HQT.out hW) (Nat.le_refl _))
      have K {f : FuncId} {args : Array Value} {u : Value} (h : ∀ w', Below wr.heap.size wr w' → Calls Tryz.prog f args w' (Gives w' u)) (p : Regrown) : Calls Tryz.prog f args (grow (redrawn wr p.d) p.os) fun e w3 => e = .returned u ∧ ∃ p : Regrown, w3 = grow (redrawn wr p.d) p.os := regrown_gives (fun w3 hb => h w3 hb) p
      clear hx hy kc5 kd5 kc6 kd6 kc7 kd7 kc8 kd8 kc9 kd9
      by_cases h : x = y
      rotate_left
      · have hfin := Lib.hid (hno.out h)
        simp only [same_ne h] at hc
        have HC := Lib.hid (K hc)
        clear hc K hno hnx h
        have z_u8 := fun d os => cell_regrown u8 d os
        have z_v8 := fun d os => cell_regrown v8 d os
        have z_g0 := fun d os => cell_regrown g0 d os
        have z_g1 := fun d os => cell_regrown g1 d os
        have z_g2 := fun d os => cell_regrown g2 d os
        have z_g3 := fun d os => cell_regrown g3 d os
        have z_g4 := fun d os => cell_regrown g4 d os
        have z_g5 := fun d os => cell_regrown g5 d os
        have z_g6 := fun d os => cell_regrown g6 d os
        have z_g7 := fun d os => cell_regrown g7 d os
        have z_g8 := fun d os => cell_regrown g8 d os
        have z_g9 := fun d os => cell_regrown g9 d os
        have z_h0' := fun d os => cell_regrown h0' d os
        have z_h1' := fun d os => cell_regrown h1' d os
        have z_h2' := fun d os => cell_regrown h2' d os
        have z_h3' := fun d os => cell_regrown h3' d os
        have z_h4' := fun d os => cell_regrown h4' d os
        have z_h5' := fun d os => cell_regrown h5' d os
        have z_h6' := fun d os => cell_regrown h6' d os
        have z_h7' := fun d os => cell_regrown h7' d os
        have z_h8' := fun d os => cell_regrown h8' d os
        have z_h9' := fun d os => cell_regrown h9' d os
        go_upto_region 8 with fail
        refine wp_region_quiet_below (by kernel_rfl) (by kernel_rfl) ?_
        repeat (go_big_quiet_step (first | with_reducible exact HC.out _))
        refine wpQuiet_nil ?_
        intro w3 hw3
        have hb3 := below_of_regrown hw3
        clear hw3 z_u8 z_v8 z_g0 z_g1 z_g2 z_g3 z_g4 z_g5 z_g6 z_g7 z_g8 z_g9 z_h0' z_h1' z_h2' z_h3' z_h4' z_h5' z_h6' z_h7' z_h8' z_h9'
        go_wp2_with fail
        go_ret
        exact ⟨ret_bool hfin.out.symm, bt HQT.out hb3⟩
      have hnx2 := Lib.hid (hnx.out h)
      simp only [same_eq h] at hc
      have HC := Lib.hid (K hc)
      clear hc K hno hnx h
      have z_u8 := fun d os => cell_regrown u8 d os
      have z_v8 := fun d os => cell_regrown v8 d os
      have z_g0 := fun d os => cell_regrown g0 d os
      have z_g1 := fun d os => cell_regrown g1 d os
      have z_g2 := fun d os => cell_regrown g2 d os
      have z_g3 := fun d os => cell_regrown g3 d os
      have z_g4 := fun d os => cell_regrown g4 d os
      have z_g5 := fun d os => cell_regrown g5 d os
      have z_g6 := fun d os => cell_regrown g6 d os
      have z_g7 := fun d os => cell_regrown g7 d os
      have z_g8 := fun d os => cell_regrown g8 d os
      have z_g9 := fun d os => cell_regrown g9 d os
      have z_h0' := fun d os => cell_regrown h0' d os
      have z_h1' := fun d os => cell_regrown h1' d os
      have z_h2' := fun d os => cell_regrown h2' d os
      have z_h3' := fun d os => cell_regrown h3' d os
      have z_h4' := fun d os => cell_regrown h4' d os
      have z_h5' := fun d os => cell_regrown h5' d os
      have z_h6' := fun d os => cell_regrown h6' d os
      have z_h7' := fun d os => cell_regrown h7' d os
      have z_h8' := fun d os => cell_regrown h8' d os
      have z_h9' := fun d os => cell_regrown h9' d os
      go_upto_region 8 with fail
      refine wp_region_quiet_below (by kernel_rfl) (by kernel_rfl) ?_
      repeat (go_big_quiet_step (first | with_reducible exact HC.out _))
      refine wpQuiet_nil ?_
      intro w3 hw3
      have hb3 := below_of_regrown hw3
      clear hw3 z_u8 z_v8 z_g0 z_g1 z_g2 z_g3 z_g4 z_g5 z_g6 z_g7 z_g8 z_g9 z_h0' z_h1' z_h2' z_h3' z_h4' z_h5' z_h6' z_h7' z_h8' z_h9'
      go_wp2_with fail
      go_roundw
      case rel => exact ⟨k + 1, by omega, by go_num, hnx2.out, bt HB.out hb3⟩
      case measure => simp [intOf]; omega
    · have : k = x_objects.length := by omega
      subst this
      have hall_objects : Hid (x_objects = y_objects) := by show _ = _; have h := hq.out; rw [List.take_length, HL8.out, List.take_length] at h; exact h
      have hki : decide ((x_objects.length : Int) < (x_objects.length : Int)) = false := by simp
      clear hq h8 h8b
      have u9' := hq1.2 9 (by simp)
      simp only [cqs, cqz] at u9'
      go_wp2
      obtain ⟨_, _, he, hl9, hc9, h9⟩ := (KA9.out).opn
      cases he
      obtain ⟨_, _, he, hl9b, hc9b, h9b⟩ := (KB9.out).opn
      cases he
      unfold maxLen at hc9 hc9b
      go_loopw [6] (fun i wr => ∃ k : Nat, k ≤ x_verbs.length ∧ i = .int .i64 k ∧ Hid (x_verbs.take k = y_verbs.take k) ∧ Below W2.heap.size W2 wr) (fun i _ => x_verbs.length - (intOf i).toNat)
      case atStart => exact ⟨0, Nat.zero_le _, rfl, by show _ = _; rw [List.take_zero, List.take_zero], hB⟩
      case round =>
        obtain ⟨k, hk, rfl, hq, hB⟩ := hrel
        obtain ⟨hq1, hq2, hqt⟩ := hE.out wr hB
        have u9 := hq1.2 9 (by simp)
        have v9 := hq2.2 9 (by simp)
        simp only [cqs, cqz] at u9 v9
        by_cases hlt : k < x_verbs.length
        · have hlt2 : k < y_verbs.length := by have := HL9.out; omega
          obtain ⟨b, off, rfl, hFb, hel⟩ := h9 (by omega)
          obtain ⟨b2, off2, rfl, hFb2, hel2⟩ := h9b (by omega)
          obtain ⟨cs, hx, -, hcell⟩ := hel wr (hqt.block b (HF.out b hFb)) k hlt
          obtain ⟨ds, hy, -, hdell⟩ := hel2 wr (hqt.block b2 (HF.out b2 hFb2)) k hlt2
          obtain ⟨x, hxe⟩ : ∃ x, x_verbs[k] = x := ⟨_, rfl⟩
          obtain ⟨y, hye⟩ : ∃ y, y_verbs[k] = y := ⟨_, rfl⟩
          rw [hxe] at hx
          rw [hye] at hy
          have hnx : Hid (x = y → x_verbs.take (k + 1) = y_verbs.take (k + 1)) := fun h => take_same hq.out hlt hlt2 (by rw [hxe, hye, h])
          have hno : Hid (x ≠ y → same (⟨x_title, x_author, x_start, x_release, x_most, x_flags, x_props, x_globals, x_objects, x_verbs, x_rules, x_funcs, x_daemons⟩ : SrcD) ⟨x_title, x_author, x_start, x_release, x_most, x_flags, x_props, x_globals, y_objects, y_verbs, y_rules, x_funcs, x_daemons⟩ = false) := fun h => same_ne (fun e => h (by cases e; rw [← hxe, ← hye]))
          have hx2 := hx
          have hy2 := hy
          obtain ⟨-, vc2, rfl, kc2⟩ := hx2
          obtain ⟨dc2, fc2, rfl⟩ := kc2.shape
          obtain ⟨-, vd2, rfl, kd2⟩ := hy2
          obtain ⟨dd2, fd2, rfl⟩ := kd2.shape
          have g0 := hcell 0 _ rfl
          have h0' := hdell 0 _ rfl
          have g1 := hcell 1 _ rfl
          have h1' := hdell 1 _ rfl
          have g2 := hcell 2 _ rfl
          have h2' := hdell 2 _ rfl
          simp only [Nat.add_zero] at g0 h0'
          have hki : (k : Int) < (x_verbs.length : Int) := by omega
          have hki2 : (k : Int) < (y_verbs.length : Int) := by omega
          have hki0 : (0 : Int) ≤ (k : Int) := by omega
          have HB := Lib.hid hB
          have HQT := Lib.hid hqt
          clear hel hel2 hcell hdell hB hq1 hq2 hqt h9 h9b hq hxe hye
          have hc := fun (W : World) (hW : Below wr.heap.size wr W) => rVerb_calls F W x y _ _ (HF.out.below (bt HQT.out hW)) (Holds.below Holds.verb hx HF.out (bt HQT.out hW) (Nat.le_refl _)) (Holds.below Holds.verb hy HF.out (bt HQT.out hW) (Nat.le_refl _))
          have K {f : FuncId} {args : Array Value} {u : Value} (h : ∀ w', Below wr.heap.size wr w' → Calls Tryz.prog f args w' (Gives w' u)) (p : Regrown) : Calls Tryz.prog f args (grow (redrawn wr p.d) p.os) fun e w3 => e = .returned u ∧ ∃ p : Regrown, w3 = grow (redrawn wr p.d) p.os := regrown_gives (fun w3 hb => h w3 hb) p
          clear hx hy kc2 kd2
          by_cases h : x = y
          rotate_left
          · have hfin := Lib.hid (hno.out h)
            simp only [same_ne h] at hc
            have HC := Lib.hid (K hc)
            clear hc K hno hnx h
            have z_u9 := fun d os => cell_regrown u9 d os
            have z_v9 := fun d os => cell_regrown v9 d os
            have z_g0 := fun d os => cell_regrown g0 d os
            have z_g1 := fun d os => cell_regrown g1 d os
            have z_g2 := fun d os => cell_regrown g2 d os
            have z_h0' := fun d os => cell_regrown h0' d os
            have z_h1' := fun d os => cell_regrown h1' d os
            have z_h2' := fun d os => cell_regrown h2' d os
            go_upto_region 13 with fail
            refine wp_region_quiet_below (by kernel_rfl) (by kernel_rfl) ?_
            repeat (go_big_quiet_step (first | with_reducible exact HC.out _))
            refine wpQuiet_nil ?_
            intro w3 hw3
            have hb3 := below_of_regrown hw3
            clear hw3 z_u9 z_v9 z_g0 z_g1 z_g2 z_h0' z_h1' z_h2'
            go_wp2_with fail
            go_ret
            exact ⟨ret_bool hfin.out.symm, bt HQT.out hb3⟩
          have hnx2 := Lib.hid (hnx.out h)
          simp only [same_eq h] at hc
          have HC := Lib.hid (K hc)
          clear hc K hno hnx h
          have z_u9 := fun d os => cell_regrown u9 d os
          have z_v9 := fun d os => cell_regrown v9 d os
          have z_g0 := fun d os => cell_regrown g0 d os
          have z_g1 := fun d os => cell_regrown g1 d os
          have z_g2 := fun d os => cell_regrown g2 d os
          have z_h0' := fun d os => cell_regrown h0' d os
          have z_h1' := fun d os => cell_regrown h1' d os
          have z_h2' := fun d os => cell_regrown h2' d os
          go_upto_region 13 with fail
          refine wp_region_quiet_below (by kernel_rfl) (by kernel_rfl) ?_
          repeat (go_big_quiet_step (first | with_reducible exact HC.out _))
          refine wpQuiet_nil ?_
          intro w3 hw3
          have hb3 := below_of_regrown hw3
          clear hw3 z_u9 z_v9 z_g0 z_g1 z_g2 z_h0' z_h1' z_h2'
          go_wp2_with fail
          go_roundw
          case rel => exact ⟨k + 1, by omega, by go_num, hnx2.out, bt HB.out hb3⟩
          case measure => simp [intOf]; omega
        · have : k = x_verbs.length := by omega
          subst this
          have hall_verbs : Hid (x_verbs = y_verbs) := by show _ = _; have h := hq.out; rw [List.take_length, HL9.out, List.take_length] at h; exact h
          have hki : decide ((x_verbs.length : Int) < (x_verbs.length : Int)) = false := by simp
          clear hq h9 h9b
          have u10' := hq1.2 10 (by simp)
          simp only [cqs, cqz] at u10'
          go_wp2
          obtain ⟨_, _, he, hl10, hc10, h10⟩ := (KA10.out).opn
          cases he
          obtain ⟨_, _, he, hl10b, hc10b, h10b⟩ := (KB10.out).opn
          cases he
          unfold maxLen at hc10 hc10b
          go_loopw [7] (fun i wr => ∃ k : Nat, k ≤ x_rules.length ∧ i = .int .i64 k ∧ Hid (x_rules.take k = y_rules.take k) ∧ Below W2.heap.size W2 wr) (fun i _ => x_rules.length - (intOf i).toNat)
          case atStart => exact ⟨0, Nat.zero_le _, rfl, by show _ = _; rw [List.take_zero, List.take_zero], hB⟩
          case round =>
            obtain ⟨k, hk, rfl, hq, hB⟩ := hrel
            obtain ⟨hq1, hq2, hqt⟩ := hE.out wr hB
            have u10 := hq1.2 10 (by simp)
            have v10 := hq2.2 10 (by simp)
            simp only [cqs, cqz] at u10 v10
            by_cases hlt : k < x_rules.length
            · have hlt2 : k < y_rules.length := by have := HL10.out; omega
              obtain ⟨b, off, rfl, hFb, hel⟩ := h10 (by omega)
              obtain ⟨b2, off2, rfl, hFb2, hel2⟩ := h10b (by omega)
              obtain ⟨cs, hx, -, hcell⟩ := hel wr (hqt.block b (HF.out b hFb)) k hlt
              obtain ⟨ds, hy, -, hdell⟩ := hel2 wr (hqt.block b2 (HF.out b2 hFb2)) k hlt2
              obtain ⟨x, hxe⟩ : ∃ x, x_rules[k] = x := ⟨_, rfl⟩
              obtain ⟨y, hye⟩ : ∃ y, y_rules[k] = y := ⟨_, rfl⟩
              rw [hxe] at hx
              rw [hye] at hy
              have hnx : Hid (x = y → x_rules.take (k + 1) = y_rules.take (k + 1)) := fun h => take_same hq.out hlt hlt2 (by rw [hxe, hye, h])
              have hno : Hid (x ≠ y → same (⟨x_title, x_author, x_start, x_release, x_most, x_flags, x_props, x_globals, x_objects, x_verbs, x_rules, x_funcs, x_daemons⟩ : SrcD) ⟨x_title, x_author, x_start, x_release, x_most, x_flags, x_props, x_globals, y_objects, y_verbs, y_rules, x_funcs, x_daemons⟩ = false) := fun h => same_ne (fun e => h (by cases e; rw [← hxe, ← hye]))
              have hx2 := hx
              have hy2 := hy
              obtain ⟨-, -, -, -, vc4, vc5, rfl, kc4, kc5⟩ := hx2
              obtain ⟨dc4, fc4, rfl⟩ := kc4.shape
              obtain ⟨dc5, fc5, rfl⟩ := kc5.shape
              obtain ⟨-, -, -, -, vd4, vd5, rfl, kd4, kd5⟩ := hy2
              obtain ⟨dd4, fd4, rfl⟩ := kd4.shape
              obtain ⟨dd5, fd5, rfl⟩ := kd5.shape
              have g0 := hcell 0 _ rfl
              have h0' := hdell 0 _ rfl
              have g1 := hcell 1 _ rfl
              have h1' := hdell 1 _ rfl
              have g2 := hcell 2 _ rfl
              have h2' := hdell 2 _ rfl
              have g3 := hcell 3 _ rfl
              have h3' := hdell 3 _ rfl
              have g4 := hcell 4 _ rfl
              have h4' := hdell 4 _ rfl
              have g5 := hcell 5 _ rfl
              have h5' := hdell 5 _ rfl
              simp only [Nat.add_zero] at g0 h0'
              have hki : (k : Int) < (x_rules.length : Int) := by omega
              have hki2 : (k : Int) < (y_rules.length : Int) := by omega
              have hki0 : (0 : Int) ≤ (k : Int) := by omega
              have HB := Lib.hid hB
              have HQT := Lib.hid hqt
              clear hel hel2 hcell hdell hB hq1 hq2 hqt h10 h10b hq hxe hye
              go_upto_region 18 with fail
              obtain ⟨wo, rfl⟩ : ∃ x : World, x = wr := ⟨_, rfl⟩
              go_cut [8, 9] (fun p q wc => Hid (∃ b1 b2, p = .pointer (some ⟨b1, 0, none⟩) ∧ q = .pointer (some ⟨b2, 0, none⟩) ∧ BoxAt wc b1 [.string x.verb, .int .i64 x.phase, .string x.noun, .string x.second, .slice dc4 x.cond.length fc4, .slice dc5 x.body.length fc5] ∧ BoxAt wc b2 [.string y.verb, .int .i64 y.phase, .string y.noun, .string y.second, .slice dd4 y.cond.length fd4, .slice dd5 y.body.length fd5] ∧ Below wo.heap.size wo wc))
              case first =>
                refine wp_region_held_drew (S := fun W => Below wo.heap.size wo W) (by kernel_rfl) (Below.refl _ _).drew (fun hHeld => ?_)
                refine wpAnyH_take (i := 0) (v := .pointer (some ⟨w.heap.size, 10, none⟩)) rfl (by kernel_rfl) (by kernel_rfl) (by kernel_rfl) (fun _ _ _ h => h) (Or.inl ⟨by rfl, ?_⟩) (by assumption) ?_
                · intro W hW
                  go_simp
                simp only [Act.put]
                refine wpAnyH_take (i := 1) (v := .slice (some ⟨b, off, none⟩) x_rules.length fa10) rfl (by kernel_rfl) (by kernel_rfl) (by kernel_rfl) (fun _ _ _ h => h) (Or.inl ⟨by rfl, ?_⟩) (by assumption) ?_
                · intro W hW
                  have hq := (hE.out W (bt HB.out hW)).1
                  have u := hq.2 10 (by simp)
                  simp only [cqs, cqz] at u
                  go_simp
                simp only [Act.put]
                refine wpAnyH_take (i := 2) (v := .int .i64 k) rfl (by kernel_rfl) (by kernel_rfl) (by kernel_rfl) (fun _ _ _ h => h) (Or.inl ⟨by rfl, ?_⟩) (by assumption) ?_
                · intro W hW
                  go_simp
                simp only [Act.put]
                refine wpAnyH_take (i := 3) (v := .pointer (some ⟨b, off + k * 6, none⟩)) rfl (by kernel_rfl) (by kernel_rfl) (by kernel_rfl) (fun _ _ _ h => h) (Or.inl ⟨by rfl, ?_⟩) (by assumption) ?_
                · intro W hW
                  go_simp
                simp only [Act.put]
                refine wpAnyH_take (i := 4) (v := .agg #[.string x.verb, .int .i64 x.phase, .string x.noun, .string x.second, .slice dc4 x.cond.length fc4, .slice dc5 x.body.length fc5]) rfl (by kernel_rfl) (by kernel_rfl) (by kernel_rfl) (fun _ _ _ h => h) (Or.inl ⟨by rfl, ?_⟩) (by assumption) ?_
                · intro W hW
                  have y0 := (hW.cell (World.block_lt_of_cell? _ _ g0)).trans g0
                  have y1 := (hW.cell (World.block_lt_of_cell? _ _ g1)).trans g1
                  have y2 := (hW.cell (World.block_lt_of_cell? _ _ g2)).trans g2
                  have y3 := (hW.cell (World.block_lt_of_cell? _ _ g3)).trans g3
                  have y4 := (hW.cell (World.block_lt_of_cell? _ _ g4)).trans g4
                  have y5 := (hW.cell (World.block_lt_of_cell? _ _ g5)).trans g5
                  go_simp
                simp only [Act.put]
                refine wpAnyH_take (i := 5) (v := .pointer (some ⟨w.heap.size + 1, 10, none⟩)) rfl (by kernel_rfl) (by kernel_rfl) (by kernel_rfl) (fun _ _ _ h => h) (Or.inl ⟨by rfl, ?_⟩) (by assumption) ?_
                · intro W hW
                  go_simp
                simp only [Act.put]
                refine wpAnyH_take (i := 6) (v := .slice (some ⟨b2, off2, none⟩) y_rules.length fb10) rfl (by kernel_rfl) (by kernel_rfl) (by kernel_rfl) (fun _ _ _ h => h) (Or.inl ⟨by rfl, ?_⟩) (by assumption) ?_
                · intro W hW
                  have hq := (hE.out W (bt HB.out hW)).2.1
                  have u := hq.2 10 (by simp)
                  simp only [cqs, cqz] at u
                  go_simp
                simp only [Act.put]
                refine wpAnyH_take (i := 7) (v := .int .i64 k) rfl (by kernel_rfl) (by kernel_rfl) (by kernel_rfl) (fun _ _ _ h => h) (Or.inl ⟨by rfl, ?_⟩) (by assumption) ?_
                · intro W hW
                  go_simp
                simp only [Act.put]
                refine wpAnyH_take (i := 8) (v := .pointer (some ⟨b2, off2 + k * 6, none⟩)) rfl (by kernel_rfl) (by kernel_rfl) (by kernel_rfl) (fun _ _ _ h => h) (Or.inl ⟨by rfl, ?_⟩) (by assumption) ?_
                · intro W hW
                  go_simp
                simp only [Act.put]
                refine wpAnyH_take (i := 9) (v := .agg #[.string y.verb, .int .i64 y.phase, .string y.noun, .string y.second, .slice dd4 y.cond.length fd4, .slice dd5 y.body.length fd5]) rfl (by kernel_rfl) (by kernel_rfl) (by kernel_rfl) (fun _ _ _ h => h) (Or.inl ⟨by rfl, ?_⟩) (by assumption) ?_
                · intro W hW
                  have y0 := (hW.cell (World.block_lt_of_cell? _ _ h0')).trans h0'
                  have y1 := (hW.cell (World.block_lt_of_cell? _ _ h1')).trans h1'
                  have y2 := (hW.cell (World.block_lt_of_cell? _ _ h2')).trans h2'
                  have y3 := (hW.cell (World.block_lt_of_cell? _ _ h3')).trans h3'
                  have y4 := (hW.cell (World.block_lt_of_cell? _ _ h4')).trans h4'
                  have y5 := (hW.cell (World.block_lt_of_cell? _ _ h5')).trans h5'
                  go_simp
                simp only [Act.put]
                refine wpAnyH_ready (rs := [10, 11]) (by kernel_rfl) (by simp) ?_
                refine AllReadyH.cons rfl (fun K hK => ?_) (AllReadyH.cons rfl (fun K hK => ?_) AllReadyH.nil)
                · go_simp
                  refine hK.out _ _ (hHeld.alloc hHeld.size _) (fun hHeld => ?_)
                  clear hK K
                  refine wpAnyH_ready (rs := [11]) (by kernel_rfl) (by simp) ?_
                  refine AllReadyH.cons rfl (fun K hK => ?_) AllReadyH.nil
                  go_simp
                  refine hK.out _ _ (hHeld.alloc hHeld.size _) (fun hHeld => ?_)
                  clear hK K
                  refine wpAnyH_ready (rs := [12]) (by kernel_rfl) (by simp) ?_
                  refine AllReadyH.cons rfl (fun K hK => ?_) AllReadyH.nil
                  go_simp
                  refine hK.out _ _ ((((Below.refl _ wo).alloc (Nat.le_refl _) _).alloc (by simp) _).drew) (fun hHeld => ?_)
                  clear hK K
                  refine wpAnyH_ready (rs := [13]) (by kernel_rfl) (by simp) ?_
                  refine AllReadyH.cons rfl (fun K hK => ?_) AllReadyH.nil
                  go_simp
                  refine hK.out _ _ ((((Below.refl _ wo).alloc (Nat.le_refl _) _).alloc (by simp) _).drew) (fun hHeld => ?_)
                  clear hK K
                  refine wpAnyH_done (by kernel_rfl) ?_ _
                  go_wp2_with fail
                  go_meet
                  exact ⟨_, _, rfl, rfl, (two_boxes wo _ _ _ _).1, (two_boxes wo _ _ _ _).2, hHeld⟩
                · go_simp
                  refine hK.out _ _ (hHeld.alloc hHeld.size _) (fun hHeld => ?_)
                  clear hK K
                  refine wpAnyH_ready (rs := [10]) (by kernel_rfl) (by simp) ?_
                  refine AllReadyH.cons rfl (fun K hK => ?_) AllReadyH.nil
                  go_simp
                  refine hK.out _ _ (hHeld.alloc hHeld.size _) (fun hHeld => ?_)
                  clear hK K
                  refine wpAnyH_ready (rs := [12]) (by kernel_rfl) (by simp) ?_
                  refine AllReadyH.cons rfl (fun K hK => ?_) AllReadyH.nil
                  go_simp
                  refine hK.out _ _ ((((Below.refl _ wo).alloc (Nat.le_refl _) _).alloc (by simp) _).drew) (fun hHeld => ?_)
                  clear hK K
                  refine wpAnyH_ready (rs := [13]) (by kernel_rfl) (by simp) ?_
                  refine AllReadyH.cons rfl (fun K hK => ?_) AllReadyH.nil
                  go_simp
                  refine hK.out _ _ ((((Below.refl _ wo).alloc (Nat.le_refl _) _).alloc (by simp) _).drew) (fun hHeld => ?_)
                  clear hK K
                  refine wpAnyH_done (by kernel_rfl) ?_ _
                  go_wp2_with fail
                  go_meet
                  exact ⟨_, _, rfl, rfl, (two_boxes wo _ _ _ _).2, (two_boxes wo _ _ _ _).1, hHeld⟩
              case rest =>
                obtain ⟨b1, b2, rfl, rfl, hbx, hby, hbw⟩ := hcut.out
                have hEE := boxes_kept hbx hby
                have hcw := fun (W : World) (hW : Below wo.heap.size wo W) => rWhen_calls F W x.cond y.cond _ _ (HF.out.below (bt HQT.out hW)) (exs_rdl (Exs.below kc4 HF.out (bt HQT.out hW) (Nat.le_refl _))) (exs_rdl (Exs.below kd4 HF.out (bt HQT.out hW) (Nat.le_refl _)))
                have hcb := fun (W : World) (hW : Below wo.heap.size wo W) => sameBR_calls x.body y.body F W _ _ (HF.out.below (bt HQT.out hW)) (Sts.below kc5 HF.out (bt HQT.out hW) (Nat.le_refl _)) (Sts.below kd5 HF.out (bt HQT.out hW) (Nat.le_refl _))
                have HBW := Lib.hid hbw
                have m0 := hbx.2 0 (by simp)
                have m1 := hbx.2 1 (by simp)
                have m2 := hbx.2 2 (by simp)
                have m3 := hbx.2 3 (by simp)
                have m4 := hbx.2 4 (by simp)
                have m5 := hbx.2 5 (by simp)
                simp only [cqs, cqz] at m0 m1 m2 m3 m4 m5
                have n0 := hby.2 0 (by simp)
                have n1 := hby.2 1 (by simp)
                have n2 := hby.2 2 (by simp)
                have n3 := hby.2 3 (by simp)
                have n4 := hby.2 4 (by simp)
                have n5 := hby.2 5 (by simp)
                simp only [cqs, cqz] at n0 n1 n2 n3 n4 n5
                clear hbw hcut hbx hby hx hy kc4 kd4 kc5 kd5 u10 v10 g0 g1 g2 g3 g4 g5 h0' h1' h2' h3' h4' h5'
                by_cases h0 : x.verb = y.verb
                rotate_left
                · have hfin := Lib.hid (hno.out (fun e => h0 (by rw [e])))
                  have e0 : (x.verb.toList != y.verb.toList) = true := by rw [bne, strne h0]; rfl
                  have f0 : (x.verb.toList == y.verb.toList) = false := strne h0
                  clear h0
                  clear hcw hcb hno hnx 
                  go_wp2_with fail
                  go_ret
                  exact ⟨ret_bool hfin.out.symm, (hE.out _ (bt HB.out HBW.out)).2.2⟩
                have e0 : (x.verb.toList != y.verb.toList) = false := by rw [h0]; simp
                have f0 : (x.verb.toList == y.verb.toList) = true := by rw [h0]; simp
                by_cases h1 : x.phase = y.phase
                rotate_left
                · have hfin := Lib.hid (hno.out (fun e => h1 (by rw [e])))
                  have e1 : (x.phase != y.phase) = true := by simpa using h1
                  clear h1
                  clear h0
                  clear hcw hcb hno hnx 
                  go_wp2_with fail
                  go_ret
                  exact ⟨ret_bool hfin.out.symm, (hE.out _ (bt HB.out HBW.out)).2.2⟩
                have e1 : (x.phase != y.phase) = false := by simpa using h1
                by_cases h2 : x.noun = y.noun
                rotate_left
                · have hfin := Lib.hid (hno.out (fun e => h2 (by rw [e])))
                  have e2 : (x.noun.toList != y.noun.toList) = true := by rw [bne, strne h2]; rfl
                  have f2 : (x.noun.toList == y.noun.toList) = false := strne h2
                  clear h2
                  clear h0
                  clear h1
                  clear hcw hcb hno hnx 
                  go_wp2_with fail
                  go_ret
                  exact ⟨ret_bool hfin.out.symm, (hE.out _ (bt HB.out HBW.out)).2.2⟩
                have e2 : (x.noun.toList != y.noun.toList) = false := by rw [h2]; simp
                have f2 : (x.noun.toList == y.noun.toList) = true := by rw [h2]; simp
                by_cases h3 : x.second = y.second
                rotate_left
                · have hfin := Lib.hid (hno.out (fun e => h3 (by rw [e])))
                  have e3 : (x.second.toList != y.second.toList) = true := by rw [bne, strne h3]; rfl
                  have f3 : (x.second.toList == y.second.toList) = false := strne h3
                  clear h3
                  clear h0
                  clear h1
                  clear h2
                  clear hcw hcb hno hnx 
                  go_wp2_with fail
                  go_ret
                  exact ⟨ret_bool hfin.out.symm, (hE.out _ (bt HB.out HBW.out)).2.2⟩
                have e3 : (x.second.toList != y.second.toList) = false := by rw [h3]; simp
                have f3 : (x.second.toList == y.second.toList) = true := by rw [h3]; simp
                by_cases h4 : x.cond = y.cond
                rotate_left
                · have hfin := Lib.hid (hno.out (fun e => h4 (by rw [e])))
                  clear h0
                  clear h1
                  clear h2
                  clear h3
                  simp only [same_ne h4] at hcw
                  have HCw := Lib.hid hcw
                  clear hcw hcb hno hnx h4
                  go_wp2_with (go_at_call 58; (with_reducible refine (HCw.out _ HBW.out).mono ?_); rintro e w3 ⟨rfl, hb3⟩; have HB3 := bt HBW.out hb3)
                  go_ret
                  exact ⟨ret_bool hfin.out.symm, (hE.out _ (bt HB.out HB3)).2.2⟩
                by_cases h5 : x.body = y.body
                rotate_left
                · have hfin := Lib.hid (hno.out (fun e => h5 (by rw [e])))
                  clear h0
                  clear h1
                  clear h2
                  clear h3
                  simp only [same_eq h4] at hcw
                  have HCw := Lib.hid hcw
                  simp only [same_ne h5] at hcb
                  have HCb := Lib.hid hcb
                  clear hcw hcb hno hnx h4 h5
                  go_wp2_with (first | (go_at_call 58; (with_reducible refine (HCw.out _ HBW.out).mono ?_); rintro e w3 ⟨rfl, hb3⟩; have HB3 := bt HBW.out hb3; obtain ⟨bq1, bq2⟩ := hEE.out w3 hb3; have m5' := bq1.2 5 (by simp); have n5' := bq2.2 5 (by simp); simp only [cqs, cqz] at m5' n5') | (go_at_call 59; (with_reducible refine (HCb.out _ HB3).mono ?_); rintro e w4 ⟨rfl, hb4⟩; have HB4 := bt HB3 hb4))
                  go_ret
                  exact ⟨ret_bool hfin.out.symm, (hE.out _ (bt HB.out HB4)).2.2⟩
                have hnx2 := Lib.hid (hnx.out (by cases x; cases y; simp only at h0 h1 h2 h3 h4 h5; rw [h0, h1, h2, h3, h4, h5]))
                clear h0 h1 h2 h3
                simp only [same_eq h4] at hcw
                have HCw := Lib.hid hcw
                simp only [same_eq h5] at hcb
                have HCb := Lib.hid hcb
                clear hcw hcb hno hnx h4 h5
                go_wp2_with (first | (go_at_call 58; (with_reducible refine (HCw.out _ HBW.out).mono ?_); rintro e w3 ⟨rfl, hb3⟩; have HB3 := bt HBW.out hb3; obtain ⟨bq1, bq2⟩ := hEE.out w3 hb3; have m5' := bq1.2 5 (by simp); have n5' := bq2.2 5 (by simp); simp only [cqs, cqz] at m5' n5') | (go_at_call 59; (with_reducible refine (HCb.out _ HB3).mono ?_); rintro e w4 ⟨rfl, hb4⟩; have HB4 := bt HB3 hb4))
                go_roundw
                case rel => exact ⟨k + 1, by omega, by go_num, hnx2.out, bt HB.out HB4⟩
                case measure => simp [intOf]; omega
            · have : k = x_rules.length := by omega
              subst this
              have hall_rules : Hid (x_rules = y_rules) := by show _ = _; have h := hq.out; rw [List.take_length, HL10.out, List.take_length] at h; exact h
              have hki : decide ((x_rules.length : Int) < (x_rules.length : Int)) = false := by simp
              clear hq h10 h10b
              have hfin : Hid (same (⟨x_title, x_author, x_start, x_release, x_most, x_flags, x_props, x_globals, x_objects, x_verbs, x_rules, x_funcs, x_daemons⟩ : SrcD) ⟨x_title, x_author, x_start, x_release, x_most, x_flags, x_props, x_globals, y_objects, y_verbs, y_rules, x_funcs, x_daemons⟩ = true) := same_eq (by rw [hall_objects.out, hall_verbs.out, hall_rules.out])
              go_wp2
              go_ret
              exact ⟨ret_bool hfin.out.symm, hqt⟩
end Go.Proofs.YtmabeegoapcfpaaGreatDoor
