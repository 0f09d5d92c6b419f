/- The program's sameness of verbs and of sources. Printed by gen-show3.py. -/
import Derived.Test.YtmabeegoapcfpaaGreatDoorQSos
import Derived.Laws.EntriesVeiled
namespace Go.Proofs.YtmabeegoapcfpaaGreatDoor
open Go.RowKit
set_option maxRecDepth 100000 in
set_option maxHeartbeats 1000000 in
theorem soLine_calls (F : Nat → Prop) (w : World) (x y : List SlotD) (cs ds : List Value) (q : Nat) (hF : Inn F w) (hq : w.cell? ⟨q, 0, none⟩ = some (.func (.func 119) #[] #[])) (hx : (Holds.sl Holds.slot 2).R F w x cs) (hy : (Holds.sl Holds.slot 2).R F w y ds) :
    Calls Tryz.prog 120 (#[oneA cs, oneA ds] ++ #[.pointer (some ⟨q, 0, none⟩)]) w (Gives w (.bool (same x y))) := by
  obtain ⟨v, rfl, k1⟩ := hx
  obtain ⟨u, rfl, k2⟩ := hy
  have hc := eqfSlot_calls F w 119 #[] x y v u hF k1 k2 (fun _ _ => by kernel_rfl) (fun x _ y _ W' cs ds hW' hx hy => soSlot_calls F W' x y cs ds (hF.below hW') hx hy)
  obtain ⟨a, cap, rfl⟩ := k1.shape
  obtain ⟨a2, cap2, rfl⟩ := k2.shape
  show Calls Tryz.prog 120 #[.slice a x.length cap, .slice a2 y.length cap2, .pointer (some ⟨q, 0, none⟩)] w _
  have HC := Lib.hid hc
  clear hc k1 k2
  go_enter Tryz.func120, Tryz.ntmps120
  go_wp2_with (go_at_call 121; refine HC.out.mono ?_; rintro e w1 ⟨rfl, hb⟩)
  go_ret
  exact ⟨rfl, hb⟩
set_option maxRecDepth 100000 in
set_option maxHeartbeats 4000000 in
theorem soVerb_calls (F : Nat → Prop) (w : World) (x y : VerbD) (cs ds : List Value) (hF : Inn F w) (hx : Holds.verb.R F w x cs) (hy : Holds.verb.R F w y ds) :
    Calls Tryz.prog 50 #[.agg cs.toArray, .agg ds.toArray] w (Gives w (.bool (same x y))) := by
  obtain ⟨-, va2, rfl, ka2⟩ := hx
  obtain ⟨da2, fa2, rfl⟩ := ka2.shape
  obtain ⟨-, vb2, rfl, kb2⟩ := hy
  obtain ⟨db2, fb2, rfl⟩ := kb2.shape
  obtain ⟨x_name, x_isMeta, x_lines⟩ := x
  obtain ⟨y_name, y_isMeta, y_lines⟩ := y
  simp only at ka2 kb2
  have hmf : ∀ (fn : Fn) (first cap : Array Value) (w : World), (Instr.makeFunc fn first cap).run Tryz.prog w = .ok (.func fn first cap) w := fun _ _ _ _ => rfl
  obtain ⟨W1, hW1⟩ : ∃ W1, w.alloc (.cells #[.string x_name, .bool x_isMeta, .slice da2 x_lines.length fa2] 60) = W1 := ⟨_, rfl⟩
  have hs1 : W1.heap.size = w.heap.size + 1 := by rw [← hW1]; simp
  have hb1 : Below w.heap.size w W1 := by rw [← hW1]; exact (Below.refl _ _).alloc (Nat.le_refl _) _
  have hbx1 : BoxAt W1 w.heap.size [.string x_name, .bool x_isMeta, .slice da2 x_lines.length fa2] := by rw [← hW1]; exact BoxAt.new _ _ _
  obtain ⟨W2, hW2⟩ : ∃ W2, W1.alloc (.cells #[.string y_name, .bool y_isMeta, .slice db2 y_lines.length fb2] 60) = W2 := ⟨_, rfl⟩
  have hs2 : W2.heap.size = w.heap.size + 1 + 1 := by rw [← hW2]; simp; exact hs1
  have hb2 : Below W1.heap.size W1 W2 := by rw [← hW2]; exact (Below.refl _ _).alloc (Nat.le_refl _) _
  have hbx2 : BoxAt W2 W1.heap.size [.string y_name, .bool y_isMeta, .slice db2 y_lines.length fb2] := by rw [← hW2]; exact BoxAt.new _ _ _
  rw [hs1] at hbx2
  obtain ⟨W3, hW3⟩ : ∃ W3, W2.alloc (.cells #[.func (.func 119) #[] #[]] 134) = W3 := ⟨_, rfl⟩
  have hs3 : W3.heap.size = w.heap.size + 1 + 1 + 1 := by rw [← hW3]; simp; exact hs2
  have hb3 : Below W2.heap.size W2 W3 := by rw [← hW3]; exact (Below.refl _ _).alloc (Nat.le_refl _) _
  have hbx3 : BoxAt W3 W2.heap.size [.func (.func 119) #[] #[]] := by rw [← hW3]; exact BoxAt.new _ _ _
  rw [hs2] at hbx3
  have hE : Hid (∀ W, Below W3.heap.size W3 W → BoxAt W (w.heap.size) [.string x_name, .bool x_isMeta, .slice da2 x_lines.length fa2] ∧ BoxAt W (w.heap.size + 1) [.string y_name, .bool y_isMeta, .slice db2 y_lines.length fb2] ∧ BoxAt W (w.heap.size + 1 + 1) [.func (.func 119) #[] #[]] ∧ Below w.heap.size w W) := fun W h4 => ⟨hbx1.below (hb2.trans ((bt hb3 h4).mono hb2.size)) (by omega), hbx2.below (bt hb3 h4) (by omega), hbx3.below h4 (by omega), (hb1.trans ((hb2.trans ((bt hb3 h4).mono hb2.size)).mono hb1.size))⟩
  have HZ0 := Lib.hid hs3
  have HW1 := Lib.hid hW1
  have HW2 := Lib.hid hW2
  have HW3 := Lib.hid hW3
  clear hW1 hs1 hb1 hbx1 hW2 hs2 hb2 hbx2 hW3 hs3 hb3 hbx3
  have hc2 := fun (W : World) (hW : Below W3.heap.size W3 W) => eqfLine_calls F W 120 #[.pointer (some ⟨w.heap.size + 1 + 1, 0, none⟩)] x_lines y_lines _ _ (hF.below (hE.out W hW).2.2.2) (RdL.below ka2 hF (hE.out W hW).2.2.2 (Nat.le_refl _)) (RdL.below kb2 hF (hE.out W hW).2.2.2 (Nat.le_refl _)) (fun _ _ => by kernel_rfl) (fun x _ y _ W' cs ds hW' hx hy => soLine_calls F W' x y cs ds _ ((hF.below (hE.out W hW).2.2.2).below hW') ((hE.out W' (hW.trans (hW'.mono hW.size))).2.2.1.2 0 (by simp)) hx hy)
  by_cases h : x_name = y_name
  rotate_left
  · have hfin : Hid (same (⟨x_name, x_isMeta, x_lines⟩ : VerbD) ⟨y_name, y_isMeta, y_lines⟩ = false) := same_ne (fun e => h (by cases e; rfl))
    have e1 : (x_name.toList == y_name.toList) = false := strne h
    clear hc2 ka2 kb2 h hF
    go_enter Tryz.func50, Tryz.ntmps50
    go_upto_region 2 with fail
    rw [HW1.out, HW2.out, HW3.out]
    obtain ⟨hq1, hq2, hq3, hqt0⟩ := hE.out W3 (Below.refl _ _)
    have HB0 : Below W3.heap.size W3 W3 := Below.refl _ _
    have ga0 := hq1.2 0 (by simp)
    have gb0 := hq2.2 0 (by simp)
    simp only [cqz] at ga0 gb0
    have g3 := hq3.2 0 (by simp)
    simp only [cqz] at g3
    go_wp2_with fail
    go_ret
    exact ⟨ret_bool hfin.out.symm, hqt0⟩
  subst h
  by_cases h : x_isMeta = y_isMeta
  rotate_left
  · have hfin : Hid (same (⟨x_name, x_isMeta, x_lines⟩ : VerbD) ⟨x_name, y_isMeta, y_lines⟩ = false) := same_ne (fun e => h (by cases e; rfl))
    have e1 : (x_isMeta == y_isMeta) = false := by simpa using h
    clear hc2 ka2 kb2 h hF
    go_enter Tryz.func50, Tryz.ntmps50
    go_upto_region 2 with fail
    rw [HW1.out, HW2.out, HW3.out]
    obtain ⟨hq1, hq2, hq3, hqt0⟩ := hE.out W3 (Below.refl _ _)
    have HB0 : Below W3.heap.size W3 W3 := Below.refl _ _
    have ga0 := hq1.2 0 (by simp)
    have ga1 := hq1.2 1 (by simp)
    have gb0 := hq2.2 0 (by simp)
    have gb1 := hq2.2 1 (by simp)
    simp only [cqs, cqz] at ga0 ga1 gb0 gb1
    have g3 := hq3.2 0 (by simp)
    simp only [cqz] at g3
    go_wp2_with fail
    go_ret
    exact ⟨ret_bool hfin.out.symm, hqt0⟩
  subst h
  by_cases h : x_lines = y_lines
  rotate_left
  · have hfin : Hid (same (⟨x_name, x_isMeta, x_lines⟩ : VerbD) ⟨x_name, x_isMeta, y_lines⟩ = false) := same_ne (fun e => h (by cases e; rfl))
    simp only [same_ne h] at hc2
    have HC2 := Lib.hid hc2
    clear hc2 ka2 kb2 h hF
    go_enter Tryz.func50, Tryz.ntmps50
    go_upto_region 2 with fail
    rw [HW1.out, HW2.out, HW3.out]
    obtain ⟨hq1, hq2, hq3, hqt0⟩ := hE.out W3 (Below.refl _ _)
    have HB0 : Below W3.heap.size W3 W3 := Below.refl _ _
    have ga0 := hq1.2 0 (by simp)
    have ga1 := hq1.2 1 (by simp)
    have ga2 := hq1.2 2 (by simp)
    have gb0 := hq2.2 0 (by simp)
    have gb1 := hq2.2 1 (by simp)
    have gb2 := hq2.2 2 (by simp)
    simp only [cqs, cqz] at ga0 ga1 ga2 gb0 gb1 gb2
    have g3 := hq3.2 0 (by simp)
    simp only [cqz] at g3
    go_wp2_with (go_at_call 122; (with_reducible refine (HC2.out W3 HB0).mono ?_); rintro e1 w1 ⟨rfl, hb1⟩; have HB1 := bt HB0 hb1; obtain ⟨r1hq1, r1hq2, r1hq3, hqt1⟩ := hE.out w1 HB1)
    go_ret
    exact ⟨ret_bool hfin.out.symm, hqt1⟩
  subst h
  have hfin : Hid (same (⟨x_name, x_isMeta, x_lines⟩ : VerbD) ⟨x_name, x_isMeta, x_lines⟩ = true) := same_self _
  simp only [same_self] at hc2
  have HC2 := Lib.hid hc2
  clear hc2 ka2 kb2 hF
  go_enter Tryz.func50, Tryz.ntmps50
  go_upto_region 2 with fail
  rw [HW1.out, HW2.out, HW3.out]
  obtain ⟨hq1, hq2, hq3, hqt0⟩ := hE.out W3 (Below.refl _ _)
  have HB0 : Below W3.heap.size W3 W3 := Below.refl _ _
  have ga0 := hq1.2 0 (by simp)
  have ga1 := hq1.2 1 (by simp)
  have ga2 := hq1.2 2 (by simp)
  have gb0 := hq2.2 0 (by simp)
  have gb1 := hq2.2 1 (by simp)
  have gb2 := hq2.2 2 (by simp)
  simp only [cqs, cqz] at ga0 ga1 ga2 gb0 gb1 gb2
  have g3 := hq3.2 0 (by simp)
  simp only [cqz] at g3
  go_wp2_with (go_at_call 122; (with_reducible refine (HC2.out W3 HB0).mono ?_); rintro e1 w1 ⟨rfl, hb1⟩; have HB1 := bt HB0 hb1; obtain ⟨r1hq1, r1hq2, r1hq3, hqt1⟩ := hE.out w1 HB1)
  go_ret
  exact ⟨ret_bool hfin.out.symm, hqt1⟩
set_option maxRecDepth 100000 in
set_option maxHeartbeats 4000000 in
theorem sameS_calls (F : Nat → Prop) (w : World) (x y : SrcD) (cs ds : List Value) (hF : Inn F w) (hx : Holds.src.R F w x cs) (hy : Holds.src.R F w y ds) :
    Calls Tryz.prog 11 #[.agg cs.toArray, .agg ds.toArray] w (Gives w (.bool (same x y))) := by
  obtain ⟨da5, fa5, da6, fa6, da7, fa7, da8, fa8, da9, fa9, da10, fa10, da11, fa11, da12, fa12, rfl, ka5, ka6, ka7, ka8, ka9, ka10, ka11, ka12⟩ := src_shape hx
  obtain ⟨db5, fb5, db6, fb6, db7, fb7, db8, fb8, db9, fb9, db10, fb10, db11, fb11, db12, fb12, rfl, kb5, kb6, kb7, kb8, kb9, kb10, kb11, kb12⟩ := src_shape hy
  obtain ⟨x_title, x_author, x_start, x_release, x_most, x_flags, x_props, x_globals, x_objects, x_verbs, x_rules, x_funcs, x_daemons⟩ := x
  obtain ⟨y_title, y_author, y_start, y_release, y_most, y_flags, y_props, y_globals, y_objects, y_verbs, y_rules, y_funcs, y_daemons⟩ := y
  simp only at ka5 kb5 ka6 kb6 ka7 kb7 ka8 kb8 ka9 kb9 ka10 kb10 ka11 kb11 ka12 kb12
  have hc5 := fun (W : World) (hW : Below w.heap.size w W) => eqString_calls F W x_flags y_flags _ _ (hF.below hW) (RdL.below ka5 hF hW (Nat.le_refl _)) (RdL.below kb5 hF hW (Nat.le_refl _))
  have hc6 := fun (W : World) (hW : Below w.heap.size w W) => eqPair_calls F W x_props y_props _ _ (hF.below hW) (RdL.below ka6 hF hW (Nat.le_refl _)) (RdL.below kb6 hF hW (Nat.le_refl _))
  have hc7 := fun (W : World) (hW : Below w.heap.size w W) => eqPair_calls F W x_globals y_globals _ _ (hF.below hW) (RdL.below ka7 hF hW (Nat.le_refl _)) (RdL.below kb7 hF hW (Nat.le_refl _))
  have hc8 := fun (W : World) (hW : Below w.heap.size w W) => eqfObject_calls F W 48 #[] x_objects y_objects _ _ (hF.below hW) (RdL.below ka8 hF hW (Nat.le_refl _)) (RdL.below kb8 hF hW (Nat.le_refl _)) (fun _ _ => by kernel_rfl) (fun x _ y _ W' cs ds hW' hx hy => soObject_calls F W' x y cs ds ((hF.below hW).below hW') hx hy)
  have hc9 := fun (W : World) (hW : Below w.heap.size w W) => eqfVerb_calls F W 50 #[] x_verbs y_verbs _ _ (hF.below hW) (RdL.below ka9 hF hW (Nat.le_refl _)) (RdL.below kb9 hF hW (Nat.le_refl _)) (fun _ _ => by kernel_rfl) (fun x _ y _ W' cs ds hW' hx hy => soVerb_calls F W' x y cs ds ((hF.below hW).below hW') hx hy)
  have hc10 := fun (W : World) (hW : Below w.heap.size w W) => eqfRule_calls F W 41 #[] x_rules y_rules _ _ (hF.below hW) (RdL.below ka10 hF hW (Nat.le_refl _)) (RdL.below kb10 hF hW (Nat.le_refl _)) (fun _ _ => by kernel_rfl) (fun x _ y _ W' cs ds hW' hx hy => soRule_calls F W' x y cs ds ((hF.below hW).below hW') hx hy)
  have hc11 := fun (W : World) (hW : Below w.heap.size w W) => eqfFunc_calls F W 44 #[] x_funcs y_funcs _ _ (hF.below hW) (RdL.below ka11 hF hW (Nat.le_refl _)) (RdL.below kb11 hF hW (Nat.le_refl _)) (fun _ _ => by kernel_rfl) (fun x _ y _ W' cs ds hW' hx hy => soFunc_calls F W' x y cs ds ((hF.below hW).below hW') hx hy)
  have hc12 := fun (W : World) (hW : Below w.heap.size w W) => eqfFunc_calls F W 44 #[] x_daemons y_daemons _ _ (hF.below hW) (RdL.below ka12 hF hW (Nat.le_refl _)) (RdL.below kb12 hF hW (Nat.le_refl _)) (fun _ _ => by kernel_rfl) (fun x _ y _ W' cs ds hW' hx hy => soFunc_calls F W' x y cs ds ((hF.below hW).below hW') hx hy)
  obtain ⟨W1, hW1⟩ : ∃ W1, w.alloc (.cells #[.string x_title, .string x_author, .string x_start, .int .i64 x_release, .int .i64 x_most, .slice da5 x_flags.length fa5, .slice da6 x_props.length fa6, .slice da7 x_globals.length fa7, .slice da8 x_objects.length fa8, .slice da9 x_verbs.length fa9, .slice da10 x_rules.length fa10, .slice da11 x_funcs.length fa11, .slice da12 x_daemons.length fa12] 29) = W1 := ⟨_, rfl⟩
  have hs1 : W1.heap.size = w.heap.size + 1 := by rw [← hW1]; simp
  have hb1 : Below w.heap.size w W1 := by rw [← hW1]; exact (Below.refl _ _).alloc (Nat.le_refl _) _
  have hbx1 : BoxAt W1 w.heap.size [.string x_title, .string x_author, .string x_start, .int .i64 x_release, .int .i64 x_most, .slice da5 x_flags.length fa5, .slice da6 x_props.length fa6, .slice da7 x_globals.length fa7, .slice da8 x_objects.length fa8, .slice da9 x_verbs.length fa9, .slice da10 x_rules.length fa10, .slice da11 x_funcs.length fa11, .slice da12 x_daemons.length fa12] := by rw [← hW1]; exact BoxAt.new _ _ _
  obtain ⟨W2, hW2⟩ : ∃ W2, W1.alloc (.cells #[.string y_title, .string y_author, .string y_start, .int .i64 y_release, .int .i64 y_most, .slice db5 y_flags.length fb5, .slice db6 y_props.length fb6, .slice db7 y_globals.length fb7, .slice db8 y_objects.length fb8, .slice db9 y_verbs.length fb9, .slice db10 y_rules.length fb10, .slice db11 y_funcs.length fb11, .slice db12 y_daemons.length fb12] 29) = W2 := ⟨_, rfl⟩
  have hs2 : W2.heap.size = w.heap.size + 1 + 1 := by rw [← hW2]; simp; exact hs1
  have hb2 : Below W1.heap.size W1 W2 := by rw [← hW2]; exact (Below.refl _ _).alloc (Nat.le_refl _) _
  have hbx2 : BoxAt W2 W1.heap.size [.string y_title, .string y_author, .string y_start, .int .i64 y_release, .int .i64 y_most, .slice db5 y_flags.length fb5, .slice db6 y_props.length fb6, .slice db7 y_globals.length fb7, .slice db8 y_objects.length fb8, .slice db9 y_verbs.length fb9, .slice db10 y_rules.length fb10, .slice db11 y_funcs.length fb11, .slice db12 y_daemons.length fb12] := by rw [← hW2]; exact BoxAt.new _ _ _
  rw [hs1] at hbx2
  have hE : Hid (∀ W, Below W2.heap.size W2 W → BoxAt W (w.heap.size) [.string x_title, .string x_author, .string x_start, .int .i64 x_release, .int .i64 x_most, .slice da5 x_flags.length fa5, .slice da6 x_props.length fa6, .slice da7 x_globals.length fa7, .slice da8 x_objects.length fa8, .slice da9 x_verbs.length fa9, .slice da10 x_rules.length fa10, .slice da11 x_funcs.length fa11, .slice da12 x_daemons.length fa12] ∧ BoxAt W (w.heap.size + 1) [.string y_title, .string y_author, .string y_start, .int .i64 y_release, .int .i64 y_most, .slice db5 y_flags.length fb5, .slice db6 y_props.length fb6, .slice db7 y_globals.length fb7, .slice db8 y_objects.length fb8, .slice db9 y_verbs.length fb9, .slice db10 y_rules.length fb10, .slice db11 y_funcs.length fb11, .slice db12 y_daemons.length fb12] ∧ Below w.heap.size w W) := fun W h3 => ⟨hbx1.below (bt hb2 h3) (by omega), hbx2.below h3 (by omega), (hb1.trans ((bt hb2 h3).mono hb1.size))⟩
  have HZ0 := Lib.hid hs2
  have HW1 := Lib.hid hW1
  have HW2 := Lib.hid hW2
  clear hW1 hs1 hb1 hbx1 hW2 hs2 hb2 hbx2
  by_cases h : x_title = y_title
  rotate_left
  · have hfin : Hid (same (⟨x_title, x_author, x_start, x_release, x_most, x_flags, x_props, x_globals, x_objects, x_verbs, x_rules, x_funcs, x_daemons⟩ : SrcD) ⟨y_title, y_author, y_start, y_release, y_most, y_flags, y_props, y_globals, y_objects, y_verbs, y_rules, y_funcs, y_daemons⟩ = false) := same_ne (fun e => h (by cases e; rfl))
    have e1 : (x_title.toList == y_title.toList) = false := strne h
    clear hc5 hc6 hc7 hc8 hc9 hc10 hc11 hc12 ka5 kb5 ka6 kb6 ka7 kb7 ka8 kb8 ka9 kb9 ka10 kb10 ka11 kb11 ka12 kb12 h hF
    go_enter Tryz.func11, Tryz.ntmps11
    go_upto_region 1 with fail
    rw [HW1.out, HW2.out]
    obtain ⟨hq1, hq2, hqt0⟩ := hE.out W2 (Below.refl _ _)
    have HB0 : Below W2.heap.size W2 W2 := Below.refl _ _
    have ga0 := hq1.2 0 (by simp)
    have gb0 := hq2.2 0 (by simp)
    simp only [cqz] at ga0 gb0
    go_wp2_with fail
    go_ret
    exact ⟨ret_bool hfin.out.symm, hqt0⟩
  subst h
  by_cases h : x_author = y_author
  rotate_left
  · have hfin : Hid (same (⟨x_title, x_author, x_start, x_release, x_most, x_flags, x_props, x_globals, x_objects, x_verbs, x_rules, x_funcs, x_daemons⟩ : SrcD) ⟨x_title, y_author, y_start, y_release, y_most, y_flags, y_props, y_globals, y_objects, y_verbs, y_rules, y_funcs, y_daemons⟩ = false) := same_ne (fun e => h (by cases e; rfl))
    have e1 : (x_author.toList == y_author.toList) = false := strne h
    clear hc5 hc6 hc7 hc8 hc9 hc10 hc11 hc12 ka5 kb5 ka6 kb6 ka7 kb7 ka8 kb8 ka9 kb9 ka10 kb10 ka11 kb11 ka12 kb12 h hF
    go_enter Tryz.func11, Tryz.ntmps11
    go_upto_region 1 with fail
    rw [HW1.out, HW2.out]
    obtain ⟨hq1, hq2, hqt0⟩ := hE.out W2 (Below.refl _ _)
    have HB0 : Below W2.heap.size W2 W2 := Below.refl _ _
    have ga0 := hq1.2 0 (by simp)
    have ga1 := hq1.2 1 (by simp)
    have gb0 := hq2.2 0 (by simp)
    have gb1 := hq2.2 1 (by simp)
    simp only [cqs, cqz] at ga0 ga1 gb0 gb1
    go_wp2_with fail
    go_ret
    exact ⟨ret_bool hfin.out.symm, hqt0⟩
  subst h
  by_cases h : x_start = y_start
  rotate_left
  · have hfin : Hid (same (⟨x_title, x_author, x_start, x_release, x_most, x_flags, x_props, x_globals, x_objects, x_verbs, x_rules, x_funcs, x_daemons⟩ : SrcD) ⟨x_title, x_author, y_start, y_release, y_most, y_flags, y_props, y_globals, y_objects, y_verbs, y_rules, y_funcs, y_daemons⟩ = false) := same_ne (fun e => h (by cases e; rfl))
    have e1 : (x_start.toList == y_start.toList) = false := strne h
    clear hc5 hc6 hc7 hc8 hc9 hc10 hc11 hc12 ka5 kb5 ka6 kb6 ka7 kb7 ka8 kb8 ka9 kb9 ka10 kb10 ka11 kb11 ka12 kb12 h hF
    go_enter Tryz.func11, Tryz.ntmps11
    go_upto_region 1 with fail
    rw [HW1.out, HW2.out]
    obtain ⟨hq1, hq2, hqt0⟩ := hE.out W2 (Below.refl _ _)
    have HB0 : Below W2.heap.size W2 W2 := Below.refl _ _
    have ga0 := hq1.2 0 (by simp)
    have ga1 := hq1.2 1 (by simp)
    have ga2 := hq1.2 2 (by simp)
    have gb0 := hq2.2 0 (by simp)
    have gb1 := hq2.2 1 (by simp)
    have gb2 := hq2.2 2 (by simp)
    simp only [cqs, cqz] at ga0 ga1 ga2 gb0 gb1 gb2
    go_wp2_with fail
    go_ret
    exact ⟨ret_bool hfin.out.symm, hqt0⟩
  subst h
  by_cases h : x_release = y_release
  rotate_left
  · have hfin : Hid (same (⟨x_title, x_author, x_start, x_release, x_most, x_flags, x_props, x_globals, x_objects, x_verbs, x_rules, x_funcs, x_daemons⟩ : SrcD) ⟨x_title, x_author, x_start, y_release, y_most, y_flags, y_props, y_globals, y_objects, y_verbs, y_rules, y_funcs, y_daemons⟩ = false) := same_ne (fun e => h (by cases e; rfl))
    have e1 : (x_release == y_release) = false := by simpa using h
    clear hc5 hc6 hc7 hc8 hc9 hc10 hc11 hc12 ka5 kb5 ka6 kb6 ka7 kb7 ka8 kb8 ka9 kb9 ka10 kb10 ka11 kb11 ka12 kb12 h hF
    go_enter Tryz.func11, Tryz.ntmps11
    go_upto_region 1 with fail
    rw [HW1.out, HW2.out]
    obtain ⟨hq1, hq2, hqt0⟩ := hE.out W2 (Below.refl _ _)
    have HB0 : Below W2.heap.size W2 W2 := Below.refl _ _
    have ga0 := hq1.2 0 (by simp)
    have ga1 := hq1.2 1 (by simp)
    have ga2 := hq1.2 2 (by simp)
    have ga3 := hq1.2 3 (by simp)
    have gb0 := hq2.2 0 (by simp)
    have gb1 := hq2.2 1 (by simp)
    have gb2 := hq2.2 2 (by simp)
    have gb3 := hq2.2 3 (by simp)
    simp only [cqs, cqz] at ga0 ga1 ga2 ga3 gb0 gb1 gb2 gb3
    go_wp2_with fail
    go_ret
    exact ⟨ret_bool hfin.out.symm, hqt0⟩
  subst h
  by_cases h : x_most = y_most
  rotate_left
  · have hfin : Hid (same (⟨x_title, x_author, x_start, x_release, x_most, x_flags, x_props, x_globals, x_objects, x_verbs, x_rules, x_funcs, x_daemons⟩ : SrcD) ⟨x_title, x_author, x_start, x_release, y_most, y_flags, y_props, y_globals, y_objects, y_verbs, y_rules, y_funcs, y_daemons⟩ = false) := same_ne (fun e => h (by cases e; rfl))
    have e1 : (x_most == y_most) = false := by simpa using h
    clear hc5 hc6 hc7 hc8 hc9 hc10 hc11 hc12 ka5 kb5 ka6 kb6 ka7 kb7 ka8 kb8 ka9 kb9 ka10 kb10 ka11 kb11 ka12 kb12 h hF
    go_enter Tryz.func11, Tryz.ntmps11
    go_upto_region 1 with fail
    rw [HW1.out, HW2.out]
    obtain ⟨hq1, hq2, hqt0⟩ := hE.out W2 (Below.refl _ _)
    have HB0 : Below W2.heap.size W2 W2 := Below.refl _ _
    have ga0 := hq1.2 0 (by simp)
    have ga1 := hq1.2 1 (by simp)
    have ga2 := hq1.2 2 (by simp)
    have ga3 := hq1.2 3 (by simp)
    have ga4 := hq1.2 4 (by simp)
    have gb0 := hq2.2 0 (by simp)
    have gb1 := hq2.2 1 (by simp)
    have gb2 := hq2.2 2 (by simp)
    have gb3 := hq2.2 3 (by simp)
    have gb4 := hq2.2 4 (by simp)
    simp only [cqs, cqz] at ga0 ga1 ga2 ga3 ga4 gb0 gb1 gb2 gb3 gb4
    go_wp2_with fail
    go_ret
    exact ⟨ret_bool hfin.out.symm, hqt0⟩
  subst h
  by_cases h : x_flags = y_flags
  rotate_left
  · have hfin : Hid (same (⟨x_title, x_author, x_start, x_release, x_most, x_flags, x_props, x_globals, x_objects, x_verbs, x_rules, x_funcs, x_daemons⟩ : SrcD) ⟨x_title, x_author, x_start, x_release, x_most, y_flags, y_props, y_globals, y_objects, y_verbs, y_rules, y_funcs, y_daemons⟩ = false) := same_ne (fun e => h (by cases e; rfl))
    simp only [same_ne h] at hc5
    have HC5 := Lib.hid hc5
    clear hc5 hc6 hc7 hc8 hc9 hc10 hc11 hc12 ka5 kb5 ka6 kb6 ka7 kb7 ka8 kb8 ka9 kb9 ka10 kb10 ka11 kb11 ka12 kb12 h hF
    go_enter Tryz.func11, Tryz.ntmps11
    go_upto_region 1 with fail
    rw [HW1.out, HW2.out]
    obtain ⟨hq1, hq2, hqt0⟩ := hE.out W2 (Below.refl _ _)
    have HB0 : Below W2.heap.size W2 W2 := Below.refl _ _
    have ga0 := hq1.2 0 (by simp)
    have ga1 := hq1.2 1 (by simp)
    have ga2 := hq1.2 2 (by simp)
    have ga3 := hq1.2 3 (by simp)
    have ga4 := hq1.2 4 (by simp)
    have ga5 := hq1.2 5 (by simp)
    have gb0 := hq2.2 0 (by simp)
    have gb1 := hq2.2 1 (by simp)
    have gb2 := hq2.2 2 (by simp)
    have gb3 := hq2.2 3 (by simp)
    have gb4 := hq2.2 4 (by simp)
    have gb5 := hq2.2 5 (by simp)
    simp only [cqs, cqz] at ga0 ga1 ga2 ga3 ga4 ga5 gb0 gb1 gb2 gb3 gb4 gb5
    go_wp2_with (go_at_call 45; (with_reducible refine (HC5.out W2 hqt0).mono ?_); rintro e1 w1 ⟨rfl, hb1⟩; have HB1 := bt HB0 hb1; obtain ⟨r1hq1, r1hq2, hqt1⟩ := hE.out w1 HB1)
    go_ret
    exact ⟨ret_bool hfin.out.symm, hqt1⟩
  subst h
  by_cases h : x_props = y_props
  rotate_left
  · have hfin : Hid (same (⟨x_title, x_author, x_start, x_release, x_most, x_flags, x_props, x_globals, x_objects, x_verbs, x_rules, x_funcs, x_daemons⟩ : SrcD) ⟨x_title, x_author, x_start, x_release, x_most, x_flags, y_props, y_globals, y_objects, y_verbs, y_rules, y_funcs, y_daemons⟩ = false) := same_ne (fun e => h (by cases e; rfl))
    simp only [same_self] at hc5
    have HC5 := Lib.hid hc5
    simp only [same_ne h] at hc6
    have HC6 := Lib.hid hc6
    clear hc5 hc6 hc7 hc8 hc9 hc10 hc11 hc12 ka5 kb5 ka6 kb6 ka7 kb7 ka8 kb8 ka9 kb9 ka10 kb10 ka11 kb11 ka12 kb12 h hF
    go_enter Tryz.func11, Tryz.ntmps11
    go_upto_region 1 with fail
    rw [HW1.out, HW2.out]
    obtain ⟨hq1, hq2, hqt0⟩ := hE.out W2 (Below.refl _ _)
    have HB0 : Below W2.heap.size W2 W2 := Below.refl _ _
    have ga0 := hq1.2 0 (by simp)
    have ga1 := hq1.2 1 (by simp)
    have ga2 := hq1.2 2 (by simp)
    have ga3 := hq1.2 3 (by simp)
    have ga4 := hq1.2 4 (by simp)
    have ga5 := hq1.2 5 (by simp)
    have ga6 := hq1.2 6 (by simp)
    have gb0 := hq2.2 0 (by simp)
    have gb1 := hq2.2 1 (by simp)
    have gb2 := hq2.2 2 (by simp)
    have gb3 := hq2.2 3 (by simp)
    have gb4 := hq2.2 4 (by simp)
    have gb5 := hq2.2 5 (by simp)
    have gb6 := hq2.2 6 (by simp)
    simp only [cqs, cqz] at ga0 ga1 ga2 ga3 ga4 ga5 ga6 gb0 gb1 gb2 gb3 gb4 gb5 gb6
    go_wp2_with (first | (go_at_call 45; (with_reducible refine (HC5.out W2 hqt0).mono ?_); rintro e1 w1 ⟨rfl, hb1⟩; have HB1 := bt HB0 hb1; obtain ⟨r1hq1, r1hq2, hqt1⟩ := hE.out w1 HB1; have g1_a6 := r1hq1.2 6 (by simp); have g1_b6 := r1hq2.2 6 (by simp); simp only [cqs, cqz] at g1_a6 g1_b6) | (go_at_call 46; (with_reducible refine (HC6.out w1 hqt1).mono ?_); rintro e2 w2 ⟨rfl, hb2⟩; have HB2 := bt HB1 hb2; obtain ⟨r2hq1, r2hq2, hqt2⟩ := hE.out w2 HB2))
    go_ret
    exact ⟨ret_bool hfin.out.symm, hqt2⟩
  subst h
  by_cases h : x_globals = y_globals
  rotate_left
  · have hfin : Hid (same (⟨x_title, x_author, x_start, x_release, x_most, x_flags, x_props, x_globals, x_objects, x_verbs, x_rules, x_funcs, x_daemons⟩ : SrcD) ⟨x_title, x_author, x_start, x_release, x_most, x_flags, x_props, y_globals, y_objects, y_verbs, y_rules, y_funcs, y_daemons⟩ = false) := same_ne (fun e => h (by cases e; rfl))
    simp only [same_self] at hc5
    have HC5 := Lib.hid hc5
    simp only [same_self] at hc6
    have HC6 := Lib.hid hc6
    simp only [same_ne h] at hc7
    have HC7 := Lib.hid hc7
    clear hc5 hc6 hc7 hc8 hc9 hc10 hc11 hc12 ka5 kb5 ka6 kb6 ka7 kb7 ka8 kb8 ka9 kb9 ka10 kb10 ka11 kb11 ka12 kb12 h hF
    go_enter Tryz.func11, Tryz.ntmps11
    go_upto_region 1 with fail
    rw [HW1.out, HW2.out]
    obtain ⟨hq1, hq2, hqt0⟩ := hE.out W2 (Below.refl _ _)
    have HB0 : Below W2.heap.size W2 W2 := Below.refl _ _
    have ga0 := hq1.2 0 (by simp)
    have ga1 := hq1.2 1 (by simp)
    have ga2 := hq1.2 2 (by simp)
    have ga3 := hq1.2 3 (by simp)
    have ga4 := hq1.2 4 (by simp)
    have ga5 := hq1.2 5 (by simp)
    have ga6 := hq1.2 6 (by simp)
    have ga7 := hq1.2 7 (by simp)
    have gb0 := hq2.2 0 (by simp)
    have gb1 := hq2.2 1 (by simp)
    have gb2 := hq2.2 2 (by simp)
    have gb3 := hq2.2 3 (by simp)
    have gb4 := hq2.2 4 (by simp)
    have gb5 := hq2.2 5 (by simp)
    have gb6 := hq2.2 6 (by simp)
    have gb7 := hq2.2 7 (by simp)
    simp only [cqs, cqz] at ga0 ga1 ga2 ga3 ga4 ga5 ga6 ga7 gb0 gb1 gb2 gb3 gb4 gb5 gb6 gb7
    go_wp2_with (first | (go_at_call 45; (with_reducible refine (HC5.out W2 hqt0).mono ?_); rintro e1 w1 ⟨rfl, hb1⟩; have HB1 := bt HB0 hb1; obtain ⟨r1hq1, r1hq2, hqt1⟩ := hE.out w1 HB1; have g1_a6 := r1hq1.2 6 (by simp); have g1_a7 := r1hq1.2 7 (by simp); have g1_b6 := r1hq2.2 6 (by simp); have g1_b7 := r1hq2.2 7 (by simp); simp only [cqs, cqz] at g1_a6 g1_a7 g1_b6 g1_b7) | (go_at_call 46; (with_reducible refine (HC6.out w1 hqt1).mono ?_); rintro e2 w2 ⟨rfl, hb2⟩; have HB2 := bt HB1 hb2; obtain ⟨r2hq1, r2hq2, hqt2⟩ := hE.out w2 HB2; have g2_a7 := r2hq1.2 7 (by simp); have g2_b7 := r2hq2.2 7 (by simp); simp only [cqs, cqz] at g2_a7 g2_b7) | (go_at_call 46; (with_reducible refine (HC7.out w2 hqt2).mono ?_); rintro e3 w3 ⟨rfl, hb3⟩; have HB3 := bt HB2 hb3; obtain ⟨r3hq1, r3hq2, hqt3⟩ := hE.out w3 HB3))
    go_ret
    exact ⟨ret_bool hfin.out.symm, hqt3⟩
  subst h
  by_cases h : x_objects = y_objects
  rotate_left
  · have hfin : Hid (same (⟨x_title, x_author, x_start, x_release, x_most, x_flags, x_props, x_globals, x_objects, x_verbs, x_rules, x_funcs, x_daemons⟩ : SrcD) ⟨x_title, x_author, x_start, x_release, x_most, x_flags, x_props, x_globals, y_objects, y_verbs, y_rules, y_funcs, y_daemons⟩ = false) := same_ne (fun e => h (by cases e; rfl))
    simp only [same_self] at hc5
    have HC5 := Lib.hid hc5
    simp only [same_self] at hc6
    have HC6 := Lib.hid hc6
    simp only [same_self] at hc7
    have HC7 := Lib.hid hc7
    simp only [same_ne h] at hc8
    have HC8 := Lib.hid hc8
    clear hc5 hc6 hc7 hc8 hc9 hc10 hc11 hc12 ka5 kb5 ka6 kb6 ka7 kb7 ka8 kb8 ka9 kb9 ka10 kb10 ka11 kb11 ka12 kb12 h hF
    go_enter Tryz.func11, Tryz.ntmps11
    go_upto_region 1 with fail
    rw [HW1.out, HW2.out]
    obtain ⟨hq1, hq2, hqt0⟩ := hE.out W2 (Below.refl _ _)
    have HB0 : Below W2.heap.size W2 W2 := Below.refl _ _
    have ga0 := hq1.2 0 (by simp)
    have ga1 := hq1.2 1 (by simp)
    have ga2 := hq1.2 2 (by simp)
    have ga3 := hq1.2 3 (by simp)
    have ga4 := hq1.2 4 (by simp)
    have ga5 := hq1.2 5 (by simp)
    have ga6 := hq1.2 6 (by simp)
    have ga7 := hq1.2 7 (by simp)
    have ga8 := hq1.2 8 (by simp)
    have gb0 := hq2.2 0 (by simp)
    have gb1 := hq2.2 1 (by simp)
    have gb2 := hq2.2 2 (by simp)
    have gb3 := hq2.2 3 (by simp)
    have gb4 := hq2.2 4 (by simp)
    have gb5 := hq2.2 5 (by simp)
    have gb6 := hq2.2 6 (by simp)
    have gb7 := hq2.2 7 (by simp)
    have gb8 := hq2.2 8 (by simp)
    simp only [cqs, cqz] at ga0 ga1 ga2 ga3 ga4 ga5 ga6 ga7 ga8 gb0 gb1 gb2 gb3 gb4 gb5 gb6 gb7 gb8
    go_wp2_with (first | (go_at_call 45; (with_reducible refine (HC5.out W2 hqt0).mono ?_); rintro e1 w1 ⟨rfl, hb1⟩; have HB1 := bt HB0 hb1; obtain ⟨r1hq1, r1hq2, hqt1⟩ := hE.out w1 HB1; have g1_a6 := r1hq1.2 6 (by simp); have g1_a7 := r1hq1.2 7 (by simp); have g1_a8 := r1hq1.2 8 (by simp); have g1_b6 := r1hq2.2 6 (by simp); have g1_b7 := r1hq2.2 7 (by simp); have g1_b8 := r1hq2.2 8 (by simp); simp only [cqs, cqz] at g1_a6 g1_a7 g1_a8 g1_b6 g1_b7 g1_b8) | (go_at_call 46; (with_reducible refine (HC6.out w1 hqt1).mono ?_); rintro e2 w2 ⟨rfl, hb2⟩; have HB2 := bt HB1 hb2; obtain ⟨r2hq1, r2hq2, hqt2⟩ := hE.out w2 HB2; have g2_a7 := r2hq1.2 7 (by simp); have g2_a8 := r2hq1.2 8 (by simp); have g2_b7 := r2hq2.2 7 (by simp); have g2_b8 := r2hq2.2 8 (by simp); simp only [cqs, cqz] at g2_a7 g2_a8 g2_b7 g2_b8) | (go_at_call 46; (with_reducible refine (HC7.out w2 hqt2).mono ?_); rintro e3 w3 ⟨rfl, hb3⟩; have HB3 := bt HB2 hb3; obtain ⟨r3hq1, r3hq2, hqt3⟩ := hE.out w3 HB3; have g3_a8 := r3hq1.2 8 (by simp); have g3_b8 := r3hq2.2 8 (by simp); simp only [cqs, cqz] at g3_a8 g3_b8) | (go_at_call 47; (with_reducible refine (HC8.out w3 hqt3).mono ?_); rintro e4 w4 ⟨rfl, hb4⟩; have HB4 := bt HB3 hb4; obtain ⟨r4hq1, r4hq2, hqt4⟩ := hE.out w4 HB4))
    go_ret
    exact ⟨ret_bool hfin.out.symm, hqt4⟩
  subst h
  by_cases h : x_verbs = y_verbs
  rotate_left
  · have hfin : Hid (same (⟨x_title, x_author, x_start, x_release, x_most, x_flags, x_props, x_globals, x_objects, x_verbs, x_rules, x_funcs, x_daemons⟩ : SrcD) ⟨x_title, x_author, x_start, x_release, x_most, x_flags, x_props, x_globals, x_objects, y_verbs, y_rules, y_funcs, y_daemons⟩ = false) := same_ne (fun e => h (by cases e; rfl))
    simp only [same_self] at hc5
    have HC5 := Lib.hid hc5
    simp only [same_self] at hc6
    have HC6 := Lib.hid hc6
    simp only [same_self] at hc7
    have HC7 := Lib.hid hc7
    simp only [same_self] at hc8
    have HC8 := Lib.hid hc8
    simp only [same_ne h] at hc9
    have HC9 := Lib.hid hc9
    clear hc5 hc6 hc7 hc8 hc9 hc10 hc11 hc12 ka5 kb5 ka6 kb6 ka7 kb7 ka8 kb8 ka9 kb9 ka10 kb10 ka11 kb11 ka12 kb12 h hF
    go_enter Tryz.func11, Tryz.ntmps11
    go_upto_region 1 with fail
    rw [HW1.out, HW2.out]
    obtain ⟨hq1, hq2, hqt0⟩ := hE.out W2 (Below.refl _ _)
    have HB0 : Below W2.heap.size W2 W2 := Below.refl _ _
    have ga0 := hq1.2 0 (by simp)
    have ga1 := hq1.2 1 (by simp)
    have ga2 := hq1.2 2 (by simp)
    have ga3 := hq1.2 3 (by simp)
    have ga4 := hq1.2 4 (by simp)
    have ga5 := hq1.2 5 (by simp)
    have ga6 := hq1.2 6 (by simp)
    have ga7 := hq1.2 7 (by simp)
    have ga8 := hq1.2 8 (by simp)
    have ga9 := hq1.2 9 (by simp)
    have gb0 := hq2.2 0 (by simp)
    have gb1 := hq2.2 1 (by simp)
    have gb2 := hq2.2 2 (by simp)
    have gb3 := hq2.2 3 (by simp)
    have gb4 := hq2.2 4 (by simp)
    have gb5 := hq2.2 5 (by simp)
    have gb6 := hq2.2 6 (by simp)
    have gb7 := hq2.2 7 (by simp)
    have gb8 := hq2.2 8 (by simp)
    have gb9 := hq2.2 9 (by simp)
    simp only [cqs, cqz] at ga0 ga1 ga2 ga3 ga4 ga5 ga6 ga7 ga8 ga9 gb0 gb1 gb2 gb3 gb4 gb5 gb6 gb7 gb8 gb9
    go_wp2_with (first | (go_at_call 45; (with_reducible refine (HC5.out W2 hqt0).mono ?_); rintro e1 w1 ⟨rfl, hb1⟩; have HB1 := bt HB0 hb1; obtain ⟨r1hq1, r1hq2, hqt1⟩ := hE.out w1 HB1; have g1_a6 := r1hq1.2 6 (by simp); have g1_a7 := r1hq1.2 7 (by simp); have g1_a8 := r1hq1.2 8 (by simp); have g1_a9 := r1hq1.2 9 (by simp); have g1_b6 := r1hq2.2 6 (by simp); have g1_b7 := r1hq2.2 7 (by simp); have g1_b8 := r1hq2.2 8 (by simp); have g1_b9 := r1hq2.2 9 (by simp); simp only [cqs, cqz] at g1_a6 g1_a7 g1_a8 g1_a9 g1_b6 g1_b7 g1_b8 g1_b9) | (go_at_call 46; (with_reducible refine (HC6.out w1 hqt1).mono ?_); rintro e2 w2 ⟨rfl, hb2⟩; have HB2 := bt HB1 hb2; obtain ⟨r2hq1, r2hq2, hqt2⟩ := hE.out w2 HB2; have g2_a7 := r2hq1.2 7 (by simp); have g2_a8 := r2hq1.2 8 (by simp); have g2_a9 := r2hq1.2 9 (by simp); have g2_b7 := r2hq2.2 7 (by simp); have g2_b8 := r2hq2.2 8 (by simp); have g2_b9 := r2hq2.2 9 (by simp); simp only [cqs, cqz] at g2_a7 g2_a8 g2_a9 g2_b7 g2_b8 g2_b9) | (go_at_call 46; (with_reducible refine (HC7.out w2 hqt2).mono ?_); rintro e3 w3 ⟨rfl, hb3⟩; have HB3 := bt HB2 hb3; obtain ⟨r3hq1, r3hq2, hqt3⟩ := hE.out w3 HB3; have g3_a8 := r3hq1.2 8 (by simp); have g3_a9 := r3hq1.2 9 (by simp); have g3_b8 := r3hq2.2 8 (by simp); have g3_b9 := r3hq2.2 9 (by simp); simp only [cqs, cqz] at g3_a8 g3_a9 g3_b8 g3_b9) | (go_at_call 47; (with_reducible refine (HC8.out w3 hqt3).mono ?_); rintro e4 w4 ⟨rfl, hb4⟩; have HB4 := bt HB3 hb4; obtain ⟨r4hq1, r4hq2, hqt4⟩ := hE.out w4 HB4; have g4_a9 := r4hq1.2 9 (by simp); have g4_b9 := r4hq2.2 9 (by simp); simp only [cqs, cqz] at g4_a9 g4_b9) | (go_at_call 49; (with_reducible refine (HC9.out w4 hqt4).mono ?_); rintro e5 w5 ⟨rfl, hb5⟩; have HB5 := bt HB4 hb5; obtain ⟨r5hq1, r5hq2, hqt5⟩ := hE.out w5 HB5))
    go_ret
    exact ⟨ret_bool hfin.out.symm, hqt5⟩
  subst h
  by_cases h : x_rules = y_rules
  rotate_left
  · have hfin : Hid (same (⟨x_title, x_author, x_start, x_release, x_most, x_flags, x_props, x_globals, x_objects, x_verbs, x_rules, x_funcs, x_daemons⟩ : SrcD) ⟨x_title, x_author, x_start, x_release, x_most, x_flags, x_props, x_globals, x_objects, x_verbs, y_rules, y_funcs, y_daemons⟩ = false) := same_ne (fun e => h (by cases e; rfl))
    simp only [same_self] at hc5
    have HC5 := Lib.hid hc5
    simp only [same_self] at hc6
    have HC6 := Lib.hid hc6
    simp only [same_self] at hc7
    have HC7 := Lib.hid hc7
    simp only [same_self] at hc8
    have HC8 := Lib.hid hc8
    simp only [same_self] at hc9
    have HC9 := Lib.hid hc9
    simp only [same_ne h] at hc10
    have HC10 := Lib.hid hc10
    clear hc5 hc6 hc7 hc8 hc9 hc10 hc11 hc12 ka5 kb5 ka6 kb6 ka7 kb7 ka8 kb8 ka9 kb9 ka10 kb10 ka11 kb11 ka12 kb12 h hF
    go_enter Tryz.func11, Tryz.ntmps11
    go_upto_region 1 with fail
    rw [HW1.out, HW2.out]
    obtain ⟨hq1, hq2, hqt0⟩ := hE.out W2 (Below.refl _ _)
    have HB0 : Below W2.heap.size W2 W2 := Below.refl _ _
    have ga0 := hq1.2 0 (by simp)
    have ga1 := hq1.2 1 (by simp)
    have ga2 := hq1.2 2 (by simp)
    have ga3 := hq1.2 3 (by simp)
    have ga4 := hq1.2 4 (by simp)
    have ga5 := hq1.2 5 (by simp)
    have ga6 := hq1.2 6 (by simp)
    have ga7 := hq1.2 7 (by simp)
    have ga8 := hq1.2 8 (by simp)
    have ga9 := hq1.2 9 (by simp)
    have ga10 := hq1.2 10 (by simp)
    have gb0 := hq2.2 0 (by simp)
    have gb1 := hq2.2 1 (by simp)
    have gb2 := hq2.2 2 (by simp)
    have gb3 := hq2.2 3 (by simp)
    have gb4 := hq2.2 4 (by simp)
    have gb5 := hq2.2 5 (by simp)
    have gb6 := hq2.2 6 (by simp)
    have gb7 := hq2.2 7 (by simp)
    have gb8 := hq2.2 8 (by simp)
    have gb9 := hq2.2 9 (by simp)
    have gb10 := hq2.2 10 (by simp)
    simp only [cqs, cqz] at ga0 ga1 ga2 ga3 ga4 ga5 ga6 ga7 ga8 ga9 ga10 gb0 gb1 gb2 gb3 gb4 gb5 gb6 gb7 gb8 gb9 gb10
    go_wp2_with (first | (go_at_call 45; (with_reducible refine (HC5.out W2 hqt0).mono ?_); rintro e1 w1 ⟨rfl, hb1⟩; have HB1 := bt HB0 hb1; obtain ⟨r1hq1, r1hq2, hqt1⟩ := hE.out w1 HB1; have g1_a6 := r1hq1.2 6 (by simp); have g1_a7 := r1hq1.2 7 (by simp); have g1_a8 := r1hq1.2 8 (by simp); have g1_a9 := r1hq1.2 9 (by simp); have g1_a10 := r1hq1.2 10 (by simp); have g1_b6 := r1hq2.2 6 (by simp); have g1_b7 := r1hq2.2 7 (by simp); have g1_b8 := r1hq2.2 8 (by simp); have g1_b9 := r1hq2.2 9 (by simp); have g1_b10 := r1hq2.2 10 (by simp); simp only [cqs, cqz] at g1_a6 g1_a7 g1_a8 g1_a9 g1_a10 g1_b6 g1_b7 g1_b8 g1_b9 g1_b10) | (go_at_call 46; (with_reducible refine (HC6.out w1 hqt1).mono ?_); rintro e2 w2 ⟨rfl, hb2⟩; have HB2 := bt HB1 hb2; obtain ⟨r2hq1, r2hq2, hqt2⟩ := hE.out w2 HB2; have g2_a7 := r2hq1.2 7 (by simp); have g2_a8 := r2hq1.2 8 (by simp); have g2_a9 := r2hq1.2 9 (by simp); have g2_a10 := r2hq1.2 10 (by simp); have g2_b7 := r2hq2.2 7 (by simp); have g2_b8 := r2hq2.2 8 (by simp); have g2_b9 := r2hq2.2 9 (by simp); have g2_b10 := r2hq2.2 10 (by simp); simp only [cqs, cqz] at g2_a7 g2_a8 g2_a9 g2_a10 g2_b7 g2_b8 g2_b9 g2_b10) | (go_at_call 46; (with_reducible refine (HC7.out w2 hqt2).mono ?_); rintro e3 w3 ⟨rfl, hb3⟩; have HB3 := bt HB2 hb3; obtain ⟨r3hq1, r3hq2, hqt3⟩ := hE.out w3 HB3; have g3_a8 := r3hq1.2 8 (by simp); have g3_a9 := r3hq1.2 9 (by simp); have g3_a10 := r3hq1.2 10 (by simp); have g3_b8 := r3hq2.2 8 (by simp); have g3_b9 := r3hq2.2 9 (by simp); have g3_b10 := r3hq2.2 10 (by simp); simp only [cqs, cqz] at g3_a8 g3_a9 g3_a10 g3_b8 g3_b9 g3_b10) | (go_at_call 47; (with_reducible refine (HC8.out w3 hqt3).mono ?_); rintro e4 w4 ⟨rfl, hb4⟩; have HB4 := bt HB3 hb4; obtain ⟨r4hq1, r4hq2, hqt4⟩ := hE.out w4 HB4; have g4_a9 := r4hq1.2 9 (by simp); have g4_a10 := r4hq1.2 10 (by simp); have g4_b9 := r4hq2.2 9 (by simp); have g4_b10 := r4hq2.2 10 (by simp); simp only [cqs, cqz] at g4_a9 g4_a10 g4_b9 g4_b10) | (go_at_call 49; (with_reducible refine (HC9.out w4 hqt4).mono ?_); rintro e5 w5 ⟨rfl, hb5⟩; have HB5 := bt HB4 hb5; obtain ⟨r5hq1, r5hq2, hqt5⟩ := hE.out w5 HB5; have g5_a10 := r5hq1.2 10 (by simp); have g5_b10 := r5hq2.2 10 (by simp); simp only [cqs, cqz] at g5_a10 g5_b10) | (go_at_call 51; (with_reducible refine (HC10.out w5 hqt5).mono ?_); rintro e6 w6 ⟨rfl, hb6⟩; have HB6 := bt HB5 hb6; obtain ⟨r6hq1, r6hq2, hqt6⟩ := hE.out w6 HB6))
    go_ret
    exact ⟨ret_bool hfin.out.symm, hqt6⟩
  subst h
  by_cases h : x_funcs = y_funcs
  rotate_left
  · have hfin : Hid (same (⟨x_title, x_author, x_start, x_release, x_most, x_flags, x_props, x_globals, x_objects, x_verbs, x_rules, x_funcs, x_daemons⟩ : SrcD) ⟨x_title, x_author, x_start, x_release, x_most, x_flags, x_props, x_globals, x_objects, x_verbs, x_rules, y_funcs, y_daemons⟩ = false) := same_ne (fun e => h (by cases e; rfl))
    simp only [same_self] at hc5
    have HC5 := Lib.hid hc5
    simp only [same_self] at hc6
    have HC6 := Lib.hid hc6
    simp only [same_self] at hc7
    have HC7 := Lib.hid hc7
    simp only [same_self] at hc8
    have HC8 := Lib.hid hc8
    simp only [same_self] at hc9
    have HC9 := Lib.hid hc9
    simp only [same_self] at hc10
    have HC10 := Lib.hid hc10
    simp only [same_ne h] at hc11
    have HC11 := Lib.hid hc11
    clear hc5 hc6 hc7 hc8 hc9 hc10 hc11 hc12 ka5 kb5 ka6 kb6 ka7 kb7 ka8 kb8 ka9 kb9 ka10 kb10 ka11 kb11 ka12 kb12 h hF
    go_enter Tryz.func11, Tryz.ntmps11
    go_upto_region 1 with fail
    rw [HW1.out, HW2.out]
    obtain ⟨hq1, hq2, hqt0⟩ := hE.out W2 (Below.refl _ _)
    have HB0 : Below W2.heap.size W2 W2 := Below.refl _ _
    have ga0 := hq1.2 0 (by simp)
    have ga1 := hq1.2 1 (by simp)
    have ga2 := hq1.2 2 (by simp)
    have ga3 := hq1.2 3 (by simp)
    have ga4 := hq1.2 4 (by simp)
    have ga5 := hq1.2 5 (by simp)
    have ga6 := hq1.2 6 (by simp)
    have ga7 := hq1.2 7 (by simp)
    have ga8 := hq1.2 8 (by simp)
    have ga9 := hq1.2 9 (by simp)
    have ga10 := hq1.2 10 (by simp)
    have ga11 := hq1.2 11 (by simp)
    have gb0 := hq2.2 0 (by simp)
    have gb1 := hq2.2 1 (by simp)
    have gb2 := hq2.2 2 (by simp)
    have gb3 := hq2.2 3 (by simp)
    have gb4 := hq2.2 4 (by simp)
    have gb5 := hq2.2 5 (by simp)
    have gb6 := hq2.2 6 (by simp)
    have gb7 := hq2.2 7 (by simp)
    have gb8 := hq2.2 8 (by simp)
    have gb9 := hq2.2 9 (by simp)
    have gb10 := hq2.2 10 (by simp)
    have gb11 := hq2.2 11 (by simp)
    simp only [cqs, cqz] at ga0 ga1 ga2 ga3 ga4 ga5 ga6 ga7 ga8 ga9 ga10 ga11 gb0 gb1 gb2 gb3 gb4 gb5 gb6 gb7 gb8 gb9 gb10 gb11
    go_wp2_with (first | (go_at_call 45; (with_reducible refine (HC5.out W2 hqt0).mono ?_); rintro e1 w1 ⟨rfl, hb1⟩; have HB1 := bt HB0 hb1; obtain ⟨r1hq1, r1hq2, hqt1⟩ := hE.out w1 HB1; have g1_a6 := r1hq1.2 6 (by simp); have g1_a7 := r1hq1.2 7 (by simp); have g1_a8 := r1hq1.2 8 (by simp); have g1_a9 := r1hq1.2 9 (by simp); have g1_a10 := r1hq1.2 10 (by simp); have g1_a11 := r1hq1.2 11 (by simp); have g1_b6 := r1hq2.2 6 (by simp); have g1_b7 := r1hq2.2 7 (by simp); have g1_b8 := r1hq2.2 8 (by simp); have g1_b9 := r1hq2.2 9 (by simp); have g1_b10 := r1hq2.2 10 (by simp); have g1_b11 := r1hq2.2 11 (by simp); simp only [cqs, cqz] at g1_a6 g1_a7 g1_a8 g1_a9 g1_a10 g1_a11 g1_b6 g1_b7 g1_b8 g1_b9 g1_b10 g1_b11) | (go_at_call 46; (with_reducible refine (HC6.out w1 hqt1).mono ?_); rintro e2 w2 ⟨rfl, hb2⟩; have HB2 := bt HB1 hb2; obtain ⟨r2hq1, r2hq2, hqt2⟩ := hE.out w2 HB2; have g2_a7 := r2hq1.2 7 (by simp); have g2_a8 := r2hq1.2 8 (by simp); have g2_a9 := r2hq1.2 9 (by simp); have g2_a10 := r2hq1.2 10 (by simp); have g2_a11 := r2hq1.2 11 (by simp); have g2_b7 := r2hq2.2 7 (by simp); have g2_b8 := r2hq2.2 8 (by simp); have g2_b9 := r2hq2.2 9 (by simp); have g2_b10 := r2hq2.2 10 (by simp); have g2_b11 := r2hq2.2 11 (by simp); simp only [cqs, cqz] at g2_a7 g2_a8 g2_a9 g2_a10 g2_a11 g2_b7 g2_b8 g2_b9 g2_b10 g2_b11) | (go_at_call 46; (with_reducible refine (HC7.out w2 hqt2).mono ?_); rintro e3 w3 ⟨rfl, hb3⟩; have HB3 := bt HB2 hb3; obtain ⟨r3hq1, r3hq2, hqt3⟩ := hE.out w3 HB3; have g3_a8 := r3hq1.2 8 (by simp); have g3_a9 := r3hq1.2 9 (by simp); have g3_a10 := r3hq1.2 10 (by simp); have g3_a11 := r3hq1.2 11 (by simp); have g3_b8 := r3hq2.2 8 (by simp); have g3_b9 := r3hq2.2 9 (by simp); have g3_b10 := r3hq2.2 10 (by simp); have g3_b11 := r3hq2.2 11 (by simp); simp only [cqs, cqz] at g3_a8 g3_a9 g3_a10 g3_a11 g3_b8 g3_b9 g3_b10 g3_b11) | (go_at_call 47; (with_reducible refine (HC8.out w3 hqt3).mono ?_); rintro e4 w4 ⟨rfl, hb4⟩; have HB4 := bt HB3 hb4; obtain ⟨r4hq1, r4hq2, hqt4⟩ := hE.out w4 HB4; have g4_a9 := r4hq1.2 9 (by simp); have g4_a10 := r4hq1.2 10 (by simp); have g4_a11 := r4hq1.2 11 (by simp); have g4_b9 := r4hq2.2 9 (by simp); have g4_b10 := r4hq2.2 10 (by simp); have g4_b11 := r4hq2.2 11 (by simp); simp only [cqs, cqz] at g4_a9 g4_a10 g4_a11 g4_b9 g4_b10 g4_b11) | (go_at_call 49; (with_reducible refine (HC9.out w4 hqt4).mono ?_); rintro e5 w5 ⟨rfl, hb5⟩; have HB5 := bt HB4 hb5; obtain ⟨r5hq1, r5hq2, hqt5⟩ := hE.out w5 HB5; have g5_a10 := r5hq1.2 10 (by simp); have g5_a11 := r5hq1.2 11 (by simp); have g5_b10 := r5hq2.2 10 (by simp); have g5_b11 := r5hq2.2 11 (by simp); simp only [cqs, cqz] at g5_a10 g5_a11 g5_b10 g5_b11) | (go_at_call 51; (with_reducible refine (HC10.out w5 hqt5).mono ?_); rintro e6 w6 ⟨rfl, hb6⟩; have HB6 := bt HB5 hb6; obtain ⟨r6hq1, r6hq2, hqt6⟩ := hE.out w6 HB6; have g6_a11 := r6hq1.2 11 (by simp); have g6_b11 := r6hq2.2 11 (by simp); simp only [cqs, cqz] at g6_a11 g6_b11) | (go_at_call 52; (with_reducible refine (HC11.out w6 hqt6).mono ?_); rintro e7 w7 ⟨rfl, hb7⟩; have HB7 := bt HB6 hb7; obtain ⟨r7hq1, r7hq2, hqt7⟩ := hE.out w7 HB7))
    go_ret
    exact ⟨ret_bool hfin.out.symm, hqt7⟩
  subst h
  by_cases h : x_daemons = y_daemons
  rotate_left
  · have hfin : Hid (same (⟨x_title, x_author, x_start, x_release, x_most, x_flags, x_props, x_globals, x_objects, x_verbs, x_rules, x_funcs, x_daemons⟩ : SrcD) ⟨x_title, x_author, x_start, x_release, x_most, x_flags, x_props, x_globals, x_objects, x_verbs, x_rules, x_funcs, y_daemons⟩ = false) := same_ne (fun e => h (by cases e; rfl))
    simp only [same_self] at hc5
    have HC5 := Lib.hid hc5
    simp only [same_self] at hc6
    have HC6 := Lib.hid hc6
    simp only [same_self] at hc7
    have HC7 := Lib.hid hc7
    simp only [same_self] at hc8
    have HC8 := Lib.hid hc8
    simp only [same_self] at hc9
    have HC9 := Lib.hid hc9
    simp only [same_self] at hc10
    have HC10 := Lib.hid hc10
    simp only [same_self] at hc11
    have HC11 := Lib.hid hc11
    simp only [same_ne h] at hc12
    have HC12 := Lib.hid hc12
    clear hc5 hc6 hc7 hc8 hc9 hc10 hc11 hc12 ka5 kb5 ka6 kb6 ka7 kb7 ka8 kb8 ka9 kb9 ka10 kb10 ka11 kb11 ka12 kb12 h hF
    go_enter Tryz.func11, Tryz.ntmps11
    go_upto_region 1 with fail
    rw [HW1.out, HW2.out]
    obtain ⟨hq1, hq2, hqt0⟩ := hE.out W2 (Below.refl _ _)
    have HB0 : Below W2.heap.size W2 W2 := Below.refl _ _
    have ga0 := hq1.2 0 (by simp)
    have ga1 := hq1.2 1 (by simp)
    have ga2 := hq1.2 2 (by simp)
    have ga3 := hq1.2 3 (by simp)
    have ga4 := hq1.2 4 (by simp)
    have ga5 := hq1.2 5 (by simp)
    have ga6 := hq1.2 6 (by simp)
    have ga7 := hq1.2 7 (by simp)
    have ga8 := hq1.2 8 (by simp)
    have ga9 := hq1.2 9 (by simp)
    have ga10 := hq1.2 10 (by simp)
    have ga11 := hq1.2 11 (by simp)
    have ga12 := hq1.2 12 (by simp)
    have gb0 := hq2.2 0 (by simp)
    have gb1 := hq2.2 1 (by simp)
    have gb2 := hq2.2 2 (by simp)
    have gb3 := hq2.2 3 (by simp)
    have gb4 := hq2.2 4 (by simp)
    have gb5 := hq2.2 5 (by simp)
    have gb6 := hq2.2 6 (by simp)
    have gb7 := hq2.2 7 (by simp)
    have gb8 := hq2.2 8 (by simp)
    have gb9 := hq2.2 9 (by simp)
    have gb10 := hq2.2 10 (by simp)
    have gb11 := hq2.2 11 (by simp)
    have gb12 := hq2.2 12 (by simp)
    simp only [cqs, cqz] at ga0 ga1 ga2 ga3 ga4 ga5 ga6 ga7 ga8 ga9 ga10 ga11 ga12 gb0 gb1 gb2 gb3 gb4 gb5 gb6 gb7 gb8 gb9 gb10 gb11 gb12
    go_wp2_with (first | (go_at_call 45; (with_reducible refine (HC5.out W2 hqt0).mono ?_); rintro e1 w1 ⟨rfl, hb1⟩; have HB1 := bt HB0 hb1; obtain ⟨r1hq1, r1hq2, hqt1⟩ := hE.out w1 HB1; have g1_a6 := r1hq1.2 6 (by simp); have g1_a7 := r1hq1.2 7 (by simp); have g1_a8 := r1hq1.2 8 (by simp); have g1_a9 := r1hq1.2 9 (by simp); have g1_a10 := r1hq1.2 10 (by simp); have g1_a11 := r1hq1.2 11 (by simp); have g1_a12 := r1hq1.2 12 (by simp); have g1_b6 := r1hq2.2 6 (by simp); have g1_b7 := r1hq2.2 7 (by simp); have g1_b8 := r1hq2.2 8 (by simp); have g1_b9 := r1hq2.2 9 (by simp); have g1_b10 := r1hq2.2 10 (by simp); have g1_b11 := r1hq2.2 11 (by simp); have g1_b12 := r1hq2.2 12 (by simp); simp only [cqs, cqz] at g1_a6 g1_a7 g1_a8 g1_a9 g1_a10 g1_a11 g1_a12 g1_b6 g1_b7 g1_b8 g1_b9 g1_b10 g1_b11 g1_b12) | (go_at_call 46; (with_reducible refine (HC6.out w1 hqt1).mono ?_); rintro e2 w2 ⟨rfl, hb2⟩; have HB2 := bt HB1 hb2; obtain ⟨r2hq1, r2hq2, hqt2⟩ := hE.out w2 HB2; have g2_a7 := r2hq1.2 7 (by simp); have g2_a8 := r2hq1.2 8 (by simp); have g2_a9 := r2hq1.2 9 (by simp); have g2_a10 := r2hq1.2 10 (by simp); have g2_a11 := r2hq1.2 11 (by simp); have g2_a12 := r2hq1.2 12 (by simp); have g2_b7 := r2hq2.2 7 (by simp); have g2_b8 := r2hq2.2 8 (by simp); have g2_b9 := r2hq2.2 9 (by simp); have g2_b10 := r2hq2.2 10 (by simp); have g2_b11 := r2hq2.2 11 (by simp); have g2_b12 := r2hq2.2 12 (by simp); simp only [cqs, cqz] at g2_a7 g2_a8 g2_a9 g2_a10 g2_a11 g2_a12 g2_b7 g2_b8 g2_b9 g2_b10 g2_b11 g2_b12) | (go_at_call 46; (with_reducible refine (HC7.out w2 hqt2).mono ?_); rintro e3 w3 ⟨rfl, hb3⟩; have HB3 := bt HB2 hb3; obtain ⟨r3hq1, r3hq2, hqt3⟩ := hE.out w3 HB3; have g3_a8 := r3hq1.2 8 (by simp); have g3_a9 := r3hq1.2 9 (by simp); have g3_a10 := r3hq1.2 10 (by simp); have g3_a11 := r3hq1.2 11 (by simp); have g3_a12 := r3hq1.2 12 (by simp); have g3_b8 := r3hq2.2 8 (by simp); have g3_b9 := r3hq2.2 9 (by simp); have g3_b10 := r3hq2.2 10 (by simp); have g3_b11 := r3hq2.2 11 (by simp); have g3_b12 := r3hq2.2 12 (by simp); simp only [cqs, cqz] at g3_a8 g3_a9 g3_a10 g3_a11 g3_a12 g3_b8 g3_b9 g3_b10 g3_b11 g3_b12) | (go_at_call 47; (with_reducible refine (HC8.out w3 hqt3).mono ?_); rintro e4 w4 ⟨rfl, hb4⟩; have HB4 := bt HB3 hb4; obtain ⟨r4hq1, r4hq2, hqt4⟩ := hE.out w4 HB4; have g4_a9 := r4hq1.2 9 (by simp); have g4_a10 := r4hq1.2 10 (by simp); have g4_a11 := r4hq1.2 11 (by simp); have g4_a12 := r4hq1.2 12 (by simp); have g4_b9 := r4hq2.2 9 (by simp); have g4_b10 := r4hq2.2 10 (by simp); have g4_b11 := r4hq2.2 11 (by simp); have g4_b12 := r4hq2.2 12 (by simp); simp only [cqs, cqz] at g4_a9 g4_a10 g4_a11 g4_a12 g4_b9 g4_b10 g4_b11 g4_b12) | (go_at_call 49; (with_reducible refine (HC9.out w4 hqt4).mono ?_); rintro e5 w5 ⟨rfl, hb5⟩; have HB5 := bt HB4 hb5; obtain ⟨r5hq1, r5hq2, hqt5⟩ := hE.out w5 HB5; have g5_a10 := r5hq1.2 10 (by simp); have g5_a11 := r5hq1.2 11 (by simp); have g5_a12 := r5hq1.2 12 (by simp); have g5_b10 := r5hq2.2 10 (by simp); have g5_b11 := r5hq2.2 11 (by simp); have g5_b12 := r5hq2.2 12 (by simp); simp only [cqs, cqz] at g5_a10 g5_a11 g5_a12 g5_b10 g5_b11 g5_b12) | (go_at_call 51; (with_reducible refine (HC10.out w5 hqt5).mono ?_); rintro e6 w6 ⟨rfl, hb6⟩; have HB6 := bt HB5 hb6; obtain ⟨r6hq1, r6hq2, hqt6⟩ := hE.out w6 HB6; have g6_a11 := r6hq1.2 11 (by simp); have g6_a12 := r6hq1.2 12 (by simp); have g6_b11 := r6hq2.2 11 (by simp); have g6_b12 := r6hq2.2 12 (by simp); simp only [cqs, cqz] at g6_a11 g6_a12 g6_b11 g6_b12) | (go_at_call 52; (with_reducible refine (HC11.out w6 hqt6).mono ?_); rintro e7 w7 ⟨rfl, hb7⟩; have HB7 := bt HB6 hb7; obtain ⟨r7hq1, r7hq2, hqt7⟩ := hE.out w7 HB7; have g7_a12 := r7hq1.2 12 (by simp); have g7_b12 := r7hq2.2 12 (by simp); simp only [cqs, cqz] at g7_a12 g7_b12) | (go_at_call 52; (with_reducible refine (HC12.out w7 hqt7).mono ?_); rintro e8 w8 ⟨rfl, hb8⟩; have HB8 := bt HB7 hb8; obtain ⟨r8hq1, r8hq2, hqt8⟩ := hE.out w8 HB8))
    go_ret
    exact ⟨ret_bool hfin.out.symm, hqt8⟩
  subst h
  have hfin : Hid (same (⟨x_title, x_author, x_start, x_release, x_most, x_flags, x_props, x_globals, x_objects, x_verbs, x_rules, x_funcs, x_daemons⟩ : SrcD) ⟨x_title, x_author, x_start, x_release, x_most, x_flags, x_props, x_globals, x_objects, x_verbs, x_rules, x_funcs, x_daemons⟩ = true) := same_self _
  simp only [same_self] at hc5
  have HC5 := Lib.hid hc5
  simp only [same_self] at hc6
  have HC6 := Lib.hid hc6
  simp only [same_self] at hc7
  have HC7 := Lib.hid hc7
  simp only [same_self] at hc8
  have HC8 := Lib.hid hc8
  simp only [same_self] at hc9
  have HC9 := Lib.hid hc9
  simp only [same_self] at hc10
  have HC10 := Lib.hid hc10
  simp only [same_self] at hc11
  have HC11 := Lib.hid hc11
  simp only [same_self] at hc12
  have HC12 := Lib.hid hc12
  clear hc5 hc6 hc7 hc8 hc9 hc10 hc11 hc12 ka5 kb5 ka6 kb6 ka7 kb7 ka8 kb8 ka9 kb9 ka10 kb10 ka11 kb11 ka12 kb12 hF
  go_enter Tryz.func11, Tryz.ntmps11
  go_upto_region 1 with fail
  rw [HW1.out, HW2.out]
  obtain ⟨hq1, hq2, hqt0⟩ := hE.out W2 (Below.refl _ _)
  have HB0 : Below W2.heap.size W2 W2 := Below.refl _ _
  have ga0 := hq1.2 0 (by simp)
  have ga1 := hq1.2 1 (by simp)
  have ga2 := hq1.2 2 (by simp)
  have ga3 := hq1.2 3 (by simp)
  have ga4 := hq1.2 4 (by simp)
  have ga5 := hq1.2 5 (by simp)
  have ga6 := hq1.2 6 (by simp)
  have ga7 := hq1.2 7 (by simp)
  have ga8 := hq1.2 8 (by simp)
  have ga9 := hq1.2 9 (by simp)
  have ga10 := hq1.2 10 (by simp)
  have ga11 := hq1.2 11 (by simp)
  have ga12 := hq1.2 12 (by simp)
  have gb0 := hq2.2 0 (by simp)
  have gb1 := hq2.2 1 (by simp)
  have gb2 := hq2.2 2 (by simp)
  have gb3 := hq2.2 3 (by simp)
  have gb4 := hq2.2 4 (by simp)
  have gb5 := hq2.2 5 (by simp)
  have gb6 := hq2.2 6 (by simp)
  have gb7 := hq2.2 7 (by simp)
  have gb8 := hq2.2 8 (by simp)
  have gb9 := hq2.2 9 (by simp)
  have gb10 := hq2.2 10 (by simp)
  have gb11 := hq2.2 11 (by simp)
  have gb12 := hq2.2 12 (by simp)
  simp only [cqs, cqz] at ga0 ga1 ga2 ga3 ga4 ga5 ga6 ga7 ga8 ga9 ga10 ga11 ga12 gb0 gb1 gb2 gb3 gb4 gb5 gb6 gb7 gb8 gb9 gb10 gb11 gb12
  go_wp2_with (first | (go_at_call 45; (with_reducible refine (HC5.out W2 hqt0).mono ?_); rintro e1 w1 ⟨rfl, hb1⟩; have HB1 := bt HB0 hb1; obtain ⟨r1hq1, r1hq2, hqt1⟩ := hE.out w1 HB1; have g1_a6 := r1hq1.2 6 (by simp); have g1_a7 := r1hq1.2 7 (by simp); have g1_a8 := r1hq1.2 8 (by simp); have g1_a9 := r1hq1.2 9 (by simp); have g1_a10 := r1hq1.2 10 (by simp); have g1_a11 := r1hq1.2 11 (by simp); have g1_a12 := r1hq1.2 12 (by simp); have g1_b6 := r1hq2.2 6 (by simp); have g1_b7 := r1hq2.2 7 (by simp); have g1_b8 := r1hq2.2 8 (by simp); have g1_b9 := r1hq2.2 9 (by simp); have g1_b10 := r1hq2.2 10 (by simp); have g1_b11 := r1hq2.2 11 (by simp); have g1_b12 := r1hq2.2 12 (by simp); simp only [cqs, cqz] at g1_a6 g1_a7 g1_a8 g1_a9 g1_a10 g1_a11 g1_a12 g1_b6 g1_b7 g1_b8 g1_b9 g1_b10 g1_b11 g1_b12) | (go_at_call 46; (with_reducible refine (HC6.out w1 hqt1).mono ?_); rintro e2 w2 ⟨rfl, hb2⟩; have HB2 := bt HB1 hb2; obtain ⟨r2hq1, r2hq2, hqt2⟩ := hE.out w2 HB2; have g2_a7 := r2hq1.2 7 (by simp); have g2_a8 := r2hq1.2 8 (by simp); have g2_a9 := r2hq1.2 9 (by simp); have g2_a10 := r2hq1.2 10 (by simp); have g2_a11 := r2hq1.2 11 (by simp); have g2_a12 := r2hq1.2 12 (by simp); have g2_b7 := r2hq2.2 7 (by simp); have g2_b8 := r2hq2.2 8 (by simp); have g2_b9 := r2hq2.2 9 (by simp); have g2_b10 := r2hq2.2 10 (by simp); have g2_b11 := r2hq2.2 11 (by simp); have g2_b12 := r2hq2.2 12 (by simp); simp only [cqs, cqz] at g2_a7 g2_a8 g2_a9 g2_a10 g2_a11 g2_a12 g2_b7 g2_b8 g2_b9 g2_b10 g2_b11 g2_b12) | (go_at_call 46; (with_reducible refine (HC7.out w2 hqt2).mono ?_); rintro e3 w3 ⟨rfl, hb3⟩; have HB3 := bt HB2 hb3; obtain ⟨r3hq1, r3hq2, hqt3⟩ := hE.out w3 HB3; have g3_a8 := r3hq1.2 8 (by simp); have g3_a9 := r3hq1.2 9 (by simp); have g3_a10 := r3hq1.2 10 (by simp); have g3_a11 := r3hq1.2 11 (by simp); have g3_a12 := r3hq1.2 12 (by simp); have g3_b8 := r3hq2.2 8 (by simp); have g3_b9 := r3hq2.2 9 (by simp); have g3_b10 := r3hq2.2 10 (by simp); have g3_b11 := r3hq2.2 11 (by simp); have g3_b12 := r3hq2.2 12 (by simp); simp only [cqs, cqz] at g3_a8 g3_a9 g3_a10 g3_a11 g3_a12 g3_b8 g3_b9 g3_b10 g3_b11 g3_b12) | (go_at_call 47; (with_reducible refine (HC8.out w3 hqt3).mono ?_); rintro e4 w4 ⟨rfl, hb4⟩; have HB4 := bt HB3 hb4; obtain ⟨r4hq1, r4hq2, hqt4⟩ := hE.out w4 HB4; have g4_a9 := r4hq1.2 9 (by simp); have g4_a10 := r4hq1.2 10 (by simp); have g4_a11 := r4hq1.2 11 (by simp); have g4_a12 := r4hq1.2 12 (by simp); have g4_b9 := r4hq2.2 9 (by simp); have g4_b10 := r4hq2.2 10 (by simp); have g4_b11 := r4hq2.2 11 (by simp); have g4_b12 := r4hq2.2 12 (by simp); simp only [cqs, cqz] at g4_a9 g4_a10 g4_a11 g4_a12 g4_b9 g4_b10 g4_b11 g4_b12) | (go_at_call 49; (with_reducible refine (HC9.out w4 hqt4).mono ?_); rintro e5 w5 ⟨rfl, hb5⟩; have HB5 := bt HB4 hb5; obtain ⟨r5hq1, r5hq2, hqt5⟩ := hE.out w5 HB5; have g5_a10 := r5hq1.2 10 (by simp); have g5_a11 := r5hq1.2 11 (by simp); have g5_a12 := r5hq1.2 12 (by simp); have g5_b10 := r5hq2.2 10 (by simp); have g5_b11 := r5hq2.2 11 (by simp); have g5_b12 := r5hq2.2 12 (by simp); simp only [cqs, cqz] at g5_a10 g5_a11 g5_a12 g5_b10 g5_b11 g5_b12) | (go_at_call 51; (with_reducible refine (HC10.out w5 hqt5).mono ?_); rintro e6 w6 ⟨rfl, hb6⟩; have HB6 := bt HB5 hb6; obtain ⟨r6hq1, r6hq2, hqt6⟩ := hE.out w6 HB6; have g6_a11 := r6hq1.2 11 (by simp); have g6_a12 := r6hq1.2 12 (by simp); have g6_b11 := r6hq2.2 11 (by simp); have g6_b12 := r6hq2.2 12 (by simp); simp only [cqs, cqz] at g6_a11 g6_a12 g6_b11 g6_b12) | (go_at_call 52; (with_reducible refine (HC11.out w6 hqt6).mono ?_); rintro e7 w7 ⟨rfl, hb7⟩; have HB7 := bt HB6 hb7; obtain ⟨r7hq1, r7hq2, hqt7⟩ := hE.out w7 HB7; have g7_a12 := r7hq1.2 12 (by simp); have g7_b12 := r7hq2.2 12 (by simp); simp only [cqs, cqz] at g7_a12 g7_b12) | (go_at_call 52; (with_reducible refine (HC12.out w7 hqt7).mono ?_); rintro e8 w8 ⟨rfl, hb8⟩; have HB8 := bt HB7 hb8; obtain ⟨r8hq1, r8hq2, hqt8⟩ := hE.out w8 HB8))
  go_ret
  exact ⟨ret_bool hfin.out.symm, hqt8⟩
end Go.Proofs.YtmabeegoapcfpaaGreatDoor
