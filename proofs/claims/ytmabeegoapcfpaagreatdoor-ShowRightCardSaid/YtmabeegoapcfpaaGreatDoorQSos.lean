/- The program's sameness of the elements of a source. Printed by gen-show3.py. -/
import Derived.Test.YtmabeegoapcfpaaGreatDoorQEqs
import Derived.Test.YtmabeegoapcfpaaGreatDoorQPart92d78415
namespace Go.Proofs.YtmabeegoapcfpaaGreatDoor
open Go.RowKit
theorem exs_rdl {F : Nat → Prop} {w : World} {l : List Ex} {v : Value} (h : Exs F w l v) : RdL Holds.ex 5 F w l v := by
  obtain ⟨c, h1, h2⟩ := h
  exact ⟨c, h1, fun i hi => RdRow.get h2 i hi⟩
set_option maxRecDepth 100000 in
set_option maxHeartbeats 1000000 in
theorem soExprs_calls (F : Nat → Prop) (w : World) (l m : List Ex) (v u : Value) (hF : Inn F w) (hr : Exs F w l v) (hr2 : Exs F w m u) :
    Calls Tryz.prog 42 #[v, u] w (Gives w (.bool (same l m))) := by
  have hc := eqfExpr_calls F w 116 #[] l m v u hF (exs_rdl hr) (exs_rdl hr2) (fun _ _ => by kernel_rfl) (fun x _ y _ W cs ds hW hx hy => sameT_calls x y F W cs ds (hF.below hW) hx hy)
  obtain ⟨a, cap, rfl⟩ := hr.shape
  obtain ⟨a2, cap2, rfl⟩ := hr2.shape
  have HC := Lib.hid hc
  clear hc hr hr2
  go_enter Tryz.func42, Tryz.ntmps42
  go_wp2_with (go_at_call 115; refine HC.out.mono ?_; rintro e w1 ⟨rfl, hb⟩)
  go_ret
  exact ⟨rfl, hb⟩
set_option maxRecDepth 100000 in
set_option maxHeartbeats 4000000 in
theorem soExit_calls (F : Nat → Prop) (w : World) (x y : ExitD) (cs ds : List Value) (hF : Inn F w) (hx : Holds.exit.R F w x cs) (hy : Holds.exit.R F w y ds) :
    Calls Tryz.prog 117 #[.agg cs.toArray, .agg ds.toArray] w (Gives w (.bool (same x y))) := by
  obtain ⟨-, -, -, va3, rfl, ka3⟩ := hx
  obtain ⟨da3, fa3, rfl⟩ := ka3.shape
  obtain ⟨-, -, -, vb3, rfl, kb3⟩ := hy
  obtain ⟨db3, fb3, rfl⟩ := kb3.shape
  obtain ⟨x_dir, x_to, x_els, x_cond⟩ := x
  obtain ⟨y_dir, y_to, y_els, y_cond⟩ := y
  simp only at ka3 kb3
  have hc3 := fun (W : World) (hW : Below w.heap.size w W) => soExprs_calls F W x_cond y_cond _ _ (hF.below hW) (Exs.below ka3 hF hW (Nat.le_refl _)) (Exs.below kb3 hF hW (Nat.le_refl _))
  obtain ⟨W1, hW1⟩ : ∃ W1, w.alloc (.cells #[.int .i64 x_dir, .string x_to, .string x_els, .slice da3 x_cond.length fa3] 114) = W1 := ⟨_, rfl⟩
  have hs1 : W1.heap.size = w.heap.size + 1 := by rw [← hW1]; simp
  have hb1 : Below w.heap.size w W1 := by rw [← hW1]; exact (Below.refl _ _).alloc (Nat.le_refl _) _
  have hbx1 : BoxAt W1 w.heap.size [.int .i64 x_dir, .string x_to, .string x_els, .slice da3 x_cond.length fa3] := by rw [← hW1]; exact BoxAt.new _ _ _
  obtain ⟨W2, hW2⟩ : ∃ W2, W1.alloc (.cells #[.int .i64 y_dir, .string y_to, .string y_els, .slice db3 y_cond.length fb3] 114) = W2 := ⟨_, rfl⟩
  have hs2 : W2.heap.size = w.heap.size + 1 + 1 := by rw [← hW2]; simp; exact hs1
  have hb2 : Below W1.heap.size W1 W2 := by rw [← hW2]; exact (Below.refl _ _).alloc (Nat.le_refl _) _
  have hbx2 : BoxAt W2 W1.heap.size [.int .i64 y_dir, .string y_to, .string y_els, .slice db3 y_cond.length fb3] := by rw [← hW2]; exact BoxAt.new _ _ _
  rw [hs1] at hbx2
  have hE : Hid (∀ W, Below W2.heap.size W2 W → BoxAt W (w.heap.size) [.int .i64 x_dir, .string x_to, .string x_els, .slice da3 x_cond.length fa3] ∧ BoxAt W (w.heap.size + 1) [.int .i64 y_dir, .string y_to, .string y_els, .slice db3 y_cond.length fb3] ∧ Below w.heap.size w W) := fun W h3 => ⟨hbx1.below (bt hb2 h3) (by omega), hbx2.below h3 (by omega), (hb1.trans ((bt hb2 h3).mono hb1.size))⟩
  have HZ0 := Lib.hid hs2
  have HW1 := Lib.hid hW1
  have HW2 := Lib.hid hW2
  clear hW1 hs1 hb1 hbx1 hW2 hs2 hb2 hbx2
  by_cases h : x_dir = y_dir
  rotate_left
  · have hfin : Hid (same (⟨x_dir, x_to, x_els, x_cond⟩ : ExitD) ⟨y_dir, y_to, y_els, y_cond⟩ = false) := same_ne (fun e => h (by cases e; rfl))
    have e1 : (x_dir == y_dir) = false := by simpa using h
    clear hc3 ka3 kb3 h hF
    go_enter Tryz.func117, Tryz.ntmps117
    go_upto_region 1 with fail
    rw [HW1.out, HW2.out]
    obtain ⟨hq1, hq2, hqt0⟩ := hE.out W2 (Below.refl _ _)
    have HB0 : Below W2.heap.size W2 W2 := Below.refl _ _
    have ga0 := hq1.2 0 (by simp)
    have gb0 := hq2.2 0 (by simp)
    simp only [cqz] at ga0 gb0
    go_wp2_with fail
    go_ret
    exact ⟨ret_bool hfin.out.symm, hqt0⟩
  subst h
  by_cases h : x_to = y_to
  rotate_left
  · have hfin : Hid (same (⟨x_dir, x_to, x_els, x_cond⟩ : ExitD) ⟨x_dir, y_to, y_els, y_cond⟩ = false) := same_ne (fun e => h (by cases e; rfl))
    have e1 : (x_to.toList == y_to.toList) = false := strne h
    clear hc3 ka3 kb3 h hF
    go_enter Tryz.func117, Tryz.ntmps117
    go_upto_region 1 with fail
    rw [HW1.out, HW2.out]
    obtain ⟨hq1, hq2, hqt0⟩ := hE.out W2 (Below.refl _ _)
    have HB0 : Below W2.heap.size W2 W2 := Below.refl _ _
    have ga0 := hq1.2 0 (by simp)
    have ga1 := hq1.2 1 (by simp)
    have gb0 := hq2.2 0 (by simp)
    have gb1 := hq2.2 1 (by simp)
    simp only [cqs, cqz] at ga0 ga1 gb0 gb1
    go_wp2_with fail
    go_ret
    exact ⟨ret_bool hfin.out.symm, hqt0⟩
  subst h
  by_cases h : x_els = y_els
  rotate_left
  · have hfin : Hid (same (⟨x_dir, x_to, x_els, x_cond⟩ : ExitD) ⟨x_dir, x_to, y_els, y_cond⟩ = false) := same_ne (fun e => h (by cases e; rfl))
    have e1 : (x_els.toList == y_els.toList) = false := strne h
    clear hc3 ka3 kb3 h hF
    go_enter Tryz.func117, Tryz.ntmps117
    go_upto_region 1 with fail
    rw [HW1.out, HW2.out]
    obtain ⟨hq1, hq2, hqt0⟩ := hE.out W2 (Below.refl _ _)
    have HB0 : Below W2.heap.size W2 W2 := Below.refl _ _
    have ga0 := hq1.2 0 (by simp)
    have ga1 := hq1.2 1 (by simp)
    have ga2 := hq1.2 2 (by simp)
    have gb0 := hq2.2 0 (by simp)
    have gb1 := hq2.2 1 (by simp)
    have gb2 := hq2.2 2 (by simp)
    simp only [cqs, cqz] at ga0 ga1 ga2 gb0 gb1 gb2
    go_wp2_with fail
    go_ret
    exact ⟨ret_bool hfin.out.symm, hqt0⟩
  subst h
  by_cases h : x_cond = y_cond
  rotate_left
  · have hfin : Hid (same (⟨x_dir, x_to, x_els, x_cond⟩ : ExitD) ⟨x_dir, x_to, x_els, y_cond⟩ = false) := same_ne (fun e => h (by cases e; rfl))
    simp only [same_ne h] at hc3
    have HC3 := Lib.hid hc3
    clear hc3 ka3 kb3 h hF
    go_enter Tryz.func117, Tryz.ntmps117
    go_upto_region 1 with fail
    rw [HW1.out, HW2.out]
    obtain ⟨hq1, hq2, hqt0⟩ := hE.out W2 (Below.refl _ _)
    have HB0 : Below W2.heap.size W2 W2 := Below.refl _ _
    have ga0 := hq1.2 0 (by simp)
    have ga1 := hq1.2 1 (by simp)
    have ga2 := hq1.2 2 (by simp)
    have ga3 := hq1.2 3 (by simp)
    have gb0 := hq2.2 0 (by simp)
    have gb1 := hq2.2 1 (by simp)
    have gb2 := hq2.2 2 (by simp)
    have gb3 := hq2.2 3 (by simp)
    simp only [cqs, cqz] at ga0 ga1 ga2 ga3 gb0 gb1 gb2 gb3
    go_wp2_with (go_at_call 42; (with_reducible refine (HC3.out W2 hqt0).mono ?_); rintro e1 w1 ⟨rfl, hb1⟩; have HB1 := bt HB0 hb1; obtain ⟨r1hq1, r1hq2, hqt1⟩ := hE.out w1 HB1)
    go_ret
    exact ⟨ret_bool hfin.out.symm, hqt1⟩
  subst h
  have hfin : Hid (same (⟨x_dir, x_to, x_els, x_cond⟩ : ExitD) ⟨x_dir, x_to, x_els, x_cond⟩ = true) := same_self _
  simp only [same_self] at hc3
  have HC3 := Lib.hid hc3
  clear hc3 ka3 kb3 hF
  go_enter Tryz.func117, Tryz.ntmps117
  go_upto_region 1 with fail
  rw [HW1.out, HW2.out]
  obtain ⟨hq1, hq2, hqt0⟩ := hE.out W2 (Below.refl _ _)
  have HB0 : Below W2.heap.size W2 W2 := Below.refl _ _
  have ga0 := hq1.2 0 (by simp)
  have ga1 := hq1.2 1 (by simp)
  have ga2 := hq1.2 2 (by simp)
  have ga3 := hq1.2 3 (by simp)
  have gb0 := hq2.2 0 (by simp)
  have gb1 := hq2.2 1 (by simp)
  have gb2 := hq2.2 2 (by simp)
  have gb3 := hq2.2 3 (by simp)
  simp only [cqs, cqz] at ga0 ga1 ga2 ga3 gb0 gb1 gb2 gb3
  go_wp2_with (go_at_call 42; (with_reducible refine (HC3.out W2 hqt0).mono ?_); rintro e1 w1 ⟨rfl, hb1⟩; have HB1 := bt HB0 hb1; obtain ⟨r1hq1, r1hq2, hqt1⟩ := hE.out w1 HB1)
  go_ret
  exact ⟨ret_bool hfin.out.symm, hqt1⟩
set_option maxRecDepth 100000 in
set_option maxHeartbeats 4000000 in
theorem soObject_calls (F : Nat → Prop) (w : World) (x y : ObjD) (cs ds : List Value) (hF : Inn F w) (hx : Holds.obj.R F w x cs) (hy : Holds.obj.R F w y ds) :
    Calls Tryz.prog 48 #[.agg cs.toArray, .agg ds.toArray] w (Gives w (.bool (same x y))) := by
  obtain ⟨-, -, -, -, va5, va6, va7, va8, va9, rfl, ka5, ka6, ka7, ka8, ka9⟩ := hx
  obtain ⟨da5, fa5, rfl⟩ := ka5.shape
  obtain ⟨da6, fa6, rfl⟩ := ka6.shape
  obtain ⟨da7, fa7, rfl⟩ := ka7.shape
  obtain ⟨da8, fa8, rfl⟩ := ka8.shape
  obtain ⟨da9, fa9, rfl⟩ := ka9.shape
  obtain ⟨-, -, -, -, vb5, vb6, vb7, vb8, vb9, rfl, kb5, kb6, kb7, kb8, kb9⟩ := hy
  obtain ⟨db5, fb5, rfl⟩ := kb5.shape
  obtain ⟨db6, fb6, rfl⟩ := kb6.shape
  obtain ⟨db7, fb7, rfl⟩ := kb7.shape
  obtain ⟨db8, fb8, rfl⟩ := kb8.shape
  obtain ⟨db9, fb9, rfl⟩ := kb9.shape
  obtain ⟨x_name, x_title, x_inn, x_text, x_room, x_words, x_adjs, x_flags, x_props, x_exits⟩ := x
  obtain ⟨y_name, y_title, y_inn, y_text, y_room, y_words, y_adjs, y_flags, y_props, y_exits⟩ := y
  simp only at ka5 kb5 ka6 kb6 ka7 kb7 ka8 kb8 ka9 kb9
  have hc5 := fun (W : World) (hW : Below w.heap.size w W) => eqString_calls F W x_words y_words _ _ (hF.below hW) (RdL.below ka5 hF hW (Nat.le_refl _)) (RdL.below kb5 hF hW (Nat.le_refl _))
  have hc6 := fun (W : World) (hW : Below w.heap.size w W) => eqString_calls F W x_adjs y_adjs _ _ (hF.below hW) (RdL.below ka6 hF hW (Nat.le_refl _)) (RdL.below kb6 hF hW (Nat.le_refl _))
  have hc7 := fun (W : World) (hW : Below w.heap.size w W) => eqString_calls F W x_flags y_flags _ _ (hF.below hW) (RdL.below ka7 hF hW (Nat.le_refl _)) (RdL.below kb7 hF hW (Nat.le_refl _))
  have hc8 := fun (W : World) (hW : Below w.heap.size w W) => eqPair_calls F W x_props y_props _ _ (hF.below hW) (RdL.below ka8 hF hW (Nat.le_refl _)) (RdL.below kb8 hF hW (Nat.le_refl _))
  have hc9 := fun (W : World) (hW : Below w.heap.size w W) => eqfExit_calls F W 117 #[] x_exits y_exits _ _ (hF.below hW) (RdL.below ka9 hF hW (Nat.le_refl _)) (RdL.below kb9 hF hW (Nat.le_refl _)) (fun _ _ => by kernel_rfl) (fun x _ y _ W' cs ds hW' hx hy => soExit_calls F W' x y cs ds ((hF.below hW).below hW') hx hy)
  obtain ⟨W1, hW1⟩ : ∃ W1, w.alloc (.cells #[.string x_name, .string x_title, .string x_inn, .string x_text, .bool x_room, .slice da5 x_words.length fa5, .slice da6 x_adjs.length fa6, .slice da7 x_flags.length fa7, .slice da8 x_props.length fa8, .slice da9 x_exits.length fa9] 55) = W1 := ⟨_, rfl⟩
  have hs1 : W1.heap.size = w.heap.size + 1 := by rw [← hW1]; simp
  have hb1 : Below w.heap.size w W1 := by rw [← hW1]; exact (Below.refl _ _).alloc (Nat.le_refl _) _
  have hbx1 : BoxAt W1 w.heap.size [.string x_name, .string x_title, .string x_inn, .string x_text, .bool x_room, .slice da5 x_words.length fa5, .slice da6 x_adjs.length fa6, .slice da7 x_flags.length fa7, .slice da8 x_props.length fa8, .slice da9 x_exits.length fa9] := by rw [← hW1]; exact BoxAt.new _ _ _
  obtain ⟨W2, hW2⟩ : ∃ W2, W1.alloc (.cells #[.string y_name, .string y_title, .string y_inn, .string y_text, .bool y_room, .slice db5 y_words.length fb5, .slice db6 y_adjs.length fb6, .slice db7 y_flags.length fb7, .slice db8 y_props.length fb8, .slice db9 y_exits.length fb9] 55) = W2 := ⟨_, rfl⟩
  have hs2 : W2.heap.size = w.heap.size + 1 + 1 := by rw [← hW2]; simp; exact hs1
  have hb2 : Below W1.heap.size W1 W2 := by rw [← hW2]; exact (Below.refl _ _).alloc (Nat.le_refl _) _
  have hbx2 : BoxAt W2 W1.heap.size [.string y_name, .string y_title, .string y_inn, .string y_text, .bool y_room, .slice db5 y_words.length fb5, .slice db6 y_adjs.length fb6, .slice db7 y_flags.length fb7, .slice db8 y_props.length fb8, .slice db9 y_exits.length fb9] := by rw [← hW2]; exact BoxAt.new _ _ _
  rw [hs1] at hbx2
  have hE : Hid (∀ W, Below W2.heap.size W2 W → BoxAt W (w.heap.size) [.string x_name, .string x_title, .string x_inn, .string x_text, .bool x_room, .slice da5 x_words.length fa5, .slice da6 x_adjs.length fa6, .slice da7 x_flags.length fa7, .slice da8 x_props.length fa8, .slice da9 x_exits.length fa9] ∧ BoxAt W (w.heap.size + 1) [.string y_name, .string y_title, .string y_inn, .string y_text, .bool y_room, .slice db5 y_words.length fb5, .slice db6 y_adjs.length fb6, .slice db7 y_flags.length fb7, .slice db8 y_props.length fb8, .slice db9 y_exits.length fb9] ∧ Below w.heap.size w W) := fun W h3 => ⟨hbx1.below (bt hb2 h3) (by omega), hbx2.below h3 (by omega), (hb1.trans ((bt hb2 h3).mono hb1.size))⟩
  have HZ0 := Lib.hid hs2
  have HW1 := Lib.hid hW1
  have HW2 := Lib.hid hW2
  clear hW1 hs1 hb1 hbx1 hW2 hs2 hb2 hbx2
  by_cases h : x_name = y_name
  rotate_left
  · have hfin : Hid (same (⟨x_name, x_title, x_inn, x_text, x_room, x_words, x_adjs, x_flags, x_props, x_exits⟩ : ObjD) ⟨y_name, y_title, y_inn, y_text, y_room, y_words, y_adjs, y_flags, y_props, y_exits⟩ = false) := same_ne (fun e => h (by cases e; rfl))
    have e1 : (x_name.toList == y_name.toList) = false := strne h
    clear hc5 hc6 hc7 hc8 hc9 ka5 kb5 ka6 kb6 ka7 kb7 ka8 kb8 ka9 kb9 h hF
    go_enter Tryz.func48, Tryz.ntmps48
    go_upto_region 1 with fail
    rw [HW1.out, HW2.out]
    obtain ⟨hq1, hq2, hqt0⟩ := hE.out W2 (Below.refl _ _)
    have HB0 : Below W2.heap.size W2 W2 := Below.refl _ _
    have ga0 := hq1.2 0 (by simp)
    have gb0 := hq2.2 0 (by simp)
    simp only [cqz] at ga0 gb0
    go_wp2_with fail
    go_ret
    exact ⟨ret_bool hfin.out.symm, hqt0⟩
  subst h
  by_cases h : x_title = y_title
  rotate_left
  · have hfin : Hid (same (⟨x_name, x_title, x_inn, x_text, x_room, x_words, x_adjs, x_flags, x_props, x_exits⟩ : ObjD) ⟨x_name, y_title, y_inn, y_text, y_room, y_words, y_adjs, y_flags, y_props, y_exits⟩ = false) := same_ne (fun e => h (by cases e; rfl))
    have e1 : (x_title.toList == y_title.toList) = false := strne h
    clear hc5 hc6 hc7 hc8 hc9 ka5 kb5 ka6 kb6 ka7 kb7 ka8 kb8 ka9 kb9 h hF
    go_enter Tryz.func48, Tryz.ntmps48
    go_upto_region 1 with fail
    rw [HW1.out, HW2.out]
    obtain ⟨hq1, hq2, hqt0⟩ := hE.out W2 (Below.refl _ _)
    have HB0 : Below W2.heap.size W2 W2 := Below.refl _ _
    have ga0 := hq1.2 0 (by simp)
    have ga1 := hq1.2 1 (by simp)
    have gb0 := hq2.2 0 (by simp)
    have gb1 := hq2.2 1 (by simp)
    simp only [cqs, cqz] at ga0 ga1 gb0 gb1
    go_wp2_with fail
    go_ret
    exact ⟨ret_bool hfin.out.symm, hqt0⟩
  subst h
  by_cases h : x_inn = y_inn
  rotate_left
  · have hfin : Hid (same (⟨x_name, x_title, x_inn, x_text, x_room, x_words, x_adjs, x_flags, x_props, x_exits⟩ : ObjD) ⟨x_name, x_title, y_inn, y_text, y_room, y_words, y_adjs, y_flags, y_props, y_exits⟩ = false) := same_ne (fun e => h (by cases e; rfl))
    have e1 : (x_inn.toList == y_inn.toList) = false := strne h
    clear hc5 hc6 hc7 hc8 hc9 ka5 kb5 ka6 kb6 ka7 kb7 ka8 kb8 ka9 kb9 h hF
    go_enter Tryz.func48, Tryz.ntmps48
    go_upto_region 1 with fail
    rw [HW1.out, HW2.out]
    obtain ⟨hq1, hq2, hqt0⟩ := hE.out W2 (Below.refl _ _)
    have HB0 : Below W2.heap.size W2 W2 := Below.refl _ _
    have ga0 := hq1.2 0 (by simp)
    have ga1 := hq1.2 1 (by simp)
    have ga2 := hq1.2 2 (by simp)
    have gb0 := hq2.2 0 (by simp)
    have gb1 := hq2.2 1 (by simp)
    have gb2 := hq2.2 2 (by simp)
    simp only [cqs, cqz] at ga0 ga1 ga2 gb0 gb1 gb2
    go_wp2_with fail
    go_ret
    exact ⟨ret_bool hfin.out.symm, hqt0⟩
  subst h
  by_cases h : x_text = y_text
  rotate_left
  · have hfin : Hid (same (⟨x_name, x_title, x_inn, x_text, x_room, x_words, x_adjs, x_flags, x_props, x_exits⟩ : ObjD) ⟨x_name, x_title, x_inn, y_text, y_room, y_words, y_adjs, y_flags, y_props, y_exits⟩ = false) := same_ne (fun e => h (by cases e; rfl))
    have e1 : (x_text.toList == y_text.toList) = false := strne h
    clear hc5 hc6 hc7 hc8 hc9 ka5 kb5 ka6 kb6 ka7 kb7 ka8 kb8 ka9 kb9 h hF
    go_enter Tryz.func48, Tryz.ntmps48
    go_upto_region 1 with fail
    rw [HW1.out, HW2.out]
    obtain ⟨hq1, hq2, hqt0⟩ := hE.out W2 (Below.refl _ _)
    have HB0 : Below W2.heap.size W2 W2 := Below.refl _ _
    have ga0 := hq1.2 0 (by simp)
    have ga1 := hq1.2 1 (by simp)
    have ga2 := hq1.2 2 (by simp)
    have ga3 := hq1.2 3 (by simp)
    have gb0 := hq2.2 0 (by simp)
    have gb1 := hq2.2 1 (by simp)
    have gb2 := hq2.2 2 (by simp)
    have gb3 := hq2.2 3 (by simp)
    simp only [cqs, cqz] at ga0 ga1 ga2 ga3 gb0 gb1 gb2 gb3
    go_wp2_with fail
    go_ret
    exact ⟨ret_bool hfin.out.symm, hqt0⟩
  subst h
  by_cases h : x_room = y_room
  rotate_left
  · have hfin : Hid (same (⟨x_name, x_title, x_inn, x_text, x_room, x_words, x_adjs, x_flags, x_props, x_exits⟩ : ObjD) ⟨x_name, x_title, x_inn, x_text, y_room, y_words, y_adjs, y_flags, y_props, y_exits⟩ = false) := same_ne (fun e => h (by cases e; rfl))
    have e1 : (x_room == y_room) = false := by simpa using h
    clear hc5 hc6 hc7 hc8 hc9 ka5 kb5 ka6 kb6 ka7 kb7 ka8 kb8 ka9 kb9 h hF
    go_enter Tryz.func48, Tryz.ntmps48
    go_upto_region 1 with fail
    rw [HW1.out, HW2.out]
    obtain ⟨hq1, hq2, hqt0⟩ := hE.out W2 (Below.refl _ _)
    have HB0 : Below W2.heap.size W2 W2 := Below.refl _ _
    have ga0 := hq1.2 0 (by simp)
    have ga1 := hq1.2 1 (by simp)
    have ga2 := hq1.2 2 (by simp)
    have ga3 := hq1.2 3 (by simp)
    have ga4 := hq1.2 4 (by simp)
    have gb0 := hq2.2 0 (by simp)
    have gb1 := hq2.2 1 (by simp)
    have gb2 := hq2.2 2 (by simp)
    have gb3 := hq2.2 3 (by simp)
    have gb4 := hq2.2 4 (by simp)
    simp only [cqs, cqz] at ga0 ga1 ga2 ga3 ga4 gb0 gb1 gb2 gb3 gb4
    go_wp2_with fail
    go_ret
    exact ⟨ret_bool hfin.out.symm, hqt0⟩
  subst h
  by_cases h : x_words = y_words
  rotate_left
  · have hfin : Hid (same (⟨x_name, x_title, x_inn, x_text, x_room, x_words, x_adjs, x_flags, x_props, x_exits⟩ : ObjD) ⟨x_name, x_title, x_inn, x_text, x_room, y_words, y_adjs, y_flags, y_props, y_exits⟩ = false) := same_ne (fun e => h (by cases e; rfl))
    simp only [same_ne h] at hc5
    have HC5 := Lib.hid hc5
    clear hc5 hc6 hc7 hc8 hc9 ka5 kb5 ka6 kb6 ka7 kb7 ka8 kb8 ka9 kb9 h hF
    go_enter Tryz.func48, Tryz.ntmps48
    go_upto_region 1 with fail
    rw [HW1.out, HW2.out]
    obtain ⟨hq1, hq2, hqt0⟩ := hE.out W2 (Below.refl _ _)
    have HB0 : Below W2.heap.size W2 W2 := Below.refl _ _
    have ga0 := hq1.2 0 (by simp)
    have ga1 := hq1.2 1 (by simp)
    have ga2 := hq1.2 2 (by simp)
    have ga3 := hq1.2 3 (by simp)
    have ga4 := hq1.2 4 (by simp)
    have ga5 := hq1.2 5 (by simp)
    have gb0 := hq2.2 0 (by simp)
    have gb1 := hq2.2 1 (by simp)
    have gb2 := hq2.2 2 (by simp)
    have gb3 := hq2.2 3 (by simp)
    have gb4 := hq2.2 4 (by simp)
    have gb5 := hq2.2 5 (by simp)
    simp only [cqs, cqz] at ga0 ga1 ga2 ga3 ga4 ga5 gb0 gb1 gb2 gb3 gb4 gb5
    go_wp2_with (go_at_call 45; (with_reducible refine (HC5.out W2 hqt0).mono ?_); rintro e1 w1 ⟨rfl, hb1⟩; have HB1 := bt HB0 hb1; obtain ⟨r1hq1, r1hq2, hqt1⟩ := hE.out w1 HB1)
    go_ret
    exact ⟨ret_bool hfin.out.symm, hqt1⟩
  subst h
  by_cases h : x_adjs = y_adjs
  rotate_left
  · have hfin : Hid (same (⟨x_name, x_title, x_inn, x_text, x_room, x_words, x_adjs, x_flags, x_props, x_exits⟩ : ObjD) ⟨x_name, x_title, x_inn, x_text, x_room, x_words, y_adjs, y_flags, y_props, y_exits⟩ = false) := same_ne (fun e => h (by cases e; rfl))
    simp only [same_self] at hc5
    have HC5 := Lib.hid hc5
    simp only [same_ne h] at hc6
    have HC6 := Lib.hid hc6
    clear hc5 hc6 hc7 hc8 hc9 ka5 kb5 ka6 kb6 ka7 kb7 ka8 kb8 ka9 kb9 h hF
    go_enter Tryz.func48, Tryz.ntmps48
    go_upto_region 1 with fail
    rw [HW1.out, HW2.out]
    obtain ⟨hq1, hq2, hqt0⟩ := hE.out W2 (Below.refl _ _)
    have HB0 : Below W2.heap.size W2 W2 := Below.refl _ _
    have ga0 := hq1.2 0 (by simp)
    have ga1 := hq1.2 1 (by simp)
    have ga2 := hq1.2 2 (by simp)
    have ga3 := hq1.2 3 (by simp)
    have ga4 := hq1.2 4 (by simp)
    have ga5 := hq1.2 5 (by simp)
    have ga6 := hq1.2 6 (by simp)
    have gb0 := hq2.2 0 (by simp)
    have gb1 := hq2.2 1 (by simp)
    have gb2 := hq2.2 2 (by simp)
    have gb3 := hq2.2 3 (by simp)
    have gb4 := hq2.2 4 (by simp)
    have gb5 := hq2.2 5 (by simp)
    have gb6 := hq2.2 6 (by simp)
    simp only [cqs, cqz] at ga0 ga1 ga2 ga3 ga4 ga5 ga6 gb0 gb1 gb2 gb3 gb4 gb5 gb6
    go_wp2_with (first | (go_at_call 45; (with_reducible refine (HC5.out W2 hqt0).mono ?_); rintro e1 w1 ⟨rfl, hb1⟩; have HB1 := bt HB0 hb1; obtain ⟨r1hq1, r1hq2, hqt1⟩ := hE.out w1 HB1; have g1_a6 := r1hq1.2 6 (by simp); have g1_b6 := r1hq2.2 6 (by simp); simp only [cqs, cqz] at g1_a6 g1_b6) | (go_at_call 45; (with_reducible refine (HC6.out w1 hqt1).mono ?_); rintro e2 w2 ⟨rfl, hb2⟩; have HB2 := bt HB1 hb2; obtain ⟨r2hq1, r2hq2, hqt2⟩ := hE.out w2 HB2))
    go_ret
    exact ⟨ret_bool hfin.out.symm, hqt2⟩
  subst h
  by_cases h : x_flags = y_flags
  rotate_left
  · have hfin : Hid (same (⟨x_name, x_title, x_inn, x_text, x_room, x_words, x_adjs, x_flags, x_props, x_exits⟩ : ObjD) ⟨x_name, x_title, x_inn, x_text, x_room, x_words, x_adjs, y_flags, y_props, y_exits⟩ = false) := same_ne (fun e => h (by cases e; rfl))
    simp only [same_self] at hc5
    have HC5 := Lib.hid hc5
    simp only [same_self] at hc6
    have HC6 := Lib.hid hc6
    simp only [same_ne h] at hc7
    have HC7 := Lib.hid hc7
    clear hc5 hc6 hc7 hc8 hc9 ka5 kb5 ka6 kb6 ka7 kb7 ka8 kb8 ka9 kb9 h hF
    go_enter Tryz.func48, Tryz.ntmps48
    go_upto_region 1 with fail
    rw [HW1.out, HW2.out]
    obtain ⟨hq1, hq2, hqt0⟩ := hE.out W2 (Below.refl _ _)
    have HB0 : Below W2.heap.size W2 W2 := Below.refl _ _
    have ga0 := hq1.2 0 (by simp)
    have ga1 := hq1.2 1 (by simp)
    have ga2 := hq1.2 2 (by simp)
    have ga3 := hq1.2 3 (by simp)
    have ga4 := hq1.2 4 (by simp)
    have ga5 := hq1.2 5 (by simp)
    have ga6 := hq1.2 6 (by simp)
    have ga7 := hq1.2 7 (by simp)
    have gb0 := hq2.2 0 (by simp)
    have gb1 := hq2.2 1 (by simp)
    have gb2 := hq2.2 2 (by simp)
    have gb3 := hq2.2 3 (by simp)
    have gb4 := hq2.2 4 (by simp)
    have gb5 := hq2.2 5 (by simp)
    have gb6 := hq2.2 6 (by simp)
    have gb7 := hq2.2 7 (by simp)
    simp only [cqs, cqz] at ga0 ga1 ga2 ga3 ga4 ga5 ga6 ga7 gb0 gb1 gb2 gb3 gb4 gb5 gb6 gb7
    go_wp2_with (first | (go_at_call 45; (with_reducible refine (HC5.out W2 hqt0).mono ?_); rintro e1 w1 ⟨rfl, hb1⟩; have HB1 := bt HB0 hb1; obtain ⟨r1hq1, r1hq2, hqt1⟩ := hE.out w1 HB1; have g1_a6 := r1hq1.2 6 (by simp); have g1_a7 := r1hq1.2 7 (by simp); have g1_b6 := r1hq2.2 6 (by simp); have g1_b7 := r1hq2.2 7 (by simp); simp only [cqs, cqz] at g1_a6 g1_a7 g1_b6 g1_b7) | (go_at_call 45; (with_reducible refine (HC6.out w1 hqt1).mono ?_); rintro e2 w2 ⟨rfl, hb2⟩; have HB2 := bt HB1 hb2; obtain ⟨r2hq1, r2hq2, hqt2⟩ := hE.out w2 HB2; have g2_a7 := r2hq1.2 7 (by simp); have g2_b7 := r2hq2.2 7 (by simp); simp only [cqs, cqz] at g2_a7 g2_b7) | (go_at_call 45; (with_reducible refine (HC7.out w2 hqt2).mono ?_); rintro e3 w3 ⟨rfl, hb3⟩; have HB3 := bt HB2 hb3; obtain ⟨r3hq1, r3hq2, hqt3⟩ := hE.out w3 HB3))
    go_ret
    exact ⟨ret_bool hfin.out.symm, hqt3⟩
  subst h
  by_cases h : x_props = y_props
  rotate_left
  · have hfin : Hid (same (⟨x_name, x_title, x_inn, x_text, x_room, x_words, x_adjs, x_flags, x_props, x_exits⟩ : ObjD) ⟨x_name, x_title, x_inn, x_text, x_room, x_words, x_adjs, x_flags, y_props, y_exits⟩ = false) := same_ne (fun e => h (by cases e; rfl))
    simp only [same_self] at hc5
    have HC5 := Lib.hid hc5
    simp only [same_self] at hc6
    have HC6 := Lib.hid hc6
    simp only [same_self] at hc7
    have HC7 := Lib.hid hc7
    simp only [same_ne h] at hc8
    have HC8 := Lib.hid hc8
    clear hc5 hc6 hc7 hc8 hc9 ka5 kb5 ka6 kb6 ka7 kb7 ka8 kb8 ka9 kb9 h hF
    go_enter Tryz.func48, Tryz.ntmps48
    go_upto_region 1 with fail
    rw [HW1.out, HW2.out]
    obtain ⟨hq1, hq2, hqt0⟩ := hE.out W2 (Below.refl _ _)
    have HB0 : Below W2.heap.size W2 W2 := Below.refl _ _
    have ga0 := hq1.2 0 (by simp)
    have ga1 := hq1.2 1 (by simp)
    have ga2 := hq1.2 2 (by simp)
    have ga3 := hq1.2 3 (by simp)
    have ga4 := hq1.2 4 (by simp)
    have ga5 := hq1.2 5 (by simp)
    have ga6 := hq1.2 6 (by simp)
    have ga7 := hq1.2 7 (by simp)
    have ga8 := hq1.2 8 (by simp)
    have gb0 := hq2.2 0 (by simp)
    have gb1 := hq2.2 1 (by simp)
    have gb2 := hq2.2 2 (by simp)
    have gb3 := hq2.2 3 (by simp)
    have gb4 := hq2.2 4 (by simp)
    have gb5 := hq2.2 5 (by simp)
    have gb6 := hq2.2 6 (by simp)
    have gb7 := hq2.2 7 (by simp)
    have gb8 := hq2.2 8 (by simp)
    simp only [cqs, cqz] at ga0 ga1 ga2 ga3 ga4 ga5 ga6 ga7 ga8 gb0 gb1 gb2 gb3 gb4 gb5 gb6 gb7 gb8
    go_wp2_with (first | (go_at_call 45; (with_reducible refine (HC5.out W2 hqt0).mono ?_); rintro e1 w1 ⟨rfl, hb1⟩; have HB1 := bt HB0 hb1; obtain ⟨r1hq1, r1hq2, hqt1⟩ := hE.out w1 HB1; have g1_a6 := r1hq1.2 6 (by simp); have g1_a7 := r1hq1.2 7 (by simp); have g1_a8 := r1hq1.2 8 (by simp); have g1_b6 := r1hq2.2 6 (by simp); have g1_b7 := r1hq2.2 7 (by simp); have g1_b8 := r1hq2.2 8 (by simp); simp only [cqs, cqz] at g1_a6 g1_a7 g1_a8 g1_b6 g1_b7 g1_b8) | (go_at_call 45; (with_reducible refine (HC6.out w1 hqt1).mono ?_); rintro e2 w2 ⟨rfl, hb2⟩; have HB2 := bt HB1 hb2; obtain ⟨r2hq1, r2hq2, hqt2⟩ := hE.out w2 HB2; have g2_a7 := r2hq1.2 7 (by simp); have g2_a8 := r2hq1.2 8 (by simp); have g2_b7 := r2hq2.2 7 (by simp); have g2_b8 := r2hq2.2 8 (by simp); simp only [cqs, cqz] at g2_a7 g2_a8 g2_b7 g2_b8) | (go_at_call 45; (with_reducible refine (HC7.out w2 hqt2).mono ?_); rintro e3 w3 ⟨rfl, hb3⟩; have HB3 := bt HB2 hb3; obtain ⟨r3hq1, r3hq2, hqt3⟩ := hE.out w3 HB3; have g3_a8 := r3hq1.2 8 (by simp); have g3_b8 := r3hq2.2 8 (by simp); simp only [cqs, cqz] at g3_a8 g3_b8) | (go_at_call 46; (with_reducible refine (HC8.out w3 hqt3).mono ?_); rintro e4 w4 ⟨rfl, hb4⟩; have HB4 := bt HB3 hb4; obtain ⟨r4hq1, r4hq2, hqt4⟩ := hE.out w4 HB4))
    go_ret
    exact ⟨ret_bool hfin.out.symm, hqt4⟩
  subst h
  by_cases h : x_exits = y_exits
  rotate_left
  · have hfin : Hid (same (⟨x_name, x_title, x_inn, x_text, x_room, x_words, x_adjs, x_flags, x_props, x_exits⟩ : ObjD) ⟨x_name, x_title, x_inn, x_text, x_room, x_words, x_adjs, x_flags, x_props, y_exits⟩ = false) := same_ne (fun e => h (by cases e; rfl))
    simp only [same_self] at hc5
    have HC5 := Lib.hid hc5
    simp only [same_self] at hc6
    have HC6 := Lib.hid hc6
    simp only [same_self] at hc7
    have HC7 := Lib.hid hc7
    simp only [same_self] at hc8
    have HC8 := Lib.hid hc8
    simp only [same_ne h] at hc9
    have HC9 := Lib.hid hc9
    clear hc5 hc6 hc7 hc8 hc9 ka5 kb5 ka6 kb6 ka7 kb7 ka8 kb8 ka9 kb9 h hF
    go_enter Tryz.func48, Tryz.ntmps48
    go_upto_region 1 with fail
    rw [HW1.out, HW2.out]
    obtain ⟨hq1, hq2, hqt0⟩ := hE.out W2 (Below.refl _ _)
    have HB0 : Below W2.heap.size W2 W2 := Below.refl _ _
    have ga0 := hq1.2 0 (by simp)
    have ga1 := hq1.2 1 (by simp)
    have ga2 := hq1.2 2 (by simp)
    have ga3 := hq1.2 3 (by simp)
    have ga4 := hq1.2 4 (by simp)
    have ga5 := hq1.2 5 (by simp)
    have ga6 := hq1.2 6 (by simp)
    have ga7 := hq1.2 7 (by simp)
    have ga8 := hq1.2 8 (by simp)
    have ga9 := hq1.2 9 (by simp)
    have gb0 := hq2.2 0 (by simp)
    have gb1 := hq2.2 1 (by simp)
    have gb2 := hq2.2 2 (by simp)
    have gb3 := hq2.2 3 (by simp)
    have gb4 := hq2.2 4 (by simp)
    have gb5 := hq2.2 5 (by simp)
    have gb6 := hq2.2 6 (by simp)
    have gb7 := hq2.2 7 (by simp)
    have gb8 := hq2.2 8 (by simp)
    have gb9 := hq2.2 9 (by simp)
    simp only [cqs, cqz] at ga0 ga1 ga2 ga3 ga4 ga5 ga6 ga7 ga8 ga9 gb0 gb1 gb2 gb3 gb4 gb5 gb6 gb7 gb8 gb9
    go_wp2_with (first | (go_at_call 45; (with_reducible refine (HC5.out W2 hqt0).mono ?_); rintro e1 w1 ⟨rfl, hb1⟩; have HB1 := bt HB0 hb1; obtain ⟨r1hq1, r1hq2, hqt1⟩ := hE.out w1 HB1; have g1_a6 := r1hq1.2 6 (by simp); have g1_a7 := r1hq1.2 7 (by simp); have g1_a8 := r1hq1.2 8 (by simp); have g1_a9 := r1hq1.2 9 (by simp); have g1_b6 := r1hq2.2 6 (by simp); have g1_b7 := r1hq2.2 7 (by simp); have g1_b8 := r1hq2.2 8 (by simp); have g1_b9 := r1hq2.2 9 (by simp); simp only [cqs, cqz] at g1_a6 g1_a7 g1_a8 g1_a9 g1_b6 g1_b7 g1_b8 g1_b9) | (go_at_call 45; (with_reducible refine (HC6.out w1 hqt1).mono ?_); rintro e2 w2 ⟨rfl, hb2⟩; have HB2 := bt HB1 hb2; obtain ⟨r2hq1, r2hq2, hqt2⟩ := hE.out w2 HB2; have g2_a7 := r2hq1.2 7 (by simp); have g2_a8 := r2hq1.2 8 (by simp); have g2_a9 := r2hq1.2 9 (by simp); have g2_b7 := r2hq2.2 7 (by simp); have g2_b8 := r2hq2.2 8 (by simp); have g2_b9 := r2hq2.2 9 (by simp); simp only [cqs, cqz] at g2_a7 g2_a8 g2_a9 g2_b7 g2_b8 g2_b9) | (go_at_call 45; (with_reducible refine (HC7.out w2 hqt2).mono ?_); rintro e3 w3 ⟨rfl, hb3⟩; have HB3 := bt HB2 hb3; obtain ⟨r3hq1, r3hq2, hqt3⟩ := hE.out w3 HB3; have g3_a8 := r3hq1.2 8 (by simp); have g3_a9 := r3hq1.2 9 (by simp); have g3_b8 := r3hq2.2 8 (by simp); have g3_b9 := r3hq2.2 9 (by simp); simp only [cqs, cqz] at g3_a8 g3_a9 g3_b8 g3_b9) | (go_at_call 46; (with_reducible refine (HC8.out w3 hqt3).mono ?_); rintro e4 w4 ⟨rfl, hb4⟩; have HB4 := bt HB3 hb4; obtain ⟨r4hq1, r4hq2, hqt4⟩ := hE.out w4 HB4; have g4_a9 := r4hq1.2 9 (by simp); have g4_b9 := r4hq2.2 9 (by simp); simp only [cqs, cqz] at g4_a9 g4_b9) | (go_at_call 118; (with_reducible refine (HC9.out w4 hqt4).mono ?_); rintro e5 w5 ⟨rfl, hb5⟩; have HB5 := bt HB4 hb5; obtain ⟨r5hq1, r5hq2, hqt5⟩ := hE.out w5 HB5))
    go_ret
    exact ⟨ret_bool hfin.out.symm, hqt5⟩
  subst h
  have hfin : Hid (same (⟨x_name, x_title, x_inn, x_text, x_room, x_words, x_adjs, x_flags, x_props, x_exits⟩ : ObjD) ⟨x_name, x_title, x_inn, x_text, x_room, x_words, x_adjs, x_flags, x_props, x_exits⟩ = true) := same_self _
  simp only [same_self] at hc5
  have HC5 := Lib.hid hc5
  simp only [same_self] at hc6
  have HC6 := Lib.hid hc6
  simp only [same_self] at hc7
  have HC7 := Lib.hid hc7
  simp only [same_self] at hc8
  have HC8 := Lib.hid hc8
  simp only [same_self] at hc9
  have HC9 := Lib.hid hc9
  clear hc5 hc6 hc7 hc8 hc9 ka5 kb5 ka6 kb6 ka7 kb7 ka8 kb8 ka9 kb9 hF
  go_enter Tryz.func48, Tryz.ntmps48
  go_upto_region 1 with fail
  rw [HW1.out, HW2.out]
  obtain ⟨hq1, hq2, hqt0⟩ := hE.out W2 (Below.refl _ _)
  have HB0 : Below W2.heap.size W2 W2 := Below.refl _ _
  have ga0 := hq1.2 0 (by simp)
  have ga1 := hq1.2 1 (by simp)
  have ga2 := hq1.2 2 (by simp)
  have ga3 := hq1.2 3 (by simp)
  have ga4 := hq1.2 4 (by simp)
  have ga5 := hq1.2 5 (by simp)
  have ga6 := hq1.2 6 (by simp)
  have ga7 := hq1.2 7 (by simp)
  have ga8 := hq1.2 8 (by simp)
  have ga9 := hq1.2 9 (by simp)
  have gb0 := hq2.2 0 (by simp)
  have gb1 := hq2.2 1 (by simp)
  have gb2 := hq2.2 2 (by simp)
  have gb3 := hq2.2 3 (by simp)
  have gb4 := hq2.2 4 (by simp)
  have gb5 := hq2.2 5 (by simp)
  have gb6 := hq2.2 6 (by simp)
  have gb7 := hq2.2 7 (by simp)
  have gb8 := hq2.2 8 (by simp)
  have gb9 := hq2.2 9 (by simp)
  simp only [cqs, cqz] at ga0 ga1 ga2 ga3 ga4 ga5 ga6 ga7 ga8 ga9 gb0 gb1 gb2 gb3 gb4 gb5 gb6 gb7 gb8 gb9
  go_wp2_with (first | (go_at_call 45; (with_reducible refine (HC5.out W2 hqt0).mono ?_); rintro e1 w1 ⟨rfl, hb1⟩; have HB1 := bt HB0 hb1; obtain ⟨r1hq1, r1hq2, hqt1⟩ := hE.out w1 HB1; have g1_a6 := r1hq1.2 6 (by simp); have g1_a7 := r1hq1.2 7 (by simp); have g1_a8 := r1hq1.2 8 (by simp); have g1_a9 := r1hq1.2 9 (by simp); have g1_b6 := r1hq2.2 6 (by simp); have g1_b7 := r1hq2.2 7 (by simp); have g1_b8 := r1hq2.2 8 (by simp); have g1_b9 := r1hq2.2 9 (by simp); simp only [cqs, cqz] at g1_a6 g1_a7 g1_a8 g1_a9 g1_b6 g1_b7 g1_b8 g1_b9) | (go_at_call 45; (with_reducible refine (HC6.out w1 hqt1).mono ?_); rintro e2 w2 ⟨rfl, hb2⟩; have HB2 := bt HB1 hb2; obtain ⟨r2hq1, r2hq2, hqt2⟩ := hE.out w2 HB2; have g2_a7 := r2hq1.2 7 (by simp); have g2_a8 := r2hq1.2 8 (by simp); have g2_a9 := r2hq1.2 9 (by simp); have g2_b7 := r2hq2.2 7 (by simp); have g2_b8 := r2hq2.2 8 (by simp); have g2_b9 := r2hq2.2 9 (by simp); simp only [cqs, cqz] at g2_a7 g2_a8 g2_a9 g2_b7 g2_b8 g2_b9) | (go_at_call 45; (with_reducible refine (HC7.out w2 hqt2).mono ?_); rintro e3 w3 ⟨rfl, hb3⟩; have HB3 := bt HB2 hb3; obtain ⟨r3hq1, r3hq2, hqt3⟩ := hE.out w3 HB3; have g3_a8 := r3hq1.2 8 (by simp); have g3_a9 := r3hq1.2 9 (by simp); have g3_b8 := r3hq2.2 8 (by simp); have g3_b9 := r3hq2.2 9 (by simp); simp only [cqs, cqz] at g3_a8 g3_a9 g3_b8 g3_b9) | (go_at_call 46; (with_reducible refine (HC8.out w3 hqt3).mono ?_); rintro e4 w4 ⟨rfl, hb4⟩; have HB4 := bt HB3 hb4; obtain ⟨r4hq1, r4hq2, hqt4⟩ := hE.out w4 HB4; have g4_a9 := r4hq1.2 9 (by simp); have g4_b9 := r4hq2.2 9 (by simp); simp only [cqs, cqz] at g4_a9 g4_b9) | (go_at_call 118; (with_reducible refine (HC9.out w4 hqt4).mono ?_); rintro e5 w5 ⟨rfl, hb5⟩; have HB5 := bt HB4 hb5; obtain ⟨r5hq1, r5hq2, hqt5⟩ := hE.out w5 HB5))
  go_ret
  exact ⟨ret_bool hfin.out.symm, hqt5⟩
set_option maxRecDepth 100000 in
set_option maxHeartbeats 4000000 in
theorem soSlot_calls (F : Nat → Prop) (w : World) (x y : SlotD) (cs ds : List Value) (hF : Inn F w) (hx : Holds.slot.R F w x cs) (hy : Holds.slot.R F w y ds) :
    Calls Tryz.prog 119 #[.agg cs.toArray, .agg ds.toArray] w (Gives w (.bool (same x y))) := by
  obtain ⟨-, va1, rfl, ka1⟩ := hx
  obtain ⟨da1, fa1, rfl⟩ := ka1.shape
  obtain ⟨-, vb1, rfl, kb1⟩ := hy
  obtain ⟨db1, fb1, rfl⟩ := kb1.shape
  obtain ⟨x_kind, x_words⟩ := x
  obtain ⟨y_kind, y_words⟩ := y
  simp only at ka1 kb1
  have hc1 := fun (W : World) (hW : Below w.heap.size w W) => eqString_calls F W x_words y_words _ _ (hF.below hW) (RdL.below ka1 hF hW (Nat.le_refl _)) (RdL.below kb1 hF hW (Nat.le_refl _))
  obtain ⟨W1, hW1⟩ : ∃ W1, w.alloc (.cells #[.int .i64 x_kind, .slice da1 x_words.length fa1] 120) = W1 := ⟨_, rfl⟩
  have hs1 : W1.heap.size = w.heap.size + 1 := by rw [← hW1]; simp
  have hb1 : Below w.heap.size w W1 := by rw [← hW1]; exact (Below.refl _ _).alloc (Nat.le_refl _) _
  have hbx1 : BoxAt W1 w.heap.size [.int .i64 x_kind, .slice da1 x_words.length fa1] := by rw [← hW1]; exact BoxAt.new _ _ _
  obtain ⟨W2, hW2⟩ : ∃ W2, W1.alloc (.cells #[.int .i64 y_kind, .slice db1 y_words.length fb1] 120) = W2 := ⟨_, rfl⟩
  have hs2 : W2.heap.size = w.heap.size + 1 + 1 := by rw [← hW2]; simp; exact hs1
  have hb2 : Below W1.heap.size W1 W2 := by rw [← hW2]; exact (Below.refl _ _).alloc (Nat.le_refl _) _
  have hbx2 : BoxAt W2 W1.heap.size [.int .i64 y_kind, .slice db1 y_words.length fb1] := by rw [← hW2]; exact BoxAt.new _ _ _
  rw [hs1] at hbx2
  have hE : Hid (∀ W, Below W2.heap.size W2 W → BoxAt W (w.heap.size) [.int .i64 x_kind, .slice da1 x_words.length fa1] ∧ BoxAt W (w.heap.size + 1) [.int .i64 y_kind, .slice db1 y_words.length fb1] ∧ Below w.heap.size w W) := fun W h3 => ⟨hbx1.below (bt hb2 h3) (by omega), hbx2.below h3 (by omega), (hb1.trans ((bt hb2 h3).mono hb1.size))⟩
  have HZ0 := Lib.hid hs2
  have HW1 := Lib.hid hW1
  have HW2 := Lib.hid hW2
  clear hW1 hs1 hb1 hbx1 hW2 hs2 hb2 hbx2
  by_cases h : x_kind = y_kind
  rotate_left
  · have hfin : Hid (same (⟨x_kind, x_words⟩ : SlotD) ⟨y_kind, y_words⟩ = false) := same_ne (fun e => h (by cases e; rfl))
    have e1 : (x_kind == y_kind) = false := by simpa using h
    clear hc1 ka1 kb1 h hF
    go_enter Tryz.func119, Tryz.ntmps119
    go_upto_region 1 with fail
    rw [HW1.out, HW2.out]
    obtain ⟨hq1, hq2, hqt0⟩ := hE.out W2 (Below.refl _ _)
    have HB0 : Below W2.heap.size W2 W2 := Below.refl _ _
    have ga0 := hq1.2 0 (by simp)
    have gb0 := hq2.2 0 (by simp)
    simp only [cqz] at ga0 gb0
    go_wp2_with fail
    go_ret
    exact ⟨ret_bool hfin.out.symm, hqt0⟩
  subst h
  by_cases h : x_words = y_words
  rotate_left
  · have hfin : Hid (same (⟨x_kind, x_words⟩ : SlotD) ⟨x_kind, y_words⟩ = false) := same_ne (fun e => h (by cases e; rfl))
    simp only [same_ne h] at hc1
    have HC1 := Lib.hid hc1
    clear hc1 ka1 kb1 h hF
    go_enter Tryz.func119, Tryz.ntmps119
    go_upto_region 1 with fail
    rw [HW1.out, HW2.out]
    obtain ⟨hq1, hq2, hqt0⟩ := hE.out W2 (Below.refl _ _)
    have HB0 : Below W2.heap.size W2 W2 := Below.refl _ _
    have ga0 := hq1.2 0 (by simp)
    have ga1 := hq1.2 1 (by simp)
    have gb0 := hq2.2 0 (by simp)
    have gb1 := hq2.2 1 (by simp)
    simp only [cqs, cqz] at ga0 ga1 gb0 gb1
    go_wp2_with (go_at_call 45; (with_reducible refine (HC1.out W2 hqt0).mono ?_); rintro e1 w1 ⟨rfl, hb1⟩; have HB1 := bt HB0 hb1; obtain ⟨r1hq1, r1hq2, hqt1⟩ := hE.out w1 HB1)
    go_ret
    exact ⟨ret_bool hfin.out.symm, hqt1⟩
  subst h
  have hfin : Hid (same (⟨x_kind, x_words⟩ : SlotD) ⟨x_kind, x_words⟩ = true) := same_self _
  simp only [same_self] at hc1
  have HC1 := Lib.hid hc1
  clear hc1 ka1 kb1 hF
  go_enter Tryz.func119, Tryz.ntmps119
  go_upto_region 1 with fail
  rw [HW1.out, HW2.out]
  obtain ⟨hq1, hq2, hqt0⟩ := hE.out W2 (Below.refl _ _)
  have HB0 : Below W2.heap.size W2 W2 := Below.refl _ _
  have ga0 := hq1.2 0 (by simp)
  have ga1 := hq1.2 1 (by simp)
  have gb0 := hq2.2 0 (by simp)
  have gb1 := hq2.2 1 (by simp)
  simp only [cqs, cqz] at ga0 ga1 gb0 gb1
  go_wp2_with (go_at_call 45; (with_reducible refine (HC1.out W2 hqt0).mono ?_); rintro e1 w1 ⟨rfl, hb1⟩; have HB1 := bt HB0 hb1; obtain ⟨r1hq1, r1hq2, hqt1⟩ := hE.out w1 HB1)
  go_ret
  exact ⟨ret_bool hfin.out.symm, hqt1⟩
set_option maxRecDepth 100000 in
set_option maxHeartbeats 4000000 in
theorem soRule_calls (F : Nat → Prop) (w : World) (x y : RuleD) (cs ds : List Value) (hF : Inn F w) (hx : Holds.rule.R F w x cs) (hy : Holds.rule.R F w y ds) :
    Calls Tryz.prog 41 #[.agg cs.toArray, .agg ds.toArray] w (Gives w (.bool (same x y))) := by
  obtain ⟨-, -, -, -, va4, va5, rfl, ka4, ka5⟩ := hx
  obtain ⟨da4, fa4, rfl⟩ := ka4.shape
  obtain ⟨da5, fa5, rfl⟩ := ka5.shape
  obtain ⟨-, -, -, -, vb4, vb5, rfl, kb4, kb5⟩ := hy
  obtain ⟨db4, fb4, rfl⟩ := kb4.shape
  obtain ⟨db5, fb5, rfl⟩ := kb5.shape
  obtain ⟨x_verb, x_phase, x_noun, x_second, x_cond, x_body⟩ := x
  obtain ⟨y_verb, y_phase, y_noun, y_second, y_cond, y_body⟩ := y
  simp only at ka4 kb4 ka5 kb5
  have hc4 := fun (W : World) (hW : Below w.heap.size w W) => soExprs_calls F W x_cond y_cond _ _ (hF.below hW) (Exs.below ka4 hF hW (Nat.le_refl _)) (Exs.below kb4 hF hW (Nat.le_refl _))
  have hc5 := fun (W : World) (hW : Below w.heap.size w W) => sameBT_calls x_body y_body F W _ _ (hF.below hW) (Sts.below ka5 hF hW (Nat.le_refl _)) (Sts.below kb5 hF hW (Nat.le_refl _))
  obtain ⟨W1, hW1⟩ : ∃ W1, w.alloc (.cells #[.string x_verb, .int .i64 x_phase, .string x_noun, .string x_second, .slice da4 x_cond.length fa4, .slice da5 x_body.length fa5] 42) = W1 := ⟨_, rfl⟩
  have hs1 : W1.heap.size = w.heap.size + 1 := by rw [← hW1]; simp
  have hb1 : Below w.heap.size w W1 := by rw [← hW1]; exact (Below.refl _ _).alloc (Nat.le_refl _) _
  have hbx1 : BoxAt W1 w.heap.size [.string x_verb, .int .i64 x_phase, .string x_noun, .string x_second, .slice da4 x_cond.length fa4, .slice da5 x_body.length fa5] := by rw [← hW1]; exact BoxAt.new _ _ _
  obtain ⟨W2, hW2⟩ : ∃ W2, W1.alloc (.cells #[.string y_verb, .int .i64 y_phase, .string y_noun, .string y_second, .slice db4 y_cond.length fb4, .slice db5 y_body.length fb5] 42) = W2 := ⟨_, rfl⟩
  have hs2 : W2.heap.size = w.heap.size + 1 + 1 := by rw [← hW2]; simp; exact hs1
  have hb2 : Below W1.heap.size W1 W2 := by rw [← hW2]; exact (Below.refl _ _).alloc (Nat.le_refl _) _
  have hbx2 : BoxAt W2 W1.heap.size [.string y_verb, .int .i64 y_phase, .string y_noun, .string y_second, .slice db4 y_cond.length fb4, .slice db5 y_body.length fb5] := by rw [← hW2]; exact BoxAt.new _ _ _
  rw [hs1] at hbx2
  have hE : Hid (∀ W, Below W2.heap.size W2 W → BoxAt W (w.heap.size) [.string x_verb, .int .i64 x_phase, .string x_noun, .string x_second, .slice da4 x_cond.length fa4, .slice da5 x_body.length fa5] ∧ BoxAt W (w.heap.size + 1) [.string y_verb, .int .i64 y_phase, .string y_noun, .string y_second, .slice db4 y_cond.length fb4, .slice db5 y_body.length fb5] ∧ Below w.heap.size w W) := fun W h3 => ⟨hbx1.below (bt hb2 h3) (by omega), hbx2.below h3 (by omega), (hb1.trans ((bt hb2 h3).mono hb1.size))⟩
  have HZ0 := Lib.hid hs2
  have HW1 := Lib.hid hW1
  have HW2 := Lib.hid hW2
  clear hW1 hs1 hb1 hbx1 hW2 hs2 hb2 hbx2
  by_cases h : x_verb = y_verb
  rotate_left
  · have hfin : Hid (same (⟨x_verb, x_phase, x_noun, x_second, x_cond, x_body⟩ : RuleD) ⟨y_verb, y_phase, y_noun, y_second, y_cond, y_body⟩ = false) := same_ne (fun e => h (by cases e; rfl))
    have e1 : (x_verb.toList == y_verb.toList) = false := strne h
    clear hc4 hc5 ka4 kb4 ka5 kb5 h hF
    go_enter Tryz.func41, Tryz.ntmps41
    go_upto_region 1 with fail
    rw [HW1.out, HW2.out]
    obtain ⟨hq1, hq2, hqt0⟩ := hE.out W2 (Below.refl _ _)
    have HB0 : Below W2.heap.size W2 W2 := Below.refl _ _
    have ga0 := hq1.2 0 (by simp)
    have gb0 := hq2.2 0 (by simp)
    simp only [cqz] at ga0 gb0
    go_wp2_with fail
    go_ret
    exact ⟨ret_bool hfin.out.symm, hqt0⟩
  subst h
  by_cases h : x_phase = y_phase
  rotate_left
  · have hfin : Hid (same (⟨x_verb, x_phase, x_noun, x_second, x_cond, x_body⟩ : RuleD) ⟨x_verb, y_phase, y_noun, y_second, y_cond, y_body⟩ = false) := same_ne (fun e => h (by cases e; rfl))
    have e1 : (x_phase == y_phase) = false := by simpa using h
    clear hc4 hc5 ka4 kb4 ka5 kb5 h hF
    go_enter Tryz.func41, Tryz.ntmps41
    go_upto_region 1 with fail
    rw [HW1.out, HW2.out]
    obtain ⟨hq1, hq2, hqt0⟩ := hE.out W2 (Below.refl _ _)
    have HB0 : Below W2.heap.size W2 W2 := Below.refl _ _
    have ga0 := hq1.2 0 (by simp)
    have ga1 := hq1.2 1 (by simp)
    have gb0 := hq2.2 0 (by simp)
    have gb1 := hq2.2 1 (by simp)
    simp only [cqs, cqz] at ga0 ga1 gb0 gb1
    go_wp2_with fail
    go_ret
    exact ⟨ret_bool hfin.out.symm, hqt0⟩
  subst h
  by_cases h : x_noun = y_noun
  rotate_left
  · have hfin : Hid (same (⟨x_verb, x_phase, x_noun, x_second, x_cond, x_body⟩ : RuleD) ⟨x_verb, x_phase, y_noun, y_second, y_cond, y_body⟩ = false) := same_ne (fun e => h (by cases e; rfl))
    have e1 : (x_noun.toList == y_noun.toList) = false := strne h
    clear hc4 hc5 ka4 kb4 ka5 kb5 h hF
    go_enter Tryz.func41, Tryz.ntmps41
    go_upto_region 1 with fail
    rw [HW1.out, HW2.out]
    obtain ⟨hq1, hq2, hqt0⟩ := hE.out W2 (Below.refl _ _)
    have HB0 : Below W2.heap.size W2 W2 := Below.refl _ _
    have ga0 := hq1.2 0 (by simp)
    have ga1 := hq1.2 1 (by simp)
    have ga2 := hq1.2 2 (by simp)
    have gb0 := hq2.2 0 (by simp)
    have gb1 := hq2.2 1 (by simp)
    have gb2 := hq2.2 2 (by simp)
    simp only [cqs, cqz] at ga0 ga1 ga2 gb0 gb1 gb2
    go_wp2_with fail
    go_ret
    exact ⟨ret_bool hfin.out.symm, hqt0⟩
  subst h
  by_cases h : x_second = y_second
  rotate_left
  · have hfin : Hid (same (⟨x_verb, x_phase, x_noun, x_second, x_cond, x_body⟩ : RuleD) ⟨x_verb, x_phase, x_noun, y_second, y_cond, y_body⟩ = false) := same_ne (fun e => h (by cases e; rfl))
    have e1 : (x_second.toList == y_second.toList) = false := strne h
    clear hc4 hc5 ka4 kb4 ka5 kb5 h hF
    go_enter Tryz.func41, Tryz.ntmps41
    go_upto_region 1 with fail
    rw [HW1.out, HW2.out]
    obtain ⟨hq1, hq2, hqt0⟩ := hE.out W2 (Below.refl _ _)
    have HB0 : Below W2.heap.size W2 W2 := Below.refl _ _
    have ga0 := hq1.2 0 (by simp)
    have ga1 := hq1.2 1 (by simp)
    have ga2 := hq1.2 2 (by simp)
    have ga3 := hq1.2 3 (by simp)
    have gb0 := hq2.2 0 (by simp)
    have gb1 := hq2.2 1 (by simp)
    have gb2 := hq2.2 2 (by simp)
    have gb3 := hq2.2 3 (by simp)
    simp only [cqs, cqz] at ga0 ga1 ga2 ga3 gb0 gb1 gb2 gb3
    go_wp2_with fail
    go_ret
    exact ⟨ret_bool hfin.out.symm, hqt0⟩
  subst h
  by_cases h : x_cond = y_cond
  rotate_left
  · have hfin : Hid (same (⟨x_verb, x_phase, x_noun, x_second, x_cond, x_body⟩ : RuleD) ⟨x_verb, x_phase, x_noun, x_second, y_cond, y_body⟩ = false) := same_ne (fun e => h (by cases e; rfl))
    simp only [same_ne h] at hc4
    have HC4 := Lib.hid hc4
    clear hc4 hc5 ka4 kb4 ka5 kb5 h hF
    go_enter Tryz.func41, Tryz.ntmps41
    go_upto_region 1 with fail
    rw [HW1.out, HW2.out]
    obtain ⟨hq1, hq2, hqt0⟩ := hE.out W2 (Below.refl _ _)
    have HB0 : Below W2.heap.size W2 W2 := Below.refl _ _
    have ga0 := hq1.2 0 (by simp)
    have ga1 := hq1.2 1 (by simp)
    have ga2 := hq1.2 2 (by simp)
    have ga3 := hq1.2 3 (by simp)
    have ga4 := hq1.2 4 (by simp)
    have gb0 := hq2.2 0 (by simp)
    have gb1 := hq2.2 1 (by simp)
    have gb2 := hq2.2 2 (by simp)
    have gb3 := hq2.2 3 (by simp)
    have gb4 := hq2.2 4 (by simp)
    simp only [cqs, cqz] at ga0 ga1 ga2 ga3 ga4 gb0 gb1 gb2 gb3 gb4
    go_wp2_with (go_at_call 42; (with_reducible refine (HC4.out W2 hqt0).mono ?_); rintro e1 w1 ⟨rfl, hb1⟩; have HB1 := bt HB0 hb1; obtain ⟨r1hq1, r1hq2, hqt1⟩ := hE.out w1 HB1)
    go_ret
    exact ⟨ret_bool hfin.out.symm, hqt1⟩
  subst h
  by_cases h : x_body = y_body
  rotate_left
  · have hfin : Hid (same (⟨x_verb, x_phase, x_noun, x_second, x_cond, x_body⟩ : RuleD) ⟨x_verb, x_phase, x_noun, x_second, x_cond, y_body⟩ = false) := same_ne (fun e => h (by cases e; rfl))
    simp only [same_self] at hc4
    have HC4 := Lib.hid hc4
    simp only [same_ne h] at hc5
    have HC5 := Lib.hid hc5
    clear hc4 hc5 ka4 kb4 ka5 kb5 h hF
    go_enter Tryz.func41, Tryz.ntmps41
    go_upto_region 1 with fail
    rw [HW1.out, HW2.out]
    obtain ⟨hq1, hq2, hqt0⟩ := hE.out W2 (Below.refl _ _)
    have HB0 : Below W2.heap.size W2 W2 := Below.refl _ _
    have ga0 := hq1.2 0 (by simp)
    have ga1 := hq1.2 1 (by simp)
    have ga2 := hq1.2 2 (by simp)
    have ga3 := hq1.2 3 (by simp)
    have ga4 := hq1.2 4 (by simp)
    have ga5 := hq1.2 5 (by simp)
    have gb0 := hq2.2 0 (by simp)
    have gb1 := hq2.2 1 (by simp)
    have gb2 := hq2.2 2 (by simp)
    have gb3 := hq2.2 3 (by simp)
    have gb4 := hq2.2 4 (by simp)
    have gb5 := hq2.2 5 (by simp)
    simp only [cqs, cqz] at ga0 ga1 ga2 ga3 ga4 ga5 gb0 gb1 gb2 gb3 gb4 gb5
    go_wp2_with (first | (go_at_call 42; (with_reducible refine (HC4.out W2 hqt0).mono ?_); rintro e1 w1 ⟨rfl, hb1⟩; have HB1 := bt HB0 hb1; obtain ⟨r1hq1, r1hq2, hqt1⟩ := hE.out w1 HB1; have g1_a5 := r1hq1.2 5 (by simp); have g1_b5 := r1hq2.2 5 (by simp); simp only [cqs, cqz] at g1_a5 g1_b5) | (go_at_call 43; (with_reducible refine (HC5.out w1 hqt1).mono ?_); rintro e2 w2 ⟨rfl, hb2⟩; have HB2 := bt HB1 hb2; obtain ⟨r2hq1, r2hq2, hqt2⟩ := hE.out w2 HB2))
    go_ret
    exact ⟨ret_bool hfin.out.symm, hqt2⟩
  subst h
  have hfin : Hid (same (⟨x_verb, x_phase, x_noun, x_second, x_cond, x_body⟩ : RuleD) ⟨x_verb, x_phase, x_noun, x_second, x_cond, x_body⟩ = true) := same_self _
  simp only [same_self] at hc4
  have HC4 := Lib.hid hc4
  simp only [same_self] at hc5
  have HC5 := Lib.hid hc5
  clear hc4 hc5 ka4 kb4 ka5 kb5 hF
  go_enter Tryz.func41, Tryz.ntmps41
  go_upto_region 1 with fail
  rw [HW1.out, HW2.out]
  obtain ⟨hq1, hq2, hqt0⟩ := hE.out W2 (Below.refl _ _)
  have HB0 : Below W2.heap.size W2 W2 := Below.refl _ _
  have ga0 := hq1.2 0 (by simp)
  have ga1 := hq1.2 1 (by simp)
  have ga2 := hq1.2 2 (by simp)
  have ga3 := hq1.2 3 (by simp)
  have ga4 := hq1.2 4 (by simp)
  have ga5 := hq1.2 5 (by simp)
  have gb0 := hq2.2 0 (by simp)
  have gb1 := hq2.2 1 (by simp)
  have gb2 := hq2.2 2 (by simp)
  have gb3 := hq2.2 3 (by simp)
  have gb4 := hq2.2 4 (by simp)
  have gb5 := hq2.2 5 (by simp)
  simp only [cqs, cqz] at ga0 ga1 ga2 ga3 ga4 ga5 gb0 gb1 gb2 gb3 gb4 gb5
  go_wp2_with (first | (go_at_call 42; (with_reducible refine (HC4.out W2 hqt0).mono ?_); rintro e1 w1 ⟨rfl, hb1⟩; have HB1 := bt HB0 hb1; obtain ⟨r1hq1, r1hq2, hqt1⟩ := hE.out w1 HB1; have g1_a5 := r1hq1.2 5 (by simp); have g1_b5 := r1hq2.2 5 (by simp); simp only [cqs, cqz] at g1_a5 g1_b5) | (go_at_call 43; (with_reducible refine (HC5.out w1 hqt1).mono ?_); rintro e2 w2 ⟨rfl, hb2⟩; have HB2 := bt HB1 hb2; obtain ⟨r2hq1, r2hq2, hqt2⟩ := hE.out w2 HB2))
  go_ret
  exact ⟨ret_bool hfin.out.symm, hqt2⟩
set_option maxRecDepth 100000 in
set_option maxHeartbeats 4000000 in
theorem soFunc_calls (F : Nat → Prop) (w : World) (x y : FuncD) (cs ds : List Value) (hF : Inn F w) (hx : Holds.fnc.R F w x cs) (hy : Holds.fnc.R F w y ds) :
    Calls Tryz.prog 44 #[.agg cs.toArray, .agg ds.toArray] w (Gives w (.bool (same x y))) := by
  obtain ⟨-, va1, va2, rfl, ka1, ka2⟩ := hx
  obtain ⟨da1, fa1, rfl⟩ := ka1.shape
  obtain ⟨da2, fa2, rfl⟩ := ka2.shape
  obtain ⟨-, vb1, vb2, rfl, kb1, kb2⟩ := hy
  obtain ⟨db1, fb1, rfl⟩ := kb1.shape
  obtain ⟨db2, fb2, rfl⟩ := kb2.shape
  obtain ⟨x_name, x_params, x_body⟩ := x
  obtain ⟨y_name, y_params, y_body⟩ := y
  simp only at ka1 kb1 ka2 kb2
  have hc1 := fun (W : World) (hW : Below w.heap.size w W) => eqString_calls F W x_params y_params _ _ (hF.below hW) (RdL.below ka1 hF hW (Nat.le_refl _)) (RdL.below kb1 hF hW (Nat.le_refl _))
  have hc2 := fun (W : World) (hW : Below w.heap.size w W) => sameBT_calls x_body y_body F W _ _ (hF.below hW) (Sts.below ka2 hF hW (Nat.le_refl _)) (Sts.below kb2 hF hW (Nat.le_refl _))
  obtain ⟨W1, hW1⟩ : ∃ W1, w.alloc (.cells #[.string x_name, .slice da1 x_params.length fa1, .slice da2 x_body.length fa2] 44) = W1 := ⟨_, rfl⟩
  have hs1 : W1.heap.size = w.heap.size + 1 := by rw [← hW1]; simp
  have hb1 : Below w.heap.size w W1 := by rw [← hW1]; exact (Below.refl _ _).alloc (Nat.le_refl _) _
  have hbx1 : BoxAt W1 w.heap.size [.string x_name, .slice da1 x_params.length fa1, .slice da2 x_body.length fa2] := by rw [← hW1]; exact BoxAt.new _ _ _
  obtain ⟨W2, hW2⟩ : ∃ W2, W1.alloc (.cells #[.string y_name, .slice db1 y_params.length fb1, .slice db2 y_body.length fb2] 44) = W2 := ⟨_, rfl⟩
  have hs2 : W2.heap.size = w.heap.size + 1 + 1 := by rw [← hW2]; simp; exact hs1
  have hb2 : Below W1.heap.size W1 W2 := by rw [← hW2]; exact (Below.refl _ _).alloc (Nat.le_refl _) _
  have hbx2 : BoxAt W2 W1.heap.size [.string y_name, .slice db1 y_params.length fb1, .slice db2 y_body.length fb2] := by rw [← hW2]; exact BoxAt.new _ _ _
  rw [hs1] at hbx2
  have hE : Hid (∀ W, Below W2.heap.size W2 W → BoxAt W (w.heap.size) [.string x_name, .slice da1 x_params.length fa1, .slice da2 x_body.length fa2] ∧ BoxAt W (w.heap.size + 1) [.string y_name, .slice db1 y_params.length fb1, .slice db2 y_body.length fb2] ∧ Below w.heap.size w W) := fun W h3 => ⟨hbx1.below (bt hb2 h3) (by omega), hbx2.below h3 (by omega), (hb1.trans ((bt hb2 h3).mono hb1.size))⟩
  have HZ0 := Lib.hid hs2
  have HW1 := Lib.hid hW1
  have HW2 := Lib.hid hW2
  clear hW1 hs1 hb1 hbx1 hW2 hs2 hb2 hbx2
  by_cases h : x_name = y_name
  rotate_left
  · have hfin : Hid (same (⟨x_name, x_params, x_body⟩ : FuncD) ⟨y_name, y_params, y_body⟩ = false) := same_ne (fun e => h (by cases e; rfl))
    have e1 : (x_name.toList == y_name.toList) = false := strne h
    clear hc1 hc2 ka1 kb1 ka2 kb2 h hF
    go_enter Tryz.func44, Tryz.ntmps44
    go_upto_region 1 with fail
    rw [HW1.out, HW2.out]
    obtain ⟨hq1, hq2, hqt0⟩ := hE.out W2 (Below.refl _ _)
    have HB0 : Below W2.heap.size W2 W2 := Below.refl _ _
    have ga0 := hq1.2 0 (by simp)
    have gb0 := hq2.2 0 (by simp)
    simp only [cqz] at ga0 gb0
    go_wp2_with fail
    go_ret
    exact ⟨ret_bool hfin.out.symm, hqt0⟩
  subst h
  by_cases h : x_params = y_params
  rotate_left
  · have hfin : Hid (same (⟨x_name, x_params, x_body⟩ : FuncD) ⟨x_name, y_params, y_body⟩ = false) := same_ne (fun e => h (by cases e; rfl))
    simp only [same_ne h] at hc1
    have HC1 := Lib.hid hc1
    clear hc1 hc2 ka1 kb1 ka2 kb2 h hF
    go_enter Tryz.func44, Tryz.ntmps44
    go_upto_region 1 with fail
    rw [HW1.out, HW2.out]
    obtain ⟨hq1, hq2, hqt0⟩ := hE.out W2 (Below.refl _ _)
    have HB0 : Below W2.heap.size W2 W2 := Below.refl _ _
    have ga0 := hq1.2 0 (by simp)
    have ga1 := hq1.2 1 (by simp)
    have gb0 := hq2.2 0 (by simp)
    have gb1 := hq2.2 1 (by simp)
    simp only [cqs, cqz] at ga0 ga1 gb0 gb1
    go_wp2_with (go_at_call 45; (with_reducible refine (HC1.out W2 hqt0).mono ?_); rintro e1 w1 ⟨rfl, hb1⟩; have HB1 := bt HB0 hb1; obtain ⟨r1hq1, r1hq2, hqt1⟩ := hE.out w1 HB1)
    go_ret
    exact ⟨ret_bool hfin.out.symm, hqt1⟩
  subst h
  by_cases h : x_body = y_body
  rotate_left
  · have hfin : Hid (same (⟨x_name, x_params, x_body⟩ : FuncD) ⟨x_name, x_params, y_body⟩ = false) := same_ne (fun e => h (by cases e; rfl))
    simp only [same_self] at hc1
    have HC1 := Lib.hid hc1
    simp only [same_ne h] at hc2
    have HC2 := Lib.hid hc2
    clear hc1 hc2 ka1 kb1 ka2 kb2 h hF
    go_enter Tryz.func44, Tryz.ntmps44
    go_upto_region 1 with fail
    rw [HW1.out, HW2.out]
    obtain ⟨hq1, hq2, hqt0⟩ := hE.out W2 (Below.refl _ _)
    have HB0 : Below W2.heap.size W2 W2 := Below.refl _ _
    have ga0 := hq1.2 0 (by simp)
    have ga1 := hq1.2 1 (by simp)
    have ga2 := hq1.2 2 (by simp)
    have gb0 := hq2.2 0 (by simp)
    have gb1 := hq2.2 1 (by simp)
    have gb2 := hq2.2 2 (by simp)
    simp only [cqs, cqz] at ga0 ga1 ga2 gb0 gb1 gb2
    go_wp2_with (first | (go_at_call 45; (with_reducible refine (HC1.out W2 hqt0).mono ?_); rintro e1 w1 ⟨rfl, hb1⟩; have HB1 := bt HB0 hb1; obtain ⟨r1hq1, r1hq2, hqt1⟩ := hE.out w1 HB1; have g1_a2 := r1hq1.2 2 (by simp); have g1_b2 := r1hq2.2 2 (by simp); simp only [cqs, cqz] at g1_a2 g1_b2) | (go_at_call 43; (with_reducible refine (HC2.out w1 hqt1).mono ?_); rintro e2 w2 ⟨rfl, hb2⟩; have HB2 := bt HB1 hb2; obtain ⟨r2hq1, r2hq2, hqt2⟩ := hE.out w2 HB2))
    go_ret
    exact ⟨ret_bool hfin.out.symm, hqt2⟩
  subst h
  have hfin : Hid (same (⟨x_name, x_params, x_body⟩ : FuncD) ⟨x_name, x_params, x_body⟩ = true) := same_self _
  simp only [same_self] at hc1
  have HC1 := Lib.hid hc1
  simp only [same_self] at hc2
  have HC2 := Lib.hid hc2
  clear hc1 hc2 ka1 kb1 ka2 kb2 hF
  go_enter Tryz.func44, Tryz.ntmps44
  go_upto_region 1 with fail
  rw [HW1.out, HW2.out]
  obtain ⟨hq1, hq2, hqt0⟩ := hE.out W2 (Below.refl _ _)
  have HB0 : Below W2.heap.size W2 W2 := Below.refl _ _
  have ga0 := hq1.2 0 (by simp)
  have ga1 := hq1.2 1 (by simp)
  have ga2 := hq1.2 2 (by simp)
  have gb0 := hq2.2 0 (by simp)
  have gb1 := hq2.2 1 (by simp)
  have gb2 := hq2.2 2 (by simp)
  simp only [cqs, cqz] at ga0 ga1 ga2 gb0 gb1 gb2
  go_wp2_with (first | (go_at_call 45; (with_reducible refine (HC1.out W2 hqt0).mono ?_); rintro e1 w1 ⟨rfl, hb1⟩; have HB1 := bt HB0 hb1; obtain ⟨r1hq1, r1hq2, hqt1⟩ := hE.out w1 HB1; have g1_a2 := r1hq1.2 2 (by simp); have g1_b2 := r1hq2.2 2 (by simp); simp only [cqs, cqz] at g1_a2 g1_b2) | (go_at_call 43; (with_reducible refine (HC2.out w1 hqt1).mono ?_); rintro e2 w2 ⟨rfl, hb2⟩; have HB2 := bt HB1 hb2; obtain ⟨r2hq1, r2hq2, hqt2⟩ := hE.out w2 HB2))
  go_ret
  exact ⟨ret_bool hfin.out.symm, hqt2⟩
end Go.Proofs.YtmabeegoapcfpaaGreatDoor
