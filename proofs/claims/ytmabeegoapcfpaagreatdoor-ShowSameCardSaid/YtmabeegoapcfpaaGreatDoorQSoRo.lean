/- The reference's sameness of objects. Printed by gen-show5.py. -/
import Derived.Test.YtmabeegoapcfpaaGreatDoorQSoR
import Derived.Deep.RegionHeld
namespace Go.Proofs.YtmabeegoapcfpaaGreatDoor
open Go.RowKit
theorem two_boxes (w : World) (C D : List Value) (t u : TypeId) : BoxAt ((w.alloc (.cells C.toArray t)).alloc (.cells D.toArray u)).drew w.heap.size C ∧ BoxAt ((w.alloc (.cells C.toArray t)).alloc (.cells D.toArray u)).drew (w.heap.size + 1) D := by
  have h1 := (BoxAt.new w C t).below ((Below.refl _ _).alloc (Nat.le_refl _) (.cells D.toArray u)) (by simp)
  have h2 := BoxAt.new (w.alloc (.cells C.toArray t)) D u
  simp only [World.size_alloc] at h2
  exact ⟨⟨h1.1, h1.2⟩, ⟨h2.1, h2.2⟩⟩
set_option maxRecDepth 100000 in
set_option maxHeartbeats 40000000 in
theorem rObject_calls (F : Nat → Prop) (w : World) (x y : ObjD) (cs ds : List Value) (hF : Inn F w) (hx : Holds.obj.R F w x cs) (hy : Holds.obj.R F w y ds) :
    Calls Tryz.prog 56 #[.agg cs.toArray, .agg ds.toArray] w (Gives w (.bool (same x y))) := by
  obtain ⟨-, -, -, -, va5, va6, va7, va8, va9, rfl, ka5, ka6, ka7, ka8, ka9⟩ := hx
  obtain ⟨da5, fa5, rfl⟩ := ka5.shape
  obtain ⟨da6, fa6, rfl⟩ := ka6.shape
  obtain ⟨da7, fa7, rfl⟩ := ka7.shape
  obtain ⟨da8, fa8, rfl⟩ := ka8.shape
  obtain ⟨da9, fa9, rfl⟩ := ka9.shape
  obtain ⟨-, -, -, -, vb5, vb6, vb7, vb8, vb9, rfl, kb5, kb6, kb7, kb8, kb9⟩ := hy
  obtain ⟨db5, fb5, rfl⟩ := kb5.shape
  obtain ⟨db6, fb6, rfl⟩ := kb6.shape
  obtain ⟨db7, fb7, rfl⟩ := kb7.shape
  obtain ⟨db8, fb8, rfl⟩ := kb8.shape
  obtain ⟨db9, fb9, rfl⟩ := kb9.shape
  obtain ⟨x_name, x_title, x_inn, x_text, x_room, x_words, x_adjs, x_flags, x_props, x_exits⟩ := x
  obtain ⟨y_name, y_title, y_inn, y_text, y_room, y_words, y_adjs, y_flags, y_props, y_exits⟩ := y
  simp only at ka5 kb5 ka6 kb6 ka7 kb7 ka8 kb8 ka9 kb9
  have hc5 := fun (W : World) (hW : Below w.heap.size w W) => rTexts_calls F W x_words y_words _ _ (hF.below hW) (RdL.below ka5 hF hW (Nat.le_refl _)) (RdL.below kb5 hF hW (Nat.le_refl _))
  have hc6 := fun (W : World) (hW : Below w.heap.size w W) => rTexts_calls F W x_adjs y_adjs _ _ (hF.below hW) (RdL.below ka6 hF hW (Nat.le_refl _)) (RdL.below kb6 hF hW (Nat.le_refl _))
  have hc7 := fun (W : World) (hW : Below w.heap.size w W) => rTexts_calls F W x_flags y_flags _ _ (hF.below hW) (RdL.below ka7 hF hW (Nat.le_refl _)) (RdL.below kb7 hF hW (Nat.le_refl _))
  have hc8 := fun (W : World) (hW : Below w.heap.size w W) => rPairs_calls F W x_props y_props _ _ (hF.below hW) (RdL.below ka8 hF hW (Nat.le_refl _)) (RdL.below kb8 hF hW (Nat.le_refl _))
  obtain ⟨W1, hW1⟩ : ∃ W1, w.alloc (.cells #[.string x_name, .string x_title, .string x_inn, .string x_text, .bool x_room, .slice da5 x_words.length fa5, .slice da6 x_adjs.length fa6, .slice da7 x_flags.length fa7, .slice da8 x_props.length fa8, .slice da9 x_exits.length fa9] 55) = W1 := ⟨_, rfl⟩
  have hs1 : W1.heap.size = w.heap.size + 1 := by rw [← hW1]; simp
  have hb1 : Below w.heap.size w W1 := by rw [← hW1]; exact (Below.refl _ _).alloc (Nat.le_refl _) _
  have hbx1 : BoxAt W1 w.heap.size [.string x_name, .string x_title, .string x_inn, .string x_text, .bool x_room, .slice da5 x_words.length fa5, .slice da6 x_adjs.length fa6, .slice da7 x_flags.length fa7, .slice da8 x_props.length fa8, .slice da9 x_exits.length fa9] := by rw [← hW1]; exact BoxAt.new _ _ _
  obtain ⟨W2, hW2⟩ : ∃ W2, W1.alloc (.cells #[.string y_name, .string y_title, .string y_inn, .string y_text, .bool y_room, .slice db5 y_words.length fb5, .slice db6 y_adjs.length fb6, .slice db7 y_flags.length fb7, .slice db8 y_props.length fb8, .slice db9 y_exits.length fb9] 55) = W2 := ⟨_, rfl⟩
  have hs2 : W2.heap.size = w.heap.size + 1 + 1 := by rw [← hW2]; simp; exact hs1
  have hb2 : Below W1.heap.size W1 W2 := by rw [← hW2]; exact (Below.refl _ _).alloc (Nat.le_refl _) _
  have hbx2 : BoxAt W2 W1.heap.size [.string y_name, .string y_title, .string y_inn, .string y_text, .bool y_room, .slice db5 y_words.length fb5, .slice db6 y_adjs.length fb6, .slice db7 y_flags.length fb7, .slice db8 y_props.length fb8, .slice db9 y_exits.length fb9] := by rw [← hW2]; exact BoxAt.new _ _ _
  rw [hs1] at hbx2
  have hE : Hid (∀ W, Below W2.heap.size W2 W → BoxAt W (w.heap.size) [.string x_name, .string x_title, .string x_inn, .string x_text, .bool x_room, .slice da5 x_words.length fa5, .slice da6 x_adjs.length fa6, .slice da7 x_flags.length fa7, .slice da8 x_props.length fa8, .slice da9 x_exits.length fa9] ∧ BoxAt W (w.heap.size + 1) [.string y_name, .string y_title, .string y_inn, .string y_text, .bool y_room, .slice db5 y_words.length fb5, .slice db6 y_adjs.length fb6, .slice db7 y_flags.length fb7, .slice db8 y_props.length fb8, .slice db9 y_exits.length fb9] ∧ Below w.heap.size w W) := fun W h3 => ⟨hbx1.below (bt hb2 h3) (by omega), hbx2.below h3 (by omega), (hb1.trans ((bt hb2 h3).mono hb1.size))⟩
  have HZ0 := Lib.hid hs2
  have HW1 := Lib.hid hW1
  have HW2 := Lib.hid hW2
  clear hW1 hs1 hb1 hbx1 hW2 hs2 hb2 hbx2
  by_cases h : x_name = y_name
  rotate_left
  · have hfin : Hid (same (⟨x_name, x_title, x_inn, x_text, x_room, x_words, x_adjs, x_flags, x_props, x_exits⟩ : ObjD) ⟨y_name, y_title, y_inn, y_text, y_room, y_words, y_adjs, y_flags, y_props, y_exits⟩ = false) := same_ne (fun e => h (by cases e; rfl))
    have e1 : (x_name.toList == y_name.toList) = false := strne h
    have e2 : (x_name.toList != y_name.toList) = true := by rw [bne, strne h]; rfl
    clear hc5 hc6 hc7 hc8 ka5 kb5 ka6 kb6 ka7 kb7 ka8 kb8 ka9 kb9 h hF
    go_enter Tryz.func56, Tryz.ntmps56
    go_upto_region 1 with fail
    rw [HW1.out, HW2.out]
    obtain ⟨hq1, hq2, hqt0⟩ := hE.out W2 (Below.refl _ _)
    have HB0 : Below W2.heap.size W2 W2 := Below.refl _ _
    have ga0 := hq1.2 0 (by simp)
    have gb0 := hq2.2 0 (by simp)
    simp only [cqz] at ga0 gb0
    go_wp2_with fail
    go_ret
    exact ⟨ret_bool hfin.out.symm, hqt0⟩
  subst h
  by_cases h : x_title = y_title
  rotate_left
  · have hfin : Hid (same (⟨x_name, x_title, x_inn, x_text, x_room, x_words, x_adjs, x_flags, x_props, x_exits⟩ : ObjD) ⟨x_name, y_title, y_inn, y_text, y_room, y_words, y_adjs, y_flags, y_props, y_exits⟩ = false) := same_ne (fun e => h (by cases e; rfl))
    have e1 : (x_title.toList == y_title.toList) = false := strne h
    have e2 : (x_title.toList != y_title.toList) = true := by rw [bne, strne h]; rfl
    clear hc5 hc6 hc7 hc8 ka5 kb5 ka6 kb6 ka7 kb7 ka8 kb8 ka9 kb9 h hF
    go_enter Tryz.func56, Tryz.ntmps56
    go_upto_region 1 with fail
    rw [HW1.out, HW2.out]
    obtain ⟨hq1, hq2, hqt0⟩ := hE.out W2 (Below.refl _ _)
    have HB0 : Below W2.heap.size W2 W2 := Below.refl _ _
    have ga0 := hq1.2 0 (by simp)
    have ga1 := hq1.2 1 (by simp)
    have gb0 := hq2.2 0 (by simp)
    have gb1 := hq2.2 1 (by simp)
    simp only [cqs, cqz] at ga0 ga1 gb0 gb1
    go_wp2_with fail
    go_ret
    exact ⟨ret_bool hfin.out.symm, hqt0⟩
  subst h
  by_cases h : x_inn = y_inn
  rotate_left
  · have hfin : Hid (same (⟨x_name, x_title, x_inn, x_text, x_room, x_words, x_adjs, x_flags, x_props, x_exits⟩ : ObjD) ⟨x_name, x_title, y_inn, y_text, y_room, y_words, y_adjs, y_flags, y_props, y_exits⟩ = false) := same_ne (fun e => h (by cases e; rfl))
    have e1 : (x_inn.toList == y_inn.toList) = false := strne h
    have e2 : (x_inn.toList != y_inn.toList) = true := by rw [bne, strne h]; rfl
    clear hc5 hc6 hc7 hc8 ka5 kb5 ka6 kb6 ka7 kb7 ka8 kb8 ka9 kb9 h hF
    go_enter Tryz.func56, Tryz.ntmps56
    go_upto_region 1 with fail
    rw [HW1.out, HW2.out]
    obtain ⟨hq1, hq2, hqt0⟩ := hE.out W2 (Below.refl _ _)
    have HB0 : Below W2.heap.size W2 W2 := Below.refl _ _
    have ga0 := hq1.2 0 (by simp)
    have ga1 := hq1.2 1 (by simp)
    have ga2 := hq1.2 2 (by simp)
    have gb0 := hq2.2 0 (by simp)
    have gb1 := hq2.2 1 (by simp)
    have gb2 := hq2.2 2 (by simp)
    simp only [cqs, cqz] at ga0 ga1 ga2 gb0 gb1 gb2
    go_wp2_with fail
    go_ret
    exact ⟨ret_bool hfin.out.symm, hqt0⟩
  subst h
  by_cases h : x_text = y_text
  rotate_left
  · have hfin : Hid (same (⟨x_name, x_title, x_inn, x_text, x_room, x_words, x_adjs, x_flags, x_props, x_exits⟩ : ObjD) ⟨x_name, x_title, x_inn, y_text, y_room, y_words, y_adjs, y_flags, y_props, y_exits⟩ = false) := same_ne (fun e => h (by cases e; rfl))
    have e1 : (x_text.toList == y_text.toList) = false := strne h
    have e2 : (x_text.toList != y_text.toList) = true := by rw [bne, strne h]; rfl
    clear hc5 hc6 hc7 hc8 ka5 kb5 ka6 kb6 ka7 kb7 ka8 kb8 ka9 kb9 h hF
    go_enter Tryz.func56, Tryz.ntmps56
    go_upto_region 1 with fail
    rw [HW1.out, HW2.out]
    obtain ⟨hq1, hq2, hqt0⟩ := hE.out W2 (Below.refl _ _)
    have HB0 : Below W2.heap.size W2 W2 := Below.refl _ _
    have ga0 := hq1.2 0 (by simp)
    have ga1 := hq1.2 1 (by simp)
    have ga2 := hq1.2 2 (by simp)
    have ga3 := hq1.2 3 (by simp)
    have gb0 := hq2.2 0 (by simp)
    have gb1 := hq2.2 1 (by simp)
    have gb2 := hq2.2 2 (by simp)
    have gb3 := hq2.2 3 (by simp)
    simp only [cqs, cqz] at ga0 ga1 ga2 ga3 gb0 gb1 gb2 gb3
    go_wp2_with fail
    go_ret
    exact ⟨ret_bool hfin.out.symm, hqt0⟩
  subst h
  by_cases h : x_room = y_room
  rotate_left
  · have hfin : Hid (same (⟨x_name, x_title, x_inn, x_text, x_room, x_words, x_adjs, x_flags, x_props, x_exits⟩ : ObjD) ⟨x_name, x_title, x_inn, x_text, y_room, y_words, y_adjs, y_flags, y_props, y_exits⟩ = false) := same_ne (fun e => h (by cases e; rfl))
    have e1 : (x_room == y_room) = false := by simpa using h
    have e2 : (x_room != y_room) = true := by simpa using h
    clear hc5 hc6 hc7 hc8 ka5 kb5 ka6 kb6 ka7 kb7 ka8 kb8 ka9 kb9 h hF
    go_enter Tryz.func56, Tryz.ntmps56
    go_upto_region 1 with fail
    rw [HW1.out, HW2.out]
    obtain ⟨hq1, hq2, hqt0⟩ := hE.out W2 (Below.refl _ _)
    have HB0 : Below W2.heap.size W2 W2 := Below.refl _ _
    have ga0 := hq1.2 0 (by simp)
    have ga1 := hq1.2 1 (by simp)
    have ga2 := hq1.2 2 (by simp)
    have ga3 := hq1.2 3 (by simp)
    have ga4 := hq1.2 4 (by simp)
    have gb0 := hq2.2 0 (by simp)
    have gb1 := hq2.2 1 (by simp)
    have gb2 := hq2.2 2 (by simp)
    have gb3 := hq2.2 3 (by simp)
    have gb4 := hq2.2 4 (by simp)
    simp only [cqs, cqz] at ga0 ga1 ga2 ga3 ga4 gb0 gb1 gb2 gb3 gb4
    go_wp2_with fail
    go_ret
    exact ⟨ret_bool hfin.out.symm, hqt0⟩
  subst h
  by_cases h : x_words = y_words
  rotate_left
  · have hfin : Hid (same (⟨x_name, x_title, x_inn, x_text, x_room, x_words, x_adjs, x_flags, x_props, x_exits⟩ : ObjD) ⟨x_name, x_title, x_inn, x_text, x_room, y_words, y_adjs, y_flags, y_props, y_exits⟩ = false) := same_ne (fun e => h (by cases e; rfl))
    simp only [same_ne h] at hc5
    have HC5 := Lib.hid hc5
    clear hc5 hc6 hc7 hc8 ka5 kb5 ka6 kb6 ka7 kb7 ka8 kb8 ka9 kb9 h hF
    go_enter Tryz.func56, Tryz.ntmps56
    go_upto_region 1 with fail
    rw [HW1.out, HW2.out]
    obtain ⟨hq1, hq2, hqt0⟩ := hE.out W2 (Below.refl _ _)
    have HB0 : Below W2.heap.size W2 W2 := Below.refl _ _
    have ga0 := hq1.2 0 (by simp)
    have ga1 := hq1.2 1 (by simp)
    have ga2 := hq1.2 2 (by simp)
    have ga3 := hq1.2 3 (by simp)
    have ga4 := hq1.2 4 (by simp)
    have ga5 := hq1.2 5 (by simp)
    have gb0 := hq2.2 0 (by simp)
    have gb1 := hq2.2 1 (by simp)
    have gb2 := hq2.2 2 (by simp)
    have gb3 := hq2.2 3 (by simp)
    have gb4 := hq2.2 4 (by simp)
    have gb5 := hq2.2 5 (by simp)
    simp only [cqs, cqz] at ga0 ga1 ga2 ga3 ga4 ga5 gb0 gb1 gb2 gb3 gb4 gb5
    go_wp2_with (go_at_call 53; (with_reducible refine (HC5.out W2 hqt0).mono ?_); rintro e1 w1 ⟨rfl, hb1⟩; have HB1 := bt HB0 hb1; obtain ⟨r1hq1, r1hq2, hqt1⟩ := hE.out w1 HB1)
    go_ret
    exact ⟨ret_bool hfin.out.symm, hqt1⟩
  subst h
  by_cases h : x_adjs = y_adjs
  rotate_left
  · have hfin : Hid (same (⟨x_name, x_title, x_inn, x_text, x_room, x_words, x_adjs, x_flags, x_props, x_exits⟩ : ObjD) ⟨x_name, x_title, x_inn, x_text, x_room, x_words, y_adjs, y_flags, y_props, y_exits⟩ = false) := same_ne (fun e => h (by cases e; rfl))
    simp only [same_self] at hc5
    have HC5 := Lib.hid hc5
    simp only [same_ne h] at hc6
    have HC6 := Lib.hid hc6
    clear hc5 hc6 hc7 hc8 ka5 kb5 ka6 kb6 ka7 kb7 ka8 kb8 ka9 kb9 h hF
    go_enter Tryz.func56, Tryz.ntmps56
    go_upto_region 1 with fail
    rw [HW1.out, HW2.out]
    obtain ⟨hq1, hq2, hqt0⟩ := hE.out W2 (Below.refl _ _)
    have HB0 : Below W2.heap.size W2 W2 := Below.refl _ _
    have ga0 := hq1.2 0 (by simp)
    have ga1 := hq1.2 1 (by simp)
    have ga2 := hq1.2 2 (by simp)
    have ga3 := hq1.2 3 (by simp)
    have ga4 := hq1.2 4 (by simp)
    have ga5 := hq1.2 5 (by simp)
    have ga6 := hq1.2 6 (by simp)
    have gb0 := hq2.2 0 (by simp)
    have gb1 := hq2.2 1 (by simp)
    have gb2 := hq2.2 2 (by simp)
    have gb3 := hq2.2 3 (by simp)
    have gb4 := hq2.2 4 (by simp)
    have gb5 := hq2.2 5 (by simp)
    have gb6 := hq2.2 6 (by simp)
    simp only [cqs, cqz] at ga0 ga1 ga2 ga3 ga4 ga5 ga6 gb0 gb1 gb2 gb3 gb4 gb5 gb6
    go_wp2_with (first | (go_at_call 53; (with_reducible refine (HC5.out W2 hqt0).mono ?_); rintro e1 w1 ⟨rfl, hb1⟩; have HB1 := bt HB0 hb1; obtain ⟨r1hq1, r1hq2, hqt1⟩ := hE.out w1 HB1; have g1_a6 := r1hq1.2 6 (by simp); have g1_b6 := r1hq2.2 6 (by simp); simp only [cqs, cqz] at g1_a6 g1_b6) | (go_at_call 53; (with_reducible refine (HC6.out w1 hqt1).mono ?_); rintro e2 w2 ⟨rfl, hb2⟩; have HB2 := bt HB1 hb2; obtain ⟨r2hq1, r2hq2, hqt2⟩ := hE.out w2 HB2))
    go_ret
    exact ⟨ret_bool hfin.out.symm, hqt2⟩
  subst h
  by_cases h : x_flags = y_flags
  rotate_left
  · have hfin : Hid (same (⟨x_name, x_title, x_inn, x_text, x_room, x_words, x_adjs, x_flags, x_props, x_exits⟩ : ObjD) ⟨x_name, x_title, x_inn, x_text, x_room, x_words, x_adjs, y_flags, y_props, y_exits⟩ = false) := same_ne (fun e => h (by cases e; rfl))
    simp only [same_self] at hc5
    have HC5 := Lib.hid hc5
    simp only [same_self] at hc6
    have HC6 := Lib.hid hc6
    simp only [same_ne h] at hc7
    have HC7 := Lib.hid hc7
    clear hc5 hc6 hc7 hc8 ka5 kb5 ka6 kb6 ka7 kb7 ka8 kb8 ka9 kb9 h hF
    go_enter Tryz.func56, Tryz.ntmps56
    go_upto_region 1 with fail
    rw [HW1.out, HW2.out]
    obtain ⟨hq1, hq2, hqt0⟩ := hE.out W2 (Below.refl _ _)
    have HB0 : Below W2.heap.size W2 W2 := Below.refl _ _
    have ga0 := hq1.2 0 (by simp)
    have ga1 := hq1.2 1 (by simp)
    have ga2 := hq1.2 2 (by simp)
    have ga3 := hq1.2 3 (by simp)
    have ga4 := hq1.2 4 (by simp)
    have ga5 := hq1.2 5 (by simp)
    have ga6 := hq1.2 6 (by simp)
    have ga7 := hq1.2 7 (by simp)
    have gb0 := hq2.2 0 (by simp)
    have gb1 := hq2.2 1 (by simp)
    have gb2 := hq2.2 2 (by simp)
    have gb3 := hq2.2 3 (by simp)
    have gb4 := hq2.2 4 (by simp)
    have gb5 := hq2.2 5 (by simp)
    have gb6 := hq2.2 6 (by simp)
    have gb7 := hq2.2 7 (by simp)
    simp only [cqs, cqz] at ga0 ga1 ga2 ga3 ga4 ga5 ga6 ga7 gb0 gb1 gb2 gb3 gb4 gb5 gb6 gb7
    go_wp2_with (first | (go_at_call 53; (with_reducible refine (HC5.out W2 hqt0).mono ?_); rintro e1 w1 ⟨rfl, hb1⟩; have HB1 := bt HB0 hb1; obtain ⟨r1hq1, r1hq2, hqt1⟩ := hE.out w1 HB1; have g1_a6 := r1hq1.2 6 (by simp); have g1_a7 := r1hq1.2 7 (by simp); have g1_b6 := r1hq2.2 6 (by simp); have g1_b7 := r1hq2.2 7 (by simp); simp only [cqs, cqz] at g1_a6 g1_a7 g1_b6 g1_b7) | (go_at_call 53; (with_reducible refine (HC6.out w1 hqt1).mono ?_); rintro e2 w2 ⟨rfl, hb2⟩; have HB2 := bt HB1 hb2; obtain ⟨r2hq1, r2hq2, hqt2⟩ := hE.out w2 HB2; have g2_a7 := r2hq1.2 7 (by simp); have g2_b7 := r2hq2.2 7 (by simp); simp only [cqs, cqz] at g2_a7 g2_b7) | (go_at_call 53; (with_reducible refine (HC7.out w2 hqt2).mono ?_); rintro e3 w3 ⟨rfl, hb3⟩; have HB3 := bt HB2 hb3; obtain ⟨r3hq1, r3hq2, hqt3⟩ := hE.out w3 HB3))
    go_ret
    exact ⟨ret_bool hfin.out.symm, hqt3⟩
  subst h
  by_cases h : x_props = y_props
  rotate_left
  · have hfin : Hid (same (⟨x_name, x_title, x_inn, x_text, x_room, x_words, x_adjs, x_flags, x_props, x_exits⟩ : ObjD) ⟨x_name, x_title, x_inn, x_text, x_room, x_words, x_adjs, x_flags, y_props, y_exits⟩ = false) := same_ne (fun e => h (by cases e; rfl))
    simp only [same_self] at hc5
    have HC5 := Lib.hid hc5
    simp only [same_self] at hc6
    have HC6 := Lib.hid hc6
    simp only [same_self] at hc7
    have HC7 := Lib.hid hc7
    simp only [same_ne h] at hc8
    have HC8 := Lib.hid hc8
    clear hc5 hc6 hc7 hc8 ka5 kb5 ka6 kb6 ka7 kb7 ka8 kb8 ka9 kb9 h hF
    go_enter Tryz.func56, Tryz.ntmps56
    go_upto_region 1 with fail
    rw [HW1.out, HW2.out]
    obtain ⟨hq1, hq2, hqt0⟩ := hE.out W2 (Below.refl _ _)
    have HB0 : Below W2.heap.size W2 W2 := Below.refl _ _
    have ga0 := hq1.2 0 (by simp)
    have ga1 := hq1.2 1 (by simp)
    have ga2 := hq1.2 2 (by simp)
    have ga3 := hq1.2 3 (by simp)
    have ga4 := hq1.2 4 (by simp)
    have ga5 := hq1.2 5 (by simp)
    have ga6 := hq1.2 6 (by simp)
    have ga7 := hq1.2 7 (by simp)
    have ga8 := hq1.2 8 (by simp)
    have gb0 := hq2.2 0 (by simp)
    have gb1 := hq2.2 1 (by simp)
    have gb2 := hq2.2 2 (by simp)
    have gb3 := hq2.2 3 (by simp)
    have gb4 := hq2.2 4 (by simp)
    have gb5 := hq2.2 5 (by simp)
    have gb6 := hq2.2 6 (by simp)
    have gb7 := hq2.2 7 (by simp)
    have gb8 := hq2.2 8 (by simp)
    simp only [cqs, cqz] at ga0 ga1 ga2 ga3 ga4 ga5 ga6 ga7 ga8 gb0 gb1 gb2 gb3 gb4 gb5 gb6 gb7 gb8
    go_wp2_with (first | (go_at_call 53; (with_reducible refine (HC5.out W2 hqt0).mono ?_); rintro e1 w1 ⟨rfl, hb1⟩; have HB1 := bt HB0 hb1; obtain ⟨r1hq1, r1hq2, hqt1⟩ := hE.out w1 HB1; have g1_a6 := r1hq1.2 6 (by simp); have g1_a7 := r1hq1.2 7 (by simp); have g1_a8 := r1hq1.2 8 (by simp); have g1_b6 := r1hq2.2 6 (by simp); have g1_b7 := r1hq2.2 7 (by simp); have g1_b8 := r1hq2.2 8 (by simp); simp only [cqs, cqz] at g1_a6 g1_a7 g1_a8 g1_b6 g1_b7 g1_b8) | (go_at_call 53; (with_reducible refine (HC6.out w1 hqt1).mono ?_); rintro e2 w2 ⟨rfl, hb2⟩; have HB2 := bt HB1 hb2; obtain ⟨r2hq1, r2hq2, hqt2⟩ := hE.out w2 HB2; have g2_a7 := r2hq1.2 7 (by simp); have g2_a8 := r2hq1.2 8 (by simp); have g2_b7 := r2hq2.2 7 (by simp); have g2_b8 := r2hq2.2 8 (by simp); simp only [cqs, cqz] at g2_a7 g2_a8 g2_b7 g2_b8) | (go_at_call 53; (with_reducible refine (HC7.out w2 hqt2).mono ?_); rintro e3 w3 ⟨rfl, hb3⟩; have HB3 := bt HB2 hb3; obtain ⟨r3hq1, r3hq2, hqt3⟩ := hE.out w3 HB3; have g3_a8 := r3hq1.2 8 (by simp); have g3_b8 := r3hq2.2 8 (by simp); simp only [cqs, cqz] at g3_a8 g3_b8) | (go_at_call 54; (with_reducible refine (HC8.out w3 hqt3).mono ?_); rintro e4 w4 ⟨rfl, hb4⟩; have HB4 := bt HB3 hb4; obtain ⟨r4hq1, r4hq2, hqt4⟩ := hE.out w4 HB4))
    go_ret
    exact ⟨ret_bool hfin.out.symm, hqt4⟩
  subst h
  by_cases h : x_exits.length = y_exits.length
  rotate_left
  · have hfin : Hid (same (⟨x_name, x_title, x_inn, x_text, x_room, x_words, x_adjs, x_flags, x_props, x_exits⟩ : ObjD) ⟨x_name, x_title, x_inn, x_text, x_room, x_words, x_adjs, x_flags, x_props, y_exits⟩ = false) := same_ne (fun e => h (by cases e; rfl))
    have e1 : ((x_exits.length : Int) != (y_exits.length : Int)) = true := by simp; omega
    simp only [same_self] at hc5
    have HC5 := Lib.hid hc5
    simp only [same_self] at hc6
    have HC6 := Lib.hid hc6
    simp only [same_self] at hc7
    have HC7 := Lib.hid hc7
    simp only [same_self] at hc8
    have HC8 := Lib.hid hc8
    clear hc5 hc6 hc7 hc8 ka5 kb5 ka6 kb6 ka7 kb7 ka8 kb8 ka9 kb9 h hF
    go_enter Tryz.func56, Tryz.ntmps56
    go_upto_region 1 with fail
    rw [HW1.out, HW2.out]
    obtain ⟨hq1, hq2, hqt0⟩ := hE.out W2 (Below.refl _ _)
    have HB0 : Below W2.heap.size W2 W2 := Below.refl _ _
    have ga0 := hq1.2 0 (by simp)
    have ga1 := hq1.2 1 (by simp)
    have ga2 := hq1.2 2 (by simp)
    have ga3 := hq1.2 3 (by simp)
    have ga4 := hq1.2 4 (by simp)
    have ga5 := hq1.2 5 (by simp)
    have ga6 := hq1.2 6 (by simp)
    have ga7 := hq1.2 7 (by simp)
    have ga8 := hq1.2 8 (by simp)
    have ga9 := hq1.2 9 (by simp)
    have gb0 := hq2.2 0 (by simp)
    have gb1 := hq2.2 1 (by simp)
    have gb2 := hq2.2 2 (by simp)
    have gb3 := hq2.2 3 (by simp)
    have gb4 := hq2.2 4 (by simp)
    have gb5 := hq2.2 5 (by simp)
    have gb6 := hq2.2 6 (by simp)
    have gb7 := hq2.2 7 (by simp)
    have gb8 := hq2.2 8 (by simp)
    have gb9 := hq2.2 9 (by simp)
    simp only [cqs, cqz] at ga0 ga1 ga2 ga3 ga4 ga5 ga6 ga7 ga8 ga9 gb0 gb1 gb2 gb3 gb4 gb5 gb6 gb7 gb8 gb9
    go_wp2_with (first | (go_at_call 53; (with_reducible refine (HC5.out W2 hqt0).mono ?_); rintro e1 w1 ⟨rfl, hb1⟩; have HB1 := bt HB0 hb1; obtain ⟨r1hq1, r1hq2, hqt1⟩ := hE.out w1 HB1; have g1_a6 := r1hq1.2 6 (by simp); have g1_a7 := r1hq1.2 7 (by simp); have g1_a8 := r1hq1.2 8 (by simp); have g1_a9 := r1hq1.2 9 (by simp); have g1_b6 := r1hq2.2 6 (by simp); have g1_b7 := r1hq2.2 7 (by simp); have g1_b8 := r1hq2.2 8 (by simp); have g1_b9 := r1hq2.2 9 (by simp); simp only [cqs, cqz] at g1_a6 g1_a7 g1_a8 g1_a9 g1_b6 g1_b7 g1_b8 g1_b9) | (go_at_call 53; (with_reducible refine (HC6.out w1 hqt1).mono ?_); rintro e2 w2 ⟨rfl, hb2⟩; have HB2 := bt HB1 hb2; obtain ⟨r2hq1, r2hq2, hqt2⟩ := hE.out w2 HB2; have g2_a7 := r2hq1.2 7 (by simp); have g2_a8 := r2hq1.2 8 (by simp); have g2_a9 := r2hq1.2 9 (by simp); have g2_b7 := r2hq2.2 7 (by simp); have g2_b8 := r2hq2.2 8 (by simp); have g2_b9 := r2hq2.2 9 (by simp); simp only [cqs, cqz] at g2_a7 g2_a8 g2_a9 g2_b7 g2_b8 g2_b9) | (go_at_call 53; (with_reducible refine (HC7.out w2 hqt2).mono ?_); rintro e3 w3 ⟨rfl, hb3⟩; have HB3 := bt HB2 hb3; obtain ⟨r3hq1, r3hq2, hqt3⟩ := hE.out w3 HB3; have g3_a8 := r3hq1.2 8 (by simp); have g3_a9 := r3hq1.2 9 (by simp); have g3_b8 := r3hq2.2 8 (by simp); have g3_b9 := r3hq2.2 9 (by simp); simp only [cqs, cqz] at g3_a8 g3_a9 g3_b8 g3_b9) | (go_at_call 54; (with_reducible refine (HC8.out w3 hqt3).mono ?_); rintro e4 w4 ⟨rfl, hb4⟩; have HB4 := bt HB3 hb4; obtain ⟨r4hq1, r4hq2, hqt4⟩ := hE.out w4 HB4; have g4_a9 := r4hq1.2 9 (by simp); have g4_b9 := r4hq2.2 9 (by simp); simp only [cqs, cqz] at g4_a9 g4_b9))
    go_ret
    exact ⟨ret_bool hfin.out.symm, hqt4⟩
  have HL9 := Lib.hid h
  have n9 : ((x_exits.length : Int) != (y_exits.length : Int)) = false := by simp [h]
  clear h
  simp only [same_self] at hc5
  have HC5 := Lib.hid hc5
  simp only [same_self] at hc6
  have HC6 := Lib.hid hc6
  simp only [same_self] at hc7
  have HC7 := Lib.hid hc7
  simp only [same_self] at hc8
  have HC8 := Lib.hid hc8
  have KA5 := Lib.hid ka5
  have KB5 := Lib.hid kb5
  have KA6 := Lib.hid ka6
  have KB6 := Lib.hid kb6
  have KA7 := Lib.hid ka7
  have KB7 := Lib.hid kb7
  have KA8 := Lib.hid ka8
  have KB8 := Lib.hid kb8
  have KA9 := Lib.hid ka9
  have KB9 := Lib.hid kb9
  have HF := Lib.hid hF
  clear hc5 hc6 hc7 hc8 ka5 kb5 ka6 kb6 ka7 kb7 ka8 kb8 ka9 kb9 hF
  go_enter Tryz.func56, Tryz.ntmps56
  go_upto_region 1 with fail
  rw [HW1.out, HW2.out]
  obtain ⟨hq1, hq2, hqt0⟩ := hE.out W2 (Below.refl _ _)
  have HB0 : Below W2.heap.size W2 W2 := Below.refl _ _
  have ga0 := hq1.2 0 (by simp)
  have ga1 := hq1.2 1 (by simp)
  have ga2 := hq1.2 2 (by simp)
  have ga3 := hq1.2 3 (by simp)
  have ga4 := hq1.2 4 (by simp)
  have ga5 := hq1.2 5 (by simp)
  have ga6 := hq1.2 6 (by simp)
  have ga7 := hq1.2 7 (by simp)
  have ga8 := hq1.2 8 (by simp)
  have ga9 := hq1.2 9 (by simp)
  have gb0 := hq2.2 0 (by simp)
  have gb1 := hq2.2 1 (by simp)
  have gb2 := hq2.2 2 (by simp)
  have gb3 := hq2.2 3 (by simp)
  have gb4 := hq2.2 4 (by simp)
  have gb5 := hq2.2 5 (by simp)
  have gb6 := hq2.2 6 (by simp)
  have gb7 := hq2.2 7 (by simp)
  have gb8 := hq2.2 8 (by simp)
  have gb9 := hq2.2 9 (by simp)
  simp only [cqs, cqz] at ga0 ga1 ga2 ga3 ga4 ga5 ga6 ga7 ga8 ga9 gb0 gb1 gb2 gb3 gb4 gb5 gb6 gb7 gb8 gb9
  go_upto_block 0 with (first | (go_at_call 53; (with_reducible refine (HC5.out W2 hqt0).mono ?_); rintro e1 w1 ⟨rfl, hb1⟩; have HB1 := bt HB0 hb1; obtain ⟨r1hq1, r1hq2, hqt1⟩ := hE.out w1 HB1; have g1_a6 := r1hq1.2 6 (by simp); have g1_a7 := r1hq1.2 7 (by simp); have g1_a8 := r1hq1.2 8 (by simp); have g1_a9 := r1hq1.2 9 (by simp); have g1_b6 := r1hq2.2 6 (by simp); have g1_b7 := r1hq2.2 7 (by simp); have g1_b8 := r1hq2.2 8 (by simp); have g1_b9 := r1hq2.2 9 (by simp); simp only [cqs, cqz] at g1_a6 g1_a7 g1_a8 g1_a9 g1_b6 g1_b7 g1_b8 g1_b9) | (go_at_call 53; (with_reducible refine (HC6.out w1 hqt1).mono ?_); rintro e2 w2 ⟨rfl, hb2⟩; have HB2 := bt HB1 hb2; obtain ⟨r2hq1, r2hq2, hqt2⟩ := hE.out w2 HB2; have g2_a7 := r2hq1.2 7 (by simp); have g2_a8 := r2hq1.2 8 (by simp); have g2_a9 := r2hq1.2 9 (by simp); have g2_b7 := r2hq2.2 7 (by simp); have g2_b8 := r2hq2.2 8 (by simp); have g2_b9 := r2hq2.2 9 (by simp); simp only [cqs, cqz] at g2_a7 g2_a8 g2_a9 g2_b7 g2_b8 g2_b9) | (go_at_call 53; (with_reducible refine (HC7.out w2 hqt2).mono ?_); rintro e3 w3 ⟨rfl, hb3⟩; have HB3 := bt HB2 hb3; obtain ⟨r3hq1, r3hq2, hqt3⟩ := hE.out w3 HB3; have g3_a8 := r3hq1.2 8 (by simp); have g3_a9 := r3hq1.2 9 (by simp); have g3_b8 := r3hq2.2 8 (by simp); have g3_b9 := r3hq2.2 9 (by simp); simp only [cqs, cqz] at g3_a8 g3_a9 g3_b8 g3_b9) | (go_at_call 54; (with_reducible refine (HC8.out w3 hqt3).mono ?_); rintro e4 w4 ⟨rfl, hb4⟩; have HB4 := bt HB3 hb4; obtain ⟨r4hq1, r4hq2, hqt4⟩ := hE.out w4 HB4; have g4_a9 := r4hq1.2 9 (by simp); have g4_b9 := r4hq2.2 9 (by simp); simp only [cqs, cqz] at g4_a9 g4_b9))
  obtain ⟨_, _, he, hl9, hc9, h9⟩ := (KA9.out).opn
  cases he
  obtain ⟨_, _, he, hl9b, hc9b, h9b⟩ := (KB9.out).opn
  cases he
  unfold maxLen at hc9 hc9b
  have hfin1 : Hid (x_exits.take x_exits.length = y_exits.take x_exits.length → same (⟨x_name, x_title, x_inn, x_text, x_room, x_words, x_adjs, x_flags, x_props, x_exits⟩ : ObjD) ⟨x_name, x_title, x_inn, x_text, x_room, x_words, x_adjs, x_flags, x_props, y_exits⟩ = true) := fun h => same_eq (by rw [List.take_length, HL9.out, List.take_length] at h; rw [h])
  go_wp2_with fail
  go_loopw [5] (fun i wr => ∃ k : Nat, k ≤ x_exits.length ∧ i = .int .i64 k ∧ Hid (x_exits.take k = y_exits.take k) ∧ Below W2.heap.size W2 wr) (fun i _ => x_exits.length - (intOf i).toNat)
  case atStart => exact ⟨0, Nat.zero_le _, rfl, by show _ = _; rw [List.take_zero, List.take_zero], HB4⟩
  case round =>
    obtain ⟨k, hk, rfl, hq, hB⟩ := hrel
    obtain ⟨hq1, hq2, hqt⟩ := hE.out wr hB
    have u9 := hq1.2 9 (by simp)
    have v9 := hq2.2 9 (by simp)
    simp only [cqs, cqz] at u9 v9
    by_cases hlt : k < x_exits.length
    · have hlt2 : k < y_exits.length := by have := HL9.out; omega
      obtain ⟨b, off, rfl, hFb, hel⟩ := h9 (by omega)
      obtain ⟨b2, off2, rfl, hFb2, hel2⟩ := h9b (by omega)
      obtain ⟨cs, hx, -, hcell⟩ := hel wr (hqt.block b (HF.out b hFb)) k hlt
      obtain ⟨ds, hy, -, hdell⟩ := hel2 wr (hqt.block b2 (HF.out b2 hFb2)) k hlt2
      obtain ⟨x, hxe⟩ : ∃ x, x_exits[k] = x := ⟨_, rfl⟩
      obtain ⟨y, hye⟩ : ∃ y, y_exits[k] = y := ⟨_, rfl⟩
      rw [hxe] at hx
      rw [hye] at hy
      have hnx : Hid (x = y → x_exits.take (k + 1) = y_exits.take (k + 1)) := fun h => take_same hq.out hlt hlt2 (by rw [hxe, hye, h])
      have hno : Hid (x ≠ y → same (⟨x_name, x_title, x_inn, x_text, x_room, x_words, x_adjs, x_flags, x_props, x_exits⟩ : ObjD) ⟨x_name, x_title, x_inn, x_text, x_room, x_words, x_adjs, x_flags, x_props, y_exits⟩ = false) := fun h => same_ne (fun e => h (by cases e; rw [← hxe, ← hye]))
      have hx2 := hx
      have hy2 := hy
      obtain ⟨-, -, -, va3, rfl, ka3⟩ := hx2
      obtain ⟨da3, fa3, rfl⟩ := ka3.shape
      obtain ⟨-, -, -, vb3, rfl, kb3⟩ := hy2
      obtain ⟨db3, fb3, rfl⟩ := kb3.shape
      have g0 := hcell 0 _ rfl
      have h0 := hdell 0 _ rfl
      have g1 := hcell 1 _ rfl
      have h1 := hdell 1 _ rfl
      have g2 := hcell 2 _ rfl
      have h2 := hdell 2 _ rfl
      have g3 := hcell 3 _ rfl
      have h3 := hdell 3 _ rfl
      simp only [Nat.add_zero] at g0 h0
      have hki : (k : Int) < (x_exits.length : Int) := by omega
      have hki2 : (k : Int) < (y_exits.length : Int) := by omega
      have hki0 : (0 : Int) ≤ (k : Int) := by omega
      have HB := Lib.hid hB
      have HQT := Lib.hid hqt
      clear hel hel2 hcell hdell hB hq1 hq2 hqt h9 h9b hq hxe hye hx hy
      go_upto_region 6 with fail
      obtain ⟨wo, rfl⟩ : ∃ x : World, x = wr := ⟨_, rfl⟩
      go_cut [6, 7] (fun p q wc => Hid (∃ b1 b2, p = .pointer (some ⟨b1, 0, none⟩) ∧ q = .pointer (some ⟨b2, 0, none⟩) ∧ BoxAt wc b1 [.int .i64 x.dir, .string x.to, .string x.els, .slice da3 x.cond.length fa3] ∧ BoxAt wc b2 [.int .i64 y.dir, .string y.to, .string y.els, .slice db3 y.cond.length fb3] ∧ Below wo.heap.size wo wc))
      case first =>
        refine wp_region_held_drew (S := fun W => Below wo.heap.size wo W) (by kernel_rfl) (Below.refl _ _).drew (fun hHeld => ?_)
        refine wpAnyH_take (i := 0) (v := .pointer (some ⟨w.heap.size, 9, none⟩)) rfl (by kernel_rfl) (by kernel_rfl) (by kernel_rfl) (fun _ _ _ h => h) (Or.inl ⟨by rfl, ?_⟩) (by assumption) ?_
        · intro W hW
          go_simp
        simp only [Act.put]
        refine wpAnyH_take (i := 1) (v := .slice (some ⟨b, off, none⟩) x_exits.length fa9) rfl (by kernel_rfl) (by kernel_rfl) (by kernel_rfl) (fun _ _ _ h => h) (Or.inl ⟨by rfl, ?_⟩) (by assumption) ?_
        · intro W hW
          have hq := (hE.out W (bt HB.out hW)).1
          have u := hq.2 9 (by simp)
          simp only [cqs, cqz] at u
          go_simp
        simp only [Act.put]
        refine wpAnyH_take (i := 2) (v := .int .i64 k) rfl (by kernel_rfl) (by kernel_rfl) (by kernel_rfl) (fun _ _ _ h => h) (Or.inl ⟨by rfl, ?_⟩) (by assumption) ?_
        · intro W hW
          go_simp
        simp only [Act.put]
        refine wpAnyH_take (i := 3) (v := .pointer (some ⟨b, off + k * 4, none⟩)) rfl (by kernel_rfl) (by kernel_rfl) (by kernel_rfl) (fun _ _ _ h => h) (Or.inl ⟨by rfl, ?_⟩) (by assumption) ?_
        · intro W hW
          go_simp
        simp only [Act.put]
        refine wpAnyH_take (i := 4) (v := .agg #[.int .i64 x.dir, .string x.to, .string x.els, .slice da3 x.cond.length fa3]) rfl (by kernel_rfl) (by kernel_rfl) (by kernel_rfl) (fun _ _ _ h => h) (Or.inl ⟨by rfl, ?_⟩) (by assumption) ?_
        · intro W hW
          have y0 := (hW.cell (World.block_lt_of_cell? _ _ g0)).trans g0
          have y1 := (hW.cell (World.block_lt_of_cell? _ _ g1)).trans g1
          have y2 := (hW.cell (World.block_lt_of_cell? _ _ g2)).trans g2
          have y3 := (hW.cell (World.block_lt_of_cell? _ _ g3)).trans g3
          go_simp
        simp only [Act.put]
        refine wpAnyH_take (i := 5) (v := .pointer (some ⟨w.heap.size + 1, 9, none⟩)) rfl (by kernel_rfl) (by kernel_rfl) (by kernel_rfl) (fun _ _ _ h => h) (Or.inl ⟨by rfl, ?_⟩) (by assumption) ?_
        · intro W hW
          go_simp
        simp only [Act.put]
        refine wpAnyH_take (i := 6) (v := .slice (some ⟨b2, off2, none⟩) y_exits.length fb9) rfl (by kernel_rfl) (by kernel_rfl) (by kernel_rfl) (fun _ _ _ h => h) (Or.inl ⟨by rfl, ?_⟩) (by assumption) ?_
        · intro W hW
          have hq := (hE.out W (bt HB.out hW)).2.1
          have u := hq.2 9 (by simp)
          simp only [cqs, cqz] at u
          go_simp
        simp only [Act.put]
        refine wpAnyH_take (i := 7) (v := .int .i64 k) rfl (by kernel_rfl) (by kernel_rfl) (by kernel_rfl) (fun _ _ _ h => h) (Or.inl ⟨by rfl, ?_⟩) (by assumption) ?_
        · intro W hW
          go_simp
        simp only [Act.put]
        refine wpAnyH_take (i := 8) (v := .pointer (some ⟨b2, off2 + k * 4, none⟩)) rfl (by kernel_rfl) (by kernel_rfl) (by kernel_rfl) (fun _ _ _ h => h) (Or.inl ⟨by rfl, ?_⟩) (by assumption) ?_
        · intro W hW
          go_simp
        simp only [Act.put]
        refine wpAnyH_take (i := 9) (v := .agg #[.int .i64 y.dir, .string y.to, .string y.els, .slice db3 y.cond.length fb3]) rfl (by kernel_rfl) (by kernel_rfl) (by kernel_rfl) (fun _ _ _ h => h) (Or.inl ⟨by rfl, ?_⟩) (by assumption) ?_
        · intro W hW
          have y0 := (hW.cell (World.block_lt_of_cell? _ _ h0)).trans h0
          have y1 := (hW.cell (World.block_lt_of_cell? _ _ h1)).trans h1
          have y2 := (hW.cell (World.block_lt_of_cell? _ _ h2)).trans h2
          have y3 := (hW.cell (World.block_lt_of_cell? _ _ h3)).trans h3
          go_simp
        simp only [Act.put]
        refine wpAnyH_ready (rs := [10, 11]) (by kernel_rfl) (by simp) ?_
        refine AllReadyH.cons rfl (fun K hK => ?_) (AllReadyH.cons rfl (fun K hK => ?_) AllReadyH.nil)
        · go_simp
          refine hK.out _ _ (hHeld.alloc hHeld.size _) (fun hHeld => ?_)
          clear hK K
          refine wpAnyH_ready (rs := [11]) (by kernel_rfl) (by simp) ?_
          refine AllReadyH.cons rfl (fun K hK => ?_) AllReadyH.nil
          go_simp
          refine hK.out _ _ (hHeld.alloc hHeld.size _) (fun hHeld => ?_)
          clear hK K
          refine wpAnyH_ready (rs := [12]) (by kernel_rfl) (by simp) ?_
          refine AllReadyH.cons rfl (fun K hK => ?_) AllReadyH.nil
          go_simp
          refine hK.out _ _ ((((Below.refl _ wo).alloc (Nat.le_refl _) _).alloc (by simp) _).drew) (fun hHeld => ?_)
          clear hK K
          refine wpAnyH_ready (rs := [13]) (by kernel_rfl) (by simp) ?_
          refine AllReadyH.cons rfl (fun K hK => ?_) AllReadyH.nil
          go_simp
          refine hK.out _ _ ((((Below.refl _ wo).alloc (Nat.le_refl _) _).alloc (by simp) _).drew) (fun hHeld => ?_)
          clear hK K
          refine wpAnyH_done (by kernel_rfl) ?_ _
          go_wp2_with fail
          go_meet
          exact ⟨_, _, rfl, rfl, (two_boxes wo _ _ _ _).1, (two_boxes wo _ _ _ _).2, hHeld⟩
        · go_simp
          refine hK.out _ _ (hHeld.alloc hHeld.size _) (fun hHeld => ?_)
          clear hK K
          refine wpAnyH_ready (rs := [10]) (by kernel_rfl) (by simp) ?_
          refine AllReadyH.cons rfl (fun K hK => ?_) AllReadyH.nil
          go_simp
          refine hK.out _ _ (hHeld.alloc hHeld.size _) (fun hHeld => ?_)
          clear hK K
          refine wpAnyH_ready (rs := [12]) (by kernel_rfl) (by simp) ?_
          refine AllReadyH.cons rfl (fun K hK => ?_) AllReadyH.nil
          go_simp
          refine hK.out _ _ ((((Below.refl _ wo).alloc (Nat.le_refl _) _).alloc (by simp) _).drew) (fun hHeld => ?_)
          clear hK K
          refine wpAnyH_ready (rs := [13]) (by kernel_rfl) (by simp) ?_
          refine AllReadyH.cons rfl (fun K hK => ?_) AllReadyH.nil
          go_simp
          refine hK.out _ _ ((((Below.refl _ wo).alloc (Nat.le_refl _) _).alloc (by simp) _).drew) (fun hHeld => ?_)
          clear hK K
          refine wpAnyH_done (by kernel_rfl) ?_ _
          go_wp2_with fail
          go_meet
          exact ⟨_, _, rfl, rfl, (two_boxes wo _ _ _ _).2, (two_boxes wo _ _ _ _).1, hHeld⟩
      case rest =>
        obtain ⟨b1, b2, rfl, rfl, hbx, hby, hbw⟩ := hcut.out
        have y0 := hbx.2 0 (by simp)
        have y1 := hbx.2 1 (by simp)
        have y2 := hbx.2 2 (by simp)
        have y3 := hbx.2 3 (by simp)
        have z0 := hby.2 0 (by simp)
        have z1 := hby.2 1 (by simp)
        have z2 := hby.2 2 (by simp)
        have z3 := hby.2 3 (by simp)
        simp only [cqs, cqz] at y0 y1 y2 y3 z0 z1 z2 z3
        have hc := fun (W : World) (hW : Below wo.heap.size wo W) => rWhen_calls F W x.cond y.cond _ _ (HF.out.below (bt HQT.out hW)) (exs_rdl (Exs.below ka3 HF.out (bt HQT.out hW) (Nat.le_refl _))) (exs_rdl (Exs.below kb3 HF.out (bt HQT.out hW) (Nat.le_refl _)))
        have HBW := Lib.hid hbw
        clear hbw hcut hbx hby ka3 kb3 g0 h0 g1 h1 g2 h2 g3 h3 u9 v9
        by_cases h0 : x.dir = y.dir
        rotate_left
        · have hfin := Lib.hid (hno.out (fun e => h0 (by rw [e])))
          have e0 : (x.dir != y.dir) = true := by simpa using h0
          clear h0
          clear hc hno hnx
          go_wp2_with fail
          go_ret
          exact ⟨ret_bool hfin.out.symm, (hE.out _ (bt HB.out HBW.out)).2.2⟩
        have e0 : (x.dir != y.dir) = false := by simpa using h0
        by_cases h1 : x.to = y.to
        rotate_left
        · have hfin := Lib.hid (hno.out (fun e => h1 (by rw [e])))
          have e1 : (x.to.toList != y.to.toList) = true := by rw [bne, strne h1]; rfl
          have f1 : (x.to.toList == y.to.toList) = false := strne h1
          clear h1
          clear h0
          clear hc hno hnx
          go_wp2_with fail
          go_ret
          exact ⟨ret_bool hfin.out.symm, (hE.out _ (bt HB.out HBW.out)).2.2⟩
        have e1 : (x.to.toList != y.to.toList) = false := by rw [h1]; simp
        have f1 : (x.to.toList == y.to.toList) = true := by rw [h1]; simp
        by_cases h2 : x.els = y.els
        rotate_left
        · have hfin := Lib.hid (hno.out (fun e => h2 (by rw [e])))
          have e2 : (x.els.toList != y.els.toList) = true := by rw [bne, strne h2]; rfl
          have f2 : (x.els.toList == y.els.toList) = false := strne h2
          clear h2
          clear h0
          clear h1
          clear hc hno hnx
          go_wp2_with fail
          go_ret
          exact ⟨ret_bool hfin.out.symm, (hE.out _ (bt HB.out HBW.out)).2.2⟩
        have e2 : (x.els.toList != y.els.toList) = false := by rw [h2]; simp
        have f2 : (x.els.toList == y.els.toList) = true := by rw [h2]; simp
        by_cases h3 : x.cond = y.cond
        rotate_left
        · have hfin := Lib.hid (hno.out (fun e => h3 (by rw [e])))
          clear h0
          clear h1
          clear h2
          simp only [same_ne h3] at hc
          have HC := Lib.hid hc
          clear h3
          clear hc hno hnx
          go_wp2_with (go_at_call 58; (with_reducible refine (HC.out _ HBW.out).mono ?_); rintro e w3 ⟨rfl, hb3⟩)
          go_ret
          exact ⟨ret_bool hfin.out.symm, (hE.out _ (HB.out.trans ((bt HBW.out hb3).mono HB.out.size))).2.2⟩
        have hnx2 := Lib.hid (hnx.out (by cases x; cases y; simp only at h0 h1 h2 h3; rw [h0, h1, h2, h3]))
        clear h0 h1 h2
        simp only [same_eq h3] at hc
        have HC := Lib.hid hc
        clear h3
        clear hc hno hnx
        go_wp2_with (go_at_call 58; (with_reducible refine (HC.out _ HBW.out).mono ?_); rintro e w3 ⟨rfl, hb3⟩)
        go_roundw
        case rel => exact ⟨k + 1, by omega, by go_num, hnx2.out, HB.out.trans ((bt HBW.out hb3).mono HB.out.size)⟩
        case measure => simp [intOf]; omega
    · have : k = x_exits.length := by omega
      subst this
      have hfin := Lib.hid (hfin1.out hq.out)
      have hki : decide ((x_exits.length : Int) < (x_exits.length : Int)) = false := by simp
      clear hq hfin1 h9 h9b
      go_wp2
      go_ret
      exact ⟨ret_bool hfin.out.symm, hqt⟩
end Go.Proofs.YtmabeegoapcfpaaGreatDoor
