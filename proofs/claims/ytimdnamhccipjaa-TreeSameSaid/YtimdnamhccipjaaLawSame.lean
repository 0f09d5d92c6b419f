/- The walk of clewlaw10.TreeSame: it returns true. (Printed by gen-lawsame.py.) -/
import Derived.Test.YtimdnamhccipjaaLawSizes
import Derived.Test.YtimdnamhccipjaaSameBR
namespace Go.Proofs.Ytimdnamhccipjaa
open Go.RowKit Go.Sort

set_option maxRecDepth 100000 in
set_option maxHeartbeats 4000000 in
theorem treeSame_calls (a b : Ex) (l m : List St) (F : Nat → Prop) (w : World) (cs ds : List Value) (v v2 : Value) (hF : Inn F w) (hm : MX w) (ha : RdEx F w a cs) (hb2 : RdEx F w b ds) (hl : Sts F w l v) (hm2 : Sts F w m v2) :
    Calls Try.prog 11 #[.agg cs.toArray, .agg ds.toArray, v, v2] w (Gives w (.bool true)) := by
  obtain ⟨k1, o1, n1, s1, a1, m1, cap1, rfl⟩ := ha.shape
  obtain ⟨k2, o2, n2, s2, a2, m2, cap2, rfl⟩ := hb2.shape
  obtain ⟨a3, cap3, rfl⟩ := hl.shape
  obtain ⟨a4, cap4, rfl⟩ := hm2.shape
  have hW : ∀ o o2, Below w.heap.size w ((w.alloc o).alloc o2) := fun o o2 => ((Below.refl _ _).alloc (Nat.le_refl _) o).alloc (by simp) o2
  have HA := Lib.hid (awake_below hm)
  have HF1 : Hid (∀ w', Below w.heap.size w w' → Calls Try.prog 30 #[.agg #[.int .i64 k1, .int .i64 o1, .int .i64 n1, .string s1, .slice a1 m1 cap1], .int .i64 400] w' (Gives w' (.int .i64 (a.few 400)))) := Lib.hid (fun w' hb => few_calls a F w' _ 400 (hF.below hb) (by omega) (by omega) (ha.below hF hb (Nat.le_refl _)))
  have HF2 : Hid (∀ w', Below w.heap.size w w' → Calls Try.prog 30 #[.agg #[.int .i64 k2, .int .i64 o2, .int .i64 n2, .string s2, .slice a2 m2 cap2], .int .i64 400] w' (Gives w' (.int .i64 (b.few 400)))) := Lib.hid (fun w' hb => few_calls b F w' _ 400 (hF.below hb) (by omega) (by omega) (hb2.below hF hb (Nat.le_refl _)))
  have HG1 : Hid (∀ w', Below w.heap.size w w' → Calls Try.prog 34 #[.slice a3 l.length cap3, .int .i64 400] w' (Gives w' (.int .i64 (St.fews l 400)))) := Lib.hid (fun w' hb => fewB_calls l F w' _ 400 (hF.below hb) (by omega) (by omega) (hl.below hF hb (Nat.le_refl _)))
  have HG2 : Hid (∀ w', Below w.heap.size w w' → Calls Try.prog 34 #[.slice a4 m.length cap4, .int .i64 400] w' (Gives w' (.int .i64 (St.fews m 400)))) := Lib.hid (fun w' hb => fewB_calls m F w' _ 400 (hF.below hb) (by omega) (by omega) (hm2.below hF hb (Nat.le_refl _)))
  have HT : Hid (∀ w', Below w.heap.size w w' → Calls Try.prog 19 #[.agg #[.int .i64 k1, .int .i64 o1, .int .i64 n1, .string s1, .slice a1 m1 cap1], .agg #[.int .i64 k2, .int .i64 o2, .int .i64 n2, .string s2, .slice a2 m2 cap2]] w' (Gives w' (.bool (same a b)))) := Lib.hid (fun w' hb => sameT_calls a b F w' _ _ (hF.below hb) (ha.below hF hb (Nat.le_refl _)) (hb2.below hF hb (Nat.le_refl _)))
  have HTa : Hid (∀ w', Below w.heap.size w w' → Calls Try.prog 19 #[.agg #[.int .i64 k1, .int .i64 o1, .int .i64 n1, .string s1, .slice a1 m1 cap1], .agg #[.int .i64 k1, .int .i64 o1, .int .i64 n1, .string s1, .slice a1 m1 cap1]] w' (Gives w' (.bool true))) := Lib.hid (fun w' hb => by have := sameT_calls a a F w' _ _ (hF.below hb) (ha.below hF hb (Nat.le_refl _)) (ha.below hF hb (Nat.le_refl _)); rwa [same_self] at this)
  have HR : Hid (∀ w', Below w.heap.size w w' → Calls Try.prog 44 #[.agg #[.int .i64 k1, .int .i64 o1, .int .i64 n1, .string s1, .slice a1 m1 cap1], .agg #[.int .i64 k2, .int .i64 o2, .int .i64 n2, .string s2, .slice a2 m2 cap2]] w' (Gives w' (.bool (same a b)))) := Lib.hid (fun w' hb => sameR_calls a b F w' _ _ (hF.below hb) (ha.below hF hb (Nat.le_refl _)) (hb2.below hF hb (Nat.le_refl _)))
  have HB2 : Hid (∀ w', Below w.heap.size w w' → Calls Try.prog 22 #[.slice a3 l.length cap3, .slice a4 m.length cap4] w' (Gives w' (.bool (same l m)))) := Lib.hid (fun w' hb => sameBT_calls l m F w' _ _ (hF.below hb) (hl.below hF hb (Nat.le_refl _)) (hm2.below hF hb (Nat.le_refl _)))
  have HBl : Hid (∀ w', Below w.heap.size w w' → Calls Try.prog 22 #[.slice a3 l.length cap3, .slice a3 l.length cap3] w' (Gives w' (.bool true))) := Lib.hid (fun w' hb => by have := sameBT_calls l l F w' _ _ (hF.below hb) (hl.below hF hb (Nat.le_refl _)) (hl.below hF hb (Nat.le_refl _)); rwa [same_self] at this)
  have HRB : Hid (∀ w', Below w.heap.size w w' → Calls Try.prog 45 #[.slice a3 l.length cap3, .slice a4 m.length cap4] w' (Gives w' (.bool (same l m)))) := Lib.hid (fun w' hb => sameBR_calls l m F w' _ _ (hF.below hb) (hl.below hF hb (Nat.le_refl _)) (hm2.below hF hb (Nat.le_refl _)))
  have HS1 : Hid (a.size ≤ 1000000 → ∀ w', Below w.heap.size w w' → Calls Try.prog 28 #[.agg #[.int .i64 k1, .int .i64 o1, .int .i64 n1, .string s1, .slice a1 m1 cap1]] w' (Gives w' (.int .i64 a.size))) := Lib.hid (fun hs w' hb => sizeT_calls a F w' _ (hF.below hb) hs (ha.below hF hb (Nat.le_refl _)))
  have HS2 : Hid (b.size ≤ 1000000 → ∀ w', Below w.heap.size w w' → Calls Try.prog 28 #[.agg #[.int .i64 k2, .int .i64 o2, .int .i64 n2, .string s2, .slice a2 m2 cap2]] w' (Gives w' (.int .i64 b.size))) := Lib.hid (fun hs w' hb => sizeT_calls b F w' _ (hF.below hb) hs (hb2.below hF hb (Nat.le_refl _)))
  have HZ1 : Hid (St.sizes l ≤ 1000000 → ∀ w', Below w.heap.size w w' → Calls Try.prog 29 #[.slice a3 l.length cap3] w' (Gives w' (.int .i64 (St.sizes l)))) := Lib.hid (fun hs w' hb => sizeBT_calls l F w' _ (hF.below hb) hs (hl.below hF hb (Nat.le_refl _)))
  have HZ2 : Hid (St.sizes m ≤ 1000000 → ∀ w', Below w.heap.size w w' → Calls Try.prog 29 #[.slice a4 m.length cap4] w' (Gives w' (.int .i64 (St.sizes m)))) := Lib.hid (fun hs w' hb => sizeBT_calls m F w' _ (hF.below hb) hs (hm2.below hF hb (Nat.le_refl _)))
  have HD1 : Hid (∀ w', Below w.heap.size w w' → Calls Try.prog 39 #[.agg #[.int .i64 k1, .int .i64 o1, .int .i64 n1, .string s1, .slice a1 m1 cap1]] w' (Gives w' (.int .i64 (min a.depth 65 : Nat)))) := Lib.hid (fun w' hb => depthT_calls a F w' _ (hF.below hb) (ha.below hF hb (Nat.le_refl _)))
  have HD2 : Hid (∀ w', Below w.heap.size w w' → Calls Try.prog 39 #[.agg #[.int .i64 k2, .int .i64 o2, .int .i64 n2, .string s2, .slice a2 m2 cap2]] w' (Gives w' (.int .i64 (min b.depth 65 : Nat)))) := Lib.hid (fun w' hb => depthT_calls b F w' _ (hF.below hb) (hb2.below hF hb (Nat.le_refl _)))
  have HE1 : Hid (∀ w', Below w.heap.size w w' → Calls Try.prog 42 #[.slice a3 l.length cap3] w' (Gives w' (.int .i64 (min (St.depths l) 65 : Nat)))) := Lib.hid (fun w' hb => depthBT_calls l F w' _ (hF.below hb) (hl.below hF hb (Nat.le_refl _)))
  have HE2 : Hid (∀ w', Below w.heap.size w w' → Calls Try.prog 42 #[.slice a4 m.length cap4] w' (Gives w' (.int .i64 (min (St.depths m) 65 : Nat)))) := Lib.hid (fun w' hb => depthBT_calls m F w' _ (hF.below hb) (hm2.below hF hb (Nat.le_refl _)))
  have q1 := (Ex.few_size a 400 (by omega)).2
  have q2 := (Ex.few_size b 400 (by omega)).2
  have q3 := (St.fews_total l 400 (by omega)).2
  have q4 := (St.fews_total m 400 (by omega)).2
  have q5 := St.sizes_le_totals l
  have q6 := St.sizes_le_totals m
  have r1 := (Ex.few_size a 400 (by omega)).1
  have r2 := (Ex.few_size b 400 (by omega)).1
  have r3 := (St.fews_total l 400 (by omega)).1
  have r4 := (St.fews_total m 400 (by omega)).1
  have e1 : same a b = true → b.size = a.size ∧ min b.depth 65 = min a.depth 65 := fun h => by rw [same_iff.1 h]; exact ⟨rfl, rfl⟩
  have e2 : same l m = true → St.sizes m = St.sizes l ∧ min (St.depths m) 65 = min (St.depths l) 65 := fun h => by rw [same_iff.1 h]; exact ⟨rfl, rfl⟩
  clear ha hb2 hl hm2 hF hm
  generalize Ex.few a 400 = x1 at *
  generalize Ex.few b 400 = x2 at *
  generalize St.fews l 400 = x3 at *
  generalize St.fews m 400 = x4 at *
  generalize same a b = t1 at *
  generalize same l m = t2 at *
  generalize a.size = c1 at *
  generalize b.size = c2 at *
  generalize min a.depth 65 = d1 at *
  generalize min b.depth 65 = d2 at *
  generalize St.sizes l = c3 at *
  generalize St.sizes m = c4 at *
  generalize min (St.depths l) 65 = d3 at *
  generalize min (St.depths m) 65 = d4 at *
  generalize St.totals l = tt3 at *
  generalize St.totals m = tt4 at *
  generalize l.length = len3 at *
  generalize m.length = len4 at *
  by_cases h1 : x1 < 0
  · have g1 : decide (x1 < 0) = true := by simp [h1]
    clear q1 q2 q3 q4 q5 q6 r1 r2 r3 r4 e1 e2 HS1 HS2 HZ1 HZ2 HD1 HD2 HE1 HE2 HT HTa HR HB2 HBl HRB
    go_enter Try.func11, Try.ntmps11
    go_wp2_with (first | (go_at_call 30; (with_reducible refine (HF1.out _ (hW _ _)).mono ?_); rintro e wc ⟨rfl, hb⟩; have hB : Below w.heap.size w wc := below_on (hW _ _) (Nat.le_refl _) hb; obtain ⟨hcl, hfz⟩ := bcell hb; obtain ⟨z1, z2⟩ := two_new' hb; have u1_0 : wc.cell? ⟨w.heap.size, 0, none⟩ = some (.int .i64 k1) := (by go_simp); have u1_1 : wc.cell? ⟨w.heap.size, 1, none⟩ = some (.int .i64 o1) := (by go_simp); have u1_2 : wc.cell? ⟨w.heap.size, 2, none⟩ = some (.int .i64 n1) := (by go_simp); have u1_3 : wc.cell? ⟨w.heap.size, 3, none⟩ = some (.string s1) := (by go_simp); have u1_4 : wc.cell? ⟨w.heap.size, 4, none⟩ = some (.slice a1 m1 cap1) := (by go_simp); have u2_0 : wc.cell? ⟨w.heap.size + 1, 0, none⟩ = some (.int .i64 k2) := (by go_simp); have u2_1 : wc.cell? ⟨w.heap.size + 1, 1, none⟩ = some (.int .i64 o2) := (by go_simp); have u2_2 : wc.cell? ⟨w.heap.size + 1, 2, none⟩ = some (.int .i64 n2) := (by go_simp); have u2_3 : wc.cell? ⟨w.heap.size + 1, 3, none⟩ = some (.string s2) := (by go_simp); have u2_4 : wc.cell? ⟨w.heap.size + 1, 4, none⟩ = some (.slice a2 m2 cap2) := (by go_simp); clear hcl hfz hb; have hw2 : Below wc.heap.size wc wc := Below.refl _ _) | (go_at_call 31; (first | ((with_reducible refine (HA.out _ (below_on hB (Nat.le_refl _) (by assumption))).mono ?_); rintro e w' ⟨rfl, hb⟩; have hbo : Below wc.heap.size wc w' := below_on (by assumption) (Nat.le_refl _) hb; obtain ⟨hcl, hfz⟩ := bcell hbo; have y1 := Nat.lt_of_lt_of_le z1 hbo.size; have y2 := Nat.lt_of_lt_of_le z2 hbo.size; clear hfz))))
    go_ret
    exact ⟨rfl, below_on hB (Nat.le_refl _) hbo⟩
  have g1 : decide (x1 < 0) = false := by simp [h1]
  by_cases h2 : x2 < 0
  · have g2 : decide (x2 < 0) = true := by simp [h2]
    clear q1 q2 q3 q4 q5 q6 r1 r2 r3 r4 e1 e2 HS1 HS2 HZ1 HZ2 HD1 HD2 HE1 HE2 HT HTa HR HB2 HBl HRB
    go_enter Try.func11, Try.ntmps11
    go_wp2_with (first | (go_at_call 30; (with_reducible refine (HF1.out _ (hW _ _)).mono ?_); rintro e wc ⟨rfl, hb⟩; have hB : Below w.heap.size w wc := below_on (hW _ _) (Nat.le_refl _) hb; obtain ⟨hcl, hfz⟩ := bcell hb; obtain ⟨z1, z2⟩ := two_new' hb; have u1_0 : wc.cell? ⟨w.heap.size, 0, none⟩ = some (.int .i64 k1) := (by go_simp); have u1_1 : wc.cell? ⟨w.heap.size, 1, none⟩ = some (.int .i64 o1) := (by go_simp); have u1_2 : wc.cell? ⟨w.heap.size, 2, none⟩ = some (.int .i64 n1) := (by go_simp); have u1_3 : wc.cell? ⟨w.heap.size, 3, none⟩ = some (.string s1) := (by go_simp); have u1_4 : wc.cell? ⟨w.heap.size, 4, none⟩ = some (.slice a1 m1 cap1) := (by go_simp); have u2_0 : wc.cell? ⟨w.heap.size + 1, 0, none⟩ = some (.int .i64 k2) := (by go_simp); have u2_1 : wc.cell? ⟨w.heap.size + 1, 1, none⟩ = some (.int .i64 o2) := (by go_simp); have u2_2 : wc.cell? ⟨w.heap.size + 1, 2, none⟩ = some (.int .i64 n2) := (by go_simp); have u2_3 : wc.cell? ⟨w.heap.size + 1, 3, none⟩ = some (.string s2) := (by go_simp); have u2_4 : wc.cell? ⟨w.heap.size + 1, 4, none⟩ = some (.slice a2 m2 cap2) := (by go_simp); clear hcl hfz hb; have hw2 : Below wc.heap.size wc wc := Below.refl _ _) | (go_at_call 30; (first | ((with_reducible refine (HF2.out _ (below_on hB (Nat.le_refl _) (by assumption))).mono ?_); rintro e w' ⟨rfl, hb⟩; have hbo : Below wc.heap.size wc w' := below_on (by assumption) (Nat.le_refl _) hb; obtain ⟨hcl, hfz⟩ := bcell hbo; have y1 := Nat.lt_of_lt_of_le z1 hbo.size; have y2 := Nat.lt_of_lt_of_le z2 hbo.size; clear hfz))) | (go_at_call 31; (first | ((with_reducible refine (HA.out _ (below_on hB (Nat.le_refl _) (by assumption))).mono ?_); rintro e w' ⟨rfl, hb⟩; have hbo : Below wc.heap.size wc w' := below_on (by assumption) (Nat.le_refl _) hb; obtain ⟨hcl, hfz⟩ := bcell hbo; have y1 := Nat.lt_of_lt_of_le z1 hbo.size; have y2 := Nat.lt_of_lt_of_le z2 hbo.size; clear hfz))))
    go_ret
    exact ⟨rfl, below_on hB (Nat.le_refl _) hbo⟩
  have g2 : decide (x2 < 0) = false := by simp [h2]
  by_cases h3 : x3 < 0
  · have g3 : decide (x3 < 0) = true := by simp [h3]
    clear q1 q2 q3 q4 q5 q6 r1 r2 r3 r4 e1 e2 HS1 HS2 HZ1 HZ2 HD1 HD2 HE1 HE2 HT HTa HR HB2 HBl HRB
    go_enter Try.func11, Try.ntmps11
    go_wp2_with (first | (go_at_call 30; (with_reducible refine (HF1.out _ (hW _ _)).mono ?_); rintro e wc ⟨rfl, hb⟩; have hB : Below w.heap.size w wc := below_on (hW _ _) (Nat.le_refl _) hb; obtain ⟨hcl, hfz⟩ := bcell hb; obtain ⟨z1, z2⟩ := two_new' hb; have u1_0 : wc.cell? ⟨w.heap.size, 0, none⟩ = some (.int .i64 k1) := (by go_simp); have u1_1 : wc.cell? ⟨w.heap.size, 1, none⟩ = some (.int .i64 o1) := (by go_simp); have u1_2 : wc.cell? ⟨w.heap.size, 2, none⟩ = some (.int .i64 n1) := (by go_simp); have u1_3 : wc.cell? ⟨w.heap.size, 3, none⟩ = some (.string s1) := (by go_simp); have u1_4 : wc.cell? ⟨w.heap.size, 4, none⟩ = some (.slice a1 m1 cap1) := (by go_simp); have u2_0 : wc.cell? ⟨w.heap.size + 1, 0, none⟩ = some (.int .i64 k2) := (by go_simp); have u2_1 : wc.cell? ⟨w.heap.size + 1, 1, none⟩ = some (.int .i64 o2) := (by go_simp); have u2_2 : wc.cell? ⟨w.heap.size + 1, 2, none⟩ = some (.int .i64 n2) := (by go_simp); have u2_3 : wc.cell? ⟨w.heap.size + 1, 3, none⟩ = some (.string s2) := (by go_simp); have u2_4 : wc.cell? ⟨w.heap.size + 1, 4, none⟩ = some (.slice a2 m2 cap2) := (by go_simp); clear hcl hfz hb; have hw2 : Below wc.heap.size wc wc := Below.refl _ _) | (go_at_call 30; (first | ((with_reducible refine (HF2.out _ (below_on hB (Nat.le_refl _) (by assumption))).mono ?_); rintro e w' ⟨rfl, hb⟩; have hbo : Below wc.heap.size wc w' := below_on (by assumption) (Nat.le_refl _) hb; obtain ⟨hcl, hfz⟩ := bcell hbo; have y1 := Nat.lt_of_lt_of_le z1 hbo.size; have y2 := Nat.lt_of_lt_of_le z2 hbo.size; clear hfz))) | (go_at_call 34; (first | ((with_reducible refine (HG1.out _ (below_on hB (Nat.le_refl _) (by assumption))).mono ?_); rintro e w' ⟨rfl, hb⟩; have hbo : Below wc.heap.size wc w' := below_on (by assumption) (Nat.le_refl _) hb; obtain ⟨hcl, hfz⟩ := bcell hbo; have y1 := Nat.lt_of_lt_of_le z1 hbo.size; have y2 := Nat.lt_of_lt_of_le z2 hbo.size; clear hfz))) | (go_at_call 31; (first | ((with_reducible refine (HA.out _ (below_on hB (Nat.le_refl _) (by assumption))).mono ?_); rintro e w' ⟨rfl, hb⟩; have hbo : Below wc.heap.size wc w' := below_on (by assumption) (Nat.le_refl _) hb; obtain ⟨hcl, hfz⟩ := bcell hbo; have y1 := Nat.lt_of_lt_of_le z1 hbo.size; have y2 := Nat.lt_of_lt_of_le z2 hbo.size; clear hfz))))
    go_ret
    exact ⟨rfl, below_on hB (Nat.le_refl _) hbo⟩
  have g3 : decide (x3 < 0) = false := by simp [h3]
  by_cases h4 : x4 < 0
  · have g4 : decide (x4 < 0) = true := by simp [h4]
    clear q1 q2 q3 q4 q5 q6 r1 r2 r3 r4 e1 e2 HS1 HS2 HZ1 HZ2 HD1 HD2 HE1 HE2 HT HTa HR HB2 HBl HRB
    go_enter Try.func11, Try.ntmps11
    go_wp2_with (first | (go_at_call 30; (with_reducible refine (HF1.out _ (hW _ _)).mono ?_); rintro e wc ⟨rfl, hb⟩; have hB : Below w.heap.size w wc := below_on (hW _ _) (Nat.le_refl _) hb; obtain ⟨hcl, hfz⟩ := bcell hb; obtain ⟨z1, z2⟩ := two_new' hb; have u1_0 : wc.cell? ⟨w.heap.size, 0, none⟩ = some (.int .i64 k1) := (by go_simp); have u1_1 : wc.cell? ⟨w.heap.size, 1, none⟩ = some (.int .i64 o1) := (by go_simp); have u1_2 : wc.cell? ⟨w.heap.size, 2, none⟩ = some (.int .i64 n1) := (by go_simp); have u1_3 : wc.cell? ⟨w.heap.size, 3, none⟩ = some (.string s1) := (by go_simp); have u1_4 : wc.cell? ⟨w.heap.size, 4, none⟩ = some (.slice a1 m1 cap1) := (by go_simp); have u2_0 : wc.cell? ⟨w.heap.size + 1, 0, none⟩ = some (.int .i64 k2) := (by go_simp); have u2_1 : wc.cell? ⟨w.heap.size + 1, 1, none⟩ = some (.int .i64 o2) := (by go_simp); have u2_2 : wc.cell? ⟨w.heap.size + 1, 2, none⟩ = some (.int .i64 n2) := (by go_simp); have u2_3 : wc.cell? ⟨w.heap.size + 1, 3, none⟩ = some (.string s2) := (by go_simp); have u2_4 : wc.cell? ⟨w.heap.size + 1, 4, none⟩ = some (.slice a2 m2 cap2) := (by go_simp); clear hcl hfz hb; have hw2 : Below wc.heap.size wc wc := Below.refl _ _) | (go_at_call 30; (first | ((with_reducible refine (HF2.out _ (below_on hB (Nat.le_refl _) (by assumption))).mono ?_); rintro e w' ⟨rfl, hb⟩; have hbo : Below wc.heap.size wc w' := below_on (by assumption) (Nat.le_refl _) hb; obtain ⟨hcl, hfz⟩ := bcell hbo; have y1 := Nat.lt_of_lt_of_le z1 hbo.size; have y2 := Nat.lt_of_lt_of_le z2 hbo.size; clear hfz))) | (go_at_call 34; (first | ((with_reducible refine (HG1.out _ (below_on hB (Nat.le_refl _) (by assumption))).mono ?_); rintro e w' ⟨rfl, hb⟩; have hbo : Below wc.heap.size wc w' := below_on (by assumption) (Nat.le_refl _) hb; obtain ⟨hcl, hfz⟩ := bcell hbo; have y1 := Nat.lt_of_lt_of_le z1 hbo.size; have y2 := Nat.lt_of_lt_of_le z2 hbo.size; clear hfz) | ((with_reducible refine (HG2.out _ (below_on hB (Nat.le_refl _) (by assumption))).mono ?_); rintro e w' ⟨rfl, hb⟩; have hbo : Below wc.heap.size wc w' := below_on (by assumption) (Nat.le_refl _) hb; obtain ⟨hcl, hfz⟩ := bcell hbo; have y1 := Nat.lt_of_lt_of_le z1 hbo.size; have y2 := Nat.lt_of_lt_of_le z2 hbo.size; clear hfz))) | (go_at_call 31; (first | ((with_reducible refine (HA.out _ (below_on hB (Nat.le_refl _) (by assumption))).mono ?_); rintro e w' ⟨rfl, hb⟩; have hbo : Below wc.heap.size wc w' := below_on (by assumption) (Nat.le_refl _) hb; obtain ⟨hcl, hfz⟩ := bcell hbo; have y1 := Nat.lt_of_lt_of_le z1 hbo.size; have y2 := Nat.lt_of_lt_of_le z2 hbo.size; clear hfz))))
    go_ret
    exact ⟨rfl, below_on hB (Nat.le_refl _) hbo⟩
  have g4 : decide (x4 < 0) = false := by simp [h4]
  have HS1 := Lib.hid (HS1.out (by have := q1 (by omega); omega))
  have HS2 := Lib.hid (HS2.out (by have := q2 (by omega); omega))
  have HZ1 := Lib.hid (HZ1.out (by have := q3 (by omega); omega))
  have HZ2 := Lib.hid (HZ2.out (by have := q4 (by omega); omega))
  clear q1 q2 q3 q4 q5 q6
  have ht1 : t1 = true ∨ t1 = false := by cases t1 <;> simp
  have ht2 : t2 = true ∨ t2 = false := by cases t2 <;> simp
  rcases ht1 with rfl | rfl <;> rcases ht2 with rfl | rfl
  case inl.inl =>
    obtain ⟨rfl, rfl⟩ := e1 rfl
    obtain ⟨rfl, rfl⟩ := e2 rfl
    clear e1 e2 h1 h2 h3 h4
    go_enter Try.func11, Try.ntmps11
    go_upto_region 6 with (first | (go_at_call 30; (with_reducible refine (HF1.out _ (hW _ _)).mono ?_); rintro e wc ⟨rfl, hb⟩; have hB : Below w.heap.size w wc := below_on (hW _ _) (Nat.le_refl _) hb; obtain ⟨hcl, hfz⟩ := bcell hb; obtain ⟨z1, z2⟩ := two_new' hb; have u1_0 : wc.cell? ⟨w.heap.size, 0, none⟩ = some (.int .i64 k1) := (by go_simp); have u1_1 : wc.cell? ⟨w.heap.size, 1, none⟩ = some (.int .i64 o1) := (by go_simp); have u1_2 : wc.cell? ⟨w.heap.size, 2, none⟩ = some (.int .i64 n1) := (by go_simp); have u1_3 : wc.cell? ⟨w.heap.size, 3, none⟩ = some (.string s1) := (by go_simp); have u1_4 : wc.cell? ⟨w.heap.size, 4, none⟩ = some (.slice a1 m1 cap1) := (by go_simp); have u2_0 : wc.cell? ⟨w.heap.size + 1, 0, none⟩ = some (.int .i64 k2) := (by go_simp); have u2_1 : wc.cell? ⟨w.heap.size + 1, 1, none⟩ = some (.int .i64 o2) := (by go_simp); have u2_2 : wc.cell? ⟨w.heap.size + 1, 2, none⟩ = some (.int .i64 n2) := (by go_simp); have u2_3 : wc.cell? ⟨w.heap.size + 1, 3, none⟩ = some (.string s2) := (by go_simp); have u2_4 : wc.cell? ⟨w.heap.size + 1, 4, none⟩ = some (.slice a2 m2 cap2) := (by go_simp); clear hcl hfz hb; have hw2 : Below wc.heap.size wc wc := Below.refl _ _) | (go_at_call 30; (first | ((with_reducible refine (HF2.out _ (below_on hB (Nat.le_refl _) (by assumption))).mono ?_); rintro e w' ⟨rfl, hb⟩; have hbo : Below wc.heap.size wc w' := below_on (by assumption) (Nat.le_refl _) hb; obtain ⟨hcl, hfz⟩ := bcell hbo; have y1 := Nat.lt_of_lt_of_le z1 hbo.size; have y2 := Nat.lt_of_lt_of_le z2 hbo.size; clear hfz))) | (go_at_call 34; (first | ((with_reducible refine (HG1.out _ (below_on hB (Nat.le_refl _) (by assumption))).mono ?_); rintro e w' ⟨rfl, hb⟩; have hbo : Below wc.heap.size wc w' := below_on (by assumption) (Nat.le_refl _) hb; obtain ⟨hcl, hfz⟩ := bcell hbo; have y1 := Nat.lt_of_lt_of_le z1 hbo.size; have y2 := Nat.lt_of_lt_of_le z2 hbo.size; clear hfz) | ((with_reducible refine (HG2.out _ (below_on hB (Nat.le_refl _) (by assumption))).mono ?_); rintro e w' ⟨rfl, hb⟩; have hbo : Below wc.heap.size wc w' := below_on (by assumption) (Nat.le_refl _) hb; obtain ⟨hcl, hfz⟩ := bcell hbo; have y1 := Nat.lt_of_lt_of_le z1 hbo.size; have y2 := Nat.lt_of_lt_of_le z2 hbo.size; clear hfz))) | (go_at_call 19; (first | ((with_reducible refine (HT.out _ (below_on hB (Nat.le_refl _) (by assumption))).mono ?_); rintro e w' ⟨rfl, hb⟩; have hbo : Below wc.heap.size wc w' := below_on (by assumption) (Nat.le_refl _) hb; obtain ⟨hcl, hfz⟩ := bcell hbo; have y1 := Nat.lt_of_lt_of_le z1 hbo.size; have y2 := Nat.lt_of_lt_of_le z2 hbo.size; clear hfz) | ((with_reducible refine (HTa.out _ (below_on hB (Nat.le_refl _) (by assumption))).mono ?_); rintro e w' ⟨rfl, hb⟩; have hbo : Below wc.heap.size wc w' := below_on (by assumption) (Nat.le_refl _) hb; obtain ⟨hcl, hfz⟩ := bcell hbo; have y1 := Nat.lt_of_lt_of_le z1 hbo.size; have y2 := Nat.lt_of_lt_of_le z2 hbo.size; clear hfz))) | (go_at_call 22; (first | ((with_reducible refine (HB2.out _ (below_on hB (Nat.le_refl _) (by assumption))).mono ?_); rintro e w' ⟨rfl, hb⟩; have hbo : Below wc.heap.size wc w' := below_on (by assumption) (Nat.le_refl _) hb; obtain ⟨hcl, hfz⟩ := bcell hbo; have y1 := Nat.lt_of_lt_of_le z1 hbo.size; have y2 := Nat.lt_of_lt_of_le z2 hbo.size; clear hfz) | ((with_reducible refine (HBl.out _ (below_on hB (Nat.le_refl _) (by assumption))).mono ?_); rintro e w' ⟨rfl, hb⟩; have hbo : Below wc.heap.size wc w' := below_on (by assumption) (Nat.le_refl _) hb; obtain ⟨hcl, hfz⟩ := bcell hbo; have y1 := Nat.lt_of_lt_of_le z1 hbo.size; have y2 := Nat.lt_of_lt_of_le z2 hbo.size; clear hfz))) | (go_at_call 44; (first | ((with_reducible refine (HR.out _ (below_on hB (Nat.le_refl _) (by assumption))).mono ?_); rintro e w' ⟨rfl, hb⟩; have hbo : Below wc.heap.size wc w' := below_on (by assumption) (Nat.le_refl _) hb; obtain ⟨hcl, hfz⟩ := bcell hbo; have y1 := Nat.lt_of_lt_of_le z1 hbo.size; have y2 := Nat.lt_of_lt_of_le z2 hbo.size; clear hfz))) | (go_at_call 45; (first | ((with_reducible refine (HRB.out _ (below_on hB (Nat.le_refl _) (by assumption))).mono ?_); rintro e w' ⟨rfl, hb⟩; have hbo : Below wc.heap.size wc w' := below_on (by assumption) (Nat.le_refl _) hb; obtain ⟨hcl, hfz⟩ := bcell hbo; have y1 := Nat.lt_of_lt_of_le z1 hbo.size; have y2 := Nat.lt_of_lt_of_le z2 hbo.size; clear hfz))))
    have hbp : Below w.heap.size w w' := below_on hB (Nat.le_refl _) hbo
    have p1_0 : w'.cell? ⟨w.heap.size, 0, none⟩ = some (.int .i64 k1) := (hbo.cell (p := ⟨w.heap.size, 0, none⟩) z1).trans u1_0
    have q1_0 := fun d os => cell_regrown p1_0 d os
    have p1_1 : w'.cell? ⟨w.heap.size, 1, none⟩ = some (.int .i64 o1) := (hbo.cell (p := ⟨w.heap.size, 1, none⟩) z1).trans u1_1
    have q1_1 := fun d os => cell_regrown p1_1 d os
    have p1_2 : w'.cell? ⟨w.heap.size, 2, none⟩ = some (.int .i64 n1) := (hbo.cell (p := ⟨w.heap.size, 2, none⟩) z1).trans u1_2
    have q1_2 := fun d os => cell_regrown p1_2 d os
    have p1_3 : w'.cell? ⟨w.heap.size, 3, none⟩ = some (.string s1) := (hbo.cell (p := ⟨w.heap.size, 3, none⟩) z1).trans u1_3
    have q1_3 := fun d os => cell_regrown p1_3 d os
    have p1_4 : w'.cell? ⟨w.heap.size, 4, none⟩ = some (.slice a1 m1 cap1) := (hbo.cell (p := ⟨w.heap.size, 4, none⟩) z1).trans u1_4
    have q1_4 := fun d os => cell_regrown p1_4 d os
    have p2_0 : w'.cell? ⟨w.heap.size + 1, 0, none⟩ = some (.int .i64 k2) := (hbo.cell (p := ⟨w.heap.size + 1, 0, none⟩) z2).trans u2_0
    have q2_0 := fun d os => cell_regrown p2_0 d os
    have p2_1 : w'.cell? ⟨w.heap.size + 1, 1, none⟩ = some (.int .i64 o2) := (hbo.cell (p := ⟨w.heap.size + 1, 1, none⟩) z2).trans u2_1
    have q2_1 := fun d os => cell_regrown p2_1 d os
    have p2_2 : w'.cell? ⟨w.heap.size + 1, 2, none⟩ = some (.int .i64 n2) := (hbo.cell (p := ⟨w.heap.size + 1, 2, none⟩) z2).trans u2_2
    have q2_2 := fun d os => cell_regrown p2_2 d os
    have p2_3 : w'.cell? ⟨w.heap.size + 1, 3, none⟩ = some (.string s2) := (hbo.cell (p := ⟨w.heap.size + 1, 3, none⟩) z2).trans u2_3
    have q2_3 := fun d os => cell_regrown p2_3 d os
    have p2_4 : w'.cell? ⟨w.heap.size + 1, 4, none⟩ = some (.slice a2 m2 cap2) := (hbo.cell (p := ⟨w.heap.size + 1, 4, none⟩) z2).trans u2_4
    have q2_4 := fun d os => cell_regrown p2_4 d os
    have K {f : FuncId} {args : Array Value} {u : Value} (h : ∀ w'', Below w.heap.size w w'' → Calls Try.prog f args w'' (Gives w'' u)) (p : Regrown) : Calls Try.prog f args (grow (redrawn w' p.d) p.os) fun e w3 => e = .returned u ∧ ∃ p : Regrown, w3 = grow (redrawn w' p.d) p.os := regrown_gives (fun w3 hb => h w3 (below_on hbp (Nat.le_refl _) hb)) p
    have GS1 := Lib.hid (K HS1.out)
    have GS2 := Lib.hid (K HS2.out)
    have GZ1 := Lib.hid (K HZ1.out)
    have GZ2 := Lib.hid (K HZ2.out)
    have GD1 := Lib.hid (K HD1.out)
    have GD2 := Lib.hid (K HD2.out)
    have GE1 := Lib.hid (K HE1.out)
    have GE2 := Lib.hid (K HE2.out)
    have GA := Lib.hid (K HA.out)
    clear K HF1 HF2 HG1 HG2 HT HTa HR HB2 HBl HRB HS1 HS2 HZ1 HZ2 HD1 HD2 HE1 HE2 HA g1 g2 g3 g4 z1 z2 p1_0 u1_0 p1_1 u1_1 p1_2 u1_2 p1_3 u1_3 p1_4 u1_4 p2_0 u2_0 p2_1 u2_1 p2_2 u2_2 p2_3 u2_3 p2_4 u2_4
    refine wp_region_quiet_below (by kernel_rfl) (by kernel_rfl) ?_
    repeat (go_big_quiet_step (first | with_reducible exact GS1.out _ | with_reducible exact GS2.out _ | with_reducible exact GZ1.out _ | with_reducible exact GZ2.out _ | with_reducible exact GD1.out _ | with_reducible exact GD2.out _ | with_reducible exact GE1.out _ | with_reducible exact GE2.out _ | with_reducible exact GA.out _))
    refine wpQuiet_nil ?_
    intro w3 hw3
    have hb3 := below_of_regrown hw3
    clear hw3
    go_wp2
    go_ret
    exact ⟨rfl, below_on hbp (Nat.le_refl _) hb3⟩
  case inl.inr =>
    obtain ⟨rfl, rfl⟩ := e1 rfl
    clear e1 e2 h1 h2 h3 h4
    go_enter Try.func11, Try.ntmps11
    go_upto_region 6 with (first | (go_at_call 30; (with_reducible refine (HF1.out _ (hW _ _)).mono ?_); rintro e wc ⟨rfl, hb⟩; have hB : Below w.heap.size w wc := below_on (hW _ _) (Nat.le_refl _) hb; obtain ⟨hcl, hfz⟩ := bcell hb; obtain ⟨z1, z2⟩ := two_new' hb; have u1_0 : wc.cell? ⟨w.heap.size, 0, none⟩ = some (.int .i64 k1) := (by go_simp); have u1_1 : wc.cell? ⟨w.heap.size, 1, none⟩ = some (.int .i64 o1) := (by go_simp); have u1_2 : wc.cell? ⟨w.heap.size, 2, none⟩ = some (.int .i64 n1) := (by go_simp); have u1_3 : wc.cell? ⟨w.heap.size, 3, none⟩ = some (.string s1) := (by go_simp); have u1_4 : wc.cell? ⟨w.heap.size, 4, none⟩ = some (.slice a1 m1 cap1) := (by go_simp); have u2_0 : wc.cell? ⟨w.heap.size + 1, 0, none⟩ = some (.int .i64 k2) := (by go_simp); have u2_1 : wc.cell? ⟨w.heap.size + 1, 1, none⟩ = some (.int .i64 o2) := (by go_simp); have u2_2 : wc.cell? ⟨w.heap.size + 1, 2, none⟩ = some (.int .i64 n2) := (by go_simp); have u2_3 : wc.cell? ⟨w.heap.size + 1, 3, none⟩ = some (.string s2) := (by go_simp); have u2_4 : wc.cell? ⟨w.heap.size + 1, 4, none⟩ = some (.slice a2 m2 cap2) := (by go_simp); clear hcl hfz hb; have hw2 : Below wc.heap.size wc wc := Below.refl _ _) | (go_at_call 30; (first | ((with_reducible refine (HF2.out _ (below_on hB (Nat.le_refl _) (by assumption))).mono ?_); rintro e w' ⟨rfl, hb⟩; have hbo : Below wc.heap.size wc w' := below_on (by assumption) (Nat.le_refl _) hb; obtain ⟨hcl, hfz⟩ := bcell hbo; have y1 := Nat.lt_of_lt_of_le z1 hbo.size; have y2 := Nat.lt_of_lt_of_le z2 hbo.size; clear hfz))) | (go_at_call 34; (first | ((with_reducible refine (HG1.out _ (below_on hB (Nat.le_refl _) (by assumption))).mono ?_); rintro e w' ⟨rfl, hb⟩; have hbo : Below wc.heap.size wc w' := below_on (by assumption) (Nat.le_refl _) hb; obtain ⟨hcl, hfz⟩ := bcell hbo; have y1 := Nat.lt_of_lt_of_le z1 hbo.size; have y2 := Nat.lt_of_lt_of_le z2 hbo.size; clear hfz) | ((with_reducible refine (HG2.out _ (below_on hB (Nat.le_refl _) (by assumption))).mono ?_); rintro e w' ⟨rfl, hb⟩; have hbo : Below wc.heap.size wc w' := below_on (by assumption) (Nat.le_refl _) hb; obtain ⟨hcl, hfz⟩ := bcell hbo; have y1 := Nat.lt_of_lt_of_le z1 hbo.size; have y2 := Nat.lt_of_lt_of_le z2 hbo.size; clear hfz))) | (go_at_call 19; (first | ((with_reducible refine (HT.out _ (below_on hB (Nat.le_refl _) (by assumption))).mono ?_); rintro e w' ⟨rfl, hb⟩; have hbo : Below wc.heap.size wc w' := below_on (by assumption) (Nat.le_refl _) hb; obtain ⟨hcl, hfz⟩ := bcell hbo; have y1 := Nat.lt_of_lt_of_le z1 hbo.size; have y2 := Nat.lt_of_lt_of_le z2 hbo.size; clear hfz) | ((with_reducible refine (HTa.out _ (below_on hB (Nat.le_refl _) (by assumption))).mono ?_); rintro e w' ⟨rfl, hb⟩; have hbo : Below wc.heap.size wc w' := below_on (by assumption) (Nat.le_refl _) hb; obtain ⟨hcl, hfz⟩ := bcell hbo; have y1 := Nat.lt_of_lt_of_le z1 hbo.size; have y2 := Nat.lt_of_lt_of_le z2 hbo.size; clear hfz))) | (go_at_call 22; (first | ((with_reducible refine (HB2.out _ (below_on hB (Nat.le_refl _) (by assumption))).mono ?_); rintro e w' ⟨rfl, hb⟩; have hbo : Below wc.heap.size wc w' := below_on (by assumption) (Nat.le_refl _) hb; obtain ⟨hcl, hfz⟩ := bcell hbo; have y1 := Nat.lt_of_lt_of_le z1 hbo.size; have y2 := Nat.lt_of_lt_of_le z2 hbo.size; clear hfz) | ((with_reducible refine (HBl.out _ (below_on hB (Nat.le_refl _) (by assumption))).mono ?_); rintro e w' ⟨rfl, hb⟩; have hbo : Below wc.heap.size wc w' := below_on (by assumption) (Nat.le_refl _) hb; obtain ⟨hcl, hfz⟩ := bcell hbo; have y1 := Nat.lt_of_lt_of_le z1 hbo.size; have y2 := Nat.lt_of_lt_of_le z2 hbo.size; clear hfz))) | (go_at_call 44; (first | ((with_reducible refine (HR.out _ (below_on hB (Nat.le_refl _) (by assumption))).mono ?_); rintro e w' ⟨rfl, hb⟩; have hbo : Below wc.heap.size wc w' := below_on (by assumption) (Nat.le_refl _) hb; obtain ⟨hcl, hfz⟩ := bcell hbo; have y1 := Nat.lt_of_lt_of_le z1 hbo.size; have y2 := Nat.lt_of_lt_of_le z2 hbo.size; clear hfz))) | (go_at_call 45; (first | ((with_reducible refine (HRB.out _ (below_on hB (Nat.le_refl _) (by assumption))).mono ?_); rintro e w' ⟨rfl, hb⟩; have hbo : Below wc.heap.size wc w' := below_on (by assumption) (Nat.le_refl _) hb; obtain ⟨hcl, hfz⟩ := bcell hbo; have y1 := Nat.lt_of_lt_of_le z1 hbo.size; have y2 := Nat.lt_of_lt_of_le z2 hbo.size; clear hfz))))
    have hbp : Below w.heap.size w w' := below_on hB (Nat.le_refl _) hbo
    have p1_0 : w'.cell? ⟨w.heap.size, 0, none⟩ = some (.int .i64 k1) := (hbo.cell (p := ⟨w.heap.size, 0, none⟩) z1).trans u1_0
    have q1_0 := fun d os => cell_regrown p1_0 d os
    have p1_1 : w'.cell? ⟨w.heap.size, 1, none⟩ = some (.int .i64 o1) := (hbo.cell (p := ⟨w.heap.size, 1, none⟩) z1).trans u1_1
    have q1_1 := fun d os => cell_regrown p1_1 d os
    have p1_2 : w'.cell? ⟨w.heap.size, 2, none⟩ = some (.int .i64 n1) := (hbo.cell (p := ⟨w.heap.size, 2, none⟩) z1).trans u1_2
    have q1_2 := fun d os => cell_regrown p1_2 d os
    have p1_3 : w'.cell? ⟨w.heap.size, 3, none⟩ = some (.string s1) := (hbo.cell (p := ⟨w.heap.size, 3, none⟩) z1).trans u1_3
    have q1_3 := fun d os => cell_regrown p1_3 d os
    have p1_4 : w'.cell? ⟨w.heap.size, 4, none⟩ = some (.slice a1 m1 cap1) := (hbo.cell (p := ⟨w.heap.size, 4, none⟩) z1).trans u1_4
    have q1_4 := fun d os => cell_regrown p1_4 d os
    have p2_0 : w'.cell? ⟨w.heap.size + 1, 0, none⟩ = some (.int .i64 k2) := (hbo.cell (p := ⟨w.heap.size + 1, 0, none⟩) z2).trans u2_0
    have q2_0 := fun d os => cell_regrown p2_0 d os
    have p2_1 : w'.cell? ⟨w.heap.size + 1, 1, none⟩ = some (.int .i64 o2) := (hbo.cell (p := ⟨w.heap.size + 1, 1, none⟩) z2).trans u2_1
    have q2_1 := fun d os => cell_regrown p2_1 d os
    have p2_2 : w'.cell? ⟨w.heap.size + 1, 2, none⟩ = some (.int .i64 n2) := (hbo.cell (p := ⟨w.heap.size + 1, 2, none⟩) z2).trans u2_2
    have q2_2 := fun d os => cell_regrown p2_2 d os
    have p2_3 : w'.cell? ⟨w.heap.size + 1, 3, none⟩ = some (.string s2) := (hbo.cell (p := ⟨w.heap.size + 1, 3, none⟩) z2).trans u2_3
    have q2_3 := fun d os => cell_regrown p2_3 d os
    have p2_4 : w'.cell? ⟨w.heap.size + 1, 4, none⟩ = some (.slice a2 m2 cap2) := (hbo.cell (p := ⟨w.heap.size + 1, 4, none⟩) z2).trans u2_4
    have q2_4 := fun d os => cell_regrown p2_4 d os
    have K {f : FuncId} {args : Array Value} {u : Value} (h : ∀ w'', Below w.heap.size w w'' → Calls Try.prog f args w'' (Gives w'' u)) (p : Regrown) : Calls Try.prog f args (grow (redrawn w' p.d) p.os) fun e w3 => e = .returned u ∧ ∃ p : Regrown, w3 = grow (redrawn w' p.d) p.os := regrown_gives (fun w3 hb => h w3 (below_on hbp (Nat.le_refl _) hb)) p
    have GS1 := Lib.hid (K HS1.out)
    have GS2 := Lib.hid (K HS2.out)
    have GZ1 := Lib.hid (K HZ1.out)
    have GZ2 := Lib.hid (K HZ2.out)
    have GD1 := Lib.hid (K HD1.out)
    have GD2 := Lib.hid (K HD2.out)
    have GE1 := Lib.hid (K HE1.out)
    have GE2 := Lib.hid (K HE2.out)
    have GA := Lib.hid (K HA.out)
    clear K HF1 HF2 HG1 HG2 HT HTa HR HB2 HBl HRB HS1 HS2 HZ1 HZ2 HD1 HD2 HE1 HE2 HA g1 g2 g3 g4 z1 z2 p1_0 u1_0 p1_1 u1_1 p1_2 u1_2 p1_3 u1_3 p1_4 u1_4 p2_0 u2_0 p2_1 u2_1 p2_2 u2_2 p2_3 u2_3 p2_4 u2_4
    refine wp_region_quiet_below (by kernel_rfl) (by kernel_rfl) ?_
    repeat (go_big_quiet_step (first | with_reducible exact GS1.out _ | with_reducible exact GS2.out _ | with_reducible exact GZ1.out _ | with_reducible exact GZ2.out _ | with_reducible exact GD1.out _ | with_reducible exact GD2.out _ | with_reducible exact GE1.out _ | with_reducible exact GE2.out _ | with_reducible exact GA.out _))
    refine wpQuiet_nil ?_
    intro w3 hw3
    have hb3 := below_of_regrown hw3
    clear hw3
    go_wp2
    go_ret
    exact ⟨rfl, below_on hbp (Nat.le_refl _) hb3⟩
  case inr.inl =>
    obtain ⟨rfl, rfl⟩ := e2 rfl
    clear e1 e2 h1 h2 h3 h4
    go_enter Try.func11, Try.ntmps11
    go_upto_region 6 with (first | (go_at_call 30; (with_reducible refine (HF1.out _ (hW _ _)).mono ?_); rintro e wc ⟨rfl, hb⟩; have hB : Below w.heap.size w wc := below_on (hW _ _) (Nat.le_refl _) hb; obtain ⟨hcl, hfz⟩ := bcell hb; obtain ⟨z1, z2⟩ := two_new' hb; have u1_0 : wc.cell? ⟨w.heap.size, 0, none⟩ = some (.int .i64 k1) := (by go_simp); have u1_1 : wc.cell? ⟨w.heap.size, 1, none⟩ = some (.int .i64 o1) := (by go_simp); have u1_2 : wc.cell? ⟨w.heap.size, 2, none⟩ = some (.int .i64 n1) := (by go_simp); have u1_3 : wc.cell? ⟨w.heap.size, 3, none⟩ = some (.string s1) := (by go_simp); have u1_4 : wc.cell? ⟨w.heap.size, 4, none⟩ = some (.slice a1 m1 cap1) := (by go_simp); have u2_0 : wc.cell? ⟨w.heap.size + 1, 0, none⟩ = some (.int .i64 k2) := (by go_simp); have u2_1 : wc.cell? ⟨w.heap.size + 1, 1, none⟩ = some (.int .i64 o2) := (by go_simp); have u2_2 : wc.cell? ⟨w.heap.size + 1, 2, none⟩ = some (.int .i64 n2) := (by go_simp); have u2_3 : wc.cell? ⟨w.heap.size + 1, 3, none⟩ = some (.string s2) := (by go_simp); have u2_4 : wc.cell? ⟨w.heap.size + 1, 4, none⟩ = some (.slice a2 m2 cap2) := (by go_simp); clear hcl hfz hb; have hw2 : Below wc.heap.size wc wc := Below.refl _ _) | (go_at_call 30; (first | ((with_reducible refine (HF2.out _ (below_on hB (Nat.le_refl _) (by assumption))).mono ?_); rintro e w' ⟨rfl, hb⟩; have hbo : Below wc.heap.size wc w' := below_on (by assumption) (Nat.le_refl _) hb; obtain ⟨hcl, hfz⟩ := bcell hbo; have y1 := Nat.lt_of_lt_of_le z1 hbo.size; have y2 := Nat.lt_of_lt_of_le z2 hbo.size; clear hfz))) | (go_at_call 34; (first | ((with_reducible refine (HG1.out _ (below_on hB (Nat.le_refl _) (by assumption))).mono ?_); rintro e w' ⟨rfl, hb⟩; have hbo : Below wc.heap.size wc w' := below_on (by assumption) (Nat.le_refl _) hb; obtain ⟨hcl, hfz⟩ := bcell hbo; have y1 := Nat.lt_of_lt_of_le z1 hbo.size; have y2 := Nat.lt_of_lt_of_le z2 hbo.size; clear hfz) | ((with_reducible refine (HG2.out _ (below_on hB (Nat.le_refl _) (by assumption))).mono ?_); rintro e w' ⟨rfl, hb⟩; have hbo : Below wc.heap.size wc w' := below_on (by assumption) (Nat.le_refl _) hb; obtain ⟨hcl, hfz⟩ := bcell hbo; have y1 := Nat.lt_of_lt_of_le z1 hbo.size; have y2 := Nat.lt_of_lt_of_le z2 hbo.size; clear hfz))) | (go_at_call 19; (first | ((with_reducible refine (HT.out _ (below_on hB (Nat.le_refl _) (by assumption))).mono ?_); rintro e w' ⟨rfl, hb⟩; have hbo : Below wc.heap.size wc w' := below_on (by assumption) (Nat.le_refl _) hb; obtain ⟨hcl, hfz⟩ := bcell hbo; have y1 := Nat.lt_of_lt_of_le z1 hbo.size; have y2 := Nat.lt_of_lt_of_le z2 hbo.size; clear hfz) | ((with_reducible refine (HTa.out _ (below_on hB (Nat.le_refl _) (by assumption))).mono ?_); rintro e w' ⟨rfl, hb⟩; have hbo : Below wc.heap.size wc w' := below_on (by assumption) (Nat.le_refl _) hb; obtain ⟨hcl, hfz⟩ := bcell hbo; have y1 := Nat.lt_of_lt_of_le z1 hbo.size; have y2 := Nat.lt_of_lt_of_le z2 hbo.size; clear hfz))) | (go_at_call 22; (first | ((with_reducible refine (HB2.out _ (below_on hB (Nat.le_refl _) (by assumption))).mono ?_); rintro e w' ⟨rfl, hb⟩; have hbo : Below wc.heap.size wc w' := below_on (by assumption) (Nat.le_refl _) hb; obtain ⟨hcl, hfz⟩ := bcell hbo; have y1 := Nat.lt_of_lt_of_le z1 hbo.size; have y2 := Nat.lt_of_lt_of_le z2 hbo.size; clear hfz) | ((with_reducible refine (HBl.out _ (below_on hB (Nat.le_refl _) (by assumption))).mono ?_); rintro e w' ⟨rfl, hb⟩; have hbo : Below wc.heap.size wc w' := below_on (by assumption) (Nat.le_refl _) hb; obtain ⟨hcl, hfz⟩ := bcell hbo; have y1 := Nat.lt_of_lt_of_le z1 hbo.size; have y2 := Nat.lt_of_lt_of_le z2 hbo.size; clear hfz))) | (go_at_call 44; (first | ((with_reducible refine (HR.out _ (below_on hB (Nat.le_refl _) (by assumption))).mono ?_); rintro e w' ⟨rfl, hb⟩; have hbo : Below wc.heap.size wc w' := below_on (by assumption) (Nat.le_refl _) hb; obtain ⟨hcl, hfz⟩ := bcell hbo; have y1 := Nat.lt_of_lt_of_le z1 hbo.size; have y2 := Nat.lt_of_lt_of_le z2 hbo.size; clear hfz))) | (go_at_call 45; (first | ((with_reducible refine (HRB.out _ (below_on hB (Nat.le_refl _) (by assumption))).mono ?_); rintro e w' ⟨rfl, hb⟩; have hbo : Below wc.heap.size wc w' := below_on (by assumption) (Nat.le_refl _) hb; obtain ⟨hcl, hfz⟩ := bcell hbo; have y1 := Nat.lt_of_lt_of_le z1 hbo.size; have y2 := Nat.lt_of_lt_of_le z2 hbo.size; clear hfz))))
    have hbp : Below w.heap.size w w' := below_on hB (Nat.le_refl _) hbo
    have p1_0 : w'.cell? ⟨w.heap.size, 0, none⟩ = some (.int .i64 k1) := (hbo.cell (p := ⟨w.heap.size, 0, none⟩) z1).trans u1_0
    have q1_0 := fun d os => cell_regrown p1_0 d os
    have p1_1 : w'.cell? ⟨w.heap.size, 1, none⟩ = some (.int .i64 o1) := (hbo.cell (p := ⟨w.heap.size, 1, none⟩) z1).trans u1_1
    have q1_1 := fun d os => cell_regrown p1_1 d os
    have p1_2 : w'.cell? ⟨w.heap.size, 2, none⟩ = some (.int .i64 n1) := (hbo.cell (p := ⟨w.heap.size, 2, none⟩) z1).trans u1_2
    have q1_2 := fun d os => cell_regrown p1_2 d os
    have p1_3 : w'.cell? ⟨w.heap.size, 3, none⟩ = some (.string s1) := (hbo.cell (p := ⟨w.heap.size, 3, none⟩) z1).trans u1_3
    have q1_3 := fun d os => cell_regrown p1_3 d os
    have p1_4 : w'.cell? ⟨w.heap.size, 4, none⟩ = some (.slice a1 m1 cap1) := (hbo.cell (p := ⟨w.heap.size, 4, none⟩) z1).trans u1_4
    have q1_4 := fun d os => cell_regrown p1_4 d os
    have p2_0 : w'.cell? ⟨w.heap.size + 1, 0, none⟩ = some (.int .i64 k2) := (hbo.cell (p := ⟨w.heap.size + 1, 0, none⟩) z2).trans u2_0
    have q2_0 := fun d os => cell_regrown p2_0 d os
    have p2_1 : w'.cell? ⟨w.heap.size + 1, 1, none⟩ = some (.int .i64 o2) := (hbo.cell (p := ⟨w.heap.size + 1, 1, none⟩) z2).trans u2_1
    have q2_1 := fun d os => cell_regrown p2_1 d os
    have p2_2 : w'.cell? ⟨w.heap.size + 1, 2, none⟩ = some (.int .i64 n2) := (hbo.cell (p := ⟨w.heap.size + 1, 2, none⟩) z2).trans u2_2
    have q2_2 := fun d os => cell_regrown p2_2 d os
    have p2_3 : w'.cell? ⟨w.heap.size + 1, 3, none⟩ = some (.string s2) := (hbo.cell (p := ⟨w.heap.size + 1, 3, none⟩) z2).trans u2_3
    have q2_3 := fun d os => cell_regrown p2_3 d os
    have p2_4 : w'.cell? ⟨w.heap.size + 1, 4, none⟩ = some (.slice a2 m2 cap2) := (hbo.cell (p := ⟨w.heap.size + 1, 4, none⟩) z2).trans u2_4
    have q2_4 := fun d os => cell_regrown p2_4 d os
    have K {f : FuncId} {args : Array Value} {u : Value} (h : ∀ w'', Below w.heap.size w w'' → Calls Try.prog f args w'' (Gives w'' u)) (p : Regrown) : Calls Try.prog f args (grow (redrawn w' p.d) p.os) fun e w3 => e = .returned u ∧ ∃ p : Regrown, w3 = grow (redrawn w' p.d) p.os := regrown_gives (fun w3 hb => h w3 (below_on hbp (Nat.le_refl _) hb)) p
    have GS1 := Lib.hid (K HS1.out)
    have GS2 := Lib.hid (K HS2.out)
    have GZ1 := Lib.hid (K HZ1.out)
    have GZ2 := Lib.hid (K HZ2.out)
    have GD1 := Lib.hid (K HD1.out)
    have GD2 := Lib.hid (K HD2.out)
    have GE1 := Lib.hid (K HE1.out)
    have GE2 := Lib.hid (K HE2.out)
    have GA := Lib.hid (K HA.out)
    clear K HF1 HF2 HG1 HG2 HT HTa HR HB2 HBl HRB HS1 HS2 HZ1 HZ2 HD1 HD2 HE1 HE2 HA g1 g2 g3 g4 z1 z2 p1_0 u1_0 p1_1 u1_1 p1_2 u1_2 p1_3 u1_3 p1_4 u1_4 p2_0 u2_0 p2_1 u2_1 p2_2 u2_2 p2_3 u2_3 p2_4 u2_4
    refine wp_region_quiet_below (by kernel_rfl) (by kernel_rfl) ?_
    repeat (go_big_quiet_step (first | with_reducible exact GS1.out _ | with_reducible exact GS2.out _ | with_reducible exact GZ1.out _ | with_reducible exact GZ2.out _ | with_reducible exact GD1.out _ | with_reducible exact GD2.out _ | with_reducible exact GE1.out _ | with_reducible exact GE2.out _ | with_reducible exact GA.out _))
    refine wpQuiet_nil ?_
    intro w3 hw3
    have hb3 := below_of_regrown hw3
    clear hw3
    go_wp2
    go_ret
    exact ⟨rfl, below_on hbp (Nat.le_refl _) hb3⟩
  case inr.inr =>
    clear e1 e2 h1 h2 h3 h4
    go_enter Try.func11, Try.ntmps11
    go_upto_region 6 with (first | (go_at_call 30; (with_reducible refine (HF1.out _ (hW _ _)).mono ?_); rintro e wc ⟨rfl, hb⟩; have hB : Below w.heap.size w wc := below_on (hW _ _) (Nat.le_refl _) hb; obtain ⟨hcl, hfz⟩ := bcell hb; obtain ⟨z1, z2⟩ := two_new' hb; have u1_0 : wc.cell? ⟨w.heap.size, 0, none⟩ = some (.int .i64 k1) := (by go_simp); have u1_1 : wc.cell? ⟨w.heap.size, 1, none⟩ = some (.int .i64 o1) := (by go_simp); have u1_2 : wc.cell? ⟨w.heap.size, 2, none⟩ = some (.int .i64 n1) := (by go_simp); have u1_3 : wc.cell? ⟨w.heap.size, 3, none⟩ = some (.string s1) := (by go_simp); have u1_4 : wc.cell? ⟨w.heap.size, 4, none⟩ = some (.slice a1 m1 cap1) := (by go_simp); have u2_0 : wc.cell? ⟨w.heap.size + 1, 0, none⟩ = some (.int .i64 k2) := (by go_simp); have u2_1 : wc.cell? ⟨w.heap.size + 1, 1, none⟩ = some (.int .i64 o2) := (by go_simp); have u2_2 : wc.cell? ⟨w.heap.size + 1, 2, none⟩ = some (.int .i64 n2) := (by go_simp); have u2_3 : wc.cell? ⟨w.heap.size + 1, 3, none⟩ = some (.string s2) := (by go_simp); have u2_4 : wc.cell? ⟨w.heap.size + 1, 4, none⟩ = some (.slice a2 m2 cap2) := (by go_simp); clear hcl hfz hb; have hw2 : Below wc.heap.size wc wc := Below.refl _ _) | (go_at_call 30; (first | ((with_reducible refine (HF2.out _ (below_on hB (Nat.le_refl _) (by assumption))).mono ?_); rintro e w' ⟨rfl, hb⟩; have hbo : Below wc.heap.size wc w' := below_on (by assumption) (Nat.le_refl _) hb; obtain ⟨hcl, hfz⟩ := bcell hbo; have y1 := Nat.lt_of_lt_of_le z1 hbo.size; have y2 := Nat.lt_of_lt_of_le z2 hbo.size; clear hfz))) | (go_at_call 34; (first | ((with_reducible refine (HG1.out _ (below_on hB (Nat.le_refl _) (by assumption))).mono ?_); rintro e w' ⟨rfl, hb⟩; have hbo : Below wc.heap.size wc w' := below_on (by assumption) (Nat.le_refl _) hb; obtain ⟨hcl, hfz⟩ := bcell hbo; have y1 := Nat.lt_of_lt_of_le z1 hbo.size; have y2 := Nat.lt_of_lt_of_le z2 hbo.size; clear hfz) | ((with_reducible refine (HG2.out _ (below_on hB (Nat.le_refl _) (by assumption))).mono ?_); rintro e w' ⟨rfl, hb⟩; have hbo : Below wc.heap.size wc w' := below_on (by assumption) (Nat.le_refl _) hb; obtain ⟨hcl, hfz⟩ := bcell hbo; have y1 := Nat.lt_of_lt_of_le z1 hbo.size; have y2 := Nat.lt_of_lt_of_le z2 hbo.size; clear hfz))) | (go_at_call 19; (first | ((with_reducible refine (HT.out _ (below_on hB (Nat.le_refl _) (by assumption))).mono ?_); rintro e w' ⟨rfl, hb⟩; have hbo : Below wc.heap.size wc w' := below_on (by assumption) (Nat.le_refl _) hb; obtain ⟨hcl, hfz⟩ := bcell hbo; have y1 := Nat.lt_of_lt_of_le z1 hbo.size; have y2 := Nat.lt_of_lt_of_le z2 hbo.size; clear hfz) | ((with_reducible refine (HTa.out _ (below_on hB (Nat.le_refl _) (by assumption))).mono ?_); rintro e w' ⟨rfl, hb⟩; have hbo : Below wc.heap.size wc w' := below_on (by assumption) (Nat.le_refl _) hb; obtain ⟨hcl, hfz⟩ := bcell hbo; have y1 := Nat.lt_of_lt_of_le z1 hbo.size; have y2 := Nat.lt_of_lt_of_le z2 hbo.size; clear hfz))) | (go_at_call 22; (first | ((with_reducible refine (HB2.out _ (below_on hB (Nat.le_refl _) (by assumption))).mono ?_); rintro e w' ⟨rfl, hb⟩; have hbo : Below wc.heap.size wc w' := below_on (by assumption) (Nat.le_refl _) hb; obtain ⟨hcl, hfz⟩ := bcell hbo; have y1 := Nat.lt_of_lt_of_le z1 hbo.size; have y2 := Nat.lt_of_lt_of_le z2 hbo.size; clear hfz) | ((with_reducible refine (HBl.out _ (below_on hB (Nat.le_refl _) (by assumption))).mono ?_); rintro e w' ⟨rfl, hb⟩; have hbo : Below wc.heap.size wc w' := below_on (by assumption) (Nat.le_refl _) hb; obtain ⟨hcl, hfz⟩ := bcell hbo; have y1 := Nat.lt_of_lt_of_le z1 hbo.size; have y2 := Nat.lt_of_lt_of_le z2 hbo.size; clear hfz))) | (go_at_call 44; (first | ((with_reducible refine (HR.out _ (below_on hB (Nat.le_refl _) (by assumption))).mono ?_); rintro e w' ⟨rfl, hb⟩; have hbo : Below wc.heap.size wc w' := below_on (by assumption) (Nat.le_refl _) hb; obtain ⟨hcl, hfz⟩ := bcell hbo; have y1 := Nat.lt_of_lt_of_le z1 hbo.size; have y2 := Nat.lt_of_lt_of_le z2 hbo.size; clear hfz))) | (go_at_call 45; (first | ((with_reducible refine (HRB.out _ (below_on hB (Nat.le_refl _) (by assumption))).mono ?_); rintro e w' ⟨rfl, hb⟩; have hbo : Below wc.heap.size wc w' := below_on (by assumption) (Nat.le_refl _) hb; obtain ⟨hcl, hfz⟩ := bcell hbo; have y1 := Nat.lt_of_lt_of_le z1 hbo.size; have y2 := Nat.lt_of_lt_of_le z2 hbo.size; clear hfz))))
    have hbp : Below w.heap.size w w' := below_on hB (Nat.le_refl _) hbo
    have p1_0 : w'.cell? ⟨w.heap.size, 0, none⟩ = some (.int .i64 k1) := (hbo.cell (p := ⟨w.heap.size, 0, none⟩) z1).trans u1_0
    have q1_0 := fun d os => cell_regrown p1_0 d os
    have p1_1 : w'.cell? ⟨w.heap.size, 1, none⟩ = some (.int .i64 o1) := (hbo.cell (p := ⟨w.heap.size, 1, none⟩) z1).trans u1_1
    have q1_1 := fun d os => cell_regrown p1_1 d os
    have p1_2 : w'.cell? ⟨w.heap.size, 2, none⟩ = some (.int .i64 n1) := (hbo.cell (p := ⟨w.heap.size, 2, none⟩) z1).trans u1_2
    have q1_2 := fun d os => cell_regrown p1_2 d os
    have p1_3 : w'.cell? ⟨w.heap.size, 3, none⟩ = some (.string s1) := (hbo.cell (p := ⟨w.heap.size, 3, none⟩) z1).trans u1_3
    have q1_3 := fun d os => cell_regrown p1_3 d os
    have p1_4 : w'.cell? ⟨w.heap.size, 4, none⟩ = some (.slice a1 m1 cap1) := (hbo.cell (p := ⟨w.heap.size, 4, none⟩) z1).trans u1_4
    have q1_4 := fun d os => cell_regrown p1_4 d os
    have p2_0 : w'.cell? ⟨w.heap.size + 1, 0, none⟩ = some (.int .i64 k2) := (hbo.cell (p := ⟨w.heap.size + 1, 0, none⟩) z2).trans u2_0
    have q2_0 := fun d os => cell_regrown p2_0 d os
    have p2_1 : w'.cell? ⟨w.heap.size + 1, 1, none⟩ = some (.int .i64 o2) := (hbo.cell (p := ⟨w.heap.size + 1, 1, none⟩) z2).trans u2_1
    have q2_1 := fun d os => cell_regrown p2_1 d os
    have p2_2 : w'.cell? ⟨w.heap.size + 1, 2, none⟩ = some (.int .i64 n2) := (hbo.cell (p := ⟨w.heap.size + 1, 2, none⟩) z2).trans u2_2
    have q2_2 := fun d os => cell_regrown p2_2 d os
    have p2_3 : w'.cell? ⟨w.heap.size + 1, 3, none⟩ = some (.string s2) := (hbo.cell (p := ⟨w.heap.size + 1, 3, none⟩) z2).trans u2_3
    have q2_3 := fun d os => cell_regrown p2_3 d os
    have p2_4 : w'.cell? ⟨w.heap.size + 1, 4, none⟩ = some (.slice a2 m2 cap2) := (hbo.cell (p := ⟨w.heap.size + 1, 4, none⟩) z2).trans u2_4
    have q2_4 := fun d os => cell_regrown p2_4 d os
    have K {f : FuncId} {args : Array Value} {u : Value} (h : ∀ w'', Below w.heap.size w w'' → Calls Try.prog f args w'' (Gives w'' u)) (p : Regrown) : Calls Try.prog f args (grow (redrawn w' p.d) p.os) fun e w3 => e = .returned u ∧ ∃ p : Regrown, w3 = grow (redrawn w' p.d) p.os := regrown_gives (fun w3 hb => h w3 (below_on hbp (Nat.le_refl _) hb)) p
    have GS1 := Lib.hid (K HS1.out)
    have GS2 := Lib.hid (K HS2.out)
    have GZ1 := Lib.hid (K HZ1.out)
    have GZ2 := Lib.hid (K HZ2.out)
    have GD1 := Lib.hid (K HD1.out)
    have GD2 := Lib.hid (K HD2.out)
    have GE1 := Lib.hid (K HE1.out)
    have GE2 := Lib.hid (K HE2.out)
    have GA := Lib.hid (K HA.out)
    clear K HF1 HF2 HG1 HG2 HT HTa HR HB2 HBl HRB HS1 HS2 HZ1 HZ2 HD1 HD2 HE1 HE2 HA g1 g2 g3 g4 z1 z2 p1_0 u1_0 p1_1 u1_1 p1_2 u1_2 p1_3 u1_3 p1_4 u1_4 p2_0 u2_0 p2_1 u2_1 p2_2 u2_2 p2_3 u2_3 p2_4 u2_4
    refine wp_region_quiet_below (by kernel_rfl) (by kernel_rfl) ?_
    repeat (go_big_quiet_step (first | with_reducible exact GS1.out _ | with_reducible exact GS2.out _ | with_reducible exact GZ1.out _ | with_reducible exact GZ2.out _ | with_reducible exact GD1.out _ | with_reducible exact GD2.out _ | with_reducible exact GE1.out _ | with_reducible exact GE2.out _ | with_reducible exact GA.out _))
    refine wpQuiet_nil ?_
    intro w3 hw3
    have hb3 := below_of_regrown hw3
    clear hw3
    go_wp2
    go_ret
    exact ⟨rfl, below_on hbp (Nat.le_refl _) hb3⟩

end Go.Proofs.Ytimdnamhccipjaa
