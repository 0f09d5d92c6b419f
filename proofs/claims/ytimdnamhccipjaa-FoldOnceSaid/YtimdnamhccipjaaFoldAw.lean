/- The walk of clewlaw18.awake: it returns true. -/
import Derived.Test.YtimdnamhccipjaaFoldBU
import Derived.Test.YtimdnamhccipjaaBuild
namespace Go.Proofs.Ytimdnamhccipjaa
open Go.RowKit

def exA : Ex := .mk 6 10 0 ⟨#[]⟩ [numE 1, numE 2]
theorem exA_shp : exA.shp := by
  simp [exA, Ex.shp, Ex.shps, numE]
theorem exA_fold : exA.fold = numE 3 := by
  simp [exA, Ex.fold, Ex.folds, numE, foldTop, Ex.kind, Ex.num, binV, wr]
def lookS : St := .mk 21 0 ⟨#[]⟩ [] [] []
def winS : St := .mk 14 0 ⟨#[]⟩ [] [] []
def ifS : St := .mk 9 0 ⟨#[]⟩ [numE 1] [lookS] [winS]
theorem ifS_shp : St.shps [ifS] := by
  simp [ifS, lookS, winS, St.shps, St.shp, Ex.shp, Ex.shps, numE]
theorem ifS_fold : St.folds [ifS] [] = [lookS] := by
  have h1 : ifS.fold = .mk 9 0 ⟨#[]⟩ [numE 1] [lookS] [winS] := by
    simp [ifS, lookS, winS, St.fold, St.folds, Ex.folds, numE, Ex.fold, foldTop, foldStep, knownNum, St.args]
  simp only [St.folds]
  rw [h1]
  simp [foldStep, knownNum, numE, St.args, Ex.kind, Ex.num, wr, St.kind, St.body, lookS]

theorem exA_rd (w : World) (t : TypeId) : RdEx (fun b => b < (w.alloc (.cells #[.int .i64 1, .int .i64 0, .int .i64 1, .string ⟨#[]⟩, .slice none 0 0, .int .i64 1, .int .i64 0, .int .i64 2, .string ⟨#[]⟩, .slice none 0 0] t)).heap.size)
    (w.alloc (.cells #[.int .i64 1, .int .i64 0, .int .i64 1, .string ⟨#[]⟩, .slice none 0 0, .int .i64 1, .int .i64 0, .int .i64 2, .string ⟨#[]⟩, .slice none 0 0] t)) exA [.int .i64 6, .int .i64 10, .int .i64 0, .string ⟨#[]⟩, .slice (some ⟨w.heap.size, 0, none⟩) 2 2] :=
  rd_ex (i64 6) (i64 10) (i64 0) (Nat.zero_le _) (exs_two (by simp) (bx_new w _ t _ rfl) (numE_rd (by omega)) (numE_rd (by omega)))

theorem ifS_rd (w : World) (t t2 : TypeId) :
    Sts (fun b => b < ((((w.alloc (.cells #[.int .i64 1, .int .i64 0, .int .i64 1, .string ⟨#[]⟩, .slice none 0 0] t)).alloc (.cells #[.int .i64 21, .int .i64 0, .string ⟨#[]⟩, .slice none 0 0, .slice none 0 0, .slice none 0 0] t2)).alloc (.cells #[.int .i64 14, .int .i64 0, .string ⟨#[]⟩, .slice none 0 0, .slice none 0 0, .slice none 0 0] t2)).alloc
        (.cells #[.int .i64 9, .int .i64 0, .string ⟨#[]⟩, .slice (some ⟨w.heap.size, 0, none⟩) 1 1, .slice (some ⟨w.heap.size + 1, 0, none⟩) 1 1, .slice (some ⟨w.heap.size + 1 + 1, 0, none⟩) 1 1] t2)).heap.size)
      ((((w.alloc (.cells #[.int .i64 1, .int .i64 0, .int .i64 1, .string ⟨#[]⟩, .slice none 0 0] t)).alloc (.cells #[.int .i64 21, .int .i64 0, .string ⟨#[]⟩, .slice none 0 0, .slice none 0 0, .slice none 0 0] t2)).alloc (.cells #[.int .i64 14, .int .i64 0, .string ⟨#[]⟩, .slice none 0 0, .slice none 0 0, .slice none 0 0] t2)).alloc
        (.cells #[.int .i64 9, .int .i64 0, .string ⟨#[]⟩, .slice (some ⟨w.heap.size, 0, none⟩) 1 1, .slice (some ⟨w.heap.size + 1, 0, none⟩) 1 1, .slice (some ⟨w.heap.size + 1 + 1, 0, none⟩) 1 1] t2))
      [ifS] (.slice (some ⟨w.heap.size + 1 + 1 + 1, 0, none⟩) 1 1) := by
  have h1 := bx_new w [.int .i64 1, .int .i64 0, .int .i64 1, .string ⟨#[]⟩, .slice none 0 0] t _ rfl
  have h2 := bx_new (w.alloc (.cells #[.int .i64 1, .int .i64 0, .int .i64 1, .string ⟨#[]⟩, .slice none 0 0] t)) [.int .i64 21, .int .i64 0, .string ⟨#[]⟩, .slice none 0 0, .slice none 0 0, .slice none 0 0] t2 (w.heap.size + 1) (by simp)
  have h3 := bx_new ((w.alloc (.cells #[.int .i64 1, .int .i64 0, .int .i64 1, .string ⟨#[]⟩, .slice none 0 0] t)).alloc (.cells #[.int .i64 21, .int .i64 0, .string ⟨#[]⟩, .slice none 0 0, .slice none 0 0, .slice none 0 0] t2)) [.int .i64 14, .int .i64 0, .string ⟨#[]⟩, .slice none 0 0, .slice none 0 0, .slice none 0 0] t2 (w.heap.size + 1 + 1) (by simp)
  have h4 := bx_new (((w.alloc (.cells #[.int .i64 1, .int .i64 0, .int .i64 1, .string ⟨#[]⟩, .slice none 0 0] t)).alloc (.cells #[.int .i64 21, .int .i64 0, .string ⟨#[]⟩, .slice none 0 0, .slice none 0 0, .slice none 0 0] t2)).alloc (.cells #[.int .i64 14, .int .i64 0, .string ⟨#[]⟩, .slice none 0 0, .slice none 0 0, .slice none 0 0] t2))
    [.int .i64 9, .int .i64 0, .string ⟨#[]⟩, .slice (some ⟨w.heap.size, 0, none⟩) 1 1, .slice (some ⟨w.heap.size + 1, 0, none⟩) 1 1, .slice (some ⟨w.heap.size + 1 + 1, 0, none⟩) 1 1] t2 (w.heap.size + 1 + 1 + 1) (by simp)
  have k1 := ((h1.alloc (by simp) (.cells #[.int .i64 21, .int .i64 0, .string ⟨#[]⟩, .slice none 0 0, .slice none 0 0, .slice none 0 0] t2)).alloc (by simp <;> omega) (.cells #[.int .i64 14, .int .i64 0, .string ⟨#[]⟩, .slice none 0 0, .slice none 0 0, .slice none 0 0] t2)).alloc (by simp <;> omega) (.cells #[.int .i64 9, .int .i64 0, .string ⟨#[]⟩, .slice (some ⟨w.heap.size, 0, none⟩) 1 1, .slice (some ⟨w.heap.size + 1, 0, none⟩) 1 1, .slice (some ⟨w.heap.size + 1 + 1, 0, none⟩) 1 1] t2)
  have k2 := (h2.alloc (by simp) (.cells #[.int .i64 14, .int .i64 0, .string ⟨#[]⟩, .slice none 0 0, .slice none 0 0, .slice none 0 0] t2)).alloc (by simp <;> omega) (.cells #[.int .i64 9, .int .i64 0, .string ⟨#[]⟩, .slice (some ⟨w.heap.size, 0, none⟩) 1 1, .slice (some ⟨w.heap.size + 1, 0, none⟩) 1 1, .slice (some ⟨w.heap.size + 1 + 1, 0, none⟩) 1 1] t2)
  have k3 := h3.alloc (by simp) (.cells #[.int .i64 9, .int .i64 0, .string ⟨#[]⟩, .slice (some ⟨w.heap.size, 0, none⟩) 1 1, .slice (some ⟨w.heap.size + 1, 0, none⟩) 1 1, .slice (some ⟨w.heap.size + 1 + 1, 0, none⟩) 1 1] t2)
  refine sts_one (by simp <;> omega) h4 (rd_st (i64 9) (i64 0) (Nat.zero_le _) (exs_one (by simp <;> omega) k1 (numE_rd (by omega))) (sts_one (by simp <;> omega) k2 ?_) (sts_one (by simp <;> omega) k3 ?_))
  · exact rd_st (i64 21) (i64 0) (Nat.zero_le _) (exs_nil _ _) (sts_nil _ _) (sts_nil _ _)
  · exact rd_st (i64 14) (i64 0) (Nat.zero_le _) (exs_nil _ _) (sts_nil _ _) (sts_nil _ _)

set_option maxRecDepth 100000 in
set_option maxHeartbeats 4000000 in
theorem awakeF_calls (w : World) : Calls Try.prog 18 #[] w (Gives w (.bool true)) := by
  go_enter Try.func18, Try.ntmps18
  have hbo := Below.refl w.heap.size w
  go_upto_region 2 with (first | (go_at_call 51; (with_reducible refine (numL_calls _ _).mono ?_); rintro e w1 ⟨rfl, hb⟩; have hbo := below_on hbo (Nat.le_refl _) hb) | (go_at_call 20; refine (exprT_calls exA _ _ _ (fun _ h => h) exA_shp (exA_rd w1 _)).mono ?_; rintro e w2 ⟨cs, rfl, hcs, hb⟩; have hbo := below_on (hbo.alloc hbo.size _) (Nat.le_refl _) hb; obtain ⟨k1, o1, n1, s1, a1, m1, c1, rfl⟩ := hcs.shape; obtain ⟨ek, -, en, -, -, -, -, -, -⟩ := hcs.parts; rw [exA_fold] at ek en; obtain rfl : (1 : Int) = k1 := ek; obtain rfl : (3 : Int) = n1 := en))
  go_upto_region 3 with (first | (go_at_call 51; (with_reducible refine (numL_calls _ _).mono ?_); rintro e w3 ⟨rfl, hb3⟩; obtain ⟨hcl3, hfz3⟩ := bcell hb3; have hz3 := one_new hb3; have hbo3 := below_on (hbo.alloc hbo.size _) (Nat.le_refl _) hb3) | (go_at_call 23; refine (blockT_calls [ifS] _ _ _ (fun _ h => h) ifS_shp (by simp) (ifS_rd w3 _ _)).mono ?_; rintro e w4 ⟨v, rfl, hv, hb4, -⟩; have hz4 := Nat.lt_of_lt_of_le hz3 (show w3.heap.size ≤ w4.heap.size by have := hb4.size; simp at this; omega)))
  rw [ifS_fold] at hv
  have hB34 : Below w3.heap.size w3 w4 := (((((Below.refl _ _).alloc (Nat.le_refl _) _).alloc (by simp) _).alloc (by simp <;> omega) _).alloc (by simp <;> omega) _).trans (hb4.mono (by simp <;> omega))
  have d0 : w3.cell? ⟨w2.heap.size, 0, none⟩ = some (.int .i64 1) := by go_simp
  have d2 : w3.cell? ⟨w2.heap.size, 2, none⟩ = some (.int .i64 3) := by go_simp
  have c0 : w4.cell? ⟨w2.heap.size, 0, none⟩ = some (.int .i64 1) := (hB34.cell (p := ⟨w2.heap.size, 0, none⟩) hz3).trans d0
  have c2 : w4.cell? ⟨w2.heap.size, 2, none⟩ = some (.int .i64 3) := (hB34.cell (p := ⟨w2.heap.size, 2, none⟩) hz3).trans d2
  obtain ⟨a, c, rfl⟩ := hv.shape
  obtain ⟨_, hle, hca, hel⟩ := hv.opn
  obtain ⟨b, off, rfl, hF, hel⟩ := hel (by simp)
  obtain ⟨kd, n, s, x1, m1', cp1, x2, m2, cp2, x3, m3, cp3, hx, g0, -, -, -, -, -⟩ := hel w4 rfl 0 (by simp)
  have ek := hx.parts.1
  obtain rfl : (21 : Int) = kd := ek
  have e0 : w4.cell? ⟨b, off, none⟩ = some (.int .i64 21) := by simpa using g0
  have hfin := below_on hbo3 (Nat.le_refl _) hB34
  clear hel g0 hx hcl3 hfz3 hb3 hb4 hB34 d0 d2 hcs hv hb
  go_wp2
  go_ret
  exact ⟨rfl, hfin⟩
end Go.Proofs.Ytimdnamhccipjaa
