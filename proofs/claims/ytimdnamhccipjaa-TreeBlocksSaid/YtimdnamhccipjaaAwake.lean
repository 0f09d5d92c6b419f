/- The walk of clewlaw10.awake: chapter 10's examples hold. (Printed by gen-awake10.py.) -/
import Derived.Test.YtimdnamhccipjaaRightBlock
import Derived.Test.YtimdnamhccipjaaBoundG
import Derived.Deep.DeepCutAuto
namespace Go.Proofs.Ytimdnamhccipjaa
open Go.RowKit Go.Sort

/-- What chapter 10's example has built. -/
def AwMem (w wc : World) : Prop :=
    Bx wc (w.heap.size) [.int .i64 1, .int .i64 0, .int .i64 1, .string { data := #[] }, .slice none 0 0] ∧
    Bx wc (w.heap.size + 1) [.int .i64 3, .int .i64 0, .int .i64 0, .string { data := #[97] }, .slice none 0 0] ∧
    Bx wc (w.heap.size + 1 + 1) [.int .i64 2, .int .i64 0, .int .i64 0, .string { data := #[98] }, .slice none 0 0] ∧
    Bx wc (w.heap.size + 1 + 1 + 1) [.int .i64 1, .int .i64 0, .int .i64 1, .string { data := #[] }, .slice none 0 0, .int .i64 3, .int .i64 0, .int .i64 0, .string { data := #[97] }, .slice none 0 0] ∧
    Bx wc (w.heap.size + 1 + 1 + 1 + 1) [.int .i64 6, .int .i64 10, .int .i64 0, .string { data := #[] }, .slice (some ⟨w.heap.size + 1 + 1 + 1, 0, none⟩) 2 2] ∧
    Bx wc (w.heap.size + 1 + 1 + 1 + 1 + 1) [.int .i64 3, .int .i64 0, .int .i64 0, .string { data := #[97] }, .slice none 0 0] ∧
    Bx wc (w.heap.size + 1 + 1 + 1 + 1 + 1 + 1) [.int .i64 2, .int .i64 0, .int .i64 0, .string { data := #[98] }, .slice none 0 0, .int .i64 13, .int .i64 0, .int .i64 0, .string { data := #[] }, .slice (some ⟨w.heap.size + 1 + 1 + 1 + 1 + 1, 0, none⟩) 1 1] ∧
    Bx wc (w.heap.size + 1 + 1 + 1 + 1 + 1 + 1 + 1) [.int .i64 1, .int .i64 0, .string { data := #[] }, .slice (some ⟨w.heap.size + 1 + 1 + 1 + 1 + 1 + 1, 0, none⟩) 2 2, .slice none 0 0, .slice none 0 0] ∧
    Bx wc (w.heap.size + 1 + 1 + 1 + 1 + 1 + 1 + 1 + 1) [.int .i64 1, .int .i64 0, .int .i64 1, .string { data := #[] }, .slice none 0 0] ∧
    Bx wc (w.heap.size + 1 + 1 + 1 + 1 + 1 + 1 + 1 + 1 + 1) [.int .i64 13, .int .i64 0, .string { data := #[] }, .slice none 0 0, .slice none 0 0, .slice none 0 0] ∧
    Bx wc (w.heap.size + 1 + 1 + 1 + 1 + 1 + 1 + 1 + 1 + 1 + 1) [.int .i64 9, .int .i64 0, .string { data := #[] }, .slice (some ⟨w.heap.size + 1 + 1 + 1 + 1 + 1 + 1 + 1 + 1, 0, none⟩) 1 1, .slice (some ⟨w.heap.size + 1 + 1 + 1 + 1 + 1 + 1 + 1 + 1 + 1, 0, none⟩) 1 1, .slice none 0 0] ∧
    Bx wc (w.heap.size + 1 + 1 + 1 + 1 + 1 + 1 + 1 + 1 + 1 + 1 + 1) [.int .i64 7, .int .i64 8] ∧
    Bx wc (w.heap.size + 1 + 1 + 1 + 1 + 1 + 1 + 1 + 1 + 1 + 1 + 1 + 1) [.int .i64 0, .int .i64 0, .int .i64 0, .int .i64 0, .slice none 0 0, .int .i64 0, .slice none 0 0, .slice (some ⟨w.heap.size + 1 + 1 + 1 + 1 + 1 + 1 + 1 + 1 + 1 + 1 + 1, 0, none⟩) 2 2, .slice none 0 0, .slice none 0 0, .slice none 0 0, .slice none 0 0, .slice none 0 0, .slice none 0 0, .slice none 0 0] ∧
    Below w.heap.size w wc ∧ w.heap.size + 1 + 1 + 1 + 1 + 1 + 1 + 1 + 1 + 1 + 1 + 1 + 1 < wc.heap.size

theorem heap_alloc (w : World) (o : Obj) : (w.alloc o).heap.size = w.heap.size + 1 := by simp
theorem Bx.alloc1 {w w' : World} {b : Nat} {cs : List Value} {o : Obj} (h : Bx w b cs) (hb : b < w.heap.size) (e : w' = w.alloc o) : Bx w' b cs := e ▸ h.alloc hb o
theorem aw_mem (w w1 w2 w3 w4 w5 w6 w7 w8 w9 w10 w11 w12 w13 : World) (h1 : w1 = w.alloc (.cells #[.int .i64 1, .int .i64 0, .int .i64 1, .string { data := #[] }, .slice none 0 0] 35))
    (h2 : w2 = w1.alloc (.cells #[.int .i64 3, .int .i64 0, .int .i64 0, .string { data := #[97] }, .slice none 0 0] 35))
    (h3 : w3 = w2.alloc (.cells #[.int .i64 2, .int .i64 0, .int .i64 0, .string { data := #[98] }, .slice none 0 0] 35))
    (h4 : w4 = w3.alloc (.cells #[.int .i64 1, .int .i64 0, .int .i64 1, .string { data := #[] }, .slice none 0 0, .int .i64 3, .int .i64 0, .int .i64 0, .string { data := #[97] }, .slice none 0 0] 35))
    (h5 : w5 = w4.alloc (.cells #[.int .i64 6, .int .i64 10, .int .i64 0, .string { data := #[] }, .slice (some ⟨w.heap.size + 1 + 1 + 1, 0, none⟩) 2 2] 35))
    (h6 : w6 = w5.alloc (.cells #[.int .i64 3, .int .i64 0, .int .i64 0, .string { data := #[97] }, .slice none 0 0] 35))
    (h7 : w7 = w6.alloc (.cells #[.int .i64 2, .int .i64 0, .int .i64 0, .string { data := #[98] }, .slice none 0 0, .int .i64 13, .int .i64 0, .int .i64 0, .string { data := #[] }, .slice (some ⟨w.heap.size + 1 + 1 + 1 + 1 + 1, 0, none⟩) 1 1] 35))
    (h8 : w8 = w7.alloc (.cells #[.int .i64 1, .int .i64 0, .string { data := #[] }, .slice (some ⟨w.heap.size + 1 + 1 + 1 + 1 + 1 + 1, 0, none⟩) 2 2, .slice none 0 0, .slice none 0 0] 62))
    (h9 : w9 = w8.alloc (.cells #[.int .i64 1, .int .i64 0, .int .i64 1, .string { data := #[] }, .slice none 0 0] 35))
    (h10 : w10 = w9.alloc (.cells #[.int .i64 13, .int .i64 0, .string { data := #[] }, .slice none 0 0, .slice none 0 0, .slice none 0 0] 62))
    (h11 : w11 = w10.alloc (.cells #[.int .i64 9, .int .i64 0, .string { data := #[] }, .slice (some ⟨w.heap.size + 1 + 1 + 1 + 1 + 1 + 1 + 1 + 1, 0, none⟩) 1 1, .slice (some ⟨w.heap.size + 1 + 1 + 1 + 1 + 1 + 1 + 1 + 1 + 1, 0, none⟩) 1 1, .slice none 0 0] 62))
    (h12 : w12 = w11.alloc (.cells #[.int .i64 7, .int .i64 8] 3))
    (h13 : w13 = w12.alloc (.cells #[.int .i64 0, .int .i64 0, .int .i64 0, .int .i64 0, .slice none 0 0, .int .i64 0, .slice none 0 0, .slice (some ⟨w.heap.size + 1 + 1 + 1 + 1 + 1 + 1 + 1 + 1 + 1 + 1 + 1, 0, none⟩) 2 2, .slice none 0 0, .slice none 0 0, .slice none 0 0, .slice none 0 0, .slice none 0 0, .slice none 0 0, .slice none 0 0] 32)) : AwMem w w13 := by
  have s1 : w1.heap.size = w.heap.size + 1 := by rw [h1, heap_alloc]
  have b0 : Bx w1 (w.heap.size) [.int .i64 1, .int .i64 0, .int .i64 1, .string { data := #[] }, .slice none 0 0] := h1 ▸ bx_new _ [.int .i64 1, .int .i64 0, .int .i64 1, .string { data := #[] }, .slice none 0 0] _ _ rfl
  have k1 : Below w.heap.size w w1 := h1 ▸ (Below.refl _ _).alloc (Nat.le_refl _) _
  have s2 : w2.heap.size = w.heap.size + 1 + 1 := by rw [h2, heap_alloc, s1]
  have b1 : Bx w2 (w.heap.size + 1) [.int .i64 3, .int .i64 0, .int .i64 0, .string { data := #[97] }, .slice none 0 0] := h2 ▸ bx_new _ [.int .i64 3, .int .i64 0, .int .i64 0, .string { data := #[97] }, .slice none 0 0] _ _ s1.symm
  have b0 := b0.alloc1 (by rw [s1]; omega) h2
  have k2 : Below w.heap.size w w2 := h2 ▸ k1.alloc (by rw [s1]; omega) _
  have s3 : w3.heap.size = w.heap.size + 1 + 1 + 1 := by rw [h3, heap_alloc, s2]
  have b2 : Bx w3 (w.heap.size + 1 + 1) [.int .i64 2, .int .i64 0, .int .i64 0, .string { data := #[98] }, .slice none 0 0] := h3 ▸ bx_new _ [.int .i64 2, .int .i64 0, .int .i64 0, .string { data := #[98] }, .slice none 0 0] _ _ s2.symm
  have b0 := b0.alloc1 (by rw [s2]; omega) h3
  have b1 := b1.alloc1 (by rw [s2]; omega) h3
  have k3 : Below w.heap.size w w3 := h3 ▸ k2.alloc (by rw [s2]; omega) _
  have s4 : w4.heap.size = w.heap.size + 1 + 1 + 1 + 1 := by rw [h4, heap_alloc, s3]
  have b3 : Bx w4 (w.heap.size + 1 + 1 + 1) [.int .i64 1, .int .i64 0, .int .i64 1, .string { data := #[] }, .slice none 0 0, .int .i64 3, .int .i64 0, .int .i64 0, .string { data := #[97] }, .slice none 0 0] := h4 ▸ bx_new _ [.int .i64 1, .int .i64 0, .int .i64 1, .string { data := #[] }, .slice none 0 0, .int .i64 3, .int .i64 0, .int .i64 0, .string { data := #[97] }, .slice none 0 0] _ _ s3.symm
  have b0 := b0.alloc1 (by rw [s3]; omega) h4
  have b1 := b1.alloc1 (by rw [s3]; omega) h4
  have b2 := b2.alloc1 (by rw [s3]; omega) h4
  have k4 : Below w.heap.size w w4 := h4 ▸ k3.alloc (by rw [s3]; omega) _
  have s5 : w5.heap.size = w.heap.size + 1 + 1 + 1 + 1 + 1 := by rw [h5, heap_alloc, s4]
  have b4 : Bx w5 (w.heap.size + 1 + 1 + 1 + 1) [.int .i64 6, .int .i64 10, .int .i64 0, .string { data := #[] }, .slice (some ⟨w.heap.size + 1 + 1 + 1, 0, none⟩) 2 2] := h5 ▸ bx_new _ [.int .i64 6, .int .i64 10, .int .i64 0, .string { data := #[] }, .slice (some ⟨w.heap.size + 1 + 1 + 1, 0, none⟩) 2 2] _ _ s4.symm
  have b0 := b0.alloc1 (by rw [s4]; omega) h5
  have b1 := b1.alloc1 (by rw [s4]; omega) h5
  have b2 := b2.alloc1 (by rw [s4]; omega) h5
  have b3 := b3.alloc1 (by rw [s4]; omega) h5
  have k5 : Below w.heap.size w w5 := h5 ▸ k4.alloc (by rw [s4]; omega) _
  have s6 : w6.heap.size = w.heap.size + 1 + 1 + 1 + 1 + 1 + 1 := by rw [h6, heap_alloc, s5]
  have b5 : Bx w6 (w.heap.size + 1 + 1 + 1 + 1 + 1) [.int .i64 3, .int .i64 0, .int .i64 0, .string { data := #[97] }, .slice none 0 0] := h6 ▸ bx_new _ [.int .i64 3, .int .i64 0, .int .i64 0, .string { data := #[97] }, .slice none 0 0] _ _ s5.symm
  have b0 := b0.alloc1 (by rw [s5]; omega) h6
  have b1 := b1.alloc1 (by rw [s5]; omega) h6
  have b2 := b2.alloc1 (by rw [s5]; omega) h6
  have b3 := b3.alloc1 (by rw [s5]; omega) h6
  have b4 := b4.alloc1 (by rw [s5]; omega) h6
  have k6 : Below w.heap.size w w6 := h6 ▸ k5.alloc (by rw [s5]; omega) _
  have s7 : w7.heap.size = w.heap.size + 1 + 1 + 1 + 1 + 1 + 1 + 1 := by rw [h7, heap_alloc, s6]
  have b6 : Bx w7 (w.heap.size + 1 + 1 + 1 + 1 + 1 + 1) [.int .i64 2, .int .i64 0, .int .i64 0, .string { data := #[98] }, .slice none 0 0, .int .i64 13, .int .i64 0, .int .i64 0, .string { data := #[] }, .slice (some ⟨w.heap.size + 1 + 1 + 1 + 1 + 1, 0, none⟩) 1 1] := h7 ▸ bx_new _ [.int .i64 2, .int .i64 0, .int .i64 0, .string { data := #[98] }, .slice none 0 0, .int .i64 13, .int .i64 0, .int .i64 0, .string { data := #[] }, .slice (some ⟨w.heap.size + 1 + 1 + 1 + 1 + 1, 0, none⟩) 1 1] _ _ s6.symm
  have b0 := b0.alloc1 (by rw [s6]; omega) h7
  have b1 := b1.alloc1 (by rw [s6]; omega) h7
  have b2 := b2.alloc1 (by rw [s6]; omega) h7
  have b3 := b3.alloc1 (by rw [s6]; omega) h7
  have b4 := b4.alloc1 (by rw [s6]; omega) h7
  have b5 := b5.alloc1 (by rw [s6]; omega) h7
  have k7 : Below w.heap.size w w7 := h7 ▸ k6.alloc (by rw [s6]; omega) _
  have s8 : w8.heap.size = w.heap.size + 1 + 1 + 1 + 1 + 1 + 1 + 1 + 1 := by rw [h8, heap_alloc, s7]
  have b7 : Bx w8 (w.heap.size + 1 + 1 + 1 + 1 + 1 + 1 + 1) [.int .i64 1, .int .i64 0, .string { data := #[] }, .slice (some ⟨w.heap.size + 1 + 1 + 1 + 1 + 1 + 1, 0, none⟩) 2 2, .slice none 0 0, .slice none 0 0] := h8 ▸ bx_new _ [.int .i64 1, .int .i64 0, .string { data := #[] }, .slice (some ⟨w.heap.size + 1 + 1 + 1 + 1 + 1 + 1, 0, none⟩) 2 2, .slice none 0 0, .slice none 0 0] _ _ s7.symm
  have b0 := b0.alloc1 (by rw [s7]; omega) h8
  have b1 := b1.alloc1 (by rw [s7]; omega) h8
  have b2 := b2.alloc1 (by rw [s7]; omega) h8
  have b3 := b3.alloc1 (by rw [s7]; omega) h8
  have b4 := b4.alloc1 (by rw [s7]; omega) h8
  have b5 := b5.alloc1 (by rw [s7]; omega) h8
  have b6 := b6.alloc1 (by rw [s7]; omega) h8
  have k8 : Below w.heap.size w w8 := h8 ▸ k7.alloc (by rw [s7]; omega) _
  have s9 : w9.heap.size = w.heap.size + 1 + 1 + 1 + 1 + 1 + 1 + 1 + 1 + 1 := by rw [h9, heap_alloc, s8]
  have b8 : Bx w9 (w.heap.size + 1 + 1 + 1 + 1 + 1 + 1 + 1 + 1) [.int .i64 1, .int .i64 0, .int .i64 1, .string { data := #[] }, .slice none 0 0] := h9 ▸ bx_new _ [.int .i64 1, .int .i64 0, .int .i64 1, .string { data := #[] }, .slice none 0 0] _ _ s8.symm
  have b0 := b0.alloc1 (by rw [s8]; omega) h9
  have b1 := b1.alloc1 (by rw [s8]; omega) h9
  have b2 := b2.alloc1 (by rw [s8]; omega) h9
  have b3 := b3.alloc1 (by rw [s8]; omega) h9
  have b4 := b4.alloc1 (by rw [s8]; omega) h9
  have b5 := b5.alloc1 (by rw [s8]; omega) h9
  have b6 := b6.alloc1 (by rw [s8]; omega) h9
  have b7 := b7.alloc1 (by rw [s8]; omega) h9
  have k9 : Below w.heap.size w w9 := h9 ▸ k8.alloc (by rw [s8]; omega) _
  have s10 : w10.heap.size = w.heap.size + 1 + 1 + 1 + 1 + 1 + 1 + 1 + 1 + 1 + 1 := by rw [h10, heap_alloc, s9]
  have b9 : Bx w10 (w.heap.size + 1 + 1 + 1 + 1 + 1 + 1 + 1 + 1 + 1) [.int .i64 13, .int .i64 0, .string { data := #[] }, .slice none 0 0, .slice none 0 0, .slice none 0 0] := h10 ▸ bx_new _ [.int .i64 13, .int .i64 0, .string { data := #[] }, .slice none 0 0, .slice none 0 0, .slice none 0 0] _ _ s9.symm
  have b0 := b0.alloc1 (by rw [s9]; omega) h10
  have b1 := b1.alloc1 (by rw [s9]; omega) h10
  have b2 := b2.alloc1 (by rw [s9]; omega) h10
  have b3 := b3.alloc1 (by rw [s9]; omega) h10
  have b4 := b4.alloc1 (by rw [s9]; omega) h10
  have b5 := b5.alloc1 (by rw [s9]; omega) h10
  have b6 := b6.alloc1 (by rw [s9]; omega) h10
  have b7 := b7.alloc1 (by rw [s9]; omega) h10
  have b8 := b8.alloc1 (by rw [s9]; omega) h10
  have k10 : Below w.heap.size w w10 := h10 ▸ k9.alloc (by rw [s9]; omega) _
  have s11 : w11.heap.size = w.heap.size + 1 + 1 + 1 + 1 + 1 + 1 + 1 + 1 + 1 + 1 + 1 := by rw [h11, heap_alloc, s10]
  have b10 : Bx w11 (w.heap.size + 1 + 1 + 1 + 1 + 1 + 1 + 1 + 1 + 1 + 1) [.int .i64 9, .int .i64 0, .string { data := #[] }, .slice (some ⟨w.heap.size + 1 + 1 + 1 + 1 + 1 + 1 + 1 + 1, 0, none⟩) 1 1, .slice (some ⟨w.heap.size + 1 + 1 + 1 + 1 + 1 + 1 + 1 + 1 + 1, 0, none⟩) 1 1, .slice none 0 0] := h11 ▸ bx_new _ [.int .i64 9, .int .i64 0, .string { data := #[] }, .slice (some ⟨w.heap.size + 1 + 1 + 1 + 1 + 1 + 1 + 1 + 1, 0, none⟩) 1 1, .slice (some ⟨w.heap.size + 1 + 1 + 1 + 1 + 1 + 1 + 1 + 1 + 1, 0, none⟩) 1 1, .slice none 0 0] _ _ s10.symm
  have b0 := b0.alloc1 (by rw [s10]; omega) h11
  have b1 := b1.alloc1 (by rw [s10]; omega) h11
  have b2 := b2.alloc1 (by rw [s10]; omega) h11
  have b3 := b3.alloc1 (by rw [s10]; omega) h11
  have b4 := b4.alloc1 (by rw [s10]; omega) h11
  have b5 := b5.alloc1 (by rw [s10]; omega) h11
  have b6 := b6.alloc1 (by rw [s10]; omega) h11
  have b7 := b7.alloc1 (by rw [s10]; omega) h11
  have b8 := b8.alloc1 (by rw [s10]; omega) h11
  have b9 := b9.alloc1 (by rw [s10]; omega) h11
  have k11 : Below w.heap.size w w11 := h11 ▸ k10.alloc (by rw [s10]; omega) _
  have s12 : w12.heap.size = w.heap.size + 1 + 1 + 1 + 1 + 1 + 1 + 1 + 1 + 1 + 1 + 1 + 1 := by rw [h12, heap_alloc, s11]
  have b11 : Bx w12 (w.heap.size + 1 + 1 + 1 + 1 + 1 + 1 + 1 + 1 + 1 + 1 + 1) [.int .i64 7, .int .i64 8] := h12 ▸ bx_new _ [.int .i64 7, .int .i64 8] _ _ s11.symm
  have b0 := b0.alloc1 (by rw [s11]; omega) h12
  have b1 := b1.alloc1 (by rw [s11]; omega) h12
  have b2 := b2.alloc1 (by rw [s11]; omega) h12
  have b3 := b3.alloc1 (by rw [s11]; omega) h12
  have b4 := b4.alloc1 (by rw [s11]; omega) h12
  have b5 := b5.alloc1 (by rw [s11]; omega) h12
  have b6 := b6.alloc1 (by rw [s11]; omega) h12
  have b7 := b7.alloc1 (by rw [s11]; omega) h12
  have b8 := b8.alloc1 (by rw [s11]; omega) h12
  have b9 := b9.alloc1 (by rw [s11]; omega) h12
  have b10 := b10.alloc1 (by rw [s11]; omega) h12
  have k12 : Below w.heap.size w w12 := h12 ▸ k11.alloc (by rw [s11]; omega) _
  have s13 : w13.heap.size = w.heap.size + 1 + 1 + 1 + 1 + 1 + 1 + 1 + 1 + 1 + 1 + 1 + 1 + 1 := by rw [h13, heap_alloc, s12]
  have b12 : Bx w13 (w.heap.size + 1 + 1 + 1 + 1 + 1 + 1 + 1 + 1 + 1 + 1 + 1 + 1) [.int .i64 0, .int .i64 0, .int .i64 0, .int .i64 0, .slice none 0 0, .int .i64 0, .slice none 0 0, .slice (some ⟨w.heap.size + 1 + 1 + 1 + 1 + 1 + 1 + 1 + 1 + 1 + 1 + 1, 0, none⟩) 2 2, .slice none 0 0, .slice none 0 0, .slice none 0 0, .slice none 0 0, .slice none 0 0, .slice none 0 0, .slice none 0 0] := h13 ▸ bx_new _ [.int .i64 0, .int .i64 0, .int .i64 0, .int .i64 0, .slice none 0 0, .int .i64 0, .slice none 0 0, .slice (some ⟨w.heap.size + 1 + 1 + 1 + 1 + 1 + 1 + 1 + 1 + 1 + 1 + 1, 0, none⟩) 2 2, .slice none 0 0, .slice none 0 0, .slice none 0 0, .slice none 0 0, .slice none 0 0, .slice none 0 0, .slice none 0 0] _ _ s12.symm
  have b0 := b0.alloc1 (by rw [s12]; omega) h13
  have b1 := b1.alloc1 (by rw [s12]; omega) h13
  have b2 := b2.alloc1 (by rw [s12]; omega) h13
  have b3 := b3.alloc1 (by rw [s12]; omega) h13
  have b4 := b4.alloc1 (by rw [s12]; omega) h13
  have b5 := b5.alloc1 (by rw [s12]; omega) h13
  have b6 := b6.alloc1 (by rw [s12]; omega) h13
  have b7 := b7.alloc1 (by rw [s12]; omega) h13
  have b8 := b8.alloc1 (by rw [s12]; omega) h13
  have b9 := b9.alloc1 (by rw [s12]; omega) h13
  have b10 := b10.alloc1 (by rw [s12]; omega) h13
  have b11 := b11.alloc1 (by rw [s12]; omega) h13
  have k13 : Below w.heap.size w w13 := h13 ▸ k12.alloc (by rw [s12]; omega) _
  exact ⟨b0, b1, b2, b3, b4, b5, b6, b7, b8, b9, b10, b11, b12, k13, by rw [s13]; omega⟩

def eOne : Ex := .mk 1 0 1 { data := #[] } []
def eA : Ex := .mk 3 0 0 { data := #[97] } []
def eB : Ex := .mk 2 0 0 { data := #[98] } []
def eSum : Ex := .mk 6 10 0 { data := #[] } [eOne, eA]
def eSum2 : Ex := .mk 6 10 0 { data := #[] } [eA, eB]
def eTitle : Ex := .mk 13 0 0 { data := #[] } [eA]
def sSay : St := .mk 1 0 { data := #[] } [eB, eTitle] [] []
def sStop : St := .mk 13 0 { data := #[] } [] [] []
def sBoth : St := .mk 9 0 { data := #[] } [eOne] [sStop] []

theorem nm_a : IsNm { data := #[97] } := by
  refine ⟨⟨by decide, by decide, by unfold Small; decide, fun i hi => ?_⟩, ?_⟩
  · have hi2 : i < 1 := hi
    obtain rfl : i = 0 := by omega
    exact Or.inl ⟨by show 97 ≤ (97 : UInt8).toNat; decide, by show (97 : UInt8).toNat ≤ 122; decide⟩
  · unfold IsKey
    decide +kernel
theorem tx_b : IsText { data := #[98] } := by
  refine ⟨by decide, fun i hi => ?_⟩
  have hi2 : i < 1 := hi
  obtain rfl : i = 0 := by omega
  exact Or.inl ⟨by show 32 ≤ (98 : UInt8).toNat; decide, by show (98 : UInt8).toNat ≤ 126; decide⟩

theorem right_sum : RightE eSum := by
  refine ⟨by simp [eSum, eOne, eA, Ex.depth, Ex.depths], ?_⟩
  have := nm_a
  simp [eSum, eOne, eA, Src, Srcs, Shaped, hasOf, OpOk, SaidK, Ex.kind, this]
  try rfl
theorem right_sum2 : ¬ RightE eSum2 := by
  rintro ⟨_, h⟩
  simp [eSum2, eA, eB, Src, Srcs, SaidK, Ex.kind] at h
theorem right_say : RightB [sSay] := by
  have h1 := nm_a
  have h2 := tx_b
  refine ⟨by simp [sSay, eB, eTitle, eA, St.depths, St.depth, Ex.depth, Ex.depths], by simp, fun s hs => ?_⟩
  obtain rfl : s = sSay := by simpa using hs
  simp [sSay, StOk, StOks, StGood, partsOf, NameOk, eB, eTitle, eA, Src, Srcs, Shaped, hasOf, OpOk, SaidK, Ex.kind, h1, h2]
  try rfl

set_option maxRecDepth 100000 in
set_option maxHeartbeats 4000000 in
theorem awake_calls (w : World) (hm : MX w) : Calls Try.prog 31 #[] w (Gives w (.bool true)) := by
  go_enter Try.func31, Try.ntmps31
  go_upto_region 6 with fail
  go_cut [7] (fun p wc => p = .pointer (some ⟨w.heap.size + 1 + 1 + 1 + 1 + 1 + 1 + 1 + 1 + 1 + 1 + 1 + 1, 0, none⟩) ∧ AwMem w wc)
  case first =>
    go_wp2_with fail
    go_meet
    case rel =>
      exact ⟨rfl, aw_mem w _ _ _ _ _ _ _ _ _ _ _ _ _ rfl rfl rfl rfl rfl rfl rfl rfl rfl rfl rfl rfl rfl⟩
  case rest =>
    obtain ⟨rfl, m0, m1, m2, m3, m4, m5, m6, m7, m8, m9, m10, m11, m12, hB, hz⟩ := hcut
    have u1_0 : wc.cell? ⟨w.heap.size + 1, 0, none⟩ = some (.int .i64 3) := m1 0 (by simp)
    have u1_1 : wc.cell? ⟨w.heap.size + 1, 1, none⟩ = some (.int .i64 0) := m1 1 (by simp)
    have u1_2 : wc.cell? ⟨w.heap.size + 1, 2, none⟩ = some (.int .i64 0) := m1 2 (by simp)
    have u1_3 : wc.cell? ⟨w.heap.size + 1, 3, none⟩ = some (.string { data := #[97] }) := m1 3 (by simp)
    have u1_4 : wc.cell? ⟨w.heap.size + 1, 4, none⟩ = some (.slice none 0 0) := m1 4 (by simp)
    have u2_0 : wc.cell? ⟨w.heap.size + 1 + 1, 0, none⟩ = some (.int .i64 2) := m2 0 (by simp)
    have u2_1 : wc.cell? ⟨w.heap.size + 1 + 1, 1, none⟩ = some (.int .i64 0) := m2 1 (by simp)
    have u2_2 : wc.cell? ⟨w.heap.size + 1 + 1, 2, none⟩ = some (.int .i64 0) := m2 2 (by simp)
    have u2_3 : wc.cell? ⟨w.heap.size + 1 + 1, 3, none⟩ = some (.string { data := #[98] }) := m2 3 (by simp)
    have u2_4 : wc.cell? ⟨w.heap.size + 1 + 1, 4, none⟩ = some (.slice none 0 0) := m2 4 (by simp)
    have u4_0 : wc.cell? ⟨w.heap.size + 1 + 1 + 1 + 1, 0, none⟩ = some (.int .i64 6) := m4 0 (by simp)
    have u4_1 : wc.cell? ⟨w.heap.size + 1 + 1 + 1 + 1, 1, none⟩ = some (.int .i64 10) := m4 1 (by simp)
    have u4_2 : wc.cell? ⟨w.heap.size + 1 + 1 + 1 + 1, 2, none⟩ = some (.int .i64 0) := m4 2 (by simp)
    have u4_3 : wc.cell? ⟨w.heap.size + 1 + 1 + 1 + 1, 3, none⟩ = some (.string { data := #[] }) := m4 3 (by simp)
    have u4_4 : wc.cell? ⟨w.heap.size + 1 + 1 + 1 + 1, 4, none⟩ = some (.slice (some ⟨w.heap.size + 1 + 1 + 1, 0, none⟩) 2 2) := m4 4 (by simp)
    have u12_0 : wc.cell? ⟨w.heap.size + 1 + 1 + 1 + 1 + 1 + 1 + 1 + 1 + 1 + 1 + 1 + 1, 0, none⟩ = some (.int .i64 0) := m12 0 (by simp)
    have u12_1 : wc.cell? ⟨w.heap.size + 1 + 1 + 1 + 1 + 1 + 1 + 1 + 1 + 1 + 1 + 1 + 1, 1, none⟩ = some (.int .i64 0) := m12 1 (by simp)
    have u12_2 : wc.cell? ⟨w.heap.size + 1 + 1 + 1 + 1 + 1 + 1 + 1 + 1 + 1 + 1 + 1 + 1, 2, none⟩ = some (.int .i64 0) := m12 2 (by simp)
    have u12_3 : wc.cell? ⟨w.heap.size + 1 + 1 + 1 + 1 + 1 + 1 + 1 + 1 + 1 + 1 + 1 + 1, 3, none⟩ = some (.int .i64 0) := m12 3 (by simp)
    have u12_4 : wc.cell? ⟨w.heap.size + 1 + 1 + 1 + 1 + 1 + 1 + 1 + 1 + 1 + 1 + 1 + 1, 4, none⟩ = some (.slice none 0 0) := m12 4 (by simp)
    have u12_5 : wc.cell? ⟨w.heap.size + 1 + 1 + 1 + 1 + 1 + 1 + 1 + 1 + 1 + 1 + 1 + 1, 5, none⟩ = some (.int .i64 0) := m12 5 (by simp)
    have u12_6 : wc.cell? ⟨w.heap.size + 1 + 1 + 1 + 1 + 1 + 1 + 1 + 1 + 1 + 1 + 1 + 1, 6, none⟩ = some (.slice none 0 0) := m12 6 (by simp)
    have u12_7 : wc.cell? ⟨w.heap.size + 1 + 1 + 1 + 1 + 1 + 1 + 1 + 1 + 1 + 1 + 1 + 1, 7, none⟩ = some (.slice (some ⟨w.heap.size + 1 + 1 + 1 + 1 + 1 + 1 + 1 + 1 + 1 + 1 + 1, 0, none⟩) 2 2) := m12 7 (by simp)
    have u12_8 : wc.cell? ⟨w.heap.size + 1 + 1 + 1 + 1 + 1 + 1 + 1 + 1 + 1 + 1 + 1 + 1, 8, none⟩ = some (.slice none 0 0) := m12 8 (by simp)
    have u12_9 : wc.cell? ⟨w.heap.size + 1 + 1 + 1 + 1 + 1 + 1 + 1 + 1 + 1 + 1 + 1 + 1, 9, none⟩ = some (.slice none 0 0) := m12 9 (by simp)
    have u12_10 : wc.cell? ⟨w.heap.size + 1 + 1 + 1 + 1 + 1 + 1 + 1 + 1 + 1 + 1 + 1 + 1, 10, none⟩ = some (.slice none 0 0) := m12 10 (by simp)
    have u12_11 : wc.cell? ⟨w.heap.size + 1 + 1 + 1 + 1 + 1 + 1 + 1 + 1 + 1 + 1 + 1 + 1, 11, none⟩ = some (.slice none 0 0) := m12 11 (by simp)
    have u12_12 : wc.cell? ⟨w.heap.size + 1 + 1 + 1 + 1 + 1 + 1 + 1 + 1 + 1 + 1 + 1 + 1, 12, none⟩ = some (.slice none 0 0) := m12 12 (by simp)
    have u12_13 : wc.cell? ⟨w.heap.size + 1 + 1 + 1 + 1 + 1 + 1 + 1 + 1 + 1 + 1 + 1 + 1, 13, none⟩ = some (.slice none 0 0) := m12 13 (by simp)
    have u12_14 : wc.cell? ⟨w.heap.size + 1 + 1 + 1 + 1 + 1 + 1 + 1 + 1 + 1 + 1 + 1 + 1, 14, none⟩ = some (.slice none 0 0) := m12 14 (by simp)
    have z1 : w.heap.size + 1 < wc.heap.size := by omega
    have z2 : w.heap.size + 1 + 1 < wc.heap.size := by omega
    have z4 : w.heap.size + 1 + 1 + 1 + 1 < wc.heap.size := by omega
    have hI : Inn (fun b => b < wc.heap.size) wc := fun _ h => h
    have rOne : RdEx (fun b => b < wc.heap.size) wc eOne [.int .i64 1, .int .i64 0, .int .i64 1, .string { data := #[] }, .slice none 0 0] := rd_ex (i64 1) (i64 0) (i64 1) (by unfold maxLen; decide) (exs_nil _ _)
    have rA : RdEx (fun b => b < wc.heap.size) wc eA [.int .i64 3, .int .i64 0, .int .i64 0, .string { data := #[97] }, .slice none 0 0] := rd_ex (i64 3) (i64 0) (i64 0) (by unfold maxLen; decide) (exs_nil _ _)
    have rB : RdEx (fun b => b < wc.heap.size) wc eB [.int .i64 2, .int .i64 0, .int .i64 0, .string { data := #[98] }, .slice none 0 0] := rd_ex (i64 2) (i64 0) (i64 0) (by unfold maxLen; decide) (exs_nil _ _)
    have rSum : RdEx (fun b => b < wc.heap.size) wc eSum [.int .i64 6, .int .i64 10, .int .i64 0, .string { data := #[] }, .slice (some ⟨w.heap.size + 1 + 1 + 1, 0, none⟩) 2 2] := rd_ex (i64 6) (i64 10) (i64 0) (by unfold maxLen; decide) (exs_two (by omega) m3 rOne rA)
    have rTitle : RdEx (fun b => b < wc.heap.size) wc eTitle [.int .i64 13, .int .i64 0, .int .i64 0, .string { data := #[] }, .slice (some ⟨w.heap.size + 1 + 1 + 1 + 1 + 1, 0, none⟩) 1 1] := rd_ex (i64 13) (i64 0) (i64 0) (by unfold maxLen; decide) (exs_one (by omega) m5 rA)
    have rSay : Sts (fun b => b < wc.heap.size) wc [sSay] (.slice (some ⟨w.heap.size + 1 + 1 + 1 + 1 + 1 + 1 + 1, 0, none⟩) 1 1) := sts_one (by omega) m7 (rd_st (i64 1) (i64 0) (by unfold maxLen; decide) (exs_two (by omega) m6 rB rTitle) (sts_nil _ _) (sts_nil _ _))
    have rStop : Sts (fun b => b < wc.heap.size) wc [sStop] (.slice (some ⟨w.heap.size + 1 + 1 + 1 + 1 + 1 + 1 + 1 + 1 + 1, 0, none⟩) 1 1) := sts_one (by omega) m9 (rd_st (i64 13) (i64 0) (by unfold maxLen; decide) (exs_nil _ _) (sts_nil _ _) (sts_nil _ _))
    have rBoth : Sts (fun b => b < wc.heap.size) wc [sBoth] (.slice (some ⟨w.heap.size + 1 + 1 + 1 + 1 + 1 + 1 + 1 + 1 + 1 + 1, 0, none⟩) 1 1) := sts_one (by omega) m10 (rd_st (i64 9) (i64 0) (by unfold maxLen; decide) (exs_one (by omega) m8 rOne) rStop (sts_nil _ _))
    have hMc : MX wc := hm.below hB (Nat.le_refl _)
    have C1 := Lib.hid (fun (w' : World) (hb : Below wc.heap.size wc w') => show Calls Try.prog 32 #[.agg #[.int .i64 6, .int .i64 10, .int .i64 0, .string { data := #[] }, .slice (some ⟨w.heap.size + 1 + 1 + 1, 0, none⟩) 2 2]] w' (Gives w' (.bool true)) from by
      have := rightT_calls eSum _ w' _ (hI.below hb) (hMc.below hb (Nat.le_refl _)) (rSum.below hI hb (Nat.le_refl _))
      rwa [dec_true right_sum] at this)
    have C2 := Lib.hid (fun (w' : World) (hb : Below wc.heap.size wc w') => show Calls Try.prog 28 #[.agg #[.int .i64 6, .int .i64 10, .int .i64 0, .string { data := #[] }, .slice (some ⟨w.heap.size + 1 + 1 + 1, 0, none⟩) 2 2]] w' (Gives w' (.int .i64 3)) from by
      have := sizeT_calls eSum _ w' _ (hI.below hb) (by simp [eSum, eOne, eA, Ex.size, Ex.sizes]) (rSum.below hI hb (Nat.le_refl _))
      rwa [show ((eSum.size : Nat) : Int) = 3 from by simp [eSum, eOne, eA, Ex.size, Ex.sizes]] at this)
    have C3 := Lib.hid (fun (w' : World) (hb : Below wc.heap.size wc w') => show Calls Try.prog 39 #[.agg #[.int .i64 6, .int .i64 10, .int .i64 0, .string { data := #[] }, .slice (some ⟨w.heap.size + 1 + 1 + 1, 0, none⟩) 2 2]] w' (Gives w' (.int .i64 2)) from by
      have := depthT_calls eSum _ w' _ (hI.below hb) (rSum.below hI hb (Nat.le_refl _))
      rwa [show ((min eSum.depth 65 : Nat) : Int) = 2 from by simp [eSum, eOne, eA, Ex.depth, Ex.depths]] at this)
    have C4 := Lib.hid (fun (w' : World) (hb : Below wc.heap.size wc w') => show Calls Try.prog 32 #[.agg #[.int .i64 6, .int .i64 10, .int .i64 0, .string { data := #[] }, .slice (some ⟨w'.heap.size, 0, none⟩) 2 2]] (w'.alloc (.cells #[.int .i64 3, .int .i64 0, .int .i64 0, .string { data := #[97] }, .slice none 0 0, .int .i64 2, .int .i64 0, .int .i64 0, .string { data := #[98] }, .slice none 0 0] 35)) (Gives (w'.alloc (.cells #[.int .i64 3, .int .i64 0, .int .i64 0, .string { data := #[97] }, .slice none 0 0, .int .i64 2, .int .i64 0, .int .i64 0, .string { data := #[98] }, .slice none 0 0] 35)) (.bool false)) from by
      have hb2 := hb.alloc hb.size (.cells #[.int .i64 3, .int .i64 0, .int .i64 0, .string { data := #[97] }, .slice none 0 0, .int .i64 2, .int .i64 0, .int .i64 0, .string { data := #[98] }, .slice none 0 0] 35)
      have rS2 : RdEx (fun b => b < w'.heap.size + 1) (w'.alloc (.cells #[.int .i64 3, .int .i64 0, .int .i64 0, .string { data := #[97] }, .slice none 0 0, .int .i64 2, .int .i64 0, .int .i64 0, .string { data := #[98] }, .slice none 0 0] 35)) eSum2 [.int .i64 6, .int .i64 10, .int .i64 0, .string { data := #[] }, .slice (some ⟨w'.heap.size, 0, none⟩) 2 2] :=
        rd_ex (i64 6) (i64 10) (i64 0) (by unfold maxLen; decide) (exs_two (by omega) (bx_new _ _ _ _ rfl) (rd_ex (i64 3) (i64 0) (i64 0) (by unfold maxLen; decide) (exs_nil _ _)) (rd_ex (i64 2) (i64 0) (i64 0) (by unfold maxLen; decide) (exs_nil _ _)))
      have := rightT_calls eSum2 _ _ _ (fun b hbb => by simp; omega) (hMc.below hb2 (Nat.le_refl _)) rS2
      rwa [dec_false right_sum2] at this)
    have C5 := Lib.hid (fun (w' : World) (hb : Below wc.heap.size wc w') => show Calls Try.prog 35 #[.slice (some ⟨w.heap.size + 1 + 1 + 1 + 1 + 1 + 1 + 1, 0, none⟩) 1 1] w' (Gives w' (.bool true)) from by
      have := rightBlock_calls [sSay] _ w' _ (hI.below hb) (hMc.below hb (Nat.le_refl _)) (rSay.below hI hb (Nat.le_refl _))
      rwa [dec_true right_say] at this)
    have C6 := Lib.hid (fun (w' : World) (hb : Below wc.heap.size wc w') => show Calls Try.prog 29 #[.slice (some ⟨w.heap.size + 1 + 1 + 1 + 1 + 1 + 1 + 1 + 1 + 1 + 1, 0, none⟩) 1 1] w' (Gives w' (.int .i64 2)) from by
      have := sizeBT_calls [sBoth] _ w' _ (hI.below hb) (by simp [sBoth, sStop, St.sizes, St.size]) (rBoth.below hI hb (Nat.le_refl _))
      rwa [show ((St.sizes [sBoth] : Nat) : Int) = 2 from by simp [sBoth, sStop, St.sizes, St.size]] at this)
    have C7 := Lib.hid (fun (w' : World) (hb : Below wc.heap.size wc w') => show Calls Try.prog 42 #[.slice (some ⟨w.heap.size + 1 + 1 + 1 + 1 + 1 + 1 + 1 + 1 + 1 + 1, 0, none⟩) 1 1] w' (Gives w' (.int .i64 2)) from by
      have := depthBT_calls [sBoth] _ w' _ (hI.below hb) (rBoth.below hI hb (Nat.le_refl _))
      rwa [show ((min (St.depths [sBoth]) 65 : Nat) : Int) = 2 from by simp [sBoth, sStop, eOne, St.depths, St.depth, Ex.depth, Ex.depths]] at this)
    have C8 := Lib.hid (fun (w' : World) => show Calls Try.prog 26 #[.agg #[.int .i64 0, .int .i64 0, .int .i64 0, .int .i64 0, .slice none 0 0, .int .i64 0, .slice none 0 0, .slice (some ⟨w.heap.size + 1 + 1 + 1 + 1 + 1 + 1 + 1 + 1 + 1 + 1 + 1, 0, none⟩) 2 2, .slice none 0 0, .slice none 0 0, .slice none 0 0, .slice none 0 0, .slice none 0 0, .slice none 0 0, .slice none 0 0], .agg #[.int .i64 14, .int .i64 0, .int .i64 1, .string { data := #[] }, .slice none 0 0], .int .i64 0] w' (Gives w' (.bool true)) from bound_global 1 _ w' (Or.inl rfl))
    have C9 := Lib.hid (fun (w' : World) => show Calls Try.prog 26 #[.agg #[.int .i64 0, .int .i64 0, .int .i64 0, .int .i64 0, .slice none 0 0, .int .i64 0, .slice none 0 0, .slice (some ⟨w.heap.size + 1 + 1 + 1 + 1 + 1 + 1 + 1 + 1 + 1 + 1 + 1, 0, none⟩) 2 2, .slice none 0 0, .slice none 0 0, .slice none 0 0, .slice none 0 0, .slice none 0 0, .slice none 0 0, .slice none 0 0], .agg #[.int .i64 14, .int .i64 0, .int .i64 2, .string { data := #[] }, .slice none 0 0], .int .i64 0] w' (Gives w' (.bool false)) from bound_global 2 _ w' (Or.inr rfl))
    have C10 := Lib.hid (fun (w' : World) (hb : Below wc.heap.size wc w') => show Calls Try.prog 19 #[.agg #[.int .i64 6, .int .i64 10, .int .i64 0, .string { data := #[] }, .slice (some ⟨w.heap.size + 1 + 1 + 1, 0, none⟩) 2 2], .agg #[.int .i64 6, .int .i64 10, .int .i64 0, .string { data := #[] }, .slice (some ⟨w.heap.size + 1 + 1 + 1, 0, none⟩) 2 2]] w' (Gives w' (.bool true)) from by
      have := sameT_calls eSum eSum _ w' _ _ (hI.below hb) (rSum.below hI hb (Nat.le_refl _)) (rSum.below hI hb (Nat.le_refl _))
      rwa [same_self] at this)
    have C11 := Lib.hid (fun (w' : World) (hb : Below wc.heap.size wc w') => show Calls Try.prog 19 #[.agg #[.int .i64 3, .int .i64 0, .int .i64 0, .string { data := #[97] }, .slice none 0 0], .agg #[.int .i64 2, .int .i64 0, .int .i64 0, .string { data := #[98] }, .slice none 0 0]] w' (Gives w' (.bool false)) from by
      have := sameT_calls eA eB _ w' _ _ (hI.below hb) (rA.below hI hb (Nat.le_refl _)) (rB.below hI hb (Nat.le_refl _))
      rwa [same_ne (by simp [eA, eB])] at this)
    have HB := Lib.hid hB
    have hW : Below wc.heap.size wc wc := Below.refl _ _
    clear rOne rA rB rSum rTitle rSay rStop rBoth hMc hI m0 m1 m2 m3 m4 m5 m6 m7 m8 m9 m10 m11 m12 hm hB
    go_wp2_with (first | (go_at_call 32; (first | ((with_reducible refine (C1.out _ (by assumption)).mono ?_); rintro e w' ⟨rfl, hb⟩; have hbo : Below wc.heap.size wc w' := below_on (by assumption) (Nat.le_refl _) hb; obtain ⟨hcl, hfz⟩ := bcell hbo; have y1 := Nat.lt_of_lt_of_le z1 hbo.size; have y2 := Nat.lt_of_lt_of_le z2 hbo.size; have y4 := Nat.lt_of_lt_of_le z4 hbo.size; have y12 := Nat.lt_of_lt_of_le hz hbo.size) | ((with_reducible refine (C4.out _ (by assumption)).mono ?_); rintro e w' ⟨rfl, hb⟩; have hbo : Below wc.heap.size wc w' := below_on1 (by assumption) (Nat.le_refl _) hb; obtain ⟨hcl, hfz⟩ := bcell hbo; have y1 := Nat.lt_of_lt_of_le z1 hbo.size; have y2 := Nat.lt_of_lt_of_le z2 hbo.size; have y4 := Nat.lt_of_lt_of_le z4 hbo.size; have y12 := Nat.lt_of_lt_of_le hz hbo.size))) | (go_at_call 28; (first | ((with_reducible refine (C2.out _ (by assumption)).mono ?_); rintro e w' ⟨rfl, hb⟩; have hbo : Below wc.heap.size wc w' := below_on (by assumption) (Nat.le_refl _) hb; obtain ⟨hcl, hfz⟩ := bcell hbo; have y1 := Nat.lt_of_lt_of_le z1 hbo.size; have y2 := Nat.lt_of_lt_of_le z2 hbo.size; have y4 := Nat.lt_of_lt_of_le z4 hbo.size; have y12 := Nat.lt_of_lt_of_le hz hbo.size))) | (go_at_call 39; (first | ((with_reducible refine (C3.out _ (by assumption)).mono ?_); rintro e w' ⟨rfl, hb⟩; have hbo : Below wc.heap.size wc w' := below_on (by assumption) (Nat.le_refl _) hb; obtain ⟨hcl, hfz⟩ := bcell hbo; have y1 := Nat.lt_of_lt_of_le z1 hbo.size; have y2 := Nat.lt_of_lt_of_le z2 hbo.size; have y4 := Nat.lt_of_lt_of_le z4 hbo.size; have y12 := Nat.lt_of_lt_of_le hz hbo.size))) | (go_at_call 35; (first | ((with_reducible refine (C5.out _ (by assumption)).mono ?_); rintro e w' ⟨rfl, hb⟩; have hbo : Below wc.heap.size wc w' := below_on (by assumption) (Nat.le_refl _) hb; obtain ⟨hcl, hfz⟩ := bcell hbo; have y1 := Nat.lt_of_lt_of_le z1 hbo.size; have y2 := Nat.lt_of_lt_of_le z2 hbo.size; have y4 := Nat.lt_of_lt_of_le z4 hbo.size; have y12 := Nat.lt_of_lt_of_le hz hbo.size))) | (go_at_call 29; (first | ((with_reducible refine (C6.out _ (by assumption)).mono ?_); rintro e w' ⟨rfl, hb⟩; have hbo : Below wc.heap.size wc w' := below_on (by assumption) (Nat.le_refl _) hb; obtain ⟨hcl, hfz⟩ := bcell hbo; have y1 := Nat.lt_of_lt_of_le z1 hbo.size; have y2 := Nat.lt_of_lt_of_le z2 hbo.size; have y4 := Nat.lt_of_lt_of_le z4 hbo.size; have y12 := Nat.lt_of_lt_of_le hz hbo.size))) | (go_at_call 42; (first | ((with_reducible refine (C7.out _ (by assumption)).mono ?_); rintro e w' ⟨rfl, hb⟩; have hbo : Below wc.heap.size wc w' := below_on (by assumption) (Nat.le_refl _) hb; obtain ⟨hcl, hfz⟩ := bcell hbo; have y1 := Nat.lt_of_lt_of_le z1 hbo.size; have y2 := Nat.lt_of_lt_of_le z2 hbo.size; have y4 := Nat.lt_of_lt_of_le z4 hbo.size; have y12 := Nat.lt_of_lt_of_le hz hbo.size))) | (go_at_call 26; (first | ((with_reducible refine (C8.out _).mono ?_); rintro e w' ⟨rfl, hb⟩; have hbo : Below wc.heap.size wc w' := below_on (by assumption) (Nat.le_refl _) hb; obtain ⟨hcl, hfz⟩ := bcell hbo; have y1 := Nat.lt_of_lt_of_le z1 hbo.size; have y2 := Nat.lt_of_lt_of_le z2 hbo.size; have y4 := Nat.lt_of_lt_of_le z4 hbo.size; have y12 := Nat.lt_of_lt_of_le hz hbo.size) | ((with_reducible refine (C9.out _).mono ?_); rintro e w' ⟨rfl, hb⟩; have hbo : Below wc.heap.size wc w' := below_on (by assumption) (Nat.le_refl _) hb; obtain ⟨hcl, hfz⟩ := bcell hbo; have y1 := Nat.lt_of_lt_of_le z1 hbo.size; have y2 := Nat.lt_of_lt_of_le z2 hbo.size; have y4 := Nat.lt_of_lt_of_le z4 hbo.size; have y12 := Nat.lt_of_lt_of_le hz hbo.size))) | (go_at_call 19; (first | ((with_reducible refine (C10.out _ (by assumption)).mono ?_); rintro e w' ⟨rfl, hb⟩; have hbo : Below wc.heap.size wc w' := below_on (by assumption) (Nat.le_refl _) hb; obtain ⟨hcl, hfz⟩ := bcell hbo; have y1 := Nat.lt_of_lt_of_le z1 hbo.size; have y2 := Nat.lt_of_lt_of_le z2 hbo.size; have y4 := Nat.lt_of_lt_of_le z4 hbo.size; have y12 := Nat.lt_of_lt_of_le hz hbo.size) | ((with_reducible refine (C11.out _ (by assumption)).mono ?_); rintro e w' ⟨rfl, hb⟩; have hbo : Below wc.heap.size wc w' := below_on (by assumption) (Nat.le_refl _) hb; obtain ⟨hcl, hfz⟩ := bcell hbo; have y1 := Nat.lt_of_lt_of_le z1 hbo.size; have y2 := Nat.lt_of_lt_of_le z2 hbo.size; have y4 := Nat.lt_of_lt_of_le z4 hbo.size; have y12 := Nat.lt_of_lt_of_le hz hbo.size))))
    go_ret
    exact ⟨rfl, below_on HB.out (Nat.le_refl _) (by assumption)⟩

end Go.Proofs.Ytimdnamhccipjaa
