/- The walks of tree.Same, clewref10.Same and clewref10.sameArgs: each tells whether two expressions are equal. -/
import Derived.Test.YtblhpiebheommaaBlockSize
namespace Go.Proofs.Ytblhpiebheommaa
open Go.RowKit Go.Sort

/-- Are the two equal? -/
noncomputable def same {α : Type} (a b : α) : Bool := @decide (a = b) (Classical.propDecidable _)
theorem same_self {α : Type} (a : α) : same a a = true := by simp [same]
theorem same_ne {α : Type} {a b : α} (h : a ≠ b) : same a b = false := by simp [same, h]
theorem same_eq {α : Type} {a b : α} (h : a = b) : same a b = true := by subst h; exact same_self a
theorem same_iff {α : Type} {a b : α} : same a b = true ↔ a = b := by simp [same]

theorem strne {a b : ByteArray} (h : a ≠ b) : (a.toList == b.toList) = false := by
  refine beq_eq_false_iff_ne.2 fun h' => h ?_
  rw [ByteArray.toList_eq, ByteArray.toList_eq] at h'
  obtain ⟨⟨x⟩⟩ := a
  obtain ⟨⟨y⟩⟩ := b
  simp only at h'
  rw [h']



end Go.Proofs.Ytblhpiebheommaa
