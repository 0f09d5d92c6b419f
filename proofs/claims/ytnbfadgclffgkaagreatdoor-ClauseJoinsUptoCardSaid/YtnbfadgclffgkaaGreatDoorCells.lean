/- Cells that hold what they hold, carried from world to world. No program in sight. -/
import Derived.Test.YtnbfadgclffgkaaGreatDoorPart505ed502
import Derived.BigQuiet
import Derived.Deep.QuietTactic
namespace Go.Proofs.YtnbfadgclffgkaaGreatDoor
open Go.RowKit
def CA (W : World) : List (Addr × Value) → Prop
  | [] => True
  | p :: l => (p.1.block < W.heap.size ∧ W.cell? p.1 = some p.2) ∧ CA W l
def FA (W : World) : List Addr → Prop
  | [] => True
  | p :: l => (p.block < W.heap.size ∧ ∃ v, W.cell? p = some v ∧ W.frozen? p = false) ∧ FA W l
theorem CA.below {W W' : World} (hb : Below W.heap.size W W') : ∀ {l : List (Addr × Value)}, CA W l → CA W' l
  | [], _ => trivial
  | _ :: _, h => ⟨⟨Nat.lt_of_lt_of_le h.1.1 hb.size, by rw [hb.cell h.1.1]; exact h.1.2⟩, CA.below hb h.2⟩
theorem FA.below {W W' : World} (hb : Below W.heap.size W W') : ∀ {l : List Addr}, FA W l → FA W' l
  | [], _ => trivial
  | _ :: _, h => ⟨⟨Nat.lt_of_lt_of_le h.1.1 hb.size, by obtain ⟨v, h1, h2⟩ := h.1.2; exact ⟨v, by rw [hb.cell h.1.1]; exact h1, by rw [hb.frozen h.1.1]; exact h2⟩⟩, FA.below hb h.2⟩
abbrev five (b off : Nat) (v0 v1 v2 v3 v4 : Value) : List (Addr × Value) := [(⟨b, off, none⟩, v0), (⟨b, off + 1, none⟩, v1), (⟨b, off + 2, none⟩, v2), (⟨b, off + 3, none⟩, v3), (⟨b, off + 4, none⟩, v4)]
end Go.Proofs.YtnbfadgclffgkaaGreatDoor
