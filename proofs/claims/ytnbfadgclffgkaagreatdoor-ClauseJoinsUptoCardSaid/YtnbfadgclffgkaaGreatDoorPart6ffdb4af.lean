/- Reading a Source from a row's arguments. Printed by gen-reads.py. -/
import Derived.Test.YtnbfadgclffgkaaGreatDoorRead
import Derived.Test.YtnbfadgclffgkaaGreatDoorPart505ed502
namespace Go.Proofs.YtnbfadgclffgkaaGreatDoor
open Go.RowKit Go.ChangeShapes Go.WideShapes
instance : Inhabited ByteArray := ⟨⟨#[]⟩⟩
instance : Inhabited PairD := ⟨⟨⟨#[]⟩, 0⟩⟩
instance : Inhabited ExitD := ⟨⟨0, ⟨#[]⟩, ⟨#[]⟩, []⟩⟩
instance : Inhabited ObjD := ⟨⟨⟨#[]⟩, ⟨#[]⟩, ⟨#[]⟩, ⟨#[]⟩, false, [], [], [], [], []⟩⟩
instance : Inhabited SlotD := ⟨⟨0, []⟩⟩
instance : Inhabited VerbD := ⟨⟨⟨#[]⟩, false, []⟩⟩
instance : Inhabited RuleD := ⟨⟨⟨#[]⟩, 0, ⟨#[]⟩, ⟨#[]⟩, [], []⟩⟩
instance : Inhabited FuncD := ⟨⟨⟨#[]⟩, [], []⟩⟩
section
variable {H : Type} {enc : TypeId × Value → H} {W : World} {sp : Nat → Bool} {held : Bool}
end
end Go.Proofs.YtnbfadgclffgkaaGreatDoor
/- What the bulk of a slice's reading tells of its length. -/
namespace Go.Proofs.YtnbfadgclffgkaaGreatDoor
open Go.RowKit Go.ChangeShapes Go.WideShapes
theorem bulk_one {H : Type} (d : DataW H) : 1 ≤ Rows.uptoBulk d := by
  cases d
  all_goals (unfold Rows.uptoBulk; first | omega | (split <;> omega))
end Go.Proofs.YtnbfadgclffgkaaGreatDoor
