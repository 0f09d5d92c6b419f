/- The small tests of the references 1, 4 and 19 that a table's check calls. Printed by gen-ac1.py. -/
import Derived.Test.YtapjglpiofpbmaaPartd43a9619
import Derived.Test.YtapjglpiofpbmaaApp
import Derived.Test.YtapjglpiofpbmaaShelf
import Derived.BigQuiet
namespace Go.Proofs.Ytapjglpiofpbmaa
open Go.RowKit

/-- A call that gives some truth value and makes nothing. -/
def Some0 (w : World) (e : Ending) (w' : World) : Prop := ∃ b : Bool, e = .returned (.bool b) ∧ w = w'
/-- A call that gives some truth value, under which P holds, and makes nothing. -/
def SomeP (P : Prop) (w : World) (e : Ending) (w' : World) : Prop := ∃ b : Bool, e = .returned (.bool b) ∧ (b = true → P) ∧ w = w'
theorem getI_mem {l : List Int} {P : Int → Prop} (h : ∀ i (hi : i < l.length), P l[i]) : ∀ x ∈ l, P x := fun x hx => by
  obtain ⟨i, hi, rfl⟩ := List.getElem_of_mem hx
  exact h i hi

end Go.Proofs.Ytapjglpiofpbmaa
