/- clewref19's tests of a text's, a routine's and a thing's number; rows of numbers and of words. Printed by gen-ac2.py. -/
import Derived.Test.YtapjglpiofpbmaaAcB
import Derived.Test.YtapjglpiofpbmaaAcX
namespace Go.Proofs.Ytapjglpiofpbmaa
open Go.RowKit

/-- A call that gives some truth value. -/
def SomeB (w : World) (e : Ending) (w' : World) : Prop := ∃ b : Bool, e = .returned (.bool b) ∧ Below w.heap.size w w'
/-- A call that gives some truth value, under which P holds. -/
def SomeQ (P : Prop) (w : World) (e : Ending) (w' : World) : Prop := ∃ b : Bool, e = .returned (.bool b) ∧ (b = true → P) ∧ Below w.heap.size w w'
/-- Is it a text's number (or -1, if that may be)? -/
def textF (t : TabD) (n : Int) (none : Bool) : Bool := (decide (0 ≤ n) && decide (n ≤ (t.texts.length : Int) - 1)) || (none && decide (n = -1))
/-- Is it the number of a routine without params (or -1, if that may be)? -/
def routF (t : TabD) (n : Int) (none : Bool) : Bool := (none && decide (n = -1)) || ((decide (0 ≤ n) && decide (n ≤ (t.params.length : Int) - 1)) && decide (t.params.getD n.toNat 0 = 0))
end Go.Proofs.Ytapjglpiofpbmaa
/- clewref19's bits, nothing, room, ends, ways and Line. Printed by gen-ac3.py. -/
namespace Go.Proofs.Ytapjglpiofpbmaa
open Go.RowKit

end Go.Proofs.Ytapjglpiofpbmaa
