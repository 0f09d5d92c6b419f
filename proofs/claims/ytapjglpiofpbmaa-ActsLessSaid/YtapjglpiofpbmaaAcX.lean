/- Boxes in memory; what a step leaves as it is. -/
import Derived.Test.YtapjglpiofpbmaaApp
import Derived.Deep.DeepCutAuto
import Derived.Deep.CutBlock
import Derived.BigQuiet
namespace Go.Proofs.Ytapjglpiofpbmaa
open Go.RowKit
/-- The variable in block x: its cells and its type. -/
def BoxT (w : World) (x : Nat) (cs : List Value) (T : TypeId) : Prop := w.heap[x]? = some (.cells cs.toArray T (0, 0))
theorem BoxT.new (w : World) (cs : List Value) (T : TypeId) : BoxT (w.alloc (.cells cs.toArray T)) w.heap.size cs T := by
  show (w.heap.push _)[w.heap.size]? = _
  exact Array.getElem?_push_size
theorem BoxT.lt {w : World} {x : Nat} {cs : List Value} {T : TypeId} (h : BoxT w x cs T) : x < w.heap.size := by
  rcases Nat.lt_or_ge x w.heap.size with h' | h'
  · exact h'
  · simp [BoxT, Array.getElem?_eq_none h'] at h
theorem BoxT.below {w w' : World} {x : Nat} {cs : List Value} {T : TypeId} (h : BoxT w x cs T) (hk : Below w.heap.size w w') : BoxT w' x cs T := (hk.block x h.lt).trans h
theorem BoxT.cell {w : World} {x : Nat} {cs : List Value} {T : TypeId} (h : BoxT w x cs T) (j : Nat) : w.cell? ⟨x, j, none⟩ = cs[j]? := by
  have : w.heap[x]? = some (.cells cs.toArray T (0, 0)) := h
  simp [World.cell?, this]
theorem btK {a b c : World} (h : Below a.heap.size a b) (k : Below b.heap.size b c) : Below a.heap.size a c := h.trans (k.mono h.size)
end Go.Proofs.Ytapjglpiofpbmaa
