/- The walks of tree.SizeBlock and clewref10.SizeBlock. -/
import Derived.Test.YtblhpiebheommaaDeep
namespace Go.Proofs.Ytblhpiebheommaa
open Go.RowKit Go.Sort

/-- A callee's contract in a world of the class 'some blocks laid, some draws', behind a drawn region's begin. -/
theorem regrown_gives {P : Program} {f : FuncId} {args : Array Value} {w : World} {v : Value} (h : ∀ w', Below w.heap.size w w' → Calls P f args w' (Gives w' v)) (p : Regrown) :
    Calls P f args (grow (redrawn w p.d) p.os) fun e w'' => e = .returned v ∧ ∃ p : Regrown, w'' = grow (redrawn w p.d) p.os :=
  Calls.regrown_of ((h _ (below_regrown w p.d p.os)).mono fun _ _ h => h)

theorem below_of_regrown {w w' : World} (h : ∃ p : Regrown, w' = grow (redrawn w p.d) p.os) : Below w.heap.size w w' := by
  obtain ⟨p, rfl⟩ := h
  exact below_regrown w p.d p.os





end Go.Proofs.Ytblhpiebheommaa
