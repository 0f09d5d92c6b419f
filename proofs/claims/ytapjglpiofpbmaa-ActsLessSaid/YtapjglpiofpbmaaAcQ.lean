/- Regions that draw their order and only read: a load of a whole struct by one rule; callees of which only what they give is told. -/
import Derived.Test.YtapjglpiofpbmaaAcX
import Derived.Lib.QuietBelow
import Derived.Deep.MidRow
namespace Go.Proofs.Ytapjglpiofpbmaa
open Go.RowKit Go.Sort

theorem BoxT.range {w : World} {x : Nat} {cs : List Value} {T : TypeId} (h : BoxT w x cs T) : w.rangeAt x 0 cs := fun j v hv => by rw [Nat.zero_add]; exact (h.cell j).trans hv
theorem quiet_load {P : Program} {C : World → Prop} {a : Act} {o : Oper} {K : Act → Prop} (ty : TypeId) (x : Operand) (h : o.op = .load ty x) (p : Addr) (hx : a.eval x = .pointer (some p)) (v : Value) (hL : ∀ w, C w → (Instr.loadAt ty (.pointer (some p))).run P w = .ok v w) (hk : K (a.put o.dst v)) : o.quiet P a C K :=
  ⟨v, fun w hw => by unfold Oper.quietAt; simp only [execOp, h, hx, Sem.run_bind, hL w hw, Result.andThen_ok, Sem.run_pure, Oper.quietUpon, and_self], hk⟩
theorem regrownG {P : Program} {f : FuncId} {args : Array Value} {w : World} {v : Value} (h : ∀ w', Below w.heap.size w w' → Calls P f args w' (Gives w' v)) (p : Regrown) :
    Calls P f args (grow (redrawn w p.d) p.os) fun e w'' => e = .returned v ∧ ∃ p : Regrown, w'' = grow (redrawn w p.d) p.os :=
  Calls.regrown_of ((h _ (below_regrown w p.d p.os)).mono fun _ _ h => h)
theorem below_of_regrown {w w' : World} (h : ∃ p : Regrown, w' = grow (redrawn w p.d) p.os) : Below w.heap.size w w' := by
  obtain ⟨p, rfl⟩ := h
  exact below_regrown w p.d p.os
end Go.Proofs.Ytapjglpiofpbmaa
