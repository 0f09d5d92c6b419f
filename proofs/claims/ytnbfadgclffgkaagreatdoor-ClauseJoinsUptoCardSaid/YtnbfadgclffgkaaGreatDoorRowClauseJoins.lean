/- The law ClauseJoins returns true at every list of statements, and any number beside it, whose bulk is within the given bound, and leaves them as they were; with its card. Conditions: the listed variables of Go's library read as the program's own text lays them (the card ties them); none else beyond the given row. Printed by gen-rowcl.py. -/
import Derived.Test.YtnbfadgclffgkaaGreatDoorParte3f9353d
namespace Go.Proofs.YtnbfadgclffgkaaGreatDoor
open Go.ChangeShapes Go.WideShapes Go.ChangeAt Go.RowKit
theorem clauseJoins_holds : Rows.ClauseJoinsUptoCardSaid :=
  Claim7.holds_tied_plain_at .later [] Rows.clauseJoinsUptoCard.laidKinds true Rows.clauseJoinsUptoCard.stood.harness Rows.clauseJoinsUptoCard.stood.looks
    clauseJoins_said (fun _ h => by cases h) (by kernel_rfl) (fun _ h => by cases h) clauseJoinsUpto_row_tie rfl ⟨rfl, rfl⟩ (by kernel_rfl) rfl
    (fun f fn hf hfn => by
      obtain rfl : f = 4 := Option.some.inj ((show Tryz.prog.funcNamed "clew/clewlaw12.ClauseJoins" = some 4 by kernel_rfl).symm.trans hf) |>.symm
      obtain rfl : fn = Tryz.f4 := (Option.some.inj (Tryz.func4.symm.trans hfn)).symm
      exact ⟨by kernel_rfl, fun j t ht => by
        rw [Tryz.params4] at ht
        have hm : t ∈ [22, 5] := by simpa using Array.mem_of_getElem? ht
        have hall : ([22, 5].all fun u => !Tryz.prog.wantsStandIn u) = true := by kernel_rfl
        exact (show Tryz.prog.wantsStandIn t = false by simpa using List.all_eq_true.1 hall t hm)⟩)
    (by kernel_rfl)
#print axioms clauseJoins_holds
end Go.Proofs.YtnbfadgclffgkaaGreatDoor
