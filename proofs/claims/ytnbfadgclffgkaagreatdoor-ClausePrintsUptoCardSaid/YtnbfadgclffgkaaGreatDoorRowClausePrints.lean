/- The law ClausePrints returns true at every list of statements, and any number beside it, whose bulk is within the given bound, and leaves them as they were; with its card. Conditions: the listed variables of Go's library read as the program's own text lays them (the card ties them); none else beyond the given row. Printed by gen-rowcl.py. -/
import Derived.Test.YtnbfadgclffgkaaGreatDoorPart4348ff2d
namespace Go.Proofs.YtnbfadgclffgkaaGreatDoor
open Go.ChangeShapes Go.WideShapes Go.ChangeAt Go.RowKit
theorem clausePrints_holds : Rows.ClausePrintsUptoCardSaid :=
  Claim7.holds_tied_plain_at .later [] Rows.clausePrintsUptoCard.laidKinds true Rows.clausePrintsUptoCard.stood.harness Rows.clausePrintsUptoCard.stood.looks
    clausePrints_said (fun _ h => by cases h) (by kernel_rfl) (fun _ h => by cases h) clausePrintsUpto_row_tie rfl ⟨rfl, rfl⟩ (by kernel_rfl) rfl
    (fun f fn hf hfn => by
      obtain rfl : f = 3 := Option.some.inj ((show Tryz.prog.funcNamed "clew/clewlaw12.ClausePrints" = some 3 by kernel_rfl).symm.trans hf) |>.symm
      obtain rfl : fn = Tryz.f3 := (Option.some.inj (Tryz.func3.symm.trans hfn)).symm
      exact ⟨by kernel_rfl, fun j t ht => by
        rw [Tryz.params3] at ht
        have hm : t ∈ [22, 3] := by simpa using Array.mem_of_getElem? ht
        have hall : ([22, 3].all fun u => !Tryz.prog.wantsStandIn u) = true := by kernel_rfl
        exact (show Tryz.prog.wantsStandIn t = false by simpa using List.all_eq_true.1 hall t hm)⟩)
    (by kernel_rfl)
#print axioms clausePrints_holds
end Go.Proofs.YtnbfadgclffgkaaGreatDoor
