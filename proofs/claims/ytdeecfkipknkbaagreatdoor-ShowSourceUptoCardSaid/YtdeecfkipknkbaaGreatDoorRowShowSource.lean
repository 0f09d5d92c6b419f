/- The law ShowSource returns true at every source whose bulk is within the given bound, and leaves it as it was; and its card. Conditions: the listed variables of Go's library read as the program's own text lays them (the card ties them); none else beyond the given row. Printed by gen-rowlaidu.py. -/
import Derived.Test.YtdeecfkipknkbaaGreatDoorRowShowB
namespace Go.Proofs.YtdeecfkipknkbaaGreatDoor
open Go.ChangeShapes Go.WideShapes Go.ChangeAt Go.RowKit
theorem kf1 : Rows.showSourceUptoRow.wfByText (Rows.OpenSpec.upto Rows.showSourceSpec) = true := by kernel_rfl
theorem kf2 : Tryz.prog.mainIs = some (Rows.showSourceUptoCard.stood.harness.1, Rows.showSourceUptoCard.stood.harness.2.toList) := by kernel_rfl
theorem kf3 : Tryz.prog.funcNamed "clew/clewlaw14.ShowSource" = some 3 := by kernel_rfl
theorem kf4 : Rows.showSourceUptoCard.stood.looks = Tryz.prog.looks [] := by kernel_rfl
theorem kf5 : ([29].all fun u => !Tryz.prog.wantsStandIn u) = true := by kernel_rfl
theorem kf6 : false = Rows.showSourceUptoRow.goesBy Tryz.prog := by kernel_rfl
theorem showSource_holds : Rows.ShowSourceUptoCardSaid :=
 Claim7.holds_tied_plain_at .later [] Rows.showSourceUptoCard.laidKinds true Rows.showSourceUptoCard.stood.harness Rows.showSourceUptoCard.stood.looks
  showSource_said (fun _ h => by cases h) kf1 (fun _ h => by cases h) showSourceUpto_row_tie rfl ⟨rfl, rfl⟩ kf2 rfl
  (fun f fn hf hfn => by
   obtain rfl : f = 3 := Option.some.inj (kf3.symm.trans hf) |>.symm
   obtain rfl : fn = Tryz.f3 := (Option.some.inj (Tryz.func3.symm.trans hfn)).symm
   exact ⟨kf4, fun j t ht => by
    rw [Tryz.params3] at ht
    have hm : t ∈ [29] := by simpa using Array.mem_of_getElem? ht
    exact (show Tryz.prog.wantsStandIn t = false by simpa using List.all_eq_true.1 kf5 t hm)⟩)
  kf6
#print axioms showSource_holds
end Go.Proofs.YtdeecfkipknkbaaGreatDoor
