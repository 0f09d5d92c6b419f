/- The law ClauseJoins returns true at every list of statements, and any number beside it, whose bulk is within the given bound, and leaves them as they were. Conditions: the listed variables of Go's library read as the program's own text lays them (the card ties them); none else beyond the given row. Printed by gen-rowcl.py. -/
import Derived.Test.YtnbfadgclffgkaaGreatDoorRowCBase
import Derived.Test.YtnbfadgclffgkaaGreatDoorCards
import Derived.Test.YtnbfadgclffgkaaGreatDoorTie
import Derived.Stop.Joined
import Derived.SevenTiedAt
namespace Go.Proofs.YtnbfadgclffgkaaGreatDoor
open Go.ChangeShapes Go.WideShapes Go.ChangeAt Go.RowKit
theorem clauseJoins_door (os : Os) (args : Array Value) : laidMetH Tryz.prog Rows.clauseJoinsUptoRow.laid ((World.doorLaid Tryz.prog 48 os).forCall (fun _ _ => 0) ⟨#[], args, []⟩).memory :=
  laidMetH_of_parts3 (fuel := 8) (laidMet_of_run' 8 (by kernel_rfl) (by kernel_rfl)) (by kernel_rfl) (by kernel_rfl)
theorem clauseJoins_vars {W : World} (h : laidMetH Tryz.prog Rows.clauseJoinsUptoRow.laid W) : TB W := by
  have h2 : laidMet Tryz.prog (Rows.clauseJoinsUptoRow.laid.filter fun x => x.2.handleName?.isNone) W := by
    unfold laidMetH at h
    split at h
    · rename_i e
      have e2 : (Rows.clauseJoinsUptoRow.laid.filter fun x => x.2.handleName?.isNone) = Rows.clauseJoinsUptoRow.laid := by kernel_rfl
      rw [e2]
      exact h
    · exact h.1
  obtain ⟨ps, hv, -⟩ := h2
  refine tabIs_of_vars (g := 1) (by kernel_rfl) (by kernel_rfl) Tryz.underlying191 Tryz.underlying122 (by kernel_rfl) (by kernel_rfl) _ _ hv ?_
  refine List.mem_of_getElem? (i := 2) ?_
  kernel_rfl
set_option maxRecDepth 100000 in
theorem clauseJoins_lifted (os : Os) (started : os.Started) (H : Type) (enc : TypeId × Value → H) (I : Stop.Interp) :
    ReturnsInHanded {} Tryz.checked os 4 .any (fun w args => ((Rows.OpenSpec.upto Rows.clauseJoinsSpec).pre enc Tryz.prog Tryz.f4 Rows.clauseJoinsUptoRow.domain false w args ∧ laidMetH Tryz.prog Rows.clauseJoinsUptoRow.laid w) ∧ sizedMet enc Tryz.prog Tryz.f4 (Rows.OpenSpec.upto Rows.clauseJoinsSpec) false w args)
      (((Rows.OpenSpec.upto Rows.clauseJoinsSpec).at I).post enc Tryz.prog Tryz.f4 false true false false) := by
  refine returnsInHanded_laid_bounded (C := Tryz.checked) (s := (Rows.OpenSpec.upto Rows.clauseJoinsSpec)) (k := Rows.uptoSmall) rfl (X := (fun w _ => laidMetH Tryz.prog Rows.clauseJoinsUptoRow.laid w)) (fun _ _ _ hh h => h.of_heap hh) Tryz.own started (by kernel_rfl) Tryz.func4
    (OpenSpec.witness_laid (enc := enc) (C := Tryz.checked) (s := (Rows.OpenSpec.upto Rows.clauseJoinsSpec)) (k := Rows.uptoSmall) (X := (fun w _ => laidMetH Tryz.prog Rows.clauseJoinsUptoRow.laid w)) rfl false (World.doorLaid Tryz.prog 48 os) #[.slice none 0 0, .int .u8 0] 8 rfl (World.shaped_of_RefB (by kernel_rfl) (by kernel_rfl)) (by kernel_rfl)
      (x := ([.nil, .lit (.int .u8 0)], [], [])) (by kernel_rfl) rfl (by kernel_rfl) (by kernel_rfl) (clauseJoins_door os _)) ?_
  intro W base args ds gs before hval0 hW hk hX _
  have hval : ∀ (j : Nat) t v, Tryz.f4.params[j]? = some t → args[j]? = some v → Value.okWide Tryz.prog W .any base t v := hval0
  have hW' := hW
  obtain ⟨p, q, hA0, hV, rfl, hfz, hnd⟩ := hW
  have hA : DataW.TrodAll enc Tryz.prog W 0 (fun _ => true) true Tryz.f4.params.toList args.toList ds p := hA0
  rw [Tryz.params4] at hA hval
  obtain ⟨v0, v1, d0, d1, p0, p1, rfl, rfl, rfl, h0, h1⟩ := trodAll_two hA
  obtain ⟨rfl, rfl⟩ := trodVars_none hV
  clear hA0 hval0
  simp only [List.append_nil] at hW' hk
  have hlt : ∀ x ∈ p0 ++ p1, x.block < W.heap.size := fun x hx => by simpa using hW'.lt x (by simpa using hx)
  obtain ⟨e0, he0, hb0⟩ := arg_sts_bulk (hval 0 _ v0 rfl rfl) h0
  obtain ⟨e1, hu1, rfl⟩ := arg_u8 (hval 1 _ v1 rfl rfl)
  have hk0 : Rows.uptoBulk d0 ≤ 1048576 := Nat.le_trans (bulk_le (l := [d0, d1]) (by simp)) (bulk_bound hk)
  have hTB := clauseJoins_vars hX
  refine (clauseJoins_calls e0 e1 hu1 _ W _ (inn W) hTB he0 (Nat.le_trans hb0 hk0)).mono fun r W' ⟨hr, hb⟩ => ?_
  subst hr
  exact ⟨_, rfl, ⟨_, _, _, [], _, [], hW', shut_true, trodAll_mk2 (same_sts h0 hb fun x hx => hlt x (by simp [hx])) (same_u8 h1 hb fun x hx => hlt x (by simp [hx])), rfl, hb.frame _, fun h => by cases h⟩⟩
end Go.Proofs.YtnbfadgclffgkaaGreatDoor
/- The row of ClauseJoins, of bounded bulk, holds. Printed by gen-rowcl.py. -/
namespace Go.Proofs.YtnbfadgclffgkaaGreatDoor
open Go.ChangeShapes Go.WideShapes Go.ChangeAt Go.RowKit
theorem clauseJoins_said : Rows.ClauseJoinsUptoSaid :=
  OpenClaim.holds_of_cond 4 Tryz.f4 rfl rfl rfl rfl rfl rfl rfl ⟨rfl, rfl, rfl, rfl, rfl⟩ rfl rfl rfl rfl rfl (by kernel_rfl) Tryz.func4 (by kernel_rfl)
    (of_decide_eq_true (by kernel_rfl)) (by unfold Func.isWrapper; rw [if_neg (by decide +kernel)]; exact ⟨rfl, rfl⟩)
    (fun os started H enc _ I => clauseJoins_lifted os started H enc I)
end Go.Proofs.YtnbfadgclffgkaaGreatDoor
