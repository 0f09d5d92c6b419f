/- The law ActsLess returns true at every command, command, command, and leaves them as they were. Conditions: none beyond the given row (ActsLessSaid). (Printed by gen-rowacts.py.) -/
import Derived.Test.YtapjglpiofpbmaaRows
import Derived.Test.YtapjglpiofpbmaaAfK
import Derived.Test.YtapjglpiofpbmaaAfM
namespace Go.Proofs.Ytapjglpiofpbmaa
open Go.ChangeShapes Go.WideShapes Go.ChangeAt Go.RowKit

set_option maxRecDepth 100000 in
theorem actsLess_lifted (os : Os) (started : os.Started) (H : Type) (enc : TypeId × Value → H) :
    ReturnsInHanded {} Try.checked os 3 .any (Rows.actsLessSpec.pre6 enc Try.prog Try.f3 Rows.actsLessRow.domain false) (Rows.actsLessSpec.post enc Try.prog Try.f3 false true false false) := by
  refine returnsInHanded_of_change_shaped (C := Try.checked) Try.own started (by kernel_rfl) Try.func3
    (ChangeSpec.witness6 (enc := enc) (C := Try.checked) false ⟨#[], #[.agg #[.int .i64 0, .int .i64 0, .int .i64 0, .int .i64 0, .int .i64 0], .agg #[.int .i64 0, .int .i64 0, .int .i64 0, .int .i64 0, .int .i64 0], .agg #[.int .i64 0, .int .i64 0, .int .i64 0, .int .i64 0, .int .i64 0]], []⟩ 8 (by kernel_rfl) (by kernel_rfl) (by kernel_rfl) (by kernel_rfl)) ?_
  intro W base args ds gs before hval0 hW hcnd _ hsh _
  have hval : ∀ (j : Nat) t v, Try.f3.params[j]? = some t → args[j]? = some v → Value.okWide Try.prog W .any base t v := hval0
  have hW' := hW
  obtain ⟨p, q, hA0, hV, rfl, hfz, hnd⟩ := hW
  have hA : DataW.TrodAll enc Try.prog W 0 (fun _ => true) true Try.f3.params.toList args.toList ds p := hA0
  rw [Try.params3] at hA hval
  obtain ⟨v0, v1, v2, d0, d1, d2, p0, p1, p2, rfl, rfl, rfl, h0, h1, h2⟩ := trodAll_three hA
  obtain ⟨rfl, rfl⟩ := trodVars_none hV
  clear hA0 hval0
  simp only [List.append_nil] at hW'
  have hlt : ∀ x ∈ p0 ++ (p1 ++ p2), x.block < W.heap.size := fun x hx => by simpa using hW'.lt x (by simpa using hx)
  obtain ⟨e0, cs0, rfl, he0⟩ := arg_cmd (hval 0 _ v0 rfl rfl) h0
  obtain ⟨e1, cs1, rfl, he1⟩ := arg_cmd (hval 1 _ v1 rfl rfl) h1
  obtain ⟨e2, cs2, rfl, he2⟩ := arg_cmd (hval 2 _ v2 rfl rfl) h2
  rw [cmd_cells he0]
  rw [cmd_cells he1]
  rw [cmd_cells he2]
  refine (actsLess_calls e0 e1 e2 (fit_cmd he0) (fit_cmd he1) (fit_cmd he2) W).mono fun r W' ⟨hr, hb⟩ => ?_
  subst hr
  rw [← cmd_cells he0]
  rw [← cmd_cells he1]
  rw [← cmd_cells he2]
  exact ⟨_, rfl, ⟨_, _, _, [], _, [], hW', shut_true, trodAll_mk3 (same_cmd h0 hb fun x hx => hlt x (by simp [hx])) (same_cmd h1 hb fun x hx => hlt x (by simp [hx])) (same_cmd h2 hb fun x hx => hlt x (by simp [hx])), rfl, hb.frame _, fun h => by cases h⟩⟩

theorem actsLess_holds : Rows.ActsLessSaid :=
  OpenClaim.holds_of_wide 3 Try.f3 rfl rfl rfl rfl rfl rfl rfl ⟨rfl, rfl, rfl, rfl, rfl⟩ rfl rfl rfl rfl rfl (by kernel_rfl) Try.func3 (by kernel_rfl)
    (of_decide_eq_true (by kernel_rfl)) (by unfold Func.isWrapper; rw [if_neg (by decide +kernel)]; exact ⟨rfl, rfl⟩)
    (fun os started H enc _ => actsLess_lifted os started H enc)

#print axioms actsLess_holds
end Go.Proofs.Ytapjglpiofpbmaa
