/- The law TreeSame returns true at every expression, expression, list of statements, list of statements, and leaves them as they were. Conditions: none beyond the given row (TreeSameSaid). (Printed by gen-row.py.) -/
import Derived.Test.YtimdnamhccipjaaRowBase
import Derived.Test.YtimdnamhccipjaaLawSame
namespace Go.Proofs.Ytimdnamhccipjaa
open Go.ChangeShapes Go.WideShapes Go.ChangeAt Go.RowKit

set_option maxRecDepth 100000 in
theorem treeSame_lifted (os : Os) (started : os.Started) (H : Type) (enc : TypeId × Value → H) :
    ReturnsInHanded {} Try.checked os 11 .any (Rows.treeSameSpec.pre6 enc Try.prog Try.f11 Rows.treeSameRow.domain false) (Rows.treeSameSpec.post enc Try.prog Try.f11 false true false false) := by
  refine returnsInHanded_of_change_shaped (C := Try.checked) Try.own started (by kernel_rfl) Try.func11
    (ChangeSpec.witness6 (enc := enc) (C := Try.checked) false ⟨#[], #[.agg #[.int .i64 0, .int .i64 0, .int .i64 0, .string ⟨#[]⟩, .slice none 0 0], .agg #[.int .i64 0, .int .i64 0, .int .i64 0, .string ⟨#[]⟩, .slice none 0 0], .slice none 0 0, .slice none 0 0], []⟩ 8 (by kernel_rfl) (by kernel_rfl) (by kernel_rfl) (by kernel_rfl)) ?_
  intro W base args ds gs before hval0 hW hcnd _ hsh _
  have hval : ∀ (j : Nat) t v, Try.f11.params[j]? = some t → args[j]? = some v → Value.okWide Try.prog W .any base t v := hval0
  have hW' := hW
  obtain ⟨p, q, hA0, hV, rfl, hfz, hnd⟩ := hW
  have hA : DataW.TrodAll enc Try.prog W 0 (fun _ => true) true Try.f11.params.toList args.toList ds p := hA0
  rw [Try.params11] at hA hval
  obtain ⟨v0, v1, v2, v3, d0, d1, d2, d3, p0, p1, p2, p3, rfl, rfl, rfl, h0, h1, h2, h3⟩ := trodAll_four hA
  obtain ⟨rfl, rfl⟩ := trodVars_none hV
  clear hA0 hval0
  simp only [List.append_nil] at hW'
  have hlt : ∀ x ∈ p0 ++ (p1 ++ (p2 ++ p3)), x.block < W.heap.size := fun x hx => by simpa using hW'.lt x (by simpa using hx)
  obtain ⟨e0, cs0, rfl, he0⟩ := arg_ex (hval 0 _ v0 rfl rfl) h0
  obtain ⟨e1, cs1, rfl, he1⟩ := arg_ex (hval 1 _ v1 rfl rfl) h1
  obtain ⟨e2, he2⟩ := arg_sts (hval 2 _ v2 rfl rfl) h2
  obtain ⟨e3, he3⟩ := arg_sts (hval 3 _ v3 rfl rfl) h3
  refine (treeSame_calls e0 e1 e2 e3 _ W cs0 cs1 v2 v3 (inn W) (mx_of hsh) he0 he1 he2 he3).mono fun r W' ⟨hr, hb⟩ => ?_
  subst hr
  exact ⟨_, rfl, ⟨_, _, _, [], _, [], hW', shut_true, trodAll_mk4 (same_ex h0 hb fun x hx => hlt x (by simp [hx])) (same_ex h1 hb fun x hx => hlt x (by simp [hx])) (same_sts h2 hb fun x hx => hlt x (by simp [hx])) (same_sts h3 hb fun x hx => hlt x (by simp [hx])), rfl, hb.frame _, fun h => by cases h⟩⟩

theorem treeSame_holds : Rows.TreeSameSaid :=
  OpenClaim.holds_of_wide 11 Try.f11 rfl rfl rfl rfl rfl rfl rfl ⟨rfl, rfl, rfl, rfl, rfl⟩ rfl rfl rfl rfl rfl (by kernel_rfl) Try.func11 (by kernel_rfl)
    (of_decide_eq_true (by kernel_rfl)) (by unfold Func.isWrapper; rw [if_neg (by decide +kernel)]; exact ⟨rfl, rfl⟩)
    (fun os started H enc _ => treeSame_lifted os started H enc)

#print axioms treeSame_holds
end Go.Proofs.Ytimdnamhccipjaa
