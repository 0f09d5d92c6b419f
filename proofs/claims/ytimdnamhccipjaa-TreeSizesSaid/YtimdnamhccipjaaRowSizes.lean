/- The law TreeSizes of layer tree returns true at every expression and every list of statements, and leaves them as they were. Conditions: none beyond the given row (TreeSizesSaid). -/
import Derived.Test.YtimdnamhccipjaaRowBase
import Derived.Test.YtimdnamhccipjaaLawSizes
namespace Go.Proofs.Ytimdnamhccipjaa
open Go.ChangeShapes Go.WideShapes Go.ChangeAt Go.RowKit

set_option maxRecDepth 100000 in
theorem treeSizes_lifted (os : Os) (started : os.Started) (H : Type) (enc : TypeId × Value → H) :
    ReturnsInHanded {} Try.checked os 10 .any (Rows.treeSizesSpec.pre6 enc Try.prog Try.f10 Rows.treeSizesRow.domain false) (Rows.treeSizesSpec.post enc Try.prog Try.f10 false true false false) := by
  refine returnsInHanded_of_change_shaped (C := Try.checked) Try.own started (by kernel_rfl) Try.func10
    (ChangeSpec.witness6 (enc := enc) (C := Try.checked) false ⟨#[], #[.agg #[.int .i64 0, .int .i64 0, .int .i64 0, .string ⟨#[]⟩, .slice none 0 0], .slice none 0 0], []⟩ 8 (by kernel_rfl) (by kernel_rfl) (by kernel_rfl) (by kernel_rfl)) ?_
  intro W base args ds gs before hval0 hW hcnd _ hsh _
  have hval : ∀ (j : Nat) t v, Try.f10.params[j]? = some t → args[j]? = some v → Value.okWide Try.prog W .any base t v := hval0
  have hW' := hW
  obtain ⟨p, q, hA0, hV, rfl, hfz, hnd⟩ := hW
  have hA : DataW.TrodAll enc Try.prog W 0 (fun _ => true) true Try.f10.params.toList args.toList ds p := hA0
  rw [Try.params10] at hA hval
  obtain ⟨v0, v1, d0, d1, p0, p1, rfl, rfl, rfl, h0, h1⟩ := trodAll_two hA
  obtain ⟨rfl, rfl⟩ := trodVars_none hV
  clear hA0 hval0
  simp only [List.append_nil] at hW'
  have hlt : ∀ x ∈ p0 ++ p1, x.block < W.heap.size := fun x hx => by simpa using hW'.lt x hx
  obtain ⟨e, cs, rfl, he⟩ := arg_ex (hval 0 _ v0 rfl rfl) h0
  obtain ⟨l, hl⟩ := arg_sts (hval 1 _ v1 rfl rfl) h1
  refine (treeSizes_calls e l _ W cs v1 (inn W) (mx_of hsh) he hl).mono fun r W' ⟨hr, hb⟩ => ?_
  subst hr
  exact ⟨_, rfl, ⟨_, _, _, [], _, [], hW', shut_true, trodAll_mk2 (same_ex h0 hb fun x hx => hlt x (List.mem_append_left _ hx)) (same_sts h1 hb fun x hx => hlt x (List.mem_append_right _ hx)), rfl, hb.frame _, fun h => by cases h⟩⟩

theorem treeSizes_holds : Rows.TreeSizesSaid :=
  OpenClaim.holds_of_wide 10 Try.f10 rfl rfl rfl rfl rfl rfl rfl ⟨rfl, rfl, rfl, rfl, rfl⟩ rfl rfl rfl rfl rfl (by kernel_rfl) Try.func10 (by kernel_rfl)
    (of_decide_eq_true (by kernel_rfl)) (by unfold Func.isWrapper; rw [if_neg (by decide +kernel)]; exact ⟨rfl, rfl⟩)
    (fun os started H enc _ => treeSizes_lifted os started H enc)

#print axioms treeSizes_holds
end Go.Proofs.Ytimdnamhccipjaa
