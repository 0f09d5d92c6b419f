/- The law KindsBlocks returns true at every source, list of names, number, list of statements whose bulk is within the given bound, and leaves them as they were. Conditions: none beyond the given row (KindsBlocksUptoSaid). (Printed by gen-upto.py.) -/
import Derived.Test.YtblhpiebheommaaKindsBlocksPart6
import Derived.Test.YtblhpiebheommaaKindsBlocksPart30
import Derived.JoinedCond
namespace Go.Proofs.Ytblhpiebheommaa
open Go.ChangeShapes Go.WideShapes Go.ChangeAt Go.RowKit

set_option maxRecDepth 100000 in
theorem kindsBlocks_lifted (os : Os) (started : os.Started) (H : Type) (enc : TypeId × Value → H) (I : Stop.Interp) :
    ReturnsInHanded {} Try.checked os 4 .any ((Rows.OpenSpec.upto Rows.kindsBlocksSpec).pre6 enc Try.prog Try.f4 Rows.kindsBlocksUptoRow.domain false) (((Rows.OpenSpec.upto Rows.kindsBlocksSpec).at I).post enc Try.prog Try.f4 false true false false) := by
  refine returnsInHanded_of_cond (C := Try.checked) (s := Rows.OpenSpec.upto Rows.kindsBlocksSpec) (k := Rows.uptoSmall) rfl Try.own started (by kernel_rfl) Try.func4
    (OpenSpec.witness (enc := enc) (C := Try.checked) (s := Rows.OpenSpec.upto Rows.kindsBlocksSpec) (k := Rows.uptoSmall) rfl false ⟨#[], #[.agg #[.string ⟨#[]⟩, .string ⟨#[]⟩, .string ⟨#[]⟩, .int .i64 0, .int .i64 0, .slice none 0 0, .slice none 0 0, .slice none 0 0, .slice none 0 0, .slice none 0 0, .slice none 0 0, .slice none 0 0, .slice none 0 0], .slice none 0 0, .int .i64 0, .slice none 0 0], []⟩ 8 (by kernel_rfl) (by kernel_rfl) (by kernel_rfl)
      (x := ([.agg [.lit (.string []), .lit (.string []), .lit (.string []), .lit (.int .i64 0), .lit (.int .i64 0), .nil, .nil, .nil, .nil, .nil, .nil, .nil, .nil], .nil, .lit (.int .i64 0), .nil], [], [])) (by kernel_rfl) rfl (by kernel_rfl)) ?_
  intro W base args ds gs before hval0 hW hcnd hk _
  have hval : ∀ (j : Nat) t v, Try.f4.params[j]? = some t → args[j]? = some v → Value.okWide Try.prog W .any base t v := hval0
  have hW' := hW
  obtain ⟨p, q, hA0, hV, rfl, hfz, hnd⟩ := hW
  have hA : DataW.TrodAll enc Try.prog W 0 (fun _ => true) true Try.f4.params.toList args.toList ds p := hA0
  rw [Try.params4] at hA hval
  obtain ⟨v0, v1, v2, v3, d0, d1, d2, d3, p0, p1, p2, p3, rfl, rfl, rfl, h0, h1, h2, h3⟩ := trodAll_four hA
  obtain ⟨rfl, rfl⟩ := trodVars_none hV
  clear hA0 hval0
  simp only [List.append_nil] at hW' hk
  have hlt : ∀ x ∈ p0 ++ (p1 ++ (p2 ++ p3)), x.block < W.heap.size := fun x hx => by simpa using hW'.lt x (by simpa using hx)
  obtain ⟨e0, cs0, rfl, he0, hb0⟩ := arg_src_bulk (hval 0 _ v0 rfl rfl) h0
  have hk0 : Rows.uptoBulk d0 ≤ 1048576 := Nat.le_trans (bulk_le (l := [d0, d1, d2, d3]) (by simp)) (bulk_bound hk)
  obtain ⟨e1, he1⟩ := arg_strs (hval 1 _ v1 rfl rfl) h1
  obtain ⟨e2, rfl⟩ := arg_int (hval 2 _ v2 rfl rfl)
  obtain ⟨e3, he3⟩ := arg_sts (hval 3 _ v3 rfl rfl) h3
  refine (kindsBlocks_calls e0 e1 e2 e3 _ W _ _ _ (inn W) he0 he1 he3 (by omega)).mono fun r W' ⟨hr, hb⟩ => ?_
  subst hr
  exact ⟨_, rfl, ⟨_, _, _, [], _, [], hW', shut_true, trodAll_mk4 (same_src h0 hb fun x hx => hlt x (by simp [hx])) (same_strs h1 hb fun x hx => hlt x (by simp [hx])) (same_int h2 hb fun x hx => hlt x (by simp [hx])) (same_sts h3 hb fun x hx => hlt x (by simp [hx])), rfl, hb.frame _, fun h => by cases h⟩⟩

theorem kindsBlocks_holds : Rows.KindsBlocksUptoSaid :=
  OpenClaim.holds_of_cond 4 Try.f4 rfl rfl rfl rfl rfl rfl rfl ⟨rfl, rfl, rfl, rfl, rfl⟩ rfl rfl rfl rfl rfl (by kernel_rfl) Try.func4 (by kernel_rfl)
    (of_decide_eq_true (by kernel_rfl)) (by unfold Func.isWrapper; rw [if_neg (by decide +kernel)]; exact ⟨rfl, rfl⟩)
    (fun os started H enc _ I => kindsBlocks_lifted os started H enc I)

#print axioms kindsBlocks_holds
end Go.Proofs.Ytblhpiebheommaa
