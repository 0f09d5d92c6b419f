/- The law KindsChecks returns true at every source whose bulk is within the given bound, and leaves it as it was. Conditions: none beyond the given row (KindsChecksUptoSaid). -/
import Derived.Test.YtblhpiebheommaaGreatKindsChecksPart6
import Derived.Test.YtblhpiebheommaaGreatLawChecks
namespace Go.Proofs.YtblhpiebheommaaGreat
open Go.ChangeShapes Go.WideShapes Go.ChangeAt Go.RowKit

set_option maxRecDepth 100000 in
theorem kindsChecks_lifted (os : Os) (started : os.Started) (H : Type) (enc : TypeId × Value → H) (I : Stop.Interp) :
    ReturnsInHanded {} Tryz.checked os 3 .any ((Rows.OpenSpec.upto Rows.kindsChecksSpec).pre6 enc Tryz.prog Tryz.f3 Rows.kindsChecksUptoRow.domain false) (((Rows.OpenSpec.upto Rows.kindsChecksSpec).at I).post enc Tryz.prog Tryz.f3 false true false false) := by
  refine returnsInHanded_bounded (C := Tryz.checked) (s := Rows.OpenSpec.upto Rows.kindsChecksSpec) (k := Rows.uptoSmall) rfl Tryz.own started (by kernel_rfl) Tryz.func3
    (OpenSpec.witness (enc := enc) (C := Tryz.checked) (s := Rows.OpenSpec.upto Rows.kindsChecksSpec) (k := Rows.uptoSmall) rfl false ⟨#[], #[.agg #[.string ⟨#[]⟩, .string ⟨#[]⟩, .string ⟨#[]⟩, .int .i64 0, .int .i64 0, .slice none 0 0, .slice none 0 0, .slice none 0 0, .slice none 0 0, .slice none 0 0, .slice none 0 0, .slice none 0 0, .slice none 0 0]], []⟩ 8 (by kernel_rfl) (by kernel_rfl) (by kernel_rfl)
      (x := ([.agg [.lit (.string []), .lit (.string []), .lit (.string []), .lit (.int .i64 0), .lit (.int .i64 0), .nil, .nil, .nil, .nil, .nil, .nil, .nil, .nil]], [], [])) (by kernel_rfl) rfl (by kernel_rfl)) ?_
  intro W base args ds gs before hval0 hW hk hsh
  have hval : ∀ (j : Nat) t v, Tryz.f3.params[j]? = some t → args[j]? = some v → Value.okWide Tryz.prog W .any base t v := hval0
  have hW' := hW
  obtain ⟨p, q, hA0, hV, rfl, hfz, hnd⟩ := hW
  have hA : DataW.TrodAll enc Tryz.prog W 0 (fun _ => true) true Tryz.f3.params.toList args.toList ds p := hA0
  rw [Tryz.params3] at hA hval
  obtain ⟨v0, d0, rfl, rfl, h0⟩ := trodAll_one hA
  obtain ⟨rfl, rfl⟩ := trodVars_none hV
  clear hA0 hval0
  simp only [List.append_nil] at hW' hk
  have hlt : ∀ x ∈ p, x.block < W.heap.size := fun x hx => by simpa using hW'.lt x (by simpa using hx)
  obtain ⟨e0, cs0, rfl, he0, hb0, _⟩ := arg_src_words (hval 0 _ v0 rfl rfl) h0
  have hk0 : Rows.uptoBulk d0 ≤ 1048576 := Nat.le_trans (bulk_le (l := [d0]) (by simp)) (bulk_bound hk)
  refine (kindsChecks_calls e0 _ W _ (inn W) (mx_of hsh) he0 (by omega)).mono fun r W' ⟨hr, hb⟩ => ?_
  subst hr
  exact ⟨_, rfl, ⟨_, _, _, [], _, [], hW', shut_true, trodAll_mk1 (same_src h0 hb fun x hx => hlt x hx), rfl, hb.frame _, fun h => by cases h⟩⟩

theorem kindsChecks_holds : Rows.KindsChecksUptoSaid :=
  OpenClaim.holds_of_cond 3 Tryz.f3 rfl rfl rfl rfl rfl rfl rfl ⟨rfl, rfl, rfl, rfl, rfl⟩ rfl rfl rfl rfl rfl (by kernel_rfl) Tryz.func3 (by kernel_rfl)
    (of_decide_eq_true (by kernel_rfl)) (by unfold Func.isWrapper; rw [if_neg (by decide +kernel)]; exact ⟨rfl, rfl⟩)
    (fun os started H enc _ I => kindsChecks_lifted os started H enc I)

#print axioms kindsChecks_holds
end Go.Proofs.YtblhpiebheommaaGreat
