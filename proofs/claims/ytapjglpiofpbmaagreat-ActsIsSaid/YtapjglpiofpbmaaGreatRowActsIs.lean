/- The law ActsIs returns true at every tables, world, command, and leaves them as they were. Conditions: none beyond the given row (ActsIsSaid). (Printed by gen-rowacts.py.) -/
import Derived.Test.YtapjglpiofpbmaaGreatRows
import Derived.Test.YtapjglpiofpbmaaGreatAfK
import Derived.Test.YtapjglpiofpbmaaGreatAfI
namespace Go.Proofs.YtapjglpiofpbmaaGreat
open Go.ChangeShapes Go.WideShapes Go.ChangeAt Go.RowKit

set_option maxRecDepth 100000 in
theorem actsIs_lifted (os : Os) (started : os.Started) (H : Type) (enc : TypeId × Value → H) :
    ReturnsInHanded {} Tryz.checked os 4 .any (Rows.actsIsSpec.pre6 enc Tryz.prog Tryz.f4 Rows.actsIsRow.domain false) (Rows.actsIsSpec.post enc Tryz.prog Tryz.f4 false true false false) := by
  refine returnsInHanded_of_change_shaped (C := Tryz.checked) Tryz.own started (by kernel_rfl) Tryz.func4
    (ChangeSpec.witness6 (enc := enc) (C := Tryz.checked) false ⟨#[], #[.agg #[.int .i64 0, .int .i64 0, .int .i64 0, .int .i64 0, .slice none 0 0, .int .i64 0, .slice none 0 0, .slice none 0 0, .slice none 0 0, .slice none 0 0, .slice none 0 0, .slice none 0 0, .slice none 0 0, .slice none 0 0, .slice none 0 0], .agg #[.slice none 0 0, .slice none 0 0, .slice none 0 0, .slice none 0 0, .slice none 0 0, .slice none 0 0, .slice none 0 0, .int .u64 0, .int .i64 0, .int .i64 0, .int .i64 0, .int .i64 0, .int .i64 0], .agg #[.int .i64 0, .int .i64 0, .int .i64 0, .int .i64 0, .int .i64 0]], []⟩ 8 (by kernel_rfl) (by kernel_rfl) (by kernel_rfl) (by kernel_rfl)) ?_
  intro W base args ds gs before hval0 hW hcnd _ hsh _
  have hval : ∀ (j : Nat) t v, Tryz.f4.params[j]? = some t → args[j]? = some v → Value.okWide Tryz.prog W .any base t v := hval0
  have hW' := hW
  obtain ⟨p, q, hA0, hV, rfl, hfz, hnd⟩ := hW
  have hA : DataW.TrodAll enc Tryz.prog W 0 (fun _ => true) true Tryz.f4.params.toList args.toList ds p := hA0
  rw [Tryz.params4] at hA hval
  obtain ⟨v0, v1, v2, d0, d1, d2, p0, p1, p2, rfl, rfl, rfl, h0, h1, h2⟩ := trodAll_three hA
  obtain ⟨rfl, rfl⟩ := trodVars_none hV
  clear hA0 hval0
  simp only [List.append_nil] at hW'
  have hlt : ∀ x ∈ p0 ++ (p1 ++ p2), x.block < W.heap.size := fun x hx => by simpa using hW'.lt x (by simpa using hx)
  obtain ⟨e0, cs0, rfl, he0⟩ := arg_tab (hval 0 _ v0 rfl rfl) h0
  obtain ⟨e1, cs1, rfl, he1⟩ := arg_world (hval 1 _ v1 rfl rfl) h1
  obtain ⟨e2, cs2, rfl, he2⟩ := arg_cmd (hval 2 _ v2 rfl rfl) h2
  rw [cmd_cells he2]
  refine (actsIs_calls _ W e0 e1 cs0 cs1 (inn W) he0 he1 e2).mono fun r W' ⟨hr, hb⟩ => ?_
  subst hr
  rw [← cmd_cells he2]
  exact ⟨_, rfl, ⟨_, _, _, [], _, [], hW', shut_true, trodAll_mk3 (same_tab h0 hb fun x hx => hlt x (by simp [hx])) (same_world h1 hb fun x hx => hlt x (by simp [hx])) (same_cmd h2 hb fun x hx => hlt x (by simp [hx])), rfl, hb.frame _, fun h => by cases h⟩⟩

theorem actsIs_holds : Rows.ActsIsSaid :=
  OpenClaim.holds_of_wide 4 Tryz.f4 rfl rfl rfl rfl rfl rfl rfl ⟨rfl, rfl, rfl, rfl, rfl⟩ rfl rfl rfl rfl rfl (by kernel_rfl) Tryz.func4 (by kernel_rfl)
    (of_decide_eq_true (by kernel_rfl)) (by unfold Func.isWrapper; rw [if_neg (by decide +kernel)]; exact ⟨rfl, rfl⟩)
    (fun os started H enc _ => actsIs_lifted os started H enc)

#print axioms actsIs_holds
end Go.Proofs.YtapjglpiofpbmaaGreat
