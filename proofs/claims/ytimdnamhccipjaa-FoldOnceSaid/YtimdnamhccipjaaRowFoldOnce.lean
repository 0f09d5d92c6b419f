/- The law FoldOnce returns true at every Bit (tables, an expression, statements, a number of locals), and leaves it as it was. Conditions: none beyond the given row (FoldOnceSaid). (Printed by gen-rowfold.py.) -/
import Derived.Test.YtimdnamhccipjaaRowBase
import Derived.Test.YtimdnamhccipjaaReadB
import Derived.Test.YtimdnamhccipjaaFoldOnce
namespace Go.Proofs.Ytimdnamhccipjaa
open Go.ChangeShapes Go.WideShapes Go.ChangeAt Go.RowKit

section
variable {H : Type} {enc : TypeId × Value → H} {W : World} {base : Nat} {v : Value} {d : DataW H} {p : List MemPlace}

set_option maxRecDepth 100000 in
theorem arg_bitFoldOnce (hv : Value.okWide Try.prog W .any base 38 v) (h : DataW.Trod enc Try.prog W 0 (fun _ => true) true 38 v d p) : ∃ (e : Ex) (l : List St) (cs : List Value), v = .agg cs.toArray ∧ BitAt (fun b => b < W.heap.size) W cs e l ∧ (Reached Try.prog 38 d → e.fit ∧ St.fits l) := by
  obtain ⟨cs, rfl, _⟩ := okWide_struct Try.underlying38 hv
  obtain ⟨fuel, hf⟩ := h
  obtain ⟨e, l, he, hr⟩ := rd_bit hf
  exact ⟨e, l, cs.toList, by simp, he, hr⟩

set_option maxRecDepth 100000 in
theorem same_bitFoldOnce {W' : World} (h : DataW.Trod enc Try.prog W 0 (fun _ => true) true 38 v d p) (hb : Below W.heap.size W W') (hlt : ∀ x ∈ p, x.block < W.heap.size) : DataW.Trod enc Try.prog W' 0 (fun b => decide (b < W.heap.size)) true 38 v d p :=
  Below.trod Try.laidOut (by kernel_rfl) (of_decide_eq_true (by kernel_rfl)) h hb hlt
end

set_option maxRecDepth 100000 in
theorem foldOnce_lifted (os : Os) (started : os.Started) (H : Type) (enc : TypeId × Value → H) :
    ReturnsInHanded {} Try.checked os 5 .any (Rows.foldOnceSpec.pre6 enc Try.prog Try.f5 Rows.foldOnceRow.domain false) (Rows.foldOnceSpec.post enc Try.prog Try.f5 false true false false) := by
  refine returnsInHanded_of_change_shaped (C := Try.checked) Try.own started (by kernel_rfl) Try.func5
    (ChangeSpec.witness6 (enc := enc) (C := Try.checked) false ⟨#[], #[.agg #[.int .i64 0, .int .i64 0, .int .i64 0, .int .i64 0, .slice none 0 0, .int .i64 0, .slice none 0 0, .slice none 0 0, .slice none 0 0, .slice none 0 0, .slice none 0 0, .slice none 0 0, .slice none 0 0, .slice none 0 0, .slice none 0 0, .int .i64 0, .int .i64 0, .int .i64 0, .string ⟨#[]⟩, .slice none 0 0, .slice none 0 0, .int .i64 0]], []⟩ 8 (by kernel_rfl) (by kernel_rfl) (by kernel_rfl) (by kernel_rfl)) ?_
  intro W base args ds gs before hval0 hW hcnd hsz0 hsh _
  have hval : ∀ (j : Nat) t v, Try.f5.params[j]? = some t → args[j]? = some v → Value.okWide Try.prog W .any base t v := hval0
  have hW' := hW
  obtain ⟨p, q, hA0, hV, rfl, hfz, hnd⟩ := hW
  have hA : DataW.TrodAll enc Try.prog W 0 (fun _ => true) true Try.f5.params.toList args.toList ds p := hA0
  have hsz : (DataW.weightsEach Try.prog (Try.f5.params.toList ++ Rows.foldOnceSpec.plain.varTypes Try.prog) (ds ++ gs)).all (· ≤ reachBytes) = true := hsz0
  rw [Try.params5] at hA hval hsz
  obtain ⟨v0, d0, rfl, rfl, h0⟩ := trodAll_one hA
  obtain ⟨rfl, rfl⟩ := trodVars_none hV
  clear hA0 hval0 hsz0
  simp only [List.append_nil] at hW'
  have hlt : ∀ x ∈ p, x.block < W.heap.size := fun x hx => by simpa using hW'.lt x (by simpa using hx)
  obtain ⟨e, l, cs, rfl, hb0, hr0⟩ := arg_bitFoldOnce (hval 0 _ v0 rfl rfl) h0
  have hreach : Reached Try.prog 38 d0 := fun n hn => by
    have := List.all_eq_true.1 hsz n (DataW.weights_mem_each (j := 0) (t := 38) (d := d0) rfl rfl n hn)
    exact of_decide_eq_true this
  obtain ⟨hfe, hfl⟩ := hr0 hreach
  refine (foldOnce_calls _ W cs e l (inn W) hb0 hfe hfl).mono fun r W' ⟨hr, hb⟩ => ?_
  subst hr
  exact ⟨_, rfl, ⟨_, _, _, [], _, [], hW', shut_true, trodAll_mk1 (same_bitFoldOnce h0 hb fun x hx => hlt x hx), rfl, hb.frame _, fun h => by cases h⟩⟩

theorem foldOnce_holds : Rows.FoldOnceSaid :=
  OpenClaim.holds_of_wide 5 Try.f5 rfl rfl rfl rfl rfl rfl rfl ⟨rfl, rfl, rfl, rfl, rfl⟩ rfl rfl rfl rfl rfl (by kernel_rfl) Try.func5 (by kernel_rfl)
    (of_decide_eq_true (by kernel_rfl)) (by unfold Func.isWrapper; rw [if_neg (by decide +kernel)]; exact ⟨rfl, rfl⟩)
    (fun os started H enc _ => foldOnce_lifted os started H enc)

#print axioms foldOnce_holds
end Go.Proofs.Ytimdnamhccipjaa
