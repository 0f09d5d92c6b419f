/- What the rows of the layer tree share: the program's own facts, and each kind of argument as the walks take it. -/
import Derived.Test.YtblhpiebheommaaRows
import Derived.Test.YtblhpiebheommaaRead
import Derived.Test.YtblhpiebheommaaKey
import Derived.HandedShaped
import Derived.Shelf.Vars
import Derived.ProofKit
namespace Go.Proofs.Ytblhpiebheommaa
open Go.ChangeShapes Go.WideShapes Go.ChangeAt Go.RowKit

theorem Try.own : ownKnob Try.prog.godebug = none := by kernel_rfl
theorem Try.laidOut : laidOutB Try.prog = true := by kernel_rfl

set_option maxRecDepth 100000 in
theorem mx_of {W : World} (h : W.ShapedOpen Try.prog) : MX W :=
  cell_of_shapedOpen_int (zero := #[.int .i64 0]) (t := 3) h (of_decide_eq_true (by kernel_rfl)) (by kernel_rfl) rfl (by kernel_rfl) (by kernel_rfl) Try.underlying3

theorem inn (W : World) : Inn (fun b => b < W.heap.size) W := fun _ h => h

section
variable {H : Type} {enc : TypeId × Value → H} {W : World} {base : Nat} {v : Value} {d : DataW H} {p : List MemPlace}

set_option maxRecDepth 100000 in
theorem arg_ex (hv : Value.okWide Try.prog W .any base 32 v) (h : DataW.Trod enc Try.prog W 0 (fun _ => true) true 32 v d p) : ∃ (e : Ex) (cs : List Value), v = .agg cs.toArray ∧ RdEx (fun b => b < W.heap.size) W e cs := by
  obtain ⟨cs, rfl, _⟩ := okWide_struct Try.underlying32 hv
  obtain ⟨fuel, hf⟩ := h
  obtain ⟨e, he⟩ := read_ex fuel _ _ hf
  exact ⟨e, cs.toList, by simp, he⟩

set_option maxRecDepth 100000 in
theorem arg_sts (hv : Value.okWide Try.prog W .any base 45 v) (h : DataW.Trod enc Try.prog W 0 (fun _ => true) true 45 v d p) : ∃ (l : List St), Sts (fun b => b < W.heap.size) W l v := by
  obtain ⟨a, len, cap, rfl⟩ := okWide_slice Try.underlying45 hv
  obtain ⟨fuel, hf⟩ := h
  obtain ⟨v', l, hv', hl⟩ := read_sts hf
  have : Value.slice a len cap = v' := by simpa [Value.cells] using hv'
  subst this
  exact ⟨l, hl⟩

set_option maxRecDepth 100000 in
theorem same_ex {W' : World} (h : DataW.Trod enc Try.prog W 0 (fun _ => true) true 32 v d p) (hb : Below W.heap.size W W') (hlt : ∀ x ∈ p, x.block < W.heap.size) : DataW.Trod enc Try.prog W' 0 (fun b => decide (b < W.heap.size)) true 32 v d p :=
  Below.trod Try.laidOut (by kernel_rfl) (of_decide_eq_true (by kernel_rfl)) h hb hlt
set_option maxRecDepth 100000 in
theorem same_sts {W' : World} (h : DataW.Trod enc Try.prog W 0 (fun _ => true) true 45 v d p) (hb : Below W.heap.size W W') (hlt : ∀ x ∈ p, x.block < W.heap.size) : DataW.Trod enc Try.prog W' 0 (fun b => decide (b < W.heap.size)) true 45 v d p :=
  Below.trod Try.laidOut (by kernel_rfl) (of_decide_eq_true (by kernel_rfl)) h hb hlt
theorem shut_true {W' : World} {b : Nat} {sp : Nat → Bool} {hd : Bool} : DataW.TrodAll enc Try.prog W' b sp hd [4] [.bool true] [.lit (.bool true)] [] := trodAll_mk1 (shut_bool Try.underlying4 _)
end
end Go.Proofs.Ytblhpiebheommaa
