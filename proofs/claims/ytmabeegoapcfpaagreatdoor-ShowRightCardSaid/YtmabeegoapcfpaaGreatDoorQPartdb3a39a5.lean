/- What the rows of the layer tree share: the program's own facts, and each kind of argument as the walks take it. -/
import Derived.Test.YtmabeegoapcfpaaGreatDoorRows
import Derived.Test.YtmabeegoapcfpaaGreatDoorQRead
import Derived.Test.YtmabeegoapcfpaaGreatDoorQPart20aa6447
import Derived.HandedShaped
import Derived.Shelf.Vars
import Derived.ProofKit
import Derived.Test.YtmabeegoapcfpaaGreatDoorQReadS
namespace Go.Proofs.YtmabeegoapcfpaaGreatDoor
open Go.ChangeShapes Go.WideShapes Go.ChangeAt Go.RowKit
theorem Tryz.own : ownKnob Tryz.prog.godebug = none := by kernel_rfl
theorem Tryz.laidOut : laidOutB Tryz.prog = true := by kernel_rfl
set_option maxRecDepth 100000 in
theorem mx_of {W : World} (h : W.ShapedOpen Tryz.prog) : MX W :=
  cell_of_shapedOpen_int (zero := #[.int .i64 0]) (t := 3) h (of_decide_eq_true (by kernel_rfl)) (by kernel_rfl) rfl (by kernel_rfl) (by kernel_rfl) Tryz.underlying3
theorem inn (W : World) : Inn (fun b => b < W.heap.size) W := fun _ h => h
section
variable {H : Type} {enc : TypeId × Value → H} {W : World} {base : Nat} {v : Value} {d : DataW H} {p : List MemPlace}
theorem shut_true {W' : World} {b : Nat} {sp : Nat → Bool} {hd : Bool} : DataW.TrodAll enc Tryz.prog W' b sp hd [4] [.bool true] [.lit (.bool true)] [] := trodAll_mk1 (shut_bool Tryz.underlying4 _)
end
end Go.Proofs.YtmabeegoapcfpaaGreatDoor
/- A row's arguments that are a Source or a slice of strings. -/
namespace Go.Proofs.YtmabeegoapcfpaaGreatDoor
open Go.ChangeShapes Go.WideShapes Go.ChangeAt Go.RowKit
section
variable {H : Type} {enc : TypeId × Value → H} {W : World} {base : Nat} {v : Value} {d : DataW H} {p : List MemPlace}
set_option maxRecDepth 100000 in
theorem arg_src (hv : Value.okWide Tryz.prog W .any base 29 v) (h : DataW.Trod enc Tryz.prog W 0 (fun _ => true) true 29 v d p) : ∃ (s : SrcD) (cs : List Value), v = .agg cs.toArray ∧ Holds.src.R (fun b => b < W.heap.size) W s cs := by
  obtain ⟨cs, rfl, _⟩ := okWide_struct Tryz.underlying29 hv
  obtain ⟨fuel, hf⟩ := h
  obtain ⟨e, he⟩ := read_src fuel _ _ hf
  exact ⟨e, cs.toList, by simp, he⟩
set_option maxRecDepth 100000 in
theorem same_src {W' : World} (h : DataW.Trod enc Tryz.prog W 0 (fun _ => true) true 29 v d p) (hb : Below W.heap.size W W') (hlt : ∀ x ∈ p, x.block < W.heap.size) : DataW.Trod enc Tryz.prog W' 0 (fun b => decide (b < W.heap.size)) true 29 v d p :=
  Below.trod Tryz.laidOut (by kernel_rfl) (of_decide_eq_true (by kernel_rfl)) h hb hlt
end
end Go.Proofs.YtmabeegoapcfpaaGreatDoor
