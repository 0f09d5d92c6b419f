/-
  No cell of these rows narrows 'for every input' (looked for: loops, veiled, ifaces, maps, wideKeys, modest, calm, conditions, laid).
  DERIVED. THE GIVEN ROWS OF THIS SEAT. 3 by the template 'for every input the law returns true; each argument reads behind the call as it read before'; 0 by the template 'total and deterministic' (their statements: YtapjglpiofpbmaaGreatTotals.lean).
  GIVEN WITH THE SEED: the statements are not yours to turn. If you find one false, say at which input.
  Laid BY PROGRAM, IN A SANDBOX (cutbox-rows.mjs): the forced cells as the released guide's own fill.sh prints them over the translation 3443a078f6d6b084… (all of the seat's roots in one cut). By AI agents, Wed Nov 11 2026. No macro, syntax, notation, axiom, sorry.
-/
import Derived.Test.YtapjglpiofpbmaaGreatChecked
import GoSem.Claim
import GoSem.ClaimJoined
import GoSem.ClaimMapViews
import Derived.JoinedTies
import Derived.KernelRfl
namespace Go.Proofs.YtapjglpiofpbmaaGreat
/- THE CELL 'sum', in the pinned program and in every row, IS THE sha256 OF THE DUMP (.gsa) THAT YtapjglpiofpbmaaGreatProg.lean LOADS. Nothing in Lean hashes anything: it is a label: what it is worth is what the hold of that sum in a sandbox is worth. -/
noncomputable def Tryz.pinned : Pinned := { name := "ytapjglpiofpbmaagreat", sum := "3443a078f6d6b084a7d10134879ccf1b891e35d575a698f84caacecfb93c621e", checked := Tryz.checked }
namespace Rows
def none {H : Type} : Left H := { results := [], args := [] }

/-- 'clewlaw50.ActsAll': WHATEVER THE INPUT: true; the input reads as it did. -/
def actsAllSpec : ChangeSpec := { name := "actsAll", fn := fun _ => fun
  | [d1, d2] => { results := [.lit (.bool true)], args := [d1, d2] }
  | _ => none }
def actsAllRow : OpenClaim := { program := "ytapjglpiofpbmaagreat", sum := "3443a078f6d6b084a7d10134879ccf1b891e35d575a698f84caacecfb93c621e", func := "clew/clewlaw50.ActsAll", spec := "actsAll", unfollowed := true, recurses := true, plainKeys := false, apart := false }
def ActsAllSaid : Prop := actsAllRow.holds Tryz.pinned (OpenSpec.ofChange actsAllSpec)

/-- ITS FALSE NEIGHBOUR: 'it returns false'. Refute it at one input. -/
def actsAllWrong : ChangeSpec := { name := "actsAll", fn := fun _ => fun
  | [d1, d2] => { results := [.lit (.bool false)], args := [d1, d2] }
  | _ => none }
def ActsAllWrongFalsely : Prop := actsAllRow.holds Tryz.pinned (OpenSpec.ofChange actsAllWrong)

/-- 'clewlaw50.ActsIs': WHATEVER THE INPUT: true; the input reads as it did. -/
def actsIsSpec : ChangeSpec := { name := "actsIs", fn := fun _ => fun
  | [d1, d2, d3] => { results := [.lit (.bool true)], args := [d1, d2, d3] }
  | _ => none }
def actsIsRow : OpenClaim := { program := "ytapjglpiofpbmaagreat", sum := "3443a078f6d6b084a7d10134879ccf1b891e35d575a698f84caacecfb93c621e", func := "clew/clewlaw50.ActsIs", spec := "actsIs", unfollowed := true, recurses := true, plainKeys := false, apart := false }
def ActsIsSaid : Prop := actsIsRow.holds Tryz.pinned (OpenSpec.ofChange actsIsSpec)

/-- ITS FALSE NEIGHBOUR: 'it returns false'. Refute it at one input. -/
def actsIsWrong : ChangeSpec := { name := "actsIs", fn := fun _ => fun
  | [d1, d2, d3] => { results := [.lit (.bool false)], args := [d1, d2, d3] }
  | _ => none }
def ActsIsWrongFalsely : Prop := actsIsRow.holds Tryz.pinned (OpenSpec.ofChange actsIsWrong)

/-- 'clewlaw50.ActsDark': WHATEVER THE INPUT: true; the input reads as it did. -/
def actsDarkSpec : ChangeSpec := { name := "actsDark", fn := fun _ => fun
  | [d1, d2] => { results := [.lit (.bool true)], args := [d1, d2] }
  | _ => none }
def actsDarkRow : OpenClaim := { program := "ytapjglpiofpbmaagreat", sum := "3443a078f6d6b084a7d10134879ccf1b891e35d575a698f84caacecfb93c621e", func := "clew/clewlaw50.ActsDark", spec := "actsDark", unfollowed := true, recurses := true, plainKeys := false, apart := false }
def ActsDarkSaid : Prop := actsDarkRow.holds Tryz.pinned (OpenSpec.ofChange actsDarkSpec)

/-- ITS FALSE NEIGHBOUR: 'it returns false'. Refute it at one input. -/
def actsDarkWrong : ChangeSpec := { name := "actsDark", fn := fun _ => fun
  | [d1, d2] => { results := [.lit (.bool false)], args := [d1, d2] }
  | _ => none }
def ActsDarkWrongFalsely : Prop := actsDarkRow.holds Tryz.pinned (OpenSpec.ofChange actsDarkWrong)

/- THE SECOND FORM. 'bulk': how many values and letters a reading holds, each counted each time it is reached (what is shared counts as often as it is met; a slice's spare places count too). A statement '..UptoSaid' is the law's where the arguments, and the package variables that the reading takes, are together of bulk at most 1048576: NARROWER than '..Said'. Prove '..Said' where nothing that the law and all that it calls make is longer than what came in: it says more and counts as full. Else prove '..UptoSaid'. A law counts once. -/
mutual
def uptoBulk {H : Type} : DataW H → Nat
  | .lit (.string bytes) => bytes.length + 1
  | .lit _ => 1
  | .nil => 1
  | .ptr d => uptoBulk d + 1
  | .slice elems spare => uptoBulkAll elems + uptoBulkAll spare + 1
  | .agg parts => uptoBulkAll parts + 1
  | .iface _ d => uptoBulk d + 1
  | .map entries => uptoBulkEntries entries + 1
  | .held _ => 1
def uptoBulkAll {H : Type} : List (DataW H) → Nat
  | [] => 0
  | d :: r => uptoBulk d + uptoBulkAll r
def uptoBulkEntries {H : Type} : List (Lit × DataW H) → Nat
  | [] => 0
  | x :: r => uptoBulkEntry x + uptoBulkEntries r
def uptoBulkEntry {H : Type} : Lit × DataW H → Nat
  | (.string bytes, d) => bytes.length + uptoBulk d + 1
  | (_, d) => uptoBulk d + 1
 end
def uptoSmall : (H : Type) → List (DataW H) → Bool := fun _ ds => decide (uptoBulkAll ds ≤ 1048576)
def OpenSpec.upto (s : _root_.Go.ChangeSpec) : _root_.Go.OpenSpec := { _root_.Go.OpenSpec.ofChange s with cond := some uptoSmall }

/-- 'clewlaw50.ActsAll', WHERE WHAT IT READS IS OF BULK AT MOST 1048576: true; the input reads as it did. -/
def actsAllUptoRow : OpenClaim := { program := "ytapjglpiofpbmaagreat", sum := "3443a078f6d6b084a7d10134879ccf1b891e35d575a698f84caacecfb93c621e", func := "clew/clewlaw50.ActsAll", spec := "actsAll", unfollowed := true, recurses := true, plainKeys := false, apart := false, narrowed := true }
def ActsAllUptoSaid : Prop := actsAllUptoRow.holds Tryz.pinned (OpenSpec.upto actsAllSpec)

/-- 'clewlaw50.ActsIs', WHERE WHAT IT READS IS OF BULK AT MOST 1048576: true; the input reads as it did. -/
def actsIsUptoRow : OpenClaim := { program := "ytapjglpiofpbmaagreat", sum := "3443a078f6d6b084a7d10134879ccf1b891e35d575a698f84caacecfb93c621e", func := "clew/clewlaw50.ActsIs", spec := "actsIs", unfollowed := true, recurses := true, plainKeys := false, apart := false, narrowed := true }
def ActsIsUptoSaid : Prop := actsIsUptoRow.holds Tryz.pinned (OpenSpec.upto actsIsSpec)

/-- 'clewlaw50.ActsDark', WHERE WHAT IT READS IS OF BULK AT MOST 1048576: true; the input reads as it did. -/
def actsDarkUptoRow : OpenClaim := { program := "ytapjglpiofpbmaagreat", sum := "3443a078f6d6b084a7d10134879ccf1b891e35d575a698f84caacecfb93c621e", func := "clew/clewlaw50.ActsDark", spec := "actsDark", unfollowed := true, recurses := true, plainKeys := false, apart := false, narrowed := true }
def ActsDarkUptoSaid : Prop := actsDarkUptoRow.holds Tryz.pinned (OpenSpec.upto actsDarkSpec)

end Rows
end Go.Proofs.YtapjglpiofpbmaaGreat
