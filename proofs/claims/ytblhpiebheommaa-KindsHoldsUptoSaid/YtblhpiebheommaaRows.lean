/-
  NARROWER THAN 'FOR EVERY INPUT', by the rows' own cells (each row's printed sentence says how): KindsExprs: loops · KindsBlocks: loops · KindsLocals: loops · KindsHolds: loops.
  DERIVED. THE GIVEN ROWS OF THIS SEAT. 4 by the template 'for every input the law returns true; each argument reads behind the call as it read before'; 0 by the template 'total and deterministic' (their statements: YtblhpiebheommaaTotals.lean).
  GIVEN WITH THE SEED: the statements are not yours to turn. If you find one false, say at which input.
  Laid BY PROGRAM, IN A SANDBOX (cutbox-rows.mjs): the forced cells as the released guide's own fill.sh prints them over the translation 88352afe7efde01c… (all of the seat's roots in one cut). By AI agents, Wed Nov 11 2026. No macro, syntax, notation, axiom, sorry.
-/
import Derived.Test.YtblhpiebheommaaChecked
import GoSem.Claim
import GoSem.ClaimJoined
import GoSem.ClaimMapViews
import Derived.JoinedTies
import Derived.KernelRfl
namespace Go.Proofs.Ytblhpiebheommaa
/- THE CELL 'sum', in the pinned program and in every row, IS THE sha256 OF THE DUMP (.gsa) THAT YtblhpiebheommaaProg.lean LOADS. Nothing in Lean hashes anything: it is a label: what it is worth is what the hold of that sum in a sandbox is worth. -/
noncomputable def Try.pinned : Pinned := { name := "ytblhpiebheommaa", sum := "88352afe7efde01cd029767896517772f21127688a039543b9a10b90e4228135", checked := Try.checked }
namespace Rows
def none {H : Type} : Left H := { results := [], args := [] }

/-- 'clewlaw16.KindsExprs': WHATEVER THE INPUT: true; the input reads as it did. -/
def kindsExprsSpec : ChangeSpec := { name := "kindsExprs", fn := fun _ => fun
  | [d1, d2, d3] => { results := [.lit (.bool true)], args := [d1, d2, d3] }
  | _ => none }
def kindsExprsRow : OpenClaim := { program := "ytblhpiebheommaa", sum := "88352afe7efde01cd029767896517772f21127688a039543b9a10b90e4228135", func := "clew/clewlaw16.KindsExprs", spec := "kindsExprs", inPlace := ["internal/bytealg.IndexByteString", "internal/bytealg.IndexString"], unfollowed := true, recurses := true, named := ["internal/bytealg.MaxLen"], loops := true, apart := false }
def KindsExprsSaid : Prop := kindsExprsRow.holds Try.pinned (OpenSpec.ofChange kindsExprsSpec)

/-- ITS FALSE NEIGHBOUR: 'it returns false'. Refute it at one input. -/
def kindsExprsWrong : ChangeSpec := { name := "kindsExprs", fn := fun _ => fun
  | [d1, d2, d3] => { results := [.lit (.bool false)], args := [d1, d2, d3] }
  | _ => none }
def KindsExprsWrongFalsely : Prop := kindsExprsRow.holds Try.pinned (OpenSpec.ofChange kindsExprsWrong)

/-- 'clewlaw16.KindsBlocks': WHATEVER THE INPUT: true; the input reads as it did. -/
def kindsBlocksSpec : ChangeSpec := { name := "kindsBlocks", fn := fun _ => fun
  | [d1, d2, d3, d4] => { results := [.lit (.bool true)], args := [d1, d2, d3, d4] }
  | _ => none }
def kindsBlocksRow : OpenClaim := { program := "ytblhpiebheommaa", sum := "88352afe7efde01cd029767896517772f21127688a039543b9a10b90e4228135", func := "clew/clewlaw16.KindsBlocks", spec := "kindsBlocks", inPlace := ["internal/bytealg.IndexByteString", "internal/bytealg.IndexString"], unfollowed := true, recurses := true, named := ["internal/bytealg.MaxLen"], loops := true, apart := false }
def KindsBlocksSaid : Prop := kindsBlocksRow.holds Try.pinned (OpenSpec.ofChange kindsBlocksSpec)

/-- ITS FALSE NEIGHBOUR: 'it returns false'. Refute it at one input. -/
def kindsBlocksWrong : ChangeSpec := { name := "kindsBlocks", fn := fun _ => fun
  | [d1, d2, d3, d4] => { results := [.lit (.bool false)], args := [d1, d2, d3, d4] }
  | _ => none }
def KindsBlocksWrongFalsely : Prop := kindsBlocksRow.holds Try.pinned (OpenSpec.ofChange kindsBlocksWrong)

/-- 'clewlaw16.KindsLocals': WHATEVER THE INPUT: true; the input reads as it did. -/
def kindsLocalsSpec : ChangeSpec := { name := "kindsLocals", fn := fun _ => fun
  | [d] => { results := [.lit (.bool true)], args := [d] }
  | _ => none }
def kindsLocalsRow : OpenClaim := { program := "ytblhpiebheommaa", sum := "88352afe7efde01cd029767896517772f21127688a039543b9a10b90e4228135", func := "clew/clewlaw16.KindsLocals", spec := "kindsLocals", inPlace := ["internal/bytealg.IndexByteString", "internal/bytealg.IndexString"], unfollowed := true, recurses := true, named := ["internal/bytealg.MaxLen"], loops := true, apart := false }
def KindsLocalsSaid : Prop := kindsLocalsRow.holds Try.pinned (OpenSpec.ofChange kindsLocalsSpec)

/-- ITS FALSE NEIGHBOUR: 'it returns false'. Refute it at one input. -/
def kindsLocalsWrong : ChangeSpec := { name := "kindsLocals", fn := fun _ => fun
  | [d] => { results := [.lit (.bool false)], args := [d] }
  | _ => none }
def KindsLocalsWrongFalsely : Prop := kindsLocalsRow.holds Try.pinned (OpenSpec.ofChange kindsLocalsWrong)

/-- 'clewlaw16.KindsHolds': WHATEVER THE INPUT: true; the input reads as it did. -/
def kindsHoldsSpec : ChangeSpec := { name := "kindsHolds", fn := fun _ => fun
  | [d] => { results := [.lit (.bool true)], args := [d] }
  | _ => none }
def kindsHoldsRow : OpenClaim := { program := "ytblhpiebheommaa", sum := "88352afe7efde01cd029767896517772f21127688a039543b9a10b90e4228135", func := "clew/clewlaw16.KindsHolds", spec := "kindsHolds", inPlace := ["internal/bytealg.IndexByteString", "internal/bytealg.IndexString"], unfollowed := true, recurses := true, named := ["internal/bytealg.MaxLen"], loops := true, apart := false }
def KindsHoldsSaid : Prop := kindsHoldsRow.holds Try.pinned (OpenSpec.ofChange kindsHoldsSpec)

/-- ITS FALSE NEIGHBOUR: 'it returns false'. Refute it at one input. -/
def kindsHoldsWrong : ChangeSpec := { name := "kindsHolds", fn := fun _ => fun
  | [d] => { results := [.lit (.bool false)], args := [d] }
  | _ => none }
def KindsHoldsWrongFalsely : Prop := kindsHoldsRow.holds Try.pinned (OpenSpec.ofChange kindsHoldsWrong)

/- THE SECOND FORM. 'bulk': how many values and letters a reading holds, each counted each time it is reached (what is shared counts as often as it is met; a slice's spare places count too). A statement '..UptoSaid' is the law's where the arguments, and the package variables that the reading takes, are together of bulk at most 1048576: NARROWER than '..Said'. Prove '..Said' where nothing that the law and all that it calls make is longer than what came in: it says more and counts as full. Else prove '..UptoSaid'. A law counts once. -/
mutual
def uptoBulk {H : Type} : DataW H → Nat
  | .lit (.string bytes) => bytes.length + 1
  | .lit _ => 1
  | .nil => 1
  | .ptr d => uptoBulk d + 1
  | .slice elems spare => uptoBulkAll elems + uptoBulkAll spare + 1
  | .agg parts => uptoBulkAll parts + 1
  | .iface _ d => uptoBulk d + 1
  | .map entries => uptoBulkEntries entries + 1
  | .held _ => 1
def uptoBulkAll {H : Type} : List (DataW H) → Nat
  | [] => 0
  | d :: r => uptoBulk d + uptoBulkAll r
def uptoBulkEntries {H : Type} : List (Lit × DataW H) → Nat
  | [] => 0
  | x :: r => uptoBulkEntry x + uptoBulkEntries r
def uptoBulkEntry {H : Type} : Lit × DataW H → Nat
  | (.string bytes, d) => bytes.length + uptoBulk d + 1
  | (_, d) => uptoBulk d + 1
 end
def uptoSmall : (H : Type) → List (DataW H) → Bool := fun _ ds => decide (uptoBulkAll ds ≤ 1048576)
def OpenSpec.upto (s : _root_.Go.ChangeSpec) : _root_.Go.OpenSpec := { _root_.Go.OpenSpec.ofChange s with cond := some uptoSmall }

/-- 'clewlaw16.KindsExprs', WHERE WHAT IT READS IS OF BULK AT MOST 1048576: true; the input reads as it did. -/
def kindsExprsUptoRow : OpenClaim := { program := "ytblhpiebheommaa", sum := "88352afe7efde01cd029767896517772f21127688a039543b9a10b90e4228135", func := "clew/clewlaw16.KindsExprs", spec := "kindsExprs", inPlace := ["internal/bytealg.IndexByteString", "internal/bytealg.IndexString"], unfollowed := true, recurses := true, named := ["internal/bytealg.MaxLen"], loops := true, apart := false, narrowed := true }
def KindsExprsUptoSaid : Prop := kindsExprsUptoRow.holds Try.pinned (OpenSpec.upto kindsExprsSpec)

/-- 'clewlaw16.KindsBlocks', WHERE WHAT IT READS IS OF BULK AT MOST 1048576: true; the input reads as it did. -/
def kindsBlocksUptoRow : OpenClaim := { program := "ytblhpiebheommaa", sum := "88352afe7efde01cd029767896517772f21127688a039543b9a10b90e4228135", func := "clew/clewlaw16.KindsBlocks", spec := "kindsBlocks", inPlace := ["internal/bytealg.IndexByteString", "internal/bytealg.IndexString"], unfollowed := true, recurses := true, named := ["internal/bytealg.MaxLen"], loops := true, apart := false, narrowed := true }
def KindsBlocksUptoSaid : Prop := kindsBlocksUptoRow.holds Try.pinned (OpenSpec.upto kindsBlocksSpec)

/-- 'clewlaw16.KindsLocals', WHERE WHAT IT READS IS OF BULK AT MOST 1048576: true; the input reads as it did. -/
def kindsLocalsUptoRow : OpenClaim := { program := "ytblhpiebheommaa", sum := "88352afe7efde01cd029767896517772f21127688a039543b9a10b90e4228135", func := "clew/clewlaw16.KindsLocals", spec := "kindsLocals", inPlace := ["internal/bytealg.IndexByteString", "internal/bytealg.IndexString"], unfollowed := true, recurses := true, named := ["internal/bytealg.MaxLen"], loops := true, apart := false, narrowed := true }
def KindsLocalsUptoSaid : Prop := kindsLocalsUptoRow.holds Try.pinned (OpenSpec.upto kindsLocalsSpec)

/-- 'clewlaw16.KindsHolds', WHERE WHAT IT READS IS OF BULK AT MOST 1048576: true; the input reads as it did. -/
def kindsHoldsUptoRow : OpenClaim := { program := "ytblhpiebheommaa", sum := "88352afe7efde01cd029767896517772f21127688a039543b9a10b90e4228135", func := "clew/clewlaw16.KindsHolds", spec := "kindsHolds", inPlace := ["internal/bytealg.IndexByteString", "internal/bytealg.IndexString"], unfollowed := true, recurses := true, named := ["internal/bytealg.MaxLen"], loops := true, apart := false, narrowed := true }
def KindsHoldsUptoSaid : Prop := kindsHoldsUptoRow.holds Try.pinned (OpenSpec.upto kindsHoldsSpec)

end Rows
end Go.Proofs.Ytblhpiebheommaa
