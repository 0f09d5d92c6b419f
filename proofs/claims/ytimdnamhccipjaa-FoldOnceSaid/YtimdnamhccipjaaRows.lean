/-
  NARROWER THAN 'FOR EVERY INPUT', by the rows' own cells (each row's printed sentence says how): FoldTells: loops · FoldOnce: loops · FoldMay: loops · TreeRight: loops · TreeBlocks: loops · TreeBound: loops · TreeSizes: loops · TreeSame: loops · TreeBinds: loops.
  DERIVED. THE GIVEN ROWS OF THIS SEAT. 10 by the template 'for every input the law returns true; each argument reads behind the call as it read before'; 0 by the template 'total and deterministic' (their statements: YtimdnamhccipjaaTotals.lean).
  GIVEN WITH THE SEED: the statements are not yours to turn. If you find one false, say at which input.
  Laid BY PROGRAM, IN A SANDBOX (cutbox-rows.mjs): the forced cells as the released guide's own fill.sh prints them over the translation 2cf71d0521341d20… (all of the seat's roots in one cut). By AI agents, Wed Nov 11 2026. No macro, syntax, notation, axiom, sorry.
-/
import Derived.Test.YtimdnamhccipjaaChecked
import GoSem.Claim
import GoSem.ClaimJoined
import GoSem.ClaimMapViews
import Derived.JoinedTies
import Derived.KernelRfl
namespace Go.Proofs.Ytimdnamhccipjaa
/- THE CELL 'sum', in the pinned program and in every row, IS THE sha256 OF THE DUMP (.gsa) THAT YtimdnamhccipjaaProg.lean LOADS. Nothing in Lean hashes anything: it is a label: what it is worth is what the hold of that sum in a sandbox is worth. -/
noncomputable def Try.pinned : Pinned := { name := "ytimdnamhccipjaa", sum := "2cf71d0521341d20d34fd71095bb60dd7d772380f8ed09920dd890a3fbc93cfd", checked := Try.checked }
namespace Rows
def none {H : Type} : Left H := { results := [], args := [] }

/-- 'clewlaw49.ScriptTypes': WHATEVER THE INPUT: true; the input reads as it did. -/
def scriptTypesSpec : ChangeSpec := { name := "scriptTypes", fn := fun _ => fun
  | [d] => { results := [.lit (.bool true)], args := [d] }
  | _ => none }
def scriptTypesRow : OpenClaim := { program := "ytimdnamhccipjaa", sum := "2cf71d0521341d20d34fd71095bb60dd7d772380f8ed09920dd890a3fbc93cfd", func := "clew/clewlaw49.ScriptTypes", spec := "scriptTypes", inPlace := ["internal/bytealg.IndexByteString", "internal/bytealg.IndexString"], unfollowed := true, recurses := true, named := ["internal/bytealg.MaxLen"], apart := false }
def ScriptTypesSaid : Prop := scriptTypesRow.holds Try.pinned (OpenSpec.ofChange scriptTypesSpec)

/-- ITS FALSE NEIGHBOUR: 'it returns false'. Refute it at one input. -/
def scriptTypesWrong : ChangeSpec := { name := "scriptTypes", fn := fun _ => fun
  | [d] => { results := [.lit (.bool false)], args := [d] }
  | _ => none }
def ScriptTypesWrongFalsely : Prop := scriptTypesRow.holds Try.pinned (OpenSpec.ofChange scriptTypesWrong)

/-- 'clewlaw18.FoldTells': WHATEVER THE INPUT: true; the input reads as it did. -/
def foldTellsSpec : ChangeSpec := { name := "foldTells", fn := fun _ => fun
  | [d] => { results := [.lit (.bool true)], args := [d] }
  | _ => none }
def foldTellsRow : OpenClaim := { program := "ytimdnamhccipjaa", sum := "2cf71d0521341d20d34fd71095bb60dd7d772380f8ed09920dd890a3fbc93cfd", func := "clew/clewlaw18.FoldTells", spec := "foldTells", unfollowed := true, recurses := true, loops := true, apart := false }
def FoldTellsSaid : Prop := foldTellsRow.holds Try.pinned (OpenSpec.ofChange foldTellsSpec)

/-- ITS FALSE NEIGHBOUR: 'it returns false'. Refute it at one input. -/
def foldTellsWrong : ChangeSpec := { name := "foldTells", fn := fun _ => fun
  | [d] => { results := [.lit (.bool false)], args := [d] }
  | _ => none }
def FoldTellsWrongFalsely : Prop := foldTellsRow.holds Try.pinned (OpenSpec.ofChange foldTellsWrong)

/-- 'clewlaw18.FoldOnce': WHATEVER THE INPUT: true; the input reads as it did. -/
def foldOnceSpec : ChangeSpec := { name := "foldOnce", fn := fun _ => fun
  | [d] => { results := [.lit (.bool true)], args := [d] }
  | _ => none }
def foldOnceRow : OpenClaim := { program := "ytimdnamhccipjaa", sum := "2cf71d0521341d20d34fd71095bb60dd7d772380f8ed09920dd890a3fbc93cfd", func := "clew/clewlaw18.FoldOnce", spec := "foldOnce", unfollowed := true, recurses := true, loops := true, apart := false }
def FoldOnceSaid : Prop := foldOnceRow.holds Try.pinned (OpenSpec.ofChange foldOnceSpec)

/-- ITS FALSE NEIGHBOUR: 'it returns false'. Refute it at one input. -/
def foldOnceWrong : ChangeSpec := { name := "foldOnce", fn := fun _ => fun
  | [d] => { results := [.lit (.bool false)], args := [d] }
  | _ => none }
def FoldOnceWrongFalsely : Prop := foldOnceRow.holds Try.pinned (OpenSpec.ofChange foldOnceWrong)

/-- 'clewlaw18.FoldMay': WHATEVER THE INPUT: true; the input reads as it did. -/
def foldMaySpec : ChangeSpec := { name := "foldMay", fn := fun _ => fun
  | [d] => { results := [.lit (.bool true)], args := [d] }
  | _ => none }
def foldMayRow : OpenClaim := { program := "ytimdnamhccipjaa", sum := "2cf71d0521341d20d34fd71095bb60dd7d772380f8ed09920dd890a3fbc93cfd", func := "clew/clewlaw18.FoldMay", spec := "foldMay", unfollowed := true, recurses := true, loops := true, apart := false }
def FoldMaySaid : Prop := foldMayRow.holds Try.pinned (OpenSpec.ofChange foldMaySpec)

/-- ITS FALSE NEIGHBOUR: 'it returns false'. Refute it at one input. -/
def foldMayWrong : ChangeSpec := { name := "foldMay", fn := fun _ => fun
  | [d] => { results := [.lit (.bool false)], args := [d] }
  | _ => none }
def FoldMayWrongFalsely : Prop := foldMayRow.holds Try.pinned (OpenSpec.ofChange foldMayWrong)

/-- 'clewlaw10.TreeRight': WHATEVER THE INPUT: true; the input reads as it did. -/
def treeRightSpec : ChangeSpec := { name := "treeRight", fn := fun _ => fun
  | [d] => { results := [.lit (.bool true)], args := [d] }
  | _ => none }
def treeRightRow : OpenClaim := { program := "ytimdnamhccipjaa", sum := "2cf71d0521341d20d34fd71095bb60dd7d772380f8ed09920dd890a3fbc93cfd", func := "clew/clewlaw10.TreeRight", spec := "treeRight", inPlace := ["internal/bytealg.IndexByteString", "internal/bytealg.IndexString"], unfollowed := true, recurses := true, named := ["internal/bytealg.MaxLen"], loops := true, apart := false }
def TreeRightSaid : Prop := treeRightRow.holds Try.pinned (OpenSpec.ofChange treeRightSpec)

/-- ITS FALSE NEIGHBOUR: 'it returns false'. Refute it at one input. -/
def treeRightWrong : ChangeSpec := { name := "treeRight", fn := fun _ => fun
  | [d] => { results := [.lit (.bool false)], args := [d] }
  | _ => none }
def TreeRightWrongFalsely : Prop := treeRightRow.holds Try.pinned (OpenSpec.ofChange treeRightWrong)

/-- 'clewlaw10.TreeBlocks': WHATEVER THE INPUT: true; the input reads as it did. -/
def treeBlocksSpec : ChangeSpec := { name := "treeBlocks", fn := fun _ => fun
  | [d] => { results := [.lit (.bool true)], args := [d] }
  | _ => none }
def treeBlocksRow : OpenClaim := { program := "ytimdnamhccipjaa", sum := "2cf71d0521341d20d34fd71095bb60dd7d772380f8ed09920dd890a3fbc93cfd", func := "clew/clewlaw10.TreeBlocks", spec := "treeBlocks", inPlace := ["internal/bytealg.IndexByteString", "internal/bytealg.IndexString"], unfollowed := true, recurses := true, named := ["internal/bytealg.MaxLen"], loops := true, apart := false }
def TreeBlocksSaid : Prop := treeBlocksRow.holds Try.pinned (OpenSpec.ofChange treeBlocksSpec)

/-- ITS FALSE NEIGHBOUR: 'it returns false'. Refute it at one input. -/
def treeBlocksWrong : ChangeSpec := { name := "treeBlocks", fn := fun _ => fun
  | [d] => { results := [.lit (.bool false)], args := [d] }
  | _ => none }
def TreeBlocksWrongFalsely : Prop := treeBlocksRow.holds Try.pinned (OpenSpec.ofChange treeBlocksWrong)

/-- 'clewlaw10.TreeBound': WHATEVER THE INPUT: true; the input reads as it did. -/
def treeBoundSpec : ChangeSpec := { name := "treeBound", fn := fun _ => fun
  | [d1, d2, d3] => { results := [.lit (.bool true)], args := [d1, d2, d3] }
  | _ => none }
def treeBoundRow : OpenClaim := { program := "ytimdnamhccipjaa", sum := "2cf71d0521341d20d34fd71095bb60dd7d772380f8ed09920dd890a3fbc93cfd", func := "clew/clewlaw10.TreeBound", spec := "treeBound", inPlace := ["internal/bytealg.IndexByteString", "internal/bytealg.IndexString"], unfollowed := true, recurses := true, named := ["internal/bytealg.MaxLen"], loops := true, apart := false }
def TreeBoundSaid : Prop := treeBoundRow.holds Try.pinned (OpenSpec.ofChange treeBoundSpec)

/-- ITS FALSE NEIGHBOUR: 'it returns false'. Refute it at one input. -/
def treeBoundWrong : ChangeSpec := { name := "treeBound", fn := fun _ => fun
  | [d1, d2, d3] => { results := [.lit (.bool false)], args := [d1, d2, d3] }
  | _ => none }
def TreeBoundWrongFalsely : Prop := treeBoundRow.holds Try.pinned (OpenSpec.ofChange treeBoundWrong)

/-- 'clewlaw10.TreeSizes': WHATEVER THE INPUT: true; the input reads as it did. -/
def treeSizesSpec : ChangeSpec := { name := "treeSizes", fn := fun _ => fun
  | [d1, d2] => { results := [.lit (.bool true)], args := [d1, d2] }
  | _ => none }
def treeSizesRow : OpenClaim := { program := "ytimdnamhccipjaa", sum := "2cf71d0521341d20d34fd71095bb60dd7d772380f8ed09920dd890a3fbc93cfd", func := "clew/clewlaw10.TreeSizes", spec := "treeSizes", inPlace := ["internal/bytealg.IndexByteString", "internal/bytealg.IndexString"], unfollowed := true, recurses := true, named := ["internal/bytealg.MaxLen"], loops := true, apart := false }
def TreeSizesSaid : Prop := treeSizesRow.holds Try.pinned (OpenSpec.ofChange treeSizesSpec)

/-- ITS FALSE NEIGHBOUR: 'it returns false'. Refute it at one input. -/
def treeSizesWrong : ChangeSpec := { name := "treeSizes", fn := fun _ => fun
  | [d1, d2] => { results := [.lit (.bool false)], args := [d1, d2] }
  | _ => none }
def TreeSizesWrongFalsely : Prop := treeSizesRow.holds Try.pinned (OpenSpec.ofChange treeSizesWrong)

/-- 'clewlaw10.TreeSame': WHATEVER THE INPUT: true; the input reads as it did. -/
def treeSameSpec : ChangeSpec := { name := "treeSame", fn := fun _ => fun
  | [d1, d2, d3, d4] => { results := [.lit (.bool true)], args := [d1, d2, d3, d4] }
  | _ => none }
def treeSameRow : OpenClaim := { program := "ytimdnamhccipjaa", sum := "2cf71d0521341d20d34fd71095bb60dd7d772380f8ed09920dd890a3fbc93cfd", func := "clew/clewlaw10.TreeSame", spec := "treeSame", inPlace := ["internal/bytealg.IndexByteString", "internal/bytealg.IndexString"], unfollowed := true, recurses := true, named := ["internal/bytealg.MaxLen"], loops := true, apart := false }
def TreeSameSaid : Prop := treeSameRow.holds Try.pinned (OpenSpec.ofChange treeSameSpec)

/-- ITS FALSE NEIGHBOUR: 'it returns false'. Refute it at one input. -/
def treeSameWrong : ChangeSpec := { name := "treeSame", fn := fun _ => fun
  | [d1, d2, d3, d4] => { results := [.lit (.bool false)], args := [d1, d2, d3, d4] }
  | _ => none }
def TreeSameWrongFalsely : Prop := treeSameRow.holds Try.pinned (OpenSpec.ofChange treeSameWrong)

/-- 'clewlaw10.TreeBinds': WHATEVER THE INPUT: true; the input reads as it did. -/
def treeBindsSpec : ChangeSpec := { name := "treeBinds", fn := fun _ => fun
  | [d1, d2, d3] => { results := [.lit (.bool true)], args := [d1, d2, d3] }
  | _ => none }
def treeBindsRow : OpenClaim := { program := "ytimdnamhccipjaa", sum := "2cf71d0521341d20d34fd71095bb60dd7d772380f8ed09920dd890a3fbc93cfd", func := "clew/clewlaw10.TreeBinds", spec := "treeBinds", inPlace := ["internal/bytealg.IndexByteString", "internal/bytealg.IndexString"], unfollowed := true, recurses := true, named := ["internal/bytealg.MaxLen"], loops := true, apart := false }
def TreeBindsSaid : Prop := treeBindsRow.holds Try.pinned (OpenSpec.ofChange treeBindsSpec)

/-- ITS FALSE NEIGHBOUR: 'it returns false'. Refute it at one input. -/
def treeBindsWrong : ChangeSpec := { name := "treeBinds", fn := fun _ => fun
  | [d1, d2, d3] => { results := [.lit (.bool false)], args := [d1, d2, d3] }
  | _ => none }
def TreeBindsWrongFalsely : Prop := treeBindsRow.holds Try.pinned (OpenSpec.ofChange treeBindsWrong)

/- THE SECOND FORM. 'bulk': how many values and letters a reading holds, each counted each time it is reached (what is shared counts as often as it is met; a slice's spare places count too). A statement '..UptoSaid' is the law's where the arguments, and the package variables that the reading takes, are together of bulk at most 1048576: NARROWER than '..Said'. Prove '..Said' where nothing that the law and all that it calls make is longer than what came in: it says more and counts as full. Else prove '..UptoSaid'. A law counts once. -/
mutual
def uptoBulk {H : Type} : DataW H → Nat
  | .lit (.string bytes) => bytes.length + 1
  | .lit _ => 1
  | .nil => 1
  | .ptr d => uptoBulk d + 1
  | .slice elems spare => uptoBulkAll elems + uptoBulkAll spare + 1
  | .agg parts => uptoBulkAll parts + 1
  | .iface _ d => uptoBulk d + 1
  | .map entries => uptoBulkEntries entries + 1
  | .held _ => 1
def uptoBulkAll {H : Type} : List (DataW H) → Nat
  | [] => 0
  | d :: r => uptoBulk d + uptoBulkAll r
def uptoBulkEntries {H : Type} : List (Lit × DataW H) → Nat
  | [] => 0
  | x :: r => uptoBulkEntry x + uptoBulkEntries r
def uptoBulkEntry {H : Type} : Lit × DataW H → Nat
  | (.string bytes, d) => bytes.length + uptoBulk d + 1
  | (_, d) => uptoBulk d + 1
 end
def uptoSmall : (H : Type) → List (DataW H) → Bool := fun _ ds => decide (uptoBulkAll ds ≤ 1048576)
def OpenSpec.upto (s : _root_.Go.ChangeSpec) : _root_.Go.OpenSpec := { _root_.Go.OpenSpec.ofChange s with cond := some uptoSmall }

/-- 'clewlaw49.ScriptTypes', WHERE WHAT IT READS IS OF BULK AT MOST 1048576: true; the input reads as it did. -/
def scriptTypesUptoRow : OpenClaim := { program := "ytimdnamhccipjaa", sum := "2cf71d0521341d20d34fd71095bb60dd7d772380f8ed09920dd890a3fbc93cfd", func := "clew/clewlaw49.ScriptTypes", spec := "scriptTypes", inPlace := ["internal/bytealg.IndexByteString", "internal/bytealg.IndexString"], unfollowed := true, recurses := true, named := ["internal/bytealg.MaxLen"], apart := false, narrowed := true }
def ScriptTypesUptoSaid : Prop := scriptTypesUptoRow.holds Try.pinned (OpenSpec.upto scriptTypesSpec)

/-- 'clewlaw18.FoldTells', WHERE WHAT IT READS IS OF BULK AT MOST 1048576: true; the input reads as it did. -/
def foldTellsUptoRow : OpenClaim := { program := "ytimdnamhccipjaa", sum := "2cf71d0521341d20d34fd71095bb60dd7d772380f8ed09920dd890a3fbc93cfd", func := "clew/clewlaw18.FoldTells", spec := "foldTells", unfollowed := true, recurses := true, loops := true, apart := false, narrowed := true }
def FoldTellsUptoSaid : Prop := foldTellsUptoRow.holds Try.pinned (OpenSpec.upto foldTellsSpec)

/-- 'clewlaw18.FoldOnce', WHERE WHAT IT READS IS OF BULK AT MOST 1048576: true; the input reads as it did. -/
def foldOnceUptoRow : OpenClaim := { program := "ytimdnamhccipjaa", sum := "2cf71d0521341d20d34fd71095bb60dd7d772380f8ed09920dd890a3fbc93cfd", func := "clew/clewlaw18.FoldOnce", spec := "foldOnce", unfollowed := true, recurses := true, loops := true, apart := false, narrowed := true }
def FoldOnceUptoSaid : Prop := foldOnceUptoRow.holds Try.pinned (OpenSpec.upto foldOnceSpec)

/-- 'clewlaw18.FoldMay', WHERE WHAT IT READS IS OF BULK AT MOST 1048576: true; the input reads as it did. -/
def foldMayUptoRow : OpenClaim := { program := "ytimdnamhccipjaa", sum := "2cf71d0521341d20d34fd71095bb60dd7d772380f8ed09920dd890a3fbc93cfd", func := "clew/clewlaw18.FoldMay", spec := "foldMay", unfollowed := true, recurses := true, loops := true, apart := false, narrowed := true }
def FoldMayUptoSaid : Prop := foldMayUptoRow.holds Try.pinned (OpenSpec.upto foldMaySpec)

/-- 'clewlaw10.TreeRight', WHERE WHAT IT READS IS OF BULK AT MOST 1048576: true; the input reads as it did. -/
def treeRightUptoRow : OpenClaim := { program := "ytimdnamhccipjaa", sum := "2cf71d0521341d20d34fd71095bb60dd7d772380f8ed09920dd890a3fbc93cfd", func := "clew/clewlaw10.TreeRight", spec := "treeRight", inPlace := ["internal/bytealg.IndexByteString", "internal/bytealg.IndexString"], unfollowed := true, recurses := true, named := ["internal/bytealg.MaxLen"], loops := true, apart := false, narrowed := true }
def TreeRightUptoSaid : Prop := treeRightUptoRow.holds Try.pinned (OpenSpec.upto treeRightSpec)

/-- 'clewlaw10.TreeBlocks', WHERE WHAT IT READS IS OF BULK AT MOST 1048576: true; the input reads as it did. -/
def treeBlocksUptoRow : OpenClaim := { program := "ytimdnamhccipjaa", sum := "2cf71d0521341d20d34fd71095bb60dd7d772380f8ed09920dd890a3fbc93cfd", func := "clew/clewlaw10.TreeBlocks", spec := "treeBlocks", inPlace := ["internal/bytealg.IndexByteString", "internal/bytealg.IndexString"], unfollowed := true, recurses := true, named := ["internal/bytealg.MaxLen"], loops := true, apart := false, narrowed := true }
def TreeBlocksUptoSaid : Prop := treeBlocksUptoRow.holds Try.pinned (OpenSpec.upto treeBlocksSpec)

/-- 'clewlaw10.TreeBound', WHERE WHAT IT READS IS OF BULK AT MOST 1048576: true; the input reads as it did. -/
def treeBoundUptoRow : OpenClaim := { program := "ytimdnamhccipjaa", sum := "2cf71d0521341d20d34fd71095bb60dd7d772380f8ed09920dd890a3fbc93cfd", func := "clew/clewlaw10.TreeBound", spec := "treeBound", inPlace := ["internal/bytealg.IndexByteString", "internal/bytealg.IndexString"], unfollowed := true, recurses := true, named := ["internal/bytealg.MaxLen"], loops := true, apart := false, narrowed := true }
def TreeBoundUptoSaid : Prop := treeBoundUptoRow.holds Try.pinned (OpenSpec.upto treeBoundSpec)

/-- 'clewlaw10.TreeSizes', WHERE WHAT IT READS IS OF BULK AT MOST 1048576: true; the input reads as it did. -/
def treeSizesUptoRow : OpenClaim := { program := "ytimdnamhccipjaa", sum := "2cf71d0521341d20d34fd71095bb60dd7d772380f8ed09920dd890a3fbc93cfd", func := "clew/clewlaw10.TreeSizes", spec := "treeSizes", inPlace := ["internal/bytealg.IndexByteString", "internal/bytealg.IndexString"], unfollowed := true, recurses := true, named := ["internal/bytealg.MaxLen"], loops := true, apart := false, narrowed := true }
def TreeSizesUptoSaid : Prop := treeSizesUptoRow.holds Try.pinned (OpenSpec.upto treeSizesSpec)

/-- 'clewlaw10.TreeSame', WHERE WHAT IT READS IS OF BULK AT MOST 1048576: true; the input reads as it did. -/
def treeSameUptoRow : OpenClaim := { program := "ytimdnamhccipjaa", sum := "2cf71d0521341d20d34fd71095bb60dd7d772380f8ed09920dd890a3fbc93cfd", func := "clew/clewlaw10.TreeSame", spec := "treeSame", inPlace := ["internal/bytealg.IndexByteString", "internal/bytealg.IndexString"], unfollowed := true, recurses := true, named := ["internal/bytealg.MaxLen"], loops := true, apart := false, narrowed := true }
def TreeSameUptoSaid : Prop := treeSameUptoRow.holds Try.pinned (OpenSpec.upto treeSameSpec)

/-- 'clewlaw10.TreeBinds', WHERE WHAT IT READS IS OF BULK AT MOST 1048576: true; the input reads as it did. -/
def treeBindsUptoRow : OpenClaim := { program := "ytimdnamhccipjaa", sum := "2cf71d0521341d20d34fd71095bb60dd7d772380f8ed09920dd890a3fbc93cfd", func := "clew/clewlaw10.TreeBinds", spec := "treeBinds", inPlace := ["internal/bytealg.IndexByteString", "internal/bytealg.IndexString"], unfollowed := true, recurses := true, named := ["internal/bytealg.MaxLen"], loops := true, apart := false, narrowed := true }
def TreeBindsUptoSaid : Prop := treeBindsUptoRow.holds Try.pinned (OpenSpec.upto treeBindsSpec)

end Rows
end Go.Proofs.Ytimdnamhccipjaa
