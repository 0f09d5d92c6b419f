/-
  DERIVED. GIVEN WITH THE SEED: THE CARDS: each row of YtmabeegoapcfpaaGreatDoorRows.lean that lists a variable, with what it lists TIED to the program's text (the seventh form; the later family's looks); each row that meets fmt, with fmt's text TOLD by the authors' own Lean function (tested against real Go, not proved from fmt's source: count such statements apart). THE CARD IS WHAT COUNTS. Prove the row's statement (the work); the ties are given (YtmabeegoapcfpaaGreatDoorTie.lean); close each card by the builder's one call (the guide's Derived/Test/ToyasCard.lean, 'card_holds'). Laid BY PROGRAM, IN A SANDBOX (cutbox-door.mjs). By AI agents, Wed Nov 11 2026. No macro, syntax, notation, axiom, sorry.
-/
import Derived.Test.YtmabeegoapcfpaaGreatDoorRows
import GoSem.ClaimSeven
namespace Go.Proofs.YtmabeegoapcfpaaGreatDoor
namespace Rows

/-- THE TIED CARD OF 'clewlaw14.ShowRight'. -/
def showRightCard : Claim7 := { stood := { row := showRightRow, standIns := [], harness := (true, "ea8da07282cc2abc4c82c7498e3e44b7ce0c469ea16548b5f644612904c3b89c"), looks := false }, kinds := [], alts := [], laidByText := true, laidKinds := [.data, .data, .data, .listed, .data], laidTests := true, laidLooks := .later }
def ShowRightCardSaid : Prop := Claim7.holds Tryz.pinned (.plain (OpenSpec.ofChange showRightSpec)) showRightCard

/-- THE TIED CARD OF 'clewlaw14.ShowSame'. -/
def showSameCard : Claim7 := { stood := { row := showSameRow, standIns := [], harness := (true, "ea8da07282cc2abc4c82c7498e3e44b7ce0c469ea16548b5f644612904c3b89c"), looks := false }, kinds := [], alts := [], laidByText := true, laidKinds := [.data, .data, .data, .listed, .data], laidTests := true, laidLooks := .later }
def ShowSameCardSaid : Prop := Claim7.holds Tryz.pinned (.plain (OpenSpec.ofChange showSameSpec)) showSameCard

/-- THE TIED CARD OF 'clewlaw14.ShowSource'. -/
def showSourceCard : Claim7 := { stood := { row := showSourceRow, standIns := [], harness := (true, "ea8da07282cc2abc4c82c7498e3e44b7ce0c469ea16548b5f644612904c3b89c"), looks := false }, kinds := [], alts := [], laidByText := true, laidKinds := [.data, .data, .data, .listed, .data], laidTests := true, laidLooks := .later }
def ShowSourceCardSaid : Prop := Claim7.holds Tryz.pinned (.plain (OpenSpec.ofChange showSourceSpec)) showSourceCard

/-- THE TIED CARD OF 'clewlaw14.ShowParts'. -/
def showPartsCard : Claim7 := { stood := { row := showPartsRow, standIns := [], harness := (true, "ea8da07282cc2abc4c82c7498e3e44b7ce0c469ea16548b5f644612904c3b89c"), looks := false }, kinds := [], alts := [], laidByText := true, laidKinds := [.data, .data, .data, .listed, .data], laidTests := true, laidLooks := .later }
def ShowPartsCardSaid : Prop := Claim7.holds Tryz.pinned (.plain (OpenSpec.ofChange showPartsSpec)) showPartsCard

/-- THE SECOND FORM's CARD OF 'clewlaw14.ShowRight'. -/
def showRightUptoCard : Claim7 := { stood := { row := showRightUptoRow, standIns := [], harness := (true, "ea8da07282cc2abc4c82c7498e3e44b7ce0c469ea16548b5f644612904c3b89c"), looks := false }, kinds := [], alts := [], laidByText := true, laidKinds := [.data, .data, .data, .listed, .data], laidTests := true, laidLooks := .later }
def ShowRightUptoCardSaid : Prop := Claim7.holds Tryz.pinned (.plain (OpenSpec.upto showRightSpec)) showRightUptoCard

/-- THE SECOND FORM's CARD OF 'clewlaw14.ShowSame'. -/
def showSameUptoCard : Claim7 := { stood := { row := showSameUptoRow, standIns := [], harness := (true, "ea8da07282cc2abc4c82c7498e3e44b7ce0c469ea16548b5f644612904c3b89c"), looks := false }, kinds := [], alts := [], laidByText := true, laidKinds := [.data, .data, .data, .listed, .data], laidTests := true, laidLooks := .later }
def ShowSameUptoCardSaid : Prop := Claim7.holds Tryz.pinned (.plain (OpenSpec.upto showSameSpec)) showSameUptoCard

/-- THE SECOND FORM's CARD OF 'clewlaw14.ShowSource'. -/
def showSourceUptoCard : Claim7 := { stood := { row := showSourceUptoRow, standIns := [], harness := (true, "ea8da07282cc2abc4c82c7498e3e44b7ce0c469ea16548b5f644612904c3b89c"), looks := false }, kinds := [], alts := [], laidByText := true, laidKinds := [.data, .data, .data, .listed, .data], laidTests := true, laidLooks := .later }
def ShowSourceUptoCardSaid : Prop := Claim7.holds Tryz.pinned (.plain (OpenSpec.upto showSourceSpec)) showSourceUptoCard

/-- THE SECOND FORM's CARD OF 'clewlaw14.ShowParts'. -/
def showPartsUptoCard : Claim7 := { stood := { row := showPartsUptoRow, standIns := [], harness := (true, "ea8da07282cc2abc4c82c7498e3e44b7ce0c469ea16548b5f644612904c3b89c"), looks := false }, kinds := [], alts := [], laidByText := true, laidKinds := [.data, .data, .data, .listed, .data], laidTests := true, laidLooks := .later }
def ShowPartsUptoCardSaid : Prop := Claim7.holds Tryz.pinned (.plain (OpenSpec.upto showPartsSpec)) showPartsUptoCard
end Rows
end Go.Proofs.YtmabeegoapcfpaaGreatDoor
