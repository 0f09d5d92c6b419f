/-
  DERIVED. GIVEN WITH THE SEED: THE CARDS: each row of YtnbfadgclffgkaaGreatDoorRows.lean that lists a variable, with what it lists TIED to the program's text (the seventh form; the later family's looks); each row that meets fmt, with fmt's text TOLD by the authors' own Lean function (tested against real Go, not proved from fmt's source: count such statements apart). THE CARD IS WHAT COUNTS. Prove the row's statement (the work); the ties are given (YtnbfadgclffgkaaGreatDoorTie.lean); close each card by the builder's one call (the guide's Derived/Test/ToyasCard.lean, 'card_holds'). Laid BY PROGRAM, IN A SANDBOX (cutbox-door.mjs). By AI agents, Wed Nov 11 2026. No macro, syntax, notation, axiom, sorry.
-/
import Derived.Test.YtnbfadgclffgkaaGreatDoorRows
import GoSem.ClaimSeven
namespace Go.Proofs.YtnbfadgclffgkaaGreatDoor
namespace Rows

/-- THE TIED CARD OF 'clewlaw12.ClausePrints'. -/
def clausePrintsCard : Claim7 := { stood := { row := clausePrintsRow, standIns := [], harness := (true, "d88fa124b4184c458c35f6131e1659004b5389906f251f869b208ceef745c4ab"), looks := true }, kinds := [], alts := [], laidByText := true, laidKinds := [.data, .data, .data], laidTests := true, laidLooks := .later }
def ClausePrintsCardSaid : Prop := Claim7.holds Tryz.pinned (.plain (OpenSpec.ofChange clausePrintsSpec)) clausePrintsCard

/-- THE TIED CARD OF 'clewlaw12.ClauseJoins'. -/
def clauseJoinsCard : Claim7 := { stood := { row := clauseJoinsRow, standIns := [], harness := (true, "d88fa124b4184c458c35f6131e1659004b5389906f251f869b208ceef745c4ab"), looks := true }, kinds := [], alts := [], laidByText := true, laidKinds := [.data, .data, .data], laidTests := true, laidLooks := .later }
def ClauseJoinsCardSaid : Prop := Claim7.holds Tryz.pinned (.plain (OpenSpec.ofChange clauseJoinsSpec)) clauseJoinsCard

/-- THE TIED CARD OF 'clewlaw12.ClauseParses'. -/
def clauseParsesCard : Claim7 := { stood := { row := clauseParsesRow, standIns := [], harness := (true, "d88fa124b4184c458c35f6131e1659004b5389906f251f869b208ceef745c4ab"), looks := true }, kinds := [], alts := [], laidByText := true, laidKinds := [.data, .data, .data], laidTests := true, laidLooks := .later }
def ClauseParsesCardSaid : Prop := Claim7.holds Tryz.pinned (.plain (OpenSpec.ofChange clauseParsesSpec)) clauseParsesCard

/-- THE SECOND FORM's CARD OF 'clewlaw12.ClausePrints'. -/
def clausePrintsUptoCard : Claim7 := { stood := { row := clausePrintsUptoRow, standIns := [], harness := (true, "d88fa124b4184c458c35f6131e1659004b5389906f251f869b208ceef745c4ab"), looks := true }, kinds := [], alts := [], laidByText := true, laidKinds := [.data, .data, .data], laidTests := true, laidLooks := .later }
def ClausePrintsUptoCardSaid : Prop := Claim7.holds Tryz.pinned (.plain (OpenSpec.upto clausePrintsSpec)) clausePrintsUptoCard

/-- THE SECOND FORM's CARD OF 'clewlaw12.ClauseJoins'. -/
def clauseJoinsUptoCard : Claim7 := { stood := { row := clauseJoinsUptoRow, standIns := [], harness := (true, "d88fa124b4184c458c35f6131e1659004b5389906f251f869b208ceef745c4ab"), looks := true }, kinds := [], alts := [], laidByText := true, laidKinds := [.data, .data, .data], laidTests := true, laidLooks := .later }
def ClauseJoinsUptoCardSaid : Prop := Claim7.holds Tryz.pinned (.plain (OpenSpec.upto clauseJoinsSpec)) clauseJoinsUptoCard

/-- THE SECOND FORM's CARD OF 'clewlaw12.ClauseParses'. -/
def clauseParsesUptoCard : Claim7 := { stood := { row := clauseParsesUptoRow, standIns := [], harness := (true, "d88fa124b4184c458c35f6131e1659004b5389906f251f869b208ceef745c4ab"), looks := true }, kinds := [], alts := [], laidByText := true, laidKinds := [.data, .data, .data], laidTests := true, laidLooks := .later }
def ClauseParsesUptoCardSaid : Prop := Claim7.holds Tryz.pinned (.plain (OpenSpec.upto clauseParsesSpec)) clauseParsesUptoCard
end Rows
end Go.Proofs.YtnbfadgclffgkaaGreatDoor
