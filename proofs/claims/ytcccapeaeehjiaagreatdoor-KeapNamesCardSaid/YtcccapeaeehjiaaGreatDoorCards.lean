/-
  DERIVED. GIVEN WITH THE SEED: THE CARDS: each row of YtcccapeaeehjiaaGreatDoorRows.lean that lists a variable, with what it lists TIED to the program's text (the seventh form; the later family's looks); each row that meets fmt, with fmt's text TOLD by the authors' own Lean function (tested against real Go, not proved from fmt's source: count such statements apart). THE CARD IS WHAT COUNTS. Prove the row's statement (the work); the ties are given (YtcccapeaeehjiaaGreatDoorTie.lean); close each card by the builder's one call (the guide's Derived/Test/ToyasCard.lean, 'card_holds'). Laid BY PROGRAM, IN A SANDBOX (cutbox-door.mjs). By AI agents, Wed Nov 11 2026. No macro, syntax, notation, axiom, sorry.
-/
import Derived.Test.YtcccapeaeehjiaaGreatDoorRows
import GoSem.ClaimSeven
namespace Go.Proofs.YtcccapeaeehjiaaGreatDoor
namespace Rows

/-- THE TIED CARD OF 'glebelaw22.KeapNames'. -/
def keapNamesCard : Claim7 := { stood := { row := keapNamesRow, standIns := [], harness := (true, "0df19e5df17dee7e9543839f4940e04c9c5d963fb960bb4120c90335f707ac24"), looks := true }, kinds := [], alts := [], laidByText := true, laidKinds := [.data, .data, .data, .data, .pinned], laidTests := true, laidLooks := .later }
def KeapNamesCardSaid : Prop := Claim7.holds Tryz.pinned (.plain (OpenSpec.ofChange keapNamesSpec)) keapNamesCard

/-- THE TIED CARD OF 'glebelaw21.KeadNames'. -/
def keadNamesCard : Claim7 := { stood := { row := keadNamesRow, standIns := [], harness := (true, "0df19e5df17dee7e9543839f4940e04c9c5d963fb960bb4120c90335f707ac24"), looks := true }, kinds := [], alts := [], laidByText := true, laidKinds := [.data, .data, .data, .data, .sentinel, .sentinel, .pinned], laidTests := true, laidLooks := .later }
def KeadNamesCardSaid : Prop := Claim7.holds Tryz.pinned (.plain (OpenSpec.ofChange keadNamesSpec)) keadNamesCard

/-- THE TIED CARD OF 'glebelaw21.KeadData'. -/
def keadDataCard : Claim7 := { stood := { row := keadDataRow, standIns := [], harness := (true, "0df19e5df17dee7e9543839f4940e04c9c5d963fb960bb4120c90335f707ac24"), looks := true }, kinds := [], alts := [], laidByText := true, laidKinds := [.data, .data, .data, .data, .sentinel, .sentinel, .pinned], laidTests := true, laidLooks := .later }
def KeadDataCardSaid : Prop := Claim7.holds Tryz.pinned (.plain (OpenSpec.ofChange keadDataSpec)) keadDataCard

/-- THE SECOND FORM's CARD OF 'glebelaw22.KeapNames'. -/
def keapNamesUptoCard : Claim7 := { stood := { row := keapNamesUptoRow, standIns := [], harness := (true, "0df19e5df17dee7e9543839f4940e04c9c5d963fb960bb4120c90335f707ac24"), looks := true }, kinds := [], alts := [], laidByText := true, laidKinds := [.data, .data, .data, .data, .pinned], laidTests := true, laidLooks := .later }
def KeapNamesUptoCardSaid : Prop := Claim7.holds Tryz.pinned (.plain (OpenSpec.upto keapNamesSpec)) keapNamesUptoCard

/-- THE SECOND FORM's CARD OF 'glebelaw21.KeadNames'. -/
def keadNamesUptoCard : Claim7 := { stood := { row := keadNamesUptoRow, standIns := [], harness := (true, "0df19e5df17dee7e9543839f4940e04c9c5d963fb960bb4120c90335f707ac24"), looks := true }, kinds := [], alts := [], laidByText := true, laidKinds := [.data, .data, .data, .data, .sentinel, .sentinel, .pinned], laidTests := true, laidLooks := .later }
def KeadNamesUptoCardSaid : Prop := Claim7.holds Tryz.pinned (.plain (OpenSpec.upto keadNamesSpec)) keadNamesUptoCard

/-- THE SECOND FORM's CARD OF 'glebelaw21.KeadData'. -/
def keadDataUptoCard : Claim7 := { stood := { row := keadDataUptoRow, standIns := [], harness := (true, "0df19e5df17dee7e9543839f4940e04c9c5d963fb960bb4120c90335f707ac24"), looks := true }, kinds := [], alts := [], laidByText := true, laidKinds := [.data, .data, .data, .data, .sentinel, .sentinel, .pinned], laidTests := true, laidLooks := .later }
def KeadDataUptoCardSaid : Prop := Claim7.holds Tryz.pinned (.plain (OpenSpec.upto keadDataSpec)) keadDataUptoCard
end Rows
end Go.Proofs.YtcccapeaeehjiaaGreatDoor
