/-
  DERIVED. GIVEN WITH THE SEED: THE CARDS: each row of YtojfladifnobbaaGreatDoorRows.lean that lists a variable, with what it lists TIED to the program's text (the seventh form; the later family's looks); each row that meets fmt, with fmt's text TOLD by the authors' own Lean function (tested against real Go, not proved from fmt's source: count such statements apart). THE CARD IS WHAT COUNTS. Prove the row's statement (the work); the ties are given (YtojfladifnobbaaGreatDoorTie.lean); close each card by the builder's one call (the guide's Derived/Test/ToyasCard.lean, 'card_holds'). Laid BY PROGRAM, IN A SANDBOX (cutbox-door.mjs). By AI agents, Wed Nov 11 2026. No macro, syntax, notation, axiom, sorry.
-/
import Derived.Test.YtojfladifnobbaaGreatDoorRows
import GoSem.ClaimSeven
namespace Go.Proofs.YtojfladifnobbaaGreatDoor
namespace Rows

/-- THE TIED CARD OF 'glebelaw26.MergForms'. -/
def mergFormsCard : Claim7 := { stood := { row := mergFormsRow, standIns := [], harness := (true, "89fb110d7a9342b015b2839440b100bb2abf1e33d1aff31db5a1c5a784c211a7"), looks := false }, kinds := [], alts := [], laidByText := true, laidKinds := [.data, .data, .data], laidTests := true, laidLooks := .later }
def MergFormsCardSaid : Prop := Claim7.holds Tryz.pinned (.plain (OpenSpec.ofChange mergFormsSpec)) mergFormsCard

/-- THE TIED CARD OF 'glebelaw26.MergMany'. -/
def mergManyCard : Claim7 := { stood := { row := mergManyRow, standIns := [], harness := (true, "89fb110d7a9342b015b2839440b100bb2abf1e33d1aff31db5a1c5a784c211a7"), looks := false }, kinds := [], alts := [], laidByText := true, laidKinds := [.data, .data, .data], laidTests := true, laidLooks := .later }
def MergManyCardSaid : Prop := Claim7.holds Tryz.pinned (.plain (OpenSpec.ofChange mergManySpec)) mergManyCard

/-- THE SECOND FORM's CARD OF 'glebelaw26.MergForms'. -/
def mergFormsUptoCard : Claim7 := { stood := { row := mergFormsUptoRow, standIns := [], harness := (true, "89fb110d7a9342b015b2839440b100bb2abf1e33d1aff31db5a1c5a784c211a7"), looks := false }, kinds := [], alts := [], laidByText := true, laidKinds := [.data, .data, .data], laidTests := true, laidLooks := .later }
def MergFormsUptoCardSaid : Prop := Claim7.holds Tryz.pinned (.plain (OpenSpec.upto mergFormsSpec)) mergFormsUptoCard

/-- THE SECOND FORM's CARD OF 'glebelaw26.MergMany'. -/
def mergManyUptoCard : Claim7 := { stood := { row := mergManyUptoRow, standIns := [], harness := (true, "89fb110d7a9342b015b2839440b100bb2abf1e33d1aff31db5a1c5a784c211a7"), looks := false }, kinds := [], alts := [], laidByText := true, laidKinds := [.data, .data, .data], laidTests := true, laidLooks := .later }
def MergManyUptoCardSaid : Prop := Claim7.holds Tryz.pinned (.plain (OpenSpec.upto mergManySpec)) mergManyUptoCard
end Rows
end Go.Proofs.YtojfladifnobbaaGreatDoor
