/-
  DERIVED. GIVEN WITH THE SEED: THE CARDS: each row of YtcgchblljhbdaaaDoorRows.lean that lists a variable, with what it lists TIED to the program's text (the seventh form; the later family's looks); each row that meets fmt, with fmt's text TOLD by the authors' own Lean function (tested against real Go, not proved from fmt's source: count such statements apart). THE CARD IS WHAT COUNTS. Prove the row's statement (the work); the ties are given (YtcgchblljhbdaaaDoorTie.lean); close each card by the builder's one call (the guide's Derived/Test/ToyasCard.lean, 'card_holds'). Laid BY PROGRAM, IN A SANDBOX (cutbox-door.mjs). By AI agents, Wed Nov 11 2026. No macro, syntax, notation, axiom, sorry.
-/
import Derived.Test.YtcgchblljhbdaaaDoorRows
import GoSem.ClaimSeven
namespace Go.Proofs.YtcgchblljhbdaaaDoor
namespace Rows

/-- THE TIED CARD OF 'glebelaw6.DateForms'. -/
def dateFormsCard : Claim7 := { stood := { row := dateFormsRow, standIns := [], harness := (true, "d2671a799248f02018a7aac8171a0b14695240502d2fa88df877fd17a04266e5"), looks := false }, kinds := [], alts := [], laidByText := true, laidKinds := [.data, .data, .data], laidTests := true, laidLooks := .later }
def DateFormsCardSaid : Prop := Claim7.holds Tryd.pinned (.plain (OpenSpec.ofChange dateFormsSpec)) dateFormsCard

/-- THE TIED CARD OF 'glebelaw6.DateNums'. -/
def dateNumsCard : Claim7 := { stood := { row := dateNumsRow, standIns := [], harness := (true, "d2671a799248f02018a7aac8171a0b14695240502d2fa88df877fd17a04266e5"), looks := false }, kinds := [], alts := [], laidByText := true, laidKinds := [.data, .data, .data], laidTests := true, laidLooks := .later }
def DateNumsCardSaid : Prop := Claim7.holds Tryd.pinned (.plain (OpenSpec.ofChange dateNumsSpec)) dateNumsCard

/-- THE TIED CARD OF 'glebelaw6.DateTells'. -/
def dateTellsCard : Claim7 := { stood := { row := dateTellsRow, standIns := [], harness := (true, "d2671a799248f02018a7aac8171a0b14695240502d2fa88df877fd17a04266e5"), looks := false }, kinds := [], alts := [], laidByText := true, laidKinds := [.data, .data, .data], laidTests := true, laidLooks := .later }
def DateTellsCardSaid : Prop := Claim7.holds Tryd.pinned (.plain (OpenSpec.ofChange dateTellsSpec)) dateTellsCard

/-- THE TIED CARD OF 'glebelaw6.DateBack'. -/
def dateBackCard : Claim7 := { stood := { row := dateBackRow, standIns := [], harness := (true, "d2671a799248f02018a7aac8171a0b14695240502d2fa88df877fd17a04266e5"), looks := false }, kinds := [], alts := [], laidByText := true, laidKinds := [.data, .data, .data], laidTests := true, laidLooks := .later }
def DateBackCardSaid : Prop := Claim7.holds Tryd.pinned (.plain (OpenSpec.ofChange dateBackSpec)) dateBackCard

/-- THE TIED CARD OF 'glebelaw5.MacsForms'. -/
def macsFormsCard : Claim7 := { stood := { row := macsFormsRow, standIns := [], harness := (true, "d2671a799248f02018a7aac8171a0b14695240502d2fa88df877fd17a04266e5"), looks := false }, kinds := [], alts := [], laidByText := true, laidKinds := [.data, .pinned], laidTests := true, laidLooks := .later }
def MacsFormsCardSaid : Prop := Claim7.holds Tryd.pinned (.plain (OpenSpec.ofChange macsFormsSpec)) macsFormsCard

/-- THE TIED CARD OF 'glebelaw5.MacsOne'. -/
def macsOneCard : Claim7 := { stood := { row := macsOneRow, standIns := [], harness := (true, "d2671a799248f02018a7aac8171a0b14695240502d2fa88df877fd17a04266e5"), looks := false }, kinds := [], alts := [], laidByText := true, laidKinds := [.data, .pinned], laidTests := true, laidLooks := .later }
def MacsOneCardSaid : Prop := Claim7.holds Tryd.pinned (.plain (OpenSpec.ofChange macsOneSpec)) macsOneCard

/-- THE TIED CARD OF 'glebelaw5.MacsTells'. -/
def macsTellsCard : Claim7 := { stood := { row := macsTellsRow, standIns := [], harness := (true, "d2671a799248f02018a7aac8171a0b14695240502d2fa88df877fd17a04266e5"), looks := false }, kinds := [], alts := [], laidByText := true, laidKinds := [.data, .pinned], laidTests := true, laidLooks := .later }
def MacsTellsCardSaid : Prop := Claim7.holds Tryd.pinned (.plain (OpenSpec.ofChange macsTellsSpec)) macsTellsCard

/-- THE TIED CARD OF 'glebelaw9.CsvrForms'. -/
def csvrFormsCard : Claim7 := { stood := { row := csvrFormsRow, standIns := [], harness := (true, "d2671a799248f02018a7aac8171a0b14695240502d2fa88df877fd17a04266e5"), looks := false }, kinds := [], alts := [], laidByText := true, laidKinds := [.data, .pinned], laidTests := true, laidLooks := .later }
def CsvrFormsCardSaid : Prop := Claim7.holds Tryd.pinned (.plain (OpenSpec.ofChange csvrFormsSpec)) csvrFormsCard

/-- THE TIED CARD OF 'glebelaw9.CsvrLong'. -/
def csvrLongCard : Claim7 := { stood := { row := csvrLongRow, standIns := [], harness := (true, "d2671a799248f02018a7aac8171a0b14695240502d2fa88df877fd17a04266e5"), looks := false }, kinds := [], alts := [], laidByText := true, laidKinds := [.data, .pinned], laidTests := true, laidLooks := .later }
def CsvrLongCardSaid : Prop := Claim7.holds Tryd.pinned (.plain (OpenSpec.ofChange csvrLongSpec)) csvrLongCard

/-- THE TIED CARD OF 'glebelaw9.CsvrEnds'. -/
def csvrEndsCard : Claim7 := { stood := { row := csvrEndsRow, standIns := [], harness := (true, "d2671a799248f02018a7aac8171a0b14695240502d2fa88df877fd17a04266e5"), looks := false }, kinds := [], alts := [], laidByText := true, laidKinds := [.data, .pinned], laidTests := true, laidLooks := .later }
def CsvrEndsCardSaid : Prop := Claim7.holds Tryd.pinned (.plain (OpenSpec.ofChange csvrEndsSpec)) csvrEndsCard

/-- THE TIED CARD OF 'glebelaw9.CsvrTells'. -/
def csvrTellsCard : Claim7 := { stood := { row := csvrTellsRow, standIns := [], harness := (true, "d2671a799248f02018a7aac8171a0b14695240502d2fa88df877fd17a04266e5"), looks := false }, kinds := [], alts := [], laidByText := true, laidKinds := [.data, .pinned], laidTests := true, laidLooks := .later }
def CsvrTellsCardSaid : Prop := Claim7.holds Tryd.pinned (.plain (OpenSpec.ofChange csvrTellsSpec)) csvrTellsCard

/-- THE TIED CARD OF 'glebelaw9.CsvrBack'. -/
def csvrBackCard : Claim7 := { stood := { row := csvrBackRow, standIns := [], harness := (true, "d2671a799248f02018a7aac8171a0b14695240502d2fa88df877fd17a04266e5"), looks := false }, kinds := [], alts := [], laidByText := true, laidKinds := [.data, .pinned], laidTests := true, laidLooks := .later }
def CsvrBackCardSaid : Prop := Claim7.holds Tryd.pinned (.plain (OpenSpec.ofChange csvrBackSpec)) csvrBackCard

/-- THE SECOND FORM's CARD OF 'glebelaw6.DateForms'. -/
def dateFormsUptoCard : Claim7 := { stood := { row := dateFormsUptoRow, standIns := [], harness := (true, "d2671a799248f02018a7aac8171a0b14695240502d2fa88df877fd17a04266e5"), looks := false }, kinds := [], alts := [], laidByText := true, laidKinds := [.data, .data, .data], laidTests := true, laidLooks := .later }
def DateFormsUptoCardSaid : Prop := Claim7.holds Tryd.pinned (.plain (OpenSpec.upto dateFormsSpec)) dateFormsUptoCard

/-- THE SECOND FORM's CARD OF 'glebelaw6.DateNums'. -/
def dateNumsUptoCard : Claim7 := { stood := { row := dateNumsUptoRow, standIns := [], harness := (true, "d2671a799248f02018a7aac8171a0b14695240502d2fa88df877fd17a04266e5"), looks := false }, kinds := [], alts := [], laidByText := true, laidKinds := [.data, .data, .data], laidTests := true, laidLooks := .later }
def DateNumsUptoCardSaid : Prop := Claim7.holds Tryd.pinned (.plain (OpenSpec.upto dateNumsSpec)) dateNumsUptoCard

/-- THE SECOND FORM's CARD OF 'glebelaw6.DateTells'. -/
def dateTellsUptoCard : Claim7 := { stood := { row := dateTellsUptoRow, standIns := [], harness := (true, "d2671a799248f02018a7aac8171a0b14695240502d2fa88df877fd17a04266e5"), looks := false }, kinds := [], alts := [], laidByText := true, laidKinds := [.data, .data, .data], laidTests := true, laidLooks := .later }
def DateTellsUptoCardSaid : Prop := Claim7.holds Tryd.pinned (.plain (OpenSpec.upto dateTellsSpec)) dateTellsUptoCard

/-- THE SECOND FORM's CARD OF 'glebelaw6.DateBack'. -/
def dateBackUptoCard : Claim7 := { stood := { row := dateBackUptoRow, standIns := [], harness := (true, "d2671a799248f02018a7aac8171a0b14695240502d2fa88df877fd17a04266e5"), looks := false }, kinds := [], alts := [], laidByText := true, laidKinds := [.data, .data, .data], laidTests := true, laidLooks := .later }
def DateBackUptoCardSaid : Prop := Claim7.holds Tryd.pinned (.plain (OpenSpec.upto dateBackSpec)) dateBackUptoCard

/-- THE SECOND FORM's CARD OF 'glebelaw5.MacsForms'. -/
def macsFormsUptoCard : Claim7 := { stood := { row := macsFormsUptoRow, standIns := [], harness := (true, "d2671a799248f02018a7aac8171a0b14695240502d2fa88df877fd17a04266e5"), looks := false }, kinds := [], alts := [], laidByText := true, laidKinds := [.data, .pinned], laidTests := true, laidLooks := .later }
def MacsFormsUptoCardSaid : Prop := Claim7.holds Tryd.pinned (.plain (OpenSpec.upto macsFormsSpec)) macsFormsUptoCard

/-- THE SECOND FORM's CARD OF 'glebelaw5.MacsOne'. -/
def macsOneUptoCard : Claim7 := { stood := { row := macsOneUptoRow, standIns := [], harness := (true, "d2671a799248f02018a7aac8171a0b14695240502d2fa88df877fd17a04266e5"), looks := false }, kinds := [], alts := [], laidByText := true, laidKinds := [.data, .pinned], laidTests := true, laidLooks := .later }
def MacsOneUptoCardSaid : Prop := Claim7.holds Tryd.pinned (.plain (OpenSpec.upto macsOneSpec)) macsOneUptoCard

/-- THE SECOND FORM's CARD OF 'glebelaw5.MacsTells'. -/
def macsTellsUptoCard : Claim7 := { stood := { row := macsTellsUptoRow, standIns := [], harness := (true, "d2671a799248f02018a7aac8171a0b14695240502d2fa88df877fd17a04266e5"), looks := false }, kinds := [], alts := [], laidByText := true, laidKinds := [.data, .pinned], laidTests := true, laidLooks := .later }
def MacsTellsUptoCardSaid : Prop := Claim7.holds Tryd.pinned (.plain (OpenSpec.upto macsTellsSpec)) macsTellsUptoCard

/-- THE SECOND FORM's CARD OF 'glebelaw9.CsvrForms'. -/
def csvrFormsUptoCard : Claim7 := { stood := { row := csvrFormsUptoRow, standIns := [], harness := (true, "d2671a799248f02018a7aac8171a0b14695240502d2fa88df877fd17a04266e5"), looks := false }, kinds := [], alts := [], laidByText := true, laidKinds := [.data, .pinned], laidTests := true, laidLooks := .later }
def CsvrFormsUptoCardSaid : Prop := Claim7.holds Tryd.pinned (.plain (OpenSpec.upto csvrFormsSpec)) csvrFormsUptoCard

/-- THE SECOND FORM's CARD OF 'glebelaw9.CsvrLong'. -/
def csvrLongUptoCard : Claim7 := { stood := { row := csvrLongUptoRow, standIns := [], harness := (true, "d2671a799248f02018a7aac8171a0b14695240502d2fa88df877fd17a04266e5"), looks := false }, kinds := [], alts := [], laidByText := true, laidKinds := [.data, .pinned], laidTests := true, laidLooks := .later }
def CsvrLongUptoCardSaid : Prop := Claim7.holds Tryd.pinned (.plain (OpenSpec.upto csvrLongSpec)) csvrLongUptoCard

/-- THE SECOND FORM's CARD OF 'glebelaw9.CsvrEnds'. -/
def csvrEndsUptoCard : Claim7 := { stood := { row := csvrEndsUptoRow, standIns := [], harness := (true, "d2671a799248f02018a7aac8171a0b14695240502d2fa88df877fd17a04266e5"), looks := false }, kinds := [], alts := [], laidByText := true, laidKinds := [.data, .pinned], laidTests := true, laidLooks := .later }
def CsvrEndsUptoCardSaid : Prop := Claim7.holds Tryd.pinned (.plain (OpenSpec.upto csvrEndsSpec)) csvrEndsUptoCard

/-- THE SECOND FORM's CARD OF 'glebelaw9.CsvrTells'. -/
def csvrTellsUptoCard : Claim7 := { stood := { row := csvrTellsUptoRow, standIns := [], harness := (true, "d2671a799248f02018a7aac8171a0b14695240502d2fa88df877fd17a04266e5"), looks := false }, kinds := [], alts := [], laidByText := true, laidKinds := [.data, .pinned], laidTests := true, laidLooks := .later }
def CsvrTellsUptoCardSaid : Prop := Claim7.holds Tryd.pinned (.plain (OpenSpec.upto csvrTellsSpec)) csvrTellsUptoCard

/-- THE SECOND FORM's CARD OF 'glebelaw9.CsvrBack'. -/
def csvrBackUptoCard : Claim7 := { stood := { row := csvrBackUptoRow, standIns := [], harness := (true, "d2671a799248f02018a7aac8171a0b14695240502d2fa88df877fd17a04266e5"), looks := false }, kinds := [], alts := [], laidByText := true, laidKinds := [.data, .pinned], laidTests := true, laidLooks := .later }
def CsvrBackUptoCardSaid : Prop := Claim7.holds Tryd.pinned (.plain (OpenSpec.upto csvrBackSpec)) csvrBackUptoCard
end Rows
end Go.Proofs.YtcgchblljhbdaaaDoor
