/-
  No cell of these rows narrows 'for every input' (looked for: loops, veiled, ifaces, maps, wideKeys, modest, calm, conditions, laid).
  DERIVED. THE GIVEN ROWS OF THIS SEAT. 11 by the template 'for every input the law returns true; each argument reads behind the call as it read before'; 0 by the template 'total and deterministic' (their statements: YtnkcffmklomfhaaTotals.lean).
  GIVEN WITH THE SEED: the statements are not yours to turn. If you find one false, say at which input.
  Laid BY PROGRAM, IN A SANDBOX (cutbox-rows.mjs): the forced cells as the released guide's own fill.sh prints them over the translation c8d505970cb60af0… (all of the seat's roots in one cut). By AI agents, Wed Nov 11 2026. No macro, syntax, notation, axiom, sorry.
-/
import Derived.Test.YtnkcffmklomfhaaChecked
import GoSem.Claim
import GoSem.ClaimJoined
import GoSem.ClaimMapViews
import Derived.JoinedTies
import Derived.KernelRfl
namespace Go.Proofs.Ytnkcffmklomfhaa
/- THE CELL 'sum', in the pinned program and in every row, IS THE sha256 OF THE DUMP (.gsa) THAT YtnkcffmklomfhaaProg.lean LOADS. Nothing in Lean hashes anything: it is a label: what it is worth is what the hold of that sum in a sandbox is worth. -/
noncomputable def Try.pinned : Pinned := { name := "ytnkcffmklomfhaa", sum := "c8d505970cb60af0154c715b8e43a06fe027bc3676f80c0b5f202fffef40ee6f", checked := Try.checked }
namespace Rows
def none {H : Type} : Left H := { results := [], args := [] }

/-- 'glebelaw8.IsctForms': WHATEVER THE INPUT: true; the input reads as it did. -/
def isctFormsSpec : ChangeSpec := { name := "isctForms", fn := fun _ => fun
  | [d] => { results := [.lit (.bool true)], args := [d] }
  | _ => none }
def isctFormsRow : OpenClaim := { program := "ytnkcffmklomfhaa", sum := "c8d505970cb60af0154c715b8e43a06fe027bc3676f80c0b5f202fffef40ee6f", func := "glebe/glebelaw8.IsctForms", spec := "isctForms", inPlace := ["internal/bytealg.IndexByteString"], apart := false }
def IsctFormsSaid : Prop := isctFormsRow.holds Try.pinned (OpenSpec.ofChange isctFormsSpec)

/-- ITS FALSE NEIGHBOUR: 'it returns false'. Refute it at one input. -/
def isctFormsWrong : ChangeSpec := { name := "isctForms", fn := fun _ => fun
  | [d] => { results := [.lit (.bool false)], args := [d] }
  | _ => none }
def IsctFormsWrongFalsely : Prop := isctFormsRow.holds Try.pinned (OpenSpec.ofChange isctFormsWrong)

/-- 'glebelaw8.IsctLong': WHATEVER THE INPUT: true; the input reads as it did. -/
def isctLongSpec : ChangeSpec := { name := "isctLong", fn := fun _ => fun
  | [d1, d2, d3] => { results := [.lit (.bool true)], args := [d1, d2, d3] }
  | _ => none }
def isctLongRow : OpenClaim := { program := "ytnkcffmklomfhaa", sum := "c8d505970cb60af0154c715b8e43a06fe027bc3676f80c0b5f202fffef40ee6f", func := "glebe/glebelaw8.IsctLong", spec := "isctLong", inPlace := ["internal/bytealg.IndexByteString"], apart := false }
def IsctLongSaid : Prop := isctLongRow.holds Try.pinned (OpenSpec.ofChange isctLongSpec)

/-- ITS FALSE NEIGHBOUR: 'it returns false'. Refute it at one input. -/
def isctLongWrong : ChangeSpec := { name := "isctLong", fn := fun _ => fun
  | [d1, d2, d3] => { results := [.lit (.bool false)], args := [d1, d2, d3] }
  | _ => none }
def IsctLongWrongFalsely : Prop := isctLongRow.holds Try.pinned (OpenSpec.ofChange isctLongWrong)

/-- 'glebelaw8.IsctTells': WHATEVER THE INPUT: true; the input reads as it did. -/
def isctTellsSpec : ChangeSpec := { name := "isctTells", fn := fun _ => fun
  | [d1, d2] => { results := [.lit (.bool true)], args := [d1, d2] }
  | _ => none }
def isctTellsRow : OpenClaim := { program := "ytnkcffmklomfhaa", sum := "c8d505970cb60af0154c715b8e43a06fe027bc3676f80c0b5f202fffef40ee6f", func := "glebe/glebelaw8.IsctTells", spec := "isctTells", inPlace := ["internal/bytealg.IndexByteString"], apart := false }
def IsctTellsSaid : Prop := isctTellsRow.holds Try.pinned (OpenSpec.ofChange isctTellsSpec)

/-- ITS FALSE NEIGHBOUR: 'it returns false'. Refute it at one input. -/
def isctTellsWrong : ChangeSpec := { name := "isctTells", fn := fun _ => fun
  | [d1, d2] => { results := [.lit (.bool false)], args := [d1, d2] }
  | _ => none }
def IsctTellsWrongFalsely : Prop := isctTellsRow.holds Try.pinned (OpenSpec.ofChange isctTellsWrong)

/-- 'glebelaw8.IsctBack': WHATEVER THE INPUT: true; the input reads as it did. -/
def isctBackSpec : ChangeSpec := { name := "isctBack", fn := fun _ => fun
  | [d1, d2] => { results := [.lit (.bool true)], args := [d1, d2] }
  | _ => none }
def isctBackRow : OpenClaim := { program := "ytnkcffmklomfhaa", sum := "c8d505970cb60af0154c715b8e43a06fe027bc3676f80c0b5f202fffef40ee6f", func := "glebe/glebelaw8.IsctBack", spec := "isctBack", inPlace := ["internal/bytealg.IndexByteString"], apart := false }
def IsctBackSaid : Prop := isctBackRow.holds Try.pinned (OpenSpec.ofChange isctBackSpec)

/-- ITS FALSE NEIGHBOUR: 'it returns false'. Refute it at one input. -/
def isctBackWrong : ChangeSpec := { name := "isctBack", fn := fun _ => fun
  | [d1, d2] => { results := [.lit (.bool false)], args := [d1, d2] }
  | _ => none }
def IsctBackWrongFalsely : Prop := isctBackRow.holds Try.pinned (OpenSpec.ofChange isctBackWrong)

/-- 'glebelaw10.DnslForms': WHATEVER THE INPUT: true; the input reads as it did. -/
def dnslFormsSpec : ChangeSpec := { name := "dnslForms", fn := fun _ => fun
  | [d] => { results := [.lit (.bool true)], args := [d] }
  | _ => none }
def dnslFormsRow : OpenClaim := { program := "ytnkcffmklomfhaa", sum := "c8d505970cb60af0154c715b8e43a06fe027bc3676f80c0b5f202fffef40ee6f", func := "glebe/glebelaw10.DnslForms", spec := "dnslForms", inPlace := ["internal/bytealg.IndexByte", "internal/abi.NoEscape", "internal/bytealg.MakeNoZero"], apart := false }
def DnslFormsSaid : Prop := dnslFormsRow.holds Try.pinned (OpenSpec.ofChange dnslFormsSpec)

/-- ITS FALSE NEIGHBOUR: 'it returns false'. Refute it at one input. -/
def dnslFormsWrong : ChangeSpec := { name := "dnslForms", fn := fun _ => fun
  | [d] => { results := [.lit (.bool false)], args := [d] }
  | _ => none }
def DnslFormsWrongFalsely : Prop := dnslFormsRow.holds Try.pinned (OpenSpec.ofChange dnslFormsWrong)

/-- 'glebelaw10.DnslLong': WHATEVER THE INPUT: true; the input reads as it did. -/
def dnslLongSpec : ChangeSpec := { name := "dnslLong", fn := fun _ => fun
  | [d1, d2, d3] => { results := [.lit (.bool true)], args := [d1, d2, d3] }
  | _ => none }
def dnslLongRow : OpenClaim := { program := "ytnkcffmklomfhaa", sum := "c8d505970cb60af0154c715b8e43a06fe027bc3676f80c0b5f202fffef40ee6f", func := "glebe/glebelaw10.DnslLong", spec := "dnslLong", inPlace := ["internal/bytealg.IndexByte", "internal/abi.NoEscape", "internal/bytealg.MakeNoZero"], apart := false }
def DnslLongSaid : Prop := dnslLongRow.holds Try.pinned (OpenSpec.ofChange dnslLongSpec)

/-- ITS FALSE NEIGHBOUR: 'it returns false'. Refute it at one input. -/
def dnslLongWrong : ChangeSpec := { name := "dnslLong", fn := fun _ => fun
  | [d1, d2, d3] => { results := [.lit (.bool false)], args := [d1, d2, d3] }
  | _ => none }
def DnslLongWrongFalsely : Prop := dnslLongRow.holds Try.pinned (OpenSpec.ofChange dnslLongWrong)

/-- 'glebelaw10.DnslBack': WHATEVER THE INPUT: true; the input reads as it did. -/
def dnslBackSpec : ChangeSpec := { name := "dnslBack", fn := fun _ => fun
  | [d1, d2, d3] => { results := [.lit (.bool true)], args := [d1, d2, d3] }
  | _ => none }
def dnslBackRow : OpenClaim := { program := "ytnkcffmklomfhaa", sum := "c8d505970cb60af0154c715b8e43a06fe027bc3676f80c0b5f202fffef40ee6f", func := "glebe/glebelaw10.DnslBack", spec := "dnslBack", inPlace := ["internal/bytealg.IndexByte", "internal/abi.NoEscape", "internal/bytealg.MakeNoZero"], apart := false }
def DnslBackSaid : Prop := dnslBackRow.holds Try.pinned (OpenSpec.ofChange dnslBackSpec)

/-- ITS FALSE NEIGHBOUR: 'it returns false'. Refute it at one input. -/
def dnslBackWrong : ChangeSpec := { name := "dnslBack", fn := fun _ => fun
  | [d1, d2, d3] => { results := [.lit (.bool false)], args := [d1, d2, d3] }
  | _ => none }
def DnslBackWrongFalsely : Prop := dnslBackRow.holds Try.pinned (OpenSpec.ofChange dnslBackWrong)

/-- 'glebelaw7.ScanForms': WHATEVER THE INPUT: true; the input reads as it did. -/
def scanFormsSpec : ChangeSpec := { name := "scanForms", fn := fun _ => fun
  | [d] => { results := [.lit (.bool true)], args := [d] }
  | _ => none }
def scanFormsRow : OpenClaim := { program := "ytnkcffmklomfhaa", sum := "c8d505970cb60af0154c715b8e43a06fe027bc3676f80c0b5f202fffef40ee6f", func := "glebe/glebelaw7.ScanForms", spec := "scanForms", inPlace := ["internal/bytealg.Count", "internal/bytealg.IndexByte", "internal/bytealg.Index"], named := ["internal/bytealg.MaxLen"], apart := false }
def ScanFormsSaid : Prop := scanFormsRow.holds Try.pinned (OpenSpec.ofChange scanFormsSpec)

/-- ITS FALSE NEIGHBOUR: 'it returns false'. Refute it at one input. -/
def scanFormsWrong : ChangeSpec := { name := "scanForms", fn := fun _ => fun
  | [d] => { results := [.lit (.bool false)], args := [d] }
  | _ => none }
def ScanFormsWrongFalsely : Prop := scanFormsRow.holds Try.pinned (OpenSpec.ofChange scanFormsWrong)

/-- 'glebelaw7.ScanMoves': WHATEVER THE INPUT: true; the input reads as it did. -/
def scanMovesSpec : ChangeSpec := { name := "scanMoves", fn := fun _ => fun
  | [d] => { results := [.lit (.bool true)], args := [d] }
  | _ => none }
def scanMovesRow : OpenClaim := { program := "ytnkcffmklomfhaa", sum := "c8d505970cb60af0154c715b8e43a06fe027bc3676f80c0b5f202fffef40ee6f", func := "glebe/glebelaw7.ScanMoves", spec := "scanMoves", inPlace := ["internal/bytealg.Count", "internal/bytealg.IndexByte", "internal/bytealg.Index"], named := ["internal/bytealg.MaxLen"], apart := false }
def ScanMovesSaid : Prop := scanMovesRow.holds Try.pinned (OpenSpec.ofChange scanMovesSpec)

/-- ITS FALSE NEIGHBOUR: 'it returns false'. Refute it at one input. -/
def scanMovesWrong : ChangeSpec := { name := "scanMoves", fn := fun _ => fun
  | [d] => { results := [.lit (.bool false)], args := [d] }
  | _ => none }
def ScanMovesWrongFalsely : Prop := scanMovesRow.holds Try.pinned (OpenSpec.ofChange scanMovesWrong)

/-- 'glebelaw7.ScanTells': WHATEVER THE INPUT: true; the input reads as it did. -/
def scanTellsSpec : ChangeSpec := { name := "scanTells", fn := fun _ => fun
  | [d1, d2] => { results := [.lit (.bool true)], args := [d1, d2] }
  | _ => none }
def scanTellsRow : OpenClaim := { program := "ytnkcffmklomfhaa", sum := "c8d505970cb60af0154c715b8e43a06fe027bc3676f80c0b5f202fffef40ee6f", func := "glebe/glebelaw7.ScanTells", spec := "scanTells", inPlace := ["internal/bytealg.Count", "internal/bytealg.IndexByte", "internal/bytealg.Index"], named := ["internal/bytealg.MaxLen"], apart := false }
def ScanTellsSaid : Prop := scanTellsRow.holds Try.pinned (OpenSpec.ofChange scanTellsSpec)

/-- ITS FALSE NEIGHBOUR: 'it returns false'. Refute it at one input. -/
def scanTellsWrong : ChangeSpec := { name := "scanTells", fn := fun _ => fun
  | [d1, d2] => { results := [.lit (.bool false)], args := [d1, d2] }
  | _ => none }
def ScanTellsWrongFalsely : Prop := scanTellsRow.holds Try.pinned (OpenSpec.ofChange scanTellsWrong)

/-- 'glebelaw7.ScanParts': WHATEVER THE INPUT: true; the input reads as it did. -/
def scanPartsSpec : ChangeSpec := { name := "scanParts", fn := fun _ => fun
  | [d] => { results := [.lit (.bool true)], args := [d] }
  | _ => none }
def scanPartsRow : OpenClaim := { program := "ytnkcffmklomfhaa", sum := "c8d505970cb60af0154c715b8e43a06fe027bc3676f80c0b5f202fffef40ee6f", func := "glebe/glebelaw7.ScanParts", spec := "scanParts", inPlace := ["internal/bytealg.Count", "internal/bytealg.IndexByte", "internal/bytealg.Index"], named := ["internal/bytealg.MaxLen"], apart := false }
def ScanPartsSaid : Prop := scanPartsRow.holds Try.pinned (OpenSpec.ofChange scanPartsSpec)

/-- ITS FALSE NEIGHBOUR: 'it returns false'. Refute it at one input. -/
def scanPartsWrong : ChangeSpec := { name := "scanParts", fn := fun _ => fun
  | [d] => { results := [.lit (.bool false)], args := [d] }
  | _ => none }
def ScanPartsWrongFalsely : Prop := scanPartsRow.holds Try.pinned (OpenSpec.ofChange scanPartsWrong)

/- THE SECOND FORM. 'bulk': how many values and letters a reading holds, each counted each time it is reached (what is shared counts as often as it is met; a slice's spare places count too). A statement '..UptoSaid' is the law's where the arguments, and the package variables that the reading takes, are together of bulk at most 1048576: NARROWER than '..Said'. Prove '..Said' where nothing that the law and all that it calls make is longer than what came in: it says more and counts as full. Else prove '..UptoSaid'. A law counts once. -/
mutual
def uptoBulk {H : Type} : DataW H → Nat
  | .lit (.string bytes) => bytes.length + 1
  | .lit _ => 1
  | .nil => 1
  | .ptr d => uptoBulk d + 1
  | .slice elems spare => uptoBulkAll elems + uptoBulkAll spare + 1
  | .agg parts => uptoBulkAll parts + 1
  | .iface _ d => uptoBulk d + 1
  | .map entries => uptoBulkEntries entries + 1
  | .held _ => 1
def uptoBulkAll {H : Type} : List (DataW H) → Nat
  | [] => 0
  | d :: r => uptoBulk d + uptoBulkAll r
def uptoBulkEntries {H : Type} : List (Lit × DataW H) → Nat
  | [] => 0
  | x :: r => uptoBulkEntry x + uptoBulkEntries r
def uptoBulkEntry {H : Type} : Lit × DataW H → Nat
  | (.string bytes, d) => bytes.length + uptoBulk d + 1
  | (_, d) => uptoBulk d + 1
 end
def uptoSmall : (H : Type) → List (DataW H) → Bool := fun _ ds => decide (uptoBulkAll ds ≤ 1048576)
def OpenSpec.upto (s : _root_.Go.ChangeSpec) : _root_.Go.OpenSpec := { _root_.Go.OpenSpec.ofChange s with cond := some uptoSmall }

/-- 'glebelaw8.IsctForms', WHERE WHAT IT READS IS OF BULK AT MOST 1048576: true; the input reads as it did. -/
def isctFormsUptoRow : OpenClaim := { program := "ytnkcffmklomfhaa", sum := "c8d505970cb60af0154c715b8e43a06fe027bc3676f80c0b5f202fffef40ee6f", func := "glebe/glebelaw8.IsctForms", spec := "isctForms", inPlace := ["internal/bytealg.IndexByteString"], apart := false, narrowed := true }
def IsctFormsUptoSaid : Prop := isctFormsUptoRow.holds Try.pinned (OpenSpec.upto isctFormsSpec)

/-- 'glebelaw8.IsctLong', WHERE WHAT IT READS IS OF BULK AT MOST 1048576: true; the input reads as it did. -/
def isctLongUptoRow : OpenClaim := { program := "ytnkcffmklomfhaa", sum := "c8d505970cb60af0154c715b8e43a06fe027bc3676f80c0b5f202fffef40ee6f", func := "glebe/glebelaw8.IsctLong", spec := "isctLong", inPlace := ["internal/bytealg.IndexByteString"], apart := false, narrowed := true }
def IsctLongUptoSaid : Prop := isctLongUptoRow.holds Try.pinned (OpenSpec.upto isctLongSpec)

/-- 'glebelaw8.IsctTells', WHERE WHAT IT READS IS OF BULK AT MOST 1048576: true; the input reads as it did. -/
def isctTellsUptoRow : OpenClaim := { program := "ytnkcffmklomfhaa", sum := "c8d505970cb60af0154c715b8e43a06fe027bc3676f80c0b5f202fffef40ee6f", func := "glebe/glebelaw8.IsctTells", spec := "isctTells", inPlace := ["internal/bytealg.IndexByteString"], apart := false, narrowed := true }
def IsctTellsUptoSaid : Prop := isctTellsUptoRow.holds Try.pinned (OpenSpec.upto isctTellsSpec)

/-- 'glebelaw8.IsctBack', WHERE WHAT IT READS IS OF BULK AT MOST 1048576: true; the input reads as it did. -/
def isctBackUptoRow : OpenClaim := { program := "ytnkcffmklomfhaa", sum := "c8d505970cb60af0154c715b8e43a06fe027bc3676f80c0b5f202fffef40ee6f", func := "glebe/glebelaw8.IsctBack", spec := "isctBack", inPlace := ["internal/bytealg.IndexByteString"], apart := false, narrowed := true }
def IsctBackUptoSaid : Prop := isctBackUptoRow.holds Try.pinned (OpenSpec.upto isctBackSpec)

/-- 'glebelaw10.DnslForms', WHERE WHAT IT READS IS OF BULK AT MOST 1048576: true; the input reads as it did. -/
def dnslFormsUptoRow : OpenClaim := { program := "ytnkcffmklomfhaa", sum := "c8d505970cb60af0154c715b8e43a06fe027bc3676f80c0b5f202fffef40ee6f", func := "glebe/glebelaw10.DnslForms", spec := "dnslForms", inPlace := ["internal/bytealg.IndexByte", "internal/abi.NoEscape", "internal/bytealg.MakeNoZero"], apart := false, narrowed := true }
def DnslFormsUptoSaid : Prop := dnslFormsUptoRow.holds Try.pinned (OpenSpec.upto dnslFormsSpec)

/-- 'glebelaw10.DnslLong', WHERE WHAT IT READS IS OF BULK AT MOST 1048576: true; the input reads as it did. -/
def dnslLongUptoRow : OpenClaim := { program := "ytnkcffmklomfhaa", sum := "c8d505970cb60af0154c715b8e43a06fe027bc3676f80c0b5f202fffef40ee6f", func := "glebe/glebelaw10.DnslLong", spec := "dnslLong", inPlace := ["internal/bytealg.IndexByte", "internal/abi.NoEscape", "internal/bytealg.MakeNoZero"], apart := false, narrowed := true }
def DnslLongUptoSaid : Prop := dnslLongUptoRow.holds Try.pinned (OpenSpec.upto dnslLongSpec)

/-- 'glebelaw10.DnslBack', WHERE WHAT IT READS IS OF BULK AT MOST 1048576: true; the input reads as it did. -/
def dnslBackUptoRow : OpenClaim := { program := "ytnkcffmklomfhaa", sum := "c8d505970cb60af0154c715b8e43a06fe027bc3676f80c0b5f202fffef40ee6f", func := "glebe/glebelaw10.DnslBack", spec := "dnslBack", inPlace := ["internal/bytealg.IndexByte", "internal/abi.NoEscape", "internal/bytealg.MakeNoZero"], apart := false, narrowed := true }
def DnslBackUptoSaid : Prop := dnslBackUptoRow.holds Try.pinned (OpenSpec.upto dnslBackSpec)

/-- 'glebelaw7.ScanForms', WHERE WHAT IT READS IS OF BULK AT MOST 1048576: true; the input reads as it did. -/
def scanFormsUptoRow : OpenClaim := { program := "ytnkcffmklomfhaa", sum := "c8d505970cb60af0154c715b8e43a06fe027bc3676f80c0b5f202fffef40ee6f", func := "glebe/glebelaw7.ScanForms", spec := "scanForms", inPlace := ["internal/bytealg.Count", "internal/bytealg.IndexByte", "internal/bytealg.Index"], named := ["internal/bytealg.MaxLen"], apart := false, narrowed := true }
def ScanFormsUptoSaid : Prop := scanFormsUptoRow.holds Try.pinned (OpenSpec.upto scanFormsSpec)

/-- 'glebelaw7.ScanMoves', WHERE WHAT IT READS IS OF BULK AT MOST 1048576: true; the input reads as it did. -/
def scanMovesUptoRow : OpenClaim := { program := "ytnkcffmklomfhaa", sum := "c8d505970cb60af0154c715b8e43a06fe027bc3676f80c0b5f202fffef40ee6f", func := "glebe/glebelaw7.ScanMoves", spec := "scanMoves", inPlace := ["internal/bytealg.Count", "internal/bytealg.IndexByte", "internal/bytealg.Index"], named := ["internal/bytealg.MaxLen"], apart := false, narrowed := true }
def ScanMovesUptoSaid : Prop := scanMovesUptoRow.holds Try.pinned (OpenSpec.upto scanMovesSpec)

/-- 'glebelaw7.ScanTells', WHERE WHAT IT READS IS OF BULK AT MOST 1048576: true; the input reads as it did. -/
def scanTellsUptoRow : OpenClaim := { program := "ytnkcffmklomfhaa", sum := "c8d505970cb60af0154c715b8e43a06fe027bc3676f80c0b5f202fffef40ee6f", func := "glebe/glebelaw7.ScanTells", spec := "scanTells", inPlace := ["internal/bytealg.Count", "internal/bytealg.IndexByte", "internal/bytealg.Index"], named := ["internal/bytealg.MaxLen"], apart := false, narrowed := true }
def ScanTellsUptoSaid : Prop := scanTellsUptoRow.holds Try.pinned (OpenSpec.upto scanTellsSpec)

/-- 'glebelaw7.ScanParts', WHERE WHAT IT READS IS OF BULK AT MOST 1048576: true; the input reads as it did. -/
def scanPartsUptoRow : OpenClaim := { program := "ytnkcffmklomfhaa", sum := "c8d505970cb60af0154c715b8e43a06fe027bc3676f80c0b5f202fffef40ee6f", func := "glebe/glebelaw7.ScanParts", spec := "scanParts", inPlace := ["internal/bytealg.Count", "internal/bytealg.IndexByte", "internal/bytealg.Index"], named := ["internal/bytealg.MaxLen"], apart := false, narrowed := true }
def ScanPartsUptoSaid : Prop := scanPartsUptoRow.holds Try.pinned (OpenSpec.upto scanPartsSpec)

end Rows
end Go.Proofs.Ytnkcffmklomfhaa
