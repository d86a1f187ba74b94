/-
  NARROWER THAN 'FOR EVERY INPUT', by the rows' own cells (each row's printed sentence says how): DateForms: laid · DateNums: laid · DateTells: laid · DateBack: laid · MacsForms: laid · MacsOne: laid · MacsTells: laid · CsvrForms: laid · CsvrLong: laid · CsvrEnds: laid · CsvrTells: laid · CsvrBack: laid.
  DERIVED. THE GIVEN ROWS OF THIS SEAT. 12 by the template 'for every input the law returns true; each argument reads behind the call as it read before'; 0 by the template 'total and deterministic' (their statements: YtcgchblljhbdaaaDoorTotals.lean).
  GIVEN WITH THE SEED: the statements are not yours to turn. If you find one false, say at which input.
  Laid BY PROGRAM, IN A SANDBOX (cutbox-rows.mjs): the forced cells as the released guide's own fill.sh prints them over the translation ee28f310051c861e… (all of the seat's roots in one cut). By AI agents, Wed Nov 11 2026. No macro, syntax, notation, axiom, sorry.
-/
import Derived.Test.YtcgchblljhbdaaaDoorChecked
import GoSem.PinnedTables
import GoSem.Claim
import GoSem.ClaimJoined
import GoSem.ClaimMapViews
import Derived.JoinedTies
import Derived.KernelRfl
namespace Go.Proofs.YtcgchblljhbdaaaDoor
/- THE CELL 'sum', in the pinned program and in every row, IS THE sha256 OF THE DUMP (.gsa) THAT YtcgchblljhbdaaaDoorProg.lean LOADS. Nothing in Lean hashes anything: it is a label: what it is worth is what the hold of that sum in a sandbox is worth. -/
noncomputable def Tryd.pinned : Pinned := { name := "ytcgchblljhbdaaadoor", sum := "ee28f310051c861eb82ab7a81403c3c6efa4e6ae86652c4cdf3679eaf09fcf33", checked := Tryd.checked }
namespace Rows
def none {H : Type} : Left H := { results := [], args := [] }

/- WHAT THE LISTED PACKAGE-LEVEL VARIABLES READ AS WHEN THE CALL BEGINS. Each datum BY PROGRAM (the guide's laid-datum.mjs) off the statement by which the dump's own 'gosem.cut.vars' lays the variable. In a bare row this is a premise. The card (YtcgchblljhbdaaaDoorCards.lean) ties it to the program's text. -/
def laid_math_bits_deBruijn32tab {H : Type} : DataW H := .agg [.lit (.int .u8 0), .lit (.int .u8 1), .lit (.int .u8 28), .lit (.int .u8 2), .lit (.int .u8 29), .lit (.int .u8 14), .lit (.int .u8 24), .lit (.int .u8 3), .lit (.int .u8 30), .lit (.int .u8 22), .lit (.int .u8 20), .lit (.int .u8 15), .lit (.int .u8 25), .lit (.int .u8 17), .lit (.int .u8 4), .lit (.int .u8 8), .lit (.int .u8 31), .lit (.int .u8 27), .lit (.int .u8 13), .lit (.int .u8 23), .lit (.int .u8 21), .lit (.int .u8 19), .lit (.int .u8 16), .lit (.int .u8 7), .lit (.int .u8 26), .lit (.int .u8 12), .lit (.int .u8 18), .lit (.int .u8 6), .lit (.int .u8 11), .lit (.int .u8 5), .lit (.int .u8 10), .lit (.int .u8 9)]
def laid_math_bits_deBruijn64tab {H : Type} : DataW H := .agg [.lit (.int .u8 0), .lit (.int .u8 1), .lit (.int .u8 56), .lit (.int .u8 2), .lit (.int .u8 57), .lit (.int .u8 49), .lit (.int .u8 28), .lit (.int .u8 3), .lit (.int .u8 61), .lit (.int .u8 58), .lit (.int .u8 42), .lit (.int .u8 50), .lit (.int .u8 38), .lit (.int .u8 29), .lit (.int .u8 17), .lit (.int .u8 4), .lit (.int .u8 62), .lit (.int .u8 47), .lit (.int .u8 59), .lit (.int .u8 36), .lit (.int .u8 45), .lit (.int .u8 43), .lit (.int .u8 51), .lit (.int .u8 22), .lit (.int .u8 53), .lit (.int .u8 39), .lit (.int .u8 33), .lit (.int .u8 30), .lit (.int .u8 24), .lit (.int .u8 18), .lit (.int .u8 12), .lit (.int .u8 5), .lit (.int .u8 63), .lit (.int .u8 55), .lit (.int .u8 48), .lit (.int .u8 27), .lit (.int .u8 60), .lit (.int .u8 41), .lit (.int .u8 37), .lit (.int .u8 16), .lit (.int .u8 46), .lit (.int .u8 35), .lit (.int .u8 44), .lit (.int .u8 21), .lit (.int .u8 52), .lit (.int .u8 32), .lit (.int .u8 23), .lit (.int .u8 11), .lit (.int .u8 54), .lit (.int .u8 26), .lit (.int .u8 40), .lit (.int .u8 15), .lit (.int .u8 34), .lit (.int .u8 20), .lit (.int .u8 31), .lit (.int .u8 10), .lit (.int .u8 25), .lit (.int .u8 14), .lit (.int .u8 19), .lit (.int .u8 9), .lit (.int .u8 13), .lit (.int .u8 8), .lit (.int .u8 7), .lit (.int .u8 6)]
def laid_internal_strconv_uint64pow10 {H : Type} : DataW H := .agg [.lit (.int .u64 1), .lit (.int .u64 10), .lit (.int .u64 100), .lit (.int .u64 1000), .lit (.int .u64 10000), .lit (.int .u64 100000), .lit (.int .u64 1000000), .lit (.int .u64 10000000), .lit (.int .u64 100000000), .lit (.int .u64 1000000000), .lit (.int .u64 10000000000), .lit (.int .u64 100000000000), .lit (.int .u64 1000000000000), .lit (.int .u64 10000000000000), .lit (.int .u64 100000000000000), .lit (.int .u64 1000000000000000), .lit (.int .u64 10000000000000000), .lit (.int .u64 100000000000000000), .lit (.int .u64 1000000000000000000), .lit (.int .u64 10000000000000000000)]
def laid_unicode_utf8_acceptRanges {H : Type} : DataW H := .agg [.agg [.lit (.int .u8 128), .lit (.int .u8 191)], .agg [.lit (.int .u8 160), .lit (.int .u8 191)], .agg [.lit (.int .u8 128), .lit (.int .u8 159)], .agg [.lit (.int .u8 144), .lit (.int .u8 191)], .agg [.lit (.int .u8 128), .lit (.int .u8 143)], .agg [.lit (.int .u8 0), .lit (.int .u8 0)], .agg [.lit (.int .u8 0), .lit (.int .u8 0)], .agg [.lit (.int .u8 0), .lit (.int .u8 0)], .agg [.lit (.int .u8 0), .lit (.int .u8 0)], .agg [.lit (.int .u8 0), .lit (.int .u8 0)], .agg [.lit (.int .u8 0), .lit (.int .u8 0)], .agg [.lit (.int .u8 0), .lit (.int .u8 0)], .agg [.lit (.int .u8 0), .lit (.int .u8 0)], .agg [.lit (.int .u8 0), .lit (.int .u8 0)], .agg [.lit (.int .u8 0), .lit (.int .u8 0)], .agg [.lit (.int .u8 0), .lit (.int .u8 0)]]
/-- One of Go's own tables, pinned by name: the form's constant. -/
def laid_unicode_utf8_first : DataW Unit := Go.Pinned.utf8First

/-- 'glebelaw6.DateForms': WHATEVER THE INPUT: true; the input reads as it did. -/
def dateFormsSpec : ChangeSpec := { name := "dateForms", fn := fun _ => fun
  | [d] => { results := [.lit (.bool true)], args := [d] }
  | _ => none }
def dateFormsRow : OpenClaim := { program := "ytcgchblljhbdaaadoor", sum := "ee28f310051c861eb82ab7a81403c3c6efa4e6ae86652c4cdf3679eaf09fcf33", func := "glebe/glebelaw6.DateForms", spec := "dateForms", named := ["internal/strconv.uint64pow10", "math/bits.deBruijn32tab", "math/bits.deBruijn64tab"], apart := false, laid := [("math/bits.deBruijn32tab", laid_math_bits_deBruijn32tab), ("math/bits.deBruijn64tab", laid_math_bits_deBruijn64tab), ("internal/strconv.uint64pow10", laid_internal_strconv_uint64pow10)] }
def DateFormsSaid : Prop := dateFormsRow.holds Tryd.pinned (OpenSpec.ofChange dateFormsSpec)

/-- ITS FALSE NEIGHBOUR: 'it returns false'. Refute it at one input. -/
def dateFormsWrong : ChangeSpec := { name := "dateForms", fn := fun _ => fun
  | [d] => { results := [.lit (.bool false)], args := [d] }
  | _ => none }
def DateFormsWrongFalsely : Prop := dateFormsRow.holds Tryd.pinned (OpenSpec.ofChange dateFormsWrong)

/-- 'glebelaw6.DateNums': WHATEVER THE INPUT: true; the input reads as it did. -/
def dateNumsSpec : ChangeSpec := { name := "dateNums", fn := fun _ => fun
  | [d1, d2, d3] => { results := [.lit (.bool true)], args := [d1, d2, d3] }
  | _ => none }
def dateNumsRow : OpenClaim := { program := "ytcgchblljhbdaaadoor", sum := "ee28f310051c861eb82ab7a81403c3c6efa4e6ae86652c4cdf3679eaf09fcf33", func := "glebe/glebelaw6.DateNums", spec := "dateNums", named := ["internal/strconv.uint64pow10", "math/bits.deBruijn32tab", "math/bits.deBruijn64tab"], apart := false, laid := [("math/bits.deBruijn32tab", laid_math_bits_deBruijn32tab), ("math/bits.deBruijn64tab", laid_math_bits_deBruijn64tab), ("internal/strconv.uint64pow10", laid_internal_strconv_uint64pow10)] }
def DateNumsSaid : Prop := dateNumsRow.holds Tryd.pinned (OpenSpec.ofChange dateNumsSpec)

/-- ITS FALSE NEIGHBOUR: 'it returns false'. Refute it at one input. -/
def dateNumsWrong : ChangeSpec := { name := "dateNums", fn := fun _ => fun
  | [d1, d2, d3] => { results := [.lit (.bool false)], args := [d1, d2, d3] }
  | _ => none }
def DateNumsWrongFalsely : Prop := dateNumsRow.holds Tryd.pinned (OpenSpec.ofChange dateNumsWrong)

/-- 'glebelaw6.DateTells': WHATEVER THE INPUT: true; the input reads as it did. -/
def dateTellsSpec : ChangeSpec := { name := "dateTells", fn := fun _ => fun
  | [d1, d2, d3, d4, d5, d6] => { results := [.lit (.bool true)], args := [d1, d2, d3, d4, d5, d6] }
  | _ => none }
def dateTellsRow : OpenClaim := { program := "ytcgchblljhbdaaadoor", sum := "ee28f310051c861eb82ab7a81403c3c6efa4e6ae86652c4cdf3679eaf09fcf33", func := "glebe/glebelaw6.DateTells", spec := "dateTells", named := ["internal/strconv.uint64pow10", "math/bits.deBruijn32tab", "math/bits.deBruijn64tab"], apart := false, laid := [("math/bits.deBruijn32tab", laid_math_bits_deBruijn32tab), ("math/bits.deBruijn64tab", laid_math_bits_deBruijn64tab), ("internal/strconv.uint64pow10", laid_internal_strconv_uint64pow10)] }
def DateTellsSaid : Prop := dateTellsRow.holds Tryd.pinned (OpenSpec.ofChange dateTellsSpec)

/-- ITS FALSE NEIGHBOUR: 'it returns false'. Refute it at one input. -/
def dateTellsWrong : ChangeSpec := { name := "dateTells", fn := fun _ => fun
  | [d1, d2, d3, d4, d5, d6] => { results := [.lit (.bool false)], args := [d1, d2, d3, d4, d5, d6] }
  | _ => none }
def DateTellsWrongFalsely : Prop := dateTellsRow.holds Tryd.pinned (OpenSpec.ofChange dateTellsWrong)

/-- 'glebelaw6.DateBack': WHATEVER THE INPUT: true; the input reads as it did. -/
def dateBackSpec : ChangeSpec := { name := "dateBack", fn := fun _ => fun
  | [d] => { results := [.lit (.bool true)], args := [d] }
  | _ => none }
def dateBackRow : OpenClaim := { program := "ytcgchblljhbdaaadoor", sum := "ee28f310051c861eb82ab7a81403c3c6efa4e6ae86652c4cdf3679eaf09fcf33", func := "glebe/glebelaw6.DateBack", spec := "dateBack", named := ["internal/strconv.uint64pow10", "math/bits.deBruijn32tab", "math/bits.deBruijn64tab"], apart := false, laid := [("math/bits.deBruijn32tab", laid_math_bits_deBruijn32tab), ("math/bits.deBruijn64tab", laid_math_bits_deBruijn64tab), ("internal/strconv.uint64pow10", laid_internal_strconv_uint64pow10)] }
def DateBackSaid : Prop := dateBackRow.holds Tryd.pinned (OpenSpec.ofChange dateBackSpec)

/-- ITS FALSE NEIGHBOUR: 'it returns false'. Refute it at one input. -/
def dateBackWrong : ChangeSpec := { name := "dateBack", fn := fun _ => fun
  | [d] => { results := [.lit (.bool false)], args := [d] }
  | _ => none }
def DateBackWrongFalsely : Prop := dateBackRow.holds Tryd.pinned (OpenSpec.ofChange dateBackWrong)

/-- 'glebelaw5.MacsForms': WHATEVER THE INPUT: true; the input reads as it did. -/
def macsFormsSpec : ChangeSpec := { name := "macsForms", fn := fun _ => fun
  | [d] => { results := [.lit (.bool true)], args := [d] }
  | _ => none }
def macsFormsRow : OpenClaim := { program := "ytcgchblljhbdaaadoor", sum := "ee28f310051c861eb82ab7a81403c3c6efa4e6ae86652c4cdf3679eaf09fcf33", func := "glebe/glebelaw5.MacsForms", spec := "macsForms", inPlace := ["internal/bytealg.CountString", "internal/bytealg.IndexByteString", "internal/bytealg.IndexString", "internal/abi.NoEscape", "internal/bytealg.MakeNoZero"], named := ["unicode/utf8.first", "unicode/utf8.acceptRanges", "internal/bytealg.MaxLen"], apart := false, laid := [("unicode/utf8.acceptRanges", laid_unicode_utf8_acceptRanges), ("unicode/utf8.first", laid_unicode_utf8_first)] }
def MacsFormsSaid : Prop := macsFormsRow.holds Tryd.pinned (OpenSpec.ofChange macsFormsSpec)

/-- ITS FALSE NEIGHBOUR: 'it returns false'. Refute it at one input. -/
def macsFormsWrong : ChangeSpec := { name := "macsForms", fn := fun _ => fun
  | [d] => { results := [.lit (.bool false)], args := [d] }
  | _ => none }
def MacsFormsWrongFalsely : Prop := macsFormsRow.holds Tryd.pinned (OpenSpec.ofChange macsFormsWrong)

/-- 'glebelaw5.MacsOne': WHATEVER THE INPUT: true; the input reads as it did. -/
def macsOneSpec : ChangeSpec := { name := "macsOne", fn := fun _ => fun
  | [d1, d2] => { results := [.lit (.bool true)], args := [d1, d2] }
  | _ => none }
def macsOneRow : OpenClaim := { program := "ytcgchblljhbdaaadoor", sum := "ee28f310051c861eb82ab7a81403c3c6efa4e6ae86652c4cdf3679eaf09fcf33", func := "glebe/glebelaw5.MacsOne", spec := "macsOne", inPlace := ["internal/abi.NoEscape", "internal/bytealg.MakeNoZero", "internal/bytealg.CountString", "internal/bytealg.IndexByteString", "internal/bytealg.IndexString"], named := ["unicode/utf8.first", "unicode/utf8.acceptRanges", "internal/bytealg.MaxLen"], apart := false, laid := [("unicode/utf8.acceptRanges", laid_unicode_utf8_acceptRanges), ("unicode/utf8.first", laid_unicode_utf8_first)] }
def MacsOneSaid : Prop := macsOneRow.holds Tryd.pinned (OpenSpec.ofChange macsOneSpec)

/-- ITS FALSE NEIGHBOUR: 'it returns false'. Refute it at one input. -/
def macsOneWrong : ChangeSpec := { name := "macsOne", fn := fun _ => fun
  | [d1, d2] => { results := [.lit (.bool false)], args := [d1, d2] }
  | _ => none }
def MacsOneWrongFalsely : Prop := macsOneRow.holds Tryd.pinned (OpenSpec.ofChange macsOneWrong)

/-- 'glebelaw5.MacsTells': WHATEVER THE INPUT: true; the input reads as it did. -/
def macsTellsSpec : ChangeSpec := { name := "macsTells", fn := fun _ => fun
  | [d1, d2, d3, d4] => { results := [.lit (.bool true)], args := [d1, d2, d3, d4] }
  | _ => none }
def macsTellsRow : OpenClaim := { program := "ytcgchblljhbdaaadoor", sum := "ee28f310051c861eb82ab7a81403c3c6efa4e6ae86652c4cdf3679eaf09fcf33", func := "glebe/glebelaw5.MacsTells", spec := "macsTells", inPlace := ["internal/bytealg.CountString", "internal/bytealg.IndexByteString", "internal/bytealg.IndexString", "internal/abi.NoEscape", "internal/bytealg.MakeNoZero"], named := ["unicode/utf8.first", "unicode/utf8.acceptRanges", "internal/bytealg.MaxLen"], apart := false, laid := [("unicode/utf8.acceptRanges", laid_unicode_utf8_acceptRanges), ("unicode/utf8.first", laid_unicode_utf8_first)] }
def MacsTellsSaid : Prop := macsTellsRow.holds Tryd.pinned (OpenSpec.ofChange macsTellsSpec)

/-- ITS FALSE NEIGHBOUR: 'it returns false'. Refute it at one input. -/
def macsTellsWrong : ChangeSpec := { name := "macsTells", fn := fun _ => fun
  | [d1, d2, d3, d4] => { results := [.lit (.bool false)], args := [d1, d2, d3, d4] }
  | _ => none }
def MacsTellsWrongFalsely : Prop := macsTellsRow.holds Tryd.pinned (OpenSpec.ofChange macsTellsWrong)

/-- 'glebelaw9.CsvrForms': WHATEVER THE INPUT: true; the input reads as it did. -/
def csvrFormsSpec : ChangeSpec := { name := "csvrForms", fn := fun _ => fun
  | [d] => { results := [.lit (.bool true)], args := [d] }
  | _ => none }
def csvrFormsRow : OpenClaim := { program := "ytcgchblljhbdaaadoor", sum := "ee28f310051c861eb82ab7a81403c3c6efa4e6ae86652c4cdf3679eaf09fcf33", func := "glebe/glebelaw9.CsvrForms", spec := "csvrForms", inPlace := ["internal/abi.NoEscape", "internal/bytealg.IndexByteString", "internal/bytealg.CountString", "internal/bytealg.IndexString", "internal/bytealg.MakeNoZero"], unfollowed := true, recurses := true, named := ["internal/bytealg.MaxLen", "unicode/utf8.first", "unicode/utf8.acceptRanges"], apart := false, laid := [("unicode/utf8.acceptRanges", laid_unicode_utf8_acceptRanges), ("unicode/utf8.first", laid_unicode_utf8_first)] }
def CsvrFormsSaid : Prop := csvrFormsRow.holds Tryd.pinned (OpenSpec.ofChange csvrFormsSpec)

/-- ITS FALSE NEIGHBOUR: 'it returns false'. Refute it at one input. -/
def csvrFormsWrong : ChangeSpec := { name := "csvrForms", fn := fun _ => fun
  | [d] => { results := [.lit (.bool false)], args := [d] }
  | _ => none }
def CsvrFormsWrongFalsely : Prop := csvrFormsRow.holds Tryd.pinned (OpenSpec.ofChange csvrFormsWrong)

/-- 'glebelaw9.CsvrLong': WHATEVER THE INPUT: true; the input reads as it did. -/
def csvrLongSpec : ChangeSpec := { name := "csvrLong", fn := fun _ => fun
  | [d1, d2] => { results := [.lit (.bool true)], args := [d1, d2] }
  | _ => none }
def csvrLongRow : OpenClaim := { program := "ytcgchblljhbdaaadoor", sum := "ee28f310051c861eb82ab7a81403c3c6efa4e6ae86652c4cdf3679eaf09fcf33", func := "glebe/glebelaw9.CsvrLong", spec := "csvrLong", inPlace := ["internal/abi.NoEscape", "internal/bytealg.IndexByteString", "internal/bytealg.CountString", "internal/bytealg.IndexString", "internal/bytealg.MakeNoZero"], unfollowed := true, recurses := true, named := ["internal/bytealg.MaxLen", "unicode/utf8.first", "unicode/utf8.acceptRanges"], apart := false, laid := [("unicode/utf8.acceptRanges", laid_unicode_utf8_acceptRanges), ("unicode/utf8.first", laid_unicode_utf8_first)] }
def CsvrLongSaid : Prop := csvrLongRow.holds Tryd.pinned (OpenSpec.ofChange csvrLongSpec)

/-- ITS FALSE NEIGHBOUR: 'it returns false'. Refute it at one input. -/
def csvrLongWrong : ChangeSpec := { name := "csvrLong", fn := fun _ => fun
  | [d1, d2] => { results := [.lit (.bool false)], args := [d1, d2] }
  | _ => none }
def CsvrLongWrongFalsely : Prop := csvrLongRow.holds Tryd.pinned (OpenSpec.ofChange csvrLongWrong)

/-- 'glebelaw9.CsvrEnds': WHATEVER THE INPUT: true; the input reads as it did. -/
def csvrEndsSpec : ChangeSpec := { name := "csvrEnds", fn := fun _ => fun
  | [d1, d2, d3] => { results := [.lit (.bool true)], args := [d1, d2, d3] }
  | _ => none }
def csvrEndsRow : OpenClaim := { program := "ytcgchblljhbdaaadoor", sum := "ee28f310051c861eb82ab7a81403c3c6efa4e6ae86652c4cdf3679eaf09fcf33", func := "glebe/glebelaw9.CsvrEnds", spec := "csvrEnds", inPlace := ["internal/abi.NoEscape", "internal/bytealg.IndexByteString", "internal/bytealg.CountString", "internal/bytealg.IndexString", "internal/bytealg.MakeNoZero"], unfollowed := true, recurses := true, named := ["internal/bytealg.MaxLen", "unicode/utf8.first", "unicode/utf8.acceptRanges"], apart := false, laid := [("unicode/utf8.acceptRanges", laid_unicode_utf8_acceptRanges), ("unicode/utf8.first", laid_unicode_utf8_first)] }
def CsvrEndsSaid : Prop := csvrEndsRow.holds Tryd.pinned (OpenSpec.ofChange csvrEndsSpec)

/-- ITS FALSE NEIGHBOUR: 'it returns false'. Refute it at one input. -/
def csvrEndsWrong : ChangeSpec := { name := "csvrEnds", fn := fun _ => fun
  | [d1, d2, d3] => { results := [.lit (.bool false)], args := [d1, d2, d3] }
  | _ => none }
def CsvrEndsWrongFalsely : Prop := csvrEndsRow.holds Tryd.pinned (OpenSpec.ofChange csvrEndsWrong)

/-- 'glebelaw9.CsvrTells': WHATEVER THE INPUT: true; the input reads as it did. -/
def csvrTellsSpec : ChangeSpec := { name := "csvrTells", fn := fun _ => fun
  | [d1, d2, d3, d4] => { results := [.lit (.bool true)], args := [d1, d2, d3, d4] }
  | _ => none }
def csvrTellsRow : OpenClaim := { program := "ytcgchblljhbdaaadoor", sum := "ee28f310051c861eb82ab7a81403c3c6efa4e6ae86652c4cdf3679eaf09fcf33", func := "glebe/glebelaw9.CsvrTells", spec := "csvrTells", inPlace := ["internal/abi.NoEscape", "internal/bytealg.IndexByteString", "internal/bytealg.CountString", "internal/bytealg.IndexString", "internal/bytealg.MakeNoZero"], unfollowed := true, recurses := true, named := ["internal/bytealg.MaxLen", "unicode/utf8.first", "unicode/utf8.acceptRanges"], apart := false, laid := [("unicode/utf8.acceptRanges", laid_unicode_utf8_acceptRanges), ("unicode/utf8.first", laid_unicode_utf8_first)] }
def CsvrTellsSaid : Prop := csvrTellsRow.holds Tryd.pinned (OpenSpec.ofChange csvrTellsSpec)

/-- ITS FALSE NEIGHBOUR: 'it returns false'. Refute it at one input. -/
def csvrTellsWrong : ChangeSpec := { name := "csvrTells", fn := fun _ => fun
  | [d1, d2, d3, d4] => { results := [.lit (.bool false)], args := [d1, d2, d3, d4] }
  | _ => none }
def CsvrTellsWrongFalsely : Prop := csvrTellsRow.holds Tryd.pinned (OpenSpec.ofChange csvrTellsWrong)

/-- 'glebelaw9.CsvrBack': WHATEVER THE INPUT: true; the input reads as it did. -/
def csvrBackSpec : ChangeSpec := { name := "csvrBack", fn := fun _ => fun
  | [d1, d2] => { results := [.lit (.bool true)], args := [d1, d2] }
  | _ => none }
def csvrBackRow : OpenClaim := { program := "ytcgchblljhbdaaadoor", sum := "ee28f310051c861eb82ab7a81403c3c6efa4e6ae86652c4cdf3679eaf09fcf33", func := "glebe/glebelaw9.CsvrBack", spec := "csvrBack", inPlace := ["internal/abi.NoEscape", "internal/bytealg.IndexByteString", "internal/bytealg.CountString", "internal/bytealg.IndexString", "internal/bytealg.MakeNoZero"], unfollowed := true, recurses := true, named := ["internal/bytealg.MaxLen", "unicode/utf8.first", "unicode/utf8.acceptRanges"], apart := false, laid := [("unicode/utf8.acceptRanges", laid_unicode_utf8_acceptRanges), ("unicode/utf8.first", laid_unicode_utf8_first)] }
def CsvrBackSaid : Prop := csvrBackRow.holds Tryd.pinned (OpenSpec.ofChange csvrBackSpec)

/-- ITS FALSE NEIGHBOUR: 'it returns false'. Refute it at one input. -/
def csvrBackWrong : ChangeSpec := { name := "csvrBack", fn := fun _ => fun
  | [d1, d2] => { results := [.lit (.bool false)], args := [d1, d2] }
  | _ => none }
def CsvrBackWrongFalsely : Prop := csvrBackRow.holds Tryd.pinned (OpenSpec.ofChange csvrBackWrong)

/- THE SECOND FORM. 'bulk': how many values and letters a reading holds, each counted each time it is reached (what is shared counts as often as it is met; a slice's spare places count too). A statement '..UptoSaid' is the law's where the arguments, and the package variables that the reading takes, are together of bulk at most 1048576: NARROWER than '..Said'. Prove '..Said' where nothing that the law and all that it calls make is longer than what came in: it says more and counts as full. Else prove '..UptoSaid'. A law counts once. -/
mutual
def uptoBulk {H : Type} : DataW H → Nat
  | .lit (.string bytes) => bytes.length + 1
  | .lit _ => 1
  | .nil => 1
  | .ptr d => uptoBulk d + 1
  | .slice elems spare => uptoBulkAll elems + uptoBulkAll spare + 1
  | .agg parts => uptoBulkAll parts + 1
  | .iface _ d => uptoBulk d + 1
  | .map entries => uptoBulkEntries entries + 1
  | .held _ => 1
def uptoBulkAll {H : Type} : List (DataW H) → Nat
  | [] => 0
  | d :: r => uptoBulk d + uptoBulkAll r
def uptoBulkEntries {H : Type} : List (Lit × DataW H) → Nat
  | [] => 0
  | x :: r => uptoBulkEntry x + uptoBulkEntries r
def uptoBulkEntry {H : Type} : Lit × DataW H → Nat
  | (.string bytes, d) => bytes.length + uptoBulk d + 1
  | (_, d) => uptoBulk d + 1
 end
def uptoSmall : (H : Type) → List (DataW H) → Bool := fun _ ds => decide (uptoBulkAll ds ≤ 1048576)
def OpenSpec.upto (s : _root_.Go.ChangeSpec) : _root_.Go.OpenSpec := { _root_.Go.OpenSpec.ofChange s with cond := some uptoSmall }

/-- 'glebelaw6.DateForms', WHERE WHAT IT READS IS OF BULK AT MOST 1048576: true; the input reads as it did. -/
def dateFormsUptoRow : OpenClaim := { program := "ytcgchblljhbdaaadoor", sum := "ee28f310051c861eb82ab7a81403c3c6efa4e6ae86652c4cdf3679eaf09fcf33", func := "glebe/glebelaw6.DateForms", spec := "dateForms", named := ["internal/strconv.uint64pow10", "math/bits.deBruijn32tab", "math/bits.deBruijn64tab"], apart := false, laid := [("math/bits.deBruijn32tab", laid_math_bits_deBruijn32tab), ("math/bits.deBruijn64tab", laid_math_bits_deBruijn64tab), ("internal/strconv.uint64pow10", laid_internal_strconv_uint64pow10)], narrowed := true }
def DateFormsUptoSaid : Prop := dateFormsUptoRow.holds Tryd.pinned (OpenSpec.upto dateFormsSpec)

/-- 'glebelaw6.DateNums', WHERE WHAT IT READS IS OF BULK AT MOST 1048576: true; the input reads as it did. -/
def dateNumsUptoRow : OpenClaim := { program := "ytcgchblljhbdaaadoor", sum := "ee28f310051c861eb82ab7a81403c3c6efa4e6ae86652c4cdf3679eaf09fcf33", func := "glebe/glebelaw6.DateNums", spec := "dateNums", named := ["internal/strconv.uint64pow10", "math/bits.deBruijn32tab", "math/bits.deBruijn64tab"], apart := false, laid := [("math/bits.deBruijn32tab", laid_math_bits_deBruijn32tab), ("math/bits.deBruijn64tab", laid_math_bits_deBruijn64tab), ("internal/strconv.uint64pow10", laid_internal_strconv_uint64pow10)], narrowed := true }
def DateNumsUptoSaid : Prop := dateNumsUptoRow.holds Tryd.pinned (OpenSpec.upto dateNumsSpec)

/-- 'glebelaw6.DateTells', WHERE WHAT IT READS IS OF BULK AT MOST 1048576: true; the input reads as it did. -/
def dateTellsUptoRow : OpenClaim := { program := "ytcgchblljhbdaaadoor", sum := "ee28f310051c861eb82ab7a81403c3c6efa4e6ae86652c4cdf3679eaf09fcf33", func := "glebe/glebelaw6.DateTells", spec := "dateTells", named := ["internal/strconv.uint64pow10", "math/bits.deBruijn32tab", "math/bits.deBruijn64tab"], apart := false, laid := [("math/bits.deBruijn32tab", laid_math_bits_deBruijn32tab), ("math/bits.deBruijn64tab", laid_math_bits_deBruijn64tab), ("internal/strconv.uint64pow10", laid_internal_strconv_uint64pow10)], narrowed := true }
def DateTellsUptoSaid : Prop := dateTellsUptoRow.holds Tryd.pinned (OpenSpec.upto dateTellsSpec)

/-- 'glebelaw6.DateBack', WHERE WHAT IT READS IS OF BULK AT MOST 1048576: true; the input reads as it did. -/
def dateBackUptoRow : OpenClaim := { program := "ytcgchblljhbdaaadoor", sum := "ee28f310051c861eb82ab7a81403c3c6efa4e6ae86652c4cdf3679eaf09fcf33", func := "glebe/glebelaw6.DateBack", spec := "dateBack", named := ["internal/strconv.uint64pow10", "math/bits.deBruijn32tab", "math/bits.deBruijn64tab"], apart := false, laid := [("math/bits.deBruijn32tab", laid_math_bits_deBruijn32tab), ("math/bits.deBruijn64tab", laid_math_bits_deBruijn64tab), ("internal/strconv.uint64pow10", laid_internal_strconv_uint64pow10)], narrowed := true }
def DateBackUptoSaid : Prop := dateBackUptoRow.holds Tryd.pinned (OpenSpec.upto dateBackSpec)

/-- 'glebelaw5.MacsForms', WHERE WHAT IT READS IS OF BULK AT MOST 1048576: true; the input reads as it did. -/
def macsFormsUptoRow : OpenClaim := { program := "ytcgchblljhbdaaadoor", sum := "ee28f310051c861eb82ab7a81403c3c6efa4e6ae86652c4cdf3679eaf09fcf33", func := "glebe/glebelaw5.MacsForms", spec := "macsForms", inPlace := ["internal/bytealg.CountString", "internal/bytealg.IndexByteString", "internal/bytealg.IndexString", "internal/abi.NoEscape", "internal/bytealg.MakeNoZero"], named := ["unicode/utf8.first", "unicode/utf8.acceptRanges", "internal/bytealg.MaxLen"], apart := false, laid := [("unicode/utf8.acceptRanges", laid_unicode_utf8_acceptRanges), ("unicode/utf8.first", laid_unicode_utf8_first)], narrowed := true }
def MacsFormsUptoSaid : Prop := macsFormsUptoRow.holds Tryd.pinned (OpenSpec.upto macsFormsSpec)

/-- 'glebelaw5.MacsOne', WHERE WHAT IT READS IS OF BULK AT MOST 1048576: true; the input reads as it did. -/
def macsOneUptoRow : OpenClaim := { program := "ytcgchblljhbdaaadoor", sum := "ee28f310051c861eb82ab7a81403c3c6efa4e6ae86652c4cdf3679eaf09fcf33", func := "glebe/glebelaw5.MacsOne", spec := "macsOne", inPlace := ["internal/abi.NoEscape", "internal/bytealg.MakeNoZero", "internal/bytealg.CountString", "internal/bytealg.IndexByteString", "internal/bytealg.IndexString"], named := ["unicode/utf8.first", "unicode/utf8.acceptRanges", "internal/bytealg.MaxLen"], apart := false, laid := [("unicode/utf8.acceptRanges", laid_unicode_utf8_acceptRanges), ("unicode/utf8.first", laid_unicode_utf8_first)], narrowed := true }
def MacsOneUptoSaid : Prop := macsOneUptoRow.holds Tryd.pinned (OpenSpec.upto macsOneSpec)

/-- 'glebelaw5.MacsTells', WHERE WHAT IT READS IS OF BULK AT MOST 1048576: true; the input reads as it did. -/
def macsTellsUptoRow : OpenClaim := { program := "ytcgchblljhbdaaadoor", sum := "ee28f310051c861eb82ab7a81403c3c6efa4e6ae86652c4cdf3679eaf09fcf33", func := "glebe/glebelaw5.MacsTells", spec := "macsTells", inPlace := ["internal/bytealg.CountString", "internal/bytealg.IndexByteString", "internal/bytealg.IndexString", "internal/abi.NoEscape", "internal/bytealg.MakeNoZero"], named := ["unicode/utf8.first", "unicode/utf8.acceptRanges", "internal/bytealg.MaxLen"], apart := false, laid := [("unicode/utf8.acceptRanges", laid_unicode_utf8_acceptRanges), ("unicode/utf8.first", laid_unicode_utf8_first)], narrowed := true }
def MacsTellsUptoSaid : Prop := macsTellsUptoRow.holds Tryd.pinned (OpenSpec.upto macsTellsSpec)

/-- 'glebelaw9.CsvrForms', WHERE WHAT IT READS IS OF BULK AT MOST 1048576: true; the input reads as it did. -/
def csvrFormsUptoRow : OpenClaim := { program := "ytcgchblljhbdaaadoor", sum := "ee28f310051c861eb82ab7a81403c3c6efa4e6ae86652c4cdf3679eaf09fcf33", func := "glebe/glebelaw9.CsvrForms", spec := "csvrForms", inPlace := ["internal/abi.NoEscape", "internal/bytealg.IndexByteString", "internal/bytealg.CountString", "internal/bytealg.IndexString", "internal/bytealg.MakeNoZero"], unfollowed := true, recurses := true, named := ["internal/bytealg.MaxLen", "unicode/utf8.first", "unicode/utf8.acceptRanges"], apart := false, laid := [("unicode/utf8.acceptRanges", laid_unicode_utf8_acceptRanges), ("unicode/utf8.first", laid_unicode_utf8_first)], narrowed := true }
def CsvrFormsUptoSaid : Prop := csvrFormsUptoRow.holds Tryd.pinned (OpenSpec.upto csvrFormsSpec)

/-- 'glebelaw9.CsvrLong', WHERE WHAT IT READS IS OF BULK AT MOST 1048576: true; the input reads as it did. -/
def csvrLongUptoRow : OpenClaim := { program := "ytcgchblljhbdaaadoor", sum := "ee28f310051c861eb82ab7a81403c3c6efa4e6ae86652c4cdf3679eaf09fcf33", func := "glebe/glebelaw9.CsvrLong", spec := "csvrLong", inPlace := ["internal/abi.NoEscape", "internal/bytealg.IndexByteString", "internal/bytealg.CountString", "internal/bytealg.IndexString", "internal/bytealg.MakeNoZero"], unfollowed := true, recurses := true, named := ["internal/bytealg.MaxLen", "unicode/utf8.first", "unicode/utf8.acceptRanges"], apart := false, laid := [("unicode/utf8.acceptRanges", laid_unicode_utf8_acceptRanges), ("unicode/utf8.first", laid_unicode_utf8_first)], narrowed := true }
def CsvrLongUptoSaid : Prop := csvrLongUptoRow.holds Tryd.pinned (OpenSpec.upto csvrLongSpec)

/-- 'glebelaw9.CsvrEnds', WHERE WHAT IT READS IS OF BULK AT MOST 1048576: true; the input reads as it did. -/
def csvrEndsUptoRow : OpenClaim := { program := "ytcgchblljhbdaaadoor", sum := "ee28f310051c861eb82ab7a81403c3c6efa4e6ae86652c4cdf3679eaf09fcf33", func := "glebe/glebelaw9.CsvrEnds", spec := "csvrEnds", inPlace := ["internal/abi.NoEscape", "internal/bytealg.IndexByteString", "internal/bytealg.CountString", "internal/bytealg.IndexString", "internal/bytealg.MakeNoZero"], unfollowed := true, recurses := true, named := ["internal/bytealg.MaxLen", "unicode/utf8.first", "unicode/utf8.acceptRanges"], apart := false, laid := [("unicode/utf8.acceptRanges", laid_unicode_utf8_acceptRanges), ("unicode/utf8.first", laid_unicode_utf8_first)], narrowed := true }
def CsvrEndsUptoSaid : Prop := csvrEndsUptoRow.holds Tryd.pinned (OpenSpec.upto csvrEndsSpec)

/-- 'glebelaw9.CsvrTells', WHERE WHAT IT READS IS OF BULK AT MOST 1048576: true; the input reads as it did. -/
def csvrTellsUptoRow : OpenClaim := { program := "ytcgchblljhbdaaadoor", sum := "ee28f310051c861eb82ab7a81403c3c6efa4e6ae86652c4cdf3679eaf09fcf33", func := "glebe/glebelaw9.CsvrTells", spec := "csvrTells", inPlace := ["internal/abi.NoEscape", "internal/bytealg.IndexByteString", "internal/bytealg.CountString", "internal/bytealg.IndexString", "internal/bytealg.MakeNoZero"], unfollowed := true, recurses := true, named := ["internal/bytealg.MaxLen", "unicode/utf8.first", "unicode/utf8.acceptRanges"], apart := false, laid := [("unicode/utf8.acceptRanges", laid_unicode_utf8_acceptRanges), ("unicode/utf8.first", laid_unicode_utf8_first)], narrowed := true }
def CsvrTellsUptoSaid : Prop := csvrTellsUptoRow.holds Tryd.pinned (OpenSpec.upto csvrTellsSpec)

/-- 'glebelaw9.CsvrBack', WHERE WHAT IT READS IS OF BULK AT MOST 1048576: true; the input reads as it did. -/
def csvrBackUptoRow : OpenClaim := { program := "ytcgchblljhbdaaadoor", sum := "ee28f310051c861eb82ab7a81403c3c6efa4e6ae86652c4cdf3679eaf09fcf33", func := "glebe/glebelaw9.CsvrBack", spec := "csvrBack", inPlace := ["internal/abi.NoEscape", "internal/bytealg.IndexByteString", "internal/bytealg.CountString", "internal/bytealg.IndexString", "internal/bytealg.MakeNoZero"], unfollowed := true, recurses := true, named := ["internal/bytealg.MaxLen", "unicode/utf8.first", "unicode/utf8.acceptRanges"], apart := false, laid := [("unicode/utf8.acceptRanges", laid_unicode_utf8_acceptRanges), ("unicode/utf8.first", laid_unicode_utf8_first)], narrowed := true }
def CsvrBackUptoSaid : Prop := csvrBackUptoRow.holds Tryd.pinned (OpenSpec.upto csvrBackSpec)

end Rows
end Go.Proofs.YtcgchblljhbdaaaDoor
