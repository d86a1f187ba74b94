/- All cases. -/
import Derived.Test.YtcccapeaeehjiaaGreatDoorAMn1
import Derived.Test.YtcccapeaeehjiaaGreatDoorAMn2
import Derived.Test.YtcccapeaeehjiaaGreatDoorAMn3
namespace Go.Proofs.YtcccapeaeehjiaaGreatDoor.AM
open Go Go.Proofs Go.RowKit
set_option maxRecDepth 1000000
set_option linter.unusedVariables false
set_option linter.unusedSimpArgs false
theorem keadN_all (a : Int) : FlatCallG tabs Tryz.prog 4 [.int .i64 a] (.bool true) := by
  rcases (show a % 256 % 18 = 0 ∨ a % 256 % 18 = 1 ∨ a % 256 % 18 = 2 ∨ a % 256 % 18 = 3 ∨ a % 256 % 18 = 4 ∨ a % 256 % 18 = 5 ∨ a % 256 % 18 = 6 ∨ a % 256 % 18 = 7 ∨ a % 256 % 18 = 8 ∨ a % 256 % 18 = 9 ∨ a % 256 % 18 = 10 ∨ a % 256 % 18 = 11 ∨ a % 256 % 18 = 12 ∨ a % 256 % 18 = 13 ∨ a % 256 % 18 = 14 ∨ a % 256 % 18 = 15 ∨ a % 256 % 18 = 16 ∨ a % 256 % 18 = 17 by omega) with h | h | h | h | h | h | h | h | h | h | h | h | h | h | h | h | h | h
  · exact knN0 a h
  · exact knN1 a h
  · exact knN2 a h
  · exact knN3 a h
  · exact knN4 a h
  · exact knN5 a h
  · exact knN6 a h
  · exact knN7 a h
  · exact knN8 a h
  · exact knN9 a h
  · exact knN10 a h
  · exact knN11 a h
  · exact knN12 a h
  · exact knN13 a h
  · exact knN14 a h
  · exact knN15 a h
  · exact knN16 a h
  · exact knN17 a h
end Go.Proofs.YtcccapeaeehjiaaGreatDoor.AM
