/- All cases. -/
import Derived.Test.YtcccapeaeehjiaaGreatDoorAMd1
import Derived.Test.YtcccapeaeehjiaaGreatDoorAMd2
import Derived.Test.YtcccapeaeehjiaaGreatDoorAMd3
namespace Go.Proofs.YtcccapeaeehjiaaGreatDoor.AM
open Go Go.Proofs Go.RowKit
set_option maxRecDepth 1000000
set_option linter.unusedVariables false
set_option linter.unusedSimpArgs false
theorem keadD_all (a : Int) : FlatCallG tabs Tryz.prog 5 [.int .i64 a] (.bool true) := by
  rcases (show a % 256 % 14 = 0 ∨ a % 256 % 14 = 1 ∨ a % 256 % 14 = 2 ∨ a % 256 % 14 = 3 ∨ a % 256 % 14 = 4 ∨ a % 256 % 14 = 5 ∨ a % 256 % 14 = 6 ∨ a % 256 % 14 = 7 ∨ a % 256 % 14 = 8 ∨ a % 256 % 14 = 9 ∨ a % 256 % 14 = 10 ∨ a % 256 % 14 = 11 ∨ a % 256 % 14 = 12 ∨ a % 256 % 14 = 13 by omega) with h | h | h | h | h | h | h | h | h | h | h | h | h | h
  · exact knD0 a h
  · exact knD1 a h
  · exact knD2 a h
  · exact knD3 a h
  · exact knD4 a h
  · exact knD5 a h
  · exact knD6 a h
  · exact knD7 a h
  · exact knD8 a h
  · exact knD9 a h
  · exact knD10 a h
  · exact knD11 a h
  · exact knD12 a h
  · exact knD13 a h
end Go.Proofs.YtcccapeaeehjiaaGreatDoor.AM
