/- All cases. -/
import Derived.Test.YtcccapeaeehjiaaGreatDoorAMq1
import Derived.Test.YtcccapeaeehjiaaGreatDoorAMq2
import Derived.Test.YtcccapeaeehjiaaGreatDoorAMq3
import Derived.Test.YtcccapeaeehjiaaGreatDoorAMq4
import Derived.Test.YtcccapeaeehjiaaGreatDoorAMq5
import Derived.Test.YtcccapeaeehjiaaGreatDoorAMq6
import Derived.Test.YtcccapeaeehjiaaGreatDoorAMq7
import Derived.Test.YtcccapeaeehjiaaGreatDoorAMq8
namespace Go.Proofs.YtcccapeaeehjiaaGreatDoor.AM
open Go Go.Proofs Go.RowKit
set_option maxRecDepth 1000000
set_option linter.unusedVariables false
set_option linter.unusedSimpArgs false
theorem keapNames_all (a : Int) : FlatCallG tabs Tryz.prog 3 [.int .i64 a] (.bool true) := by
  have c0 : a / 2 ^ 0 % 2 = 0 ∨ a / 2 ^ 0 % 2 = 1 := Int.emod_two_eq _
  have c1 : a / 2 ^ 1 % 2 = 0 ∨ a / 2 ^ 1 % 2 = 1 := Int.emod_two_eq _
  have c2 : a / 2 ^ 2 % 2 = 0 ∨ a / 2 ^ 2 % 2 = 1 := Int.emod_two_eq _
  have c3 : a / 2 ^ 3 % 2 = 0 ∨ a / 2 ^ 3 % 2 = 1 := Int.emod_two_eq _
  have c4 : a / 2 ^ 4 % 2 = 0 ∨ a / 2 ^ 4 % 2 = 1 := Int.emod_two_eq _
  rcases c0 with h0 | h0 <;> rcases c1 with h1 | h1 <;> rcases c2 with h2 | h2 <;> rcases c3 with h3 | h3 <;> rcases c4 with h4 | h4
  · exact kn0 a h0 h1 h2 h3 h4
  · exact kn16 a h0 h1 h2 h3 h4
  · exact kn8 a h0 h1 h2 h3 h4
  · exact kn24 a h0 h1 h2 h3 h4
  · exact kn4 a h0 h1 h2 h3 h4
  · exact kn20 a h0 h1 h2 h3 h4
  · exact kn12 a h0 h1 h2 h3 h4
  · exact kn28 a h0 h1 h2 h3 h4
  · exact kn2 a h0 h1 h2 h3 h4
  · exact kn18 a h0 h1 h2 h3 h4
  · exact kn10 a h0 h1 h2 h3 h4
  · exact kn26 a h0 h1 h2 h3 h4
  · exact kn6 a h0 h1 h2 h3 h4
  · exact kn22 a h0 h1 h2 h3 h4
  · exact kn14 a h0 h1 h2 h3 h4
  · exact kn30 a h0 h1 h2 h3 h4
  · exact kn1 a h0 h1 h2 h3 h4
  · exact kn17 a h0 h1 h2 h3 h4
  · exact kn9 a h0 h1 h2 h3 h4
  · exact kn25 a h0 h1 h2 h3 h4
  · exact kn5 a h0 h1 h2 h3 h4
  · exact kn21 a h0 h1 h2 h3 h4
  · exact kn13 a h0 h1 h2 h3 h4
  · exact kn29 a h0 h1 h2 h3 h4
  · exact kn3 a h0 h1 h2 h3 h4
  · exact kn19 a h0 h1 h2 h3 h4
  · exact kn11 a h0 h1 h2 h3 h4
  · exact kn27 a h0 h1 h2 h3 h4
  · exact kn7 a h0 h1 h2 h3 h4
  · exact kn23 a h0 h1 h2 h3 h4
  · exact kn15 a h0 h1 h2 h3 h4
  · exact kn31 a h0 h1 h2 h3 h4
end Go.Proofs.YtcccapeaeehjiaaGreatDoor.AM
