/- All rows of the first statement. -/
import Derived.Test.YtojfladifnobbaaGreatDoorAMr0
import Derived.Test.YtojfladifnobbaaGreatDoorAMr1
import Derived.Test.YtojfladifnobbaaGreatDoorAMr2
import Derived.Test.YtojfladifnobbaaGreatDoorAMr3
namespace Go.Proofs.YtojfladifnobbaaGreatDoor.AM
open Go Go.Proofs Go.RowKit
theorem mergForms_all (a : Int) : FlatCall Tryz.prog 3 [.int .i64 a] (.bool true) := by
  have h0 : 0 ≤ a % 256 % 16 := by omega
  have h1 : a % 256 % 16 < 16 := by omega
  have hc : a % 256 % 16 = 0 ∨ a % 256 % 16 = 1 ∨ a % 256 % 16 = 2 ∨ a % 256 % 16 = 3 ∨ a % 256 % 16 = 4 ∨ a % 256 % 16 = 5 ∨ a % 256 % 16 = 6 ∨ a % 256 % 16 = 7 ∨ a % 256 % 16 = 8 ∨ a % 256 % 16 = 9 ∨ a % 256 % 16 = 10 ∨ a % 256 % 16 = 11 ∨ a % 256 % 16 = 12 ∨ a % 256 % 16 = 13 ∨ a % 256 % 16 = 14 ∨ a % 256 % 16 = 15 := by omega
  rcases hc with h | h | h | h | h | h | h | h | h | h | h | h | h | h | h | h
  · exact mf0 a h
  · exact mf1 a h
  · exact mf2 a h
  · exact mf3 a h
  · exact mf4 a h
  · exact mf5 a h
  · exact mf6 a h
  · exact mf7 a h
  · exact mf8 a h
  · exact mf9 a h
  · exact mf10 a h
  · exact mf11 a h
  · exact mf12 a h
  · exact mf13 a h
  · exact mf14 a h
  · exact mf15 a h
end Go.Proofs.YtojfladifnobbaaGreatDoor.AM
