/- What the statements look at first is so. -/
import Derived.Test.YtojfladifnobbaaGreatDoorAMk0
namespace Go.Proofs.YtojfladifnobbaaGreatDoor.AM
open Go Go.Proofs Go.RowKit
set_option maxRecDepth 1000000
theorem awake_ok : FlatCall Tryz.prog 14 (argOf none) (.bool true) := flatCall_by (fcall_ok (rounds := 10000) (g0_ok ng) fm (orT_ok (knownT_ok known_ok) (hooks_ok g0)) 100) 0 (by kernel_rfl) (by kernel_rfl)
def known2 : List Known := ⟨14, none, .bool true⟩ :: known
theorem known2_ok : ∀ k ∈ known2, FlatCall Tryz.prog k.f (argOf k.s) k.v := by
  intro k hk
  rcases List.mem_cons.1 hk with rfl | hk
  · exact awake_ok
  · exact known_ok k hk
end Go.Proofs.YtojfladifnobbaaGreatDoor.AM
