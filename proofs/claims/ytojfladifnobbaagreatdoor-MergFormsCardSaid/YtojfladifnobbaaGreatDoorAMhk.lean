/- The calls that are answered out of contracts, all together. -/
import Derived.Test.YtojfladifnobbaaGreatDoorProg
import Derived.Test.YtojfladifnobbaaGreatDoorShelf
import Derived.Test.YtojfladifnobbaaGreatDoorAMw
import Derived.Test.YtojfladifnobbaaGreatDoorAMx
import Derived.Test.YtojfladifnobbaaGreatDoorAMiOpt
import Derived.Test.YtojfladifnobbaaGreatDoorAMiNet
import Derived.Test.YtojfladifnobbaaGreatDoorAMiHost
import Derived.Test.YtojfladifnobbaaGreatDoorAMiLease
import Derived.Test.YtojfladifnobbaaGreatDoorAMiRange
namespace Go.Proofs.YtojfladifnobbaaGreatDoor.AM
open Go Go.Proofs Go.RowKit
noncomputable def hooks : SumT := orT (insT 68 47 3 32) (orT (insT 71 36 8 104) (orT (insT 77 44 5 48) (orT (insT 81 50 6 56) (orT (insT 97 54 6 48) (orT (copyT 138 177) (orT (strT 126 177 5) (joinT 93)))))))
theorem hooks_ok (gl : Gv) : TOK Tryz.prog gl hooks := orT_ok (insOpt_ok gl) (orT_ok (insNet_ok gl) (orT_ok (insHost_ok gl) (orT_ok (insLease_ok gl) (orT_ok (insRange_ok gl) (orT_ok (copyT_ok (copyC_of (ρ := Tryz.lays156_ren) { Tryz.lays156 with } Tryz.Builder_Extra_156.toX72)) (orT_ok (strT_ok (strC_of Tryz.lays169 Tryz.Builder_Extra_169)) (joinT_ok (joinC_of Tryz.lays156 Tryz.Builder_Extra_156))))))))
theorem ng : NoNG Tryz.prog := noNG_of (by kernel_rfl)
theorem fm : Tryz.prog.follows .mixedOrders = true := by kernel_rfl
end Go.Proofs.YtojfladifnobbaaGreatDoor.AM
