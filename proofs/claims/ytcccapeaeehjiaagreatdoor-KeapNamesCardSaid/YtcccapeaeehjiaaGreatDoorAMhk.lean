/- The calls that are answered out of contracts, all together. -/
import Derived.Test.YtcccapeaeehjiaaGreatDoorProg
import Derived.Test.YtcccapeaeehjiaaGreatDoorShelf
import Derived.Test.YtcccapeaeehjiaaGreatDoorAMw
import Derived.Test.YtcccapeaeehjiaaGreatDoorAMx
namespace Go.Proofs.YtcccapeaeehjiaaGreatDoor.AM
open Go Go.Proofs Go.RowKit
set_option linter.unusedVariables false
noncomputable def hooks : SumT := orT (copyT 78 88) (orT (strT 32 88 5) (joinT 166))
theorem hooks_ok (gl : Gv) : TOK Tryz.prog gl hooks := orT_ok (copyT_ok (copyC_of (ρ := Tryz.lays156_ren) { Tryz.lays156 with } Tryz.Builder_Extra_156.toX72)) (orT_ok (strT_ok (strC_of Tryz.lays169 Tryz.Builder_Extra_169)) (joinT_ok (joinC_of Tryz.lays156 Tryz.Builder_Extra_156)))
theorem ng : NoNG Tryz.prog := noNG_of (by kernel_rfl)
theorem fm : Tryz.prog.follows .mixedOrders = true := by kernel_rfl
end Go.Proofs.YtcccapeaeehjiaaGreatDoor.AM
