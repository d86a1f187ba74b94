/- optn.All's answer, as a hook. -/
import Derived.Test.YtcccapeaeehjiaaGreatDoorAMonceC
import Derived.Test.YtcccapeaeehjiaaGreatDoorAMhk
namespace Go.Proofs.YtcccapeaeehjiaaGreatDoor.AM
open Go Go.Proofs Go.RowKit
set_option maxRecDepth 1000000
set_option linter.unusedVariables false
set_option linter.unusedSimpArgs false
def kinds : List LV := [.i .i64 4, .i .i64 3, .i .i64 2, .s [114, 111, 117, 116, 101, 114, 115], .s [114, 111, 117, 116, 101, 114, 115], .i .i64 4, .i .i64 6, .i .i64 2, .s [100, 111, 109, 97, 105, 110, 45, 110, 97, 109, 101, 45, 115, 101, 114, 118, 101, 114, 115], .s [100, 111, 109, 97, 105, 110, 45, 110, 97, 109, 101, 45, 115, 101, 114, 118, 101, 114, 115], .i .i64 4, .i .i64 12, .i .i64 4, .s [104, 111, 115, 116, 45, 110, 97, 109, 101], .s [104, 111, 115, 116, 45, 110, 97, 109, 101], .i .i64 4, .i .i64 15, .i .i64 4, .s [100, 111, 109, 97, 105, 110, 45, 110, 97, 109, 101], .s [100, 111, 109, 97, 105, 110, 45, 110, 97, 109, 101], .i .i64 4, .i .i64 26, .i .i64 3, .s [105, 110, 116, 101, 114, 102, 97, 99, 101, 45, 109, 116, 117], .s [105, 110, 116, 101, 114, 102, 97, 99, 101, 45, 109, 116, 117], .i .i64 4, .i .i64 28, .i .i64 1, .s [98, 114, 111, 97, 100, 99, 97, 115, 116, 45, 97, 100, 100, 114, 101, 115, 115], .s [98, 114, 111, 97, 100, 99, 97, 115, 116, 45, 97, 100, 100, 114, 101, 115, 115], .i .i64 4, .i .i64 42, .i .i64 2, .s [110, 116, 112, 45, 115, 101, 114, 118, 101, 114, 115], .s [110, 116, 112, 45, 115, 101, 114, 118, 101, 114, 115], .i .i64 4, .i .i64 119, .i .i64 4, .s [100, 111, 109, 97, 105, 110, 45, 115, 101, 97, 114, 99, 104], .s [100, 111, 109, 97, 105, 110, 45, 115, 101, 97, 114, 99, 104], .i .i64 6, .i .i64 23, .i .i64 2, .s [100, 104, 99, 112, 54, 46, 110, 97, 109, 101, 45, 115, 101, 114, 118, 101, 114, 115], .s [100, 110, 115, 45, 115, 101, 114, 118, 101, 114, 115], .i .i64 6, .i .i64 24, .i .i64 4, .s [100, 104, 99, 112, 54, 46, 100, 111, 109, 97, 105, 110, 45, 115, 101, 97, 114, 99, 104], .s [100, 111, 109, 97, 105, 110, 45, 115, 101, 97, 114, 99, 104], .i .i64 6, .i .i64 31, .i .i64 2, .s [100, 104, 99, 112, 54, 46, 115, 110, 116, 112, 45, 115, 101, 114, 118, 101, 114, 115], .s [115, 110, 116, 112, 45, 115, 101, 114, 118, 101, 114, 115]]
theorem table_ok : RowC Tryz.prog 372 209 5 11 kinds := rowC_by (fcall_ok (rounds := 100) (g0_ok ng) fm noT_ok 10) 0 (by kernel_rfl) (by kernel_rfl)
theorem allHook_ok (gl : Gv) : TOK Tryz.prog gl (rowT 324 209 5 11 kinds) := rowT_ok (by kernel_rfl) (Once.all_ok table_ok)
noncomputable def hooksA : SumT := orT (rowT 324 209 5 11 kinds) hooks
theorem hooksA_ok (gl : Gv) : TOK Tryz.prog gl hooksA := orT_ok (allHook_ok gl) (hooks_ok gl)
end Go.Proofs.YtcccapeaeehjiaaGreatDoor.AM
