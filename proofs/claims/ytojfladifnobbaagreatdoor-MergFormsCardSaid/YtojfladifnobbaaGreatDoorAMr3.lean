/- Rows of the first statement, each reckoned. -/
import Derived.Test.YtojfladifnobbaaGreatDoorAMk1
namespace Go.Proofs.YtojfladifnobbaaGreatDoor.AM
open Go Go.Proofs Go.RowKit
set_option maxRecDepth 1000000
theorem mf12 (a : Int) (h : a % 256 % 16 = 12) : FlatCall Tryz.prog 3 [.int .i64 a] (.bool true) := call_by (gl := idxGv a 16 12) (fcall_ok (rounds := 10000) (idx_ok ng a 16 12 (by decide) h) fm (orT_ok (knownT_ok known2_ok) (hooks_ok _)) 100) rfl 0 (idx_arg a 16 12) rfl (by kernel_rfl)
theorem mf13 (a : Int) (h : a % 256 % 16 = 13) : FlatCall Tryz.prog 3 [.int .i64 a] (.bool true) := call_by (gl := idxGv a 16 13) (fcall_ok (rounds := 10000) (idx_ok ng a 16 13 (by decide) h) fm (orT_ok (knownT_ok known2_ok) (hooks_ok _)) 100) rfl 0 (idx_arg a 16 13) rfl (by kernel_rfl)
theorem mf14 (a : Int) (h : a % 256 % 16 = 14) : FlatCall Tryz.prog 3 [.int .i64 a] (.bool true) := call_by (gl := idxGv a 16 14) (fcall_ok (rounds := 10000) (idx_ok ng a 16 14 (by decide) h) fm (orT_ok (knownT_ok known2_ok) (hooks_ok _)) 100) rfl 0 (idx_arg a 16 14) rfl (by kernel_rfl)
theorem mf15 (a : Int) (h : a % 256 % 16 = 15) : FlatCall Tryz.prog 3 [.int .i64 a] (.bool true) := call_by (gl := idxGv a 16 15) (fcall_ok (rounds := 10000) (idx_ok ng a 16 15 (by decide) h) fm (orT_ok (knownT_ok known2_ok) (hooks_ok _)) 100) rfl 0 (idx_arg a 16 15) rfl (by kernel_rfl)
end Go.Proofs.YtojfladifnobbaaGreatDoor.AM
