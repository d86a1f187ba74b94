/- Rows of the first statement, each reckoned. -/
import Derived.Test.YtojfladifnobbaaGreatDoorAMk1
namespace Go.Proofs.YtojfladifnobbaaGreatDoor.AM
open Go Go.Proofs Go.RowKit
set_option maxRecDepth 1000000
theorem mf8 (a : Int) (h : a % 256 % 16 = 8) : FlatCall Tryz.prog 3 [.int .i64 a] (.bool true) := call_by (gl := idxGv a 16 8) (fcall_ok (rounds := 10000) (idx_ok ng a 16 8 (by decide) h) fm (orT_ok (knownT_ok known2_ok) (hooks_ok _)) 100) rfl 0 (idx_arg a 16 8) rfl (by kernel_rfl)
theorem mf9 (a : Int) (h : a % 256 % 16 = 9) : FlatCall Tryz.prog 3 [.int .i64 a] (.bool true) := call_by (gl := idxGv a 16 9) (fcall_ok (rounds := 10000) (idx_ok ng a 16 9 (by decide) h) fm (orT_ok (knownT_ok known2_ok) (hooks_ok _)) 100) rfl 0 (idx_arg a 16 9) rfl (by kernel_rfl)
theorem mf10 (a : Int) (h : a % 256 % 16 = 10) : FlatCall Tryz.prog 3 [.int .i64 a] (.bool true) := call_by (gl := idxGv a 16 10) (fcall_ok (rounds := 10000) (idx_ok ng a 16 10 (by decide) h) fm (orT_ok (knownT_ok known2_ok) (hooks_ok _)) 100) rfl 0 (idx_arg a 16 10) rfl (by kernel_rfl)
theorem mf11 (a : Int) (h : a % 256 % 16 = 11) : FlatCall Tryz.prog 3 [.int .i64 a] (.bool true) := call_by (gl := idxGv a 16 11) (fcall_ok (rounds := 10000) (idx_ok ng a 16 11 (by decide) h) fm (orT_ok (knownT_ok known2_ok) (hooks_ok _)) 100) rfl 0 (idx_arg a 16 11) rfl (by kernel_rfl)
end Go.Proofs.YtojfladifnobbaaGreatDoor.AM
