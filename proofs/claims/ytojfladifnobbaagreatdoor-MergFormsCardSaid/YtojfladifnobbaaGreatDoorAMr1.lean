/- Rows of the first statement, each reckoned. -/
import Derived.Test.YtojfladifnobbaaGreatDoorAMk1
namespace Go.Proofs.YtojfladifnobbaaGreatDoor.AM
open Go Go.Proofs Go.RowKit
set_option maxRecDepth 1000000
theorem mf4 (a : Int) (h : a % 256 % 16 = 4) : FlatCall Tryz.prog 3 [.int .i64 a] (.bool true) := call_by (gl := idxGv a 16 4) (fcall_ok (rounds := 10000) (idx_ok ng a 16 4 (by decide) h) fm (orT_ok (knownT_ok known2_ok) (hooks_ok _)) 100) rfl 0 (idx_arg a 16 4) rfl (by kernel_rfl)
theorem mf5 (a : Int) (h : a % 256 % 16 = 5) : FlatCall Tryz.prog 3 [.int .i64 a] (.bool true) := call_by (gl := idxGv a 16 5) (fcall_ok (rounds := 10000) (idx_ok ng a 16 5 (by decide) h) fm (orT_ok (knownT_ok known2_ok) (hooks_ok _)) 100) rfl 0 (idx_arg a 16 5) rfl (by kernel_rfl)
theorem mf6 (a : Int) (h : a % 256 % 16 = 6) : FlatCall Tryz.prog 3 [.int .i64 a] (.bool true) := call_by (gl := idxGv a 16 6) (fcall_ok (rounds := 10000) (idx_ok ng a 16 6 (by decide) h) fm (orT_ok (knownT_ok known2_ok) (hooks_ok _)) 100) rfl 0 (idx_arg a 16 6) rfl (by kernel_rfl)
theorem mf7 (a : Int) (h : a % 256 % 16 = 7) : FlatCall Tryz.prog 3 [.int .i64 a] (.bool true) := call_by (gl := idxGv a 16 7) (fcall_ok (rounds := 10000) (idx_ok ng a 16 7 (by decide) h) fm (orT_ok (knownT_ok known2_ok) (hooks_ok _)) 100) rfl 0 (idx_arg a 16 7) rfl (by kernel_rfl)
end Go.Proofs.YtojfladifnobbaaGreatDoor.AM
