/- Rows of the first statement, each reckoned. -/
import Derived.Test.YtojfladifnobbaaGreatDoorAMk1
namespace Go.Proofs.YtojfladifnobbaaGreatDoor.AM
open Go Go.Proofs Go.RowKit
set_option maxRecDepth 1000000
theorem mf0 (a : Int) (h : a % 256 % 16 = 0) : FlatCall Tryz.prog 3 [.int .i64 a] (.bool true) := call_by (gl := idxGv a 16 0) (fcall_ok (rounds := 10000) (idx_ok ng a 16 0 (by decide) h) fm (orT_ok (knownT_ok known2_ok) (hooks_ok _)) 100) rfl 0 (idx_arg a 16 0) rfl (by kernel_rfl)
theorem mf1 (a : Int) (h : a % 256 % 16 = 1) : FlatCall Tryz.prog 3 [.int .i64 a] (.bool true) := call_by (gl := idxGv a 16 1) (fcall_ok (rounds := 10000) (idx_ok ng a 16 1 (by decide) h) fm (orT_ok (knownT_ok known2_ok) (hooks_ok _)) 100) rfl 0 (idx_arg a 16 1) rfl (by kernel_rfl)
theorem mf2 (a : Int) (h : a % 256 % 16 = 2) : FlatCall Tryz.prog 3 [.int .i64 a] (.bool true) := call_by (gl := idxGv a 16 2) (fcall_ok (rounds := 10000) (idx_ok ng a 16 2 (by decide) h) fm (orT_ok (knownT_ok known2_ok) (hooks_ok _)) 100) rfl 0 (idx_arg a 16 2) rfl (by kernel_rfl)
theorem mf3 (a : Int) (h : a % 256 % 16 = 3) : FlatCall Tryz.prog 3 [.int .i64 a] (.bool true) := call_by (gl := idxGv a 16 3) (fcall_ok (rounds := 10000) (idx_ok ng a 16 3 (by decide) h) fm (orT_ok (knownT_ok known2_ok) (hooks_ok _)) 100) rfl 0 (idx_arg a 16 3) rfl (by kernel_rfl)
end Go.Proofs.YtojfladifnobbaaGreatDoor.AM
