/- Calls of the reference that are asked often, each reckoned once. -/
import Derived.Test.YtojfladifnobbaaGreatDoorAMhk
import Derived.Test.YtojfladifnobbaaGreatDoorAMz
namespace Go.Proofs.YtojfladifnobbaaGreatDoor.AM
open Go Go.Proofs Go.RowKit
set_option maxRecDepth 1000000
theorem kn0 : FlatCall Tryz.prog 5 (argOf (some [49, 48, 46, 48, 46, 48, 46, 48, 47, 50, 52])) (.tuple #[.agg #[.int .i64 4, .int .u64 0, .int .u64 167772160, .int .i64 24], .bool true]) := flatCall_by (fcall_ok (rounds := 10000) (g0_ok ng) fm (hooks_ok g0) 100) 0 (by kernel_rfl) (by kernel_rfl)
theorem kn1 : FlatCall Tryz.prog 5 (argOf (some [49, 48, 46, 48, 46, 48, 46, 48, 47, 49, 54])) (.tuple #[.agg #[.int .i64 4, .int .u64 0, .int .u64 167772160, .int .i64 16], .bool true]) := flatCall_by (fcall_ok (rounds := 10000) (g0_ok ng) fm (hooks_ok g0) 100) 0 (by kernel_rfl) (by kernel_rfl)
theorem kn2 : FlatCall Tryz.prog 5 (argOf (some [49, 48, 46, 48, 46, 48, 46, 48, 47, 50, 53])) (.tuple #[.agg #[.int .i64 4, .int .u64 0, .int .u64 167772160, .int .i64 25], .bool true]) := flatCall_by (fcall_ok (rounds := 10000) (g0_ok ng) fm (hooks_ok g0) 100) 0 (by kernel_rfl) (by kernel_rfl)
theorem kn3 : FlatCall Tryz.prog 6 (argOf (some [49, 48, 46, 48, 46, 48, 46, 53])) (.tuple #[.agg #[.int .i64 4, .int .u64 0, .int .u64 167772165], .bool true]) := flatCall_by (fcall_ok (rounds := 10000) (g0_ok ng) fm (hooks_ok g0) 100) 0 (by kernel_rfl) (by kernel_rfl)
theorem kn4 : FlatCall Tryz.prog 6 (argOf (some [49, 48, 46, 48, 46, 48, 46, 54])) (.tuple #[.agg #[.int .i64 4, .int .u64 0, .int .u64 167772166], .bool true]) := flatCall_by (fcall_ok (rounds := 10000) (g0_ok ng) fm (hooks_ok g0) 100) 0 (by kernel_rfl) (by kernel_rfl)
def known : List Known := [⟨5, (some [49, 48, 46, 48, 46, 48, 46, 48, 47, 50, 52]), .tuple #[.agg #[.int .i64 4, .int .u64 0, .int .u64 167772160, .int .i64 24], .bool true]⟩, ⟨5, (some [49, 48, 46, 48, 46, 48, 46, 48, 47, 49, 54]), .tuple #[.agg #[.int .i64 4, .int .u64 0, .int .u64 167772160, .int .i64 16], .bool true]⟩, ⟨5, (some [49, 48, 46, 48, 46, 48, 46, 48, 47, 50, 53]), .tuple #[.agg #[.int .i64 4, .int .u64 0, .int .u64 167772160, .int .i64 25], .bool true]⟩, ⟨6, (some [49, 48, 46, 48, 46, 48, 46, 53]), .tuple #[.agg #[.int .i64 4, .int .u64 0, .int .u64 167772165], .bool true]⟩, ⟨6, (some [49, 48, 46, 48, 46, 48, 46, 54]), .tuple #[.agg #[.int .i64 4, .int .u64 0, .int .u64 167772166], .bool true]⟩]
theorem known_ok : ∀ k ∈ known, FlatCall Tryz.prog k.f (argOf k.s) k.v := by
  intro k hk
  simp only [known, List.mem_cons, List.not_mem_nil, or_false] at hk
  rcases hk with rfl | rfl | rfl | rfl | rfl
  · exact kn0
  · exact kn1
  · exact kn2
  · exact kn3
  · exact kn4
end Go.Proofs.YtojfladifnobbaaGreatDoor.AM
