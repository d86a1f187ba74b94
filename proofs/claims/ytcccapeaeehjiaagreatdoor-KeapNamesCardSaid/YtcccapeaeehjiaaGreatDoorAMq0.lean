/- Tables of the library's, and what the statement looks at first. -/
import Derived.Test.YtcccapeaeehjiaaGreatDoorAMhk2
import Derived.Test.YtcccapeaeehjiaaGreatDoorAM5
namespace Go.Proofs.YtcccapeaeehjiaaGreatDoor.AM
open Go Go.Proofs Go.RowKit
set_option maxRecDepth 1000000
set_option linter.unusedVariables false
set_option linter.unusedSimpArgs false
def tabs : List Tab := [⟨1, .u64, [1, 10, 100, 1000, 10000, 100000, 1000000, 10000000, 100000000, 1000000000, 10000000000, 100000000000, 1000000000000, 10000000000000, 100000000000000, 1000000000000000, 10000000000000000, 100000000000000000, 1000000000000000000, 10000000000000000000], false⟩, ⟨7, .u8, [0, 1, 56, 2, 57, 49, 28, 3, 61, 58, 42, 50, 38, 29, 17, 4, 62, 47, 59, 36, 45, 43, 51, 22, 53, 39, 33, 30, 24, 18, 12, 5, 63, 55, 48, 27, 60, 41, 37, 16, 46, 35, 44, 21, 52, 32, 23, 11, 54, 26, 40, 15, 34, 20, 31, 10, 25, 14, 19, 9, 13, 8, 7, 6], false⟩]
theorem tabs_self (t : Tab) (h : t ∈ tabs) : (tabs.any fun u => Nat.beq u.g t.g) = true := List.any_eq_true.2 ⟨t, h, Nat.beq_refl _⟩
theorem mem_of {k : MK} (e : ∀ wv, goes k (fcall Tryz.prog (gTabW tabs wv) hooksA 10000 100 k.f (k.args.map LA.val) k.nx (rowsT (hTab tabs) k.hin)) = true) : MemCall Tryz.prog tabs k := memCall_by (fun wv _ => fcall_ok (gTabW_ok tabs wv ng) fm (hooksA_ok _) 100) e
theorem three {x y z : MK} (hx : MemCall Tryz.prog tabs x) (hy : MemCall Tryz.prog tabs y) (hz : MemCall Tryz.prog tabs z) (e : [x, y, z].all (fun k => k.fine && decide (k.nx ≤ k.n')) = true) : ∀ k ∈ [x, y, z], MemCall Tryz.prog tabs k ∧ k.fine = true ∧ k.nx ≤ k.n' := by
  intro k hk
  have h := List.all_eq_true.1 e k hk
  simp only [Bool.and_eq_true, decide_eq_true_eq] at h
  refine ⟨?_, h⟩
  simp only [List.mem_cons, List.not_mem_nil, or_false] at hk
  rcases hk with rfl | rfl | rfl
  · exact hx
  · exact hy
  · exact hz
theorem bits5 {a b0 b1 b2 b3 b4 : Int} (h0 : a / 2 ^ 0 % 2 = b0) (h1 : a / 2 ^ 1 % 2 = b1) (h2 : a / 2 ^ 2 % 2 = b2) (h3 : a / 2 ^ 3 % 2 = b3) (h4 : a / 2 ^ 4 % 2 = b4) : ∀ (k : Nat) (b : Int), [b0, b1, b2, b3, b4][k]? = some b → a / 2 ^ k % 2 = b
  | 0, b, h => by injection h with h; rw [← h]; exact h0
  | 1, b, h => by injection h with h; rw [← h]; exact h1
  | 2, b, h => by injection h with h; rw [← h]; exact h2
  | 3, b, h => by injection h with h; rw [← h]; exact h3
  | 4, b, h => by injection h with h; rw [← h]; exact h4
  | k + 5, b, h => by simp at h
end Go.Proofs.YtcccapeaeehjiaaGreatDoor.AM
