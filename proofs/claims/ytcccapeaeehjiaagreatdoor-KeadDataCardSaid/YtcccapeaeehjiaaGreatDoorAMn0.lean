/- Tables of the library's that the runs read. -/
import Derived.Test.YtcccapeaeehjiaaGreatDoorAMhl
namespace Go.Proofs.YtcccapeaeehjiaaGreatDoor.AM
open Go Go.Proofs Go.RowKit
set_option maxRecDepth 1000000
set_option linter.unusedVariables false
set_option linter.unusedSimpArgs false
def tabs : List Tab := [⟨1, .u64, [1, 10, 100, 1000, 10000, 100000, 1000000, 10000000, 100000000, 1000000000, 10000000000, 100000000000, 1000000000000, 10000000000000, 100000000000000, 1000000000000000, 10000000000000000, 100000000000000000, 1000000000000000000, 10000000000000000000], false⟩, ⟨7, .u8, [0, 1, 56, 2, 57, 49, 28, 3, 61, 58, 42, 50, 38, 29, 17, 4, 62, 47, 59, 36, 45, 43, 51, 22, 53, 39, 33, 30, 24, 18, 12, 5, 63, 55, 48, 27, 60, 41, 37, 16, 46, 35, 44, 21, 52, 32, 23, 11, 54, 26, 40, 15, 34, 20, 31, 10, 25, 14, 19, 9, 13, 8, 7, 6], false⟩, ⟨0, .i64, [0], true⟩]
theorem tabs_self (t : Tab) (h : t ∈ tabs) : (tabs.any fun u => Nat.beq u.g t.g) = true := List.any_eq_true.2 ⟨t, h, Nat.beq_refl _⟩
def Okk (k : MK) : Prop := MemCall Tryz.prog tabs k ∧ k.fine = true ∧ k.nx ≤ k.n'
theorem okk {k : MK} (h : MemCall Tryz.prog tabs k) (e : (k.fine && decide (k.nx ≤ k.n')) = true) : Okk k := by
  simp only [Bool.and_eq_true, decide_eq_true_eq] at e
  exact ⟨h, e.1, e.2⟩
theorem ok0 : ∀ k ∈ ([] : List MK), Okk k := fun k h => by cases h
theorem okc {x : MK} {l : List MK} (h : Okk x) (t : ∀ k ∈ l, Okk k) : ∀ k ∈ x :: l, Okk k := fun k hk => by
  rcases List.mem_cons.1 hk with rfl | hk
  · exact h
  · exact t k hk
theorem mem_of {k : MK} {l : List MK} (hl : ∀ k ∈ l, Okk k) (e : ∀ wv, goes k (fcall Tryz.prog (gTabW tabs wv) (orT (memT tabs l) hooksB) 10000 100 k.f (k.args.map LA.val) k.nx (rowsT (hTab tabs) k.hin)) = true) : MemCall Tryz.prog tabs k := memCall_by (fun wv hw => fcall_ok (gTabW_ok tabs wv ng) fm (orT_ok (memT_ok hw (fun t ht => tabs_self t ht) hl) (hooksB_ok _ rfl hw)) 100) e
end Go.Proofs.YtcccapeaeehjiaaGreatDoor.AM
