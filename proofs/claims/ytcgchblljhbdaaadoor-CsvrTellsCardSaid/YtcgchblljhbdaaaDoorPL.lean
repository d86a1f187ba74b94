/- Plain lemmas for the pure statements: numbers, bits, bytes one by one, places in a list. -/
import Derived.Test.YtcgchblljhbdaaaDoorWWords
import Derived.Test.YtcgchblljhbdaaaDoorWMore
import Derived.Laws.Bits128
import Derived.KernelRfl
namespace Go.Proofs.YtcgchblljhbdaaaDoor.PL
open Go Go.RowKit Go.Proofs.YtcgchblljhbdaaaDoorW.PrintWords
set_option linter.unusedSimpArgs false
set_option linter.unusedVariables false
theorem i64_mask (i : Nat) (hi : i ≤ 62) (n : Int) : bits .and .i64 n (2 ^ i - 1) = n % 2 ^ i := by
  have hpos : 0 < 2 ^ i := Nat.two_pow_pos i
  have hlt : 2 ^ i ≤ 2 ^ 62 := Nat.pow_le_pow_right (by decide) hi
  have hc : ((2 : Int) ^ i - 1) = ((2 ^ i - 1 : Nat) : Int) := by rw [Int.natCast_sub hpos]; simp
  have hm : (BitVec.ofInt 64 ((2 : Int) ^ i - 1)).toNat = 2 ^ i - 1 := by
    rw [hc, BitVec.ofInt_natCast, BitVec.toNat_ofNat]
    exact Nat.mod_eq_of_lt (by omega)
  have key : (BitVec.ofInt 64 n &&& BitVec.ofInt 64 ((2 : Int) ^ i - 1)).toNat = (n % ((2 ^ 64 : Nat) : Int)).toNat % 2 ^ i := by
    rw [BitVec.toNat_and, BitVec.toNat_ofInt, hm, Nat.and_two_pow_sub_one_eq_mod]
  show IntKind.i64.wrap ((BitVec.ofInt 64 n &&& BitVec.ofInt 64 ((2 : Int) ^ i - 1)).toNat : Nat) = n % 2 ^ i
  rw [key, IntKind.wrap_i64]
  have hdvd : (2 : Int) ^ i ∣ ((2 ^ 64 : Nat) : Int) := by
    refine ⟨2 ^ (64 - i), ?_⟩
    rw [← Int.pow_add]
    have : i + (64 - i) = 64 := by omega
    rw [this]
    rfl
  have h0 : 0 ≤ n % ((2 ^ 64 : Nat) : Int) := Int.emod_nonneg _ (by decide)
  have e1 : (((n % ((2 ^ 64 : Nat) : Int)).toNat % 2 ^ i : Nat) : Int) = n % 2 ^ i := by
    rw [Int.natCast_emod, Int.toNat_of_nonneg h0]
    have : ((2 ^ i : Nat) : Int) = (2 : Int) ^ i := by simp
    rw [this]
    exact Int.emod_emod_of_dvd n hdvd
  rw [e1]
  have hp : (0 : Int) < 2 ^ i := by have : ((2 ^ i : Nat) : Int) = (2 : Int) ^ i := by simp
                                    omega
  have hb : (2 : Int) ^ i ≤ 2 ^ 62 := by have : ((2 ^ i : Nat) : Int) = (2 : Int) ^ i := by simp
                                         omega
  have a1 := Int.emod_nonneg n (show (2 : Int) ^ i ≠ 0 by omega)
  have a2 := Int.emod_lt_of_pos n hp
  omega
theorem and1 (n : Int) : bits .and .i64 n 1 = n % 2 := i64_mask 1 (by decide) n
theorem and3 (n : Int) : bits .and .i64 n 3 = n % 4 := i64_mask 2 (by decide) n
theorem and7 (n : Int) : bits .and .i64 n 7 = n % 8 := i64_mask 3 (by decide) n
theorem and31 (n : Int) : bits .and .i64 n 31 = n % 32 := i64_mask 5 (by decide) n
theorem and127 (n : Int) : bits .and .i64 n 127 = n % 128 := i64_mask 7 (by decide) n
theorem and255 (n : Int) : bits .and .i64 n 255 = n % 256 := i64_mask 8 (by decide) n
theorem and511 (n : Int) : bits .and .i64 n 511 = n % 512 := i64_mask 9 (by decide) n
theorem and65535 (n : Int) : bits .and .i64 n 65535 = n % 65536 := i64_mask 16 (by decide) n
theorem tmod_nn {a b : Int} (h : 0 ≤ a) : Int.tmod a b = a % b := Int.tmod_eq_emod_of_nonneg h
/-- A fact of bytes, one by one. -/
theorem byte {p : Int → Prop} (h : ∀ n : Fin 256, p (n.val : Int)) (c : Int) (h0 : 0 ≤ c) (h1 : c < 256) : p c := by
  have := h ⟨c.toNat, by omega⟩
  have e : ((⟨c.toNat, by omega⟩ : Fin 256).val : Int) = c := by show (c.toNat : Int) = c; omega
  rw [e] at this
  exact this
/-- The same, asked of the kernel in one go. -/
theorem byteB {p : Int → Bool} (h : (List.range 256).all (fun n => p (n : Int)) = true) (c : Int) (h0 : 0 ≤ c) (h1 : c < 256) : p c = true := by
  have := List.all_eq_true.mp h c.toNat (List.mem_range.mpr (by omega))
  have e : ((c.toNat : Nat) : Int) = c := by omega
  rw [e] at this
  exact this
theorem take_tw {p : Int → Bool} (l : List Int) : l.take (l.takeWhile p).length = l.takeWhile p := by
  induction l with
  | nil => rfl
  | cons c l ih => by_cases h : p c = true <;> simp [List.takeWhile_cons, h, ih]
theorem drop_tw {p : Int → Bool} (l : List Int) : l.drop (l.takeWhile p).length = l.dropWhile p := by
  induction l with
  | nil => rfl
  | cons c l ih => by_cases h : p c = true <;> simp [List.takeWhile_cons, List.dropWhile_cons, h, ih]
theorem tw_len {p : Int → Bool} (l : List Int) : (l.takeWhile p).length + (l.dropWhile p).length = l.length := by
  rw [← List.length_append, List.takeWhile_append_dropWhile]
theorem wrap_in {x : Int} (h0 : -9223372036854775808 ≤ x) (h1 : x ≤ 9223372036854775807) : wrap64 x = x := by unfold wrap64; omega
theorem wrap_nat {n : Nat} (h : n < 4611686018427387904) : wrap64 ((n : Int) + 1) = ((n + 1 : Nat) : Int) := by unfold wrap64; omega
theorem u8_of_wf {l : List Int} (h : ∀ x ∈ l, (Lit.int .u8 x).wf = true) : ∀ x ∈ l, 0 ≤ x ∧ x < 256 := by
  intro x hx
  have := h x hx
  have h8 : IntKind.u8.min = 0 ∧ IntKind.u8.max = 255 := by decide
  simp [Lit.wf] at this
  omega
theorem i64_of_wf {x : Int} (h : (Lit.int .i64 x).wf = true) : -9223372036854775808 ≤ x ∧ x ≤ 9223372036854775807 := by
  have h8 : IntKind.i64.min = -9223372036854775808 ∧ IntKind.i64.max = 9223372036854775807 := by decide
  simp [Lit.wf] at h
  omega
section
variable {b l : List Int} {n : Nat} {c : Int}
theorem dn (h : b.drop n = []) (hn : n ≤ b.length) : n = b.length := by
  have := congrArg List.length h
  simp at this
  omega
theorem dc (h : b.drop n = c :: l) : n < b.length ∧ rd b (n : Int) = c ∧ b.drop (n + 1) = l ∧ b.length = n + 1 + l.length := by
  have hl := congrArg List.length h
  simp at hl
  have hn : n < b.length := by omega
  have e := List.drop_eq_getElem_cons hn
  rw [h] at e
  injection e with e1 e2
  refine ⟨hn, ?_, e2.symm, by omega⟩
  simp [rd, List.getD_eq_getElem?_getD, List.getElem?_eq_getElem hn, e1]
end
end Go.Proofs.YtcgchblljhbdaaaDoor.PL
