/- The same machine with small steps for the kernel: what it says, the machine says. -/
import Derived.Test.YtcccapeaeehjiaaGreatDoorAMr
namespace Go.Proofs.YtcccapeaeehjiaaGreatDoor.AM
noncomputable section
open Go Go.RowKit
set_option linter.unusedVariables false
set_option linter.unusedSimpArgs false
noncomputable def ob {α β : Type} (o : Option α) (k : α → Option β) : Option β := Option.rec (motive := fun _ => Option β) none k o
theorem ob_eq {α β : Type} (o : Option α) (k : α → Option β) : ob o k = o.bind k := by cases o <;> rfl
theorem ob_some {α β : Type} {o : Option α} {k : α → Option β} {r : β} (h : ob o k = some r) : ∃ a, o = some a ∧ k a = some r := by
  rw [ob_eq] at h
  exact Option.bind_eq_some_iff.1 h
noncomputable def orE {α : Type} (a b : Option α) : Option α := Option.rec (motive := fun _ => Option α) b some a
theorem orE_some {α : Type} {a b : Option α} {r : α} (h : orE a b = some r) : a = some r ∨ b = some r := by
  cases a with
  | none => exact .inr h
  | some x => exact .inl h
noncomputable def gd {α : Type} (b : Bool) (x : Option α) : Option α := Bool.rec (motive := fun _ => Option α) none x b
theorem gd_some {α : Type} {b : Bool} {x : Option α} {r : α} (h : gd b x = some r) : b = true ∧ x = some r := by
  cases b with
  | false => cases h
  | true => exact ⟨rfl, h⟩
noncomputable def sel {α : Type} (b : Bool) (x y : α) : α := Bool.rec (motive := fun _ => α) y x b
theorem sel_eq {α : Type} (b : Bool) (x y : α) : sel b x y = if b then x else y := by cases b <;> rfl
/-! ### what a value is -/
noncomputable def onInt {β : Type} (v : Value) (k : IntKind → Int → Option β) : Option β :=
  Value.casesOn (motive_1 := fun _ => Option β) v (fun _ => none) k (fun _ _ => none) (fun _ _ _ => none) (fun _ => none) (fun _ => none) (fun _ _ _ => none) (fun _ => none) (fun _ => none) (fun _ _ _ => none) none (fun _ _ => none) none (fun _ => none) (fun _ => none)
theorem onInt_some {β : Type} {v : Value} {k : IntKind → Int → Option β} {r : β} (h : onInt v k = some r) : ∃ a b, v = .int a b ∧ k a b = some r := by
  cases v <;> first | exact ⟨_, _, rfl, h⟩ | cases h
noncomputable def onBool {β : Type} (v : Value) (k : Bool → Option β) : Option β :=
  Value.casesOn (motive_1 := fun _ => Option β) v k (fun _ _ => none) (fun _ _ => none) (fun _ _ _ => none) (fun _ => none) (fun _ => none) (fun _ _ _ => none) (fun _ => none) (fun _ => none) (fun _ _ _ => none) none (fun _ _ => none) none (fun _ => none) (fun _ => none)
theorem onBool_some {β : Type} {v : Value} {k : Bool → Option β} {r : β} (h : onBool v k = some r) : ∃ a, v = .bool a ∧ k a = some r := by
  cases v <;> first | exact ⟨_, rfl, h⟩ | cases h
noncomputable def onStr {β : Type} (v : Value) (k : ByteArray → Option β) : Option β :=
  Value.casesOn (motive_1 := fun _ => Option β) v (fun _ => none) (fun _ _ => none) (fun _ _ => none) (fun _ _ _ => none) k (fun _ => none) (fun _ _ _ => none) (fun _ => none) (fun _ => none) (fun _ _ _ => none) none (fun _ _ => none) none (fun _ => none) (fun _ => none)
theorem onStr_some {β : Type} {v : Value} {k : ByteArray → Option β} {r : β} (h : onStr v k = some r) : ∃ a, v = .string a ∧ k a = some r := by
  cases v <;> first | exact ⟨_, rfl, h⟩ | cases h
noncomputable def onPtr {β : Type} (v : Value) (k : Addr → Option β) : Option β :=
  Value.casesOn (motive_1 := fun _ => Option β) v (fun _ => none) (fun _ _ => none) (fun _ _ => none) (fun _ _ _ => none) (fun _ => none) (fun a => ob a k) (fun _ _ _ => none) (fun _ => none) (fun _ => none) (fun _ _ _ => none) none (fun _ _ => none) none (fun _ => none) (fun _ => none)
theorem onPtr_some {β : Type} {v : Value} {k : Addr → Option β} {r : β} (h : onPtr v k = some r) : ∃ a, v = .pointer (some a) ∧ k a = some r := by
  cases v with
  | pointer a =>
    obtain ⟨x, rfl, h2⟩ := ob_some (show ob a k = some r from h)
    exact ⟨x, rfl, h2⟩
  | _ => cases h
noncomputable def onSlc {β : Type} (v : Value) (k : Option Addr → Nat → Nat → Option β) : Option β :=
  Value.casesOn (motive_1 := fun _ => Option β) v (fun _ => none) (fun _ _ => none) (fun _ _ => none) (fun _ _ _ => none) (fun _ => none) (fun _ => none) k (fun _ => none) (fun _ => none) (fun _ _ _ => none) none (fun _ _ => none) none (fun _ => none) (fun _ => none)
theorem onSlc_some {β : Type} {v : Value} {k : Option Addr → Nat → Nat → Option β} {r : β} (h : onSlc v k = some r) : ∃ a n c, v = .slice a n c ∧ k a n c = some r := by
  cases v <;> first | exact ⟨_, _, _, rfl, h⟩ | cases h
noncomputable def onTup {β : Type} (v : Value) (k : Array Value → Option β) : Option β :=
  Value.casesOn (motive_1 := fun _ => Option β) v (fun _ => none) (fun _ _ => none) (fun _ _ => none) (fun _ _ _ => none) (fun _ => none) (fun _ => none) (fun _ _ _ => none) (fun _ => none) (fun _ => none) (fun _ _ _ => none) none (fun _ _ => none) none (fun _ => none) k
theorem onTup_some {β : Type} {v : Value} {k : Array Value → Option β} {r : β} (h : onTup v k = some r) : ∃ a, v = .tuple a ∧ k a = some r := by
  cases v <;> first | exact ⟨_, rfl, h⟩ | cases h
noncomputable def onFn {β : Type} (v : Value) (k : FuncId → Array Value → Array Value → Option β) : Option β :=
  Value.casesOn (motive_1 := fun _ => Option β) v (fun _ => none) (fun _ _ => none) (fun _ _ => none) (fun _ _ _ => none) (fun _ => none) (fun _ => none) (fun _ _ _ => none) (fun _ => none) (fun _ => none) (fun f x y => match f with | .func g => k g x y | _ => none) none (fun _ _ => none) none (fun _ => none) (fun _ => none)
theorem onFn_some {β : Type} {v : Value} {k : FuncId → Array Value → Array Value → Option β} {r : β} (h : onFn v k = some r) : ∃ f x y, v = .func (.func f) x y ∧ k f x y = some r := by
  cases v with
  | func f x y => cases f <;> first | exact ⟨_, _, _, rfl, h⟩ | cases h
  | _ => cases h
/-! ### numbers -/
noncomputable def kn (k : IntKind) : Nat := IntKind.casesOn (motive := fun _ => Nat) k 0 1 2 3 4 5 6 7
noncomputable def kEq (k k' : IntKind) : Bool := Nat.beq (kn k) (kn k')
theorem kEq_eq {k k' : IntKind} (h : kEq k k' = true) : k = k' := by
  cases k <;> cases k' <;> first | rfl | cases h
noncomputable def iEq (a b : Int) : Bool := Int.casesOn (motive := fun _ => Bool) a (fun m => Int.casesOn (motive := fun _ => Bool) b (fun n => Nat.beq m n) (fun _ => false)) (fun m => Int.casesOn (motive := fun _ => Bool) b (fun _ => false) (fun n => Nat.beq m n))
theorem nbeq (m n : Nat) : Nat.beq m n = decide (m = n) := by
  rw [Bool.eq_iff_iff, decide_eq_true_eq]
  exact ⟨fun h => Nat.eq_of_beq_eq_true h, fun h => by subst h; exact Nat.beq_refl _⟩
theorem iEq_eq (a b : Int) : iEq a b = decide (a = b) := by
  cases a <;> cases b <;> simp only [iEq, nbeq, decide_eq_decide, Bool.false_eq, decide_eq_false_iff_not, Int.ofNat_eq_natCast] <;> omega
noncomputable def iLt (a b : Int) : Bool := Int.casesOn (motive := fun _ => Bool) a (fun m => Int.casesOn (motive := fun _ => Bool) b (fun n => Nat.ble (Nat.succ m) n) (fun _ => false)) (fun m => Int.casesOn (motive := fun _ => Bool) b (fun _ => true) (fun n => Nat.ble (Nat.succ n) m))
theorem nble (m n : Nat) : Nat.ble m n = decide (m ≤ n) := by
  rw [Bool.eq_iff_iff, decide_eq_true_eq]
  exact ⟨Nat.le_of_ble_eq_true, Nat.ble_eq_true_of_le⟩
theorem iLt_eq (a b : Int) : iLt a b = decide (a < b) := by
  cases a <;> cases b <;> simp only [iLt, nble, decide_eq_decide, Bool.false_eq, Bool.true_eq, decide_eq_false_iff_not, decide_eq_true_eq, Int.ofNat_eq_natCast] <;> omega
noncomputable def iB (a : Int) (p q : Nat) : Bool := Int.casesOn (motive := fun _ => Bool) a (fun m => Nat.ble (Nat.succ m) p) (fun m => Nat.ble (Nat.succ m) q)
noncomputable def wrapF (k : IntKind) (n : Int) : Int :=
  sel (IntKind.casesOn (motive := fun _ => Bool) k (iB n 128 128) (iB n 32768 32768) (iB n 2147483648 2147483648) (iB n 9223372036854775808 9223372036854775808) (iB n 256 0) (iB n 65536 0) (iB n 4294967296 0) (iB n 18446744073709551616 0)) n (k.wrap n)
theorem wrapF_eq (k : IntKind) (n : Int) : wrapF k n = k.wrap n := by
  unfold wrapF
  rw [sel_eq]
  split
  · rename_i h
    have hw : ∀ (s : Bool) (b : Nat) (p : Int), 0 < p → (2 : Int) ^ b = (if s then 2 * p else p) → (s = true → (2 : Int) ^ (b - 1) = p) → (if s then -p ≤ n ∧ n < p else 0 ≤ n ∧ n < p) → (if s && decide (n % (2 ^ b : Int) ≥ (2 ^ (b - 1) : Int)) then n % (2 ^ b : Int) - (2 ^ b : Int) else n % (2 ^ b : Int)) = n := by
      intro s b p h0 h1 h2 h3
      cases s with
      | false =>
        simp only [Bool.false_eq_true, if_false, Bool.false_and] at h1 h3 ⊢
        rw [h1]; exact Int.emod_eq_of_lt h3.1 h3.2
      | true =>
        simp only [if_true, Bool.true_and, decide_eq_true_eq] at h1 h2 h3 ⊢
        rw [h1, h2 trivial]
        by_cases hn : 0 ≤ n
        · rw [Int.emod_eq_of_lt hn (by omega), if_neg (by omega)]
        · have : n % (2 * p) = n + 2 * p := by
            rw [← Int.add_emod_right n (2 * p)]
            exact Int.emod_eq_of_lt (by omega) (by omega)
          rw [this, if_pos (by omega)]; omega
    have hb : ∀ p q : Nat, iB n p q = true → -(q : Int) ≤ n ∧ n < p := by
      intro p q hpq
      cases n with
      | ofNat m => simp only [iB, nble, decide_eq_true_eq] at hpq; simp only [Int.ofNat_eq_natCast]; omega
      | negSucc m => simp only [iB, nble, decide_eq_true_eq] at hpq; omega
    cases k
    · exact (hw true 8 128 (by decide) (by decide) (fun _ => by decide) (by simpa using hb _ _ h)).symm
    · exact (hw true 16 32768 (by decide) (by decide) (fun _ => by decide) (by simpa using hb _ _ h)).symm
    · exact (hw true 32 2147483648 (by decide) (by decide) (fun _ => by decide) (by simpa using hb _ _ h)).symm
    · exact (hw true 64 9223372036854775808 (by decide) (by decide) (fun _ => by decide) (by simpa using hb _ _ h)).symm
    · exact (hw false 8 256 (by decide) (by decide) (fun e => by cases e) (by simpa using hb _ _ h)).symm
    · exact (hw false 16 65536 (by decide) (by decide) (fun e => by cases e) (by simpa using hb _ _ h)).symm
    · exact (hw false 32 4294967296 (by decide) (by decide) (fun e => by cases e) (by simpa using hb _ _ h)).symm
    · exact (hw false 64 18446744073709551616 (by decide) (by decide) (fun e => by cases e) (by simpa using hb _ _ h)).symm
  · rfl
abbrev IOp := IntKind → Int → IntKind → Int → Option Value
noncomputable def sk (k k' : IntKind) (v : Value) : Option Value := gd (kEq k k') (some v)
noncomputable def addI : IOp := fun k a k' b => sk k k' (.int k (wrapF k (Int.add a b)))
noncomputable def subI : IOp := fun k a k' b => sk k k' (.int k (wrapF k (Int.sub a b)))
noncomputable def mulI : IOp := fun k a k' b => sk k k' (.int k (wrapF k (Int.mul a b)))
noncomputable def eqlI : IOp := fun k a k' b => sk k k' (.bool (iEq a b))
noncomputable def neqI : IOp := fun k a k' b => sk k k' (.bool (sel (iEq a b) false true))
noncomputable def lssI : IOp := fun k a k' b => sk k k' (.bool (iLt a b))
noncomputable def gtrI : IOp := fun k a k' b => sk k k' (.bool (iLt b a))
noncomputable def leqI : IOp := fun k a k' b => sk k k' (.bool (sel (iLt b a) false true))
noncomputable def geqI : IOp := fun k a k' b => sk k k' (.bool (sel (iLt a b) false true))
noncomputable def noI : IOp := fun _ _ _ _ => none
noncomputable def onNN {β : Type} (a b : Int) (k : Nat → Nat → Option β) : Option β := Int.casesOn (motive := fun _ => Option β) a (fun m => Int.casesOn (motive := fun _ => Option β) b (fun n => k m n) (fun _ => none)) (fun _ => none)
theorem onNN_some {β : Type} {a b : Int} {k : Nat → Nat → Option β} {r : β} (h : onNN a b k = some r) : ∃ m n : Nat, a = m ∧ b = n ∧ k m n = some r := by
  cases a <;> cases b <;> first | exact ⟨_, _, rfl, rfl, h⟩ | cases h
noncomputable def modK (k : IntKind) : Nat := IntKind.casesOn (motive := fun _ => Nat) k 256 65536 4294967296 18446744073709551616 256 65536 4294967296 18446744073709551616
noncomputable def bitK (k : IntKind) : Nat := IntKind.casesOn (motive := fun _ => Nat) k 8 16 32 64 8 16 32 64
noncomputable def quoI : IOp := fun k a k' b => onNN a b fun m n => gd (Nat.ble 1 n) (sk k k' (.int k (wrapF k (Int.ofNat (Nat.div m n)))))
noncomputable def remI : IOp := fun k a k' b => onNN a b fun m n => gd (Nat.ble 1 n) (sk k k' (.int k (Int.ofNat (Nat.mod m n))))
noncomputable def andI : IOp := fun k a k' b => onNN a b fun m n => sk k k' (.int k (wrapF k (Int.ofNat (Nat.land (Nat.mod m (modK k)) (Nat.mod n (modK k))))))
noncomputable def orI : IOp := fun k a k' b => onNN a b fun m n => sk k k' (.int k (wrapF k (Int.ofNat (Nat.lor (Nat.mod m (modK k)) (Nat.mod n (modK k))))))
noncomputable def xorI : IOp := fun k a k' b => onNN a b fun m n => sk k k' (.int k (wrapF k (Int.ofNat (Nat.xor (Nat.mod m (modK k)) (Nat.mod n (modK k))))))
noncomputable def minN (m n : Nat) : Nat := sel (Nat.ble m n) m n
theorem minN_eq (m n : Nat) : minN m n = min m n := by
  unfold minN
  rw [sel_eq, nble]
  by_cases h : m ≤ n
  · rw [if_pos (by simpa using h), Nat.min_eq_left h]
  · rw [if_neg (by simpa using h), Nat.min_eq_right (by omega)]
noncomputable def shlI : IOp := fun k a _ b => onNN a b fun m n => some (.int k (wrapF k (Int.ofNat (Nat.mul m (Nat.pow 2 (minN n (bitK k)))))))
noncomputable def shrI : IOp := fun k a _ b => onNN a b fun m n => some (.int k (Int.ofNat (Nat.div m (Nat.pow 2 (minN n (bitK k))))))
noncomputable def intI (op : BinOp) : IOp := BinOp.casesOn (motive := fun _ => IOp) op addI subI mulI quoI remI andI orI xorI shlI shrI noI eqlI neqI lssI leqI gtrI geqI
theorem sk_some {k k' : IntKind} {v r : Value} (h : sk k k' v = some r) : k = k' ∧ r = v := by
  obtain ⟨h1, h2⟩ := gd_some h
  injection h2 with h2
  exact ⟨kEq_eq h1, h2.symm⟩
theorem leq_alt (a b : Int) : decide (a ≤ b) = (if decide (b < a) = true then false else true) := by
  by_cases hh : b < a
  · have h2 : ¬ a ≤ b := by omega
    simp [hh, h2]
  · have h2 : a ≤ b := by omega
    simp [hh, h2]
theorem neq_alt (a b : Int) : (a != b) = (if decide (a = b) = true then false else true) := by
  by_cases hh : a = b <;> simp [hh]
theorem bits_nat {k : IntKind} {m n : Nat} (f : Nat → Nat → Nat) (g : ∀ w : Nat, BitVec w → BitVec w → BitVec w) (hg : ∀ (w : Nat) (x y : BitVec w), (g w x y).toNat = f x.toNat y.toNat) : ((g k.bits (BitVec.ofInt k.bits (m : Int)) (BitVec.ofInt k.bits (n : Int))).toNat : Int) = Int.ofNat (f (Nat.mod m (modK k)) (Nat.mod n (modK k))) := by
  rw [hg]
  have h : ∀ q : Nat, (BitVec.ofInt k.bits (q : Int)).toNat = Nat.mod q (modK k) := by
    intro q
    rw [show BitVec.ofInt k.bits (q : Int) = BitVec.ofNat k.bits q by simp, BitVec.toNat_ofNat]
    cases k <;> rfl
  rw [h, h]
  rfl
theorem bitK_eq (k : IntKind) : bitK k = k.bits := by cases k <;> rfl
theorem intI_ok {P : Program} {op : BinOp} {k k' : IntKind} {a b : Int} {r : Value} (h : intI op k a k' b = some r) : (aints P op k a k' b).bind (fun r => if flatV r then some r else none) = some r := by
  have fin : ∀ {v : Value}, (aints P op k a k' b) = some v → flatV v = true → v = r → (aints P op k a k' b).bind (fun r => if flatV r then some r else none) = some r := by
    intro v h1 h2 h3
    rw [h1, Option.bind_some, if_pos h2, h3]
  cases op with
  | quo =>
    obtain ⟨m, n, rfl, rfl, h⟩ := onNN_some h
    obtain ⟨h1, h⟩ := gd_some h
    obtain ⟨rfl, rfl⟩ := sk_some h
    rw [nble, decide_eq_true_eq] at h1
    have hn : ¬ (n : Int) = 0 := by omega
    refine fin (v := .int k (k.wrap ((m : Int).tdiv n))) ?_ rfl ?_
    · simp only [aints, if_true, Op.intDiv, if_neg hn]; rfl
    · rw [wrapF_eq]; rfl
  | rem =>
    obtain ⟨m, n, rfl, rfl, h⟩ := onNN_some h
    obtain ⟨h1, h⟩ := gd_some h
    obtain ⟨rfl, rfl⟩ := sk_some h
    rw [nble, decide_eq_true_eq] at h1
    have hn : ¬ (n : Int) = 0 := by omega
    refine fin (v := .int k ((m : Int).tmod n)) ?_ rfl ?_
    · simp only [aints, if_true, Op.intDiv, if_neg hn]; rfl
    · rfl
  | and =>
    obtain ⟨m, n, rfl, rfl, h⟩ := onNN_some h
    obtain ⟨rfl, rfl⟩ := sk_some h
    refine fin (v := .int k (k.wrap (BitVec.ofInt k.bits (m : Int) &&& BitVec.ofInt k.bits (n : Int)).toNat)) ?_ rfl ?_
    · simp only [aints, if_true, Op.intBits]; rfl
    · rw [wrapF_eq, bits_nat Nat.land (fun w x y => x &&& y) (fun w x y => rfl)]
  | or =>
    obtain ⟨m, n, rfl, rfl, h⟩ := onNN_some h
    obtain ⟨rfl, rfl⟩ := sk_some h
    refine fin (v := .int k (k.wrap (BitVec.ofInt k.bits (m : Int) ||| BitVec.ofInt k.bits (n : Int)).toNat)) ?_ rfl ?_
    · simp only [aints, if_true, Op.intBits]; rfl
    · rw [wrapF_eq, bits_nat Nat.lor (fun w x y => x ||| y) (fun w x y => rfl)]
  | xor =>
    obtain ⟨m, n, rfl, rfl, h⟩ := onNN_some h
    obtain ⟨rfl, rfl⟩ := sk_some h
    refine fin (v := .int k (k.wrap (BitVec.ofInt k.bits (m : Int) ^^^ BitVec.ofInt k.bits (n : Int)).toNat)) ?_ rfl ?_
    · simp only [aints, if_true, Op.intBits]; rfl
    · rw [wrapF_eq, bits_nat Nat.xor (fun w x y => x ^^^ y) (fun w x y => rfl)]
  | shl =>
    obtain ⟨m, n, rfl, rfl, h⟩ := onNN_some h
    injection h with h
    subst h
    have hn : ¬ (n : Int) < 0 := by omega
    refine fin (v := .int k (k.wrap ((m : Int) * 2 ^ min (n : Int).toNat k.bits))) ?_ rfl ?_
    · simp only [aints, Op.shift, if_neg hn]; rfl
    · rw [wrapF_eq, minN_eq, bitK_eq, Int.toNat_natCast]
      have : ((m : Int) * 2 ^ min n k.bits) = Int.ofNat (Nat.mul m (Nat.pow 2 (min n k.bits))) := by
        show _ = ((m * 2 ^ min n k.bits : Nat) : Int)
        simp
      rw [this]
  | shr =>
    obtain ⟨m, n, rfl, rfl, h⟩ := onNN_some h
    injection h with h
    subst h
    have hn : ¬ (n : Int) < 0 := by omega
    refine fin (v := .int k ((m : Int).fdiv (2 ^ min (n : Int).toNat k.bits))) ?_ rfl ?_
    · simp only [aints, Op.shift, if_neg hn]; rfl
    · rw [minN_eq, bitK_eq, Int.toNat_natCast]
      congr 1
      rw [Int.fdiv_eq_ediv_of_nonneg _ (by exact Int.pow_nonneg (by decide))]
      show _ = ((m / 2 ^ min n k.bits : Nat) : Int)
      simp
  | andNot => cases h
  | _ =>
    obtain ⟨rfl, rfl⟩ := sk_some h
    simp only [aints, if_true, Op.intArith, Op.intCmp, pureRun, iEq_eq, iLt_eq, sel_eq, wrapF_eq, Pure.pure, Sem.pure, flatV, flat1, flatC, Option.bind_some, neq_alt, leq_alt, GE.ge, GT.gt]
    first
      | done
      | rfl
/-! ### strings, lists -/
noncomputable def eqB (x : List UInt8) : List UInt8 → Bool := List.rec (motive := fun _ => List UInt8 → Bool) (fun y => List.casesOn (motive := fun _ => Bool) y true (fun _ _ => false)) (fun a _ f y => List.casesOn (motive := fun _ => Bool) y false (fun b l => sel (Nat.beq a.toNat b.toNat) (f l) false)) x
theorem eqB_eq : ∀ x y : List UInt8, eqB x y = (x == y)
  | [], [] => rfl
  | [], _ :: _ => rfl
  | _ :: _, [] => rfl
  | a :: x, b :: y => by
    show sel (Nat.beq a.toNat b.toNat) (eqB x y) false = _
    rw [sel_eq, nbeq, eqB_eq x y, List.cons_beq_cons]
    by_cases h : a = b
    · subst h; simp
    · rw [if_neg (by simpa using fun e => h (UInt8.toNat_inj.1 e))]
      rw [show (a == b) = false by simpa using h]; rfl
noncomputable def app {α : Type} (x y : List α) : List α := List.rec (motive := fun _ => List α) y (fun a _ r => a :: r) x
theorem app_eq {α : Type} (x y : List α) : app x y = x ++ y := by
  induction x with
  | nil => rfl
  | cons a x ih => show a :: app x y = _; rw [ih]; rfl
noncomputable def llen {α : Type} (x : List α) : Nat := List.rec (motive := fun _ => Nat) 0 (fun _ _ r => Nat.succ r) x
theorem llen_eq {α : Type} (x : List α) : llen x = x.length := by
  induction x with
  | nil => rfl
  | cons a x ih => show Nat.succ (llen x) = _; rw [ih]; rfl
noncomputable def ldrop {α : Type} (n : Nat) : List α → List α := Nat.rec (motive := fun _ => List α → List α) (fun l => l) (fun _ f l => List.casesOn (motive := fun _ => List α) l [] (fun _ l => f l)) n
theorem ldrop_eq {α : Type} : ∀ (n : Nat) (l : List α), ldrop n l = l.drop n
  | 0, l => rfl
  | n + 1, [] => by show ([] : List α) = _; simp
  | n + 1, a :: l => by show ldrop n l = _; rw [ldrop_eq n l]; rfl
noncomputable def ltake {α : Type} (n : Nat) : List α → List α := Nat.rec (motive := fun _ => List α → List α) (fun _ => []) (fun _ f l => List.casesOn (motive := fun _ => List α) l [] (fun a l => a :: f l)) n
theorem ltake_eq {α : Type} : ∀ (n : Nat) (l : List α), ltake n l = l.take n
  | 0, l => by show ([] : List α) = _; simp
  | n + 1, [] => by show ([] : List α) = _; simp
  | n + 1, a :: l => by show a :: ltake n l = _; rw [ltake_eq n l]; rfl
noncomputable def lhead {α : Type} (l : List α) : Option α := List.casesOn (motive := fun _ => Option α) l none (fun a _ => some a)
theorem lhead_eq {α : Type} (n : Nat) (l : List α) : lhead (ldrop n l) = l[n]? := by
  rw [ldrop_eq]
  cases h : l.drop n with
  | nil =>
    have := List.drop_eq_nil_iff.1 h
    exact (List.getElem?_eq_none this).symm
  | cons a r =>
    show some a = _
    have : (l.drop n)[0]? = some a := by rw [h]; rfl
    rw [List.getElem?_drop] at this
    exact this.symm
/-- n elements, none fewer -/
noncomputable def ltakeE {α : Type} (n : Nat) : List α → Option (List α) := Nat.rec (motive := fun _ => List α → Option (List α)) (fun _ => some []) (fun _ f l => List.casesOn (motive := fun _ => Option (List α)) l none (fun a l => ob (f l) fun r => some (a :: r))) n
theorem ltakeE_agets {h : Tr AObj} {b : Nat} {o : AObj} (ho : h.get b = some o) : ∀ (n j : Nat) (vs : List Value), ltakeE n (o.cells.drop j) = some vs → agets h b j n = some vs
  | 0, j, vs, e => e
  | n + 1, j, vs, e => by
    cases hd : o.cells.drop j with
    | nil => rw [hd] at e; cases e
    | cons a r =>
      rw [hd] at e
      obtain ⟨q, h1, h2⟩ := ob_some (show ob (ltakeE n r) (fun r => some (a :: r)) = some vs from e)
      have hr : r = o.cells.drop (j + 1) := by
        have := congrArg List.tail hd
        rw [List.tail_drop] at this
        exact this.symm
      have ha : o.cells[j]? = some a := by
        have := lhead_eq j o.cells
        rw [ldrop_eq, hd] at this
        exact this.symm
      rw [hr] at h1
      unfold agets aget
      rw [ho, ltakeE_agets ho n (j + 1) q h1]
      simp only [Option.bind_some, ha]
      exact h2
end
end Go.Proofs.YtcccapeaeehjiaaGreatDoor.AM
