/- A machine of one's own over numbered blocks (no capacities, no orders, no tape): its values and memory, and how they stand to the model's. -/
import Derived.Tactics
import Derived.Orders
import Derived.Below
import Derived.Laws.IdiomCopy
import Derived.Laws.CopyRow
import Derived.KernelRfl
namespace Go.Proofs.YtcccapeaeehjiaaGreatDoor.AM
noncomputable section
open Go Go.RowKit
set_option linter.unusedVariables false
set_option linter.unusedSimpArgs false
/-! ### a map by numbers -/
inductive Tr (α : Type) where
  | leaf
  | node (v : Option α) (a b c d : Tr α)
inductive D4 where
  | a | b | c | d
  deriving DecidableEq
/-- The way to a number's place. These are said over the recursors themselves: the kernel turns them fast. -/
noncomputable def digit (n : Nat) : D4 := Nat.rec (motive := fun _ => D4) .a (fun n _ => Nat.rec (motive := fun _ => D4) .b (fun n _ => Nat.rec (motive := fun _ => D4) .c (fun _ _ => .d) n) n) n
noncomputable def wayF (f : Nat) : Nat → List D4 := Nat.rec (motive := fun _ => Nat → List D4) (fun _ => []) (fun _ w n => Nat.rec (motive := fun _ => List D4) [] (fun k _ => digit (Nat.mod k 4) :: w (Nat.div k 4)) n) f
noncomputable def way (n : Nat) : List D4 := wayF (Nat.succ n) n
def D4.val : D4 → Nat
  | .a => 0 | .b => 1 | .c => 2 | .d => 3
def wayVal : List D4 → Nat
  | [] => 0
  | x :: l => 4 * wayVal l + x.val + 1
theorem wayVal_wayF : ∀ (f n : Nat), n < f → wayVal (wayF f n) = n
  | 0, n, h => by omega
  | f + 1, 0, h => rfl
  | f + 1, k + 1, h => by
    show 4 * wayVal (wayF f (k / 4)) + (digit (k % 4)).val + 1 = k + 1
    rw [wayVal_wayF f (k / 4) (by omega)]
    have : (digit (k % 4)).val = k % 4 := by
      have h4 : k % 4 < 4 := Nat.mod_lt _ (by decide)
      generalize k % 4 = r at h4
      match r, h4 with
      | 0, _ => rfl
      | 1, _ => rfl
      | 2, _ => rfl
      | 3, _ => rfl
    rw [this]; omega
theorem way_inj {m n : Nat} (h : way m = way n) : m = n := by
  rw [← wayVal_wayF (m + 1) m (Nat.lt_succ_self _), ← wayVal_wayF (n + 1) n (Nat.lt_succ_self _)]
  exact congrArg wayVal h
namespace Tr
variable {α : Type}
noncomputable def getP (t : Tr α) : List D4 → Option α :=
  Tr.rec (motive := fun _ => List D4 → Option α) (fun _ => none) (fun v _ _ _ _ ga gb gc gd p => List.rec (motive := fun _ => Option α) v (fun x q _ => D4.rec (motive := fun _ => Option α) (ga q) (gb q) (gc q) (gd q) x) p) t
noncomputable def mkP (v : Option α) (p : List D4) : Tr α :=
  List.rec (motive := fun _ => Tr α) (node v leaf leaf leaf leaf) (fun x _ r => D4.rec (motive := fun _ => Tr α) (node none r leaf leaf leaf) (node none leaf r leaf leaf) (node none leaf leaf r leaf) (node none leaf leaf leaf r) x) p
noncomputable def setP (v : Option α) (t : Tr α) : List D4 → Tr α :=
  Tr.rec (motive := fun _ => List D4 → Tr α) (fun p => mkP v p) (fun v0 a b c d sa sb sc sd p => List.rec (motive := fun _ => Tr α) (node v a b c d) (fun x q _ => D4.rec (motive := fun _ => Tr α) (node v0 (sa q) b c d) (node v0 a (sb q) c d) (node v0 a b (sc q) d) (node v0 a b c (sd q)) x) p) t
def getI : Tr α → Nat → Option α
  | leaf, _ => none
  | node v a b c d, n => match n with
    | 0 => v
    | k + 1 => match k % 4 with
      | 0 => getI a (k / 4)
      | 1 => getI b (k / 4)
      | 2 => getI c (k / 4)
      | _ => getI d (k / 4)
def mkI (v : Option α) : Nat → Nat → Tr α
  | 0, _ => leaf
  | f + 1, n => match n with
    | 0 => node v leaf leaf leaf leaf
    | k + 1 => match k % 4 with
      | 0 => node none (mkI v f (k / 4)) leaf leaf leaf
      | 1 => node none leaf (mkI v f (k / 4)) leaf leaf
      | 2 => node none leaf leaf (mkI v f (k / 4)) leaf
      | _ => node none leaf leaf leaf (mkI v f (k / 4))
def setI (v : Option α) : Tr α → Nat → Tr α
  | leaf, n => mkI v (n + 1) n
  | node v0 a b c d, n => match n with
    | 0 => node v a b c d
    | k + 1 => match k % 4 with
      | 0 => node v0 (setI v a (k / 4)) b c d
      | 1 => node v0 a (setI v b (k / 4)) c d
      | 2 => node v0 a b (setI v c (k / 4)) d
      | _ => node v0 a b c (setI v d (k / 4))
def setJ (t : Tr α) (n : Nat) (v : Option α) : Tr α := setI v t n
noncomputable def get (t : Tr α) (n : Nat) : Option α := getP t (way n)
noncomputable def set (t : Tr α) (n : Nat) (v : Option α) : Tr α := setP v t (way n)
theorem getP_leaf (p : List D4) : getP (leaf : Tr α) p = none := rfl
theorem get_leaf (n : Nat) : (leaf : Tr α).get n = none := rfl
theorem getP_mkP (v : Option α) : ∀ p q : List D4, getP (mkP v p) q = if q = p then v else none
  | [], [] => rfl
  | [], x :: q => by cases x <;> rfl
  | x :: p, [] => by cases x <;> rfl
  | x :: p, y :: q => by
    have ih := getP_mkP v p q
    by_cases h : q = p
    · subst h
      rw [if_pos rfl] at ih
      by_cases hx : y = x
      · subst hx
        rw [if_pos rfl]
        cases y <;> exact ih
      · rw [if_neg (by simp [hx])]
        cases x <;> cases y <;> first | rfl | exact absurd rfl hx
    · rw [if_neg h] at ih
      rw [if_neg (by simp [h])]
      cases x <;> cases y <;> first | rfl | exact ih
theorem getP_setP (v : Option α) (t : Tr α) : ∀ p q : List D4, getP (setP v t p) q = if q = p then v else getP t q := by
  induction t with
  | leaf => intro p q; exact getP_mkP v p q
  | node v0 a b c d iha ihb ihc ihd =>
    intro p q
    cases p with
    | nil => cases q with
      | nil => rfl
      | cons y q => cases y <;> rfl
    | cons x p => cases q with
      | nil => cases x <;> rfl
      | cons y q =>
        by_cases hx : y = x
        · subst hx
          by_cases h : q = p
          · subst h
            rw [if_pos rfl]
            cases y
            · exact (iha q q).trans (if_pos rfl)
            · exact (ihb q q).trans (if_pos rfl)
            · exact (ihc q q).trans (if_pos rfl)
            · exact (ihd q q).trans (if_pos rfl)
          · rw [if_neg (by simp [h])]
            cases y
            · exact (iha p q).trans (if_neg h)
            · exact (ihb p q).trans (if_neg h)
            · exact (ihc p q).trans (if_neg h)
            · exact (ihd p q).trans (if_neg h)
        · rw [if_neg (by simp [hx])]
          cases x <;> cases y <;> first | rfl | exact absurd rfl hx
theorem get_set (t : Tr α) (n m : Nat) (v : Option α) : (t.set n v).get m = if m = n then v else t.get m := by
  unfold get set
  rw [getP_setP]
  by_cases h : m = n
  · subst h; rw [if_pos rfl, if_pos rfl]
  · rw [if_neg h, if_neg (fun e => h (way_inj e))]
theorem get_set_self (t : Tr α) (n : Nat) (v : Option α) : (t.set n v).get n = v := by rw [get_set, if_pos rfl]
theorem get_set_ne (t : Tr α) {n m : Nat} (v : Option α) (h : m ≠ n) : (t.set n v).get m = t.get m := by rw [get_set, if_neg h]
end Tr
/-! ### values -/
/-- Where the blocks lie, how many cells they have, how large an element is; n: how many numbers are given. -/
structure M where
  dom : Nat → Prop
  loc : Nat → Addr
  sz : Nat → Nat
  es : Nat → Nat
  /-- what the tokens stand for -/
  wv : Nat → IntKind × Int
structure Ext (m m' : M) : Prop where
  dom : ∀ i, m.dom i → m'.dom i
  loc : ∀ i, m.dom i → m'.loc i = m.loc i
  sz : ∀ i, m.dom i → m'.sz i = m.sz i
  es : ∀ i, m.dom i → m'.es i = m.es i
  wv : m'.wv = m.wv
theorem Ext.refl (m : M) : Ext m m := ⟨fun _ h => h, fun _ _ => rfl, fun _ _ => rfl, fun _ _ => rfl, rfl⟩
theorem Ext.trans {a b c : M} (h : Ext a b) (k : Ext b c) : Ext a c :=
  ⟨fun i hi => k.dom i (h.dom i hi), fun i hi => (k.loc i (h.dom i hi)).trans (h.loc i hi), fun i hi => (k.sz i (h.dom i hi)).trans (h.sz i hi), fun i hi => (k.es i (h.dom i hi)).trans (h.es i hi), k.wv.trans h.wv⟩
def mv (m : M) (a : Addr) : Addr := ⟨(m.loc a.block).block, (m.loc a.block).off + a.off, none⟩
theorem mv_ext {m m' : M} (h : Ext m m') {a : Addr} (ha : m.dom a.block) : mv m' a = mv m a := by
  unfold mv
  rw [h.loc _ ha]
def flatC : Value → Bool
  | .bool _ | .int _ _ | .float _ _ | .complex _ _ _ | .string _ | .pointer none | .slice none _ _ | .nilFunc | .nilIface => true
  | .func (.func _) a b => a.isEmpty && b.isEmpty
  | _ => false
/-- One array and another, place by place. -/
def A2 (R : Value → Value → Prop) (xs ys : Array Value) : Prop := xs.size = ys.size ∧ ∀ (i : Nat) (x : Value), xs[i]? = some x → ∃ y, ys[i]? = some y ∧ R x y
theorem A2.imp {R S : Value → Value → Prop} {xs ys : Array Value} (h : A2 R xs ys) (k : ∀ x y, R x y → S x y) : A2 S xs ys :=
  ⟨h.1, fun i x hx => let ⟨y, hy, hr⟩ := h.2 i x hx; ⟨y, hy, k _ _ hr⟩⟩
inductive CR (m : M) : Value → Value → Prop where
  | flat {v : Value} (h : flatC v = true) : CR m v v
  | ptr (a : Addr) (hb : m.dom a.block) : CR m (.pointer (some a)) (.pointer (some (mv m a)))
  | slc (a : Addr) (n c : Nat) (hb : m.dom a.block) (hc : n ≤ c) (hs : a.off + c * m.es a.block ≤ m.sz a.block) (hm : c ≤ 9223372036854775807) : CR m (.slice (some a) n 1) (.slice (some (mv m a)) n c)
  | emp (a b : Addr) (c : Nat) : CR m (.slice (some a) 0 0) (.slice (some b) 0 c)
  | tok (k : Nat) : CR m (.chan (some k)) (.int (m.wv k).1 (m.wv k).2)
  | junk (v' : Value) (h : v'.oneCell' = true) : CR m (.chan none) v'
  | fn (f : FuncId) (cs cs' : Array Value) (hs : cs.size = cs'.size) (h : ∀ (i : Nat) (x : Value), cs[i]? = some x → ∃ a, x = .pointer (some a) ∧ m.dom a.block ∧ cs'[i]? = some (.pointer (some (mv m a)))) : CR m (.func (.func f) #[] cs) (.func (.func f) #[] cs')
theorem CR.ext {m m' : M} (h : Ext m m') {v v' : Value} (c : CR m v v') : CR m' v v' := by
  cases c with
  | flat h1 => exact .flat h1
  | ptr a hb => rw [← mv_ext h hb]; exact .ptr a (h.dom _ hb)
  | slc a n c hb hc hs hm => rw [← mv_ext h hb]; exact .slc a n c (h.dom _ hb) hc (by rw [h.es _ hb, h.sz _ hb]; exact hs) hm
  | emp a b c => exact .emp a b c
  | tok k => rw [← h.wv]; exact .tok k
  | junk v' hv => exact .junk v' hv
  | fn f cs cs' hs hh => exact .fn f cs cs' hs (fun i x hx => by
      obtain ⟨a, h1, h2, h3⟩ := hh i x hx
      exact ⟨a, h1, h.dom _ h2, by rw [mv_ext h h2]; exact h3⟩)
theorem CR.one {m : M} {v v' : Value} (c : CR m v v') : v.oneCell' = true ∧ v'.oneCell' = true := by
  cases c with
  | flat h1 => cases v <;> first | exact ⟨rfl, rfl⟩ | (simp [flatC] at h1)
  | ptr => exact ⟨rfl, rfl⟩
  | slc => exact ⟨rfl, rfl⟩
  | emp => exact ⟨rfl, rfl⟩
  | tok => exact ⟨rfl, rfl⟩
  | junk _ hv => exact ⟨rfl, hv⟩
  | fn => exact ⟨rfl, rfl⟩
inductive VR1 (m : M) : Value → Value → Prop where
  | c {v v' : Value} (h : CR m v v') : VR1 m v v'
  | agg {cs cs' : Array Value} (h : A2 (CR m) cs cs') : VR1 m (.agg cs) (.agg cs')
inductive VR (m : M) : Value → Value → Prop where
  | one {v v' : Value} (h : VR1 m v v') : VR m v v'
  | tup {vs vs' : Array Value} (h : A2 (VR1 m) vs vs') : VR m (.tuple vs) (.tuple vs')
theorem VR1.ext {m m' : M} (h : Ext m m') {v v' : Value} (c : VR1 m v v') : VR1 m' v v' := by
  cases c with
  | c k => exact .c (k.ext h)
  | agg k => exact .agg (k.imp fun _ _ r => r.ext h)
theorem VR.ext {m m' : M} (h : Ext m m') {v v' : Value} (c : VR m v v') : VR m' v v' := by
  cases c with
  | one k => exact .one (k.ext h)
  | tup k => exact .tup (k.imp fun _ _ r => r.ext h)
theorem VR.undef (m : M) : VR m undef undef := .tup ⟨rfl, fun i x h => by simp at h⟩
theorem VR.cell {m : M} {v v' : Value} (h : CR m v v') : VR m v v' := .one (.c h)
theorem VR.flat {m : M} {v : Value} (h : flatC v = true) : VR m v v := .cell (.flat h)
theorem VR.inv_int {m : M} {k : IntKind} {n : Int} {v' : Value} (h : VR m (.int k n) v') : v' = .int k n := by
  cases h with
  | one h => cases h with
    | c h => cases h with
      | flat => rfl
theorem VR.inv_bool {m : M} {b : Bool} {v' : Value} (h : VR m (.bool b) v') : v' = .bool b := by
  cases h with
  | one h => cases h with
    | c h => cases h with
      | flat => rfl
theorem VR.inv_str {m : M} {b : ByteArray} {v' : Value} (h : VR m (.string b) v') : v' = .string b := by
  cases h with
  | one h => cases h with
    | c h => cases h with
      | flat => rfl
theorem VR.inv_flat {m : M} {v v' : Value} (hf : flatC v = true) (h : VR m v v') : v' = v := by
  cases h with
  | one h => cases h with
    | c h => cases h with
      | flat => rfl
      | ptr => simp [flatC] at hf
      | slc => simp [flatC] at hf
      | emp => simp [flatC] at hf
      | tok => simp [flatC] at hf
      | junk => simp [flatC] at hf
      | fn f cs cs' hs hh =>
        simp only [flatC, Bool.and_eq_true, Array.isEmpty_iff] at hf
        have h0 : cs = #[] := hf.2
        subst h0
        have : cs' = #[] := Array.eq_empty_of_size_eq_zero hs.symm
        rw [this]
    | agg => simp [flatC] at hf
  | tup => simp [flatC] at hf
theorem VR.inv_ptr {m : M} {a : Addr} {v' : Value} (h : VR m (.pointer (some a)) v') : m.dom a.block ∧ v' = .pointer (some (mv m a)) := by
  cases h with
  | one h => cases h with
    | c h => cases h with
      | flat h => simp [flatC] at h
      | ptr _ hb => exact ⟨hb, rfl⟩
theorem VR.inv_agg {m : M} {cs : Array Value} {v' : Value} (h : VR m (.agg cs) v') : ∃ cs', v' = .agg cs' ∧ A2 (CR m) cs cs' := by
  cases h with
  | one h => cases h with
    | c h => cases h with
      | flat h => simp [flatC] at h
    | agg h => exact ⟨_, rfl, h⟩
/-! ### memory -/
structure AObj where
  cells : List Value
  elem : Nat
  own : Bool
  es : Nat
/-- Blocks of F are as they were; the streams are as they were; no block has gone. -/
structure Keep (F : Nat → Prop) (w w' : World) : Prop where
  os : w'.os = w.os
  tape : w'.tape = w.tape
  output : w'.output = w.output
  size : w.heap.size ≤ w'.heap.size
  block : ∀ k, F k → w'.heap[k]? = w.heap[k]?
theorem Keep.refl (F : Nat → Prop) (w : World) : Keep F w w := ⟨rfl, rfl, rfl, Nat.le_refl _, fun _ _ => rfl⟩
theorem Keep.trans {F : Nat → Prop} {a b c : World} (h : Keep F a b) (k : Keep F b c) : Keep F a c :=
  ⟨k.os.trans h.os, k.tape.trans h.tape, k.output.trans h.output, Nat.le_trans h.size k.size, fun i hi => (k.block i hi).trans (h.block i hi)⟩
theorem Keep.mono {F G : Nat → Prop} {w w' : World} (h : Keep F w w') (hG : ∀ k, G k → F k) : Keep G w w' := ⟨h.os, h.tape, h.output, h.size, fun k hk => h.block k (hG k hk)⟩
theorem Keep.drew {F : Nat → Prop} {a w : World} (h : Keep F a w) : Keep F a w.drew := ⟨h.os, h.tape, h.output, h.size, h.block⟩
theorem Keep.alloc {F : Nat → Prop} {a w : World} (h : Keep F a w) (hB : ∀ k, F k → k < w.heap.size) (o : Obj) : Keep F a (w.alloc o) :=
  h.trans ⟨rfl, rfl, rfl, by simp, fun k hk => Below.heap_alloc _ _ _ (hB k hk)⟩
theorem Keep.setCell {F : Nat → Prop} {a w : World} (h : Keep F a w) {p : Addr} (hp : ¬ F p.block) (u : Value) : Keep F a (w.setCell p u) :=
  h.trans ⟨rfl, rfl, rfl, by simp [World.setCell], fun k hk => Below.heap_setCell _ _ _ _ (fun e => hp (e ▸ hk))⟩
/-- The mark of a block that is a string's iterator; how its place is written down. -/
def ITER : Nat := 1000000007
def scode : List UInt8 → Nat
  | [] => 1
  | b :: l => b.toNat + 256 * scode l
def icode (s : ByteArray) (pos : Nat) : Nat := pos + 16777216 * scode s.data.toList
def HoldsO (w : World) (g : Nat) (o : AObj) (cur : Array Value) (fr : Nat × Nat) : Prop :=
  (o.es ≠ ITER ∧ w.heap[g]? = some (.cells cur o.elem fr)) ∨ (o.es = ITER ∧ o.cells = [] ∧ ∃ s pos, w.heap[g]? = some (.stringIter s pos) ∧ pos < 16777216 ∧ o.elem = icode s pos)
theorem HoldsO.row {w : World} {g : Nat} {o : AObj} {cur : Array Value} {fr : Nat × Nat} (h : HoldsO w g o cur fr) (hes : o.es ≠ ITER) : w.heap[g]? = some (.cells cur o.elem fr) := by
  rcases h with h | h
  · exact h.2
  · exact absurd h.1 hes
theorem HoldsO.row' {w : World} {g : Nat} {o : AObj} {cur : Array Value} {fr : Nat × Nat} (h : HoldsO w g o cur fr) (hc : o.cells ≠ []) : w.heap[g]? = some (.cells cur o.elem fr) := by
  rcases h with h | h
  · exact h.2
  · exact absurd h.2.1 hc
theorem HoldsO.ne {w : World} {g : Nat} {o : AObj} {cur : Array Value} {fr : Nat × Nat} (h : HoldsO w g o cur fr) (hc : o.cells ≠ []) : o.es ≠ ITER := by
  rcases h with h | h
  · exact h.1
  · exact absurd h.2.1 hc
theorem HoldsO.congr {w w' : World} {g : Nat} {o : AObj} {cur : Array Value} {fr : Nat × Nat} (h : HoldsO w g o cur fr) (hh : w'.heap[g]? = w.heap[g]?) : HoldsO w' g o cur fr := by
  unfold HoldsO at h ⊢
  rw [hh]; exact h
theorem HoldsO.lt {w : World} {g : Nat} {o : AObj} {cur : Array Value} {fr : Nat × Nat} (h : HoldsO w g o cur fr) : g < w.heap.size := by
  rcases h with h | ⟨_, _, s, p, h, _⟩
  · exact (Array.getElem?_eq_some_iff.1 h.2).1
  · exact (Array.getElem?_eq_some_iff.1 h).1
theorem ne_nil_of_get {α : Type} {l : List α} {j : Nat} {v : α} (h : l[j]? = some v) : l ≠ [] := by
  intro e; rw [e] at h; simp at h
structure RelF (F : Nat → Prop) (w0 : World) (m : M) (h : Nat → Option AObj) (w : World) : Prop where
  below : Keep F w0 w
  base_le : ∀ k, F k → k < w.heap.size
  lt : ∀ i o, h i = some o → m.dom i
  es : ∀ i o, h i = some o → m.es i = o.es
  own : ∀ (i : Nat) (o : AObj), h i = some o → o.own = true → ∃ (g : Nat) (cur : Array Value) (fr : Nat × Nat), m.loc i = ⟨g, 0, none⟩ ∧ ¬ F g ∧ HoldsO w g o cur fr ∧ (fr.1 = fr.2 ∨ (cur.size ≤ fr.1 ∧ o.es = 1)) ∧ cur.size = m.sz i ∧ (o.cells.length ≤ cur.size ∧ (o.es = 0 → o.cells.length = cur.size)) ∧ ∀ (j : Nat) (v : Value), o.cells[j]? = some v → ∃ v', cur[j]? = some v' ∧ CR m v v'
  ro : ∀ (i : Nat) (o : AObj), h i = some o → o.own = false → F (m.loc i).block ∧ ∀ (j : Nat) (v : Value), o.cells[j]? = some v → ∃ v', w.cell? (mv m ⟨i, j, none⟩) = some v' ∧ CR m v v'
  apart : ∀ i k oi ok, h i = some oi → h k = some ok → oi.own = true → ok.own = true → i ≠ k → (m.loc i).block ≠ (m.loc k).block
abbrev Rel (F : Nat → Prop) (w0 : World) (m : M) (h : Tr AObj) (w : World) : Prop := RelF F w0 m h.get w
def aget (h : Tr AObj) (b j : Nat) : Option Value := (h.get b).bind fun o => o.cells[j]?
theorem aget_sound {F : Nat → Prop} {w0 w : World} {m : M} {h : Tr AObj} (R : Rel F w0 m h w) {a : Addr} {v : Value} (hv : aget h a.block a.off = some v) : ∃ v', w.cell? (mv m a) = some v' ∧ CR m v v' := by
  unfold aget at hv
  obtain ⟨o, ho, hc⟩ := Option.bind_eq_some_iff.1 hv
  cases hown : o.own with
  | true =>
    obtain ⟨g, cur, fr, h1, h2, h3, h4, h5, h6, h7⟩ := R.own _ o ho hown
    obtain ⟨v', hv', hr⟩ := h7 a.off v hc
    replace h3 := h3.row' (ne_nil_of_get hc)
    refine ⟨v', ?_, hr⟩
    unfold mv World.cell?
    rw [h1]
    simp only [Nat.zero_add]
    rw [h3]
    simpa using hv'
  | false =>
    obtain ⟨h1, h2⟩ := R.ro _ o ho hown
    exact h2 a.off v hc
def agets (h : Tr AObj) (b : Nat) : Nat → Nat → Option (List Value)
  | _, 0 => some []
  | j, n + 1 => (aget h b j).bind fun v => (agets h b (j + 1) n).bind fun vs => some (v :: vs)
theorem agets_len {h : Tr AObj} {b : Nat} : ∀ {n j : Nat} {vs : List Value}, agets h b j n = some vs → vs.length = n
  | 0, j, vs, e => by unfold agets at e; injection e with e; rw [← e]; rfl
  | n + 1, j, vs, e => by
    unfold agets at e
    obtain ⟨v, _, e⟩ := Option.bind_eq_some_iff.1 e
    obtain ⟨vs', h2, e⟩ := Option.bind_eq_some_iff.1 e
    injection e with e
    rw [← e, List.length_cons, agets_len h2]
theorem agets_get {h : Tr AObj} {b : Nat} : ∀ {n j : Nat} {vs : List Value}, agets h b j n = some vs → ∀ i v, vs[i]? = some v → aget h b (j + i) = some v
  | 0, j, vs, e, i, v, hv => by unfold agets at e; injection e with e; rw [← e] at hv; simp at hv
  | n + 1, j, vs, e, i, v, hv => by
    unfold agets at e
    obtain ⟨x, hx, e⟩ := Option.bind_eq_some_iff.1 e
    obtain ⟨vs', h2, e⟩ := Option.bind_eq_some_iff.1 e
    injection e with e
    rw [← e] at hv
    cases i with
    | zero =>
      simp only [List.getElem?_cons_zero, Option.some.injEq] at hv
      rw [← hv]; exact hx
    | succ i =>
      simp only [List.getElem?_cons_succ] at hv
      have := agets_get h2 i v hv
      rw [Nat.add_comm i 1, ← Nat.add_assoc]
      exact this
theorem mv_add (m : M) (a : Addr) (ha : a.spot = none) (j : Nat) : (mv m a).add j = mv m ⟨a.block, a.off + j, none⟩ := by
  unfold Addr.add mv
  by_cases hj : j = 0
  · subst hj; simp
  · rw [if_neg hj]; simp [Nat.add_assoc]
theorem mv_add' (m : M) (a : Addr) (j : Nat) : (mv m a).add j = ⟨(m.loc a.block).block, (m.loc a.block).off + (a.off + j), none⟩ := by
  unfold Addr.add mv
  by_cases hj : j = 0
  · subst hj; simp
  · rw [if_neg hj]; simp [Nat.add_assoc]
/-- Cells one behind the other: what the model reads there. -/
theorem agets_sound {F : Nat → Prop} {w0 w : World} {m : M} {h : Tr AObj} (R : Rel F w0 m h w) {a : Addr} {n : Nat} {vs : List Value} (hv : agets h a.block a.off n = some vs) :
    ∃ vs' : List Value, vs'.length = n ∧ (∀ (j : Nat) (v : Value), vs'[j]? = some v → w.cell? ((mv m a).add j) = some v) ∧ ∀ (j : Nat) (v : Value), vs[j]? = some v → ∃ v', vs'[j]? = some v' ∧ CR m v v' := by
  have hl := agets_len hv
  have hg := agets_get hv
  have hex : ∀ j : Nat, j < n → ∃ v', w.cell? ((mv m a).add j) = some v' ∧ ∀ v, vs[j]? = some v → CR m v v' := by
    intro j hj
    have hj' : vs[j]? = some vs[j] := List.getElem?_eq_getElem (by omega)
    obtain ⟨v', h1, h2⟩ := aget_sound (a := ⟨a.block, a.off + j, none⟩) R (hg j _ hj')
    refine ⟨v', ?_, fun v hv => ?_⟩
    · rw [mv_add']; exact h1
    · rw [hj'] at hv; injection hv with hv; rw [← hv]; exact h2
  refine ⟨(List.range n).map fun j => (w.cell? ((mv m a).add j)).getD undef, by simp, fun j v hjv => ?_, fun j v hjv => ?_⟩
  · rw [List.getElem?_map] at hjv
    obtain ⟨i, hi, hv⟩ := Option.map_eq_some_iff.1 hjv
    obtain ⟨hlt, he⟩ := List.getElem?_eq_some_iff.1 hi
    simp only [List.length_range] at hlt
    simp only [List.getElem_range] at he
    subst he
    obtain ⟨v', h1, _⟩ := hex j hlt
    rw [h1] at hv ⊢
    simp only [Option.getD_some] at hv
    rw [hv]
  · have hlt : j < n := by have := (List.getElem?_eq_some_iff.1 hjv).1; omega
    obtain ⟨v', h1, h2⟩ := hex j hlt
    refine ⟨v', ?_, h2 v hjv⟩
    rw [List.getElem?_map, List.getElem?_range hlt]
    simp [h1]
end
end Go.Proofs.YtcccapeaeehjiaaGreatDoor.AM
