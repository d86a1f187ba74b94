/- Short words for what printed walks say over and over: each is a plain fact whose last premise is shown by the same few steps wherever it is used. -/
import Derived.Test.YtcgchblljhbdaaaDoorXW
namespace Go.Proofs.YtcgchblljhbdaaaDoor
open Go.RowKit Go.Proofs.YtcgchblljhbdaaaDoorW.PrintWords Go.Proofs.YtcgchblljhbdaaaDoorW.PrintMore
-- a fact of one world, in the world behind draws and new blocks
theorem fB {P Q : Prop} (h : Q) (k : Q → P := by intro hk_; (with_reducible repeat (first | refine blk_drewN ?_ _ | refine blk_drew ?_ | refine blk_alloc ?_ _)); exact hk_) : P := k h
theorem fR {P Q : Prop} (h : Q) (k : Q → P := by intro hk_; (with_reducible repeat (first | apply Kd.R_alloc | apply Kd.R_drewN | apply Kd.R_drew)); exact hk_) : P := k h
theorem fN {P Q : Prop} (h : Q) (k : Q → P := by intro hk_; (with_reducible repeat (first | apply Kd.N_alloc | apply Kd.N_drewN | apply Kd.N_drew)); exact hk_) : P := k h
theorem fS {P Q : Prop} (h : Q) (k : Q → P := by intro hk_; (with_reducible repeat (first | apply Kd.S_alloc | apply Kd.S_drewN | apply Kd.S_drew)); exact hk_) : P := k h
theorem fV {P Q : Prop} (h : Q) (k : Q → P := by intro hk_; (with_reducible repeat (first | apply Kd.V_alloc | apply Kd.V_drewN | apply Kd.V_drew)); exact hk_) : P := k h
theorem fW {P Q : Prop} (h : Q) (k : Q → P := by intro hk_; repeat (first | (with_reducible first | exact hk_ | apply below_alloc | apply pw_below_drewN | apply below_drew1 | refine below_set ?_ (Aside0.out (by assumption))) | exact hk_)) : P := k h
theorem fC {P Q : Prop} (h : Q) (k : Q → P := by intro hk_; repeat (first | exact hk_ | (with_reducible refine Kd.C_alloc ?_ _) | (with_reducible refine Kd.C_drewN ?_ _) | (with_reducible refine Kd.C_drew ?_))) : P := k h
-- known tests
theorem oD {P : Prop} [Decidable P] (h : decide P = true := by first | (with_reducible assumption) | assumption) : P := of_decide_eq_true h
theorem oM {P : Prop} (h : P := by first | omega | exact of_decide_eq_true (by first | (with_reducible assumption) | assumption)) : P := h
theorem oR {P : Prop} (h : P := by first | rfl | (simp only [i64_w]; done) | (simp; done) | (simp [*]; done)) : P := h
theorem oE {P : Prop} (h : P := by first | rfl | (simp [errW_none, errW_some] <;> rfl) | (simp [*, errW_none, errW_some] <;> rfl)) : P := h
theorem oA {P : Prop} (h : P := by (try simp only [List.map_toArray, List.map_cons, List.map_nil]); first | done | rfl | (simp only [List.length_drop, List.length_take]; rfl)) : P := h
-- what is left of a way
theorem eT {α : Type} {a : Option α} {r : α} {c : Prop} [Decidable c] (h : (if c then a else none) = some r) : c ∧ a = some r := by
  by_cases hc : c
  · rw [if_pos hc] at h; exact ⟨hc, h⟩
  · rw [if_neg hc] at h; cases h
theorem iT {α : Type} {a b r : α} {c : Prop} [Decidable c] (h : (if c then a else b) = r) (k : c := by rfl) : a = r := by rwa [if_pos k] at h
theorem iF {α : Type} {a b r : α} {c : Prop} [Decidable c] (h : (if c then a else b) = r) (k : ¬ c := by decide) : b = r := by rwa [if_neg k] at h
theorem bS {α β : Type} {o : Option α} {f : α → Option β} {r : β} (h : o.bind f = some r) : ∃ a, o = some a ∧ f a = some r := Option.bind_eq_some_iff.mp h
theorem qT {a b : Int} (h : a = b) : (a == b) = true := beq_iff_eq.mpr h
theorem qL {a b : List UInt8} (h : a = b) : (a == b) = true := beq_iff_eq.mpr h
theorem nL {a b : List UInt8} (h : a = b) : (a != b) = false := bne_eq_false_iff_eq.mpr h
theorem nF {a b : Int} (h : a = b) : (a != b) = false := bne_eq_false_iff_eq.mpr h
-- an element read
theorem aI {k : IntKind} {w W : World} {A : Option Addr} {xs : List Int} (hb : Aside0 (Below w.heap.size w W)) (h : Aside0 (Kd.C (Kd.int k) w A xs.length xs)) (i : Int) (p : 0 ≤ i := by exact oD) (q : i < (xs.length : Int) := by exact oD) :
    ∃ ad, A = some ad ∧ W.cell? (ad.add i.toNat) = some (.int k (rd xs i)) ∧ (0 ≤ i) = True ∧ (i < (xs.length : Int)) = True := by
  obtain ⟨ad, e, hx⟩ := Kd.at_int h.out i p q
  exact ⟨ad, e, (hb.out.cell (World.block_lt_of_cell? w _ hx)).trans hx, eq_true p, eq_true q⟩
theorem aJ {k : IntKind} {w W : World} {ad : Addr} {xs : List Int} (hb : Aside0 (Below w.heap.size w W)) (h : Aside0 (Kd.C (Kd.int k) w (some ad) xs.length xs)) (i : Int) (p : 0 ≤ i := by exact oD) (q : i < (xs.length : Int) := by exact oD) :
    W.cell? (ad.add i.toNat) = some (.int k (rd xs i)) ∧ (0 ≤ i) = True ∧ (i < (xs.length : Int)) = True := by
  obtain ⟨ad', e, h1⟩ := aI hb h i p q
  injection e with e
  rw [e]
  exact h1
theorem sP {P Q : Prop} (k : Q → P := by intro hk_; simp only [Act.put, List.setIfInBounds_toArray, List.set_cons_zero, List.set_cons_succ, i64_w, i32_w]; exact hk_) (h : Q) : P := k h
theorem gE {g : Nat} {w W : World} (hg : g = W.heap.size) (h : Below w.heap.size w W) : w.heap.size ≤ g := hg ▸ below_size h
section
variable {P : Program} {ops : Array Oper} {rest : List Oper} {o : Oper} {a : Act} {Q : Exit → Act → World → Prop}
theorem bE {W : World} {N : Tmp} {cs : Array Value} {t : TypeId} (hd : o.dst = some N := by rfl) (hgd : o.guard = none := by rfl)
    (hrun : (execOp a.eval o).run P W = .ok (.value (.pointer (some ⟨W.heap.size, 0, none⟩))) (W.alloc (.cells cs t (0, 0))) := by first | (go_simp; done) | (go_simp; rfl))
    (h : ∀ g, g = W.heap.size → ∀ w1, w1.heap[g]? = some (.cells cs t (0, 0)) → Below W.heap.size W w1 → wpList P ops Q rest (a.put o.dst (.pointer (some ⟨g, 0, none⟩))) w1) : wpList P ops Q (o :: rest) a W :=
  box_event hgd hd hrun h
end
end Go.Proofs.YtcgchblljhbdaaaDoor
