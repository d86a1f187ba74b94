/- An operation on frozen memory: what else there is stays. -/
import Derived.Test.YtcccapeaeehjiaaGreatDoorAMm
namespace Go.Proofs.YtcccapeaeehjiaaGreatDoor.AM
noncomputable section
open Go Go.RowKit
set_option linter.unusedVariables false
set_option linter.unusedSimpArgs false
namespace Tr
variable {α β : Type}
def mapI (f : α → β) : Tr α → Tr β
  | leaf => leaf
  | node v a b c d => node (v.map f) (mapI f a) (mapI f b) (mapI f c) (mapI f d)
noncomputable def mapT (f : α → β) (t : Tr α) : Tr β := Tr.rec (motive := fun _ => Tr β) leaf (fun v _ _ _ _ a b c d => node (Option.rec (motive := fun _ => Option β) none (fun x => some (f x)) v) a b c d) t
theorem getP_mapT (f : α → β) (t : Tr α) : ∀ p : List D4, (mapT f t).getP p = (t.getP p).map f := by
  induction t with
  | leaf => intro p; rfl
  | node v a b c d iha ihb ihc ihd =>
    intro p
    cases p with
    | nil => cases v <;> rfl
    | cons x p => cases x <;> first | exact iha p | exact ihb p | exact ihc p | exact ihd p
theorem get_mapT (f : α → β) (t : Tr α) (n : Nat) : (mapT f t).get n = (t.get n).map f := getP_mapT f t (way n)
end Tr
def frz (h : Tr AObj) : Tr AObj := h.mapT fun o => { o with own := false }
/-- What is new and one's own comes to what there was. -/
def addN (hf g : Nat → Option AObj) (nx n' : Nat) : Nat → Option AObj := fun i =>
  if nx ≤ i ∧ i < n' then (match g i with
    | some o => if o.own then some o else hf i
    | none => hf i) else hf i
def addT (h g : Tr AObj) (nx : Nat) : Nat → Tr AObj
  | 0 => h
  | k + 1 => match g.get (nx + k) with
    | some o => if o.own then (addT h g nx k).set (nx + k) (some o) else addT h g nx k
    | none => addT h g nx k
theorem get_addT (h g : Tr AObj) (nx : Nat) : ∀ (k i : Nat), (addT h g nx k).get i = addN h.get g.get nx (nx + k) i
  | 0, i => by unfold addT addN; rw [if_neg (by omega)]
  | k + 1, i => by
    have ih := get_addT h g nx k i
    unfold addN at ih ⊢
    unfold addT
    by_cases hi : i = nx + k
    · subst hi
      rw [if_neg (by omega)] at ih
      rw [if_pos (by omega)]
      cases hg : g.get (nx + k) with
      | none => exact ih
      | some o =>
        simp only
        cases ho : o.own with
        | true => simp only [if_true]; rw [Tr.get_set_self]
        | false => simp only [Bool.false_eq_true, if_false]; exact ih
    · have e : (nx ≤ i ∧ i < nx + (k + 1)) ↔ (nx ≤ i ∧ i < nx + k) := by omega
      simp only [e]
      rw [← ih]
      cases hg : g.get (nx + k) with
      | none => rfl
      | some o =>
        simp only
        cases ho : o.own with
        | true => simp only [if_true]; rw [Tr.get_set_ne _ _ hi]
        | false => simp only [Bool.false_eq_true, if_false]
section
variable {C : Ctx} {F : Nat → Prop} {w0 w : World} {m : M} {a : Act} {hf : Nat → Option AObj}
theorem RelF.own_lt (R : RelF F w0 m hf w) : ∀ i o, hf i = some o → o.own = true → (m.loc i).block < w.heap.size := by
  intro i o ho hown
  obtain ⟨g, c, f, h1, h2, h3, _⟩ := R.own i o ho hown
  rw [h1]
  exact h3.lt
/-! ### some blocks are taken, the rest is frozen -/
def mixT (G : Tr AObj) : List Nat → Tr AObj
  | [] => AM.frz G
  | i :: l => (mixT G l).set i (G.get i)
theorem get_mixT (G : Tr AObj) : ∀ (T : List Nat) (i : Nat), (mixT G T).get i = if i ∈ T then G.get i else (AM.frz G).get i
  | [], i => by unfold mixT; rw [if_neg (by simp)]
  | k :: l, i => by
    unfold mixT
    rw [Tr.get_set, get_mixT G l i]
    by_cases h : i = k
    · subst h; rw [if_pos rfl, if_pos (by simp)]
    · rw [if_neg h]
      by_cases h2 : i ∈ l
      · rw [if_pos h2, if_pos (by simp [h2])]
      · rw [if_neg h2, if_neg (by simp [h, h2])]
def toldT (F : Nat → Prop) (m : M) (hf : Nat → Option AObj) (T : List Nat) : Nat → Prop := fun g => F g ∨ ∃ i o, hf i = some o ∧ o.own = true ∧ i ∉ T ∧ (m.loc i).block = g
theorem RelF.mix (R : RelF F w0 m hf w) {G : Tr AObj} (sub : ∀ i o, G.get i = some o → hf i = some o) (T : List Nat) : Rel (toldT F m hf T) w m (mixT G T) w := by
  have inv : ∀ i o, (mixT G T).get i = some o → (i ∈ T ∧ hf i = some o) ∨ (i ∉ T ∧ ∃ o1, hf i = some o1 ∧ o = { o1 with own := false }) := by
    intro i o ho
    rw [get_mixT] at ho
    split at ho
    · rename_i hi; exact .inl ⟨hi, sub i o ho⟩
    · rename_i hi
      unfold AM.frz at ho
      rw [Tr.get_mapT] at ho
      obtain ⟨o1, h1, h2⟩ := Option.map_eq_some_iff.1 ho
      exact .inr ⟨hi, o1, sub i o1 h1, h2.symm⟩
  refine ⟨Keep.refl _ _, ?_, ?_, ?_, ?_, ?_, ?_⟩
  · rintro g (hg | ⟨i, o, h1, h2, _, rfl⟩)
    · exact R.base_le g hg
    · exact R.own_lt i o h1 h2
  · intro i o ho
    rcases inv i o ho with ⟨_, h⟩ | ⟨_, o1, h, _⟩
    · exact R.lt i o h
    · exact R.lt i o1 h
  · intro i o ho
    rcases inv i o ho with ⟨_, h⟩ | ⟨_, o1, h, rfl⟩
    · exact R.es i o h
    · exact R.es i o1 h
  · intro i o ho hown
    rcases inv i o ho with ⟨hi, h⟩ | ⟨_, o1, h, rfl⟩
    · obtain ⟨g, cur, fr, k1, k2, k3, k4, k5, k6, k7⟩ := R.own i o h hown
      refine ⟨g, cur, fr, k1, ?_, k3, k4, k5, k6, k7⟩
      rintro (hg | ⟨k, ok, q1, q2, q3, q4⟩)
      · exact k2 hg
      · refine R.apart i k o ok h q1 hown q2 (fun e => q3 (e ▸ hi)) ?_
        rw [k1, q4]
    · cases hown
  · intro i o ho hown
    rcases inv i o ho with ⟨hi, h⟩ | ⟨hi, o1, h, rfl⟩
    · obtain ⟨k1, k2⟩ := R.ro i o h hown
      exact ⟨.inl k1, k2⟩
    · cases hown1 : o1.own with
      | true =>
        refine ⟨.inr ⟨i, o1, h, hown1, hi, rfl⟩, fun j v hv => ?_⟩
        obtain ⟨g, cur, fr, k1, k2, k3, k4, k5, k6, k7⟩ := R.own i o1 h hown1
        obtain ⟨v', q1, q2⟩ := k7 j v hv
        refine ⟨v', ?_, q2⟩
        replace k3 := k3.row' (ne_nil_of_get hv)
        unfold mv World.cell?
        simp only [k1, Nat.zero_add, k3]
        simpa using q1
      | false =>
        obtain ⟨k1, k2⟩ := R.ro i o1 h hown1
        exact ⟨.inl k1, k2⟩
  · intro i k oi ok hi hk ho1 ho2 hne
    rcases inv i oi hi with ⟨_, h⟩ | ⟨_, o1, h, rfl⟩
    · rcases inv k ok hk with ⟨_, h'⟩ | ⟨_, o1, h', rfl⟩
      · exact R.apart i k oi ok h h' ho1 ho2 hne
      · cases ho2
    · cases ho1
/-- Weaker knowledge of a block: some cells are not told. -/
def Wk (o o' : AObj) : Prop := o.elem = o'.elem ∧ o.own = o'.own ∧ o.es = o'.es ∧ o.cells.length = o'.cells.length ∧ ∀ (j : Nat) (v : Value), o.cells[j]? = some v → v = .chan none ∨ o'.cells[j]? = some v
theorem Wk.refl (o : AObj) : Wk o o := ⟨rfl, rfl, rfl, rfl, fun _ _ h => .inr h⟩
theorem Wk.trans {a b c : AObj} (h : Wk a b) (k : Wk b c) : Wk a c := by
  obtain ⟨h1, h2, h3, h4, h5⟩ := h
  obtain ⟨k1, k2, k3, k4, k5⟩ := k
  refine ⟨h1.trans k1, h2.trans k2, h3.trans k3, h4.trans k4, fun j v hv => ?_⟩
  rcases h5 j v hv with e | e
  · exact .inl e
  · exact k5 j v e
theorem RelF.wk (R : RelF F w0 m hf w) {g : Nat → Option AObj} (sub : ∀ i o, g i = some o → ∃ o', hf i = some o' ∧ Wk o o') : RelF F w0 m g w := by
  refine ⟨R.below, R.base_le, ?_, ?_, ?_, ?_, ?_⟩
  · intro i o ho
    obtain ⟨o', h1, _⟩ := sub i o ho
    exact R.lt i o' h1
  · intro i o ho
    obtain ⟨o', h1, h2⟩ := sub i o ho
    rw [R.es i o' h1, h2.2.2.1]
  · intro i o ho hown
    obtain ⟨o', h1, e1, e2, e3, e4, e5⟩ := sub i o ho
    obtain ⟨G, cur, fr, k1, k2, k3, k4, k5, ⟨k6, k6'⟩, k7⟩ := R.own i o' h1 (e2 ▸ hown)
    refine ⟨G, cur, fr, k1, k2, ?_, ?_, k5, ⟨by omega, fun hz => by rw [e4]; exact k6' (e3 ▸ hz)⟩, fun j v hv => ?_⟩
    · rcases k3 with ⟨q1, q2⟩ | ⟨q1, q2, q3⟩
      · exact .inl ⟨e3 ▸ q1, e1 ▸ q2⟩
      · refine .inr ⟨e3 ▸ q1, ?_, e1 ▸ q3⟩
        have : o.cells.length = 0 := by rw [e4, q2]; rfl
        exact List.length_eq_zero_iff.1 this
    · rw [e3]; exact k4
    · rcases e5 j v hv with rfl | hv'
      · have hj : j < o'.cells.length := by rw [← e4]; exact (List.getElem?_eq_some_iff.1 hv).1
        obtain ⟨v', q1, q2⟩ := k7 j _ (List.getElem?_eq_getElem hj)
        exact ⟨v', q1, .junk v' q2.one.2⟩
      · exact k7 j v hv'
  · intro i o ho hown
    obtain ⟨o', h1, e1, e2, e3, e4, e5⟩ := sub i o ho
    obtain ⟨k1, k2⟩ := R.ro i o' h1 (e2 ▸ hown)
    refine ⟨k1, fun j v hv => ?_⟩
    rcases e5 j v hv with rfl | hv'
    · have hj : j < o'.cells.length := by rw [← e4]; exact (List.getElem?_eq_some_iff.1 hv).1
      obtain ⟨v', q1, q2⟩ := k2 j _ (List.getElem?_eq_getElem hj)
      exact ⟨v', q1, .junk v' q2.one.2⟩
    · exact k2 j v hv'
  · intro i k oi ok hi hk ho1 ho2 hne
    obtain ⟨oi', h1, e1⟩ := sub i oi hi
    obtain ⟨ok', h2, e2⟩ := sub k ok hk
    exact R.apart i k oi' ok' h1 h2 (e1.2.1 ▸ ho1) (e2.2.1 ▸ ho2) hne
theorem RelF.mixW (R : RelF F w0 m hf w) {G : Tr AObj} (sub : ∀ i o, G.get i = some o → ∃ o', hf i = some o' ∧ Wk o o') (T : List Nat) : Rel (toldT F m hf T) w m (mixT G T) w := by
  let h2 : Nat → Option AObj := fun i => match G.get i with
    | some o => some o
    | none => hf i
  have sub2 : ∀ i o, h2 i = some o → ∃ o', hf i = some o' ∧ Wk o o' := by
    intro i o ho
    simp only [h2] at ho
    split at ho
    · rename_i o1 hg
      injection ho with ho
      subst ho
      exact sub i _ hg
    · exact ⟨o, ho, Wk.refl o⟩
  have R2 : RelF F w0 m h2 w := R.wk sub2
  have back : ∀ i o, hf i = some o → ∃ o', h2 i = some o' ∧ Wk o' o := by
    intro i o ho
    simp only [h2]
    cases hg : G.get i with
    | none => exact ⟨o, ho, Wk.refl o⟩
    | some o1 =>
      obtain ⟨o', q1, q2⟩ := sub i o1 hg
      rw [ho] at q1
      injection q1 with q1
      subst q1
      exact ⟨o1, rfl, q2⟩
  have M := R2.mix (G := G) (fun i o hi => by simp only [h2, hi]) T
  have e : toldT F m h2 T = toldT F m hf T := by
    funext g
    apply propext
    constructor
    · rintro (h | ⟨i, o, q1, q2, q3, q4⟩)
      · exact .inl h
      · obtain ⟨o', p1, p2⟩ := sub2 i o q1
        exact .inr ⟨i, o', p1, p2.2.1 ▸ q2, q3, q4⟩
    · rintro (h | ⟨i, o, q1, q2, q3, q4⟩)
      · exact .inl h
      · obtain ⟨o', p1, p2⟩ := back i o q1
        exact .inr ⟨i, o', p1, p2.2.1.symm ▸ q2, q3, q4⟩
  rw [e] at M
  exact M
def ownO : Option AObj → Option AObj
  | some o => if o.own then some o else none
  | none => none
theorem ownO_some {x : Option AObj} {o : AObj} (h : ownO x = some o) : x = some o ∧ o.own = true := by
  unfold ownO at h
  split at h
  · split at h
    · rename_i hq; injection h with h; subst h; exact ⟨rfl, hq⟩
    · cases h
  · cases h
def heapT (hf g : Nat → Option AObj) (T : List Nat) (nx n' : Nat) : Nat → Option AObj := fun i => if i ∈ T then ownO (g i) else addN hf g nx n' i
theorem heapT_nil (hf g : Nat → Option AObj) (nx n' : Nat) : heapT hf g [] nx n' = addN hf g nx n' := by
  funext i; unfold heapT; rw [if_neg (by simp)]
theorem RelF.unmix (R : RelF F w0 m hf w) {T : List Nat} {m' : M} {w' : World} {G' : Tr AObj} {nx n' : Nat} (x : Ext m m') (hn : ∀ i, nx ≤ i → i < n' → ¬ m.dom i) (R' : Rel (toldT F m hf T) w m' G' w') : RelF F w0 m' (heapT hf G'.get T nx n') w' := by
  have inv : ∀ i o, heapT hf G'.get T nx n' i = some o → (G'.get i = some o ∧ o.own = true ∧ (i ∈ T ∨ ¬ m.dom i)) ∨ (hf i = some o ∧ m.dom i ∧ i ∉ T) := by
    intro i o ho
    unfold heapT at ho
    split at ho
    · rename_i hi
      obtain ⟨h1, h2⟩ := ownO_some ho
      exact .inl ⟨h1, h2, .inl hi⟩
    · rename_i hi
      unfold addN at ho
      have old : hf i = some o → (G'.get i = some o ∧ o.own = true ∧ (i ∈ T ∨ ¬ m.dom i)) ∨ (hf i = some o ∧ m.dom i ∧ i ∉ T) := fun h => .inr ⟨h, R.lt i o h, hi⟩
      split at ho
      · rename_i hr
        split at ho
        · rename_i o1 hg
          split at ho
          · rename_i hown
            injection ho with ho
            subst ho
            exact .inl ⟨hg, hown, .inr (hn i hr.1 hr.2)⟩
          · exact old ho
        · exact old ho
      · exact old ho
  have keepB : ∀ g, toldT F m hf T g → w'.heap[g]? = w.heap[g]? := fun g hg => R'.below.block g hg
  refine ⟨R.below.trans (R'.below.mono fun g hg => .inl hg), fun g hg => Nat.lt_of_lt_of_le (R.base_le g hg) R'.below.size, ?_, ?_, ?_, ?_, ?_⟩
  · intro i o ho
    rcases inv i o ho with ⟨h1, h2, h3⟩ | ⟨h1, h2, h3⟩
    · exact R'.lt i o h1
    · exact x.dom i h2
  · intro i o ho
    rcases inv i o ho with ⟨h1, h2, h3⟩ | ⟨h1, h2, h3⟩
    · exact R'.es i o h1
    · rw [x.es i h2]; exact R.es i o h1
  · intro i o ho hown
    rcases inv i o ho with ⟨h1, h2, h3⟩ | ⟨h1, h2, h3⟩
    · obtain ⟨g, cur, fr, k1, k2, k3, k4, k5, k6, k7⟩ := R'.own i o h1 hown
      exact ⟨g, cur, fr, k1, fun hF => k2 (.inl hF), k3, k4, k5, k6, k7⟩
    · obtain ⟨g, cur, fr, k1, k2, k3, k4, k5, k6, k7⟩ := R.own i o h1 hown
      refine ⟨g, cur, fr, (x.loc i h2).trans k1, k2, ?_, k4, k5.trans (x.sz i h2).symm, k6, fun j v hv => ?_⟩
      · exact k3.congr (keepB g (.inr ⟨i, o, h1, hown, h3, by rw [k1]⟩))
      · obtain ⟨v', q1, q2⟩ := k7 j v hv
        exact ⟨v', q1, q2.ext x⟩
  · intro i o ho hown
    rcases inv i o ho with ⟨h1, h2, h3⟩ | ⟨h1, h2, h3⟩
    · rw [h2] at hown; cases hown
    · obtain ⟨k1, k2⟩ := R.ro i o h1 hown
      refine ⟨by rw [x.loc i h2]; exact k1, fun j v hv => ?_⟩
      obtain ⟨v', q1, q2⟩ := k2 j v hv
      refine ⟨v', ?_, q2.ext x⟩
      rw [mv_ext (a := ⟨i, j, none⟩) x h2, ← q1]
      exact World.cell?_of_block (keepB _ (.inl k1))
  · intro i k oi ok hi hk ho1 ho2 hne
    rcases inv i oi hi with ⟨h1, h2, h3⟩ | ⟨h1, h2, h3⟩
    · rcases inv k ok hk with ⟨j1, j2, j3⟩ | ⟨j1, j2, j3⟩
      · exact R'.apart i k oi ok h1 j1 ho1 ho2 hne
      · obtain ⟨g, cur, fr, k1, k2, _⟩ := R'.own i oi h1 ho1
        rw [k1, x.loc k j2]
        exact fun e => k2 (.inr ⟨k, ok, j1, ho2, j3, e.symm⟩)
    · rcases inv k ok hk with ⟨j1, j2, j3⟩ | ⟨j1, j2, j3⟩
      · obtain ⟨g, cur, fr, k1, k2, _⟩ := R'.own k ok j1 ho2
        rw [k1, x.loc i h2]
        exact fun e => k2 (.inr ⟨i, oi, h1, ho1, h3, e⟩)
      · rw [x.loc i h2, x.loc k j2]
        exact R.apart i k oi ok h1 j1 ho1 ho2 hne
/-- An operation that is run on frozen memory, but for the blocks that it takes. -/
theorem exec_R (hng : Base C.P C.gl) (hc : CallOK C.P C.gl C.call) {ρ : Operand → Option Value} {G : Tr AObj} {T : List Nat} {nx : Nat} (R : RelF F w0 m hf w) (sub : ∀ i o, G.get i = some o → ∃ o', hf i = some o' ∧ Wk o o') (GG : GL C.gl m) (hρ : ∀ x v, ρ x = some v → VR m v (a.eval x)) {o : Oper} {v : Value} {n' : Nat} {G' : Tr AObj}
    (hn : ∀ i, nx ≤ i → i < n' → ¬ m.dom i) (e : aop C ρ nx (mixT G T) o = some (v, n', G')) {K : Act → World → Prop} {Q : Exit → Act → World → Prop}
    (hK : ∀ m' v' w', Ext m m' → Dom m nx n' m' → VR m' v v' → RelF F w0 m' (heapT hf G'.get T nx n') w' → K (a.put o.dst v') w') : o.wp C.P a w K Q :=
  aop_sound hng hc (R.mixW sub T) GG hρ hn e fun m' v' w' x1 d1 r1 R1 => hK m' v' w' x1 d1 r1 (R.unmix x1 hn R1)
end
end
end Go.Proofs.YtcccapeaeehjiaaGreatDoor.AM
