/- Any order comes to the same. -/
import Derived.Test.YtcccapeaeehjiaaGreatDoorAMo
namespace Go.Proofs.YtcccapeaeehjiaaGreatDoor.AM
noncomputable section
open Go Go.RowKit
set_option linter.unusedVariables false
set_option linter.unusedSimpArgs false
inductive Reach (ops : Array Oper) : Nat → Nat → Prop where
  | one {i : Nat} {o : Oper} {e : Edge} (ho : ops[i]? = some o) (he : e ∈ o.after) (hb : Region.binds .any e = true) : Reach ops i e.on
  | step {i d : Nat} {o : Oper} {e : Edge} (ho : ops[i]? = some o) (he : e ∈ o.after) (hb : Region.binds .any e = true) (r : Reach ops e.on d) : Reach ops i d
/-- What is listed has all that goes ahead of it listed. -/
def DC (ops : Array Oper) (listed : Array Bool) : Prop := ∀ (j : Nat) (o : Oper), ops[j]? = some o → listed.getD j true = true → ∀ e ∈ o.after, Region.binds .any e = true → listed.getD e.on false = true
theorem getD_tt {l : Array Bool} {i : Nat} (h : l.getD i false = true) : l.getD i true = true := by
  rw [Array.getD_eq_getD_getElem?] at h ⊢
  cases hh : l[i]? with
  | none => rw [hh] at h; cases h
  | some b => rw [hh] at h; exact h
theorem reach_listed {ops : Array Oper} {listed : Array Bool} (dc : DC ops listed) : ∀ {i d : Nat}, Reach ops i d → (∀ (o : Oper), ops[i]? = some o → ∀ e ∈ o.after, Region.binds .any e = true → listed.getD e.on false = true) → listed.getD d false = true := by
  intro i d r
  induction r with
  | one ho he hb => intro h; exact h _ ho _ he hb
  | step ho he hb r ih =>
    intro h
    refine ih (fun o2 ho2 e2 he2 hb2 => ?_)
    exact dc _ o2 ho2 (getD_tt (h _ ho _ he hb)) e2 he2 hb2
theorem wpAny_seq {C : Ctx} (hng : Base C.P C.gl) (hc : CallOK C.P C.gl C.call) {ops : Array Oper} (back : ∀ (i : Nat) (o : Oper), ops[i]? = some o → ∀ e ∈ o.after, Region.binds .any e = true → e.on < i) {F : Nat → Prop} {w0 : World} {Q : Exit → Act → World → Prop} :
    ∀ (n : Nat) (L : List (Nat × Ef)) (s : Sg) (listed : Array Bool) (m : M) (a : Act) (w : World), L.length = n → listed.size = ops.size → (∀ i, listed.getD i true = false ↔ i ∈ L.map (·.1)) → L.Pairwise (fun x y => x.1 < y.1) →
      (∀ x ∈ L, ops[x.1]? = some x.2.o ∧ Val C ops x.2) → L.Pairwise (fun x y => Reach ops y.1 x.1 ∨ Ind ops x.2 y.2) → L.Pairwise (fun x y => x.2.n' ≤ y.2.nx) → DC ops listed →
      RelF F w0 m s.hf w → FR m C.nt s.fr a → GL C.gl m → (∀ x ∈ L, ∀ i, Rg x.2 i → ¬ m.dom i) → Seq (L.map (·.2)) s →
      (∀ m' a' w', Ext m m' → (∀ i, m'.dom i ↔ m.dom i ∨ ∃ x ∈ L, Rg x.2 i) → FR m' C.nt (foldE (L.map (·.2)) s).fr a' → RelF F w0 m' (foldE (L.map (·.2)) s).hf w' → Q .normal a' w') →
      wpAny C.P .any ops Q n listed a w := by
  intro n
  induction n with
  | zero =>
    intro L s listed m a w hl hsz h1 h2 h3 h4 h5 dc R f G fresh sq fin
    have hL : L = [] := List.length_eq_zero_iff.1 hl
    subst hL
    refine ⟨?_, fin m a w (Ext.refl m) (fun i => by simp) f R⟩
    cases hr : Region.ready .any ops listed with
    | nil => rfl
    | cons j _ =>
      have := (mem_ready (md := .any) (ops := ops) (listed := listed) (j := j)).1 (by rw [hr]; exact List.mem_cons_self)
      have := (h1 j).1 this.1
      simp at this
  | succ n ih =>
    intro L s listed m a w hl hsz h1 h2 h3 h4 h5 dc R f G fresh sq fin
    refine ⟨fun hr => ?_, fun i hi => ?_⟩
    · -- the first one that is left is ready
      exfalso
      cases L with
      | nil => simp at hl
      | cons x l =>
        have hx := h3 x List.mem_cons_self
        have hrd : x.1 ∈ Region.ready .any ops listed := by
          refine mem_ready.2 ⟨(h1 x.1).2 (by simp), x.2.o, hx.1, fun e he hb => ?_⟩
          have hlt := back _ _ hx.1 e he hb
          have hsx : x.1 < ops.size := (Array.getElem?_eq_some_iff.1 hx.1).1
          have hne : ¬ (listed.getD e.on true = false) := by
            rw [h1]
            intro hm
            obtain ⟨y, hy, hye⟩ := List.mem_map.1 hm
            rcases List.mem_cons.1 hy with rfl | hy
            · omega
            · have := (List.pairwise_cons.1 h2).1 y hy
              omega
          have hlt2 : e.on < listed.size := by omega
          simp only [Array.getD_eq_getD_getElem?, Array.getElem?_eq_getElem hlt2, Option.getD_some, Bool.not_eq_false] at hne ⊢
          exact hne
        rw [hr] at hrd
        cases hrd
    · obtain ⟨hun, o, ho, hedges⟩ := mem_ready.1 hi
      have hmem := (h1 i).1 hun
      obtain ⟨x, hx, hxi⟩ := List.mem_map.1 hmem
      obtain ⟨l1, l2, rfl⟩ := List.append_of_mem hx
      subst hxi
      have hxo := h3 x hx
      have hoo : o = x.2.o := by have := hxo.1; rw [ho] at this; injection this
      subst hoo
      have hp4 := List.pairwise_append.1 h4
      have hp2 := List.pairwise_append.1 h2
      have hp5 := List.pairwise_append.1 h5
      have hI : ∀ d ∈ l1.map (·.2), Val C ops d ∧ Ind ops d x.2 := by
        intro d hd
        obtain ⟨y, hy, rfl⟩ := List.mem_map.1 hd
        refine ⟨(h3 y (by simp [hy])).2, ?_⟩
        rcases hp4.2.2 y hy x List.mem_cons_self with hr | hI
        · exfalso
          have hlst := reach_listed dc hr (fun o2 ho2 e he hb => by rw [ho] at ho2; injection ho2 with ho2; subst ho2; exact hedges e he hb)
          have hno := (h1 y.1).2 (by simp only [List.map_append, List.mem_append, List.mem_map]; exact .inl ⟨y, hy, rfl⟩)
          rw [getD_tt hlst] at hno
          cases hno
        · exact hI
      have hfh : ∀ i, Rg x.2 i → s.hf i = none := by
        intro j hj
        cases hh : s.hf j with
        | none => rfl
        | some q => exact absurd (R.lt j q hh) (fresh x hx j hj)
      have hsq : Seq (l1.map (·.2) ++ x.2 :: l2.map (·.2)) s := by simpa using sq
      obtain ⟨g1, g2, g3⟩ := pull hxo.2 (l1.map (·.2)) s hI hfh hsq
      refine exec hng hc hxo.2 g1 R G f (fresh x hx) ho (fun m' a' w' x1 d1 f1 R1 => ?_)
      have hsub : (l1 ++ l2).Sublist (l1 ++ x :: l2) := List.Sublist.append (List.Sublist.refl _) (List.sublist_cons_self _ _)
      have hnot : ∀ y ∈ l1 ++ l2, y.1 ≠ x.1 := by
        intro y hy
        rcases List.mem_append.1 hy with hy | hy
        · have := hp2.2.2 y hy x List.mem_cons_self; omega
        · have := (List.pairwise_cons.1 hp2.2.1).1 y hy; omega
      have hsx : x.1 < listed.size := by rw [hsz]; exact (Array.getElem?_eq_some_iff.1 hxo.1).1
      refine ih (l1 ++ l2) (x.2.eff s) (listed.setIfInBounds x.1 true) m' a' w' ?_ (by simp [hsz]) ?_ (h2.sublist hsub) (fun y hy => h3 y (hsub.subset hy)) (h4.sublist hsub) (h5.sublist hsub) ?_ R1 f1 (G.ext x1) ?_ (by simpa using g2) ?_
      · simp only [List.length_append, List.length_cons] at hl ⊢; omega
      · intro j
        by_cases hj : x.1 = j
        · subst hj
          constructor
          · intro hh
            simp [hsx] at hh
          · intro hh
            obtain ⟨y, hy, hye⟩ := List.mem_map.1 hh
            exact absurd hye (hnot y hy)
        · rw [getD_set_ne true hj, h1 j]
          simp only [List.map_append, List.map_cons, List.mem_append, List.mem_cons]
          constructor
          · rintro (hh | hh | hh)
            · exact .inl hh
            · exact absurd hh.symm hj
            · exact .inr hh
          · rintro (hh | hh)
            · exact .inl hh
            · exact .inr (.inr hh)
      · intro j oj hoj hlj e he hb
        by_cases hj : x.1 = j
        · subst hj
          rw [ho] at hoj
          injection hoj with hoj
          subst hoj
          exact getD_set_true (hedges e he hb)
        · rw [getD_set_ne true hj] at hlj
          exact getD_set_true (dc j oj hoj hlj e he hb)
      · intro y hy j hj
        rw [d1 j]
        rintro (hh | hh)
        · exact fresh y (hsub.subset hy) j hj hh
        · unfold Rg at hj
          rcases List.mem_append.1 hy with hy | hy
          · have := hp5.2.2 y hy x List.mem_cons_self; omega
          · have := (List.pairwise_cons.1 hp5.2.1).1 y hy; omega
      · intro m2 a2 w2 x2 d2 f2 R2
        have g3' : foldE ((l1 ++ l2).map (·.2)) (x.2.eff s) = foldE ((l1 ++ x :: l2).map (·.2)) s := by simpa using g3
        rw [g3'] at f2 R2
        refine fin m2 a2 w2 (x1.trans x2) (fun j => ?_) f2 R2
        rw [d2 j, d1 j]
        constructor
        · rintro ((hh | hh) | ⟨y, hy, hh⟩)
          · exact .inl hh
          · exact .inr ⟨x, hx, hh⟩
          · exact .inr ⟨y, hsub.subset hy, hh⟩
        · rintro (hh | ⟨y, hy, hh⟩)
          · exact .inl (.inl hh)
          · rcases List.mem_append.1 hy with hy | hy
            · exact .inr ⟨y, List.mem_append_left _ hy, hh⟩
            · rcases List.mem_cons.1 hy with rfl | hy
              · exact .inl (.inr hh)
              · exact .inr ⟨y, List.mem_append_right _ hy, hh⟩
end
end Go.Proofs.YtcccapeaeehjiaaGreatDoor.AM
