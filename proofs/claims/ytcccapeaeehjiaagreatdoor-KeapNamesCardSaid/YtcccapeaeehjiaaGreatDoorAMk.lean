/- The machine's steps and code, sound. -/
import Derived.Test.YtcccapeaeehjiaaGreatDoorAMj
namespace Go.Proofs.YtcccapeaeehjiaaGreatDoor.AM
noncomputable section
open Go Go.RowKit
set_option linter.unusedVariables false
set_option linter.unusedSimpArgs false
theorem abox_mono {n t : Nat} {h : Tr AObj} {x v : Value} {n' : Nat} {h' : Tr AObj} (e : abox n h t x = some (v, n', h')) : n ≤ n' := by
  unfold abox at e
  split at e
  · simp only [Option.some.injEq, Prod.mk.injEq] at e; omega
  · cases e
theorem aopV_mono {P : Program} {ρ : Operand → Option Value} {nx : Nat} {h : Tr AObj} {o : Oper} {v : Value} {n' : Nat} {h' : Tr AObj} (e : aopV P ρ nx h o = some (v, n', h')) : nx ≤ n' := by
  have kr : ∀ {x : Option Value}, keepR nx h x = some (v, n', h') → nx ≤ n' := fun e => by have := (keepR_inv e).2.1; omega
  have fin : ∀ {a : Value} {b : Nat} {c : Tr AObj}, nx ≤ b → some (a, b, c) = some (v, n', h') → nx ≤ n' := fun hb e => by
    simp only [Option.some.injEq, Prod.mk.injEq] at e; omega
  unfold aopV at e
  split at e
  case h_1 => exact kr e
  case h_2 => exact kr e
  case h_3 => split at e <;> first | exact kr e | cases e
  case h_4 =>
    unfold aalloc at e
    replace e := Option.bind_eq_some_iff.1 e
    obtain ⟨z, _, e⟩ := e
    exact abox_mono e
  case h_5 =>
    replace e := Option.bind_eq_some_iff.1 e
    obtain ⟨z, _, e⟩ := e
    exact abox_mono e
  case h_6 =>
    replace e := Option.bind_eq_some_iff.1 e
    obtain ⟨z, _, e⟩ := e
    exact kr e
  case h_7 =>
    replace e := Option.bind_eq_some_iff.1 e
    obtain ⟨z, _, e⟩ := e
    unfold abuildSlice at e
    split at e
    · replace e := Option.bind_eq_some_iff.1 e
      obtain ⟨z, _, e⟩ := e
      replace e := Option.bind_eq_some_iff.1 e
      obtain ⟨z, _, e⟩ := e
      split at e
      · replace e := Option.map_eq_some_iff.1 e
        obtain ⟨z, _, e⟩ := e
        simp only [Prod.mk.injEq] at e; omega
      · cases e
    · cases e
  case h_8 =>
    replace e := Option.bind_eq_some_iff.1 e
    obtain ⟨z, _, e⟩ := e
    exact kr e
  case h_9 =>
    replace e := Option.bind_eq_some_iff.1 e
    obtain ⟨z, _, e⟩ := e
    replace e := Option.bind_eq_some_iff.1 e
    obtain ⟨z, _, e⟩ := e
    replace e := Option.bind_eq_some_iff.1 e
    obtain ⟨z, _, e⟩ := e
    exact fin (Nat.le_refl _) e
  case h_10 => split at e <;> first | exact kr e | exact fin (Nat.le_refl _) e
  case h_11 =>
    split at e
    · split at e
      · exact fin (Nat.le_refl _) e
      · split at e <;> first | exact kr e | exact fin (Nat.le_refl _) e
    · cases e
  case h_12 =>
    split at e
    · split at e <;> first | exact kr e | exact fin (Nat.le_refl _) e
    · exact kr e
    · split at e
      · exact fin (Nat.le_refl _) e
      · unfold astringToBytes at e
        split at e
        · split at e
          · split at e
            · exact fin (Nat.le_succ _) e
            · cases e
          · cases e
        · cases e
    · exact kr e
  case h_13 =>
    replace e := Option.bind_eq_some_iff.1 e
    obtain ⟨z, _, e⟩ := e
    exact kr e
  case h_14 =>
    replace e := Option.bind_eq_some_iff.1 e
    obtain ⟨z, _, e⟩ := e
    exact kr e
  case h_15 =>
    replace e := Option.bind_eq_some_iff.1 e
    obtain ⟨z, _, e⟩ := e
    replace e := Option.bind_eq_some_iff.1 e
    obtain ⟨z, _, e⟩ := e
    exact kr e
  case h_16 =>
    replace e := Option.bind_eq_some_iff.1 e
    obtain ⟨z, _, e⟩ := e
    exact kr e
  case h_17 =>
    replace e := Option.bind_eq_some_iff.1 e
    obtain ⟨z, _, e⟩ := e
    replace e := Option.bind_eq_some_iff.1 e
    obtain ⟨y, _, e⟩ := e
    unfold amake at e
    split at e
    · replace e := Option.bind_eq_some_iff.1 e
      obtain ⟨_, _, e⟩ := e
      replace e := Option.bind_eq_some_iff.1 e
      obtain ⟨_, _, e⟩ := e
      split at e
      · exact fin (Nat.le_succ _) e
      · cases e
    · cases e
  case h_18 =>
    split at e
    · replace e := Option.bind_eq_some_iff.1 e
      obtain ⟨z, _, e⟩ := e
      exact fin (Nat.le_refl _) e
    · cases e
  case h_19 =>
    split at e
    · split at e
      · exact kr e
      · cases e
    · exact kr e
  case h_20 =>
    split at e
    · split at e
      · split at e <;> exact kr e
      · cases e
    · split at e
      · replace e := Option.bind_eq_some_iff.1 e
        obtain ⟨z, _, e⟩ := e
        replace e := Option.bind_eq_some_iff.1 e
        obtain ⟨y, _, e⟩ := e
        unfold aappend at e
        split at e
        · replace e := Option.bind_eq_some_iff.1 e
          obtain ⟨_, _, e⟩ := e
          replace e := Option.bind_eq_some_iff.1 e
          obtain ⟨_, _, e⟩ := e
          split at e
          · replace e := Option.bind_eq_some_iff.1 e
            obtain ⟨_, _, e⟩ := e
            split at e
            · split at e <;> first | exact fin (Nat.le_refl _) e | cases e
            · split at e
              · split at e <;> first | exact fin (Nat.le_succ _) e | cases e
              · replace e := Option.bind_eq_some_iff.1 e
                obtain ⟨_, _, e⟩ := e
                split at e <;> first | exact fin (Nat.le_succ _) e | cases e
              · cases e
          · cases e
        · cases e
      · cases e
    · split at e
      · replace e := Option.bind_eq_some_iff.1 e
        obtain ⟨z, _, e⟩ := e
        replace e := Option.bind_eq_some_iff.1 e
        obtain ⟨y, _, e⟩ := e
        replace e := Option.bind_eq_some_iff.1 e
        obtain ⟨y, _, e⟩ := e
        exact fin (Nat.le_refl _) e
      · cases e
    · exact kr e
    · cases e
  case h_21 =>
    replace e := Option.bind_eq_some_iff.1 e
    obtain ⟨u, hu, e⟩ := e
    split at e
    · replace e := Option.bind_eq_some_iff.1 e
      obtain ⟨r, hr, e⟩ := e
      split at e <;> first | exact fin (Nat.le_refl _) e | cases e
    · cases e
  case h_22 =>
    replace e := Option.bind_eq_some_iff.1 e
    obtain ⟨u, hu, e⟩ := e
    replace e := Option.bind_eq_some_iff.1 e
    obtain ⟨j, hj, e⟩ := e
    split at e
    · replace e := Option.bind_eq_some_iff.1 e
      obtain ⟨r, hr, e⟩ := e
      split at e <;> first | exact fin (Nat.le_refl _) e | cases e
    · cases e
  case h_23 => cases e
/-- The model arrives where the machine says. -/
def QX (F : Nat → Prop) (w0 : World) (m : M) (nx nt : Nat) (x : AX) (s' : St) : Exit → Act → World → Prop := fun e a' w' =>
  e = x.x ∧ ∃ m', Ext m m' ∧ Dom m nx s'.nx m' ∧ FR m' nt s'.fr.get a' ∧ Rel F w0 m' s'.h w'
/-- What is promised of regions whose operations come in any order. -/
structure DrawOK (C : Ctx) (D : Array Oper → St → Option St) : Prop where
  mono : ∀ {ops : Array Oper} {s s' : St}, D ops s = some s' → s.nx ≤ s'.nx
  ok : ∀ {ops : Array Oper} {s s' : St} {F : Nat → Prop} {w0 w : World} {m : M} {a : Act} (id : Nat), D ops s = some s' → Rel F w0 m s.h w → GL C.gl m → FR m C.nt s.fr.get a → (∀ i, s.nx ≤ i → i < s'.nx → ¬ m.dom i) →
    (Code.region id ops true).wp C.P (QX F w0 m s.nx C.nt .normal s') a w
section
variable {C : Ctx} {D : Array Oper → St → Option St}
theorem aopX_mono {P : Program} {ρ : Operand → Option Value} {nx : Nat} {h : Tr AObj} {o : Oper} {v : Value} {n' : Nat} {h' : Tr AObj} (e : aopX P ρ nx h o = some (v, n', h')) : nx ≤ n' := by
  rcases aopX_of e with e | e
  · exact aopV_mono e
  · exact aopE_nx e
theorem aop_mono (hc : CallOK C.P C.gl C.call) {ρ : Operand → Option Value} {nx : Nat} {h : Tr AObj} {o : Oper} {v : Value} {n' : Nat} {h' : Tr AObj} (e : aop C ρ nx h o = some (v, n', h')) : nx ≤ n' := by
  unfold aop at e
  split at e
  · split at e
    · split at e
      · split at e
        · replace e := Option.bind_eq_some_iff.1 e
          obtain ⟨z, _, e⟩ := e
          exact hc.mono e
        · exact aopE_nx e
      · cases e
    · exact aopX_mono e
  · unfold orTok at e
    split at e
    · rename_i r hr
      injection e with e
      subst e
      exact aopX_mono hr
    · exact Nat.le_of_eq (keepR_inv e).2.1.symm
theorem astep_mono (hc : CallOK C.P C.gl C.call) {ops : Array Oper} {o : Oper} {s s' : St} (e : astep C ops o s = some s') : s.nx ≤ s'.nx := by
  unfold astep at e
  split at e
  · replace e := Option.bind_eq_some_iff.1 e
    obtain ⟨⟨v, n', h'⟩, h1, e⟩ := e
    replace e := Option.bind_eq_some_iff.1 e
    obtain ⟨z, _, e⟩ := e
    injection e with e
    subst e
    exact aop_mono hc h1
  · replace e := Option.bind_eq_some_iff.1 e
    obtain ⟨z, _, e⟩ := e
    injection e with e
    subst e
    exact Nat.le_refl _
  · cases e
theorem aops_mono (hc : CallOK C.P C.gl C.call) {ops : Array Oper} : ∀ {l : List Oper} {s s' : St}, aops C ops l s = some s' → s.nx ≤ s'.nx
  | [], s, s', e => by rw [aops_nil] at e; injection e with e; subst e; exact Nat.le_refl _
  | o :: l, s, s', e => by
    rw [aops_cons] at e
    replace e := Option.bind_eq_some_iff.1 e
    obtain ⟨s1, h1, e⟩ := e
    exact Nat.le_trans (astep_mono hc h1) (aops_mono hc e)
theorem aloop_mono {b : St → Option (AX × St)} (hb : ∀ s x s', b s = some (x, s') → s.nx ≤ s'.nx) : ∀ (n : Nat) (s : St) (x : AX) (s' : St), aloop b n s = some (x, s') → s.nx ≤ s'.nx
  | 0, s, x, s', e => by cases e
  | n + 1, s, x, s', e => by
    rw [aloop_succ] at e
    split at e
    · rename_i s1 h1
      exact Nat.le_trans (hb _ _ _ h1) (aloop_mono hb n s1 x s' e)
    · exact hb _ _ _ e
theorem acode_mono (hc : CallOK C.P C.gl C.call) (hD : DrawOK C D) : ∀ (c : Code) (s : St) (x : AX) (s' : St), acode C D c s = some (x, s') → s.nx ≤ s'.nx := by
  intro c
  induction c with
  | skip => intro s x s' e; simp only [acode_skip, acode_label, acode_region, acode_seq, acode_cond, acode_block, acode_loop, acode_exit, acode_scope, acode_ret, Option.some.injEq, Prod.mk.injEq] at e; rw [e.2]; exact Nat.le_refl _
  | label => intro s x s' e; simp only [acode_skip, acode_label, acode_region, acode_seq, acode_cond, acode_block, acode_loop, acode_exit, acode_scope, acode_ret, Option.some.injEq, Prod.mk.injEq] at e; rw [e.2]; exact Nat.le_refl _
  | exit => intro s x s' e; simp only [acode_skip, acode_label, acode_region, acode_seq, acode_cond, acode_block, acode_loop, acode_exit, acode_scope, acode_ret, Option.some.injEq, Prod.mk.injEq] at e; rw [e.2]; exact Nat.le_refl _
  | ret => intro s x s' e; simp only [acode_skip, acode_label, acode_region, acode_seq, acode_cond, acode_block, acode_loop, acode_exit, acode_scope, acode_ret, Option.some.injEq, Prod.mk.injEq] at e; rw [e.2]; exact Nat.le_refl _
  | region id ops draw =>
    intro s x s' e
    simp only [acode_skip, acode_label, acode_region, acode_seq, acode_cond, acode_block, acode_loop, acode_exit, acode_scope, acode_ret] at e
    replace e := Option.bind_eq_some_iff.1 e
    obtain ⟨s1, h1, e⟩ := e
    simp only [Option.some.injEq, Prod.mk.injEq] at e
    rw [← e.2]
    split at h1
    · exact hD.mono h1
    · exact aops_mono hc h1
  | seq a b iha ihb =>
    intro s x s' e
    simp only [acode_skip, acode_label, acode_region, acode_seq, acode_cond, acode_block, acode_loop, acode_exit, acode_scope, acode_ret] at e
    split at e
    · rename_i s1 h1
      exact Nat.le_trans (iha _ _ _ h1) (ihb _ _ _ e)
    · exact iha _ _ _ e
  | cond c t f iht ihf =>
    intro s x s' e
    simp only [acode_skip, acode_label, acode_region, acode_seq, acode_cond, acode_block, acode_loop, acode_exit, acode_scope, acode_ret] at e
    split at e
    · exact iht _ _ _ e
    · exact ihf _ _ _ e
    · cases e
  | block id b ih =>
    intro s x s' e
    simp only [acode_skip, acode_label, acode_region, acode_seq, acode_cond, acode_block, acode_loop, acode_exit, acode_scope, acode_ret] at e
    split at e
    · rename_i i s1 h1
      split at e <;> (simp only [Option.some.injEq, Prod.mk.injEq] at e; rw [← e.2]; exact ih _ _ _ h1)
    · exact ih _ _ _ e
  | loop b ih => intro s x s' e; simp only [acode_skip, acode_label, acode_region, acode_seq, acode_cond, acode_block, acode_loop, acode_exit, acode_scope, acode_ret] at e; exact aloop_mono ih _ _ _ _ e
  | scope b ih => intro s x s' e; simp only [acode_skip, acode_label, acode_region, acode_seq, acode_cond, acode_block, acode_loop, acode_exit, acode_scope, acode_ret] at e; exact ih _ _ _ e
  | rangeFunc => intro s x s' e; cases e
  | goto => intro s x s' e; cases e
  | refuse => intro s x s' e; cases e
end
end
end Go.Proofs.YtcccapeaeehjiaaGreatDoor.AM
