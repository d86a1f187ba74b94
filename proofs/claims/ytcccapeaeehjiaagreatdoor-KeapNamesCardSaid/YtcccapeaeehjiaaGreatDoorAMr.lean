/- Calls on flat values, once and for all. -/
import Derived.Test.YtcccapeaeehjiaaGreatDoorAMq
namespace Go.Proofs.YtcccapeaeehjiaaGreatDoor.AM
noncomputable section
open Go Go.RowKit
set_option linter.unusedVariables false
set_option linter.unusedSimpArgs false
/-- What a call on flat values comes to, in any world. -/
def FlatCall (P : Program) (f : FuncId) (args : List Value) (v : Value) : Prop := ∀ w : World, Calls P f args.toArray w fun e w' => e = .returned v ∧ Below w.heap.size w w'
def g0 : Gv := ⟨fun _ => false, fun _ => (.i64, 0), fun _ _ => none⟩
theorem g0_ok {P : Program} (h : NoNG P) : Base P g0 := ⟨h, fun e => (by cases e)⟩
def m00 : M := ⟨fun _ => False, fun _ => ⟨0, 0, none⟩, fun _ => 0, fun _ => 0, fun _ => (.i64, 0)⟩
theorem L2.self_flat {m : M} : ∀ {vs : List Value}, vs.all flatV = true → L2 (VR m) vs vs
  | [], _ => .nil
  | v :: vs, h => by
    simp only [List.all_cons, Bool.and_eq_true] at h
    exact .cons (flatV_VR m h.1) (L2.self_flat h.2)
theorem flatCall_of {P : Program} {call : CallF} (hc : CallOK P g0 call) {f : FuncId} {args : List Value} {v : Value} {n n' : Nat} {h' : Tr AObj} (ha : args.all flatV = true) (hv : flatV v = true) (e : call f args n .leaf = some (v, n', h')) : FlatCall P f args v := by
  intro w
  have R : Rel (fun g => g < w.heap.size) w m00 .leaf w := ⟨Keep.refl _ _, fun g hg => hg, fun i o h => (by cases h), fun i o h => (by cases h), fun i o h => (by cases h), fun i o h => (by cases h), fun i k oi ok h => (by cases h)⟩
  refine Calls.mono (hc.ok e R ⟨fun g hg => (by cases hg), rfl⟩ (L2.self_flat ha) (fun i _ _ h => h)) ?_
  rintro x w' ⟨m', v', rfl, x1, d1, r1, R1⟩
  rw [flatV_eq hv r1]
  exact ⟨rfl, R1.below.os, R1.below.tape, R1.below.output, R1.below.size, R1.below.block⟩
theorem flatCall_by {P : Program} {call : CallF} (hc : CallOK P g0 call) {f : FuncId} {args : List Value} {v : Value} (n : Nat) (ha : (args.all flatV && flatV v) = true) (e : (call f args n .leaf).map (fun r => r.1) = some v) : FlatCall P f args v := by
  simp only [Bool.and_eq_true] at ha
  obtain ⟨⟨v1, n', h'⟩, h1, h2⟩ := Option.map_eq_some_iff.1 e
  simp only at h2
  subst h2
  exact flatCall_of hc ha.1 ha.2 h1
/-- A call of which some arguments are tokens. -/
theorem call_by {P : Program} {gl : Gv} {call : CallF} (hc : CallOK P gl call) (hg : gl.g = fun _ => false) {f : FuncId} {args args' : List Value} {v : Value} (n : Nat) (ha : ∀ m : M, m.wv = gl.wv → L2 (VR m) args args') (hv : flatV v = true) (e : (call f args n .leaf).map (fun r => r.1) = some v) : FlatCall P f args' v := by
  intro w
  obtain ⟨⟨v1, n', h'⟩, h1, h2⟩ := Option.map_eq_some_iff.1 e
  simp only at h2
  subst h2
  have R : Rel (fun g => g < w.heap.size) w { m00 with wv := gl.wv } .leaf w := ⟨Keep.refl _ _, fun g hg => hg, fun i o h => (by cases h), fun i o h => (by cases h), fun i o h => (by cases h), fun i o h => (by cases h), fun i k oi ok h => (by cases h)⟩
  refine Calls.mono (hc.ok h1 R ⟨fun g hg2 => (by rw [hg] at hg2; cases hg2), rfl⟩ (ha _ rfl) (fun i _ _ h => h)) ?_
  rintro x w' ⟨m', v', rfl, x1, d1, r1, R1⟩
  rw [flatV_eq hv r1]
  exact ⟨rfl, R1.below.os, R1.below.tape, R1.below.output, R1.below.size, R1.below.block⟩
theorem noNG_of {P : Program} (h : (P.funcs.toList.all fun fn => !(fn.name == "runtime.NumGoroutine")) = true) : NoNG P := fun f fn hf => by
  have := List.all_eq_true.1 h fn (List.mem_of_getElem? (by simpa using hf))
  simpa using this
/-- A table of such calls answers calls. -/
def flatT (spec : FuncId → List Value → Option Value) : SumT := fun f args nx h => match spec f args with
  | some v => if args.all flatV && flatV v then some (some (v, nx, h)) else none
  | none => none
theorem args_flat {m : M} : ∀ {vs vs' : List Value}, L2 (VR m) vs vs' → vs.all flatV = true → vs' = vs
  | [], _, .nil, _ => rfl
  | v :: vs, v' :: vs', .cons a t, h => by
    simp only [List.all_cons, Bool.and_eq_true] at h
    rw [flatV_eq h.1 a, args_flat t h.2]
theorem flatT_ok {P : Program} {gl : Gv} {spec : FuncId → List Value → Option Value} (hs : ∀ f args v, spec f args = some v → args.all flatV = true → FlatCall P f args v) : TOK P gl (flatT spec) := by
  have inv : ∀ {f : FuncId} {args : List Value} {nx : Nat} {h : Tr AObj} {v : Value} {n' : Nat} {h' : Tr AObj}, (flatT spec f args nx h).getD none = some (v, n', h') → FlatCall P f args v ∧ args.all flatV = true ∧ flatV v = true ∧ n' = nx ∧ h' = h := by
    intro f args nx h v n' h' e
    unfold flatT at e
    split at e
    · rename_i u hu
      split at e
      · rename_i hc
        simp only [Bool.and_eq_true] at hc
        simp only [Option.getD_some, Option.some.injEq, Prod.mk.injEq] at e
        obtain ⟨rfl, rfl, rfl⟩ := e
        exact ⟨hs _ _ _ hu hc.1, hc.1, hc.2, rfl, rfl⟩
      · cases e
    · cases e
  refine ⟨fun e => ?_, fun e R G ha hf => ?_⟩
  · obtain ⟨_, _, _, rfl, _⟩ := inv e
    exact Nat.le_refl _
  · rename_i f args args' nx h v n' h' F w0 w m
    obtain ⟨h1, h2, h3, rfl, rfl⟩ := inv e
    rw [args_flat ha h2]
    refine Calls.mono (h1 w) ?_
    rintro x w' ⟨rfl, hb⟩
    refine ⟨m, v, rfl, Ext.refl m, Dom.refl m _, flatV_VR m h3, ?_⟩
    refine R.same ⟨hb.os, hb.tape, hb.output, hb.size, fun k hk => hb.block k (R.base_le k hk)⟩ (fun i o ho hown => hb.block _ (R.own_lt i o ho hown))
/-- One table behind the other. -/
def orT (S T : SumT) : SumT := fun f args nx h => match S f args nx h with
  | some r => some r
  | none => T f args nx h
theorem orT_ok {P : Program} {gl : Gv} {S T : SumT} (hS : TOK P gl S) (hT : TOK P gl T) : TOK P gl (orT S T) := by
  refine ⟨fun {f args nx h v n' h'} e => ?_, fun {f args args' nx h v n' h' F w0 w m} e R G ha hf => ?_⟩
  · unfold orT at e
    split at e
    · rename_i r hr
      exact hS.mono (f := f) (args := args) (nx := nx) (h := h) (v := v) (n' := n') (h' := h') (by rw [hr]; exact e)
    · exact hT.mono (f := f) (args := args) (nx := nx) (h := h) (v := v) (n' := n') (h' := h') e
  · unfold orT at e
    split at e
    · rename_i r hr
      exact hS.ok (f := f) (args := args) (nx := nx) (h := h) (v := v) (n' := n') (h' := h') (by rw [hr]; exact e) R G ha hf
    · exact hT.ok (f := f) (args := args) (nx := nx) (h := h) (v := v) (n' := n') (h' := h') e R G ha hf
def noT : SumT := fun _ _ _ _ => none
theorem noT_ok {P : Program} {gl : Gv} : TOK P gl noT := ⟨fun e => (by cases e), fun e => (by cases e)⟩
/-- the machine with its own way with regions in any order -/
noncomputable def run (P : Program) (gl : Gv) (T : SumT) (rounds depth : Nat) : CallF := acall P gl T adraw rounds depth
theorem run_ok {P : Program} {gl : Gv} {T : SumT} {rounds depth : Nat} (hng : Base P gl) (hm : P.follows .mixedOrders = true) (hT : TOK P gl T) : CallOK P gl (run P gl T rounds depth) :=
  acall_ok hng hT (fun C hC hG hc => adraw_ok (by rw [hC, hG]; exact hng) (by rw [hC]; exact hm) (by rw [hC, hG]; exact hc)) depth
end
end Go.Proofs.YtcccapeaeehjiaaGreatDoor.AM
