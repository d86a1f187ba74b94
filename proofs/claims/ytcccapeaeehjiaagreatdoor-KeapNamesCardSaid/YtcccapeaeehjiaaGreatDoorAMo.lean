/- Operations that come in any order: what they do, one by one and all. -/
import Derived.Test.YtcccapeaeehjiaaGreatDoorAMn
namespace Go.Proofs.YtcccapeaeehjiaaGreatDoor.AM
noncomputable section
open Go Go.RowKit
set_option linter.unusedVariables false
set_option linter.unusedSimpArgs false
/-- What one operation of such a region did. -/
structure Ef where
  o : Oper
  fr0 : Nat → Option Value
  w : Bool
  v : Value
  isW : Bool
  G : Tr AObj
  G' : Tr AObj
  nx : Nat
  n' : Nat
  T : List Nat
structure Sg where
  fr : Nat → Option Value
  hf : Nat → Option AObj
def updF (fr : Nat → Option Value) (dst : Option Tmp) (v : Value) : Nat → Option Value := fun t => if dst = some t then some v else fr t
def Ef.heap (e : Ef) (hf : Nat → Option AObj) : Nat → Option AObj := if e.isW then e.G'.get else heapT hf e.G'.get e.T e.nx e.n'
def Ef.eff (e : Ef) (s : Sg) : Sg := ⟨updF s.fr e.o.dst e.v, e.heap s.hf⟩
def Ef.quiet (e : Ef) : Prop := e.isW = false ∧ e.n' = e.nx ∧ e.G = .leaf ∧ e.T = []
def Good (e : Ef) (s : Sg) : Prop :=
  (∀ t v, e.fr0 t = some v → s.fr t = some v) ∧ (e.isW = true → s.hf = e.G.get) ∧ (e.isW = false → ∀ i o, e.G.get i = some o → ∃ o', s.hf i = some o' ∧ Wk o o')
def Seq : List Ef → Sg → Prop
  | [], _ => True
  | e :: l, s => Good e s ∧ Seq l (e.eff s)
def foldE : List Ef → Sg → Sg
  | [], s => s
  | e :: l, s => foldE l (e.eff s)
def Rg (e : Ef) (i : Nat) : Prop := e.nx ≤ i ∧ i < e.n'
/-- What the second one knows of a block that the first one takes stays so. -/
def Away (e d : Ef) (i : Nat) : Prop := e.G.get i = none ∨ (e.T = [] ∧ ∃ o o1 o2, e.G.get i = some o ∧ d.G.get i = some o1 ∧ Wk o o1 ∧ ownO (d.G'.get i) = some o2 ∧ Wk o o2)
def Ind (ops : Array Oper) (d e : Ef) : Prop :=
  d.o.apart ops e.o = true ∧ d.n' ≤ e.nx ∧ ((d.isW = false ∧ e.isW = false ∧ (∀ i, Rg d i → e.G.get i = none) ∧ (∀ i ∈ d.T, Away e d i) ∧ (∀ i ∈ e.T, Away d e i)) ∨ d.quiet ∨ e.quiet)
/-- What the machine saw of it. -/
structure Val (C : Ctx) (ops : Array Oper) (e : Ef) : Prop where
  looks : ∀ t v, e.fr0 t = some v → t ∈ e.o.looksAt ops
  wanted : awanted ops e.fr0 e.o = some e.w
  dst : ∀ t, e.o.dst = some t → t < C.nt
  le : e.nx ≤ e.n'
  run : e.w = true → aop C (aeval C.gl e.fr0) e.nx (if e.isW then e.G else mixT e.G e.T) e.o = some (e.v, e.n', e.G')
  here : ∀ i ∈ e.T, e.G.get i ≠ none
  not : e.w = false → e.v = undef ∧ e.quiet
theorem addN_out {hf g : Nat → Option AObj} {nx n' i : Nat} (h : ¬ (nx ≤ i ∧ i < n')) : addN hf g nx n' i = hf i := by unfold addN; rw [if_neg h]
theorem heapT_out {hf g : Nat → Option AObj} {T : List Nat} {nx n' i : Nat} (h1 : i ∉ T) (h : ¬ (nx ≤ i ∧ i < n')) : heapT hf g T nx n' i = hf i := by unfold heapT; rw [if_neg h1, addN_out h]
theorem heapT_in {hf g : Nat → Option AObj} {T : List Nat} {nx n' i : Nat} (h1 : i ∈ T) : heapT hf g T nx n' i = ownO (g i) := by unfold heapT; rw [if_pos h1]
theorem heapT_new {hf g : Nat → Option AObj} {T : List Nat} {nx n' i : Nat} (h1 : i ∉ T) : heapT hf g T nx n' i = addN hf g nx n' i := by unfold heapT; rw [if_neg h1]
theorem quiet_heap {e : Ef} (q : e.quiet) (hf : Nat → Option AObj) : e.heap hf = hf := by
  unfold Ef.heap
  rw [q.1]
  simp only [Bool.false_eq_true, if_false]
  funext i
  rw [q.2.2.2, heapT_out (by simp) (by rw [q.2.1]; omega)]
theorem swap {C : Ctx} {ops : Array Oper} {d e : Ef} {s : Sg} (vd : Val C ops d) (ve : Val C ops e) (I : Ind ops d e) (fresh : ∀ i, Rg e i → s.hf i = none) (gd : Good d s) (ge : Good e (d.eff s)) :
    Good e s ∧ Good d (e.eff s) ∧ d.eff (e.eff s) = e.eff (d.eff s) ∧ (∀ i, Rg e i → (d.eff s).hf i = none) := by
  obtain ⟨hap, hle, hh⟩ := I
  obtain ⟨a1, a2, a3⟩ := Oper.apart_spec hap
  have f1 : ∀ t v, e.fr0 t = some v → s.fr t = some v := by
    intro t v hv
    have := ge.1 t v hv
    unfold Ef.eff updF at this
    simp only at this
    rw [if_neg (fun hd => a1 t hd (ve.looks t v hv))] at this
    exact this
  have f2 : ∀ t v, d.fr0 t = some v → (e.eff s).fr t = some v := by
    intro t v hv
    unfold Ef.eff updF
    simp only
    rw [if_neg (fun hd => a3 t hd (vd.looks t v hv))]
    exact gd.1 t v hv
  have f3 : updF (updF s.fr e.o.dst e.v) d.o.dst d.v = updF (updF s.fr d.o.dst d.v) e.o.dst e.v := by
    funext t
    unfold updF
    by_cases h1 : d.o.dst = some t
    · rw [if_pos h1, if_neg (a2 t h1), if_pos h1]
    · rw [if_neg h1]
      by_cases h2 : e.o.dst = some t
      · rw [if_pos h2, if_pos h2]
      · rw [if_neg h2, if_neg h2, if_neg h1]
  have all : ∀ (h1 : (e.isW = true → s.hf = e.G.get) ∧ (e.isW = false → ∀ i o, e.G.get i = some o → ∃ o', s.hf i = some o' ∧ Wk o o')) (h2 : (d.isW = true → e.heap s.hf = d.G.get) ∧ (d.isW = false → ∀ i o, d.G.get i = some o → ∃ o', e.heap s.hf i = some o' ∧ Wk o o')) (h3 : d.heap (e.heap s.hf) = e.heap (d.heap s.hf)) (h4 : ∀ i, Rg e i → d.heap s.hf i = none),
      Good e s ∧ Good d (e.eff s) ∧ d.eff (e.eff s) = e.eff (d.eff s) ∧ (∀ i, Rg e i → (d.eff s).hf i = none) := by
    intro h1 h2 h3 h4
    refine ⟨⟨f1, h1⟩, ⟨f2, h2⟩, ?_, h4⟩
    unfold Ef.eff
    simp only
    rw [f3, h3]
  have ge2 := ge.2
  have gd2 := gd.2
  change (e.isW = true → d.heap s.hf = e.G.get) ∧ (e.isW = false → ∀ i o, e.G.get i = some o → ∃ o', d.heap s.hf i = some o' ∧ Wk o o') at ge2
  rcases hh with ⟨w1, w2, w3, w4, w5⟩ | q | q
  · have hd1 : ∀ i ∈ d.T, s.hf i ≠ none := fun i hi => by
      cases hg : d.G.get i with
      | none => exact absurd hg (vd.here i hi)
      | some o => obtain ⟨o', q1, _⟩ := gd2.2 w1 i o hg; rw [q1]; simp
    have he1 : ∀ i ∈ e.T, i ∉ d.T := fun i hi hd => by
      rcases w4 i hd with h | ⟨h, _⟩
      · exact ve.here i hi h
      · rw [h] at hi; cases hi
    have he2 : ∀ i ∈ e.T, ¬ Rg d i := fun i hi hr => ve.here i hi (w3 i hr)
    have hd2 : ∀ i ∈ d.T, ¬ Rg e i := fun i hi hr => hd1 i hi (fresh i hr)
    refine all ⟨fun h => (by rw [w2] at h; cases h), fun _ i o hi => ?_⟩ ⟨fun h => (by rw [w1] at h; cases h), fun _ i o hi => ?_⟩ ?_ ?_
    · by_cases hT : i ∈ d.T
      · rcases w4 i hT with h | ⟨_, o0, o1, o2, h1, h2, h3, _⟩
        · rw [h] at hi; cases hi
        · rw [hi] at h1
          injection h1 with h1
          subst h1
          obtain ⟨o3, q1, q2⟩ := gd2.2 w1 i o1 h2
          exact ⟨o3, q1, h3.trans q2⟩
      · have := ge2.2 w2 i o hi
        unfold Ef.heap at this
        rw [w1] at this
        simp only [Bool.false_eq_true, if_false] at this
        rw [heapT_out hT (fun hr => by rw [w3 i hr] at hi; cases hi)] at this
        exact this
    · unfold Ef.heap
      rw [w2]
      simp only [Bool.false_eq_true, if_false]
      by_cases hT : i ∈ e.T
      · rcases w5 i hT with h | ⟨_, o0, o1, o2, h1, _, _, h4, h5⟩
        · rw [h] at hi; cases hi
        · rw [hi] at h1
          injection h1 with h1
          subst h1
          exact ⟨o2, by rw [heapT_in hT]; exact h4, h5⟩
      · obtain ⟨o', q1, q2⟩ := gd2.2 w1 i o hi
        refine ⟨o', ?_, q2⟩
        rw [heapT_out hT (fun hr => by rw [fresh i hr] at q1; cases q1)]
        exact q1
    · unfold Ef.heap
      rw [w1, w2]
      simp only [Bool.false_eq_true, if_false]
      funext i
      by_cases hdT : i ∈ d.T
      · have heT : i ∉ e.T := fun h => he1 i h hdT
        rw [heapT_in hdT, heapT_out heT (hd2 i hdT), heapT_in hdT]
      · by_cases heT : i ∈ e.T
        · rw [heapT_out hdT (he2 i heT), heapT_in heT, heapT_in heT]
        · rw [heapT_new hdT, heapT_new heT]
          by_cases h1 : d.nx ≤ i ∧ i < d.n'
          · have h2 : ¬ (e.nx ≤ i ∧ i < e.n') := by omega
            rw [addN_out h2]
            rw [heapT_new hdT]
            unfold addN
            rw [if_pos h1, if_pos h1, heapT_out heT h2]
          · rw [addN_out h1]
            rw [heapT_new heT]
            by_cases h2 : e.nx ≤ i ∧ i < e.n'
            · unfold addN
              rw [if_pos h2, if_pos h2, heapT_out hdT h1]
            · rw [addN_out h2, addN_out h2, heapT_out hdT h1]
    · intro i hr
      unfold Ef.heap
      rw [w1]
      simp only [Bool.false_eq_true, if_false]
      have h1 : ¬ (d.nx ≤ i ∧ i < d.n') := by unfold Rg at hr; omega
      rw [heapT_out (fun h => hd2 i h hr) h1]
      exact fresh i hr
  · rw [quiet_heap q] at ge2
    refine all ge2 ⟨fun h => (by rw [q.1] at h; cases h), fun _ i o hi => ?_⟩ (by rw [quiet_heap q, quiet_heap q]) (fun i hr => by rw [quiet_heap q]; exact fresh i hr)
    rw [q.2.2.1, leaf_get] at hi; cases hi
  · refine all ⟨fun h => (by rw [q.1] at h; cases h), fun _ i o hi => (by rw [q.2.2.1, leaf_get] at hi; cases hi)⟩ (by rw [quiet_heap q]; exact gd2) (by rw [quiet_heap q, quiet_heap q]) (fun i hr => ?_)
    unfold Rg at hr
    rw [q.2.1] at hr
    omega
theorem pull {C : Ctx} {ops : Array Oper} {e : Ef} {l2 : List Ef} (ve : Val C ops e) : ∀ (l1 : List Ef) (s : Sg), (∀ d ∈ l1, Val C ops d ∧ Ind ops d e) → (∀ i, Rg e i → s.hf i = none) → Seq (l1 ++ e :: l2) s →
    Good e s ∧ Seq (l1 ++ l2) (e.eff s) ∧ foldE (l1 ++ l2) (e.eff s) = foldE (l1 ++ e :: l2) s
  | [], s, _, _, h => ⟨h.1, h.2, rfl⟩
  | d :: l1, s, hI, fresh, h => by
    have hd := hI d List.mem_cons_self
    have hs : Seq (l1 ++ e :: l2) (d.eff s) := h.2
    -- the freshness behind d
    have fr2 : ∀ i, Rg e i → (d.eff s).hf i = none := by
      intro i hr
      show d.heap s.hf i = none
      obtain ⟨_, hle, hh⟩ := hd.2
      rcases hh with ⟨w1, w2, w3, w4, w5⟩ | q | q
      · unfold Ef.heap
        rw [w1]
        simp only [Bool.false_eq_true, if_false]
        rw [heapT_out (fun hT => ?_) (by unfold Rg at hr; omega)]
        · exact fresh i hr
        · have := fresh i hr
          cases hg : d.G.get i with
          | none => exact hd.1.here i hT hg
          | some o => obtain ⟨o', q1, _⟩ := h.1.2.2 w1 i o hg; rw [q1] at this; cases this
      · rw [quiet_heap q]; exact fresh i hr
      · unfold Rg at hr
        rw [q.2.1] at hr
        omega
    obtain ⟨k1, k2, k3⟩ := pull ve l1 (d.eff s) (fun x hx => hI x (List.mem_cons_of_mem _ hx)) fr2 hs
    obtain ⟨j1, j2, j3, _⟩ := swap hd.1 ve hd.2 fresh h.1 k1
    refine ⟨j1, ⟨j2, ?_⟩, ?_⟩
    · show Seq (l1 ++ l2) (d.eff (e.eff s))
      rw [j3]; exact k2
    · show foldE (l1 ++ l2) (d.eff (e.eff s)) = foldE (l1 ++ e :: l2) (d.eff s)
      rw [j3]; exact k3
theorem FR.putF {m : M} {nt : Nat} {fr : Nat → Option Value} {a : Act} (f : FR m nt fr a) {dst : Option Tmp} {v v' : Value} (r : VR m v v') (hd : ∀ t, dst = some t → t < nt) : FR m nt (updF fr dst v) (a.put dst v') := by
  cases dst with
  | none =>
    have : updF fr none v = fr := by funext t; unfold updF; rw [if_neg (by simp)]
    rw [this]; exact f
  | some d =>
    refine ⟨by simp [Act.put, f.size], f.defers, fun t u hu => ?_⟩
    unfold updF at hu
    by_cases htd : d = t
    · subst htd
      rw [if_pos rfl] at hu
      injection hu with hu
      subst hu
      exact ⟨v', by simp [Act.put, f.size, hd d rfl], r⟩
    · rw [if_neg (by simpa using htd)] at hu
      obtain ⟨u', h1, h2⟩ := f.get t u hu
      exact ⟨u', by simp only [Act.put]; rw [Array.getElem?_setIfInBounds_ne htd]; exact h1, h2⟩
theorem exec {C : Ctx} (hng : Base C.P C.gl) (hc : CallOK C.P C.gl C.call) {ops : Array Oper} {e : Ef} (ve : Val C ops e) {s : Sg} (ge : Good e s) {F : Nat → Prop} {w0 w : World} {m : M} {a : Act} (R : RelF F w0 m s.hf w) (G : GL C.gl m) (f : FR m C.nt s.fr a)
    (fresh : ∀ i, Rg e i → ¬ m.dom i) {i : Nat} (hi : ops[i]? = some e.o) {K : Act → World → Prop} {Q : Exit → Act → World → Prop}
    (hK : ∀ m' a' w', Ext m m' → Dom m e.nx e.n' m' → FR m' C.nt (e.eff s).fr a' → RelF F w0 m' (e.eff s).hf w' → K a' w') : wpOp C.P ops Q i K a w := by
  have f0 : FR m C.nt e.fr0 a := ⟨f.size, f.defers, fun t v hv => f.get t v (ge.1 t v hv)⟩
  unfold wpOp
  rw [hi]
  simp only
  rw [awanted_sound f0 ve.wanted]
  cases hw : e.w with
  | false =>
    rw [if_neg (by simp)]
    obtain ⟨h1, q⟩ := ve.not hw
    refine hK m _ w (Ext.refl m) (by rw [q.2.1]; exact Dom.refl m _) ?_ ?_
    · show FR m C.nt (updF s.fr e.o.dst e.v) _
      rw [h1]
      exact f.putF (VR.undef m) ve.dst
    · show RelF F w0 m (e.heap s.hf) w
      rw [quiet_heap q]; exact R
  | true =>
    rw [if_pos rfl]
    refine .inl ?_
    have hrun := ve.run hw
    cases hW : e.isW with
    | true =>
      rw [hW] at hrun
      simp only [if_true] at hrun
      have hG := ge.2.1 hW
      rw [hG] at R
      refine aop_sound hng hc R G (aeval_sound f0 G) (fun i h1 h2 => fresh i ⟨h1, h2⟩) hrun (fun m' v' w' x1 d1 r1 R1 => hK m' _ w' x1 d1 ((f.ext x1).putF r1 ve.dst) ?_)
      show RelF F w0 m' (e.heap s.hf) w'
      unfold Ef.heap
      rw [hW]
      exact R1
    | false =>
      rw [hW] at hrun
      simp only [Bool.false_eq_true, if_false] at hrun
      refine exec_R hng hc R (ge.2.2 hW) G (aeval_sound f0 G) (fun i h1 h2 => fresh i ⟨h1, h2⟩) hrun (fun m' v' w' x1 d1 r1 R1 => hK m' _ w' x1 d1 ((f.ext x1).putF r1 ve.dst) ?_)
      show RelF F w0 m' (e.heap s.hf) w'
      unfold Ef.heap
      rw [hW]
      exact R1
end
end Go.Proofs.YtcccapeaeehjiaaGreatDoor.AM
