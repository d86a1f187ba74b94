/- The machine's memory moves with the model's; operations that touch no memory. -/
import Derived.Test.YtcccapeaeehjiaaGreatDoorAMa
namespace Go.Proofs.YtcccapeaeehjiaaGreatDoor.AM
noncomputable section
open Go Go.RowKit
set_option linter.unusedVariables false
set_option linter.unusedSimpArgs false
def M.add (m : M) (nx : Nat) (a : Addr) (sz es : Nat) : M := ⟨fun i => i = nx ∨ m.dom i, fun i => if i = nx then a else m.loc i, fun i => if i = nx then sz else m.sz i, fun i => if i = nx then es else m.es i, m.wv⟩
theorem M.add_ext (m : M) (nx : Nat) (a : Addr) (sz es : Nat) (hn : ¬ m.dom nx) : Ext m (m.add nx a sz es) :=
  ⟨fun i hi => .inr hi, fun i hi => if_neg (fun (e : i = nx) => hn (e ▸ hi)), fun i hi => if_neg (fun (e : i = nx) => hn (e ▸ hi)), fun i hi => if_neg (fun (e : i = nx) => hn (e ▸ hi)), rfl⟩
theorem dom_same (p : Nat → Prop) (n : Nat) : ∀ i, p i ↔ p i ∨ (n ≤ i ∧ i < n) := fun i => ⟨.inl, fun h => h.elim id fun q => absurd q.1 (by omega)⟩
theorem dom_add (m : M) (nx : Nat) (a : Addr) (sz es : Nat) : ∀ i, (m.add nx a sz es).dom i ↔ m.dom i ∨ (nx ≤ i ∧ i < nx + 1) := fun i =>
  ⟨fun h => h.elim (fun e => .inr (by omega)) .inl, fun h => h.elim .inr (fun e => .inl (by omega))⟩
section
variable {F : Nat → Prop} {w0 w w' : World} {m : M} {h h' : Tr AObj}
/-- What is new (or a row that has moved): one more block that is told. -/
theorem Rel.addO (R : Rel F w0 m h w) (nx : Nat) (hn : ¬ m.dom nx) (hb : Keep F w w') (sub : ∀ i o, h'.get i = some o → h.get i = some o) (g : Nat)
    (same : ∀ i o, h'.get i = some o → o.own = true → w'.heap[(m.loc i).block]? = w.heap[(m.loc i).block]? ∧ (m.loc i).block ≠ g)
    (hg : ¬ F g) (cells : List Value) (cur : Array Value) (e es : Nat) (fr : Nat × Nat) (hw : HoldsO w' g ⟨cells, e, true, es⟩ cur fr) (hfr : fr.1 = fr.2 ∨ (cur.size ≤ fr.1 ∧ es = 1))
    (hl : cells.length ≤ cur.size) (hc : ∀ (j : Nat) (v : Value), cells[j]? = some v → ∃ v', cur[j]? = some v' ∧ CR m v v') (heq : es = 0 → cells.length = cur.size) :
    Rel F w0 (m.add nx ⟨g, 0, none⟩ cur.size es) (h'.set nx (some ⟨cells, e, true, es⟩)) w' := by
  have hx := M.add_ext m nx ⟨g, 0, none⟩ cur.size es hn
  have hlt : ∀ i o, (h'.set nx (some ⟨cells, e, true, es⟩)).get i = some o → (i = nx ∧ o = ⟨cells, e, true, es⟩) ∨ (i ≠ nx ∧ h'.get i = some o ∧ m.dom i) := by
    intro i o ho
    rw [Tr.get_set] at ho
    by_cases hi : i = nx
    · rw [if_pos hi] at ho
      injection ho with ho
      exact .inl ⟨hi, ho.symm⟩
    · rw [if_neg hi] at ho
      exact .inr ⟨hi, ho, R.lt i o (sub i o ho)⟩
  have hnew : (m.add nx ⟨g, 0, none⟩ cur.size es).loc nx = ⟨g, 0, none⟩ := if_pos rfl
  refine ⟨R.below.trans hb, fun k hk => Nat.lt_of_lt_of_le (R.base_le k hk) hb.size, ?_, ?_, ?_, ?_, ?_⟩
  · intro i o ho
    rcases hlt i o ho with ⟨hi, _⟩ | ⟨_, _, hi⟩
    · exact .inl hi
    · exact .inr hi
  · intro i o ho
    rcases hlt i o ho with ⟨rfl, rfl⟩ | ⟨hi, ho', hlt'⟩
    · exact if_pos rfl
    · rw [hx.es i hlt']; exact R.es i o (sub i o ho')
  · intro i o ho hown
    rcases hlt i o ho with ⟨rfl, rfl⟩ | ⟨hi, ho', hlt'⟩
    · refine ⟨g, cur, fr, hnew, hg, hw, hfr, (if_pos rfl).symm, ⟨hl, heq⟩, fun j v hv => ?_⟩
      obtain ⟨v', h1, h2⟩ := hc j v hv
      exact ⟨v', h1, h2.ext hx⟩
    · obtain ⟨g', cur', fr', h1, h2, h3, h4, h5, h6, h7⟩ := R.own i o (sub i o ho') hown
      refine ⟨g', cur', fr', (hx.loc i hlt').trans h1, h2, ?_, h4, h5.trans (hx.sz i hlt').symm, h6, fun j v hv => ?_⟩
      · have := (same i o ho' hown).1
        rw [h1] at this
        exact h3.congr this
      · obtain ⟨v', k1, k2⟩ := h7 j v hv
        exact ⟨v', k1, k2.ext hx⟩
  · intro i o ho hown
    rcases hlt i o ho with ⟨rfl, rfl⟩ | ⟨hi, ho', hlt'⟩
    · cases hown
    · obtain ⟨h1, h2⟩ := R.ro i o (sub i o ho') hown
      refine ⟨by rw [hx.loc i hlt']; exact h1, fun j v hv => ?_⟩
      obtain ⟨v', k1, k2⟩ := h2 j v hv
      refine ⟨v', ?_, k2.ext hx⟩
      rw [mv_ext (a := ⟨i, j, none⟩) hx hlt', ← k1]
      exact World.cell?_of_block (hb.block _ h1)
  · intro i k oi ok hi hk ho1 ho2 hne
    rcases hlt i oi hi with ⟨rfl, rfl⟩ | ⟨hi1, hi2, hi3⟩
    · rcases hlt k ok hk with ⟨rfl, rfl⟩ | ⟨hk1, hk2, hk3⟩
      · exact absurd rfl hne
      · rw [hnew, hx.loc k hk3]
        exact fun e => (same k ok hk2 ho2).2 e.symm
    · rcases hlt k ok hk with ⟨rfl, rfl⟩ | ⟨hk1, hk2, hk3⟩
      · rw [hnew, hx.loc i hi3]
        exact (same i oi hi2 ho1).2
      · rw [hx.loc i hi3, hx.loc k hk3]
        exact R.apart i k oi ok (sub _ _ hi2) (sub _ _ hk2) ho1 ho2 hne
theorem Rel.add (R : Rel F w0 m h w) (nx : Nat) (hn : ¬ m.dom nx) (hb : Keep F w w') (sub : ∀ i o, h'.get i = some o → h.get i = some o) (g : Nat)
    (same : ∀ i o, h'.get i = some o → o.own = true → w'.heap[(m.loc i).block]? = w.heap[(m.loc i).block]? ∧ (m.loc i).block ≠ g)
    (hg : ¬ F g) (cells : List Value) (cur : Array Value) (e es : Nat) (fr : Nat × Nat) (hw : w'.heap[g]? = some (.cells cur e fr)) (hfr : fr.1 = fr.2 ∨ (cur.size ≤ fr.1 ∧ es = 1))
    (hl : cells.length ≤ cur.size) (hc : ∀ (j : Nat) (v : Value), cells[j]? = some v → ∃ v', cur[j]? = some v' ∧ CR m v v') (heq : es = 0 → cells.length = cur.size) (hes : es ≠ ITER) :
    Rel F w0 (m.add nx ⟨g, 0, none⟩ cur.size es) (h'.set nx (some ⟨cells, e, true, es⟩)) w' := R.addO nx hn hb sub g same hg cells cur e es fr (.inl ⟨hes, hw⟩) hfr hl hc heq
theorem Rel.same (R : Rel F w0 m h w) (hb : Keep F w w') (same : ∀ i o, h.get i = some o → o.own = true → w'.heap[(m.loc i).block]? = w.heap[(m.loc i).block]?) : Rel F w0 m h w' := by
  refine ⟨R.below.trans hb, fun k hk => Nat.lt_of_lt_of_le (R.base_le k hk) hb.size, R.lt, R.es, ?_, ?_, R.apart⟩
  · intro i o ho hown
    obtain ⟨g', cur', fr', h1, h2, h3, h4, h5, h6, h7⟩ := R.own i o ho hown
    have := same i o ho hown
    rw [h1] at this
    exact ⟨g', cur', fr', h1, h2, h3.congr this, h4, h5, h6, h7⟩
  · intro i o ho hown
    obtain ⟨h1, h2⟩ := R.ro i o ho hown
    refine ⟨h1, fun j v hv => ?_⟩
    obtain ⟨v', k1, k2⟩ := h2 j v hv
    exact ⟨v', by rw [← k1]; exact World.cell?_of_block (hb.block _ h1), k2⟩
theorem Rel.drew (R : Rel F w0 m h w) : Rel F w0 m h { w with drawn := w.drawn + 1 } := R.same ⟨rfl, rfl, rfl, Nat.le_refl _, fun _ _ => rfl⟩ (fun _ _ _ _ => rfl)
theorem Rel.sub (R : Rel F w0 m h w) (sub : ∀ i o, h'.get i = some o → h.get i = some o) : Rel F w0 m h' w :=
  ⟨R.below, R.base_le, fun i o ho => R.lt i o (sub i o ho), fun i o ho => R.es i o (sub i o ho), fun i o ho => R.own i o (sub i o ho), fun i o ho => R.ro i o (sub i o ho), fun i k oi ok hi hk => R.apart i k oi ok (sub _ _ hi) (sub _ _ hk)⟩
/-- A block of one's own is written. -/
theorem Rel.putO (R : Rel F w0 m h w) {i : Nat} {o : AObj} (hi : h.get i = some o) (hown : o.own = true) (o' : AObj) (hown' : o'.own = true) (hes' : o'.es = o.es) (cur' : Array Value) (fr : Nat × Nat)
    (hb : Keep F w w') (hw : HoldsO w' (m.loc i).block o' cur' fr) (hfr : fr.1 = fr.2 ∨ (cur'.size ≤ fr.1 ∧ o.es = 1)) (hs : cur'.size = m.sz i) (hl : o'.cells.length ≤ cur'.size)
    (heq : o.es = 0 → o'.cells.length = cur'.size) (oth : ∀ k, k ≠ (m.loc i).block → w'.heap[k]? = w.heap[k]?) (hc : ∀ (j : Nat) (v : Value), o'.cells[j]? = some v → ∃ v', cur'[j]? = some v' ∧ CR m v v') :
    Rel F w0 m (h.set i (some o')) w' := by
  obtain ⟨g, cur, fr0, h1, h2, h3, h4, h5, h6, h7⟩ := R.own i o hi hown
  have hb' : ∀ k : Nat, F k → k ≠ (m.loc i).block := fun k hk e => by rw [h1] at e; simp only at e; exact h2 (e ▸ hk)
  have hcase : ∀ k ok, (h.set i (some o')).get k = some ok → (k = i ∧ ok = o') ∨ (k ≠ i ∧ h.get k = some ok) := by
    intro k ok hk
    rw [Tr.get_set] at hk
    by_cases e : k = i
    · rw [if_pos e] at hk; injection hk with hk; exact .inl ⟨e, hk.symm⟩
    · rw [if_neg e] at hk; exact .inr ⟨e, hk⟩
  refine ⟨R.below.trans hb, fun k hk => Nat.lt_of_lt_of_le (R.base_le k hk) hb.size, ?_, ?_, ?_, ?_, ?_⟩
  · intro k ok hk
    rcases hcase k ok hk with ⟨rfl, _⟩ | ⟨_, hk'⟩
    · exact R.lt _ _ hi
    · exact R.lt _ _ hk'
  · intro k ok hk
    rcases hcase k ok hk with ⟨rfl, rfl⟩ | ⟨_, hk'⟩
    · rw [hes']; exact R.es k o hi
    · exact R.es _ _ hk'
  · intro k ok hk hko
    rcases hcase k ok hk with ⟨rfl, rfl⟩ | ⟨hne, hk'⟩
    · refine ⟨g, cur', fr, h1, h2, ?_, by rw [hes']; exact hfr, hs, ⟨hl, by rw [hes']; exact heq⟩, hc⟩
      rw [h1] at hw; exact hw
    · obtain ⟨g', c', fr', k1, k2, k3, k4, k5, k6, k7⟩ := R.own k ok hk' hko
      refine ⟨g', c', fr', k1, k2, ?_, k4, k5, k6, k7⟩
      have := R.apart k i ok o hk' hi hko hown hne
      rw [k1] at this
      exact k3.congr (oth g' this)
  · intro k ok hk hko
    rcases hcase k ok hk with ⟨rfl, rfl⟩ | ⟨hne, hk'⟩
    · rw [hown'] at hko; cases hko
    · obtain ⟨k1, k2⟩ := R.ro k ok hk' hko
      refine ⟨k1, fun j v hv => ?_⟩
      obtain ⟨v', e1, e2⟩ := k2 j v hv
      exact ⟨v', by rw [← e1]; exact World.cell?_of_block (oth _ (hb' _ k1)), e2⟩
  · intro a b oa ob ha hb2 h1' h2' hne
    rcases hcase a oa ha with ⟨rfl, rfl⟩ | ⟨ha1, ha2⟩
    · rcases hcase b ob hb2 with ⟨rfl, rfl⟩ | ⟨hb1, hb3⟩
      · exact absurd rfl hne
      · exact R.apart _ _ o ob hi hb3 hown h2' hne
    · rcases hcase b ob hb2 with ⟨rfl, rfl⟩ | ⟨hb1, hb3⟩
      · exact R.apart _ _ oa o ha2 hi h1' hown hne
      · exact R.apart _ _ oa ob ha2 hb3 h1' h2' hne
theorem Rel.put (R : Rel F w0 m h w) {i : Nat} {o : AObj} (hi : h.get i = some o) (hown : o.own = true) (cells : List Value) (cur' : Array Value) (fr : Nat × Nat)
    (hb : Keep F w w') (hw : w'.heap[(m.loc i).block]? = some (.cells cur' o.elem fr)) (hfr : fr.1 = fr.2 ∨ (cur'.size ≤ fr.1 ∧ o.es = 1)) (hs : cur'.size = m.sz i) (hl : cells.length ≤ cur'.size)
    (heq : o.es = 0 → cells.length = cur'.size) (hes : o.es ≠ ITER) (oth : ∀ k, k ≠ (m.loc i).block → w'.heap[k]? = w.heap[k]?) (hc : ∀ (j : Nat) (v : Value), cells[j]? = some v → ∃ v', cur'[j]? = some v' ∧ CR m v v') :
    Rel F w0 m (h.set i (some { o with cells := cells })) w' :=
  R.putO hi hown { o with cells := cells } hown rfl cur' fr hb (.inl ⟨hes, hw⟩) hfr hs hl heq oth hc
end
/-! ### operations that touch no memory -/
def pureRun {α : Type} (P : Program) : Sem α → Option α
  | .pure a => some a
  | .program k => pureRun P (k P)
  | .mark _ k => pureRun P k
  | _ => none
theorem pureRun_run {α : Type} {P : Program} (s : Sem α) (a : α) (h : pureRun P s = some a) (w : World) : s.run P w = .ok a w := by
  induction s with
  | pure b => unfold pureRun at h; injection h with h; rw [h]; rfl
  | program k ih => exact ih P h
  | mark _ k ih => exact ih h
  | load => cases h
  | store => cases h
  | new => cases h
  | shape => cases h
  | freeze => cases h
  | frozen => cases h
  | getObj => cases h
  | setObj => cases h
  | choose => cases h
  | sys => cases h
  | halt => cases h
def flat1 : Value → Bool
  | .agg cs => cs.all flatC
  | v => flatC v
def flatV : Value → Bool
  | .tuple vs => vs.all flat1
  | v => flat1 v
theorem flatC_eq {m : M} {v v' : Value} (hf : flatC v = true) (h : CR m v v') : v' = v := VR.inv_flat hf (.cell h)
theorem A2.eq_of {R : Value → Value → Prop} {xs ys : Array Value} (h : A2 R xs ys) (k : ∀ x ∈ xs, ∀ y, R x y → y = x) : ys = xs := by
  apply Array.ext_getElem?
  intro i
  cases hx : xs[i]? with
  | none =>
    have : xs.size ≤ i := by simpa using hx
    rw [Array.getElem?_eq_none (by rw [← h.1]; exact this)]
  | some x =>
    obtain ⟨y, hy, hr⟩ := h.2 i x hx
    rw [hy, k x (Array.mem_of_getElem? hx) y hr]
theorem flat1_eq {m : M} {v v' : Value} (hf : flat1 v = true) (h : VR1 m v v') : v' = v := by
  cases h with
  | c h => exact flatC_eq (by cases v <;> first | exact hf | (cases h; assumption)) h
  | agg h =>
    rw [h.eq_of]
    intro x hx y hr
    unfold flat1 at hf
    rw [Array.all_eq_true'] at hf
    exact flatC_eq (hf x hx) hr
theorem flatV_eq {m : M} {v v' : Value} (hf : flatV v = true) (h : VR m v v') : v' = v := by
  cases h with
  | one h => exact flat1_eq (by cases v <;> first | exact hf | (cases h; rename_i h; cases h; rename_i h; simp [flatC] at h)) h
  | tup h =>
    rw [h.eq_of]
    intro x hx y hr
    unfold flatV at hf
    rw [Array.all_eq_true'] at hf
    exact flat1_eq (hf x hx) hr
theorem flat1_VR (m : M) {v : Value} (hf : flat1 v = true) : VR1 m v v := by
  unfold flat1 at hf
  split at hf
  · rename_i cs
    rw [Array.all_eq_true'] at hf
    exact .agg ⟨rfl, fun i x hx => ⟨x, hx, .flat (hf x (Array.mem_of_getElem? hx))⟩⟩
  · exact .c (.flat hf)
theorem flatV_VR (m : M) {v : Value} (hf : flatV v = true) : VR m v v := by
  unfold flatV at hf
  split at hf
  · rename_i cs
    rw [Array.all_eq_true'] at hf
    exact .tup ⟨rfl, fun i x hx => ⟨x, hx, flat1_VR m (hf x (Array.mem_of_getElem? hx))⟩⟩
  · exact .one (flat1_VR m hf)
/-- Operations whose answer hangs on their operands alone. -/
def pureOp : Op → Bool
  | .move _ | .assign _ | .pick .. | .binOp .. | .unOp .. | .convert .. | .index .. | .extract .. | .field .. | .nilCheck _ | .slice .. => true
  | _ => false
theorem execOp_congr {ρ ρ' : Operand → Value} (o : Oper) (hp : pureOp o.op = true) (h : ∀ x ∈ o.op.operands, ρ x = ρ' x) : execOp ρ o = execOp ρ' o := by
  unfold execOp
  cases ho : o.op <;> rw [ho] at hp h <;> simp only [pureOp, Bool.false_eq_true] at hp <;> simp only [Op.operands] at h
  case move x => simp only; rw [h x (by simp)]
  case assign x => simp only; rw [h x (by simp)]
  case pick c a b => simp only; rw [h c (by simp), h a (by simp), h b (by simp)]
  case nilCheck x => simp only; rw [h x (by simp)]
  case binOp op t x y yt => simp only; rw [h x (by simp), h y (by simp)]
  case unOp op t x => simp only; rw [h x (by simp)]
  case convert s d x => simp only; rw [h x (by simp)]
  case slice t x lo hi mx =>
    simp only
    rw [h x (by simp)]
    have e : ∀ z : Option Operand, (∀ y ∈ z, ρ y = ρ' y) → z.map ρ = z.map ρ' := by
      intro z hz
      cases z with
      | none => rfl
      | some y => simp [hz y rfl]
    rw [e lo (fun y hy => h y (by cases lo <;> simp_all)), e hi (fun y hy => h y (by cases hi <;> simp_all)), e mx (fun y hy => h y (by cases mx <;> simp_all))]
  case field t x f => simp only; rw [h x (by simp)]
  case index t x i => simp only; rw [h x (by simp), h i (by simp)]
  case extract t i => simp only; rw [h t (by simp)]
end
end Go.Proofs.YtcccapeaeehjiaaGreatDoor.AM
