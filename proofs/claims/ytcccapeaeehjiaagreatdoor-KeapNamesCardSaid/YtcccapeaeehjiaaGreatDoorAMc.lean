/- The machine's operations on memory, each sound: load, store, new variables, addresses, cuts. -/
import Derived.Test.YtcccapeaeehjiaaGreatDoorAMb
namespace Go.Proofs.YtcccapeaeehjiaaGreatDoor.AM
noncomputable section
open Go Go.RowKit
set_option linter.unusedVariables false
set_option linter.unusedSimpArgs false
/-- The model comes to what the machine says: a value, how many numbers are given, the memory. -/
def Ok (P : Program) (F : Nat → Prop) (w0 : World) (m : M) (w : World) (s : Sem Value) (v : Value) (n n' : Nat) (h' : Tr AObj) : Prop :=
  ∃ m' v' w', s.run P w = .ok v' w' ∧ Ext m m' ∧ (∀ i, m'.dom i ↔ m.dom i ∨ (n ≤ i ∧ i < n')) ∧ VR m' v v' ∧ Rel F w0 m' h' w'
def tsize (P : Program) (t : Nat) : Option Nat := (P.info? t).map (·.size)
def aggD : TypeDesc → Bool
  | .struct _ => true
  | .array _ _ => true
  | _ => false
def tagg (P : Program) (t : Nat) : Option Bool := (P.underlying t).map aggD
section
variable {P : Program} {F : Nat → Prop} {w0 w : World} {m : M} {h : Tr AObj} {nx : Nat}
theorem run_isAgg' {t : Nat} {b : Bool} (hb : tagg P t = some b) : (isAgg t).run P w = .ok b w := by
  unfold tagg at hb
  obtain ⟨d, hd, rfl⟩ := Option.map_eq_some_iff.1 hb
  unfold isAgg
  simp only [Sem.run_bind, run_underlying hd, Result.andThen_ok]
  cases d <;> rfl
theorem run_sizeOf' {t n : Nat} (hn : tsize P t = some n) : (sizeOf t).run P w = .ok n w := by
  unfold tsize at hn
  obtain ⟨i, hi, rfl⟩ := Option.map_eq_some_iff.1 hn
  simp [sizeOf, typeInfo, hi]
def aload (P : Program) (h : Tr AObj) (t : Nat) : Value → Option Value
  | .pointer (some a) => (tagg P t).bind fun b => if b then (tsize P t).bind fun n => (agets h a.block a.off n).map fun vs => .agg vs.toArray else aget h a.block a.off
  | _ => none
theorem A2.of_lists {R : Value → Value → Prop} {vs vs' : List Value} (hl : vs'.length = vs.length) (hh : ∀ (j : Nat) (v : Value), vs[j]? = some v → ∃ v', vs'[j]? = some v' ∧ R v v') : A2 R vs.toArray vs'.toArray :=
  ⟨by simp [hl], fun i x hx => by simpa using hh i x (by simpa using hx)⟩
theorem aload_sound (R : Rel F w0 m h w) {t : Nat} {a a' v : Value} (ha : VR m a a') (e : aload P h t a = some v) : Ok P F w0 m w (Instr.loadAt t a') v nx nx h := by
  unfold aload at e
  split at e
  · rename_i ad
    obtain ⟨hb, rfl⟩ := ha.inv_ptr
    obtain ⟨b, hb1, e⟩ := Option.bind_eq_some_iff.1 e
    cases b with
    | true =>
      simp only [if_true] at e
      obtain ⟨n, hn, e⟩ := Option.bind_eq_some_iff.1 e
      obtain ⟨vs, hvs, rfl⟩ := Option.map_eq_some_iff.1 e
      obtain ⟨vs', h1, h2, h3⟩ := agets_sound R hvs
      have hl := agets_len hvs
      have hrun := run_loadCells_list (P := P) w (mv m ad) vs' h2
      refine ⟨m, .agg vs'.toArray, w, ?_, Ext.refl m, dom_same _ _, .one (.agg (A2.of_lists (by omega) h3)), R⟩
      unfold Instr.loadAt Instr.sureAddr loadVar
      simp only [Sem.run_bind, Sem.run_pure, Result.andThen_ok, run_isAgg' hb1, if_true, run_sizeOf' hn]
      rw [← h1, hrun]
      rfl
    | false =>
      simp only [Bool.false_eq_true, if_false] at e
      obtain ⟨v', h1, h2⟩ := aget_sound R e
      refine ⟨m, v', w, ?_, Ext.refl m, dom_same _ _, .cell h2, R⟩
      unfold Instr.loadAt Instr.sureAddr loadVar
      simp only [Sem.run_bind, Sem.run_pure, Result.andThen_ok, run_isAgg' hb1, Bool.false_eq_true, if_false]
      unfold load
      simp [Sem.run, h1]
  · cases e
/-! ### writing cells -/
def lput : List Value → Nat → List Value → List Value
  | l, _, [] => l
  | l, o, v :: r => lput (l.set o v) (o + 1) r
def aputA : Array Value → Nat → List Value → Array Value
  | c, _, [] => c
  | c, o, v :: r => aputA (c.setIfInBounds o v) (o + 1) r
inductive L2 (R : Value → Value → Prop) : List Value → List Value → Prop where
  | nil : L2 R [] []
  | cons {x y : Value} {xs ys : List Value} (h : R x y) (t : L2 R xs ys) : L2 R (x :: xs) (y :: ys)
theorem L2.len {R : Value → Value → Prop} {xs ys : List Value} (h : L2 R xs ys) : xs.length = ys.length := by
  induction h with
  | nil => rfl
  | cons _ _ ih => simp [ih]
theorem L2.imp {R S : Value → Value → Prop} {xs ys : List Value} (h : L2 R xs ys) (k : ∀ x y, R x y → S x y) : L2 S xs ys := by
  induction h with
  | nil => exact .nil
  | cons a _ ih => exact .cons (k _ _ a) ih
theorem L2.get {R : Value → Value → Prop} {xs ys : List Value} (h : L2 R xs ys) : ∀ (j : Nat) (v : Value), xs[j]? = some v → ∃ v', ys[j]? = some v' ∧ R v v' := by
  induction h with
  | nil => intro j v hv; simp at hv
  | cons a t ih =>
    intro j v hv
    cases j with
    | zero => simp only [List.getElem?_cons_zero, Option.some.injEq] at hv; subst hv; exact ⟨_, rfl, a⟩
    | succ j => exact ih j v (by simpa using hv)
theorem L2.mem {R : Value → Value → Prop} {xs ys : List Value} (h : L2 R xs ys) : ∀ y ∈ ys, ∃ x ∈ xs, R x y := by
  induction h with
  | nil => intro y hy; cases hy
  | cons a t ih =>
    intro y hy
    rcases List.mem_cons.1 hy with rfl | hy
    · exact ⟨_, List.mem_cons_self, a⟩
    · obtain ⟨x, hx, r⟩ := ih y hy
      exact ⟨x, List.mem_cons_of_mem _ hx, r⟩
theorem L2.of_get {R : Value → Value → Prop} : ∀ {xs ys : List Value}, ys.length = xs.length → (∀ (j : Nat) (v : Value), xs[j]? = some v → ∃ v', ys[j]? = some v' ∧ R v v') → L2 R xs ys
  | [], [], _, _ => .nil
  | [], _ :: _, h, _ => by simp at h
  | _ :: _, [], h, _ => by simp at h
  | x :: xs, y :: ys, h, k => .cons (by obtain ⟨v', h1, h2⟩ := k 0 x rfl; simp only [List.getElem?_cons_zero, Option.some.injEq] at h1; rw [h1]; exact h2)
      (L2.of_get (by simpa using h) (fun j v hv => by simpa using k (j + 1) v (by simpa using hv)))
theorem A2.lists {R : Value → Value → Prop} {xs ys : Array Value} (h : A2 R xs ys) : L2 R xs.toList ys.toList :=
  L2.of_get (by simpa using h.1.symm) (fun j v hv => by simpa using h.2 j v (by simpa using hv))
theorem L2.arrays {R : Value → Value → Prop} {xs ys : List Value} (h : L2 R xs ys) : A2 R xs.toArray ys.toArray := A2.of_lists h.len.symm h.get
/-- The first cells of a row are told. -/
def PR (m : M) (cells : List Value) (cur : Array Value) : Prop := cells.length ≤ cur.size ∧ ∀ (j : Nat) (v : Value), cells[j]? = some v → ∃ v', cur[j]? = some v' ∧ CR m v v'
theorem PR.set {cells : List Value} {cur : Array Value} (p : PR m cells cur) {v v' : Value} (r : CR m v v') (o : Nat) : PR m (cells.set o v) (cur.setIfInBounds o v') := by
  refine ⟨by simp [p.1], fun j x hx => ?_⟩
  rw [List.getElem?_set] at hx
  by_cases hj : o = j
  · subst hj
    rw [if_pos rfl] at hx
    by_cases hlt : o < cells.length
    · rw [if_pos hlt] at hx
      injection hx with hx
      subst hx
      exact ⟨v', by simp [Nat.lt_of_lt_of_le hlt p.1], r⟩
    · rw [if_neg hlt] at hx; cases hx
  · rw [if_neg hj] at hx
    obtain ⟨x', h1, h2⟩ := p.2 j x hx
    exact ⟨x', by rw [Array.getElem?_setIfInBounds_ne hj]; exact h1, h2⟩
theorem PR.put {vs vs' : List Value} (r : L2 (CR m) vs vs') : ∀ {cells : List Value} {cur : Array Value} (o : Nat), PR m cells cur → PR m (lput cells o vs) (aputA cur o vs') := by
  induction r with
  | nil => intro cells cur o p; exact p
  | cons a t ih => intro cells cur o p; exact ih (o + 1) (p.set a o)
theorem length_lput : ∀ (vs : List Value) (l : List Value) (o : Nat), (lput l o vs).length = l.length
  | [], _, _ => rfl
  | v :: r, l, o => by unfold lput; rw [length_lput r]; simp
theorem size_aputA : ∀ (vs : List Value) (c : Array Value) (o : Nat), (aputA c o vs).size = c.size
  | [], _, _ => rfl
  | v :: r, c, o => by unfold aputA; rw [size_aputA r]; simp
theorem heap_setCells (b : Nat) : ∀ (vs : List Value) (o : Nat) (w : World) (cur : Array Value) (e : TypeId) (fr : Nat × Nat), w.heap[b]? = some (.cells cur e fr) → (w.setCells b o vs).heap[b]? = some (.cells (aputA cur o vs) e fr)
  | [], _, _, _, _, _, hw => hw
  | v :: r, o, w, cur, e, fr, hw => by
    rw [World.setCells]
    exact heap_setCells b r (o + 1) _ _ e fr (by simp [World.setCell, Array.getElem?_modify, hw])
theorem heap_setCells_ne (b k : Nat) (hk : k ≠ b) : ∀ (vs : List Value) (o : Nat) (w : World), (w.setCells b o vs).heap[k]? = w.heap[k]?
  | [], _, _ => rfl
  | v :: r, o, w => by
    rw [World.setCells, heap_setCells_ne b k hk r (o + 1)]
    simp [World.setCell, Array.getElem?_modify, Ne.symm hk]
theorem below_setCells' (b : Nat) (hb : ¬ F b) : ∀ (vs : List Value) (o : Nat) (w w1 : World), Keep F w w1 → Keep F w (w1.setCells b o vs)
  | [], _, _, _, h1 => h1
  | v :: r, o, w, w1, h1 => by
    rw [World.setCells]
    exact below_setCells' b hb r (o + 1) w _ (h1.setCell hb v)
def aput (h : Tr AObj) (a : Addr) (vs : List Value) : Option (Tr AObj) :=
  (h.get a.block).bind fun o => if o.own && decide (a.off + vs.length ≤ o.cells.length) then some (h.set a.block (some { o with cells := lput o.cells a.off vs })) else none
theorem aput_sound (R : Rel F w0 m h w) {a : Addr} {vs vs' : List Value} (r : L2 (CR m) vs vs') {h' : Tr AObj} (e : aput h a vs = some h') :
    ∃ w', (storeCells (mv m a) vs').run P w = .ok () w' ∧ Rel F w0 m h' w' := by
  unfold aput at e
  obtain ⟨o, ho, e⟩ := Option.bind_eq_some_iff.1 e
  split at e
  · rename_i hc
    simp only [Bool.and_eq_true, decide_eq_true_eq] at hc
    injection e with e
    subst e
    obtain ⟨g, cur, fr, h1, h2, h3, h4, h5, h6, h7⟩ := R.own _ o ho hc.1
    have hl := r.len
    by_cases hvs : vs = []
    · subst hvs
      cases r
      refine ⟨w, rfl, ?_⟩
      show RelF F w0 m (h.set a.block (some { o with cells := lput o.cells a.off [] })).get w
      have heq : (h.set a.block (some { o with cells := lput o.cells a.off [] })).get = h.get := by
        funext i
        rw [Tr.get_set]
        split
        · rename_i hi; rw [hi, ho]; rfl
        · rfl
      rw [heq]; exact R
    have hpos : 0 < vs.length := List.length_pos_iff.2 hvs
    have hcne : o.cells ≠ [] := by
      intro e0
      have := hc.2
      rw [e0] at this
      simp only [List.length_nil] at this
      omega
    have hes0 := h3.ne hcne
    replace h3 := h3.row' hcne
    have hm : mv m a = ⟨g, a.off, none⟩ := by unfold mv; rw [h1]; simp
    rw [hm]
    have hcell : ∀ j, j < vs'.length → (w.cell? ⟨g, a.off + 0 + j, none⟩).isSome = true := by
      intro j hj
      simp only [World.cell?, h3, Nat.add_zero]
      rw [if_neg (by simp), Array.getElem?_eq_getElem (by omega)]
      rfl
    have hfz : ∀ j, j < vs'.length → w.frozen? ⟨g, a.off + 0 + j, none⟩ = false := by
      intro j hj
      simp only [World.frozen?, h3, Nat.add_zero]
      rcases h4 with h4 | ⟨h4, _⟩
      · simp only [Bool.and_eq_false_iff, decide_eq_false_iff_not]; omega
      · simp only [Bool.and_eq_false_iff, decide_eq_false_iff_not]; omega
    have hrun := run_storeCells_cells (P := P) g a.off vs' 0 w hcell hfz (fun v hv => by obtain ⟨x, _, hx⟩ := r.mem v hv; exact hx.one.2)
    refine ⟨_, hrun, ?_⟩
    rw [Nat.add_zero]
    have hpr : PR m (lput o.cells a.off vs) (aputA cur a.off vs') := PR.put r a.off ⟨h6.1, h7⟩
    exact R.put ho hc.1 (lput o.cells a.off vs) (aputA cur a.off vs') fr (below_setCells' g h2 vs' a.off w w (Keep.refl _ _)) (by rw [h1]; exact heap_setCells g vs' a.off w cur _ fr h3)
      (by rw [size_aputA]; exact h4) (by rw [size_aputA]; exact h5) hpr.1 (fun he => by rw [size_aputA, length_lput]; exact h6.2 he) hes0 (fun k hk => heap_setCells_ne g k (by rw [h1] at hk; exact hk) vs' a.off w) hpr.2
  · cases e
def notTup : Value → Bool
  | .tuple _ => false
  | _ => true
theorem VR.cells {v v' : Value} (r : VR m v v') (hn : notTup v = true) : L2 (CR m) v.cells.toList v'.cells.toList := by
  cases r with
  | one r => cases r with
    | c c =>
      have ho := c.one
      have one_cells : ∀ u : Value, u.oneCell' = true → u.cells = #[u] := fun u hu => by cases u <;> first | rfl | (simp [Value.oneCell'] at hu)
      have e1 : v.cells = #[v] := one_cells v ho.1
      have e2 : v'.cells = #[v'] := one_cells v' ho.2
      rw [e1, e2]
      exact .cons c .nil
    | agg a => exact a.lists
  | tup => cases hn
def astore (P : Program) (h : Tr AObj) (t : Nat) (a x : Value) : Option (Tr AObj) :=
  match a with
  | .pointer (some a) => if notTup x && (tsize P t == some x.cells.size) then aput h a x.cells.toList else none
  | _ => none
theorem astore_sound (R : Rel F w0 m h w) {t : Nat} {a a' x x' : Value} (ha : VR m a a') (hx : VR m x x') {h' : Tr AObj} (e : astore P h t a x = some h') :
    ∃ w', (Instr.storeAt t a' x').run P w = .ok () w' ∧ Rel F w0 m h' w' := by
  unfold astore at e
  split at e
  · rename_i ad
    obtain ⟨hb, rfl⟩ := ha.inv_ptr
    split at e
    · rename_i hc
      simp only [Bool.and_eq_true, beq_iff_eq] at hc
      have hcells := hx.cells hc.1
      obtain ⟨w', h1, h2⟩ := aput_sound (P := P) R hcells e
      refine ⟨w', ?_, h2⟩
      have hl := hcells.len
      simp only [Array.length_toList] at hl
      unfold Instr.storeAt Instr.sureAddr storeVar
      simp only [Sem.run_bind, Sem.run_pure, Result.andThen_ok, run_sizeOf' hc.2]
      rw [if_neg (by omega)]
      exact h1
    · cases e
  · cases e
/-! ### new variables -/
theorem alloc_other (w : World) (o : Obj) (k : Nat) (hk : k < w.heap.size) : (w.alloc o).heap[k]? = w.heap[k]? := Below.heap_alloc w o k hk
theorem Rel.fresh (R : Rel F w0 m h w) (hn : ¬ m.dom nx) {cells : List Value} {cur : Array Value} (e es : Nat) (p : PR m cells cur) (fr : Nat × Nat) (hfr : fr.1 = fr.2 ∨ (cur.size ≤ fr.1 ∧ es = 1)) (heq : es = 0 → cells.length = cur.size) (hes : es ≠ ITER) :
    Rel F w0 (m.add nx ⟨w.heap.size, 0, none⟩ cur.size es) (h.set nx (some ⟨cells, e, true, es⟩)) (w.alloc (.cells cur e fr)) := by
  have hlt : ∀ i o, h.get i = some o → o.own = true → (m.loc i).block < w.heap.size := by
    intro i o ho hown
    obtain ⟨g, c, f, h1, h2, h3, _⟩ := R.own i o ho hown
    rw [h1]
    exact h3.lt
  refine R.add (h' := h) nx hn ((Keep.refl F w).alloc R.base_le _) (fun _ _ k => k) w.heap.size (fun i o ho hown => ⟨alloc_other w _ _ (hlt i o ho hown), Nat.ne_of_lt (hlt i o ho hown)⟩) (fun hF => Nat.lt_irrefl _ (R.base_le _ hF)) cells cur e es fr ?_ hfr p.1 p.2 heq hes
  show (w.heap.push _)[w.heap.size]? = _
  simp
theorem VR.fresh (m : M) (nx g sz es : Nat) : VR (m.add nx ⟨g, 0, none⟩ sz es) (.pointer (some ⟨nx, 0, none⟩)) (.pointer (some ⟨g, 0, none⟩)) := by
  have e : mv (m.add nx ⟨g, 0, none⟩ sz es) ⟨nx, 0, none⟩ = ⟨g, 0, none⟩ := by
    unfold mv
    rw [show (m.add nx ⟨g, 0, none⟩ sz es).loc nx = ⟨g, 0, none⟩ from if_pos rfl]
    rfl
  have := VR.cell (CR.ptr (m := m.add nx ⟨g, 0, none⟩ sz es) ⟨nx, 0, none⟩ (.inl rfl))
  rw [e] at this
  exact this
def abox (n : Nat) (h : Tr AObj) (t : Nat) (x : Value) : Option (Value × Nat × Tr AObj) :=
  if notTup x then some (.pointer (some ⟨n, 0, none⟩), n + 1, h.set n (some ⟨x.cells.toList, t, true, 0⟩)) else none
theorem abox_sound (R : Rel F w0 m h w) {t : Nat} {x x' : Value} (hx : VR m x x') {v : Value} {n' : Nat} {h' : Tr AObj} (hf : ∀ i, nx ≤ i → i < n' → ¬ m.dom i) (e : abox nx h t x = some (v, n', h')) : Ok P F w0 m w (Instr.box t x') v nx n' h' := by
  unfold abox at e
  split at e
  · rename_i hn
    simp only [Option.some.injEq, Prod.mk.injEq] at e
    obtain ⟨rfl, rfl, rfl⟩ := e
    have hc := hx.cells hn
    have hp : PR m x.cells.toList x'.cells := ⟨by have := hc.len; simp at this ⊢; omega, fun j v hv => by
      obtain ⟨v', h1, h2⟩ := hc.get j v hv
      exact ⟨v', by simpa using h1, h2⟩⟩
    refine ⟨_, .pointer (some ⟨w.heap.size, 0, none⟩), w.alloc (.cells x'.cells t), ?_, M.add_ext m nx ⟨w.heap.size, 0, none⟩ x'.cells.size 0 (hf nx (Nat.le_refl _) (Nat.lt_succ_self _)), dom_add _ _ _ _ _, VR.fresh m _ _ _ _, R.fresh (hf nx (Nat.le_refl _) (Nat.lt_succ_self _)) t 0 hp (0, 0) (.inl rfl) (fun _ => by have := hc.len; simpa using this) (by decide)⟩
    rfl
  · cases e
def zeroOf (P : Program) (t : Nat) : Option Value := ((P.info? t).bind (·.zero)).bind fun z => if flat1 z then some z else none
theorem run_zero {t : Nat} {z : Value} (hz : zeroOf P t = some z) : (zeroValue t).run P w = .ok z w ∧ flat1 z = true := by
  unfold zeroOf at hz
  obtain ⟨z', h1, h2⟩ := Option.bind_eq_some_iff.1 hz
  obtain ⟨i, hi, hzi⟩ := Option.bind_eq_some_iff.1 h1
  split at h2
  · rename_i hf
    injection h2 with h2
    subst h2
    exact ⟨by simp [zeroValue, typeInfo, hi, hzi], hf⟩
  · cases h2
def aalloc (P : Program) (n : Nat) (h : Tr AObj) (t : Nat) : Option (Value × Nat × Tr AObj) := (zeroOf P t).bind fun z => abox n h t z
theorem aalloc_sound (R : Rel F w0 m h w) {t : Nat} {old : Value} {v : Value} {n' : Nat} {h' : Tr AObj} (hf : ∀ i, nx ≤ i → i < n' → ¬ m.dom i) (e : aalloc P nx h t = some (v, n', h')) : Ok P F w0 m w (Instr.alloc t true old) v nx n' h' := by
  unfold aalloc at e
  obtain ⟨z, hz, e⟩ := Option.bind_eq_some_iff.1 e
  obtain ⟨h1, h2⟩ := run_zero (w := w) hz
  obtain ⟨m', v', w', k1, k2⟩ := abox_sound (P := P) R (VR.one (flat1_VR m h2)) hf e
  refine ⟨m', v', w', ?_, k2⟩
  unfold Instr.alloc
  simp only [Sem.run_bind, h1, Result.andThen_ok]
  exact k1
end
end
end Go.Proofs.YtcccapeaeehjiaaGreatDoor.AM
