/- Structs and rows put together of parts; parts of them; strings and bytes: each sound. -/
import Derived.Test.YtcccapeaeehjiaaGreatDoorAMf
namespace Go.Proofs.YtcccapeaeehjiaaGreatDoor.AM
noncomputable section
open Go Go.RowKit
set_option linter.unusedVariables false
set_option linter.unusedSimpArgs false
section
variable {P : Program} {F : Nat → Prop} {w0 w : World} {m : M} {h : Tr AObj} {nx : Nat}
theorem A2.set {R : Value → Value → Prop} {xs ys : Array Value} (a : A2 R xs ys) {x y : Value} (r : R x y) (o : Nat) : A2 R (xs.setIfInBounds o x) (ys.setIfInBounds o y) := by
  refine ⟨by simp [a.1], fun i v hv => ?_⟩
  by_cases hi : o = i
  · subst hi
    rw [Array.getElem?_setIfInBounds_self] at hv ⊢
    by_cases hlt : o < xs.size
    · rw [if_pos hlt] at hv
      injection hv with hv
      subst hv
      exact ⟨y, by rw [if_pos (by rw [← a.1]; exact hlt)], r⟩
    · rw [if_neg hlt] at hv; cases hv
  · rw [Array.getElem?_setIfInBounds_ne hi] at hv ⊢
    exact a.2 i v hv
theorem fill_fold {R : Value → Value → Prop} (off : Nat) : ∀ (vs vs' : List Value) (k : Nat) (cs cs' : Array Value), L2 R vs vs' → A2 R cs cs' →
    A2 R ((vs.zipIdx k).foldl (fun cs (p : Value × Nat) => cs.setIfInBounds (off + p.2) p.1) cs) ((vs'.zipIdx k).foldl (fun cs (p : Value × Nat) => cs.setIfInBounds (off + p.2) p.1) cs')
  | [], _, k, cs, cs', .nil, a => a
  | v :: vs, _ :: vs', k, cs, cs', .cons r t, a => by
    rw [List.zipIdx_cons, List.zipIdx_cons, List.foldl_cons, List.foldl_cons]
    exact fill_fold off vs vs' (k + 1) _ _ t (a.set r _)
inductive PP (m : M) : List (Nat × Value) → List (Nat × Value) → Prop where
  | nil : PP m [] []
  | cons {i : Nat} {v v' : Value} {l l' : List (Nat × Value)} (hn : notTup v = true) (r : VR m v v') (t : PP m l l') : PP m ((i, v) :: l) ((i, v') :: l')
theorem fill_sound (place : Nat → Option (Nat × Nat)) {parts parts' : List (Nat × Value)} (pp : PP m parts parts') : ∀ {cs cs' out : Array Value}, A2 (CR m) cs cs' → Instr.fill place cs parts = some out → ∃ out', Instr.fill place cs' parts' = some out' ∧ A2 (CR m) out out' := by
  induction pp with
  | nil =>
    intro cs cs' out a e
    unfold Instr.fill at e
    injection e with e
    subst e
    exact ⟨cs', rfl, a⟩
  | @cons i v v' l l' hn r t ih =>
    intro cs cs' out a e
    have hc := r.cells hn
    have hl := hc.len
    simp only [Array.length_toList] at hl
    unfold Instr.fill at e ⊢
    cases hp : place i with
    | none => rw [hp] at e; cases e
    | some os =>
      obtain ⟨off, size⟩ := os
      rw [hp] at e
      simp only at e ⊢
      split at e
      · cases e
      · rename_i hcond
        rw [if_neg (by rw [← hl, ← a.1]; exact hcond)]
        refine ih ?_ e
        have := fill_fold off v.cells.toList v'.cells.toList 0 cs cs' hc a
        rw [← Array.foldl_toList, ← Array.foldl_toList, Array.toList_zipIdx, Array.toList_zipIdx]
        exact this
theorem zeroOf_info {t : Nat} {z : Value} (hz : zeroOf P t = some z) : ∃ i, P.info? t = some i ∧ i.zero = some z := by
  unfold zeroOf at hz
  obtain ⟨z', h1, h2⟩ := Option.bind_eq_some_iff.1 hz
  obtain ⟨i, hi, hzi⟩ := Option.bind_eq_some_iff.1 h1
  split at h2
  · injection h2 with h2; rw [← h2]; exact ⟨i, hi, hzi⟩
  · cases h2
theorem A2.flat {cs : Array Value} (hf : cs.all flatC = true) : A2 (CR m) cs cs := ⟨rfl, fun i x hx => ⟨x, hx, .flat (by rw [Array.all_eq_true'] at hf; exact hf x (Array.mem_of_getElem? hx))⟩⟩
def abuild (P : Program) (t : Nat) (parts : Array (Nat × Value)) : Option Value :=
  match P.underlying t with
  | some (.struct fields) => (zeroOf P t).bind fun z => (pureRun P (fields.mapM fun f => do pure (f.offset, ← sizeOf f.type))).bind fun places => (Instr.fill (places[·]?) z.cells parts.toList).map .agg
  | some (.array _ e) => (zeroOf P t).bind fun z => (tsize P e).bind fun s => (Instr.fill (fun i => some (i * s, s)) z.cells parts.toList).map .agg
  | _ => none
theorem abuild_sound (R : Rel F w0 m h w) {t : Nat} {parts parts' : Array (Nat × Value)} (pp : PP m parts.toList parts'.toList) {v : Value} (e : abuild P t parts = some v) : Ok P F w0 m w (Instr.build t parts') v nx nx h := by
  unfold abuild at e
  split at e
  · rename_i fields hu
    obtain ⟨z, hz, e⟩ := Option.bind_eq_some_iff.1 e
    obtain ⟨places, hp, e⟩ := Option.bind_eq_some_iff.1 e
    obtain ⟨out, ho, rfl⟩ := Option.map_eq_some_iff.1 e
    obtain ⟨z1, z2⟩ := run_zero (w := w) hz
    obtain ⟨out', k1, k2⟩ := fill_sound _ pp (A2.flat (flat1_cells z2)) ho
    refine Ok.pure R (v' := .agg out') ?_ (.one (.agg k2))
    have hpr := pureRun_run _ _ hp w
    unfold Instr.build
    simp only [Sem.run_bind, z1, Result.andThen_ok, run_underlying hu, hpr, k1, Sem.run_pure]
  · rename_i n el hu
    obtain ⟨z, hz, e⟩ := Option.bind_eq_some_iff.1 e
    obtain ⟨s, hs, e⟩ := Option.bind_eq_some_iff.1 e
    obtain ⟨out, ho, rfl⟩ := Option.map_eq_some_iff.1 e
    obtain ⟨z1, z2⟩ := run_zero (w := w) hz
    obtain ⟨out', k1, k2⟩ := fill_sound _ pp (A2.flat (flat1_cells z2)) ho
    refine Ok.pure R (v' := .agg out') ?_ (.one (.agg k2))
    unfold Instr.build
    simp only [Sem.run_bind, z1, Result.andThen_ok, run_underlying hu, run_sizeOf' hs, k1, Sem.run_pure]
  · cases e
def abuildSlice (P : Program) (n : Nat) (h : Tr AObj) (t len : Nat) (parts : Array (Nat × Value)) : Option (Value × Nat × Tr AObj) :=
  match P.underlying t with
  | some (.slice e) => (zeroOf P e).bind fun z => (tsize P e).bind fun s =>
    if len * s ≤ 16777216 ∧ 0 < s ∧ s ≤ 1000000 ∧ z.cells.size = s then
      (Instr.fill (fun i => some (i * s, s)) (zeros z.cells (len * s)) parts.toList).map fun cells => (.slice (some ⟨n, 0, none⟩) len 1, n + 1, h.set n (some ⟨cells.toList, e, true, s⟩))
    else none
  | _ => none
theorem fill_size (place : Nat → Option (Nat × Nat)) : ∀ (parts : List (Nat × Value)) (cs out : Array Value), Instr.fill place cs parts = some out → out.size = cs.size
  | [], cs, out, e => by unfold Instr.fill at e; injection e with e; rw [e]
  | (i, v) :: l, cs, out, e => by
    unfold Instr.fill at e
    cases hp : place i with
    | none => rw [hp] at e; cases e
    | some os =>
      obtain ⟨off, size⟩ := os
      rw [hp] at e
      simp only at e
      split at e
      · cases e
      · rw [fill_size place l _ out e, ← Array.foldl_toList]
        have : ∀ (l : List (Value × Nat)) (cs : Array Value), (l.foldl (fun cs (p : Value × Nat) => cs.setIfInBounds (off + p.2) p.1) cs).size = cs.size := by
          intro l
          induction l with
          | nil => intro cs; rfl
          | cons p l ih => intro cs; rw [List.foldl_cons, ih]; simp
        exact this _ _
theorem abuildSlice_sound (R : Rel F w0 m h w) {t len : Nat} {parts parts' : Array (Nat × Value)} (pp : PP m parts.toList parts'.toList) {v : Value} {n' : Nat} {h' : Tr AObj} (hf : ∀ i, nx ≤ i → i < n' → ¬ m.dom i) (e : abuildSlice P nx h t len parts = some (v, n', h')) :
    Ok P F w0 m w (Instr.buildSlice t len parts') v nx n' h' := by
  unfold abuildSlice at e
  split at e
  · rename_i el hu
    replace e := Option.bind_eq_some_iff.1 e
    obtain ⟨z, hz, e⟩ := e
    replace e := Option.bind_eq_some_iff.1 e
    obtain ⟨s, hs, e⟩ := e
    split at e
    · rename_i hc
      obtain ⟨c1, c2, c3⟩ := hc
      replace e := Option.map_eq_some_iff.1 e
      obtain ⟨cells, hcells, e⟩ := e
      simp only [Prod.mk.injEq] at e
      obtain ⟨rfl, rfl, rfl⟩ := e
      obtain ⟨z1, z2⟩ := run_zero (w := w) hz
      have hzf : (zeros z.cells (len * s)).all flatC = true := by
        rw [Array.all_eq_true']
        intro x hx
        obtain ⟨j, hj, e⟩ := Array.getElem_of_mem hx
        exact zeros_flat (flat1_cells z2) (by omega) (len * s) j x (by rw [Array.getElem?_eq_getElem hj, e])
      obtain ⟨out', k1, k2⟩ := fill_sound _ pp (A2.flat hzf) hcells
      have hos := fill_size _ _ _ _ k1
      have hzs : (zeros z.cells (len * s)).size = len * s := by simp [zeros]
      have hrun : (Instr.buildSlice t len parts').run P w = .ok (.slice (some ⟨w.heap.size, 0, none⟩) len len) (w.alloc (.cells out' el)) := by
        unfold Instr.buildSlice
        simp only [Sem.run_bind, run_underlying hu, Result.andThen_ok, run_sizeOf' hs]
        rw [if_neg (by omega)]
        by_cases h0 : len * s = 0
        · rw [if_pos h0]
          have hz0 : zeros z.cells (len * s) = #[] := Array.eq_empty_of_size_eq_zero (by rw [hzs]; exact h0)
          rw [hz0] at k1
          simp only [Sem.run_bind, Sem.run_pure, Result.andThen_ok, h0]
          have e0 : (Array.range 0).map (fun x => (#[] : Array Value)[x % (#[] : Array Value).size]!) = #[] := by simp
          rw [e0, k1]
          rfl
        · rw [if_neg h0]
          simp only [Sem.run_bind, z1, Sem.run_pure, Result.andThen_ok]
          show Sem.run P (match Instr.fill _ (zeros z.cells (len * s)) parts'.toList with | some cells => _ | _ => _) w = _
          rw [k1]
          rfl
      have hp : PR m cells.toList out' := ⟨by have := k2.1; simp; omega, fun j v hv => by simpa using k2.2 j v (by simpa using hv)⟩
      exact ⟨_, _, _, hrun, M.add_ext m nx _ _ s (hf nx (Nat.le_refl _) (Nat.lt_succ_self _)), dom_add _ _ _ _ _, VR.newSlice m nx w.heap.size _ s len len (Nat.le_refl _) (by rw [hos, hzs]; exact Nat.le_refl _) (Nat.le_trans (Nat.le_mul_of_pos_right _ c2) (by omega)), R.fresh (hf nx (Nat.le_refl _) (Nat.lt_succ_self _)) el s hp (0, 0) (.inl rfl) (fun h => absurd h (by omega)) (by unfold ITER; omega)⟩
    · cases e
  · cases e
/-! ### parts -/
def afield (P : Program) (t f : Nat) : Value → Option Value
  | .agg cs => match P.underlying t with
    | some (.struct fields) => match fields[f]? with
      | some fl => (tagg P fl.type).bind fun b => if b then (tsize P fl.type).bind fun s => if fl.offset + s ≤ cs.size then some (.agg (cs.extract fl.offset (fl.offset + s))) else none else cs[fl.offset]?
      | none => none
    | _ => none
  | _ => none
theorem A2.extract {R : Value → Value → Prop} {xs ys : Array Value} (a : A2 R xs ys) (i j : Nat) : A2 R (xs.extract i j) (ys.extract i j) := by
  refine ⟨by simp [a.1], fun k x hx => ?_⟩
  rw [Array.getElem?_extract] at hx ⊢
  split at hx
  · rename_i hlt
    rw [if_pos (by rw [← a.1]; exact hlt)]
    exact a.2 _ x hx
  · cases hx
theorem afield_sound (R : Rel F w0 m h w) {t f : Nat} {x x' v : Value} (hx : VR m x x') (e : afield P t f x = some v) : Ok P F w0 m w (Instr.field t x' f) v nx nx h := by
  unfold afield at e
  split at e
  · rename_i cs
    obtain ⟨cs', rfl, a⟩ := hx.inv_agg
    split at e
    · rename_i fields hu
      split at e
      · rename_i fl hf
        obtain ⟨b, hb, e⟩ := Option.bind_eq_some_iff.1 e
        cases b with
        | true =>
          simp only [if_true] at e
          obtain ⟨s, hs, e⟩ := Option.bind_eq_some_iff.1 e
          split at e
          · injection e with e
            subst e
            refine Ok.pure R (v' := .agg (cs'.extract fl.offset (fl.offset + s))) ?_ (.one (.agg (a.extract _ _)))
            unfold Instr.field
            simp only [Sem.run_bind, run_underlying hu, Result.andThen_ok, hf, asAgg, Sem.run_pure]
            unfold part
            simp only [Sem.run_bind, run_isAgg' hb, Result.andThen_ok, if_true, run_sizeOf' hs, Sem.run_pure]
          · cases e
        | false =>
          simp only [Bool.false_eq_true, if_false] at e
          obtain ⟨v', k1, k2⟩ := a.2 _ _ e
          refine Ok.pure R (v' := v') ?_ (.cell k2)
          unfold Instr.field
          simp only [Sem.run_bind, run_underlying hu, Result.andThen_ok, hf, asAgg, Sem.run_pure]
          unfold part
          simp only [Sem.run_bind, run_isAgg' hb, Result.andThen_ok, Bool.false_eq_true, if_false, k1, Sem.run_pure]
      · cases e
    · cases e
  · cases e
def aextract (i : Nat) : Value → Option Value
  | .tuple vs => vs[i]?
  | _ => none
theorem VR.inv_tup {vs : Array Value} {v' : Value} (r : VR m (.tuple vs) v') : ∃ vs', v' = .tuple vs' ∧ A2 (VR1 m) vs vs' := by
  cases r with
  | one r => cases r with
    | c r => cases r with
      | flat h => simp [flatC] at h
  | tup a => exact ⟨_, rfl, a⟩
theorem aextract_sound (R : Rel F w0 m h w) {i : Nat} {x x' v : Value} (hx : VR m x x') (e : aextract i x = some v) : Ok P F w0 m w (Instr.extract x' i) v nx nx h := by
  unfold aextract at e
  split at e
  · obtain ⟨vs', rfl, a⟩ := hx.inv_tup
    obtain ⟨v', k1, k2⟩ := a.2 _ _ e
    refine Ok.pure R (v' := v') ?_ (.one k2)
    unfold Instr.extract
    simp only [k1]
    rfl
  · cases e
/-! ### strings and bytes -/
def byteOf? : Value → Option UInt8
  | .int .u8 n => some (UInt8.ofNat n.toNat)
  | _ => none
def bytes? : List Value → Option (List UInt8)
  | [] => some []
  | v :: vs => (byteOf? v).bind fun b => (bytes? vs).bind fun bs => some (b :: bs)
theorem bytes?_cells : ∀ {vs vs' : List Value} {bs : List UInt8}, L2 (CR m) vs vs' → bytes? vs = some bs → ∃ ns : List Int, vs' = ns.map (Value.int .u8) ∧ bs = ns.map fun n => UInt8.ofNat n.toNat
  | [], _, bs, .nil, e => by unfold bytes? at e; injection e with e; exact ⟨[], rfl, e.symm⟩
  | v :: vs, _ :: vs', bs, .cons r t, e => by
    unfold bytes? at e
    obtain ⟨b, hb, e⟩ := Option.bind_eq_some_iff.1 e
    obtain ⟨bs', h2, he⟩ := Option.bind_eq_some_iff.1 e
    injection he with he
    obtain ⟨ns, k1, k2⟩ := bytes?_cells t h2
    unfold byteOf? at hb
    split at hb
    · rename_i n
      injection hb with hb
      have := VR.inv_int (VR.cell r)
      exact ⟨n :: ns, by rw [this, k1]; rfl, by rw [← he, k2, ← hb]; rfl⟩
    · cases hb
def abytesToString (P : Program) (h : Tr AObj) (src dst : Nat) (x : Value) : Option Value :=
  match P.underlying src, P.underlying dst, x with
  | some (.slice e), some .string, .slice (some a) n 1 => match P.underlying e with
    | some (.int .u8) => (agets h a.block a.off n).bind fun vs => (bytes? vs).map fun bs => .string ⟨bs.toArray⟩
    | _ => none
  | some (.slice e), some .string, .slice (some _) 0 0 => match P.underlying e with
    | some (.int .u8) => some (.string ⟨#[]⟩)
    | _ => none
  | some (.slice e), some .string, .slice none 0 0 => match P.underlying e with
    | some (.int .u8) => some (.string ⟨#[]⟩)
    | _ => none
  | _, _, _ => none
theorem push_fold : ∀ (ns : List Int) (s : ByteArray), (ns.foldl (fun r n => r.push (UInt8.ofNat n.toNat)) s).data.toList = s.data.toList ++ ns.map fun n => UInt8.ofNat n.toNat
  | [], s => by simp
  | n :: ns, s => by
    rw [List.foldl_cons, push_fold ns, List.map_cons]
    simp [ByteArray.push]
theorem abytesToString_sound (R : Rel F w0 m h w) {src dst : Nat} {x x' v : Value} (hx : VR m x x') (e : abytesToString P h src dst x = some v) : Ok P F w0 m w (convert src dst x') v nx nx h := by
  unfold abytesToString at e
  split at e
  · rename_i el a n hs hd
    split at e
    · rename_i hel
      obtain ⟨vs, hvs, e⟩ := Option.bind_eq_some_iff.1 e
      obtain ⟨bs, hbs, rfl⟩ := Option.map_eq_some_iff.1 e
      obtain ⟨vs', k1, k2, k3⟩ := agets_sound R hvs
      have hl := agets_len hvs
      have hL : L2 (CR m) vs vs' := L2.of_get (by omega) k3
      obtain ⟨ns, j1, j2⟩ := bytes?_cells hL hbs
      rcases hx.inv_slc with ⟨_, c', rfl, hb, _, _⟩ | ⟨h0, _⟩
      · have hload := run_loadCells_list (P := P) w (mv m a) vs' k2
        rw [k1, j1] at hload
        refine Ok.pure R (v' := .string ⟨bs.toArray⟩) ?_ (.flat rfl)
        rw [run_convert_bytes_string w src dst el _ _ _ hs hel hd, run_bytesToString w _ n c' ns hload]
        have : ns.foldl (fun r n => r.push (UInt8.ofNat n.toNat)) ByteArray.empty = ⟨bs.toArray⟩ := by
          have := push_fold ns ByteArray.empty
          generalize ns.foldl (fun r n => r.push (UInt8.ofNat n.toNat)) ByteArray.empty = q at this
          cases q
          rename_i d
          simp only [ByteArray.mk.injEq]
          apply Array.ext'
          rw [this, j2]
          rfl
        rw [this]
      · cases h0
    · cases e
  · rename_i el a hs hd
    split at e
    · rename_i hel
      injection e with e
      subst e
      rcases hx.inv_slc with ⟨h0, _⟩ | ⟨_, _, b, c', rfl⟩
      · cases h0
      · refine Ok.pure R (v' := .string ⟨#[]⟩) ?_ (.flat rfl)
        rw [run_convert_bytes_string w src dst el _ _ _ hs hel hd]
        have hload := run_loadCells_list (P := P) w b [] (by simp)
        rw [run_bytesToString w b 0 c' [] hload]
        rfl
    · cases e
  · rename_i el hs hd
    split at e
    · rename_i hel
      injection e with e
      subst e
      rw [hx.inv_flat rfl]
      refine Ok.pure R (v' := .string ⟨#[]⟩) ?_ (.flat rfl)
      rw [run_convert_bytes_string w src dst el _ _ _ hs hel hd]
      rfl
    · cases e
  · cases e
def astringToBytes (P : Program) (n : Nat) (h : Tr AObj) (src dst : Nat) (x : Value) : Option (Value × Nat × Tr AObj) :=
  match P.underlying src, P.underlying dst, x with
  | some .string, some (.slice e), .string s => match P.underlying e with
    | some (.int .u8) => if s.size ≤ 1099511627776 then some (.slice (some ⟨n, 0, none⟩) s.size 1, n + 1, h.set n (some ⟨byteCells s, e, true, 1⟩)) else none
    | _ => none
  | _, _, _ => none
theorem astringToBytes_sound (R : Rel F w0 m h w) {src dst : Nat} {x x' v : Value} {n' : Nat} {h' : Tr AObj} (hx : VR m x x') (hf : ∀ i, nx ≤ i → i < n' → ¬ m.dom i) (e : astringToBytes P nx h src dst x = some (v, n', h')) : Ok P F w0 m w (convert src dst x') v nx n' h' := by
  unfold astringToBytes at e
  split at e
  · rename_i el s hs hd
    split at e
    · rename_i hel
      split at e
      case isFalse => cases e
      rename_i hs40
      simp only [Option.some.injEq, Prod.mk.injEq] at e
      obtain ⟨rfl, rfl, rfl⟩ := e
      rw [hx.inv_str]
      have hrun := Lib.run_convert_string_bytes (P := P) w src dst el s hs hd hel
      have hG : s.size ≤ grownCap w s.size 0 el := grownCap_need _ _ _ _
      have hcs : (Lib.bytesCells w el s).size = grownCap w s.size 0 el := by
        unfold Lib.bytesCells
        rw [Array.size_append, Array.size_map, Array.size_replicate]
        show s.size + _ = _
        omega
      have hp : PR m (byteCells s) (Lib.bytesCells w el s) := by
        refine ⟨by rw [byteCells_length, hcs]; exact hG, fun j v hv => ⟨v, ?_, ?_⟩⟩
        · have hj : j < s.size := by have := (List.getElem?_eq_some_iff.1 hv).1; rw [byteCells_length] at this; exact this
          unfold Lib.bytesCells
          rw [Array.getElem?_append_left (by rw [Array.size_map]; exact hj)]
          unfold byteCells at hv
          rw [Array.getElem?_map]
          rw [List.getElem?_map, Array.getElem?_toList] at hv
          exact hv
        · unfold byteCells at hv
          obtain ⟨b, _, rfl⟩ := List.mem_map.1 (List.mem_of_getElem? hv)
          exact .flat rfl
      have hlt := own_lt' R
      refine ⟨_, _, _, hrun, M.add_ext m nx _ (Lib.bytesCells w el s).size 1 (hf nx (Nat.le_refl _) (Nat.lt_succ_self _)), dom_add _ _ _ _ _, VR.newSlice m nx w.heap.size _ 1 s.size _ hG (by rw [hcs, Nat.mul_one]; exact Nat.le_refl _) (by have := grownCap_le_maxLen w s.size 0 el (by unfold maxLen; omega); unfold maxLen at this; omega), ?_⟩
      have hbw : Keep F w (Lib.bytesWorld w el s) := ⟨rfl, rfl, rfl, by rw [Lib.bytesWorld_size]; exact Nat.le_succ _, fun k hk => Lib.bytesWorld_at_old w el s k (R.base_le k hk)⟩
      exact R.add (h' := h) nx (hf nx (Nat.le_refl _) (Nat.lt_succ_self _)) hbw (fun _ _ k => k) w.heap.size (fun i o ho hown => ⟨Lib.bytesWorld_at_old w el s _ (hlt i o ho hown), Nat.ne_of_lt (hlt i o ho hown)⟩) (fun hF => Nat.lt_irrefl _ (R.base_le _ hF)) _ _ el 1 _ (Lib.bytesWorld_at_new w el s) (.inr ⟨Nat.le_refl _, rfl⟩) hp.1 hp.2 (fun h => by cases h) (by decide)
    · cases e
  · cases e
end
end
end Go.Proofs.YtcccapeaeehjiaaGreatDoor.AM
