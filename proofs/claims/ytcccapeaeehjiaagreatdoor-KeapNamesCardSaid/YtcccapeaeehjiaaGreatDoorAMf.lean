/- Rows and structs put together, lengths, copies, strings and bytes: each sound. -/
import Derived.Test.YtcccapeaeehjiaaGreatDoorAMe
import Derived.Lib.ConvBytes
import Derived.Laws.BytesString
import Derived.Laws.MakeOwn
namespace Go.Proofs.YtcccapeaeehjiaaGreatDoor.AM
noncomputable section
open Go Go.RowKit
set_option linter.unusedVariables false
set_option linter.unusedSimpArgs false
section
variable {P : Program} {F : Nat → Prop} {w0 w : World} {m : M} {h : Tr AObj} {nx : Nat}
/-! ### len -/
def alen (P : Program) (t : Nat) (x : Value) : Option Value :=
  match P.underlying t, x with
  | some (.slice _), .slice _ n _ => some (.int .i64 n)
  | some .string, .string s => some (.int .i64 s.size)
  | _, _ => none
theorem alen_sound (R : Rel F w0 m h w) {t ty : Nat} {x x' v : Value} (hx : VR m x x') (e : alen P t x = some v) : Ok P F w0 m w (Builtin.len_ #[t] ty #[x']) v nx nx h := by
  unfold alen at e
  split at e
  · rename_i el a n c hu
    injection e with e
    subst e
    have hx' : ∃ A c', x' = .slice A n c' := by
      cases a with
      | none => exact ⟨none, c, hx.inv_flat rfl⟩
      | some a =>
        rcases hx.inv_slc with ⟨_, c', rfl, _⟩ | ⟨_, rfl, b, c', rfl⟩
        · exact ⟨_, c', rfl⟩
        · exact ⟨_, c', rfl⟩
    obtain ⟨A, c', rfl⟩ := hx'
    refine Ok.pure R (v' := .int .i64 n) ?_ (.flat rfl)
    simp [Builtin.len_, run_underlying hu, goInt]
  · rename_i s hu
    injection e with e
    subst e
    rw [hx.inv_str]
    refine Ok.pure R (v' := .int .i64 s.size) ?_ (.flat rfl)
    simp [Builtin.len_, run_underlying hu, goInt]
  · cases e
/-! ### copy -/
def acopy (P : Program) (h : Tr AObj) (tD : Nat) (d s : Value) : Option (Value × Tr AObj) :=
  match P.underlying tD, d, s with
  | some (.slice e), .slice (some a) n 1, .slice (some b) k 1 => (tsize P e).bind fun z => (agets h b.block b.off (Nat.min k n * z)).bind fun vs => (aput h a vs).map fun h' => (.int .i64 (Nat.min k n), h')
  | some (.slice e), .slice (some _) _ _, .slice (some _) 0 0 => (tsize P e).map fun _ => (.int .i64 0, h)
  | some (.slice e), .slice (some _) _ _, .slice none 0 0 => (tsize P e).map fun _ => (.int .i64 0, h)
  | some (.slice e), .slice (some _) 0 0, .slice (some _) _ _ => (tsize P e).map fun _ => (.int .i64 0, h)
  | some (.slice e), .slice none 0 0, .slice (some _) _ _ => (tsize P e).map fun _ => (.int .i64 0, h)
  | some (.slice e), .slice none 0 0, .slice none 0 0 => (tsize P e).map fun _ => (.int .i64 0, h)
  | _, _, _ => none
theorem run_copy0 {tD tS ty el z : Nat} (hu : P.underlying tD = some (.slice el)) (hz : tsize P el = some z) (A B : Option Addr) (n c k q : Nat) (h0 : Nat.min k n = 0) :
    (Builtin.copy_ #[tD, tS] ty #[.slice A n c, .slice B k q]).run P w = .ok (.int .i64 0) w := by
  have hl : ∀ (x : Addr), (loadCells x 0).run P w = .ok #[] w := fun x => by simpa using run_loadCells_list (P := P) w x [] (by simp)
  cases A <;> cases B <;> simp [Builtin.copy_, run_underlying hu, run_sizeOf' hz, Builtin.lenOf, Builtin.firstCells, h0, storeCells, hl, goInt]
theorem acopy_sound (R : Rel F w0 m h w) {tD tS ty : Nat} {d d' s s' v : Value} {h' : Tr AObj} (hd : VR m d d') (hs : VR m s s') (e : acopy P h tD d s = some (v, h')) :
    Ok P F w0 m w (Builtin.copy_ #[tD, tS] ty #[d', s']) v nx nx h' := by
  have slc : ∀ {a : Addr} {n c : Nat} {v' : Value}, VR m (.slice (some a) n c) v' → ∃ A c', v' = .slice A n c' := by
    intro a n c v' r
    rcases r.inv_slc with ⟨_, c', rfl, _⟩ | ⟨_, rfl, b, c', rfl⟩
    · exact ⟨_, c', rfl⟩
    · exact ⟨_, c', rfl⟩
  have zero : ∀ {A B : Option Addr} {n c k q el z : Nat}, P.underlying tD = some (.slice el) → tsize P el = some z → Nat.min k n = 0 → Ok P F w0 m w (Builtin.copy_ #[tD, tS] ty #[.slice A n c, .slice B k q]) (.int .i64 0) nx nx h := by
    intro A B n c k q el z hu hz h0
    exact Ok.pure R (run_copy0 hu hz A B n c k q h0) (.flat rfl)
  unfold acopy at e
  split at e
  · rename_i el a n b k hu
    replace e := Option.bind_eq_some_iff.1 e
    obtain ⟨z, hz, e⟩ := e
    replace e := Option.bind_eq_some_iff.1 e
    obtain ⟨vs, hvs, e⟩ := e
    replace e := Option.map_eq_some_iff.1 e
    obtain ⟨h1, hp, e⟩ := e
    simp only [Prod.mk.injEq] at e
    obtain ⟨rfl, rfl⟩ := e
    obtain ⟨vs', k1, k2, k3⟩ := agets_sound R hvs
    have hl := agets_len hvs
    have hL : L2 (CR m) vs vs' := L2.of_get (by omega) k3
    obtain ⟨w', j1, j2⟩ := aput_sound (P := P) R hL hp
    rcases hd.inv_slc with ⟨_, c', rfl, _⟩ | ⟨h0, _⟩
    · rcases hs.inv_slc with ⟨_, q', rfl, _⟩ | ⟨h0, _⟩
      · refine ⟨m, .int .i64 (Nat.min k n), w', ?_, Ext.refl m, dom_same _ _, .flat rfl, j2⟩
        have hload := run_loadCells_list (P := P) w (mv m b) vs' k2
        rw [k1] at hload
        simp [Builtin.copy_, run_underlying hu, run_sizeOf' hz, Builtin.lenOf, Builtin.firstCells, hload, j1, goInt]
      · cases h0
    · cases h0
  · rename_i el _ _ _ _ hu
    replace e := Option.map_eq_some_iff.1 e
    obtain ⟨z, hz, e⟩ := e
    simp only [Prod.mk.injEq] at e
    obtain ⟨rfl, rfl⟩ := e
    obtain ⟨A, c', rfl⟩ := slc hd
    obtain ⟨B, q', rfl⟩ := slc hs
    exact zero hu hz (by simp)
  · rename_i el _ _ _ hu
    replace e := Option.map_eq_some_iff.1 e
    obtain ⟨z, hz, e⟩ := e
    simp only [Prod.mk.injEq] at e
    obtain ⟨rfl, rfl⟩ := e
    obtain ⟨A, c', rfl⟩ := slc hd
    rw [hs.inv_flat rfl]
    exact zero hu hz (by simp)
  · rename_i el _ _ _ _ _ hu
    replace e := Option.map_eq_some_iff.1 e
    obtain ⟨z, hz, e⟩ := e
    simp only [Prod.mk.injEq] at e
    obtain ⟨rfl, rfl⟩ := e
    obtain ⟨A, c', rfl⟩ := slc hd
    obtain ⟨B, q', rfl⟩ := slc hs
    exact zero hu hz (by simp)
  · rename_i el _ _ _ hu
    replace e := Option.map_eq_some_iff.1 e
    obtain ⟨z, hz, e⟩ := e
    simp only [Prod.mk.injEq] at e
    obtain ⟨rfl, rfl⟩ := e
    rw [hd.inv_flat rfl]
    obtain ⟨B, q', rfl⟩ := slc hs
    exact zero hu hz (by simp)
  · rename_i el hu
    replace e := Option.map_eq_some_iff.1 e
    obtain ⟨z, hz, e⟩ := e
    simp only [Prod.mk.injEq] at e
    obtain ⟨rfl, rfl⟩ := e
    rw [hd.inv_flat rfl, hs.inv_flat rfl]
    exact zero hu hz (by simp)
  · cases e
/-! ### make -/
theorem flat1_cells {z : Value} (hf : flat1 z = true) : z.cells.all flatC = true := by
  cases z <;> first | exact hf | (simp only [flat1] at hf; simp [Value.cells, hf])
def zeros (z : Array Value) (n : Nat) : Array Value := (Array.range n).map (z[· % z.size]!)
theorem zeros_flat {z : Array Value} (hz : z.all flatC = true) (hp : 0 < z.size) (n j : Nat) (v : Value) (hv : (zeros z n)[j]? = some v) : flatC v = true := by
  unfold zeros at hv
  rw [Array.getElem?_map] at hv
  obtain ⟨q, _, rfl⟩ := Option.map_eq_some_iff.1 hv
  rw [Array.all_eq_true'] at hz
  rw [getElem!_pos z _ (Nat.mod_lt _ hp)]
  exact hz _ (Array.getElem_mem _)
def amake (P : Program) (n : Nat) (h : Tr AObj) (t : Nat) (len cap : Value) : Option (Value × Nat × Tr AObj) :=
  match P.underlying t, len, cap with
  | some (.slice e), .int _ l, .int _ c =>
    (P.info? e).bind fun i => (zeroOf P e).bind fun z =>
      if 0 ≤ l ∧ l ≤ c ∧ c ≤ 1000000000 ∧ i.bytes * c ≤ 140737488355328 ∧ 0 < i.size ∧ i.size ≤ 1000000 ∧ z.cells.size = i.size then
        some (.slice (some ⟨n, 0, none⟩) l.toNat 1, n + 1, h.set n (some ⟨(zeros z.cells (l.toNat * i.size)).toList, e, true, i.size⟩))
      else none
  | _, _, _ => none
theorem amake_sound (R : Rel F w0 m h w) {t : Nat} {len len' cap cap' v : Value} {n' : Nat} {h' : Tr AObj} (hl : VR m len len') (hc : VR m cap cap') (hf : ∀ i, nx ≤ i → i < n' → ¬ m.dom i) (e : amake P nx h t len cap = some (v, n', h')) :
    Ok P F w0 m w (Instr.makeSlice t len' cap') v nx n' h' := by
  unfold amake at e
  split at e
  · rename_i el k1 l k2 c hu
    replace e := Option.bind_eq_some_iff.1 e
    obtain ⟨i, hi, e⟩ := e
    replace e := Option.bind_eq_some_iff.1 e
    obtain ⟨z, hz, e⟩ := e
    split at e
    · rename_i hh
      obtain ⟨a1, a2, a3, a4, a5, a6⟩ := hh
      simp only [Option.some.injEq, Prod.mk.injEq] at e
      obtain ⟨rfl, rfl, rfl⟩ := e
      rw [hl.inv_int, hc.inv_int]
      obtain ⟨z1, z2⟩ := run_zero (w := w) hz
      have hzc : z.cells.all flatC = true := flat1_cells z2
      have hcn : c.toNat * i.size ≠ 0 ∨ c.toNat = 0 := by
        rcases Nat.eq_zero_or_pos c.toNat with h0 | h0
        · exact .inr h0
        · exact .inl (Nat.ne_of_gt (Nat.mul_pos h0 a5))
      have hp : PR m (zeros z.cells (l.toNat * i.size)).toList (zeros z.cells (c.toNat * i.size)) := by
        have hle : l.toNat * i.size ≤ c.toNat * i.size := Nat.mul_le_mul_right _ (by omega)
        refine ⟨by simp [zeros]; omega, fun j v hv => ⟨v, ?_, .flat (zeros_flat hzc (by omega) _ j v (by simpa using hv))⟩⟩
        have hj : j < l.toNat * i.size := by have := (List.getElem?_eq_some_iff.1 hv).1; simpa [zeros] using this
        have hv' : (zeros z.cells (l.toNat * i.size))[j]? = some v := by simpa using hv
        unfold zeros at hv' ⊢
        rw [Array.getElem?_map] at hv' ⊢
        rw [Array.getElem?_range, if_pos hj] at hv'
        rw [Array.getElem?_range, if_pos (by omega)]
        exact hv'
      have hrun : (Instr.makeSlice t (.int k1 l) (.int k2 c)).run P w = .ok (.slice (some ⟨w.heap.size, 0, none⟩) l.toNat c.toNat) (w.alloc (.cells (zeros z.cells (c.toNat * i.size)) el)) := by
        have hzi : i.zero = some z := by
          unfold zeroOf at hz
          obtain ⟨z', h1, h2⟩ := Option.bind_eq_some_iff.1 hz
          rw [hi] at h1
          split at h2
          · injection h2 with h2; rw [← h2]; exact h1
          · cases h2
        exact run_make w t el i z hu hi hzi k1 k2 l c a1 a2 (by omega) (by omega)
      refine ⟨_, _, _, hrun, M.add_ext m nx _ _ i.size (hf nx (Nat.le_refl _) (Nat.lt_succ_self _)), dom_add _ _ _ _ _, VR.newSlice m nx w.heap.size _ i.size l.toNat c.toNat (by omega) (by simp [zeros]) (by omega), R.fresh (hf nx (Nat.le_refl _) (Nat.lt_succ_self _)) el i.size hp (0, 0) (.inl rfl) (fun h => absurd h (by omega)) (by unfold ITER; omega)⟩
    · cases e
  · cases e
end
end
end Go.Proofs.YtcccapeaeehjiaaGreatDoor.AM
