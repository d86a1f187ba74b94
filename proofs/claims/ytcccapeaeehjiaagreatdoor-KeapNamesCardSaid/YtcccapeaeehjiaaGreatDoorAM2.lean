/- A loop over the signs of a string: its iterator is a block of its own. -/
import Derived.Test.YtcccapeaeehjiaaGreatDoorAMi
import Derived.Lib.OthersKept
namespace Go.Proofs.YtcccapeaeehjiaaGreatDoor.AM
noncomputable section
open Go Go.RowKit
set_option linter.unusedVariables false
set_option linter.unusedSimpArgs false
def sdecI : Nat → Nat → Option (List UInt8)
  | 0, _ => none
  | k + 1, n => if n = 1 then some [] else (sdecI k (n / 256)).map fun l => UInt8.ofNat (n % 256) :: l
noncomputable def sdec (f : Nat) : Nat → Option (List UInt8) :=
  Nat.rec (motive := fun _ => Nat → Option (List UInt8)) (fun _ => none) (fun _ ih n => cond (Nat.beq n 1) (some []) ((ih (n / 256)).map fun l => UInt8.ofNat (n % 256) :: l)) f
theorem sdec_ok : ∀ (f n : Nat) (l : List UInt8), sdec f n = some l → scode l = n
  | 0, n, l, h => by cases h
  | f + 1, n, l, h => by
    replace h : cond (Nat.beq n 1) (some []) ((sdec f (n / 256)).map fun l => UInt8.ofNat (n % 256) :: l) = some l := h
    cases hb : Nat.beq n 1 with
    | true =>
      rw [hb] at h
      injection h with h
      subst h
      exact (Nat.eq_of_beq_eq_true hb).symm
    | false =>
      rw [hb] at h
      obtain ⟨l1, h1, rfl⟩ := Option.map_eq_some_iff.1 h
      have := sdec_ok f _ _ h1
      unfold scode
      rw [this, UInt8.toNat_ofNat']
      omega
theorem scode_pos : ∀ l : List UInt8, 0 < scode l
  | [] => Nat.one_pos
  | b :: l => by have := scode_pos l; unfold scode; omega
theorem scode_inj : ∀ l k : List UInt8, scode l = scode k → l = k
  | [], [], _ => rfl
  | [], b :: k, h => by have := scode_pos k; unfold scode at h; omega
  | a :: l, [], h => by have := scode_pos l; unfold scode at h; omega
  | a :: l, b :: k, h => by
    unfold scode at h
    have h1 := a.toNat_lt
    have h2 := b.toNat_lt
    have e1 : a.toNat = b.toNat := by omega
    have e2 : scode l = scode k := by omega
    rw [UInt8.toNat_inj.1 e1, scode_inj l k e2]
def itOf (n : Nat) : Option (ByteArray × Nat) := (sdec 65536 (n / 16777216)).map fun l => (⟨⟨l⟩⟩, n % 16777216)
theorem itOf_icode {s s' : ByteArray} {p p' : Nat} (hp : p < 16777216) (h : itOf (icode s p) = some (s', p')) : s' = s ∧ p' = p := by
  unfold itOf at h
  obtain ⟨l, h1, h2⟩ := Option.map_eq_some_iff.1 h
  have e : icode s p / 16777216 = scode s.data.toList := by unfold icode; omega
  have e2 : icode s p % 16777216 = p := by unfold icode; omega
  rw [e] at h1
  have := scode_inj _ _ (sdec_ok _ _ _ h1)
  rw [e2] at h2
  simp only [Prod.mk.injEq] at h2
  obtain ⟨rfl, rfl⟩ := h2
  refine ⟨?_, rfl⟩
  rw [this]
def arange (P : Program) (nx : Nat) (h : Tr AObj) (t : Nat) (x : Value) : Option (Value × Nat × Tr AObj) :=
  match P.underlying t, x with
  | some .string, .string s => some (.pointer (some ⟨nx, 0, none⟩), nx + 1, h.set nx (some ⟨[], icode s 0, true, ITER⟩))
  | _, _ => none
def anext (nx : Nat) (h : Tr AObj) (a : Addr) : Option (Value × Nat × Tr AObj) :=
  (h.get a.block).bind fun o => if a.off = 0 ∧ o.own = true ∧ o.es = ITER then
    (itOf o.elem).bind fun (s, p) =>
      if p < s.size then
        if p + (Utf8.decode s p).2 < 16777216 then some (.tuple #[.bool true, .int .i64 p, .int .i32 (Utf8.decode s p).1], nx, h.set a.block (some ⟨[], icode s (p + (Utf8.decode s p).2), true, ITER⟩)) else none
      else some (.tuple #[.bool false], nx, h)
  else none
section
variable {P : Program} {F : Nat → Prop} {w0 w : World} {m : M} {h : Tr AObj} {nx : Nat}
theorem arange_sound (R : Rel F w0 m h w) {t : Nat} {x x' : Value} (hx : VR m x x') {v : Value} {n' : Nat} {h' : Tr AObj} (hf : ∀ i, nx ≤ i → i < n' → ¬ m.dom i) (e : arange P nx h t x = some (v, n', h')) : Ok P F w0 m w (Instr.range t x') v nx n' h' := by
  unfold arange at e
  split at e
  · rename_i s hu
    simp only [Option.some.injEq, Prod.mk.injEq] at e
    obtain ⟨rfl, rfl, rfl⟩ := e
    have hxs : x' = .string s := by
      cases hx with
      | one h1 => cases h1 with
        | c h2 => exact flatC_eq rfl h2
    subst hxs
    have hlt : ∀ i o, h.get i = some o → o.own = true → (m.loc i).block < w.heap.size := by
      intro i o ho hown
      obtain ⟨g, c, f, h1, h2, h3, _⟩ := R.own i o ho hown
      rw [h1]
      exact h3.lt
    refine ⟨_, _, _, run_range_string w t s hu, M.add_ext m nx ⟨w.heap.size, 0, none⟩ (#[] : Array Value).size ITER (hf nx (Nat.le_refl _) (Nat.lt_succ_self _)), dom_add _ _ _ _ _, VR.fresh m _ _ _ _, ?_⟩
    refine R.addO (h' := h) nx (hf nx (Nat.le_refl _) (Nat.lt_succ_self _)) ((Keep.refl F w).alloc R.base_le _) (fun _ _ k => k) w.heap.size (fun i o ho hown => ⟨alloc_other w _ _ (hlt i o ho hown), Nat.ne_of_lt (hlt i o ho hown)⟩) (fun hF => Nat.lt_irrefl _ (R.base_le _ hF)) [] #[] (icode s 0) ITER (0, 0) ?_ (.inl rfl) (Nat.le_refl _) (fun j v hv => by simp at hv) (fun h0 => by cases h0)
    exact .inr ⟨rfl, rfl, s, 0, World.iter_heap w s 0, by decide, rfl⟩
  · cases e
theorem A2_flat {m : M} (vs : Array Value) (h : ∀ (i : Nat) (x : Value), vs[i]? = some x → flatC x = true) : A2 (VR1 m) vs vs := ⟨rfl, fun i x hx => ⟨x, hx, .c (.flat (h i x hx))⟩⟩
theorem anext_sound (R : Rel F w0 m h w) {a : Addr} {x' : Value} (hx : VR m (.pointer (some a)) x') {ty : Nat} {v : Value} {n' : Nat} {h' : Tr AObj} (e : anext nx h a = some (v, n', h')) : Ok P F w0 m w (Instr.next x' true ty) v nx n' h' := by
  unfold anext at e
  obtain ⟨o, ho, e⟩ := Option.bind_eq_some_iff.1 e
  split at e
  · rename_i hc
    obtain ⟨c1, c2, c3⟩ := hc
    obtain ⟨⟨s, p⟩, hs, e⟩ := Option.bind_eq_some_iff.1 e
    obtain ⟨hd, rfl⟩ := hx.inv_ptr
    obtain ⟨g, cur, fr, h1, h2, h3, h4, h5, h6, h7⟩ := R.own _ o ho c2
    have hmv : mv m a = ⟨g, 0, none⟩ := by unfold mv; rw [h1, c1]
    rw [hmv]
    rcases h3 with h3 | ⟨_, q2, s1, p1, q3, q4, q5⟩
    · exact absurd c3 h3.1
    · rw [q5] at hs
      obtain ⟨rfl, rfl⟩ := itOf_icode q4 hs
      by_cases hp : p < s.size
      · replace e : (if p + (Utf8.decode s p).2 < 16777216 then some (Value.tuple #[.bool true, .int .i64 p, .int .i32 (Utf8.decode s p).1], nx, h.set a.block (some ⟨[], icode s (p + (Utf8.decode s p).2), true, ITER⟩)) else none) = some (v, n', h') := by
          simpa only [if_pos hp] using e
        split at e
        · rename_i hw
          simp only [Option.some.injEq, Prod.mk.injEq] at e
          obtain ⟨rfl, rfl, rfl⟩ := e
          refine ⟨m, _, _, Lib.run_next_any_at w g s p ty q3 hp, Ext.refl m, dom_same _ _, .tup (A2_flat _ ?_), ?_⟩
          · intro i x hx
            match i, hx with
            | 0, hx => simp at hx; subst hx; rfl
            | 1, hx => simp at hx; subst hx; rfl
            | 2, hx => simp at hx; subst hx; rfl
            | i + 3, hx => simp at hx
          · have hoth : ∀ k, k ≠ g → (w.iterAt g s (p + (Utf8.decode s p).2)).heap[k]? = w.heap[k]? := fun k hk => Lib.iterAt_other w g k s _ hk
            refine R.putO ho c2 ⟨[], _, true, ITER⟩ rfl c3.symm cur fr ⟨rfl, rfl, rfl, by rw [Lib.iterAt_size]; exact Nat.le_refl _, fun k hk => hoth k (fun e => h2 (e ▸ hk))⟩ ?_ h4 h5 (Nat.zero_le _) (fun h0 => by rw [c3] at h0; cases h0) (fun k hk => hoth k (by rw [h1] at hk; exact hk)) (fun j v hv => by simp at hv)
            rw [h1]
            exact .inr ⟨rfl, rfl, s, _, Lib.iterAt_heap w g s p _ q3, hw, rfl⟩
        · cases e
      · replace e : some (Value.tuple #[.bool false], nx, h) = some (v, n', h') := by
          simpa only [if_neg hp] using e
        simp only [Option.some.injEq, Prod.mk.injEq] at e
        obtain ⟨rfl, rfl, rfl⟩ := e
        refine ⟨m, _, w, Lib.run_next_end_at w g s p ty q3 hp, Ext.refl m, dom_same _ _, .tup (A2_flat _ ?_), R⟩
        intro i x hx
        match i, hx with
        | 0, hx => simp at hx; subst hx; rfl
        | i + 1, hx => simp at hx
  · cases e
end
end
end Go.Proofs.YtcccapeaeehjiaaGreatDoor.AM
