/- append: sound. -/
import Derived.Test.YtcccapeaeehjiaaGreatDoorAMd
namespace Go.Proofs.YtcccapeaeehjiaaGreatDoor.AM
noncomputable section
open Go Go.RowKit
set_option linter.unusedVariables false
set_option linter.unusedSimpArgs false
section
variable {P : Program} {F : Nat → Prop} {w0 w : World} {m : M} {h : Tr AObj} {nx : Nat}
def asrc (P : Program) (h : Tr AObj) (tx size : Nat) (x : Value) : Option (Nat × List Value) :=
  match P.underlying tx, x with
  | some (.slice _), .slice (some a) n 1 => (agets h a.block a.off (n * size)).map fun vs => (n, vs)
  | some (.slice _), .slice (some _) 0 0 => some (0, [])
  | some (.slice _), .slice none 0 0 => some (0, [])
  | some .string, .string s => if size = 1 then some (s.size, byteCells s) else none
  | _, _ => none
theorem L2.refl_flat : ∀ {vs : List Value}, (∀ v ∈ vs, flatC v = true) → L2 (CR m) vs vs
  | [], _ => .nil
  | v :: vs, hf => .cons (.flat (hf v List.mem_cons_self)) (L2.refl_flat fun x hx => hf x (List.mem_cons_of_mem _ hx))
theorem asrc_sound (R : Rel F w0 m h w) {tx size k : Nat} {x x' : Value} {vs : List Value} (hx : VR m x x') (e : asrc P h tx size x = some (k, vs)) : ∃ vs', L2 (CR m) vs vs' ∧ Src P size tx x' k vs' w := by
  unfold asrc at e
  split at e
  · rename_i el a n hu
    obtain ⟨us, hus, e⟩ := Option.map_eq_some_iff.1 e
    simp only [Prod.mk.injEq] at e
    obtain ⟨rfl, rfl⟩ := e
    obtain ⟨vs', h1, h2, h3⟩ := agets_sound R hus
    have hl := agets_len hus
    have hL : L2 (CR m) us vs' := L2.of_get (by omega) h3
    rcases hx.inv_slc with ⟨_, c', rfl, hb, hc, _⟩ | ⟨h0, _⟩
    · exact ⟨vs', hL, Src.ofSlice w hu (mv m a) n c' vs' h1 h2 (fun u hu' => by obtain ⟨x, _, hr⟩ := hL.mem u hu'; exact hr.one.2)⟩
    · cases h0
  · rename_i el a hu
    simp only [Option.some.injEq, Prod.mk.injEq] at e
    obtain ⟨rfl, rfl⟩ := e
    rcases hx.inv_slc with ⟨h0, _⟩ | ⟨_, _, b, c', rfl⟩
    · cases h0
    · exact ⟨[], .nil, Src.ofSlice w hu b 0 c' [] (by simp) (fun j u hj => by simp at hj) (fun u hu' => by cases hu')⟩
  · rename_i el hu
    simp only [Option.some.injEq, Prod.mk.injEq] at e
    obtain ⟨rfl, rfl⟩ := e
    rw [hx.inv_flat rfl]
    exact ⟨[], .nil, Src.ofNil w hu 0⟩
  · rename_i s hu
    split at e
    · rename_i h1
      subst h1
      simp only [Option.some.injEq, Prod.mk.injEq] at e
      obtain ⟨rfl, rfl⟩ := e
      rw [hx.inv_str]
      exact ⟨byteCells s, L2.refl_flat (fun v hv => by unfold byteCells at hv; obtain ⟨b, _, rfl⟩ := List.mem_map.1 hv; rfl), Src.ofString w hu s⟩
    · cases e
  · cases e
theorem get_aputA : ∀ (vs : List Value) (c : Array Value) (o j : Nat), o + vs.length ≤ c.size → (aputA c o vs)[j]? = if o ≤ j ∧ j < o + vs.length then vs[j - o]? else c[j]?
  | [], c, o, j, _ => by
    rw [if_neg (by simp only [List.length_nil]; omega)]
    rfl
  | v :: r, c, o, j, hl => by
    simp only [List.length_cons] at hl
    unfold aputA
    rw [get_aputA r _ (o + 1) j (by simp; omega)]
    by_cases h1 : j = o
    · subst h1
      rw [if_neg (by omega), if_pos (by simp only [List.length_cons]; omega), Nat.sub_self, Array.getElem?_setIfInBounds_self]
      rw [if_pos (by omega)]
      rfl
    · by_cases h2 : o + 1 ≤ j ∧ j < o + 1 + r.length
      · rw [if_pos h2, if_pos (by simp only [List.length_cons]; omega)]
        obtain ⟨d, hd⟩ : ∃ d, j - o = d + 1 := ⟨j - o - 1, by omega⟩
        rw [hd, List.getElem?_cons_succ]
        congr 1
        omega
      · rw [if_neg h2, if_neg (by simp only [List.length_cons]; omega), Array.getElem?_setIfInBounds_ne (by omega)]
theorem PR.app {cells vs vs' : List Value} {cur : Array Value} (p : PR m cells cur) (r : L2 (CR m) vs vs') (hl : cells.length + vs.length ≤ cur.size) : PR m (cells ++ vs) (aputA cur cells.length vs') := by
  have hlen := r.len
  refine ⟨by rw [List.length_append, size_aputA]; exact hl, fun j v hv => ?_⟩
  rw [get_aputA vs' cur cells.length j (by omega)]
  by_cases hj : j < cells.length
  · rw [List.getElem?_append_left hj] at hv
    rw [if_neg (by omega)]
    exact p.2 j v hv
  · rw [List.getElem?_append_right (by omega)] at hv
    have hlt : j - cells.length < vs.length := (List.getElem?_eq_some_iff.1 hv).1
    rw [if_pos (by omega)]
    exact r.get _ v hv
def aappend (P : Program) (n : Nat) (h : Tr AObj) (tS tX : Nat) (s x : Value) : Option (Value × Nat × Tr AObj) :=
  match P.underlying tS with
  | some (.slice e) =>
    (P.info? e).bind fun i => i.zero.bind fun z =>
      if z.cells.size = i.size ∧ 0 < i.size ∧ i.size ≤ 1000000 then
        (asrc P h tX i.size x).bind fun kv =>
          if kv.1 = 0 then
            match s with
            | .slice none 0 0 => some (.slice none 0 0, n, h)
            | .slice (some a) l c => some (.slice (some a) l c, n, h)
            | _ => none
          else
            match s with
            | .slice none 0 0 => if kv.1 * i.bytes ≤ 140737488355328 ∧ kv.1 ≤ 140737488355328 then some (.slice (some ⟨n, 0, none⟩) kv.1 1, n + 1, h.set n (some ⟨kv.2, e, true, i.size⟩)) else none
            | .slice (some a) len 1 => (h.get a.block).bind fun o =>
              if a.off = 0 ∧ o.own = true ∧ o.elem = e ∧ o.es = i.size ∧ o.cells.length = len * i.size ∧ (len + kv.1) * i.bytes ≤ 140737488355328 ∧ len + kv.1 ≤ 140737488355328 then
                some (.slice (some ⟨n, 0, none⟩) (len + kv.1) 1, n + 1, (h.set a.block none).set n (some ⟨o.cells ++ kv.2, e, true, i.size⟩))
              else none
            | _ => none
      else none
  | _ => none
theorem grownCap_need (w : World) (need old e : Nat) : need ≤ grownCap w need old e := by
  unfold grownCap Question.cut
  simp only
  omega
theorem zeroCells_size (z : Array Value) (n : Nat) : (Builtin.zeroCells z n).size = n * z.size := by simp [Builtin.zeroCells]
theorem VR.newSlice (m : M) (nx g sz es n c : Nat) (hn : n ≤ c) (hs : c * es ≤ sz) (hM : c ≤ 9223372036854775807) : VR (m.add nx ⟨g, 0, none⟩ sz es) (.slice (some ⟨nx, 0, none⟩) n 1) (.slice (some ⟨g, 0, none⟩) n c) := by
  have e : mv (m.add nx ⟨g, 0, none⟩ sz es) ⟨nx, 0, none⟩ = ⟨g, 0, none⟩ := by
    unfold mv
    rw [show (m.add nx ⟨g, 0, none⟩ sz es).loc nx = ⟨g, 0, none⟩ from if_pos rfl]
    rfl
  have := VR.cell (CR.slc (m := m.add nx ⟨g, 0, none⟩ sz es) ⟨nx, 0, none⟩ n c (.inl rfl) hn (by
    show 0 + c * (if nx = nx then es else m.es nx) ≤ (if nx = nx then sz else m.sz nx)
    rw [if_pos rfl, if_pos rfl]; omega) hM)
  rw [e] at this
  exact this
theorem own_lt' (R : Rel F w0 m h w) : ∀ i o, h.get i = some o → o.own = true → (m.loc i).block < w.heap.size := by
  intro i o ho hown
  obtain ⟨g, c, f, h1, h2, h3, _⟩ := R.own i o ho hown
  rw [h1]
  exact h3.lt
/-- A new row behind a draw; the old one (if any) is told no more. -/
theorem Rel.grow (R : Rel F w0 m h w) (hn : ¬ m.dom nx) {h' : Tr AObj} (sub : ∀ i o, h'.get i = some o → h.get i = some o) {cells : List Value} {cur : Array Value} (e es : Nat) (p : PR m cells cur) (he0 : 0 < es) (he1 : es ≠ ITER) :
    Rel F w0 (m.add nx ⟨w.heap.size, 0, none⟩ cur.size es) (h'.set nx (some ⟨cells, e, true, es⟩)) (w.drew.alloc (.cells cur e)) := by
  have hlt := own_lt' R
  refine R.add (h' := h') nx hn (w' := w.drew.alloc (.cells cur e)) (((Keep.refl F w).drew).alloc R.base_le _) sub w.heap.size (fun i o ho hown => ⟨?_, Nat.ne_of_lt (hlt i o (sub i o ho) hown)⟩) (fun hF => Nat.lt_irrefl _ (R.base_le _ hF)) cells cur e es (0, 0) ?_ (.inl rfl) p.1 p.2 (fun h => absurd h (by omega)) he1
  · exact alloc_other w.drew _ _ (hlt i o (sub i o ho) hown)
  · show (w.heap.push _)[w.heap.size]? = _
    simp
theorem aappend_sound (R : Rel F w0 m h w) {tS tX ty : Nat} {s s' x x' v : Value} {n' : Nat} {h' : Tr AObj} (hs : VR m s s') (hx : VR m x x') (hf : ∀ i, nx ≤ i → i < n' → ¬ m.dom i) (e : aappend P nx h tS tX s x = some (v, n', h')) :
    Ok P F w0 m w (Builtin.append_ #[tS, tX] ty #[s', x']) v nx n' h' := by
  unfold aappend at e
  split at e
  · rename_i el hu
    replace e := Option.bind_eq_some_iff.1 e
    obtain ⟨i, hi, e⟩ := e
    replace e := Option.bind_eq_some_iff.1 e
    obtain ⟨z, hz, e⟩ := e
    split at e
    · rename_i hzs
      have hzI : i.size ≠ ITER := by unfold ITER; omega
      replace e := Option.bind_eq_some_iff.1 e
      obtain ⟨⟨k, vs⟩, hsrc, e⟩ := e
      obtain ⟨vs', hL, hS⟩ := asrc_sound R hx hsrc
      have hLl := hL.len
      have hnl := hS.newsLen
      simp only at e
      split at e
      · rename_i hk
        subst hk
        -- nothing is appended
        have hnil : vs' = [] := List.length_eq_zero_iff.1 (by omega)
        subst hnil
        have hrun : ∀ (A : Option Addr) (n0 c' : Nat), n0 ≤ c' → (Builtin.append_ #[tS, tX] ty #[.slice A n0 c', x']).run P w = .ok (.slice A n0 c') w := by
          intro A n0 c' hc
          have hcells := hS.cells
          have hlen := hS.len
          cases A with
          | none =>
            rcases hS.kind with ⟨e', hk⟩ | hk <;> simp [Builtin.append_, run_underlying hu, run_underlying hk, sizeOf, typeInfo, hi, hlen, hc, hcells]
          | some A =>
            rcases hS.kind with ⟨e', hk⟩ | hk <;> simp [Builtin.append_, run_underlying hu, run_underlying hk, sizeOf, typeInfo, hi, hlen, hc, hcells, storeCells]
        split at e
        · simp only [Option.some.injEq, Prod.mk.injEq] at e
          obtain ⟨rfl, rfl, rfl⟩ := e
          rw [hs.inv_flat rfl]
          exact Ok.pure R (hrun none 0 0 (Nat.le_refl _)) (.flat rfl)
        · simp only [Option.some.injEq, Prod.mk.injEq] at e
          obtain ⟨rfl, rfl, rfl⟩ := e
          rcases hs.inv_slc with ⟨h1, c', rfl, hb, hc, hz2⟩ | ⟨h0, hn0, b, c', rfl⟩
          · subst h1
            exact Ok.pure R (hrun _ _ c' hc) (.cell (.slc _ _ _ hb hc hz2 (hs.slc_le rfl)))
          · subst hn0; subst h0
            exact Ok.pure R (hrun _ _ c' (Nat.zero_le _)) (.cell (.emp _ _ _))
        · cases e
      · rename_i hk
        split at e
        · split at e
          · rename_i hbig
            simp only [Option.some.injEq, Prod.mk.injEq] at e
            obtain ⟨rfl, rfl, rfl⟩ := e
            rw [hs.inv_flat rfl]
            have hrun := run_append_grow_src (P := P) w tS tX ty el i z hu hi hz none 0 0 [] (run_firstCells_none w.drew i.size 0 0 0) x' k vs' hS (by omega) (by omega) (by rw [Nat.zero_add]; exact growslice_fits (by omega) hbig.1)
            rw [Nat.zero_add] at hrun
            generalize hG : grownCap w k 0 el = G at hrun
            have hGk : k ≤ G := by rw [← hG]; exact grownCap_need _ _ _ _
            have hsz : (([] ++ vs').toArray ++ Builtin.zeroCells z.cells (G - k)).size = G * i.size := by
              rw [Array.size_append, zeroCells_size, hzs.1]
              simp only [List.nil_append, List.size_toArray]
              rw [hnl, ← Nat.add_mul]
              congr 1; omega
            have hp : PR m vs (([] ++ vs').toArray ++ Builtin.zeroCells z.cells (G - k)) := ⟨by rw [Array.size_append]; simp; omega, fun j v hv => by
              obtain ⟨v', h1, h2⟩ := hL.get j v hv
              refine ⟨v', ?_, h2⟩
              have hj : j < vs'.length := (List.getElem?_eq_some_iff.1 h1).1
              rw [Array.getElem?_append_left (by simpa using hj)]
              simpa using h1⟩
            refine ⟨_, _, _, hrun, M.add_ext m nx _ _ i.size (hf nx (Nat.le_refl _) (Nat.lt_succ_self _)), dom_add _ _ _ _ _, VR.newSlice m nx w.heap.size _ i.size k G hGk (by rw [hsz]; exact Nat.le_refl _) (by rw [← hG]; have := grownCap_le_maxLen w k 0 el (by unfold maxLen; omega); unfold maxLen at this; omega), R.grow (hf nx (Nat.le_refl _) (Nat.lt_succ_self _)) (fun _ _ q => q) el i.size hp hzs.2.1 hzI⟩
          · cases e
        · rename_i a len
          replace e := Option.bind_eq_some_iff.1 e
          obtain ⟨o, ho, e⟩ := e
          split at e
          · rename_i hc
            obtain ⟨c1, c2, c3, c4, c5, c6, c7⟩ := hc
            simp only [Option.some.injEq, Prod.mk.injEq] at e
            obtain ⟨rfl, rfl, rfl⟩ := e
            rcases hs.inv_slc with ⟨_, c', rfl, hb, hlc, hbd⟩ | ⟨h0, _⟩
            · obtain ⟨g, cur, fr, g1, g2, g3, g4, g5, g6, g7⟩ := R.own _ o ho c2
              replace g3 := g3.row (by rw [c4]; exact hzI)
              have hmv : mv m a = ⟨g, 0, none⟩ := by unfold mv; rw [g1, c1]
              rw [hmv]
              have hes := R.es _ o ho
              rw [hes, c4, c1, Nat.zero_add, ← g5] at hbd
              have hsub : ∀ j q, (h.set a.block none).get j = some q → h.get j = some q := by
                intro j q hj
                rw [Tr.get_set] at hj
                split at hj
                · cases hj
                · exact hj
              have hne : ∀ j q, (h.set a.block none).get j = some q → j ≠ a.block := by
                intro j q hj hjb
                rw [Tr.get_set, if_pos hjb] at hj; cases hj
              by_cases hroom : len + k ≤ c'
              · have hfit : (len + k) * i.size ≤ cur.size := Nat.le_trans (Nat.mul_le_mul_right _ hroom) hbd
                rw [Nat.add_mul] at hfit
                have hrun := run_append_room_src (P := P) w tS tX ty el i hu hi g 0 len c' x' k vs' hS hroom
                  (fun j hj => by
                    simp only [World.cell?, g3]
                    rw [if_neg (by simp), Array.getElem?_eq_getElem (by omega)]; rfl)
                  (fun j hj => by
                    simp only [World.frozen?, g3]
                    rcases g4 with g4 | ⟨g4, _⟩ <;> simp only [Bool.and_eq_false_iff, decide_eq_false_iff_not] <;> omega)
                rw [Nat.zero_add] at hrun
                have hp : PR m (o.cells ++ vs) (aputA cur o.cells.length vs') := PR.app ⟨g6.1, g7⟩ hL (by omega)
                rw [c5] at hp
                have hsz : (aputA cur (len * i.size) vs').size = cur.size := size_aputA _ _ _
                have hoth : ∀ q, q ≠ g → (w.setCells g (len * i.size) vs').heap[q]? = w.heap[q]? := fun q hq => heap_setCells_ne g q hq vs' _ w
                refine ⟨_, _, _, hrun, M.add_ext m nx ⟨g, 0, none⟩ (aputA cur (len * i.size) vs').size i.size (hf nx (Nat.le_refl _) (Nat.lt_succ_self _)), dom_add _ _ _ _ _, VR.newSlice m nx g _ i.size (len + k) c' hroom (by rw [hsz]; exact hbd) (hs.slc_le rfl), ?_⟩
                refine R.add (h' := h.set a.block none) nx (hf nx (Nat.le_refl _) (Nat.lt_succ_self _)) (below_setCells' g g2 vs' _ w w (Keep.refl _ _)) hsub g (fun j q hj hq => ?_) g2 _ _ el i.size fr (by rw [← c3]; exact heap_setCells g vs' _ w cur _ fr g3) (by rw [hsz, ← c4]; exact g4) hp.1 hp.2 (fun h => absurd h (by omega)) hzI
                have hap := R.apart j a.block q o (hsub j q hj) ho hq c2 (hne j q hj)
                rw [g1] at hap
                exact ⟨hoth _ hap, hap⟩
              · have hold : (Builtin.firstCells i.size len (.slice (some ⟨g, 0, none⟩) len c')).run P w.drew = .ok (cur.toList.take (len * i.size)).toArray w.drew :=
                  run_firstCells_some w.drew i.size len ⟨g, 0, none⟩ len c' _ (by rw [List.length_take, Array.length_toList]; omega) (fun j u hj => by
                    rw [List.getElem?_take] at hj
                    split at hj
                    · have hz0 : (⟨g, 0, none⟩ : Addr).add j = ⟨g, j, none⟩ := by unfold Addr.add; split <;> simp_all
                      rw [hz0]
                      show (World.drew w).cell? ⟨g, j, none⟩ = _
                      simp only [World.cell?, World.drew, g3]
                      simpa using hj
                    · cases hj)
                have hrun := run_append_grow_src (P := P) w tS tX ty el i z hu hi hz (some ⟨g, 0, none⟩) len c' _ hold x' k vs' hS (by omega) (by omega) (growslice_fits (by omega) c6)
                generalize hG : grownCap w (len + k) c' el = G at hrun
                have hGk : len + k ≤ G := by rw [← hG]; exact grownCap_need _ _ _ _
                have htl : (cur.toList.take (len * i.size)).length = len * i.size := by rw [List.length_take, Array.length_toList]; omega
                have hsz : ((cur.toList.take (len * i.size) ++ vs').toArray ++ Builtin.zeroCells z.cells (G - (len + k))).size = G * i.size := by
                  rw [Array.size_append, zeroCells_size, hzs.1]
                  simp only [List.size_toArray, List.length_append]
                  rw [htl, hnl, ← Nat.add_mul, ← Nat.add_mul]
                  congr 1; omega
                have hp : PR m (o.cells ++ vs) ((cur.toList.take (len * i.size) ++ vs').toArray ++ Builtin.zeroCells z.cells (G - (len + k))) := by
                  refine ⟨by rw [Array.size_append]; simp only [List.size_toArray, List.length_append]; omega, fun j v hv => ?_⟩
                  have hjl : j < (o.cells ++ vs).length := (List.getElem?_eq_some_iff.1 hv).1
                  rw [List.length_append] at hjl
                  rw [Array.getElem?_append_left (by simp only [List.size_toArray, List.length_append]; omega)]
                  rw [List.getElem?_toArray]
                  by_cases hj : j < o.cells.length
                  · rw [List.getElem?_append_left hj] at hv
                    obtain ⟨v', k1, k2⟩ := g7 j v hv
                    refine ⟨v', ?_, k2⟩
                    rw [List.getElem?_append_left (by omega), List.getElem?_take, if_pos (by omega)]
                    simpa using k1
                  · rw [List.getElem?_append_right (by omega)] at hv
                    obtain ⟨v', k1, k2⟩ := hL.get _ v hv
                    refine ⟨v', ?_, k2⟩
                    rw [List.getElem?_append_right (by omega), htl, ← c5]
                    exact k1
                refine ⟨_, _, _, hrun, M.add_ext m nx _ _ i.size (hf nx (Nat.le_refl _) (Nat.lt_succ_self _)), dom_add _ _ _ _ _, VR.newSlice m nx w.heap.size _ i.size (len + k) G hGk (by rw [hsz]; exact Nat.le_refl _) (by rw [← hG]; have := grownCap_le_maxLen w (len + k) c' el (by unfold maxLen; omega); unfold maxLen at this; omega), R.grow (hf nx (Nat.le_refl _) (Nat.lt_succ_self _)) hsub el i.size hp hzs.2.1 hzI⟩
            · cases h0
          · cases e
        · cases e
    · cases e
  · cases e
end
end
end Go.Proofs.YtcccapeaeehjiaaGreatDoor.AM
