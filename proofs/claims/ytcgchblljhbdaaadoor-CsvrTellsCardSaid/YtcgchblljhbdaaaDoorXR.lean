/- A law's argument of rows of whole numbers ('[][]byte'), as the print's words have it. -/
import Derived.Test.YtcgchblljhbdaaaDoorWWords
import Derived.Test.YtcgchblljhbdaaaDoorWMore
import Derived.Deep.Matrix
namespace Go.Proofs.YtcgchblljhbdaaaDoor.XR
open Go.RowKit Go.Proofs.YtcgchblljhbdaaaDoorW.PrintWords Go.Proofs.YtcgchblljhbdaaaDoorW.PrintMore
/-- A law's argument of rows of whole numbers, as the print's words have it. -/
theorem open_rowsC {H : Type} {enc : TypeId × Value → H} {P : Program} {w : World} {base : Nat} {held : Bool} {t e q : TypeId} {k : IntKind} {a : Option Addr} {len cap : Nat} {d : DataW H} {ps : List MemPlace}
    (ht : P.underlying t = some (.slice e)) (he : P.underlying e = some (.slice q)) (hq : P.underlying q = some (.int k)) (ce : P.cellsOf e = 1) (cq : P.cellsOf q = 1)
    (h : ∃ fuel, DataW.trod enc P w base (fun _ => true) held fuel t (Value.slice a len cap).cells.toList = some (d, ps)) :
    ∃ l : List (List Int), len = l.length ∧ Kd.C (Kd.slice q (Kd.int k)) w a l.length l ∧ l.length ≤ cap ∧ l.length ≤ maxLen ∧ ∀ x ∈ l, x.length ≤ maxLen ∧ ∀ y ∈ x, (Lit.int k y).wf = true := by
  obtain ⟨fuel, hf⟩ := h
  rcases Go.Deep.open_int_rows ht he hq ce cq hf with ⟨hcs, _⟩ | ⟨x, l, c, A, L, C, Z, hcs, _, hl, hm, _, hrow⟩
  · simp [Value.cells] at hcs
    obtain ⟨rfl, rfl, rfl⟩ := hcs
    exact ⟨[], rfl, ⟨rfl, Nat.zero_le _, fun hn => absurd hn (Nat.lt_irrefl _)⟩, Nat.le_refl _, Nat.zero_le _, fun x hx => absurd hx List.not_mem_nil⟩
  · simp [Value.cells] at hcs
    obtain ⟨rfl, rfl, rfl⟩ := hcs
    have hmax : maxLen = 9223372036854775807 := by decide
    have hlen : ((List.range len).map fun r => (Z r).take (L r)).length = len := by simp
    refine ⟨(List.range len).map fun r => (Z r).take (L r), hlen.symm, ⟨rfl, by rw [hlen]; omega, fun hn => ⟨x, rfl, fun j p hj => ?_⟩⟩, by rw [hlen]; exact hl, by rw [hlen]; omega, ?_⟩
    · obtain ⟨hj1, hj2⟩ := List.getElem?_eq_some_iff.1 hj
      have hjl : j < len := by rw [hlen] at hj1; exact hj1
      have hp : (Z j).take (L j) = p := by rw [← hj2]; simp
      obtain ⟨r1, r2, r3, r4, r5, r6, r7⟩ := hrow j (by omega)
      have hpl : p.length = L j := by rw [← hp, List.length_take]; omega
      refine ⟨[.slice (A j) p.length (C j)], rfl, ⟨A j, C j, rfl, by omega, rfl, by omega, fun hn2 => ?_⟩, fun i u hu => ?_⟩
      · cases hA : A j with
        | none => have := r6 hA; omega
        | some a' =>
          refine ⟨a', rfl, fun i y hy => ⟨[.int k y], rfl, rfl, fun m u hu => ?_⟩⟩
          obtain ⟨hi1, hi2⟩ := List.getElem?_eq_some_iff.1 hy
          have hm0 : m = 0 := by
            cases m with
            | zero => rfl
            | succ m => simp at hu
          subst hm0
          have hu' : Value.int k y = u := by simpa using hu
          have hc := (r7 a' hA).2 i (by omega)
          have hz : (Z j).getD i 0 = y := by
            have hiz : i < (Z j).length := by omega
            rw [List.getD_eq_getElem?_getD, List.getElem?_eq_getElem hiz]
            subst hp
            simp at hi2
            simpa using hi2
          rw [hz, hu'] at hc
          simpa [Kd.int, Kd.scalar] using hc
      · have hi0 : i = 0 := by
          cases i with
          | zero => rfl
          | succ i => simp at hu
        subst hi0
        have hu' : Value.slice (A j) p.length (C j) = u := by simpa using hu
        rw [← hu', hpl]
        simpa [Kd.slice] using r1
    · intro y hy
      obtain ⟨r, hr, rfl⟩ := List.mem_map.1 hy
      have hr' := List.mem_range.1 hr
      obtain ⟨r1, r2, r3, r4, r5, r6, r7⟩ := hrow r (by omega)
      exact ⟨by rw [List.length_take]; omega, fun z hz => r5 z (List.mem_of_mem_take hz)⟩
end Go.Proofs.YtcgchblljhbdaaaDoor.XR
