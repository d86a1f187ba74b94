/- slices.Insert at elements of several cells: there is room, i < len(s). (Turned from the shelf's text for one cell.) -/
import Derived.Test.YtcccapeaeehjiaaGreatDoorAMs
import Derived.Shelf.Spec.SlicesInsert
import Derived.Shelf.Spec.SlicesInsertGrow
namespace Go.Proofs.YtcccapeaeehjiaaGreatDoor.AM
noncomputable section
open Go Go.Proofs Go.Shelf Go.RowKit Go.Lib
set_option linter.unusedVariables false
set_option linter.unusedSimpArgs false
/-- copy of elements of several cells, where the cells that are read are known and those written are there. -/
theorem run_copy_many {P : Program} (w : World) (dT sT ty elem z : Nat) (b o dLen dCap : Nat) (a : Addr) (sLen sCap q : Nat) (cs : List Value)
    (hu : P.underlying dT = some (.slice elem)) (hs : (P.info? elem).map (·.size) = some z) (hq : q = Nat.min sLen dLen) (hn : cs.length = q * z)
    (hsrc : ∀ j v, cs[j]? = some v → w.cell? (a.add j) = some v) (hc : ∀ j, j < cs.length → (w.cell? ⟨b, o + j, none⟩).isSome = true) (hf : ∀ j, j < cs.length → w.frozen? ⟨b, o + j, none⟩ = false) (h1 : ∀ v ∈ cs, v.oneCell' = true) :
    (Builtin.copy_ #[dT, sT] ty #[.slice (some ⟨b, o, none⟩) dLen dCap, .slice (some a) sLen sCap]).run P w = .ok (goInt q) (w.setCells b o cs) := by
  have hl := run_loadCells_list (P := P) w a cs hsrc
  have hst := run_storeCells_cells (P := P) b o cs 0 w (by simpa using hc) (by simpa using hf) h1
  rw [hn] at hl
  subst hq
  have hz : tsize P elem = some z := hs
  rw [Nat.add_zero] at hst
  simp [Builtin.copy_, run_underlying hu, run_sizeOf' hz, Builtin.lenOf, Builtin.firstCells, hl, hst, goInt]
end
end Go.Proofs.YtcccapeaeehjiaaGreatDoor.AM
