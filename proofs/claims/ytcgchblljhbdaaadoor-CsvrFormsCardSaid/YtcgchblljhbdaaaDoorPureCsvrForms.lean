/- Every number names a row of the table by hand, and each row is told as it should be: asked of the kernel row by row. -/
import Derived.Test.YtcgchblljhbdaaaDoorCx7
import Derived.Test.YtcgchblljhbdaaaDoorPL
namespace Go.Proofs.YtcgchblljhbdaaaDoor.Pure
open Go Go.RowKit Go.Proofs.YtcgchblljhbdaaaDoor.C Go.Proofs.YtcgchblljhbdaaaDoorW.PrintWords Go.Proofs.YtcgchblljhbdaaaDoorW.PrintLast Go.Proofs.YtcgchblljhbdaaaDoor.PL
theorem forms_rows : (List.range 20).all (fun j => glebelaw9_CsvrForms.f 100 (j : Int) == some true) = true := by kernel_rfl
theorem CsvrForms : glebelaw9_CsvrForms.Pure := by
  intro a0 h
  refine ⟨100, ?_⟩
  have hj := List.all_eq_true.mp forms_rows ((a0 % 256) % 20).toNat (List.mem_range.mpr (by omega))
  have key : ∀ n : Nat, n = 20 → Int.tmod (Go.bits .and .i64 a0 255) (n : Int) = Int.tmod (Go.bits .and .i64 ((((a0 % 256) % 20).toNat : Nat) : Int) 255) (n : Int) := by
    rintro n rfl
    rw [and255, and255, tmod_nn (by omega), tmod_nn (by omega)]
    omega
  rw [← eq_of_beq hj]
  unfold glebelaw9_CsvrForms.f
  simp only [Option.bind_some]
  rw [key _ (by rfl)]
end Go.Proofs.YtcgchblljhbdaaaDoor.Pure
