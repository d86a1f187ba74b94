/- Every number names a row of the table by hand, and each row is told as it should be: asked of the kernel row by row. -/
import Derived.Test.YtcgchblljhbdaaaDoorZx4
import Derived.Test.YtcgchblljhbdaaaDoorPL
namespace Go.Proofs.YtcgchblljhbdaaaDoor.Pure
open Go Go.RowKit Go.Proofs.YtcgchblljhbdaaaDoor.Z Go.Proofs.YtcgchblljhbdaaaDoorW.PrintWords Go.Proofs.YtcgchblljhbdaaaDoorW.PrintLast Go.Proofs.YtcgchblljhbdaaaDoor.PL
set_option maxRecDepth 1000000 in
theorem forms_rows : (List.range 24).all (fun j => glebelaw6_DateForms.f 9000 (j : Int) == some true) = true := by kernel_rfl
theorem DateForms : glebelaw6_DateForms.Pure := by
  intro a0 h
  refine ⟨9000, ?_⟩
  have hj := List.all_eq_true.mp forms_rows ((a0 % 256) % 24).toNat (List.mem_range.mpr (by omega))
  have key : ∀ n : Nat, n = 24 → Int.tmod (Go.bits .and .i64 a0 255) (n : Int) = Int.tmod (Go.bits .and .i64 ((((a0 % 256) % 24).toNat : Nat) : Int) 255) (n : Int) := by
    rintro n rfl
    rw [and255, and255, tmod_nn (by omega), tmod_nn (by omega)]
    omega
  rw [← eq_of_beq hj]
  unfold glebelaw6_DateForms.f
  simp only [Option.bind_some]
  rw [key _ (by rfl)]
end Go.Proofs.YtcgchblljhbdaaaDoor.Pure
