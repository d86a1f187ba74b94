/- Every number names a row of the table by hand, and each row is told as it should be: asked of the kernel row by row. -/
import Derived.Test.YtnkcffmklomfhaaYx4
import Derived.Test.YtnkcffmklomfhaaScanS
namespace Go.Proofs.Ytnkcffmklomfhaa.Pure
open Go Go.RowKit Go.Proofs.Ytnkcffmklomfhaa.Y Go.Proofs.YtnkcffmklomfhaaW.PrintWords Go.Proofs.YtnkcffmklomfhaaW.PrintLast Go.Proofs.Ytnkcffmklomfhaa.PL Go.Proofs.Ytnkcffmklomfhaa.ScanS
theorem forms_rows : (List.range 10).all (fun j => glebelaw7_ScanForms.f 100 (j : Int) == some true) = true := by
  unfold glebelaw7_ScanForms.f
  simp only [aw100]
  kernel_rfl
theorem ScanForms : glebelaw7_ScanForms.Pure := by
  intro a0 h
  refine ⟨100, ?_⟩
  have hj := List.all_eq_true.mp forms_rows ((a0 % 256) % 10).toNat (List.mem_range.mpr (by omega))
  have key : ∀ n : Nat, n = 10 → Int.tmod (Go.bits .and .i64 a0 255) (n : Int) = Int.tmod (Go.bits .and .i64 ((((a0 % 256) % 10).toNat : Nat) : Int) 255) (n : Int) := by
    rintro n rfl
    rw [and255, and255, tmod_nn (by omega), tmod_nn (by omega)]
    omega
  rw [← eq_of_beq hj]
  unfold glebelaw7_ScanForms.f
  simp only [Option.bind_some]
  rw [key _ (by rfl)]
end Go.Proofs.Ytnkcffmklomfhaa.Pure
