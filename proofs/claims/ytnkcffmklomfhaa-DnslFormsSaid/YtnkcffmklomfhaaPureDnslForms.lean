/- Every number names a row of the table by hand, and each row is told as it should be: asked of the kernel row by row. -/
import Derived.Test.YtnkcffmklomfhaaDx7
import Derived.Test.YtnkcffmklomfhaaPL
namespace Go.Proofs.Ytnkcffmklomfhaa.Pure
open Go Go.RowKit Go.Proofs.Ytnkcffmklomfhaa.D Go.Proofs.YtnkcffmklomfhaaW.PrintWords Go.Proofs.YtnkcffmklomfhaaW.PrintLast Go.Proofs.Ytnkcffmklomfhaa.PL
theorem forms_rows : (List.range 19).all (fun j => glebelaw10_DnslForms.f 100 (j : Int) == some true) = true := by kernel_rfl
theorem DnslForms : glebelaw10_DnslForms.Pure := by
  intro a0 h
  refine ⟨100, ?_⟩
  have hj := List.all_eq_true.mp forms_rows ((a0 % 256) % 19).toNat (List.mem_range.mpr (by omega))
  have key : ∀ n : Nat, n = 19 → Int.tmod (Go.bits .and .i64 a0 255) (n : Int) = Int.tmod (Go.bits .and .i64 ((((a0 % 256) % 19).toNat : Nat) : Int) 255) (n : Int) := by
    rintro n rfl
    rw [and255, and255, tmod_nn (by omega), tmod_nn (by omega)]
    omega
  rw [← eq_of_beq hj]
  unfold glebelaw10_DnslForms.f
  simp only [Option.bind_some]
  rw [key _ (by rfl)]
end Go.Proofs.Ytnkcffmklomfhaa.Pure
