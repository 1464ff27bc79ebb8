/-
  The system that has no fault; the sale.
-/
import Derived.Test.YtoklmemeanmfdaaGreatKnA
namespace Go.Proofs.YtoklmemeanmfdaaGreat.Ev
open Go.RowKit

theorem fault22_b : entB Tryz.prog [] 1000 61 fault22 = true := by kernel_rfl
theorem sellE_b : entB Tryz.prog [] 1000 66 sellE = true := by kernel_rfl
end Go.Proofs.YtoklmemeanmfdaaGreat.Ev
