/-
  The best system.
-/
import Derived.Test.YtoklmemeanmfdaaGreatKnA
namespace Go.Proofs.YtoklmemeanmfdaaGreat.Ev
open Go.RowKit

theorem bestE_b : entB Tryz.prog faults 1000 61 bestE = true := by kernel_rfl
end Go.Proofs.YtoklmemeanmfdaaGreat.Ev
