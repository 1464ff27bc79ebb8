/-
  The fewest tanks.
-/
import Derived.Test.YtoklmemeanmfdaaGreatKnA
namespace Go.Proofs.YtoklmemeanmfdaaGreat.Ev
open Go.RowKit

theorem fewestE_b : entB Tryz.prog [] 1000 7 fewestE = true := by kernel_rfl
end Go.Proofs.YtoklmemeanmfdaaGreat.Ev
