/-
  The faults of all but the last of the systems that are tried.
-/
import Derived.Test.YtdgkjgljkgjjiaaGreatDoorKnA
namespace Go.Proofs.YtdgkjgljkgjjiaaGreatDoor.Ev
open Go.RowKit

theorem fault00_b : entB Tryz.prog [] 1000 38 fault00 = true := by kernel_rfl
theorem fault10_b : entB Tryz.prog [] 1000 38 fault10 = true := by kernel_rfl
theorem fault01_b : entB Tryz.prog [] 1000 38 fault01 = true := by kernel_rfl
theorem fault20_b : entB Tryz.prog [] 1000 38 fault20 = true := by kernel_rfl
theorem fault11_b : entB Tryz.prog [] 1000 38 fault11 = true := by kernel_rfl
theorem fault30_b : entB Tryz.prog [] 1000 38 fault30 = true := by kernel_rfl
theorem fault02_b : entB Tryz.prog [] 1000 38 fault02 = true := by kernel_rfl
theorem fault21_b : entB Tryz.prog [] 1000 38 fault21 = true := by kernel_rfl
theorem fault40_b : entB Tryz.prog [] 1000 38 fault40 = true := by kernel_rfl
theorem fault12_b : entB Tryz.prog [] 1000 38 fault12 = true := by kernel_rfl
theorem fault31_b : entB Tryz.prog [] 1000 38 fault31 = true := by kernel_rfl
theorem fault03_b : entB Tryz.prog [] 1000 38 fault03 = true := by kernel_rfl
theorem fault50_b : entB Tryz.prog [] 1000 38 fault50 = true := by kernel_rfl
end Go.Proofs.YtdgkjgljkgjjiaaGreatDoor.Ev
