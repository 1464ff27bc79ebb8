/-
 What is handed to the laws: the library's tables are as the program's text lays them.
-/
import Derived.Test.YtihedfkcccaonaaGreatDoorBsC
import Derived.Test.YtihedfkcccaonaaGreatDoorRows
import Derived.Test.YtihedfkcccaonaaGreatDoorChecked
import Derived.LaidMore
import Derived.MakeChecks
import Derived.LaidHandle
import Derived.Lay
import Derived.Lib.LaidTab
import Derived.Stop.LaidErr
import Derived.Lib.ItoaNum
namespace Go.Proofs.YtihedfkcccaonaaGreatDoor
open Go.RowKit
set_option maxRecDepth 100000
def zeV : List (String × DataW Unit) := [("math/bits.deBruijn32tab", Rows.laid_math_bits_deBruijn32tab), ("math/bits.deBruijn64tab", Rows.laid_math_bits_deBruijn64tab), ("internal/strconv.uint64pow10", Rows.laid_internal_strconv_uint64pow10), ("unicode/utf8.acceptRanges", Rows.laid_unicode_utf8_acceptRanges), ("unicode/utf8.first", Rows.laid_unicode_utf8_first)]
theorem zp1 (os : Os) (args : Array Value) : laidMetH Tryz.prog zeV ((World.laidAll Tryz.prog os zeV).forCall (fun _ _ => 0) ⟨#[], args, []⟩).memory := by
 rw [MakeChecks.laidMetH_plain _ _ _ (by kernel_rfl)]
 exact laidMet_laidAll _ (by kernel_rfl) (by kernel_rfl)
theorem zqV {W : World} (h : laidMetH Tryz.prog zeV W) : ∃ el fz, W.heap[1]? = some (.cells (Lib.pow10Tab.map fun z => Value.int .u64 z).toArray el fz) := by
 rw [MakeChecks.laidMetH_plain _ _ _ (by kernel_rfl)] at h
 have h2 := h.tail.tail
 obtain ⟨ps, ⟨g2, t2, cs2, f2, p2, q2, hg2, ht2, hv2, hd2, _⟩, _⟩ := h2
 obtain rfl := nQs ((show Tryz.prog.globalNamed "internal/strconv.uint64pow10" = some 1 by kernel_rfl).symm.trans hg2)
 obtain rfl := nQs ((show (Tryz.prog.globals[1]?).map (·.type) = some 370 by kernel_rfl).symm.trans ht2)
 have hcs := Lib.cells_of_tab (k := .u64) (zs := Lib.pow10Tab) (show Tryz.prog.underlying 370 = some (.array 20 336) by kernel_rfl) (show Tryz.prog.underlying 336 = some (.int .u64) by kernel_rfl) (by kernel_rfl) (by kernel_rfl) (show _ = some (Lib.tabData .u64 Lib.pow10Tab, _) from hd2)
 unfold World.var? at hv2
 rw [hg2, Option.bind_some] at hv2
 split at hv2
 ·rename_i cs e fz hh
  have e1 : cs = cs2 := nQs hv2
  subst e1
  refine ⟨e, fz, ?_⟩
  rw [hh, ← hcs]
 ·cases hv2
end Go.Proofs.YtihedfkcccaonaaGreatDoor
