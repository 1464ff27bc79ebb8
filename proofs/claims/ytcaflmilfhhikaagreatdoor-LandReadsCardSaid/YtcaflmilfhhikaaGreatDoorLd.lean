/-
  What is handed to the laws: the library's tables and errors are as the program's text lays them.
-/
import Derived.Test.YtcaflmilfhhikaaGreatDoorLib
import Derived.Test.YtcaflmilfhhikaaGreatDoorBaseK
import Derived.Test.YtcaflmilfhhikaaGreatDoorRows
import Derived.LaidMore
import Derived.MakeChecks
import Derived.LaidHandle
import Derived.Lay
import Derived.Lib.LaidTab
import Derived.Stop.LaidErr
namespace Go.Proofs.YtcaflmilfhhikaaGreatDoor
open Go.RowKit
set_option maxRecDepth 100000
def laid7 : List (String × DataW Unit) := [("math/bits.deBruijn32tab", Rows.laid_math_bits_deBruijn32tab), ("math/bits.deBruijn64tab", Rows.laid_math_bits_deBruijn64tab), ("internal/strconv.uint64pow10", Rows.laid_internal_strconv_uint64pow10), ("unicode/utf8.acceptRanges", Rows.laid_unicode_utf8_acceptRanges), ("strconv.ErrRange", Rows.laid_strconv_ErrRange), ("strconv.ErrSyntax", Rows.laid_strconv_ErrSyntax), ("unicode/utf8.first", Rows.laid_unicode_utf8_first)]
theorem door_met (os : Os) (args : Array Value) : laidMetH Tryz.prog laid7 ((World.laidAll Tryz.prog os laid7).forCall (fun _ _ => 0) ⟨#[], args, []⟩).memory := by
  rw [MakeChecks.laidMetH_plain _ _ _ (by kernel_rfl)]
  exact laidMet_laidAll _ (by kernel_rfl) (by kernel_rfl)
theorem star_es : "*" ++ "errors.errorString" = "*errors.errorString" := by decide
theorem row_es (u : TypeId) (h : Tryz.prog.typeName? 3 u = some "*errors.errorString") : u = 174 :=
  typeName_ptr_named (nm := "errors.errorString") (by rw [star_es]; kernel_rfl) (by kernel_rfl) (by decide) u (by rw [star_es]; exact h)
theorem errG_of {W : World} {n : String} {g : Nat} {tp : TypeId} {p : Value} (hg : Tryz.prog.globalNamed n = some g) (h : W.var? Tryz.prog n = some #[.iface tp p]) : ErrG (Gof W) g := by
  unfold World.var? at h
  rw [hg, Option.bind_some] at h
  split at h
  · rename_i cs e fz hh
    have e1 := Option.some.inj h
    subst e1
    exact ⟨_, e, fz, tp, p, hh, rfl⟩
  · cases h
theorem tabZ_of {W : World} (h : laidMetH Tryz.prog laid7 W) : TabZ Tryz.prog (Gof W) := by
  rw [MakeChecks.laidMetH_plain _ _ _ (by kernel_rfl)] at h
  have h2 := h.tail.tail
  have h4 := h2.tail.tail
  have h5 := h4.tail
  refine ⟨?_, ?_, ?_⟩
  · obtain ⟨ps, ⟨g2, t2, cs2, f2, p2, q2, hg2, ht2, hv2, hd2, _⟩, _⟩ := h2
    obtain rfl := Option.some.inj ((show Tryz.prog.globalNamed "internal/strconv.uint64pow10" = some 3 by kernel_rfl).symm.trans hg2)
    obtain rfl := Option.some.inj ((show (Tryz.prog.globals[3]?).map (·.type) = some 163 by kernel_rfl).symm.trans ht2)
    have hcs := Lib.cells_of_tab (k := .u64) (zs := Lib.pow10Tab) Tryz.underlying163 Tryz.underlying150 (by kernel_rfl) (by kernel_rfl) (show _ = some (Lib.tabData .u64 Lib.pow10Tab, _) from hd2)
    unfold World.var? at hv2
    rw [hg2, Option.bind_some] at hv2
    split at hv2
    · rename_i cs e fz hh
      have e1 : cs = cs2 := Option.some.inj hv2
      subst e1
      refine ⟨_, e, fz, hg2, ?_⟩
      show W.heap[_]? = _
      rw [hh, ← hcs]
    · cases hv2
  · obtain ⟨a, s, hv, _⟩ := laid_sentinel (g := 1) (ti := 95) h5 (by kernel_rfl) (by kernel_rfl) Tryz.underlying95 row_es Tryz.underlying174 Tryz.underlying176 rfl rfl Tryz.underlying9 (by kernel_rfl) (by kernel_rfl)
    exact errG_of (g := 1) (by kernel_rfl) hv
  · obtain ⟨a, s, hv, _⟩ := laid_sentinel (g := 2) (ti := 95) h4 (by kernel_rfl) (by kernel_rfl) Tryz.underlying95 row_es Tryz.underlying174 Tryz.underlying176 rfl rfl Tryz.underlying9 (by kernel_rfl) (by kernel_rfl)
    exact errG_of (g := 2) (by kernel_rfl) hv
end Go.Proofs.YtcaflmilfhhikaaGreatDoor
