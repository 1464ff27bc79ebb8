/-
  What is handed to the laws: the library's tables are as the program's text lays them.
-/
import Derived.Test.YtcaflmilfhhikaaDoorBaseQ
import Derived.Test.YtcaflmilfhhikaaDoorBaseK
import Derived.Test.YtcaflmilfhhikaaDoorRows
import Derived.LaidMore
import Derived.MakeChecks
import Derived.LaidHandle
import Derived.Lib.LaidTab
namespace Go.Proofs.YtcaflmilfhhikaaDoor
open Go.RowKit
set_option maxRecDepth 100000
def laid3 : List (String × DataW Unit) := [("math/bits.deBruijn32tab", Rows.laid_math_bits_deBruijn32tab), ("math/bits.deBruijn64tab", Rows.laid_math_bits_deBruijn64tab), ("internal/strconv.uint64pow10", Rows.laid_internal_strconv_uint64pow10)]
theorem door_met (os : Os) (args : Array Value) : laidMetH Tryd.prog laid3 ((World.doorLaid Tryd.prog 400 os).forCall (fun _ _ => 0) ⟨#[], args, []⟩).memory :=
  laidMetH_of_parts3 (fuel := 8) (laidMet_of_run' 8 (by kernel_rfl) (by kernel_rfl)) (by kernel_rfl) (by kernel_rfl)
theorem tabG_of {W : World} (h : laidMetH Tryd.prog laid3 W) : TabG Tryd.prog (Gof W) := by
  rw [MakeChecks.laidMetH_plain _ _ _ (by kernel_rfl)] at h
  obtain ⟨ps, ⟨g0, t0, cs0, f0, p0, q0, hg0, ht0, hv0, hd0, ⟨g1, t1, cs1, f1, p1, q1, hg1, ht1, hv1, hd1, ⟨g2, t2, cs2, f2, p2, q2, hg2, ht2, hv2, hd2, _⟩, _⟩, _⟩, _⟩ := h
  obtain rfl := Option.some.inj ((show Tryd.prog.globalNamed "internal/strconv.uint64pow10" = some 0 by kernel_rfl).symm.trans hg2)
  obtain rfl := Option.some.inj ((show (Tryd.prog.globals[0]?).map (·.type) = some 143 by kernel_rfl).symm.trans ht2)
  have hcs := Lib.cells_of_tab (k := .u64) (zs := Lib.pow10Tab) Tryd.underlying143 Tryd.underlying136 (by kernel_rfl) (by kernel_rfl) (show _ = some (Lib.tabData .u64 Lib.pow10Tab, _) from hd2)
  unfold World.var? at hv2
  rw [hg2, Option.bind_some] at hv2
  split at hv2
  · rename_i cs e fz hh
    have e1 : cs = cs2 := Option.some.inj hv2
    subst e1
    refine ⟨_, e, fz, hg2, ?_⟩
    show W.heap[_]? = _
    rw [hh, ← hcs]
  · cases hv2
theorem rsl_len {α : Type} {R : Gm → List Value → α → Prop} {sz : Nat} {G : Gm} {a : Option Addr} {n c : Nat} {xs : List α} (h : RSl R sz G a n c xs) : xs.length ≤ 9223372036854775807 := by
  obtain ⟨h1, ⟨h2, h3⟩, _⟩ := h
  have e : maxLen = 9223372036854775807 := rfl
  omega
end Go.Proofs.YtcaflmilfhhikaaDoor
