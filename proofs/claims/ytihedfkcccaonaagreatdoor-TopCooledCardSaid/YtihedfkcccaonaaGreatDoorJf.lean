/-
 The closed facts of the row, each alone (together they pass the kernel's memory).
-/
import Derived.Test.YtihedfkcccaonaaGreatDoorRows
import Derived.JoinedOf
import Derived.KernelRfl
namespace Go.Proofs.YtihedfkcccaonaaGreatDoor
set_option maxRecDepth 100000
theorem yB {a b : Bool} (h : a = true) (h' : b = true) : (a && b) = true := by rw [h, h']; rfl
theorem jf1 : (Rows.topCooledRow.wf (OpenSpec.ofChange Rows.topCooledSpec)) = true := by kernel_rfl
theorem jf2 : (laidOutB Tryz.prog) = true := by kernel_rfl
theorem jf3 : (mapsRowed Tryz.prog) = true := by kernel_rfl
theorem jf4 : (Tryz.f3.params.all (Tryz.prog.readableRec ·)) = true := by kernel_rfl
theorem jf5 : (namedTie Tryz.prog Rows.topCooledRow.named Rows.topCooledSpec.vars) = true := by kernel_rfl
theorem jf6 : ((Rows.topCooledRow.stops == [])) = true := by kernel_rfl
theorem jf7 : ((Tryz.prog.stops == [])) = true := by kernel_rfl
theorem jf8 : ((Rows.topCooledRow.knobs == [])) = true := by kernel_rfl
theorem jf9 : ((Tryz.prog.stopKnobs == [])) = true := by kernel_rfl
theorem zAn : ((Rows.topCooledRow.inPlace == Tryz.prog.inPlace 3)) = true := by kernel_rfl
theorem zAm : ((Rows.topCooledRow.unfollowed == Tryz.prog.unfollowed 3)) = true := by kernel_rfl
theorem zAl : ((Rows.topCooledRow.recurses == Tryz.prog.recurses 3)) = true := by kernel_rfl
theorem zAk : ((Rows.topCooledRow.named == Tryz.prog.varsNamed 3)) = true := by kernel_rfl
theorem zAj : ((Rows.topCooledRow.maps == (Tryz.f3.params.toList ++ Rows.topCooledSpec.plain.varTypes Tryz.prog).any (Tryz.prog.mapsRec ·))) = true := by kernel_rfl
theorem zAi : ((Rows.topCooledRow.ifaces == (Tryz.f3.params.toList ++ Rows.topCooledSpec.plain.varTypes Tryz.prog).any (Tryz.prog.ifacesRec ·))) = true := by kernel_rfl
theorem zAh : ((Rows.topCooledRow.mapsOut == Tryz.prog.mapsAmong Tryz.f3.resultTypes.toList)) = true := by kernel_rfl
theorem zAg : ((Rows.topCooledRow.loops == (Tryz.f3.params.toList ++ Rows.topCooledSpec.plain.varTypes Tryz.prog).any (Tryz.prog.loopsFrom ·))) = true := by kernel_rfl
theorem zAf : ((Rows.topCooledRow.wideKeys == (Tryz.f3.params.toList ++ Rows.topCooledSpec.plain.varTypes Tryz.prog ++ Tryz.f3.resultTypes.toList).any (Tryz.prog.wideKeysFrom ·))) = true := by kernel_rfl
theorem zAe : (Rows.topCooledSpec.vars.all (Tryz.prog.varReadable ·)) = true := by kernel_rfl
theorem zAd : (Tryz.f3.resultTypes.all (fun t => Tryz.prog.readableRec t && decide (t < Tryz.prog.types.size))) = true := by kernel_rfl
theorem zAc : ((Rows.topCooledRow.ifacesOut == Tryz.f3.resultTypes.toList.any (Tryz.prog.ifacesRec ·))) = true := by kernel_rfl
theorem zAb : ((Rows.topCooledRow.loopsOut == Tryz.f3.resultTypes.toList.any (Tryz.prog.loopsFrom ·))) = true := by kernel_rfl
theorem zAa : ((Rows.topCooledRow.plainKeys == Tryz.prog.plainKeys)) = true := by kernel_rfl
theorem zz9 : (Rows.topCooledRow.shortTexts.isNone) = true := by kernel_rfl
theorem zz8 : (Tryz.prog.stopsHeard) = true := by kernel_rfl
theorem zz7 : (Tryz.prog.mayEnter) = true := by kernel_rfl
theorem zz6 : ((Rows.topCooledRow.lifted == Tryz.prog.liftsFinal)) = true := by kernel_rfl
theorem zz5 : ((Tryz.prog.make == some Rows.topCooledRow.make)) = true := by kernel_rfl
theorem zz4 : ((Rows.topCooledRow.kinds == (if Rows.topCooledRow.domain.isEmpty then [] else Tryz.f3.params.toList.map fun t => match Tryz.prog.underlying t with | some (.int k) => some k | _ => none))) = true := by kernel_rfl
theorem zz3 : ((Rows.topCooledRow.pinned == Rows.topCooledRow.pinnedBy)) = true := by kernel_rfl
theorem zz2 : ((Rows.topCooledRow.veiled == (Tryz.f3.params.toList ++ Rows.topCooledSpec.plain.varTypes Tryz.prog ++ Tryz.f3.resultTypes.toList).any (Tryz.prog.veiledRec ·))) = true := by kernel_rfl
theorem zz1 : (Rows.topCooledRow.veiledFits Tryz.prog Tryz.f3.params.toList (Tryz.f3.params.toList ++ Rows.topCooledSpec.plain.varTypes Tryz.prog ++ Tryz.f3.resultTypes.toList)) = true := by kernel_rfl
theorem zuQ : joinedFacts Tryz.prog 3 Tryz.f3 Rows.topCooledSpec Rows.topCooledRow = true := by
 unfold joinedFacts
 exact yB (yB (yB (yB (yB (yB (yB (yB (yB (yB (yB (yB (yB (yB (yB (yB (yB (yB (yB (yB (yB (yB (yB (yB (yB (yB (yB (yB (yB (yB (yB jf1 jf2) jf3) jf4) jf5) jf6) jf7) jf8) jf9) zAn) zAm) zAl) zAk) zAj) zAi) zAh) zAg) zAf) zAe) zAd) zAc) zAb) zAa) zz9) zz8) zz7) zz6) zz5) zz4) zz3) zz2) zz1
end Go.Proofs.YtihedfkcccaonaaGreatDoor
