/-
 The closed facts of the row, each alone (together they pass the kernel's memory).
-/
import Derived.Test.YtcapocmenjcnhaaGreatDoorRows
import Derived.JoinedOf
import Derived.KernelRfl
set_option linter.unusedVariables false
set_option linter.unusedSimpArgs false
namespace Go.Proofs.YtcapocmenjcnhaaGreatDoor
set_option maxRecDepth 100000
theorem yK {a b : Bool} (h : a = true) (h' : b = true) : (a && b) = true := by rw [h, h']; rfl
theorem jf1 : (Rows.topRecoveredRow.wf (OpenSpec.ofChange Rows.topRecoveredSpec)) = true := by kernel_rfl
theorem jf2 : (laidOutB Tryz.prog) = true := by kernel_rfl
theorem jf3 : (mapsRowed Tryz.prog) = true := by kernel_rfl
theorem jf4 : (Tryz.f3.params.all (Tryz.prog.readableRec ·)) = true := by kernel_rfl
theorem jf5 : (namedTie Tryz.prog Rows.topRecoveredRow.named Rows.topRecoveredSpec.vars) = true := by kernel_rfl
theorem jf6 : ((Rows.topRecoveredRow.stops == [])) = true := by kernel_rfl
theorem jf7 : ((Tryz.prog.stops == [])) = true := by kernel_rfl
theorem jf8 : ((Rows.topRecoveredRow.knobs == [])) = true := by kernel_rfl
theorem jf9 : ((Tryz.prog.stopKnobs == [])) = true := by kernel_rfl
theorem zAu : ((Rows.topRecoveredRow.inPlace == Tryz.prog.inPlace 3)) = true := by kernel_rfl
theorem zAt : ((Rows.topRecoveredRow.unfollowed == Tryz.prog.unfollowed 3)) = true := by kernel_rfl
theorem zAs : ((Rows.topRecoveredRow.recurses == Tryz.prog.recurses 3)) = true := by kernel_rfl
theorem zAr : ((Rows.topRecoveredRow.named == Tryz.prog.varsNamed 3)) = true := by kernel_rfl
theorem zAq : ((Rows.topRecoveredRow.maps == (Tryz.f3.params.toList ++ Rows.topRecoveredSpec.plain.varTypes Tryz.prog).any (Tryz.prog.mapsRec ·))) = true := by kernel_rfl
theorem zAp : ((Rows.topRecoveredRow.ifaces == (Tryz.f3.params.toList ++ Rows.topRecoveredSpec.plain.varTypes Tryz.prog).any (Tryz.prog.ifacesRec ·))) = true := by kernel_rfl
theorem zAo : ((Rows.topRecoveredRow.mapsOut == Tryz.prog.mapsAmong Tryz.f3.resultTypes.toList)) = true := by kernel_rfl
theorem zAn : ((Rows.topRecoveredRow.loops == (Tryz.f3.params.toList ++ Rows.topRecoveredSpec.plain.varTypes Tryz.prog).any (Tryz.prog.loopsFrom ·))) = true := by kernel_rfl
theorem zAm : ((Rows.topRecoveredRow.wideKeys == (Tryz.f3.params.toList ++ Rows.topRecoveredSpec.plain.varTypes Tryz.prog ++ Tryz.f3.resultTypes.toList).any (Tryz.prog.wideKeysFrom ·))) = true := by kernel_rfl
theorem zAl : (Rows.topRecoveredSpec.vars.all (Tryz.prog.varReadable ·)) = true := by kernel_rfl
theorem zAk : (Tryz.f3.resultTypes.all (fun t => Tryz.prog.readableRec t && decide (t < Tryz.prog.types.size))) = true := by kernel_rfl
theorem zAj : ((Rows.topRecoveredRow.ifacesOut == Tryz.f3.resultTypes.toList.any (Tryz.prog.ifacesRec ·))) = true := by kernel_rfl
theorem zAi : ((Rows.topRecoveredRow.loopsOut == Tryz.f3.resultTypes.toList.any (Tryz.prog.loopsFrom ·))) = true := by kernel_rfl
theorem zAh : ((Rows.topRecoveredRow.plainKeys == Tryz.prog.plainKeys)) = true := by kernel_rfl
theorem zAg : (Rows.topRecoveredRow.shortTexts.isNone) = true := by kernel_rfl
theorem zAf : (Tryz.prog.stopsHeard) = true := by kernel_rfl
theorem zAe : (Tryz.prog.mayEnter) = true := by kernel_rfl
theorem zAd : ((Rows.topRecoveredRow.lifted == Tryz.prog.liftsFinal)) = true := by kernel_rfl
theorem zAc : ((Tryz.prog.make == some Rows.topRecoveredRow.make)) = true := by kernel_rfl
theorem zAb : ((Rows.topRecoveredRow.kinds == (if Rows.topRecoveredRow.domain.isEmpty then [] else Tryz.f3.params.toList.map fun t => match Tryz.prog.underlying t with | some (.int k) => some k | _ => none))) = true := by kernel_rfl
theorem zAa : ((Rows.topRecoveredRow.pinned == Rows.topRecoveredRow.pinnedBy)) = true := by kernel_rfl
theorem zz9 : ((Rows.topRecoveredRow.veiled == (Tryz.f3.params.toList ++ Rows.topRecoveredSpec.plain.varTypes Tryz.prog ++ Tryz.f3.resultTypes.toList).any (Tryz.prog.veiledRec ·))) = true := by kernel_rfl
theorem zz8 : (Rows.topRecoveredRow.veiledFits Tryz.prog Tryz.f3.params.toList (Tryz.f3.params.toList ++ Rows.topRecoveredSpec.plain.varTypes Tryz.prog ++ Tryz.f3.resultTypes.toList)) = true := by kernel_rfl
theorem zv2 : joinedFacts Tryz.prog 3 Tryz.f3 Rows.topRecoveredSpec Rows.topRecoveredRow = true := by
 unfold joinedFacts
 exact yK (yK (yK (yK (yK (yK (yK (yK (yK (yK (yK (yK (yK (yK (yK (yK (yK (yK (yK (yK (yK (yK (yK (yK (yK (yK (yK (yK (yK (yK (yK jf1 jf2) jf3) jf4) jf5) jf6) jf7) jf8) jf9) zAu) zAt) zAs) zAr) zAq) zAp) zAo) zAn) zAm) zAl) zAk) zAj) zAi) zAh) zAg) zAf) zAe) zAd) zAc) zAb) zAa) zz9) zz8
end Go.Proofs.YtcapocmenjcnhaaGreatDoor
