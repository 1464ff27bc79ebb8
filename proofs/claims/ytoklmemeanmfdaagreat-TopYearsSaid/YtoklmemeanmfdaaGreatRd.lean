/-
  How the structures lie in memory; closed facts on the program (printed by a program of ours).
-/
import Derived.Test.YtoklmemeanmfdaaGreatFn
import Derived.Test.YtoklmemeanmfdaaGreatProg
namespace Go.Proofs.YtoklmemeanmfdaaGreat
open Go.RowKit
set_option linter.unusedVariables false

def RTSpan : Gm → List Value → TSpan → Prop := fun _ cs x => cs = [.int .i64 x.Low, .int .i64 x.High]
theorem RTSpan_mono : Mono RTSpan := fun _ _ _ _ _ h => h
def RTShipPass : Gm → List Value → TShipPass → Prop := fun G cs x => ∃ (a0 : Option Addr) (n0 c0 : Nat) (a1 : Option Addr) (n1 c1 : Nat), cs = [.slice a0 n0 c0, .int .i64 x.Depth, .int .i64 x.Draft, .slice a1 n1 c1, .int .i64 x.Light.Low, .int .i64 x.Light.High] ∧ RSl RInt 1 G a0 n0 c0 x.Tides ∧ RSl RTSpan 2 G a1 n1 c1 x.Swell
def RTShipCall : Gm → List Value → TShipCall → Prop := fun _ cs x => cs = [.int .i64 x.Day, .int .i64 x.Hour]
theorem RTShipCall_mono : Mono RTShipCall := fun _ _ _ _ _ h => h
theorem RTShipCall_one : One RTShipCall := fun _ _ _ h => by unfold RTShipCall at h; subst h; exact one_all rfl
def RTLandMemory : Gm → List Value → TLandMemory → Prop := fun _ cs x => cs = [.int .i64 x.From, .int .i64 x.To, .int .i64 x.Years.Low, .int .i64 x.Years.High]
theorem RTLandMemory_mono : Mono RTLandMemory := fun _ _ _ _ _ h => h
theorem RTLandMemory_one : One RTLandMemory := fun _ _ _ h => by unfold RTLandMemory at h; subst h; exact one_all rfl
def RTLandEvent : Gm → List Value → TLandEvent → Prop := fun _ cs x => cs = [.int .i64 x.Strip, .int .i64 x.Holder]
theorem RTLandEvent_mono : Mono RTLandEvent := fun _ _ _ _ _ h => h
theorem RTLandEvent_one : One RTLandEvent := fun _ _ _ h => by unfold RTLandEvent at h; subst h; exact one_all rfl
def RTLandPerson : Gm → List Value → TLandPerson → Prop := fun _ cs x => cs = [.int .i64 x.Mother, .int .i64 x.Adopted]
theorem RTLandPerson_mono : Mono RTLandPerson := fun _ _ _ _ _ h => h
def FnOk29 (G : Gm) (k : Nat) (fi ca : List Value) (g : (TSpan → Option Bool)) : Prop := callB Tryz.prog k = true ∧ ∀ (G1 : Gm) (w : World), Gle G G1 → Sat G1 w → ∀ (z0 : TSpan) (r : Bool), g z0 = some r → Calls Tryz.prog k (fi ++ ([.agg #[.int .i64 z0.Low, .int .i64 z0.High]] : List Value) ++ ca).toArray w (RetV w (.bool r))
theorem FnOk29.mono {G G' : Gm} {k : Nat} {fi ca : List Value} {g : (TSpan → Option Bool)} (h : FnOk29 G k fi ca g) (hle : Gle G G') : FnOk29 G' k fi ca g := ⟨h.1, fun G1 w hl hw => h.2 G1 w (hle.trans hl) hw⟩
def FnOk30 (G : Gm) (k : Nat) (fi ca : List Value) (g : (Int → Option Bool)) : Prop := callB Tryz.prog k = true ∧ ∀ (G1 : Gm) (w : World), Gle G G1 → Sat G1 w → ∀ (z0 : Int) (r : Bool), g z0 = some r → Calls Tryz.prog k (fi ++ ([.int .i64 z0] : List Value) ++ ca).toArray w (RetV w (.bool r))
theorem FnOk30.mono {G G' : Gm} {k : Nat} {fi ca : List Value} {g : (Int → Option Bool)} (h : FnOk30 G k fi ca g) (hle : Gle G G') : FnOk30 G' k fi ca g := ⟨h.1, fun G1 w hl hw => h.2 G1 w (hle.trans hl) hw⟩
def FnOk96 (G : Gm) (k : Nat) (fi ca : List Value) (g : (TLandMemory → Option Bool)) : Prop := callB Tryz.prog k = true ∧ ∀ (G1 : Gm) (w : World), Gle G G1 → Sat G1 w → ∀ (z0 : TLandMemory) (r : Bool), g z0 = some r → Calls Tryz.prog k (fi ++ ([.agg #[.int .i64 z0.From, .int .i64 z0.To, .int .i64 z0.Years.Low, .int .i64 z0.Years.High]] : List Value) ++ ca).toArray w (RetV w (.bool r))
theorem FnOk96.mono {G G' : Gm} {k : Nat} {fi ca : List Value} {g : (TLandMemory → Option Bool)} (h : FnOk96 G k fi ca g) (hle : Gle G G') : FnOk96 G' k fi ca g := ⟨h.1, fun G1 w hl hw => h.2 G1 w (hle.trans hl) hw⟩
def FnOk148 (G : Gm) (k : Nat) (fi ca : List Value) (g : (TShipCall → Option Bool)) : Prop := callB Tryz.prog k = true ∧ ∀ (G1 : Gm) (w : World), Gle G G1 → Sat G1 w → ∀ (z0 : TShipCall) (r : Bool), g z0 = some r → Calls Tryz.prog k (fi ++ ([.agg #[.int .i64 z0.Day, .int .i64 z0.Hour]] : List Value) ++ ca).toArray w (RetV w (.bool r))
theorem FnOk148.mono {G G' : Gm} {k : Nat} {fi ca : List Value} {g : (TShipCall → Option Bool)} (h : FnOk148 G k fi ca g) (hle : Gle G G') : FnOk148 G' k fi ca g := ⟨h.1, fun G1 w hl hw => h.2 G1 w (hle.trans hl) hw⟩
def FnOk152 (G : Gm) (k : Nat) (fi ca : List Value) (g : (TLandEvent → Option Bool)) : Prop := callB Tryz.prog k = true ∧ ∀ (G1 : Gm) (w : World), Gle G G1 → Sat G1 w → ∀ (z0 : TLandEvent) (r : Bool), g z0 = some r → Calls Tryz.prog k (fi ++ ([.agg #[.int .i64 z0.Strip, .int .i64 z0.Holder]] : List Value) ++ ca).toArray w (RetV w (.bool r))
theorem FnOk152.mono {G G' : Gm} {k : Nat} {fi ca : List Value} {g : (TLandEvent → Option Bool)} (h : FnOk152 G k fi ca g) (hle : Gle G G') : FnOk152 G' k fi ca g := ⟨h.1, fun G1 w hl hw => h.2 G1 w (hle.trans hl) hw⟩
theorem ag199 : agB Tryz.prog 199 = some 7 := by kernel_rfl
theorem ag25 : agB Tryz.prog 25 = some 2 := by kernel_rfl
theorem ag27 : agB Tryz.prog 27 = some 6 := by kernel_rfl
theorem ag38 : agB Tryz.prog 38 = some 2 := by kernel_rfl
theorem ag43 : agB Tryz.prog 43 = some 3 := by kernel_rfl
theorem ag45 : agB Tryz.prog 45 = some 2 := by kernel_rfl
theorem ag47 : agB Tryz.prog 47 = some 2 := by kernel_rfl
theorem ag49 : agB Tryz.prog 49 = some 4 := by kernel_rfl
theorem ag89 : agB Tryz.prog 89 = some 2 := by kernel_rfl
theorem ag99 : agB Tryz.prog 99 = some 64 := by kernel_rfl
theorem ar97 : arB Tryz.prog 97 = some (8, 1) := by kernel_rfl
theorem ar99 : arB Tryz.prog 99 = some (8, 8) := by kernel_rfl
theorem cb10 : callB Tryz.prog 10 = true := by kernel_rfl
theorem cb101 : callB Tryz.prog 101 = true := by kernel_rfl
theorem cb102 : callB Tryz.prog 102 = true := by kernel_rfl
theorem cb103 : callB Tryz.prog 103 = true := by kernel_rfl
theorem cb104 : callB Tryz.prog 104 = true := by kernel_rfl
theorem cb105 : callB Tryz.prog 105 = true := by kernel_rfl
theorem cb11 : callB Tryz.prog 11 = true := by kernel_rfl
theorem cb12 : callB Tryz.prog 12 = true := by kernel_rfl
theorem cb13 : callB Tryz.prog 13 = true := by kernel_rfl
theorem cb135 : callB Tryz.prog 135 = true := by kernel_rfl
theorem cb136 : callB Tryz.prog 136 = true := by kernel_rfl
theorem cb14 : callB Tryz.prog 14 = true := by kernel_rfl
theorem cb15 : callB Tryz.prog 15 = true := by kernel_rfl
theorem cb26 : callB Tryz.prog 26 = true := by kernel_rfl
theorem cb27 : callB Tryz.prog 27 = true := by kernel_rfl
theorem cb28 : callB Tryz.prog 28 = true := by kernel_rfl
theorem cb29 : callB Tryz.prog 29 = true := by kernel_rfl
theorem cb30 : callB Tryz.prog 30 = true := by kernel_rfl
theorem cb31 : callB Tryz.prog 31 = true := by kernel_rfl
theorem cb32 : callB Tryz.prog 32 = true := by kernel_rfl
theorem cb33 : callB Tryz.prog 33 = true := by kernel_rfl
theorem cb34 : callB Tryz.prog 34 = true := by kernel_rfl
theorem cb35 : callB Tryz.prog 35 = true := by kernel_rfl
theorem cb36 : callB Tryz.prog 36 = true := by kernel_rfl
theorem cb37 : callB Tryz.prog 37 = true := by kernel_rfl
theorem cb38 : callB Tryz.prog 38 = true := by kernel_rfl
theorem cb39 : callB Tryz.prog 39 = true := by kernel_rfl
theorem cb4 : callB Tryz.prog 4 = true := by kernel_rfl
theorem cb40 : callB Tryz.prog 40 = true := by kernel_rfl
theorem cb41 : callB Tryz.prog 41 = true := by kernel_rfl
theorem cb42 : callB Tryz.prog 42 = true := by kernel_rfl
theorem cb43 : callB Tryz.prog 43 = true := by kernel_rfl
theorem cb5 : callB Tryz.prog 5 = true := by kernel_rfl
theorem cb58 : callB Tryz.prog 58 = true := by kernel_rfl
theorem cb59 : callB Tryz.prog 59 = true := by kernel_rfl
theorem cb6 : callB Tryz.prog 6 = true := by kernel_rfl
theorem cb60 : callB Tryz.prog 60 = true := by kernel_rfl
theorem cb61 : callB Tryz.prog 61 = true := by kernel_rfl
theorem cb62 : callB Tryz.prog 62 = true := by kernel_rfl
theorem cb63 : callB Tryz.prog 63 = true := by kernel_rfl
theorem cb64 : callB Tryz.prog 64 = true := by kernel_rfl
theorem cb65 : callB Tryz.prog 65 = true := by kernel_rfl
theorem cb66 : callB Tryz.prog 66 = true := by kernel_rfl
theorem cb67 : callB Tryz.prog 67 = true := by kernel_rfl
theorem cb68 : callB Tryz.prog 68 = true := by kernel_rfl
theorem cb69 : callB Tryz.prog 69 = true := by kernel_rfl
theorem cb7 : callB Tryz.prog 7 = true := by kernel_rfl
theorem cb70 : callB Tryz.prog 70 = true := by kernel_rfl
theorem cb71 : callB Tryz.prog 71 = true := by kernel_rfl
theorem cb74 : callB Tryz.prog 74 = true := by kernel_rfl
theorem cb75 : callB Tryz.prog 75 = true := by kernel_rfl
theorem cb76 : callB Tryz.prog 76 = true := by kernel_rfl
theorem cb8 : callB Tryz.prog 8 = true := by kernel_rfl
theorem cb9 : callB Tryz.prog 9 = true := by kernel_rfl
theorem fd162_0 : fldB Tryz.prog 162 0 = some 0 := by kernel_rfl
theorem fd199_0 : fldB Tryz.prog 199 0 = some 0 := by kernel_rfl
theorem fd199_1 : fldB Tryz.prog 199 1 = some 6 := by kernel_rfl
theorem fd25_0 : fldB Tryz.prog 25 0 = some 0 := by kernel_rfl
theorem fd25_1 : fldB Tryz.prog 25 1 = some 1 := by kernel_rfl
theorem fd27_0 : fldB Tryz.prog 27 0 = some 0 := by kernel_rfl
theorem fd27_1 : fldB Tryz.prog 27 1 = some 1 := by kernel_rfl
theorem fd27_2 : fldB Tryz.prog 27 2 = some 2 := by kernel_rfl
theorem fd27_3 : fldB Tryz.prog 27 3 = some 3 := by kernel_rfl
theorem fd27_4 : fldB Tryz.prog 27 4 = some 4 := by kernel_rfl
theorem fd38_0 : fldB Tryz.prog 38 0 = some 0 := by kernel_rfl
theorem fd38_1 : fldB Tryz.prog 38 1 = some 1 := by kernel_rfl
theorem fd43_0 : fldB Tryz.prog 43 0 = some 0 := by kernel_rfl
theorem fd43_1 : fldB Tryz.prog 43 1 = some 1 := by kernel_rfl
theorem fd43_2 : fldB Tryz.prog 43 2 = some 2 := by kernel_rfl
theorem fd45_0 : fldB Tryz.prog 45 0 = some 0 := by kernel_rfl
theorem fd45_1 : fldB Tryz.prog 45 1 = some 1 := by kernel_rfl
theorem fd47_0 : fldB Tryz.prog 47 0 = some 0 := by kernel_rfl
theorem fd47_1 : fldB Tryz.prog 47 1 = some 1 := by kernel_rfl
theorem fd49_0 : fldB Tryz.prog 49 0 = some 0 := by kernel_rfl
theorem fd49_1 : fldB Tryz.prog 49 1 = some 1 := by kernel_rfl
theorem fd49_2 : fldB Tryz.prog 49 2 = some 2 := by kernel_rfl
theorem fd89_0 : fldB Tryz.prog 89 0 = some 0 := by kernel_rfl
theorem fd89_1 : fldB Tryz.prog 89 1 = some 1 := by kernel_rfl
theorem fl89 : (Tryz.prog.fieldsOf 89).toList.length = 2 := by kernel_rfl
theorem in89 : intsB Tryz.prog 89 = true := by kernel_rfl
theorem mixedO : Tryz.prog.follows .mixedOrders = true := by kernel_rfl
theorem mp86 : Tryz.prog.underlying 86 = some (.map 89 4) := by kernel_rfl
theorem na22 : naB Tryz.prog 22 = true := by kernel_rfl
theorem na23 : naB Tryz.prog 23 = true := by kernel_rfl
theorem na3 : naB Tryz.prog 3 = true := by kernel_rfl
theorem na32 : naB Tryz.prog 32 = true := by kernel_rfl
theorem na39 : naB Tryz.prog 39 = true := by kernel_rfl
theorem na4 : naB Tryz.prog 4 = true := by kernel_rfl
theorem na40 : naB Tryz.prog 40 = true := by kernel_rfl
theorem na41 : naB Tryz.prog 41 = true := by kernel_rfl
theorem na86 : naB Tryz.prog 86 = true := by kernel_rfl
theorem na87 : naB Tryz.prog 87 = true := by kernel_rfl
theorem sl22 : slB Tryz.prog 22 = some (3, 1, 8) := by kernel_rfl
theorem sl23 : slB Tryz.prog 23 = some (25, 2, 16) := by kernel_rfl
theorem sl32 : slB Tryz.prog 32 = some (47, 2, 16) := by kernel_rfl
theorem sl39 : slB Tryz.prog 39 = some (38, 2, 16) := by kernel_rfl
theorem sl40 : slB Tryz.prog 40 = some (45, 2, 16) := by kernel_rfl
theorem sl41 : slB Tryz.prog 41 = some (49, 4, 32) := by kernel_rfl
theorem sz25 : szB Tryz.prog 25 = some 2 := by kernel_rfl
theorem sz3 : szB Tryz.prog 3 = some 1 := by kernel_rfl
theorem sz32 : szB Tryz.prog 32 = some 1 := by kernel_rfl
theorem sz38 : szB Tryz.prog 38 = some 2 := by kernel_rfl
theorem sz4 : szB Tryz.prog 4 = some 1 := by kernel_rfl
theorem sz40 : szB Tryz.prog 40 = some 1 := by kernel_rfl
theorem sz41 : szB Tryz.prog 41 = some 1 := by kernel_rfl
theorem sz43 : szB Tryz.prog 43 = some 3 := by kernel_rfl
theorem sz45 : szB Tryz.prog 45 = some 2 := by kernel_rfl
theorem sz47 : szB Tryz.prog 47 = some 2 := by kernel_rfl
theorem sz49 : szB Tryz.prog 49 = some 4 := by kernel_rfl
theorem sz86 : szB Tryz.prog 86 = some 1 := by kernel_rfl
theorem sz87 : szB Tryz.prog 87 = some 1 := by kernel_rfl
theorem sz99 : szB Tryz.prog 99 = some 64 := by kernel_rfl
theorem zi4 : (Tryz.prog.info? 4).bind (·.zero) = some (vvB false) := by kernel_rfl
end Go.Proofs.YtoklmemeanmfdaaGreat
