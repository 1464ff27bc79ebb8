/-
  How the structures lie in memory; closed facts on the program (printed by a program of ours).
-/
import Derived.Test.YtcaflmilfhhikaaGreatDoorFn
import Derived.Test.YtcaflmilfhhikaaGreatDoorProg
namespace Go.Proofs.YtcaflmilfhhikaaGreatDoor
open Go.RowKit
set_option linter.unusedVariables false

def RTLandPerson : Gm → List Value → TLandPerson → Prop := fun _ cs x => cs = [.int .i64 x.Mother, .int .i64 x.Adopted]
theorem RTLandPerson_mono : Mono RTLandPerson := fun _ _ _ _ _ h => h
theorem RTLandPerson_one : One RTLandPerson := fun _ _ _ h => by unfold RTLandPerson at h; subst h; exact one_all rfl
def RTLandEvent : Gm → List Value → TLandEvent → Prop := fun _ cs x => cs = [.int .i64 x.Strip, .int .i64 x.Holder]
theorem RTLandEvent_mono : Mono RTLandEvent := fun _ _ _ _ _ h => h
theorem RTLandEvent_one : One RTLandEvent := fun _ _ _ h => by unfold RTLandEvent at h; subst h; exact one_all rfl
def RTLandMemory : Gm → List Value → TLandMemory → Prop := fun _ cs x => cs = [.int .i64 x.From, .int .i64 x.To, .int .i64 x.Years.Low, .int .i64 x.Years.High]
theorem RTLandMemory_mono : Mono RTLandMemory := fun _ _ _ _ _ h => h
theorem RTLandMemory_one : One RTLandMemory := fun _ _ _ h => by unfold RTLandMemory at h; subst h; exact one_all rfl
def FnOk88 (G : Gm) (k : Nat) (fi ca : List Value) (g : (TLandEvent → Option Bool)) : Prop := callB Tryz.prog k = true ∧ ∀ (G1 : Gm) (w : World), Gle G G1 → Sat G1 w → ∀ (z0 : TLandEvent) (r : Bool), g z0 = some r → Calls Tryz.prog k (fi ++ ([.agg #[.int .i64 z0.Strip, .int .i64 z0.Holder]] : List Value) ++ ca).toArray w (RetV w (.bool r))
theorem FnOk88.mono {G G' : Gm} {k : Nat} {fi ca : List Value} {g : (TLandEvent → Option Bool)} (h : FnOk88 G k fi ca g) (hle : Gle G G') : FnOk88 G' k fi ca g := ⟨h.1, fun G1 w hl hw => h.2 G1 w (hle.trans hl) hw⟩
def FnOk90 (G : Gm) (k : Nat) (fi ca : List Value) (g : (TLandMemory → Option Bool)) : Prop := callB Tryz.prog k = true ∧ ∀ (G1 : Gm) (w : World), Gle G G1 → Sat G1 w → ∀ (z0 : TLandMemory) (r : Bool), g z0 = some r → Calls Tryz.prog k (fi ++ ([.agg #[.int .i64 z0.From, .int .i64 z0.To, .int .i64 z0.Years.Low, .int .i64 z0.Years.High]] : List Value) ++ ca).toArray w (RetV w (.bool r))
theorem FnOk90.mono {G G' : Gm} {k : Nat} {fi ca : List Value} {g : (TLandMemory → Option Bool)} (h : FnOk90 G k fi ca g) (hle : Gle G G') : FnOk90 G' k fi ca g := ⟨h.1, fun G1 w hl hw => h.2 G1 w (hle.trans hl) hw⟩
theorem ag26 : agB Tryz.prog 26 = some 3 := by kernel_rfl
theorem ag46 : agB Tryz.prog 46 = some 2 := by kernel_rfl
theorem ag54 : agB Tryz.prog 54 = some 2 := by kernel_rfl
theorem ag57 : agB Tryz.prog 57 = some 2 := by kernel_rfl
theorem ag60 : agB Tryz.prog 60 = some 4 := by kernel_rfl
theorem ag72 : agB Tryz.prog 72 = some 64 := by kernel_rfl
theorem ar126 : arB Tryz.prog 126 = some (2, 1) := by kernel_rfl
theorem ar137 : arB Tryz.prog 137 = some (4, 1) := by kernel_rfl
theorem ar70 : arB Tryz.prog 70 = some (8, 1) := by kernel_rfl
theorem ar72 : arB Tryz.prog 72 = some (8, 8) := by kernel_rfl
theorem cb10 : callB Tryz.prog 10 = true := by kernel_rfl
theorem cb12 : callB Tryz.prog 12 = true := by kernel_rfl
theorem cb13 : callB Tryz.prog 13 = true := by kernel_rfl
theorem cb14 : callB Tryz.prog 14 = true := by kernel_rfl
theorem cb15 : callB Tryz.prog 15 = true := by kernel_rfl
theorem cb16 : callB Tryz.prog 16 = true := by kernel_rfl
theorem cb17 : callB Tryz.prog 17 = true := by kernel_rfl
theorem cb18 : callB Tryz.prog 18 = true := by kernel_rfl
theorem cb19 : callB Tryz.prog 19 = true := by kernel_rfl
theorem cb20 : callB Tryz.prog 20 = true := by kernel_rfl
theorem cb21 : callB Tryz.prog 21 = true := by kernel_rfl
theorem cb22 : callB Tryz.prog 22 = true := by kernel_rfl
theorem cb23 : callB Tryz.prog 23 = true := by kernel_rfl
theorem cb24 : callB Tryz.prog 24 = true := by kernel_rfl
theorem cb25 : callB Tryz.prog 25 = true := by kernel_rfl
theorem cb26 : callB Tryz.prog 26 = true := by kernel_rfl
theorem cb27 : callB Tryz.prog 27 = true := by kernel_rfl
theorem cb28 : callB Tryz.prog 28 = true := by kernel_rfl
theorem cb29 : callB Tryz.prog 29 = true := by kernel_rfl
theorem cb30 : callB Tryz.prog 30 = true := by kernel_rfl
theorem cb32 : callB Tryz.prog 32 = true := by kernel_rfl
theorem cb33 : callB Tryz.prog 33 = true := by kernel_rfl
theorem cb34 : callB Tryz.prog 34 = true := by kernel_rfl
theorem cb35 : callB Tryz.prog 35 = true := by kernel_rfl
theorem cb36 : callB Tryz.prog 36 = true := by kernel_rfl
theorem cb37 : callB Tryz.prog 37 = true := by kernel_rfl
theorem cb38 : callB Tryz.prog 38 = true := by kernel_rfl
theorem cb39 : callB Tryz.prog 39 = true := by kernel_rfl
theorem cb40 : callB Tryz.prog 40 = true := by kernel_rfl
theorem cb41 : callB Tryz.prog 41 = true := by kernel_rfl
theorem cb42 : callB Tryz.prog 42 = true := by kernel_rfl
theorem cb43 : callB Tryz.prog 43 = true := by kernel_rfl
theorem cb44 : callB Tryz.prog 44 = true := by kernel_rfl
theorem cb45 : callB Tryz.prog 45 = true := by kernel_rfl
theorem cb46 : callB Tryz.prog 46 = true := by kernel_rfl
theorem cb47 : callB Tryz.prog 47 = true := by kernel_rfl
theorem cb48 : callB Tryz.prog 48 = true := by kernel_rfl
theorem cb49 : callB Tryz.prog 49 = true := by kernel_rfl
theorem cb50 : callB Tryz.prog 50 = true := by kernel_rfl
theorem cb51 : callB Tryz.prog 51 = true := by kernel_rfl
theorem cb52 : callB Tryz.prog 52 = true := by kernel_rfl
theorem cb53 : callB Tryz.prog 53 = true := by kernel_rfl
theorem cb54 : callB Tryz.prog 54 = true := by kernel_rfl
theorem cb55 : callB Tryz.prog 55 = true := by kernel_rfl
theorem cb56 : callB Tryz.prog 56 = true := by kernel_rfl
theorem cb57 : callB Tryz.prog 57 = true := by kernel_rfl
theorem cb58 : callB Tryz.prog 58 = true := by kernel_rfl
theorem cb59 : callB Tryz.prog 59 = true := by kernel_rfl
theorem cb60 : callB Tryz.prog 60 = true := by kernel_rfl
theorem cb61 : callB Tryz.prog 61 = true := by kernel_rfl
theorem cb62 : callB Tryz.prog 62 = true := by kernel_rfl
theorem cb63 : callB Tryz.prog 63 = true := by kernel_rfl
theorem cb64 : callB Tryz.prog 64 = true := by kernel_rfl
theorem cb65 : callB Tryz.prog 65 = true := by kernel_rfl
theorem cb68 : callB Tryz.prog 68 = true := by kernel_rfl
theorem cb69 : callB Tryz.prog 69 = true := by kernel_rfl
theorem cb7 : callB Tryz.prog 7 = true := by kernel_rfl
theorem cb70 : callB Tryz.prog 70 = true := by kernel_rfl
theorem cb71 : callB Tryz.prog 71 = true := by kernel_rfl
theorem cb72 : callB Tryz.prog 72 = true := by kernel_rfl
theorem cb74 : callB Tryz.prog 74 = true := by kernel_rfl
theorem cb77 : callB Tryz.prog 77 = true := by kernel_rfl
theorem cb78 : callB Tryz.prog 78 = true := by kernel_rfl
theorem cb79 : callB Tryz.prog 79 = true := by kernel_rfl
theorem cb8 : callB Tryz.prog 8 = true := by kernel_rfl
theorem cb80 : callB Tryz.prog 80 = true := by kernel_rfl
theorem cb81 : callB Tryz.prog 81 = true := by kernel_rfl
theorem cb82 : callB Tryz.prog 82 = true := by kernel_rfl
theorem cb9 : callB Tryz.prog 9 = true := by kernel_rfl
theorem fd107_0 : fldB Tryz.prog 107 0 = some 0 := by kernel_rfl
theorem fd119_0 : fldB Tryz.prog 119 0 = some 0 := by kernel_rfl
theorem fd119_1 : fldB Tryz.prog 119 1 = some 3 := by kernel_rfl
theorem fd26_0 : fldB Tryz.prog 26 0 = some 0 := by kernel_rfl
theorem fd26_1 : fldB Tryz.prog 26 1 = some 1 := by kernel_rfl
theorem fd26_2 : fldB Tryz.prog 26 2 = some 2 := by kernel_rfl
theorem fd46_0 : fldB Tryz.prog 46 0 = some 0 := by kernel_rfl
theorem fd46_1 : fldB Tryz.prog 46 1 = some 1 := by kernel_rfl
theorem fd54_0 : fldB Tryz.prog 54 0 = some 0 := by kernel_rfl
theorem fd54_1 : fldB Tryz.prog 54 1 = some 1 := by kernel_rfl
theorem fd57_0 : fldB Tryz.prog 57 0 = some 0 := by kernel_rfl
theorem fd57_1 : fldB Tryz.prog 57 1 = some 1 := by kernel_rfl
theorem fd60_0 : fldB Tryz.prog 60 0 = some 0 := by kernel_rfl
theorem fd60_1 : fldB Tryz.prog 60 1 = some 1 := by kernel_rfl
theorem fd60_2 : fldB Tryz.prog 60 2 = some 2 := by kernel_rfl
theorem in46 : intsB Tryz.prog 46 = true := by kernel_rfl
theorem in54 : intsB Tryz.prog 54 = true := by kernel_rfl
theorem in57 : intsB Tryz.prog 57 = true := by kernel_rfl
theorem iz60 : ints22B Tryz.prog 60 = true := by kernel_rfl
theorem mixedO : Tryz.prog.follows .mixedOrders = true := by kernel_rfl
theorem mp111 : Tryz.prog.underlying 111 = some (.map 9 110) := by kernel_rfl
theorem mp117 : Tryz.prog.underlying 117 = some (.map 79 4) := by kernel_rfl
theorem na117 : naB Tryz.prog 117 = true := by kernel_rfl
theorem na121 : naB Tryz.prog 121 = true := by kernel_rfl
theorem na22 : naB Tryz.prog 22 = true := by kernel_rfl
theorem na23 : naB Tryz.prog 23 = true := by kernel_rfl
theorem na24 : naB Tryz.prog 24 = true := by kernel_rfl
theorem na29 : naB Tryz.prog 29 = true := by kernel_rfl
theorem na3 : naB Tryz.prog 3 = true := by kernel_rfl
theorem na4 : naB Tryz.prog 4 = true := by kernel_rfl
theorem na76 : naB Tryz.prog 76 = true := by kernel_rfl
theorem na78 : naB Tryz.prog 78 = true := by kernel_rfl
theorem na79 : naB Tryz.prog 79 = true := by kernel_rfl
theorem na9 : naB Tryz.prog 9 = true := by kernel_rfl
theorem sl22 : slB Tryz.prog 22 = some (54, 2, 16) := by kernel_rfl
theorem sl23 : slB Tryz.prog 23 = some (57, 2, 16) := by kernel_rfl
theorem sl24 : slB Tryz.prog 24 = some (60, 4, 32) := by kernel_rfl
theorem sl41 : slB Tryz.prog 41 = some (3, 1, 8) := by kernel_rfl
theorem sl66 : slB Tryz.prog 66 = some (9, 1, 16) := by kernel_rfl
theorem sz121 : szB Tryz.prog 121 = some 1 := by kernel_rfl
theorem sz22 : szB Tryz.prog 22 = some 1 := by kernel_rfl
theorem sz23 : szB Tryz.prog 23 = some 1 := by kernel_rfl
theorem sz24 : szB Tryz.prog 24 = some 1 := by kernel_rfl
theorem sz26 : szB Tryz.prog 26 = some 3 := by kernel_rfl
theorem sz29 : szB Tryz.prog 29 = some 1 := by kernel_rfl
theorem sz3 : szB Tryz.prog 3 = some 1 := by kernel_rfl
theorem sz4 : szB Tryz.prog 4 = some 1 := by kernel_rfl
theorem sz46 : szB Tryz.prog 46 = some 2 := by kernel_rfl
theorem sz54 : szB Tryz.prog 54 = some 2 := by kernel_rfl
theorem sz57 : szB Tryz.prog 57 = some 2 := by kernel_rfl
theorem sz60 : szB Tryz.prog 60 = some 4 := by kernel_rfl
theorem sz62 : szB Tryz.prog 62 = some 1 := by kernel_rfl
theorem sz72 : szB Tryz.prog 72 = some 64 := by kernel_rfl
theorem sz76 : szB Tryz.prog 76 = some 1 := by kernel_rfl
theorem sz79 : szB Tryz.prog 79 = some 1 := by kernel_rfl
theorem ui79 : Tryz.prog.underlying 79 = some (.int .i64) := by kernel_rfl
theorem ui9 : Tryz.prog.underlying 9 = some .string := by kernel_rfl
theorem zi4 : (Tryz.prog.info? 4).bind (·.zero) = some (vvB false) := by kernel_rfl
end Go.Proofs.YtcaflmilfhhikaaGreatDoor
