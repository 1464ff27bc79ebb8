/-
  How the structures lie in memory; closed facts on the program (printed by a program of ours).
-/
import Derived.Test.YtcaflmilfhhikaaDoorFn
import Derived.Test.YtcaflmilfhhikaaDoorProg
namespace Go.Proofs.YtcaflmilfhhikaaDoor
open Go.RowKit
set_option linter.unusedVariables false

def RTLandPerson : Gm → List Value → TLandPerson → Prop := fun _ cs x => cs = [.int .i64 x.Mother, .int .i64 x.Adopted]
theorem RTLandPerson_mono : Mono RTLandPerson := fun _ _ _ _ _ h => h
theorem RTLandPerson_one : One RTLandPerson := fun _ _ _ h => by unfold RTLandPerson at h; subst h; exact one_all rfl
def RTLandEvent : Gm → List Value → TLandEvent → Prop := fun _ cs x => cs = [.int .i64 x.Strip, .int .i64 x.Holder]
theorem RTLandEvent_mono : Mono RTLandEvent := fun _ _ _ _ _ h => h
theorem RTLandEvent_one : One RTLandEvent := fun _ _ _ h => by unfold RTLandEvent at h; subst h; exact one_all rfl
def RTSpan : Gm → List Value → TSpan → Prop := fun _ cs x => cs = [.int .i64 x.Low, .int .i64 x.High]
theorem RTSpan_mono : Mono RTSpan := fun _ _ _ _ _ h => h
theorem RTSpan_one : One RTSpan := fun _ _ _ h => by unfold RTSpan at h; subst h; exact one_all rfl
def RTLandMemory : Gm → List Value → TLandMemory → Prop := fun _ cs x => cs = [.int .i64 x.From, .int .i64 x.To, .int .i64 x.Years.Low, .int .i64 x.Years.High]
theorem RTLandMemory_mono : Mono RTLandMemory := fun _ _ _ _ _ h => h
theorem RTLandMemory_one : One RTLandMemory := fun _ _ _ h => by unfold RTLandMemory at h; subst h; exact one_all rfl
def RTLandBook : Gm → List Value → TLandBook → Prop := fun G cs x => ∃ (a0 : Option Addr) (n0 c0 : Nat) (a1 : Option Addr) (n1 c1 : Nat) (a2 : Option Addr) (n2 c2 : Nat), cs = [.slice a0 n0 c0, .slice a1 n1 c1, .slice a2 n2 c2] ∧ RSl RTLandPerson 2 G a0 n0 c0 x.People ∧ RSl RTLandEvent 2 G a1 n1 c1 x.Events ∧ RSl RTLandMemory 4 G a2 n2 c2 x.Memories
theorem RTLandBook_mono : Mono RTLandBook := fun _ _ _ _ hle ⟨a0, n0, c0, a1, n1, c1, a2, n2, c2, h, h0, h1, h2⟩ => ⟨a0, n0, c0, a1, n1, c1, a2, n2, c2, h, h0.mono RTLandPerson_mono hle, h1.mono RTLandEvent_mono hle, h2.mono RTLandMemory_mono hle⟩
theorem RTLandBook_one : One RTLandBook := fun _ _ _ ⟨_, _, _, _, _, _, _, _, _, h, _, _, _⟩ => by subst h; exact one_all rfl
def FnOk42 (G : Gm) (k : Nat) (fi ca : List Value) (g : (Int → Option Bool)) : Prop := callB Tryd.prog k = true ∧ ∀ (G1 : Gm) (w : World), Gle G G1 → Sat G1 w → ∀ (z0 : Int) (r : Bool), g z0 = some r → Calls Tryd.prog k (fi ++ ([.int .i64 z0] : List Value) ++ ca).toArray w (RetV w (.bool r))
theorem FnOk42.mono {G G' : Gm} {k : Nat} {fi ca : List Value} {g : (Int → Option Bool)} (h : FnOk42 G k fi ca g) (hle : Gle G G') : FnOk42 G' k fi ca g := ⟨h.1, fun G1 w hl hw => h.2 G1 w (hle.trans hl) hw⟩
def FnOk92 (G : Gm) (k : Nat) (fi ca : List Value) (g : (TLandMemory → Option Bool)) : Prop := callB Tryd.prog k = true ∧ ∀ (G1 : Gm) (w : World), Gle G G1 → Sat G1 w → ∀ (z0 : TLandMemory) (r : Bool), g z0 = some r → Calls Tryd.prog k (fi ++ ([.agg #[.int .i64 z0.From, .int .i64 z0.To, .int .i64 z0.Years.Low, .int .i64 z0.Years.High]] : List Value) ++ ca).toArray w (RetV w (.bool r))
theorem FnOk92.mono {G G' : Gm} {k : Nat} {fi ca : List Value} {g : (TLandMemory → Option Bool)} (h : FnOk92 G k fi ca g) (hle : Gle G G') : FnOk92 G' k fi ca g := ⟨h.1, fun G1 w hl hw => h.2 G1 w (hle.trans hl) hw⟩
def FnOk104 (G : Gm) (k : Nat) (fi ca : List Value) (g : (TLandEvent → Option Bool)) : Prop := callB Tryd.prog k = true ∧ ∀ (G1 : Gm) (w : World), Gle G G1 → Sat G1 w → ∀ (z0 : TLandEvent) (r : Bool), g z0 = some r → Calls Tryd.prog k (fi ++ ([.agg #[.int .i64 z0.Strip, .int .i64 z0.Holder]] : List Value) ++ ca).toArray w (RetV w (.bool r))
theorem FnOk104.mono {G G' : Gm} {k : Nat} {fi ca : List Value} {g : (TLandEvent → Option Bool)} (h : FnOk104 G k fi ca g) (hle : Gle G G') : FnOk104 G' k fi ca g := ⟨h.1, fun G1 w hl hw => h.2 G1 w (hle.trans hl) hw⟩
theorem ag26 : agB Tryd.prog 26 = some 3 := by kernel_rfl
theorem ag44 : agB Tryd.prog 44 = some 2 := by kernel_rfl
theorem ag46 : agB Tryd.prog 46 = some 4 := by kernel_rfl
theorem ag69 : agB Tryd.prog 69 = some 2 := by kernel_rfl
theorem ag85 : agB Tryd.prog 85 = some 2 := by kernel_rfl
theorem ag95 : agB Tryd.prog 95 = some 64 := by kernel_rfl
theorem ar93 : arB Tryd.prog 93 = some (8, 1) := by kernel_rfl
theorem ar95 : arB Tryd.prog 95 = some (8, 8) := by kernel_rfl
theorem cb14 : callB Tryd.prog 14 = true := by kernel_rfl
theorem cb15 : callB Tryd.prog 15 = true := by kernel_rfl
theorem cb16 : callB Tryd.prog 16 = true := by kernel_rfl
theorem cb17 : callB Tryd.prog 17 = true := by kernel_rfl
theorem cb18 : callB Tryd.prog 18 = true := by kernel_rfl
theorem cb19 : callB Tryd.prog 19 = true := by kernel_rfl
theorem cb20 : callB Tryd.prog 20 = true := by kernel_rfl
theorem cb21 : callB Tryd.prog 21 = true := by kernel_rfl
theorem cb22 : callB Tryd.prog 22 = true := by kernel_rfl
theorem cb23 : callB Tryd.prog 23 = true := by kernel_rfl
theorem cb24 : callB Tryd.prog 24 = true := by kernel_rfl
theorem cb25 : callB Tryd.prog 25 = true := by kernel_rfl
theorem cb26 : callB Tryd.prog 26 = true := by kernel_rfl
theorem cb27 : callB Tryd.prog 27 = true := by kernel_rfl
theorem cb28 : callB Tryd.prog 28 = true := by kernel_rfl
theorem cb29 : callB Tryd.prog 29 = true := by kernel_rfl
theorem cb30 : callB Tryd.prog 30 = true := by kernel_rfl
theorem cb31 : callB Tryd.prog 31 = true := by kernel_rfl
theorem cb32 : callB Tryd.prog 32 = true := by kernel_rfl
theorem cb33 : callB Tryd.prog 33 = true := by kernel_rfl
theorem cb34 : callB Tryd.prog 34 = true := by kernel_rfl
theorem cb35 : callB Tryd.prog 35 = true := by kernel_rfl
theorem cb36 : callB Tryd.prog 36 = true := by kernel_rfl
theorem cb37 : callB Tryd.prog 37 = true := by kernel_rfl
theorem cb38 : callB Tryd.prog 38 = true := by kernel_rfl
theorem cb39 : callB Tryd.prog 39 = true := by kernel_rfl
theorem cb40 : callB Tryd.prog 40 = true := by kernel_rfl
theorem cb41 : callB Tryd.prog 41 = true := by kernel_rfl
theorem cb42 : callB Tryd.prog 42 = true := by kernel_rfl
theorem cb43 : callB Tryd.prog 43 = true := by kernel_rfl
theorem cb44 : callB Tryd.prog 44 = true := by kernel_rfl
theorem cb45 : callB Tryd.prog 45 = true := by kernel_rfl
theorem cb46 : callB Tryd.prog 46 = true := by kernel_rfl
theorem cb47 : callB Tryd.prog 47 = true := by kernel_rfl
theorem cb48 : callB Tryd.prog 48 = true := by kernel_rfl
theorem cb49 : callB Tryd.prog 49 = true := by kernel_rfl
theorem cb50 : callB Tryd.prog 50 = true := by kernel_rfl
theorem cb51 : callB Tryd.prog 51 = true := by kernel_rfl
theorem cb52 : callB Tryd.prog 52 = true := by kernel_rfl
theorem cb53 : callB Tryd.prog 53 = true := by kernel_rfl
theorem cb54 : callB Tryd.prog 54 = true := by kernel_rfl
theorem cb55 : callB Tryd.prog 55 = true := by kernel_rfl
theorem cb56 : callB Tryd.prog 56 = true := by kernel_rfl
theorem cb57 : callB Tryd.prog 57 = true := by kernel_rfl
theorem cb58 : callB Tryd.prog 58 = true := by kernel_rfl
theorem cb59 : callB Tryd.prog 59 = true := by kernel_rfl
theorem cb60 : callB Tryd.prog 60 = true := by kernel_rfl
theorem cb61 : callB Tryd.prog 61 = true := by kernel_rfl
theorem cb62 : callB Tryd.prog 62 = true := by kernel_rfl
theorem cb63 : callB Tryd.prog 63 = true := by kernel_rfl
theorem cb64 : callB Tryd.prog 64 = true := by kernel_rfl
theorem cb65 : callB Tryd.prog 65 = true := by kernel_rfl
theorem cb66 : callB Tryd.prog 66 = true := by kernel_rfl
theorem cb67 : callB Tryd.prog 67 = true := by kernel_rfl
theorem cb68 : callB Tryd.prog 68 = true := by kernel_rfl
theorem cb69 : callB Tryd.prog 69 = true := by kernel_rfl
theorem cb70 : callB Tryd.prog 70 = true := by kernel_rfl
theorem cb71 : callB Tryd.prog 71 = true := by kernel_rfl
theorem cb72 : callB Tryd.prog 72 = true := by kernel_rfl
theorem cb73 : callB Tryd.prog 73 = true := by kernel_rfl
theorem cb74 : callB Tryd.prog 74 = true := by kernel_rfl
theorem cb75 : callB Tryd.prog 75 = true := by kernel_rfl
theorem cb76 : callB Tryd.prog 76 = true := by kernel_rfl
theorem cb77 : callB Tryd.prog 77 = true := by kernel_rfl
theorem cb78 : callB Tryd.prog 78 = true := by kernel_rfl
theorem cb79 : callB Tryd.prog 79 = true := by kernel_rfl
theorem cb80 : callB Tryd.prog 80 = true := by kernel_rfl
theorem cb81 : callB Tryd.prog 81 = true := by kernel_rfl
theorem cb82 : callB Tryd.prog 82 = true := by kernel_rfl
theorem cb83 : callB Tryd.prog 83 = true := by kernel_rfl
theorem cb86 : callB Tryd.prog 86 = true := by kernel_rfl
theorem cb87 : callB Tryd.prog 87 = true := by kernel_rfl
theorem cb88 : callB Tryd.prog 88 = true := by kernel_rfl
theorem cb89 : callB Tryd.prog 89 = true := by kernel_rfl
theorem cb90 : callB Tryd.prog 90 = true := by kernel_rfl
theorem cb91 : callB Tryd.prog 91 = true := by kernel_rfl
theorem cb92 : callB Tryd.prog 92 = true := by kernel_rfl
theorem cb93 : callB Tryd.prog 93 = true := by kernel_rfl
theorem cb94 : callB Tryd.prog 94 = true := by kernel_rfl
theorem cb95 : callB Tryd.prog 95 = true := by kernel_rfl
theorem cb98 : callB Tryd.prog 98 = true := by kernel_rfl
theorem fd107_0 : fldB Tryd.prog 107 0 = some 0 := by kernel_rfl
theorem fd107_1 : fldB Tryd.prog 107 1 = some 3 := by kernel_rfl
theorem fd26_0 : fldB Tryd.prog 26 0 = some 0 := by kernel_rfl
theorem fd26_1 : fldB Tryd.prog 26 1 = some 1 := by kernel_rfl
theorem fd26_2 : fldB Tryd.prog 26 2 = some 2 := by kernel_rfl
theorem fd44_0 : fldB Tryd.prog 44 0 = some 0 := by kernel_rfl
theorem fd44_1 : fldB Tryd.prog 44 1 = some 1 := by kernel_rfl
theorem fd46_0 : fldB Tryd.prog 46 0 = some 0 := by kernel_rfl
theorem fd46_1 : fldB Tryd.prog 46 1 = some 1 := by kernel_rfl
theorem fd46_2 : fldB Tryd.prog 46 2 = some 2 := by kernel_rfl
theorem fd69_0 : fldB Tryd.prog 69 0 = some 0 := by kernel_rfl
theorem fd69_1 : fldB Tryd.prog 69 1 = some 1 := by kernel_rfl
theorem fd85_0 : fldB Tryd.prog 85 0 = some 0 := by kernel_rfl
theorem fd85_1 : fldB Tryd.prog 85 1 = some 1 := by kernel_rfl
theorem in44 : intsB Tryd.prog 44 = true := by kernel_rfl
theorem mixedO : Tryd.prog.follows .mixedOrders = true := by kernel_rfl
theorem mp105 : Tryd.prog.underlying 105 = some (.map 77 4) := by kernel_rfl
theorem na105 : naB Tryd.prog 105 = true := by kernel_rfl
theorem na110 : naB Tryd.prog 110 = true := by kernel_rfl
theorem na22 : naB Tryd.prog 22 = true := by kernel_rfl
theorem na23 : naB Tryd.prog 23 = true := by kernel_rfl
theorem na24 : naB Tryd.prog 24 = true := by kernel_rfl
theorem na29 : naB Tryd.prog 29 = true := by kernel_rfl
theorem na3 : naB Tryd.prog 3 = true := by kernel_rfl
theorem na4 : naB Tryd.prog 4 = true := by kernel_rfl
theorem na74 : naB Tryd.prog 74 = true := by kernel_rfl
theorem na76 : naB Tryd.prog 76 = true := by kernel_rfl
theorem na77 : naB Tryd.prog 77 = true := by kernel_rfl
theorem sl22 : slB Tryd.prog 22 = some (85, 2, 16) := by kernel_rfl
theorem sl23 : slB Tryd.prog 23 = some (69, 2, 16) := by kernel_rfl
theorem sl24 : slB Tryd.prog 24 = some (46, 4, 32) := by kernel_rfl
theorem sl29 : slB Tryd.prog 29 = some (3, 1, 8) := by kernel_rfl
theorem sl47 : slB Tryd.prog 47 = some (44, 2, 16) := by kernel_rfl
theorem sl86 : slB Tryd.prog 86 = some (29, 1, 24) := by kernel_rfl
theorem sz110 : szB Tryd.prog 110 = some 1 := by kernel_rfl
theorem sz24 : szB Tryd.prog 24 = some 1 := by kernel_rfl
theorem sz26 : szB Tryd.prog 26 = some 3 := by kernel_rfl
theorem sz3 : szB Tryd.prog 3 = some 1 := by kernel_rfl
theorem sz4 : szB Tryd.prog 4 = some 1 := by kernel_rfl
theorem sz44 : szB Tryd.prog 44 = some 2 := by kernel_rfl
theorem sz46 : szB Tryd.prog 46 = some 4 := by kernel_rfl
theorem sz69 : szB Tryd.prog 69 = some 2 := by kernel_rfl
theorem sz74 : szB Tryd.prog 74 = some 1 := by kernel_rfl
theorem sz77 : szB Tryd.prog 77 = some 1 := by kernel_rfl
theorem sz85 : szB Tryd.prog 85 = some 2 := by kernel_rfl
theorem sz95 : szB Tryd.prog 95 = some 64 := by kernel_rfl
theorem ui77 : Tryd.prog.underlying 77 = some (.int .i64) := by kernel_rfl
theorem zi4 : (Tryd.prog.info? 4).bind (·.zero) = some (vvB false) := by kernel_rfl
end Go.Proofs.YtcaflmilfhhikaaDoor
