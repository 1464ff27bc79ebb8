/-
  How the structures lie in memory; closed facts on the program (printed by a program of ours).
-/
import Derived.Test.YtgplafckddpnkaaFn
import Derived.Test.YtgplafckddpnkaaProg
namespace Go.Proofs.Ytgplafckddpnkaa
open Go.RowKit
set_option linter.unusedVariables false

def RTSpan : Gm → List Value → TSpan → Prop := fun _ cs x => cs = [.int .i64 x.Low, .int .i64 x.High]
theorem RTSpan_mono : Mono RTSpan := fun _ _ _ _ _ h => h
theorem RTSpan_one : One RTSpan := fun _ _ _ h => by unfold RTSpan at h; subst h; exact one_all rfl
def RTBaneBite : Gm → List Value → TBaneBite → Prop := fun _ cs x => cs = [.int .i64 x.Prey, .int .i64 x.Share.Low, .int .i64 x.Share.High]
theorem RTBaneBite_mono : Mono RTBaneBite := fun _ _ _ _ _ h => h
theorem RTBaneBite_one : One RTBaneBite := fun _ _ _ h => by unfold RTBaneBite at h; subst h; exact one_all rfl
def RTBaneFish : Gm → List Value → TBaneFish → Prop := fun G cs x => ∃ (a0 : Option Addr) (n0 c0 : Nat), cs = [.int .i64 x.Base.Low, .int .i64 x.Base.High, .slice a0 n0 c0, .int .i64 x.Pass, .int .i64 x.Cost] ∧ RSl RTBaneBite 3 G a0 n0 c0 x.Bites
theorem RTBaneFish_mono : Mono RTBaneFish := fun _ _ _ _ hle ⟨a0, n0, c0, h, h0⟩ => ⟨a0, n0, c0, h, h0.mono RTBaneBite_mono hle⟩
theorem RTBaneFish_one : One RTBaneFish := fun _ _ _ ⟨_, _, _, h, _⟩ => by subst h; exact one_all rfl
def RTBaneWeb : Gm → List Value → TBaneWeb → Prop := fun G cs x => ∃ (a0 : Option Addr) (n0 c0 : Nat), cs = [.slice a0 n0 c0, .int .i64 x.Limit] ∧ RSl RTBaneFish 5 G a0 n0 c0 x.Fish
theorem RTBaneWeb_mono : Mono RTBaneWeb := fun _ _ _ _ hle ⟨a0, n0, c0, h, h0⟩ => ⟨a0, n0, c0, h, h0.mono RTBaneFish_mono hle⟩
theorem RTBaneWeb_one : One RTBaneWeb := fun _ _ _ ⟨_, _, _, h, _⟩ => by subst h; exact one_all rfl
def RTBaneTruth : Gm → List Value → TBaneTruth → Prop := fun G cs x => ∃ (a0 : Option Addr) (n0 c0 : Nat) (a1 : Option Addr) (n1 c1 : Nat), cs = [.slice a0 n0 c0, .slice a1 n1 c1] ∧ RSl RInt 1 G a0 n0 c0 x.Bases ∧ RSl (RSlice RInt 1) 1 G a1 n1 c1 x.Shares
theorem RTBaneTruth_mono : Mono RTBaneTruth := fun _ _ _ _ hle ⟨a0, n0, c0, a1, n1, c1, h, h0, h1⟩ => ⟨a0, n0, c0, a1, n1, c1, h, h0.mono RInt_mono hle, h1.mono (RSlice_mono RInt_mono) hle⟩
theorem RTBaneTruth_one : One RTBaneTruth := fun _ _ _ ⟨_, _, _, _, _, _, h, _, _⟩ => by subst h; exact one_all rfl
def RTWeb : Gm → List Value → TWeb → Prop := fun G cs x => ∃ (a0 : Option Addr) (n0 c0 : Nat), cs = [.slice a0 n0 c0, .int .i64 x.BaneWeb.Limit, .int .i64 x.tests] ∧ RSl RTBaneFish 5 G a0 n0 c0 x.BaneWeb.Fish
theorem RTWeb_mono : Mono RTWeb := fun _ _ _ _ hle ⟨a0, n0, c0, h, h0⟩ => ⟨a0, n0, c0, h, h0.mono RTBaneFish_mono hle⟩
theorem RTWeb_one : One RTWeb := fun _ _ _ ⟨_, _, _, h, _⟩ => by subst h; exact one_all rfl
def RTBaneTrip : Gm → List Value → TBaneTrip → Prop := fun _ cs x => cs = [.int .i64 x.Day, .int .i64 x.From, .int .i64 x.To, .int .i64 x.Cost]
theorem RTBaneTrip_mono : Mono RTBaneTrip := fun _ _ _ _ _ h => h
theorem RTBaneTrip_one : One RTBaneTrip := fun _ _ _ h => by unfold RTBaneTrip at h; subst h; exact one_all rfl
def RTBaneSea : Gm → List Value → TBaneSea → Prop := fun G cs x => ∃ (a0 : Option Addr) (n0 c0 : Nat) (a1 : Option Addr) (n1 c1 : Nat) (a2 : Option Addr) (n2 c2 : Nat), cs = [.int .i64 x.Islets, .slice a0 n0 c0, .slice a1 n1 c1, .slice a2 n2 c2, .int .i64 x.Wait] ∧ RSl RInt 1 G a0 n0 c0 x.Infested ∧ RSl RInt 1 G a1 n1 c1 x.Clean ∧ RSl RTBaneTrip 4 G a2 n2 c2 x.Trips
theorem RTBaneSea_mono : Mono RTBaneSea := fun _ _ _ _ hle ⟨a0, n0, c0, a1, n1, c1, a2, n2, c2, h, h0, h1, h2⟩ => ⟨a0, n0, c0, a1, n1, c1, a2, n2, c2, h, h0.mono RInt_mono hle, h1.mono RInt_mono hle, h2.mono RTBaneTrip_mono hle⟩
theorem RTBaneSea_one : One RTBaneSea := fun _ _ _ ⟨_, _, _, _, _, _, _, _, _, h, _, _, _⟩ => by subst h; exact one_all rfl
def RTSea : Gm → List Value → TSea → Prop := fun G cs x => ∃ (a0 : Option Addr) (n0 c0 : Nat) (a1 : Option Addr) (n1 c1 : Nat) (a2 : Option Addr) (n2 c2 : Nat), cs = [.int .i64 x.BaneSea.Islets, .slice a0 n0 c0, .slice a1 n1 c1, .slice a2 n2 c2, .int .i64 x.BaneSea.Wait, .int .i64 x.shut] ∧ RSl RInt 1 G a0 n0 c0 x.BaneSea.Infested ∧ RSl RInt 1 G a1 n1 c1 x.BaneSea.Clean ∧ RSl RTBaneTrip 4 G a2 n2 c2 x.BaneSea.Trips
theorem RTSea_mono : Mono RTSea := fun _ _ _ _ hle ⟨a0, n0, c0, a1, n1, c1, a2, n2, c2, h, h0, h1, h2⟩ => ⟨a0, n0, c0, a1, n1, c1, a2, n2, c2, h, h0.mono RInt_mono hle, h1.mono RInt_mono hle, h2.mono RTBaneTrip_mono hle⟩
theorem RTSea_one : One RTSea := fun _ _ _ ⟨_, _, _, _, _, _, _, _, _, h, _, _, _⟩ => by subst h; exact one_all rfl
def RTQueue_int_ : Gm → List Value → TQueue_int_ → Prop := fun G cs x => ∃ (a0 : Option Addr) (n0 c0 : Nat), cs = [.slice a0 n0 c0] ∧ RSl RInt 1 G a0 n0 c0 x.all
theorem RTQueue_int__mono : Mono RTQueue_int_ := fun _ _ _ _ hle ⟨a0, n0, c0, h, h0⟩ => ⟨a0, n0, c0, h, h0.mono RInt_mono hle⟩
theorem RTQueue_int__one : One RTQueue_int_ := fun _ _ _ ⟨_, _, _, h, _⟩ => by subst h; exact one_all rfl
def RTSpot : Gm → List Value → TSpot → Prop := fun _ cs x => cs = [.int .i64 x.trip, .int .i64 x.left]
theorem RTSpot_mono : Mono RTSpot := fun _ _ _ _ _ h => h
theorem RTSpot_one : One RTSpot := fun _ _ _ h => by unfold RTSpot at h; subst h; exact one_all rfl
def RTChoice : Gm → List Value → TChoice → Prop := fun G cs x => ∃ (a0 : Option Addr) (n0 c0 : Nat), cs = [.int .i64 x.cost, .slice a0 n0 c0] ∧ RSl RInt 1 G a0 n0 c0 x.list
theorem RTChoice_mono : Mono RTChoice := fun _ _ _ _ hle ⟨a0, n0, c0, h, h0⟩ => ⟨a0, n0, c0, h, h0.mono RInt_mono hle⟩
theorem RTChoice_one : One RTChoice := fun _ _ _ ⟨_, _, _, h, _⟩ => by subst h; exact one_all rfl
def FnOk101 (G : Gm) (k : Nat) (fi ca : List Value) (g : (Int → Option Int)) : Prop := callB Try.prog k = true ∧ ∀ (G1 : Gm) (w : World), Gle G G1 → Sat G1 w → ∀ (z0 : Int) (r : Int), g z0 = some r → Calls Try.prog k (fi ++ ([.int .i64 z0] : List Value) ++ ca).toArray w (RetV w (.int .i64 r))
theorem FnOk101.mono {G G' : Gm} {k : Nat} {fi ca : List Value} {g : (Int → Option Int)} (h : FnOk101 G k fi ca g) (hle : Gle G G') : FnOk101 G' k fi ca g := ⟨h.1, fun G1 w hl hw => h.2 G1 w (hle.trans hl) hw⟩
def FnOk106 (G : Gm) (k : Nat) (fi ca : List Value) (g : (Option (List Int))) : Prop := callB Try.prog k = true ∧ ∀ (G1 : Gm) (w : World), Gle G G1 → Sat G1 w → ∀ (r : (List Int)), g = some r → Calls Try.prog k (fi ++ ([] : List Value) ++ ca).toArray w (RetG G1 w (fun G v => ∃ (ra0 : Option Addr) (rn0 rc0 : Nat), v = .slice ra0 rn0 rc0 ∧ RSl RInt 1 G ra0 rn0 rc0 r))
theorem FnOk106.mono {G G' : Gm} {k : Nat} {fi ca : List Value} {g : (Option (List Int))} (h : FnOk106 G k fi ca g) (hle : Gle G G') : FnOk106 G' k fi ca g := ⟨h.1, fun G1 w hl hw => h.2 G1 w (hle.trans hl) hw⟩
def FnOk124 (G : Gm) (k : Nat) (fi ca : List Value) (g : (TBaneTrip → Option Int)) : Prop := callB Try.prog k = true ∧ ∀ (G1 : Gm) (w : World), Gle G G1 → Sat G1 w → ∀ (z0 : TBaneTrip) (r : Int), g z0 = some r → Calls Try.prog k (fi ++ ([.agg #[.int .i64 z0.Day, .int .i64 z0.From, .int .i64 z0.To, .int .i64 z0.Cost]] : List Value) ++ ca).toArray w (RetV w (.int .i64 r))
theorem FnOk124.mono {G G' : Gm} {k : Nat} {fi ca : List Value} {g : (TBaneTrip → Option Int)} (h : FnOk124 G k fi ca g) (hle : Gle G G') : FnOk124 G' k fi ca g := ⟨h.1, fun G1 w hl hw => h.2 G1 w (hle.trans hl) hw⟩
def FnOk125 (G : Gm) (k : Nat) (fi ca : List Value) (g : (Int → Option Bool)) : Prop := callB Try.prog k = true ∧ ∀ (G1 : Gm) (w : World), Gle G G1 → Sat G1 w → ∀ (z0 : Int) (r : Bool), g z0 = some r → Calls Try.prog k (fi ++ ([.int .i64 z0] : List Value) ++ ca).toArray w (RetV w (.bool r))
theorem FnOk125.mono {G G' : Gm} {k : Nat} {fi ca : List Value} {g : (Int → Option Bool)} (h : FnOk125 G k fi ca g) (hle : Gle G G') : FnOk125 G' k fi ca g := ⟨h.1, fun G1 w hl hw => h.2 G1 w (hle.trans hl) hw⟩
def FnOk131 (G : Gm) (k : Nat) (fi ca : List Value) (g : (TBaneFish → Option Int)) : Prop := callB Try.prog k = true ∧ ∀ (G1 : Gm) (w : World), Gle G G1 → Sat G1 w → ∀ (z0 : TBaneFish) (a0_0 : Option Addr) (n0_0 c0_0 : Nat) (r : Int), RSl RTBaneBite 3 G1 a0_0 n0_0 c0_0 z0.Bites → g z0 = some r → Calls Try.prog k (fi ++ ([.agg #[.int .i64 z0.Base.Low, .int .i64 z0.Base.High, .slice a0_0 n0_0 c0_0, .int .i64 z0.Pass, .int .i64 z0.Cost]] : List Value) ++ ca).toArray w (RetV w (.int .i64 r))
theorem FnOk131.mono {G G' : Gm} {k : Nat} {fi ca : List Value} {g : (TBaneFish → Option Int)} (h : FnOk131 G k fi ca g) (hle : Gle G G') : FnOk131 G' k fi ca g := ⟨h.1, fun G1 w hl hw => h.2 G1 w (hle.trans hl) hw⟩
def FnOk146 (G : Gm) (k : Nat) (fi ca : List Value) (g : (TBaneTrip → Option Bool)) : Prop := callB Try.prog k = true ∧ ∀ (G1 : Gm) (w : World), Gle G G1 → Sat G1 w → ∀ (z0 : TBaneTrip) (r : Bool), g z0 = some r → Calls Try.prog k (fi ++ ([.agg #[.int .i64 z0.Day, .int .i64 z0.From, .int .i64 z0.To, .int .i64 z0.Cost]] : List Value) ++ ca).toArray w (RetV w (.bool r))
theorem FnOk146.mono {G G' : Gm} {k : Nat} {fi ca : List Value} {g : (TBaneTrip → Option Bool)} (h : FnOk146 G k fi ca g) (hle : Gle G G') : FnOk146 G' k fi ca g := ⟨h.1, fun G1 w hl hw => h.2 G1 w (hle.trans hl) hw⟩
theorem ag104 : agB Try.prog 104 = some 3 := by kernel_rfl
theorem ag109 : agB Try.prog 109 = some 4 := by kernel_rfl
theorem ag111 : agB Try.prog 111 = some 6 := by kernel_rfl
theorem ag117 : agB Try.prog 117 = some 2 := by kernel_rfl
theorem ag121 : agB Try.prog 121 = some 2 := by kernel_rfl
theorem ag24 : agB Try.prog 24 = some 2 := by kernel_rfl
theorem ag28 : agB Try.prog 28 = some 2 := by kernel_rfl
theorem ag43 : agB Try.prog 43 = some 2 := by kernel_rfl
theorem ag46 : agB Try.prog 46 = some 5 := by kernel_rfl
theorem ag72 : agB Try.prog 72 = some 5 := by kernel_rfl
theorem ag77 : agB Try.prog 77 = some 3 := by kernel_rfl
theorem cb100 : callB Try.prog 100 = true := by kernel_rfl
theorem cb101 : callB Try.prog 101 = true := by kernel_rfl
theorem cb102 : callB Try.prog 102 = true := by kernel_rfl
theorem cb103 : callB Try.prog 103 = true := by kernel_rfl
theorem cb104 : callB Try.prog 104 = true := by kernel_rfl
theorem cb105 : callB Try.prog 105 = true := by kernel_rfl
theorem cb106 : callB Try.prog 106 = true := by kernel_rfl
theorem cb107 : callB Try.prog 107 = true := by kernel_rfl
theorem cb108 : callB Try.prog 108 = true := by kernel_rfl
theorem cb109 : callB Try.prog 109 = true := by kernel_rfl
theorem cb110 : callB Try.prog 110 = true := by kernel_rfl
theorem cb111 : callB Try.prog 111 = true := by kernel_rfl
theorem cb112 : callB Try.prog 112 = true := by kernel_rfl
theorem cb113 : callB Try.prog 113 = true := by kernel_rfl
theorem cb114 : callB Try.prog 114 = true := by kernel_rfl
theorem cb115 : callB Try.prog 115 = true := by kernel_rfl
theorem cb116 : callB Try.prog 116 = true := by kernel_rfl
theorem cb117 : callB Try.prog 117 = true := by kernel_rfl
theorem cb17 : callB Try.prog 17 = true := by kernel_rfl
theorem cb18 : callB Try.prog 18 = true := by kernel_rfl
theorem cb19 : callB Try.prog 19 = true := by kernel_rfl
theorem cb20 : callB Try.prog 20 = true := by kernel_rfl
theorem cb21 : callB Try.prog 21 = true := by kernel_rfl
theorem cb22 : callB Try.prog 22 = true := by kernel_rfl
theorem cb23 : callB Try.prog 23 = true := by kernel_rfl
theorem cb24 : callB Try.prog 24 = true := by kernel_rfl
theorem cb25 : callB Try.prog 25 = true := by kernel_rfl
theorem cb26 : callB Try.prog 26 = true := by kernel_rfl
theorem cb27 : callB Try.prog 27 = true := by kernel_rfl
theorem cb28 : callB Try.prog 28 = true := by kernel_rfl
theorem cb29 : callB Try.prog 29 = true := by kernel_rfl
theorem cb30 : callB Try.prog 30 = true := by kernel_rfl
theorem cb31 : callB Try.prog 31 = true := by kernel_rfl
theorem cb32 : callB Try.prog 32 = true := by kernel_rfl
theorem cb33 : callB Try.prog 33 = true := by kernel_rfl
theorem cb34 : callB Try.prog 34 = true := by kernel_rfl
theorem cb35 : callB Try.prog 35 = true := by kernel_rfl
theorem cb36 : callB Try.prog 36 = true := by kernel_rfl
theorem cb37 : callB Try.prog 37 = true := by kernel_rfl
theorem cb38 : callB Try.prog 38 = true := by kernel_rfl
theorem cb39 : callB Try.prog 39 = true := by kernel_rfl
theorem cb40 : callB Try.prog 40 = true := by kernel_rfl
theorem cb41 : callB Try.prog 41 = true := by kernel_rfl
theorem cb42 : callB Try.prog 42 = true := by kernel_rfl
theorem cb43 : callB Try.prog 43 = true := by kernel_rfl
theorem cb44 : callB Try.prog 44 = true := by kernel_rfl
theorem cb45 : callB Try.prog 45 = true := by kernel_rfl
theorem cb46 : callB Try.prog 46 = true := by kernel_rfl
theorem cb47 : callB Try.prog 47 = true := by kernel_rfl
theorem cb48 : callB Try.prog 48 = true := by kernel_rfl
theorem cb49 : callB Try.prog 49 = true := by kernel_rfl
theorem cb50 : callB Try.prog 50 = true := by kernel_rfl
theorem cb51 : callB Try.prog 51 = true := by kernel_rfl
theorem cb52 : callB Try.prog 52 = true := by kernel_rfl
theorem cb53 : callB Try.prog 53 = true := by kernel_rfl
theorem cb54 : callB Try.prog 54 = true := by kernel_rfl
theorem cb55 : callB Try.prog 55 = true := by kernel_rfl
theorem cb56 : callB Try.prog 56 = true := by kernel_rfl
theorem cb57 : callB Try.prog 57 = true := by kernel_rfl
theorem cb58 : callB Try.prog 58 = true := by kernel_rfl
theorem cb59 : callB Try.prog 59 = true := by kernel_rfl
theorem cb60 : callB Try.prog 60 = true := by kernel_rfl
theorem cb61 : callB Try.prog 61 = true := by kernel_rfl
theorem cb62 : callB Try.prog 62 = true := by kernel_rfl
theorem cb63 : callB Try.prog 63 = true := by kernel_rfl
theorem cb64 : callB Try.prog 64 = true := by kernel_rfl
theorem cb65 : callB Try.prog 65 = true := by kernel_rfl
theorem cb66 : callB Try.prog 66 = true := by kernel_rfl
theorem cb67 : callB Try.prog 67 = true := by kernel_rfl
theorem cb68 : callB Try.prog 68 = true := by kernel_rfl
theorem cb69 : callB Try.prog 69 = true := by kernel_rfl
theorem cb70 : callB Try.prog 70 = true := by kernel_rfl
theorem cb71 : callB Try.prog 71 = true := by kernel_rfl
theorem cb72 : callB Try.prog 72 = true := by kernel_rfl
theorem cb73 : callB Try.prog 73 = true := by kernel_rfl
theorem cb74 : callB Try.prog 74 = true := by kernel_rfl
theorem cb75 : callB Try.prog 75 = true := by kernel_rfl
theorem cb76 : callB Try.prog 76 = true := by kernel_rfl
theorem cb77 : callB Try.prog 77 = true := by kernel_rfl
theorem cb78 : callB Try.prog 78 = true := by kernel_rfl
theorem cb79 : callB Try.prog 79 = true := by kernel_rfl
theorem cb80 : callB Try.prog 80 = true := by kernel_rfl
theorem cb81 : callB Try.prog 81 = true := by kernel_rfl
theorem cb82 : callB Try.prog 82 = true := by kernel_rfl
theorem cb83 : callB Try.prog 83 = true := by kernel_rfl
theorem cb84 : callB Try.prog 84 = true := by kernel_rfl
theorem cb85 : callB Try.prog 85 = true := by kernel_rfl
theorem cb86 : callB Try.prog 86 = true := by kernel_rfl
theorem cb87 : callB Try.prog 87 = true := by kernel_rfl
theorem cb88 : callB Try.prog 88 = true := by kernel_rfl
theorem cb89 : callB Try.prog 89 = true := by kernel_rfl
theorem cb90 : callB Try.prog 90 = true := by kernel_rfl
theorem cb91 : callB Try.prog 91 = true := by kernel_rfl
theorem cb92 : callB Try.prog 92 = true := by kernel_rfl
theorem cb93 : callB Try.prog 93 = true := by kernel_rfl
theorem cb94 : callB Try.prog 94 = true := by kernel_rfl
theorem cb95 : callB Try.prog 95 = true := by kernel_rfl
theorem cb96 : callB Try.prog 96 = true := by kernel_rfl
theorem cb97 : callB Try.prog 97 = true := by kernel_rfl
theorem cb98 : callB Try.prog 98 = true := by kernel_rfl
theorem cb99 : callB Try.prog 99 = true := by kernel_rfl
theorem fd104_0 : fldB Try.prog 104 0 = some 0 := by kernel_rfl
theorem fd104_1 : fldB Try.prog 104 1 = some 2 := by kernel_rfl
theorem fd109_0 : fldB Try.prog 109 0 = some 0 := by kernel_rfl
theorem fd109_1 : fldB Try.prog 109 1 = some 1 := by kernel_rfl
theorem fd109_2 : fldB Try.prog 109 2 = some 2 := by kernel_rfl
theorem fd109_3 : fldB Try.prog 109 3 = some 3 := by kernel_rfl
theorem fd111_0 : fldB Try.prog 111 0 = some 0 := by kernel_rfl
theorem fd111_1 : fldB Try.prog 111 1 = some 5 := by kernel_rfl
theorem fd117_0 : fldB Try.prog 117 0 = some 0 := by kernel_rfl
theorem fd117_1 : fldB Try.prog 117 1 = some 1 := by kernel_rfl
theorem fd121_0 : fldB Try.prog 121 0 = some 0 := by kernel_rfl
theorem fd121_1 : fldB Try.prog 121 1 = some 1 := by kernel_rfl
theorem fd140_0 : fldB Try.prog 140 0 = some 0 := by kernel_rfl
theorem fd24_0 : fldB Try.prog 24 0 = some 0 := by kernel_rfl
theorem fd24_1 : fldB Try.prog 24 1 = some 1 := by kernel_rfl
theorem fd28_0 : fldB Try.prog 28 0 = some 0 := by kernel_rfl
theorem fd28_1 : fldB Try.prog 28 1 = some 1 := by kernel_rfl
theorem fd43_0 : fldB Try.prog 43 0 = some 0 := by kernel_rfl
theorem fd43_1 : fldB Try.prog 43 1 = some 1 := by kernel_rfl
theorem fd46_0 : fldB Try.prog 46 0 = some 0 := by kernel_rfl
theorem fd46_1 : fldB Try.prog 46 1 = some 1 := by kernel_rfl
theorem fd46_2 : fldB Try.prog 46 2 = some 2 := by kernel_rfl
theorem fd46_3 : fldB Try.prog 46 3 = some 3 := by kernel_rfl
theorem fd46_4 : fldB Try.prog 46 4 = some 4 := by kernel_rfl
theorem fd72_0 : fldB Try.prog 72 0 = some 0 := by kernel_rfl
theorem fd72_1 : fldB Try.prog 72 1 = some 2 := by kernel_rfl
theorem fd72_2 : fldB Try.prog 72 2 = some 3 := by kernel_rfl
theorem fd72_3 : fldB Try.prog 72 3 = some 4 := by kernel_rfl
theorem fd77_0 : fldB Try.prog 77 0 = some 0 := by kernel_rfl
theorem fd77_1 : fldB Try.prog 77 1 = some 1 := by kernel_rfl
theorem fl117 : (Try.prog.fieldsOf 117).toList.length = 2 := by kernel_rfl
theorem in117 : intsB Try.prog 117 = true := by kernel_rfl
theorem in43 : intsB Try.prog 43 = true := by kernel_rfl
theorem mixedO : Try.prog.follows .mixedOrders = true := by kernel_rfl
theorem mp114 : Try.prog.underlying 114 = some (.map 117 4) := by kernel_rfl
theorem na114 : naB Try.prog 114 = true := by kernel_rfl
theorem na115 : naB Try.prog 115 = true := by kernel_rfl
theorem na138 : naB Try.prog 138 = true := by kernel_rfl
theorem na22 : naB Try.prog 22 = true := by kernel_rfl
theorem na25 : naB Try.prog 25 = true := by kernel_rfl
theorem na26 : naB Try.prog 26 = true := by kernel_rfl
theorem na3 : naB Try.prog 3 = true := by kernel_rfl
theorem na4 : naB Try.prog 4 = true := by kernel_rfl
theorem na44 : naB Try.prog 44 = true := by kernel_rfl
theorem na70 : naB Try.prog 70 = true := by kernel_rfl
theorem na79 : naB Try.prog 79 = true := by kernel_rfl
theorem sl22 : slB Try.prog 22 = some (72, 5, 56) := by kernel_rfl
theorem sl25 : slB Try.prog 25 = some (3, 1, 8) := by kernel_rfl
theorem sl26 : slB Try.prog 26 = some (25, 1, 24) := by kernel_rfl
theorem sl38 : slB Try.prog 38 = some (43, 2, 16) := by kernel_rfl
theorem sl44 : slB Try.prog 44 = some (109, 4, 32) := by kernel_rfl
theorem sl70 : slB Try.prog 70 = some (77, 3, 24) := by kernel_rfl
theorem sl79 : slB Try.prog 79 = some (4, 1, 1) := by kernel_rfl
theorem sz104 : szB Try.prog 104 = some 3 := by kernel_rfl
theorem sz109 : szB Try.prog 109 = some 4 := by kernel_rfl
theorem sz111 : szB Try.prog 111 = some 6 := by kernel_rfl
theorem sz114 : szB Try.prog 114 = some 1 := by kernel_rfl
theorem sz115 : szB Try.prog 115 = some 1 := by kernel_rfl
theorem sz121 : szB Try.prog 121 = some 2 := by kernel_rfl
theorem sz138 : szB Try.prog 138 = some 1 := by kernel_rfl
theorem sz22 : szB Try.prog 22 = some 1 := by kernel_rfl
theorem sz24 : szB Try.prog 24 = some 2 := by kernel_rfl
theorem sz25 : szB Try.prog 25 = some 1 := by kernel_rfl
theorem sz26 : szB Try.prog 26 = some 1 := by kernel_rfl
theorem sz28 : szB Try.prog 28 = some 2 := by kernel_rfl
theorem sz3 : szB Try.prog 3 = some 1 := by kernel_rfl
theorem sz4 : szB Try.prog 4 = some 1 := by kernel_rfl
theorem sz43 : szB Try.prog 43 = some 2 := by kernel_rfl
theorem sz44 : szB Try.prog 44 = some 1 := by kernel_rfl
theorem sz46 : szB Try.prog 46 = some 5 := by kernel_rfl
theorem sz70 : szB Try.prog 70 = some 1 := by kernel_rfl
theorem sz72 : szB Try.prog 72 = some 5 := by kernel_rfl
theorem sz77 : szB Try.prog 77 = some 3 := by kernel_rfl
theorem sz79 : szB Try.prog 79 = some 1 := by kernel_rfl
theorem zi4 : (Try.prog.info? 4).bind (·.zero) = some (vvB false) := by kernel_rfl
theorem zr3 : (Try.prog.info? 3).bind (fun i => i.zero.map (fun v => v.cells.toList)) = some [.int .i64 0] := by kernel_rfl
theorem zr4 : (Try.prog.info? 4).bind (fun i => i.zero.map (fun v => v.cells.toList)) = some [.bool false] := by kernel_rfl
end Go.Proofs.Ytgplafckddpnkaa
