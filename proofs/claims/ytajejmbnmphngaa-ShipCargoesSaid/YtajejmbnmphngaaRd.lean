/-
  How the structures lie in memory; closed facts on the program (printed by a program of ours).
-/
import Derived.Test.YtajejmbnmphngaaFn
import Derived.Test.YtajejmbnmphngaaProg
namespace Go.Proofs.Ytajejmbnmphngaa
open Go.RowKit
set_option linter.unusedVariables false

def RTSpan : Gm → List Value → TSpan → Prop := fun _ cs x => cs = [.int .i64 x.Low, .int .i64 x.High]
theorem RTSpan_mono : Mono RTSpan := fun _ _ _ _ _ h => h
theorem RTSpan_one : One RTSpan := fun _ _ _ h => by unfold RTSpan at h; subst h; exact one_all rfl
def RTShipPass : Gm → List Value → TShipPass → Prop := fun G cs x => ∃ (a0 : Option Addr) (n0 c0 : Nat) (a1 : Option Addr) (n1 c1 : Nat), cs = [.slice a0 n0 c0, .int .i64 x.Depth, .int .i64 x.Draft, .slice a1 n1 c1, .int .i64 x.Light.Low, .int .i64 x.Light.High] ∧ RSl RInt 1 G a0 n0 c0 x.Tides ∧ RSl RTSpan 2 G a1 n1 c1 x.Swell
theorem RTShipPass_mono : Mono RTShipPass := fun _ _ _ _ hle ⟨a0, n0, c0, a1, n1, c1, h, h0, h1⟩ => ⟨a0, n0, c0, a1, n1, c1, h, h0.mono RInt_mono hle, h1.mono RTSpan_mono hle⟩
theorem RTShipPass_one : One RTShipPass := fun _ _ _ ⟨_, _, _, _, _, _, h, _, _⟩ => by subst h; exact one_all rfl
def RTPass : Gm → List Value → TPass → Prop := fun G cs x => ∃ (a0 : Option Addr) (n0 c0 : Nat) (a1 : Option Addr) (n1 c1 : Nat), cs = [.slice a0 n0 c0, .int .i64 x.ShipPass.Depth, .int .i64 x.ShipPass.Draft, .slice a1 n1 c1, .int .i64 x.ShipPass.Light.Low, .int .i64 x.ShipPass.Light.High, .int .i64 x.swell] ∧ RSl RInt 1 G a0 n0 c0 x.ShipPass.Tides ∧ RSl RTSpan 2 G a1 n1 c1 x.ShipPass.Swell
theorem RTPass_mono : Mono RTPass := fun _ _ _ _ hle ⟨a0, n0, c0, a1, n1, c1, h, h0, h1⟩ => ⟨a0, n0, c0, a1, n1, c1, h, h0.mono RInt_mono hle, h1.mono RTSpan_mono hle⟩
theorem RTPass_one : One RTPass := fun _ _ _ ⟨_, _, _, _, _, _, h, _, _⟩ => by subst h; exact one_all rfl
def RTShipCall : Gm → List Value → TShipCall → Prop := fun _ cs x => cs = [.int .i64 x.Day, .int .i64 x.Hour]
theorem RTShipCall_mono : Mono RTShipCall := fun _ _ _ _ _ h => h
theorem RTShipCall_one : One RTShipCall := fun _ _ _ h => by unfold RTShipCall at h; subst h; exact one_all rfl
def RTSpot : Gm → List Value → TSpot → Prop := fun _ cs x => cs = [.int .i64 x.day, .int .i64 x.left]
theorem RTSpot_mono : Mono RTSpot := fun _ _ _ _ _ h => h
theorem RTSpot_one : One RTSpot := fun _ _ _ h => by unfold RTSpot at h; subst h; exact one_all rfl
def RTShipLot : Gm → List Value → TShipLot → Prop := fun G cs x => ∃ (a0 : Option Addr) (n0 c0 : Nat), cs = [.slice a0 n0 c0, .int .i64 x.Weight, .int .i64 x.Cost] ∧ RSl RTSpan 2 G a0 n0 c0 x.Goods
theorem RTShipLot_mono : Mono RTShipLot := fun _ _ _ _ hle ⟨a0, n0, c0, h, h0⟩ => ⟨a0, n0, c0, h, h0.mono RTSpan_mono hle⟩
theorem RTShipLot_one : One RTShipLot := fun _ _ _ ⟨_, _, _, h, _⟩ => by subst h; exact one_all rfl
def RTShipStore : Gm → List Value → TShipStore → Prop := fun G cs x => ∃ (a0 : Option Addr) (n0 c0 : Nat) (a1 : Option Addr) (n1 c1 : Nat) (a2 : Option Addr) (n2 c2 : Nat), cs = [.slice a0 n0 c0, .slice a1 n1 c1, .int .i64 x.Gap.Low, .int .i64 x.Gap.High, .slice a2 n2 c2, .int .i64 x.Hold] ∧ RSl RInt 1 G a0 n0 c0 x.Stock ∧ RSl RTSpan 2 G a1 n1 c1 x.Use ∧ RSl RTShipLot 3 G a2 n2 c2 x.Lots
theorem RTShipStore_mono : Mono RTShipStore := fun _ _ _ _ hle ⟨a0, n0, c0, a1, n1, c1, a2, n2, c2, h, h0, h1, h2⟩ => ⟨a0, n0, c0, a1, n1, c1, a2, n2, c2, h, h0.mono RInt_mono hle, h1.mono RTSpan_mono hle, h2.mono RTShipLot_mono hle⟩
theorem RTShipStore_one : One RTShipStore := fun _ _ _ ⟨_, _, _, _, _, _, _, _, _, h, _, _, _⟩ => by subst h; exact one_all rfl
def RTShipTruth : Gm → List Value → TShipTruth → Prop := fun G cs x => ∃ (a0 : Option Addr) (n0 c0 : Nat) (a1 : Option Addr) (n1 c1 : Nat) (a2 : Option Addr) (n2 c2 : Nat), cs = [.slice a0 n0 c0, .slice a1 n1 c1, .slice a2 n2 c2] ∧ RSl RInt 1 G a0 n0 c0 x.Uses ∧ RSl RInt 1 G a1 n1 c1 x.Gaps ∧ RSl (RSlice RInt 1) 1 G a2 n2 c2 x.Goods
theorem RTShipTruth_mono : Mono RTShipTruth := fun _ _ _ _ hle ⟨a0, n0, c0, a1, n1, c1, a2, n2, c2, h, h0, h1, h2⟩ => ⟨a0, n0, c0, a1, n1, c1, a2, n2, c2, h, h0.mono RInt_mono hle, h1.mono RInt_mono hle, h2.mono (RSlice_mono RInt_mono) hle⟩
theorem RTShipTruth_one : One RTShipTruth := fun _ _ _ ⟨_, _, _, _, _, _, _, _, _, h, _, _, _⟩ => by subst h; exact one_all rfl
def RTStore : Gm → List Value → TStore → Prop := fun G cs x => ∃ (a0 : Option Addr) (n0 c0 : Nat) (a1 : Option Addr) (n1 c1 : Nat) (a2 : Option Addr) (n2 c2 : Nat) (a3 : Option Addr) (n3 c3 : Nat) (a4 : Option Addr) (n4 c4 : Nat) (a5 : Option Addr) (n5 c5 : Nat) (a6 : Option Addr) (n6 c6 : Nat), cs = [.slice a0 n0 c0, .slice a1 n1 c1, .int .i64 x.ShipStore.Gap.Low, .int .i64 x.ShipStore.Gap.High, .slice a2 n2 c2, .int .i64 x.ShipStore.Hold, .slice a3 n3 c3, .slice a4 n4 c4, .slice a5 n5 c5, .slice a6 n6 c6] ∧ RSl RInt 1 G a0 n0 c0 x.ShipStore.Stock ∧ RSl RTSpan 2 G a1 n1 c1 x.ShipStore.Use ∧ RSl RTShipLot 3 G a2 n2 c2 x.ShipStore.Lots ∧ RSl RInt 1 G a3 n3 c3 x.load ∧ RSl RInt 1 G a4 n4 c4 x.truth.Uses ∧ RSl RInt 1 G a5 n5 c5 x.truth.Gaps ∧ RSl (RSlice RInt 1) 1 G a6 n6 c6 x.truth.Goods
theorem RTStore_mono : Mono RTStore := fun _ _ _ _ hle ⟨a0, n0, c0, a1, n1, c1, a2, n2, c2, a3, n3, c3, a4, n4, c4, a5, n5, c5, a6, n6, c6, h, h0, h1, h2, h3, h4, h5, h6⟩ => ⟨a0, n0, c0, a1, n1, c1, a2, n2, c2, a3, n3, c3, a4, n4, c4, a5, n5, c5, a6, n6, c6, h, h0.mono RInt_mono hle, h1.mono RTSpan_mono hle, h2.mono RTShipLot_mono hle, h3.mono RInt_mono hle, h4.mono RInt_mono hle, h5.mono RInt_mono hle, h6.mono (RSlice_mono RInt_mono) hle⟩
theorem RTStore_one : One RTStore := fun _ _ _ ⟨_, _, _, _, _, _, _, _, _, _, _, _, _, _, _, _, _, _, _, _, _, h, _, _, _, _, _, _, _⟩ => by subst h; exact one_all rfl
def RTShipWant : Gm → List Value → TShipWant → Prop := fun _ cs x => cs = [.int .i64 x.May, .int .i64 x.Must]
theorem RTShipWant_mono : Mono RTShipWant := fun _ _ _ _ _ h => h
theorem RTShipWant_one : One RTShipWant := fun _ _ _ h => by unfold RTShipWant at h; subst h; exact one_all rfl
def RTChoice : Gm → List Value → TChoice → Prop := fun G cs x => ∃ (a0 : Option Addr) (n0 c0 : Nat), cs = [.int .i64 x.cost, .slice a0 n0 c0] ∧ RSl RInt 1 G a0 n0 c0 x.list
theorem RTChoice_mono : Mono RTChoice := fun _ _ _ _ hle ⟨a0, n0, c0, h, h0⟩ => ⟨a0, n0, c0, h, h0.mono RInt_mono hle⟩
theorem RTChoice_one : One RTChoice := fun _ _ _ ⟨_, _, _, h, _⟩ => by subst h; exact one_all rfl
def FnOk34 (G : Gm) (k : Nat) (fi ca : List Value) (g : (TSpan → Option Bool)) : Prop := callB Try.prog k = true ∧ ∀ (G1 : Gm) (w : World), Gle G G1 → Sat G1 w → ∀ (z0 : TSpan) (r : Bool), g z0 = some r → Calls Try.prog k (fi ++ ([.agg #[.int .i64 z0.Low, .int .i64 z0.High]] : List Value) ++ ca).toArray w (RetV w (.bool r))
theorem FnOk34.mono {G G' : Gm} {k : Nat} {fi ca : List Value} {g : (TSpan → Option Bool)} (h : FnOk34 G k fi ca g) (hle : Gle G G') : FnOk34 G' k fi ca g := ⟨h.1, fun G1 w hl hw => h.2 G1 w (hle.trans hl) hw⟩
def FnOk35 (G : Gm) (k : Nat) (fi ca : List Value) (g : (Int → Option Bool)) : Prop := callB Try.prog k = true ∧ ∀ (G1 : Gm) (w : World), Gle G G1 → Sat G1 w → ∀ (z0 : Int) (r : Bool), g z0 = some r → Calls Try.prog k (fi ++ ([.int .i64 z0] : List Value) ++ ca).toArray w (RetV w (.bool r))
theorem FnOk35.mono {G G' : Gm} {k : Nat} {fi ca : List Value} {g : (Int → Option Bool)} (h : FnOk35 G k fi ca g) (hle : Gle G G') : FnOk35 G' k fi ca g := ⟨h.1, fun G1 w hl hw => h.2 G1 w (hle.trans hl) hw⟩
def FnOk125 (G : Gm) (k : Nat) (fi ca : List Value) (g : (TShipCall → Option Bool)) : Prop := callB Try.prog k = true ∧ ∀ (G1 : Gm) (w : World), Gle G G1 → Sat G1 w → ∀ (z0 : TShipCall) (r : Bool), g z0 = some r → Calls Try.prog k (fi ++ ([.agg #[.int .i64 z0.Day, .int .i64 z0.Hour]] : List Value) ++ ca).toArray w (RetV w (.bool r))
theorem FnOk125.mono {G G' : Gm} {k : Nat} {fi ca : List Value} {g : (TShipCall → Option Bool)} (h : FnOk125 G k fi ca g) (hle : Gle G G') : FnOk125 G' k fi ca g := ⟨h.1, fun G1 w hl hw => h.2 G1 w (hle.trans hl) hw⟩
def FnOk130 (G : Gm) (k : Nat) (fi ca : List Value) (g : (TShipLot → Option Bool)) : Prop := callB Try.prog k = true ∧ ∀ (G1 : Gm) (w : World), Gle G G1 → Sat G1 w → ∀ (z0 : TShipLot) (a0_0 : Option Addr) (n0_0 c0_0 : Nat) (r : Bool), RSl RTSpan 2 G1 a0_0 n0_0 c0_0 z0.Goods → g z0 = some r → Calls Try.prog k (fi ++ ([.agg #[.slice a0_0 n0_0 c0_0, .int .i64 z0.Weight, .int .i64 z0.Cost]] : List Value) ++ ca).toArray w (RetV w (.bool r))
theorem FnOk130.mono {G G' : Gm} {k : Nat} {fi ca : List Value} {g : (TShipLot → Option Bool)} (h : FnOk130 G k fi ca g) (hle : Gle G G') : FnOk130 G' k fi ca g := ⟨h.1, fun G1 w hl hw => h.2 G1 w (hle.trans hl) hw⟩
def FnOk135 (G : Gm) (k : Nat) (fi ca : List Value) (g : (TSpan → Option Int)) : Prop := callB Try.prog k = true ∧ ∀ (G1 : Gm) (w : World), Gle G G1 → Sat G1 w → ∀ (z0 : TSpan) (r : Int), g z0 = some r → Calls Try.prog k (fi ++ ([.agg #[.int .i64 z0.Low, .int .i64 z0.High]] : List Value) ++ ca).toArray w (RetV w (.int .i64 r))
theorem FnOk135.mono {G G' : Gm} {k : Nat} {fi ca : List Value} {g : (TSpan → Option Int)} (h : FnOk135 G k fi ca g) (hle : Gle G G') : FnOk135 G' k fi ca g := ⟨h.1, fun G1 w hl hw => h.2 G1 w (hle.trans hl) hw⟩
theorem ag106 : agB Try.prog 106 = some 2 := by kernel_rfl
theorem ag111 : agB Try.prog 111 = some 3 := by kernel_rfl
theorem ag120 : agB Try.prog 120 = some 2 := by kernel_rfl
theorem ag124 : agB Try.prog 124 = some 7 := by kernel_rfl
theorem ag25 : agB Try.prog 25 = some 2 := by kernel_rfl
theorem ag27 : agB Try.prog 27 = some 6 := by kernel_rfl
theorem ag42 : agB Try.prog 42 = some 6 := by kernel_rfl
theorem ag45 : agB Try.prog 45 = some 3 := by kernel_rfl
theorem ag59 : agB Try.prog 59 = some 2 := by kernel_rfl
theorem ag82 : agB Try.prog 82 = some 2 := by kernel_rfl
theorem cb100 : callB Try.prog 100 = true := by kernel_rfl
theorem cb101 : callB Try.prog 101 = true := by kernel_rfl
theorem cb102 : callB Try.prog 102 = true := by kernel_rfl
theorem cb103 : callB Try.prog 103 = true := by kernel_rfl
theorem cb104 : callB Try.prog 104 = true := by kernel_rfl
theorem cb105 : callB Try.prog 105 = true := by kernel_rfl
theorem cb106 : callB Try.prog 106 = true := by kernel_rfl
theorem cb107 : callB Try.prog 107 = true := by kernel_rfl
theorem cb108 : callB Try.prog 108 = true := by kernel_rfl
theorem cb109 : callB Try.prog 109 = true := by kernel_rfl
theorem cb110 : callB Try.prog 110 = true := by kernel_rfl
theorem cb111 : callB Try.prog 111 = true := by kernel_rfl
theorem cb112 : callB Try.prog 112 = true := by kernel_rfl
theorem cb16 : callB Try.prog 16 = true := by kernel_rfl
theorem cb17 : callB Try.prog 17 = true := by kernel_rfl
theorem cb18 : callB Try.prog 18 = true := by kernel_rfl
theorem cb19 : callB Try.prog 19 = true := by kernel_rfl
theorem cb20 : callB Try.prog 20 = true := by kernel_rfl
theorem cb21 : callB Try.prog 21 = true := by kernel_rfl
theorem cb22 : callB Try.prog 22 = true := by kernel_rfl
theorem cb23 : callB Try.prog 23 = true := by kernel_rfl
theorem cb24 : callB Try.prog 24 = true := by kernel_rfl
theorem cb25 : callB Try.prog 25 = true := by kernel_rfl
theorem cb26 : callB Try.prog 26 = true := by kernel_rfl
theorem cb27 : callB Try.prog 27 = true := by kernel_rfl
theorem cb28 : callB Try.prog 28 = true := by kernel_rfl
theorem cb29 : callB Try.prog 29 = true := by kernel_rfl
theorem cb30 : callB Try.prog 30 = true := by kernel_rfl
theorem cb31 : callB Try.prog 31 = true := by kernel_rfl
theorem cb32 : callB Try.prog 32 = true := by kernel_rfl
theorem cb33 : callB Try.prog 33 = true := by kernel_rfl
theorem cb34 : callB Try.prog 34 = true := by kernel_rfl
theorem cb35 : callB Try.prog 35 = true := by kernel_rfl
theorem cb36 : callB Try.prog 36 = true := by kernel_rfl
theorem cb37 : callB Try.prog 37 = true := by kernel_rfl
theorem cb38 : callB Try.prog 38 = true := by kernel_rfl
theorem cb39 : callB Try.prog 39 = true := by kernel_rfl
theorem cb40 : callB Try.prog 40 = true := by kernel_rfl
theorem cb41 : callB Try.prog 41 = true := by kernel_rfl
theorem cb42 : callB Try.prog 42 = true := by kernel_rfl
theorem cb43 : callB Try.prog 43 = true := by kernel_rfl
theorem cb44 : callB Try.prog 44 = true := by kernel_rfl
theorem cb45 : callB Try.prog 45 = true := by kernel_rfl
theorem cb46 : callB Try.prog 46 = true := by kernel_rfl
theorem cb47 : callB Try.prog 47 = true := by kernel_rfl
theorem cb48 : callB Try.prog 48 = true := by kernel_rfl
theorem cb49 : callB Try.prog 49 = true := by kernel_rfl
theorem cb50 : callB Try.prog 50 = true := by kernel_rfl
theorem cb51 : callB Try.prog 51 = true := by kernel_rfl
theorem cb52 : callB Try.prog 52 = true := by kernel_rfl
theorem cb53 : callB Try.prog 53 = true := by kernel_rfl
theorem cb54 : callB Try.prog 54 = true := by kernel_rfl
theorem cb55 : callB Try.prog 55 = true := by kernel_rfl
theorem cb56 : callB Try.prog 56 = true := by kernel_rfl
theorem cb57 : callB Try.prog 57 = true := by kernel_rfl
theorem cb58 : callB Try.prog 58 = true := by kernel_rfl
theorem cb59 : callB Try.prog 59 = true := by kernel_rfl
theorem cb60 : callB Try.prog 60 = true := by kernel_rfl
theorem cb61 : callB Try.prog 61 = true := by kernel_rfl
theorem cb62 : callB Try.prog 62 = true := by kernel_rfl
theorem cb63 : callB Try.prog 63 = true := by kernel_rfl
theorem cb64 : callB Try.prog 64 = true := by kernel_rfl
theorem cb65 : callB Try.prog 65 = true := by kernel_rfl
theorem cb66 : callB Try.prog 66 = true := by kernel_rfl
theorem cb67 : callB Try.prog 67 = true := by kernel_rfl
theorem cb68 : callB Try.prog 68 = true := by kernel_rfl
theorem cb69 : callB Try.prog 69 = true := by kernel_rfl
theorem cb70 : callB Try.prog 70 = true := by kernel_rfl
theorem cb71 : callB Try.prog 71 = true := by kernel_rfl
theorem cb72 : callB Try.prog 72 = true := by kernel_rfl
theorem cb73 : callB Try.prog 73 = true := by kernel_rfl
theorem cb74 : callB Try.prog 74 = true := by kernel_rfl
theorem cb75 : callB Try.prog 75 = true := by kernel_rfl
theorem cb76 : callB Try.prog 76 = true := by kernel_rfl
theorem cb77 : callB Try.prog 77 = true := by kernel_rfl
theorem cb78 : callB Try.prog 78 = true := by kernel_rfl
theorem cb79 : callB Try.prog 79 = true := by kernel_rfl
theorem cb80 : callB Try.prog 80 = true := by kernel_rfl
theorem cb81 : callB Try.prog 81 = true := by kernel_rfl
theorem cb82 : callB Try.prog 82 = true := by kernel_rfl
theorem cb83 : callB Try.prog 83 = true := by kernel_rfl
theorem cb84 : callB Try.prog 84 = true := by kernel_rfl
theorem cb85 : callB Try.prog 85 = true := by kernel_rfl
theorem cb86 : callB Try.prog 86 = true := by kernel_rfl
theorem cb87 : callB Try.prog 87 = true := by kernel_rfl
theorem cb88 : callB Try.prog 88 = true := by kernel_rfl
theorem cb89 : callB Try.prog 89 = true := by kernel_rfl
theorem cb90 : callB Try.prog 90 = true := by kernel_rfl
theorem cb91 : callB Try.prog 91 = true := by kernel_rfl
theorem cb92 : callB Try.prog 92 = true := by kernel_rfl
theorem cb93 : callB Try.prog 93 = true := by kernel_rfl
theorem cb94 : callB Try.prog 94 = true := by kernel_rfl
theorem cb95 : callB Try.prog 95 = true := by kernel_rfl
theorem cb96 : callB Try.prog 96 = true := by kernel_rfl
theorem cb97 : callB Try.prog 97 = true := by kernel_rfl
theorem cb98 : callB Try.prog 98 = true := by kernel_rfl
theorem cb99 : callB Try.prog 99 = true := by kernel_rfl
theorem fd106_0 : fldB Try.prog 106 0 = some 0 := by kernel_rfl
theorem fd106_1 : fldB Try.prog 106 1 = some 1 := by kernel_rfl
theorem fd111_0 : fldB Try.prog 111 0 = some 0 := by kernel_rfl
theorem fd111_1 : fldB Try.prog 111 1 = some 1 := by kernel_rfl
theorem fd111_2 : fldB Try.prog 111 2 = some 2 := by kernel_rfl
theorem fd114_0 : fldB Try.prog 114 0 = some 0 := by kernel_rfl
theorem fd114_1 : fldB Try.prog 114 1 = some 6 := by kernel_rfl
theorem fd114_2 : fldB Try.prog 114 2 = some 7 := by kernel_rfl
theorem fd120_0 : fldB Try.prog 120 0 = some 0 := by kernel_rfl
theorem fd120_1 : fldB Try.prog 120 1 = some 1 := by kernel_rfl
theorem fd124_0 : fldB Try.prog 124 0 = some 0 := by kernel_rfl
theorem fd124_1 : fldB Try.prog 124 1 = some 6 := by kernel_rfl
theorem fd25_0 : fldB Try.prog 25 0 = some 0 := by kernel_rfl
theorem fd25_1 : fldB Try.prog 25 1 = some 1 := by kernel_rfl
theorem fd27_0 : fldB Try.prog 27 0 = some 0 := by kernel_rfl
theorem fd27_1 : fldB Try.prog 27 1 = some 1 := by kernel_rfl
theorem fd27_2 : fldB Try.prog 27 2 = some 2 := by kernel_rfl
theorem fd27_3 : fldB Try.prog 27 3 = some 3 := by kernel_rfl
theorem fd27_4 : fldB Try.prog 27 4 = some 4 := by kernel_rfl
theorem fd42_0 : fldB Try.prog 42 0 = some 0 := by kernel_rfl
theorem fd42_1 : fldB Try.prog 42 1 = some 1 := by kernel_rfl
theorem fd42_2 : fldB Try.prog 42 2 = some 2 := by kernel_rfl
theorem fd42_3 : fldB Try.prog 42 3 = some 4 := by kernel_rfl
theorem fd42_4 : fldB Try.prog 42 4 = some 5 := by kernel_rfl
theorem fd45_0 : fldB Try.prog 45 0 = some 0 := by kernel_rfl
theorem fd45_1 : fldB Try.prog 45 1 = some 1 := by kernel_rfl
theorem fd45_2 : fldB Try.prog 45 2 = some 2 := by kernel_rfl
theorem fd59_0 : fldB Try.prog 59 0 = some 0 := by kernel_rfl
theorem fd59_1 : fldB Try.prog 59 1 = some 1 := by kernel_rfl
theorem fd82_0 : fldB Try.prog 82 0 = some 0 := by kernel_rfl
theorem fd82_1 : fldB Try.prog 82 1 = some 1 := by kernel_rfl
theorem fl106 : (Try.prog.fieldsOf 106).toList.length = 2 := by kernel_rfl
theorem in106 : intsB Try.prog 106 = true := by kernel_rfl
theorem in59 : intsB Try.prog 59 = true := by kernel_rfl
theorem in82 : intsB Try.prog 82 = true := by kernel_rfl
theorem mixedO : Try.prog.follows .mixedOrders = true := by kernel_rfl
theorem mp103 : Try.prog.underlying 103 = some (.map 106 4) := by kernel_rfl
theorem na103 : naB Try.prog 103 = true := by kernel_rfl
theorem na104 : naB Try.prog 104 = true := by kernel_rfl
theorem na22 : naB Try.prog 22 = true := by kernel_rfl
theorem na23 : naB Try.prog 23 = true := by kernel_rfl
theorem na3 : naB Try.prog 3 = true := by kernel_rfl
theorem na30 : naB Try.prog 30 = true := by kernel_rfl
theorem na31 : naB Try.prog 31 = true := by kernel_rfl
theorem na4 : naB Try.prog 4 = true := by kernel_rfl
theorem na40 : naB Try.prog 40 = true := by kernel_rfl
theorem na43 : naB Try.prog 43 = true := by kernel_rfl
theorem sl22 : slB Try.prog 22 = some (3, 1, 8) := by kernel_rfl
theorem sl23 : slB Try.prog 23 = some (25, 2, 16) := by kernel_rfl
theorem sl30 : slB Try.prog 30 = some (82, 2, 16) := by kernel_rfl
theorem sl40 : slB Try.prog 40 = some (111, 3, 40) := by kernel_rfl
theorem sl43 : slB Try.prog 43 = some (22, 1, 24) := by kernel_rfl
theorem sl55 : slB Try.prog 55 = some (59, 2, 16) := by kernel_rfl
theorem sz103 : szB Try.prog 103 = some 1 := by kernel_rfl
theorem sz104 : szB Try.prog 104 = some 1 := by kernel_rfl
theorem sz111 : szB Try.prog 111 = some 3 := by kernel_rfl
theorem sz120 : szB Try.prog 120 = some 2 := by kernel_rfl
theorem sz137 : szB Try.prog 137 = some 1 := by kernel_rfl
theorem sz22 : szB Try.prog 22 = some 1 := by kernel_rfl
theorem sz23 : szB Try.prog 23 = some 1 := by kernel_rfl
theorem sz25 : szB Try.prog 25 = some 2 := by kernel_rfl
theorem sz27 : szB Try.prog 27 = some 6 := by kernel_rfl
theorem sz3 : szB Try.prog 3 = some 1 := by kernel_rfl
theorem sz30 : szB Try.prog 30 = some 1 := by kernel_rfl
theorem sz31 : szB Try.prog 31 = some 1 := by kernel_rfl
theorem sz4 : szB Try.prog 4 = some 1 := by kernel_rfl
theorem sz42 : szB Try.prog 42 = some 6 := by kernel_rfl
theorem sz43 : szB Try.prog 43 = some 1 := by kernel_rfl
theorem sz45 : szB Try.prog 45 = some 3 := by kernel_rfl
theorem sz82 : szB Try.prog 82 = some 2 := by kernel_rfl
theorem zi4 : (Try.prog.info? 4).bind (·.zero) = some (vvB false) := by kernel_rfl
end Go.Proofs.Ytajejmbnmphngaa
