/-
  How the structures lie in memory; closed facts on the program (printed by a program of ours).
-/
import Derived.Test.YtdgkjgljkgjjiaaGreatDoorFn
import Derived.Test.YtdgkjgljkgjjiaaGreatDoorBaseW
import Derived.Test.YtdgkjgljkgjjiaaGreatDoorProg
namespace Go.Proofs.YtdgkjgljkgjjiaaGreatDoor
open Go.RowKit
set_option linter.unusedVariables false

def RTSpan : Gm → List Value → TSpan → Prop := fun _ cs x => cs = [.int .i64 x.Low, .int .i64 x.High]
theorem RTSpan_mono : Mono RTSpan := fun _ _ _ _ _ h => h
theorem RTSpan_one : One RTSpan := fun _ _ _ h => by unfold RTSpan at h; subst h; exact one_all rfl
def RTLensMonth : Gm → List Value → TLensMonth → Prop := fun _ cs x => cs = [.int .i64 x.Wet.Low, .int .i64 x.Wet.High, .int .i64 x.Dry.Low, .int .i64 x.Dry.High, .int .i64 x.Need.Low, .int .i64 x.Need.High]
theorem RTLensMonth_mono : Mono RTLensMonth := fun _ _ _ _ _ h => h
theorem RTLensMonth_one : One RTLensMonth := fun _ _ _ h => by unfold RTLensMonth at h; subst h; exact one_all rfl
def RTLensIslet : Gm → List Value → TLensIslet → Prop := fun G cs x => ∃ (a0 : Option Addr) (n0 c0 : Nat) (a1 : Option Addr) (n1 c1 : Nat), cs = [.int .i64 x.Cap, .int .i64 x.Start.Low, .int .i64 x.Start.High, .int .i64 x.Roof, .int .i64 x.Sand, .int .i64 x.Soak.Low, .int .i64 x.Soak.High, .int .i64 x.Leak.Low, .int .i64 x.Leak.High, .int .i64 x.Pump, .int .i64 x.Keep, .int .i64 x.Size, .slice a0 n0 c0, .slice a1 n1 c1, .int .i64 x.Most, .int .i64 x.Row] ∧ RSl RInt 1 G a0 n0 c0 x.Wells ∧ RSl RTLensMonth 6 G a1 n1 c1 x.Months
def RTLandPerson : Gm → List Value → TLandPerson → Prop := fun _ cs x => cs = [.int .i64 x.Mother, .int .i64 x.Adopted]
theorem RTLandPerson_mono : Mono RTLandPerson := fun _ _ _ _ _ h => h
theorem RTLandPerson_one : One RTLandPerson := fun _ _ _ h => by unfold RTLandPerson at h; subst h; exact one_all rfl
def RTLandEvent : Gm → List Value → TLandEvent → Prop := fun _ cs x => cs = [.int .i64 x.Strip, .int .i64 x.Holder]
theorem RTLandEvent_mono : Mono RTLandEvent := fun _ _ _ _ _ h => h
theorem RTLandEvent_one : One RTLandEvent := fun _ _ _ h => by unfold RTLandEvent at h; subst h; exact one_all rfl
def RTLandMemory : Gm → List Value → TLandMemory → Prop := fun _ cs x => cs = [.int .i64 x.From, .int .i64 x.To, .int .i64 x.Years.Low, .int .i64 x.Years.High]
theorem RTLandMemory_mono : Mono RTLandMemory := fun _ _ _ _ _ h => h
theorem RTLandMemory_one : One RTLandMemory := fun _ _ _ h => by unfold RTLandMemory at h; subst h; exact one_all rfl
def RTLandBook : Gm → List Value → TLandBook → Prop := fun G cs x => ∃ (a0 : Option Addr) (n0 c0 : Nat) (a1 : Option Addr) (n1 c1 : Nat) (a2 : Option Addr) (n2 c2 : Nat), cs = [.slice a0 n0 c0, .slice a1 n1 c1, .slice a2 n2 c2] ∧ RSl RTLandPerson 2 G a0 n0 c0 x.People ∧ RSl RTLandEvent 2 G a1 n1 c1 x.Events ∧ RSl RTLandMemory 4 G a2 n2 c2 x.Memories
def RTReefPlace : Gm → List Value → TReefPlace → Prop := fun _ cs x => cs = [.int .i64 x.Count, .int .i64 x.Room, .int .i64 x.Grow.Low, .int .i64 x.Grow.High, .int .i64 x.Drift, .int .i64 x.Into, .int .i64 x.Open.Low, .int .i64 x.Open.High, .int .i64 x.Shut.Low, .int .i64 x.Shut.High, .int .i64 x.Goal, .int .i64 x.Worth]
theorem RTReefPlace_mono : Mono RTReefPlace := fun _ _ _ _ _ h => h
theorem RTReefPlace_one : One RTReefPlace := fun _ _ _ h => by unfold RTReefPlace at h; subst h; exact one_all rfl
def RTReef : Gm → List Value → TReef → Prop := fun G cs x => ∃ (a0 : Option Addr) (n0 c0 : Nat), cs = [.slice a0 n0 c0, .int .i64 x.Miss, .int .i64 x.Seasons] ∧ RSl RTReefPlace 12 G a0 n0 c0 x.Places
def RTBaneTrip : Gm → List Value → TBaneTrip → Prop := fun _ cs x => cs = [.int .i64 x.Day, .int .i64 x.From, .int .i64 x.To, .int .i64 x.Cost]
theorem RTBaneTrip_mono : Mono RTBaneTrip := fun _ _ _ _ _ h => h
theorem RTBaneTrip_one : One RTBaneTrip := fun _ _ _ h => by unfold RTBaneTrip at h; subst h; exact one_all rfl
def RTBaneSea : Gm → List Value → TBaneSea → Prop := fun G cs x => ∃ (a0 : Option Addr) (n0 c0 : Nat) (a1 : Option Addr) (n1 c1 : Nat) (a2 : Option Addr) (n2 c2 : Nat), cs = [.int .i64 x.Islets, .slice a0 n0 c0, .slice a1 n1 c1, .slice a2 n2 c2, .int .i64 x.Wait] ∧ RSl RInt 1 G a0 n0 c0 x.Infested ∧ RSl RInt 1 G a1 n1 c1 x.Clean ∧ RSl RTBaneTrip 4 G a2 n2 c2 x.Trips
def RTShipLot : Gm → List Value → TShipLot → Prop := fun G cs x => ∃ (a0 : Option Addr) (n0 c0 : Nat), cs = [.slice a0 n0 c0, .int .i64 x.Weight, .int .i64 x.Cost] ∧ RSl RTSpan 2 G a0 n0 c0 x.Goods
theorem RTShipLot_mono : Mono RTShipLot := fun _ _ _ _ hle ⟨a0, n0, c0, h, h0⟩ => ⟨a0, n0, c0, h, h0.mono RTSpan_mono hle⟩
theorem RTShipLot_one : One RTShipLot := fun _ _ _ ⟨_, _, _, h, _⟩ => by subst h; exact one_all rfl
def RTShipStore : Gm → List Value → TShipStore → Prop := fun G cs x => ∃ (a0 : Option Addr) (n0 c0 : Nat) (a1 : Option Addr) (n1 c1 : Nat) (a2 : Option Addr) (n2 c2 : Nat), cs = [.slice a0 n0 c0, .slice a1 n1 c1, .int .i64 x.Gap.Low, .int .i64 x.Gap.High, .slice a2 n2 c2, .int .i64 x.Hold] ∧ RSl RInt 1 G a0 n0 c0 x.Stock ∧ RSl RTSpan 2 G a1 n1 c1 x.Use ∧ RSl RTShipLot 3 G a2 n2 c2 x.Lots
def RTCellLoad : Gm → List Value → TCellLoad → Prop := fun _ cs x => cs = [.int .i64 x.Need, .int .i64 x.Keep, .bool x.Must]
theorem RTCellLoad_mono : Mono RTCellLoad := fun _ _ _ _ _ h => h
theorem RTCellLoad_one : One RTCellLoad := fun _ _ _ h => by unfold RTCellLoad at h; subst h; exact one_all rfl
def RTCellSystem : Gm → List Value → TCellSystem → Prop := fun G cs x => ∃ (a0 : Option Addr) (n0 c0 : Nat), cs = [.int .i64 x.Sunny, .int .i64 x.Cloudy, .int .i64 x.Size, .int .i64 x.Fade, .int .i64 x.Start, .slice a0 n0 c0, .int .i64 x.Days, .int .i64 x.Window, .int .i64 x.Most, .int .i64 x.Panel, .int .i64 x.Battery] ∧ RSl RTCellLoad 3 G a0 n0 c0 x.Loads
def RTFleetSea : Gm → List Value → TFleetSea → Prop := fun G cs x => ∃ (a0 : Option Addr) (n0 c0 : Nat) (a1 : Option Addr) (n1 c1 : Nat) (a2 : Option Addr) (n2 c2 : Nat), cs = [.int .i64 x.Cells, .slice a0 n0 c0, .slice a1 n1 c1, .slice a2 n2 c2, .int .i64 x.Days] ∧ RSl RInt 1 G a0 n0 c0 x.Roads ∧ RSl RInt 1 G a1 n1 c1 x.Zones ∧ RSl RInt 1 G a2 n2 c2 x.Berths
def RTCouncilAtoll : Gm → List Value → TCouncilAtoll → Prop := fun G cs x => ∃ (a0 : Option Addr) (n0 c0 : Nat) (a1 : Option Addr) (n1 c1 : Nat) (a2 : Option Addr) (n2 c2 : Nat) (a3 : Option Addr) (n3 c3 : Nat) (a4 : Option Addr) (n4 c4 : Nat) (a5 : Option Addr) (n5 c5 : Nat) (a6 : Option Addr) (n6 c6 : Nat) (a7 : Option Addr) (n7 c7 : Nat) (a8 : Option Addr) (n8 c8 : Nat) (a9 : Option Addr) (n9 c9 : Nat) (a10 : Option Addr) (n10 c10 : Nat) (a11 : Option Addr) (n11 c11 : Nat) (a12 : Option Addr) (n12 c12 : Nat) (a13 : Option Addr) (n13 c13 : Nat) (a14 : Option Addr) (n14 c14 : Nat) (a15 : Option Addr) (n15 c15 : Nat), cs = [.int .i64 x.Islet.Cap, .int .i64 x.Islet.Start.Low, .int .i64 x.Islet.Start.High, .int .i64 x.Islet.Roof, .int .i64 x.Islet.Sand, .int .i64 x.Islet.Soak.Low, .int .i64 x.Islet.Soak.High, .int .i64 x.Islet.Leak.Low, .int .i64 x.Islet.Leak.High, .int .i64 x.Islet.Pump, .int .i64 x.Islet.Keep, .int .i64 x.Islet.Size, .slice a0 n0 c0, .slice a1 n1 c1, .int .i64 x.Islet.Most, .int .i64 x.Islet.Row, .int .i64 x.Tank, .slice a2 n2 c2, .slice a3 n3 c3, .slice a4 n4 c4, .slice a5 n5 c5, .int .i64 x.Reef.Miss, .int .i64 x.Reef.Seasons, .int .i64 x.Sea.Islets, .slice a6 n6 c6, .slice a7 n7 c7, .slice a8 n8 c8, .int .i64 x.Sea.Wait, .slice a9 n9 c9, .slice a10 n10 c10, .int .i64 x.Store.Gap.Low, .int .i64 x.Store.Gap.High, .slice a11 n11 c11, .int .i64 x.Store.Hold, .int .i64 x.System.Sunny, .int .i64 x.System.Cloudy, .int .i64 x.System.Size, .int .i64 x.System.Fade, .int .i64 x.System.Start, .slice a12 n12 c12, .int .i64 x.System.Days, .int .i64 x.System.Window, .int .i64 x.System.Most, .int .i64 x.System.Panel, .int .i64 x.System.Battery, .int .i64 x.Fishing.Cells, .slice a13 n13 c13, .slice a14 n14 c14, .slice a15 n15 c15, .int .i64 x.Fishing.Days, .int .i64 x.Money] ∧ RSl RInt 1 G a0 n0 c0 x.Islet.Wells ∧ RSl RTLensMonth 6 G a1 n1 c1 x.Islet.Months ∧ RSl RTLandPerson 2 G a2 n2 c2 x.Book.People ∧ RSl RTLandEvent 2 G a3 n3 c3 x.Book.Events ∧ RSl RTLandMemory 4 G a4 n4 c4 x.Book.Memories ∧ RSl RTReefPlace 12 G a5 n5 c5 x.Reef.Places ∧ RSl RInt 1 G a6 n6 c6 x.Sea.Infested ∧ RSl RInt 1 G a7 n7 c7 x.Sea.Clean ∧ RSl RTBaneTrip 4 G a8 n8 c8 x.Sea.Trips ∧ RSl RInt 1 G a9 n9 c9 x.Store.Stock ∧ RSl RTSpan 2 G a10 n10 c10 x.Store.Use ∧ RSl RTShipLot 3 G a11 n11 c11 x.Store.Lots ∧ RSl RTCellLoad 3 G a12 n12 c12 x.System.Loads ∧ RSl RInt 1 G a13 n13 c13 x.Fishing.Roads ∧ RSl RInt 1 G a14 n14 c14 x.Fishing.Zones ∧ RSl RInt 1 G a15 n15 c15 x.Fishing.Berths
theorem RTCouncilAtoll_mono : Mono RTCouncilAtoll := fun _ _ _ _ hle ⟨a0, n0, c0, a1, n1, c1, a2, n2, c2, a3, n3, c3, a4, n4, c4, a5, n5, c5, a6, n6, c6, a7, n7, c7, a8, n8, c8, a9, n9, c9, a10, n10, c10, a11, n11, c11, a12, n12, c12, a13, n13, c13, a14, n14, c14, a15, n15, c15, h, h0, h1, h2, h3, h4, h5, h6, h7, h8, h9, h10, h11, h12, h13, h14, h15⟩ => ⟨a0, n0, c0, a1, n1, c1, a2, n2, c2, a3, n3, c3, a4, n4, c4, a5, n5, c5, a6, n6, c6, a7, n7, c7, a8, n8, c8, a9, n9, c9, a10, n10, c10, a11, n11, c11, a12, n12, c12, a13, n13, c13, a14, n14, c14, a15, n15, c15, h, h0.mono RInt_mono hle, h1.mono RTLensMonth_mono hle, h2.mono RTLandPerson_mono hle, h3.mono RTLandEvent_mono hle, h4.mono RTLandMemory_mono hle, h5.mono RTReefPlace_mono hle, h6.mono RInt_mono hle, h7.mono RInt_mono hle, h8.mono RTBaneTrip_mono hle, h9.mono RInt_mono hle, h10.mono RTSpan_mono hle, h11.mono RTShipLot_mono hle, h12.mono RTCellLoad_mono hle, h13.mono RInt_mono hle, h14.mono RInt_mono hle, h15.mono RInt_mono hle⟩
def FnOk83 (G : Gm) (k : Nat) (fi ca : List Value) (g : (TBaneTrip → Option Int)) : Prop := callB Tryz.prog k = true ∧ ∀ (G1 : Gm) (w : World), Gle G G1 → Sat G1 w → ∀ (z0 : TBaneTrip) (r : Int), g z0 = some r → Calls Tryz.prog k (fi ++ ([.agg #[.int .i64 z0.Day, .int .i64 z0.From, .int .i64 z0.To, .int .i64 z0.Cost]] : List Value) ++ ca).toArray w (RetV w (.int .i64 r))
theorem FnOk83.mono {G G' : Gm} {k : Nat} {fi ca : List Value} {g : (TBaneTrip → Option Int)} (h : FnOk83 G k fi ca g) (hle : Gle G G') : FnOk83 G' k fi ca g := ⟨h.1, fun G1 w hl hw => h.2 G1 w (hle.trans hl) hw⟩
def FnOk86 (G : Gm) (k : Nat) (fi ca : List Value) (g : (Int → Option Bool)) : Prop := callB Tryz.prog k = true ∧ ∀ (G1 : Gm) (w : World), Gle G G1 → Sat G1 w → ∀ (z0 : Int) (r : Bool), g z0 = some r → Calls Tryz.prog k (fi ++ ([.int .i64 z0] : List Value) ++ ca).toArray w (RetV w (.bool r))
theorem FnOk86.mono {G G' : Gm} {k : Nat} {fi ca : List Value} {g : (Int → Option Bool)} (h : FnOk86 G k fi ca g) (hle : Gle G G') : FnOk86 G' k fi ca g := ⟨h.1, fun G1 w hl hw => h.2 G1 w (hle.trans hl) hw⟩
def FnOk168 (G : Gm) (k : Nat) (fi ca : List Value) (g : (TBaneTrip → Option Bool)) : Prop := callB Tryz.prog k = true ∧ ∀ (G1 : Gm) (w : World), Gle G G1 → Sat G1 w → ∀ (z0 : TBaneTrip) (r : Bool), g z0 = some r → Calls Tryz.prog k (fi ++ ([.agg #[.int .i64 z0.Day, .int .i64 z0.From, .int .i64 z0.To, .int .i64 z0.Cost]] : List Value) ++ ca).toArray w (RetV w (.bool r))
theorem FnOk168.mono {G G' : Gm} {k : Nat} {fi ca : List Value} {g : (TBaneTrip → Option Bool)} (h : FnOk168 G k fi ca g) (hle : Gle G G') : FnOk168 G' k fi ca g := ⟨h.1, fun G1 w hl hw => h.2 G1 w (hle.trans hl) hw⟩
def tab : Tab := ⟨[(27, 9, 12), (27, 10, 13), (32, 0, 0), (32, 1, 1), (32, 2, 2), (35, 0, 0), (35, 2, 2), (38, 0, 0), (38, 1, 1), (38, 2, 2), (38, 3, 3), (38, 4, 4), (42, 0, 0), (42, 1, 1), (42, 3, 4), (45, 5, 5), (45, 6, 6), (47, 1, 1), (47, 2, 2), (47, 3, 3), (49, 0, 0), (49, 2, 17), (49, 3, 20), (49, 4, 23), (49, 5, 28), (49, 6, 34), (49, 7, 45), (82, 0, 0), (82, 1, 1), (82, 2, 2), (82, 3, 3), (85, 0, 0)], [3, 24, 25, 28, 29, 30, 33, 36, 39, 40, 43, 181], [24, 25, 28, 29, 30, 33, 36, 39, 40, 43, 50]⟩
theorem tabH : tabOk Tryz.prog tab = true := by kernel_rfl
theorem ag38 : agB Tryz.prog 38 = some 5 := by kernel_rfl
theorem ag78 : agB Tryz.prog 78 = some 2 := by kernel_rfl
theorem ag82 : agB Tryz.prog 82 = some 4 := by kernel_rfl
theorem ag85 : agB Tryz.prog 85 = some 6 := by kernel_rfl
theorem cb100 : callB Tryz.prog 100 = true := by kernel_rfl
theorem cb101 : callB Tryz.prog 101 = true := by kernel_rfl
theorem cb102 : callB Tryz.prog 102 = true := by kernel_rfl
theorem cb165 : callB Tryz.prog 165 = true := by kernel_rfl
theorem cb166 : callB Tryz.prog 166 = true := by kernel_rfl
theorem cb167 : callB Tryz.prog 167 = true := by kernel_rfl
theorem cb168 : callB Tryz.prog 168 = true := by kernel_rfl
theorem cb169 : callB Tryz.prog 169 = true := by kernel_rfl
theorem cb205 : callB Tryz.prog 205 = true := by kernel_rfl
theorem cb22 : callB Tryz.prog 22 = true := by kernel_rfl
theorem cb23 : callB Tryz.prog 23 = true := by kernel_rfl
theorem cb24 : callB Tryz.prog 24 = true := by kernel_rfl
theorem cb25 : callB Tryz.prog 25 = true := by kernel_rfl
theorem cb26 : callB Tryz.prog 26 = true := by kernel_rfl
theorem cb27 : callB Tryz.prog 27 = true := by kernel_rfl
theorem cb33 : callB Tryz.prog 33 = true := by kernel_rfl
theorem cb39 : callB Tryz.prog 39 = true := by kernel_rfl
theorem cb40 : callB Tryz.prog 40 = true := by kernel_rfl
theorem cb79 : callB Tryz.prog 79 = true := by kernel_rfl
theorem cb80 : callB Tryz.prog 80 = true := by kernel_rfl
theorem cb81 : callB Tryz.prog 81 = true := by kernel_rfl
theorem cb82 : callB Tryz.prog 82 = true := by kernel_rfl
theorem cb83 : callB Tryz.prog 83 = true := by kernel_rfl
theorem cb84 : callB Tryz.prog 84 = true := by kernel_rfl
theorem cb85 : callB Tryz.prog 85 = true := by kernel_rfl
theorem cb86 : callB Tryz.prog 86 = true := by kernel_rfl
theorem cb95 : callB Tryz.prog 95 = true := by kernel_rfl
theorem cb99 : callB Tryz.prog 99 = true := by kernel_rfl
theorem fd110_0 : fldB Tryz.prog 110 0 = some 0 := by kernel_rfl
theorem fd183_0 : fldB Tryz.prog 183 0 = some 0 := by kernel_rfl
theorem fd78_0 : fldB Tryz.prog 78 0 = some 0 := by kernel_rfl
theorem fd78_1 : fldB Tryz.prog 78 1 = some 1 := by kernel_rfl
theorem fd82_0 : fldB Tryz.prog 82 0 = some 0 := by kernel_rfl
theorem fd82_2 : fldB Tryz.prog 82 2 = some 2 := by kernel_rfl
theorem fd85_1 : fldB Tryz.prog 85 1 = some 5 := by kernel_rfl
theorem mixedO : Tryz.prog.follows .mixedOrders = true := by kernel_rfl
theorem na181 : naB Tryz.prog 181 = true := by kernel_rfl
theorem na24 : naB Tryz.prog 24 = true := by kernel_rfl
theorem na3 : naB Tryz.prog 3 = true := by kernel_rfl
theorem na39 : naB Tryz.prog 39 = true := by kernel_rfl
theorem na4 : naB Tryz.prog 4 = true := by kernel_rfl
theorem na50 : naB Tryz.prog 50 = true := by kernel_rfl
theorem sl24 : slB Tryz.prog 24 = some (3, 1, 8) := by kernel_rfl
theorem sl25 : slB Tryz.prog 25 = some (189, 6, 48) := by kernel_rfl
theorem sl28 : slB Tryz.prog 28 = some (192, 2, 16) := by kernel_rfl
theorem sl29 : slB Tryz.prog 29 = some (194, 2, 16) := by kernel_rfl
theorem sl30 : slB Tryz.prog 30 = some (197, 4, 32) := by kernel_rfl
theorem sl33 : slB Tryz.prog 33 = some (199, 12, 96) := by kernel_rfl
theorem sl36 : slB Tryz.prog 36 = some (82, 4, 32) := by kernel_rfl
theorem sl39 : slB Tryz.prog 39 = some (23, 2, 16) := by kernel_rfl
theorem sl40 : slB Tryz.prog 40 = some (110, 3, 40) := by kernel_rfl
theorem sl43 : slB Tryz.prog 43 = some (204, 3, 24) := by kernel_rfl
theorem sl50 : slB Tryz.prog 50 = some (4, 1, 1) := by kernel_rfl
theorem sz181 : szB Tryz.prog 181 = some 1 := by kernel_rfl
theorem sz24 : szB Tryz.prog 24 = some 1 := by kernel_rfl
theorem sz3 : szB Tryz.prog 3 = some 1 := by kernel_rfl
theorem sz4 : szB Tryz.prog 4 = some 1 := by kernel_rfl
theorem sz50 : szB Tryz.prog 50 = some 1 := by kernel_rfl
theorem sz78 : szB Tryz.prog 78 = some 2 := by kernel_rfl
theorem sz82 : szB Tryz.prog 82 = some 4 := by kernel_rfl
theorem sz85 : szB Tryz.prog 85 = some 6 := by kernel_rfl
theorem zr3 : (Tryz.prog.info? 3).bind (fun i => i.zero.map (fun v => v.cells.toList)) = some [.int .i64 0] := by kernel_rfl
theorem zr4 : (Tryz.prog.info? 4).bind (fun i => i.zero.map (fun v => v.cells.toList)) = some [.bool false] := by kernel_rfl
end Go.Proofs.YtdgkjgljkgjjiaaGreatDoor
