/-
 How the structures lie in memory; closed facts on the program (printed by a program of ours).
-/
import Derived.Test.YtncjnffbdhckdaaGreatDoorFn
import Derived.Test.YtncjnffbdhckdaaGreatDoorBaseW
import Derived.Test.YtncjnffbdhckdaaGreatDoorProg
namespace Go.Proofs.YtncjnffbdhckdaaGreatDoor
open Go.RowKit
set_option linter.unusedVariables false
def RTSpan : Gm → List Value → TSpan → Prop := fun _ cs x => cs = [.int .i64 x.Low, .int .i64 x.High]
theorem RTSpan_mono : Mono RTSpan := fun _ _ _ _ _ h => h
theorem RTSpan_one : One RTSpan := fun _ _ _ h => by unfold RTSpan at h; subst h; exact one_all rfl
def RTLensMonth : Gm → List Value → TLensMonth → Prop := fun _ cs x => cs = [.int .i64 x.Wet.Low, .int .i64 x.Wet.High, .int .i64 x.Dry.Low, .int .i64 x.Dry.High, .int .i64 x.Need.Low, .int .i64 x.Need.High]
theorem RTLensMonth_mono : Mono RTLensMonth := fun _ _ _ _ _ h => h
theorem RTLensMonth_one : One RTLensMonth := fun _ _ _ h => by unfold RTLensMonth at h; subst h; exact one_all rfl
def RTLensIslet : Gm → List Value → TLensIslet → Prop := fun G cs x => ∃ (a0 : Option Addr) (n0 c0 : Nat) (a1 : Option Addr) (n1 c1 : Nat), cs = [.int .i64 x.Cap, .int .i64 x.Start.Low, .int .i64 x.Start.High, .int .i64 x.Roof, .int .i64 x.Sand, .int .i64 x.Soak.Low, .int .i64 x.Soak.High, .int .i64 x.Leak.Low, .int .i64 x.Leak.High, .int .i64 x.Pump, .int .i64 x.Keep, .int .i64 x.Size, .slice a0 n0 c0, .slice a1 n1 c1, .int .i64 x.Most, .int .i64 x.Row] ∧ RSl RInt 1 G a0 n0 c0 x.Wells ∧ RSl RTLensMonth 6 G a1 n1 c1 x.Months
def RTLandPerson : Gm → List Value → TLandPerson → Prop := fun _ cs x => cs = [.int .i64 x.Mother, .int .i64 x.Adopted]
theorem RTLandPerson_mono : Mono RTLandPerson := fun _ _ _ _ _ h => h
theorem RTLandPerson_one : One RTLandPerson := fun _ _ _ h => by unfold RTLandPerson at h; subst h; exact one_all rfl
def RTLandEvent : Gm → List Value → TLandEvent → Prop := fun _ cs x => cs = [.int .i64 x.Strip, .int .i64 x.Holder]
theorem RTLandEvent_mono : Mono RTLandEvent := fun _ _ _ _ _ h => h
theorem RTLandEvent_one : One RTLandEvent := fun _ _ _ h => by unfold RTLandEvent at h; subst h; exact one_all rfl
def RTLandMemory : Gm → List Value → TLandMemory → Prop := fun _ cs x => cs = [.int .i64 x.From, .int .i64 x.To, .int .i64 x.Years.Low, .int .i64 x.Years.High]
theorem RTLandMemory_mono : Mono RTLandMemory := fun _ _ _ _ _ h => h
theorem RTLandMemory_one : One RTLandMemory := fun _ _ _ h => by unfold RTLandMemory at h; subst h; exact one_all rfl
def RTLandBook : Gm → List Value → TLandBook → Prop := fun G cs x => ∃ (a0 : Option Addr) (n0 c0 : Nat) (a1 : Option Addr) (n1 c1 : Nat) (a2 : Option Addr) (n2 c2 : Nat), cs = [.slice a0 n0 c0, .slice a1 n1 c1, .slice a2 n2 c2] ∧ RSl RTLandPerson 2 G a0 n0 c0 x.People ∧ RSl RTLandEvent 2 G a1 n1 c1 x.Events ∧ RSl RTLandMemory 4 G a2 n2 c2 x.Memories
def RTReefPlace : Gm → List Value → TReefPlace → Prop := fun _ cs x => cs = [.int .i64 x.Count, .int .i64 x.Room, .int .i64 x.Grow.Low, .int .i64 x.Grow.High, .int .i64 x.Drift, .int .i64 x.Into, .int .i64 x.Open.Low, .int .i64 x.Open.High, .int .i64 x.Shut.Low, .int .i64 x.Shut.High, .int .i64 x.Goal, .int .i64 x.Worth]
theorem RTReefPlace_mono : Mono RTReefPlace := fun _ _ _ _ _ h => h
theorem RTReefPlace_one : One RTReefPlace := fun _ _ _ h => by unfold RTReefPlace at h; subst h; exact one_all rfl
def RTReef : Gm → List Value → TReef → Prop := fun G cs x => ∃ (a0 : Option Addr) (n0 c0 : Nat), cs = [.slice a0 n0 c0, .int .i64 x.Miss, .int .i64 x.Seasons] ∧ RSl RTReefPlace 12 G a0 n0 c0 x.Places
def RTBaneTrip : Gm → List Value → TBaneTrip → Prop := fun _ cs x => cs = [.int .i64 x.Day, .int .i64 x.From, .int .i64 x.To, .int .i64 x.Cost]
theorem RTBaneTrip_mono : Mono RTBaneTrip := fun _ _ _ _ _ h => h
theorem RTBaneTrip_one : One RTBaneTrip := fun _ _ _ h => by unfold RTBaneTrip at h; subst h; exact one_all rfl
def RTBaneSea : Gm → List Value → TBaneSea → Prop := fun G cs x => ∃ (a0 : Option Addr) (n0 c0 : Nat) (a1 : Option Addr) (n1 c1 : Nat) (a2 : Option Addr) (n2 c2 : Nat), cs = [.int .i64 x.Islets, .slice a0 n0 c0, .slice a1 n1 c1, .slice a2 n2 c2, .int .i64 x.Wait] ∧ RSl RInt 1 G a0 n0 c0 x.Infested ∧ RSl RInt 1 G a1 n1 c1 x.Clean ∧ RSl RTBaneTrip 4 G a2 n2 c2 x.Trips
def RTShipLot : Gm → List Value → TShipLot → Prop := fun G cs x => ∃ (a0 : Option Addr) (n0 c0 : Nat), cs = [.slice a0 n0 c0, .int .i64 x.Weight, .int .i64 x.Cost] ∧ RSl RTSpan 2 G a0 n0 c0 x.Goods
theorem RTShipLot_mono : Mono RTShipLot := fun _ _ _ _ hle ⟨a0, n0, c0, h, h0⟩ => ⟨a0, n0, c0, h, h0.mono RTSpan_mono hle⟩
theorem RTShipLot_one : One RTShipLot := fun _ _ _ ⟨_, _, _, h, _⟩ => by subst h; exact one_all rfl
def RTShipStore : Gm → List Value → TShipStore → Prop := fun G cs x => ∃ (a0 : Option Addr) (n0 c0 : Nat) (a1 : Option Addr) (n1 c1 : Nat) (a2 : Option Addr) (n2 c2 : Nat), cs = [.slice a0 n0 c0, .slice a1 n1 c1, .int .i64 x.Gap.Low, .int .i64 x.Gap.High, .slice a2 n2 c2, .int .i64 x.Hold] ∧ RSl RInt 1 G a0 n0 c0 x.Stock ∧ RSl RTSpan 2 G a1 n1 c1 x.Use ∧ RSl RTShipLot 3 G a2 n2 c2 x.Lots
def RTCellLoad : Gm → List Value → TCellLoad → Prop := fun _ cs x => cs = [.int .i64 x.Need, .int .i64 x.Keep, .bool x.Must]
theorem RTCellLoad_mono : Mono RTCellLoad := fun _ _ _ _ _ h => h
theorem RTCellLoad_one : One RTCellLoad := fun _ _ _ h => by unfold RTCellLoad at h; subst h; exact one_all rfl
def RTCellSystem : Gm → List Value → TCellSystem → Prop := fun G cs x => ∃ (a0 : Option Addr) (n0 c0 : Nat), cs = [.int .i64 x.Sunny, .int .i64 x.Cloudy, .int .i64 x.Size, .int .i64 x.Fade, .int .i64 x.Start, .slice a0 n0 c0, .int .i64 x.Days, .int .i64 x.Window, .int .i64 x.Most, .int .i64 x.Panel, .int .i64 x.Battery] ∧ RSl RTCellLoad 3 G a0 n0 c0 x.Loads
def RTFleetSea : Gm → List Value → TFleetSea → Prop := fun G cs x => ∃ (a0 : Option Addr) (n0 c0 : Nat) (a1 : Option Addr) (n1 c1 : Nat) (a2 : Option Addr) (n2 c2 : Nat), cs = [.int .i64 x.Cells, .slice a0 n0 c0, .slice a1 n1 c1, .slice a2 n2 c2, .int .i64 x.Days] ∧ RSl RInt 1 G a0 n0 c0 x.Roads ∧ RSl RInt 1 G a1 n1 c1 x.Zones ∧ RSl RInt 1 G a2 n2 c2 x.Berths
def RTCouncilAtoll : Gm → List Value → TCouncilAtoll → Prop := fun G cs x => ∃ (a0 : Option Addr) (n0 c0 : Nat) (a1 : Option Addr) (n1 c1 : Nat) (a2 : Option Addr) (n2 c2 : Nat) (a3 : Option Addr) (n3 c3 : Nat) (a4 : Option Addr) (n4 c4 : Nat) (a5 : Option Addr) (n5 c5 : Nat) (a6 : Option Addr) (n6 c6 : Nat) (a7 : Option Addr) (n7 c7 : Nat) (a8 : Option Addr) (n8 c8 : Nat) (a9 : Option Addr) (n9 c9 : Nat) (a10 : Option Addr) (n10 c10 : Nat) (a11 : Option Addr) (n11 c11 : Nat) (a12 : Option Addr) (n12 c12 : Nat) (a13 : Option Addr) (n13 c13 : Nat) (a14 : Option Addr) (n14 c14 : Nat) (a15 : Option Addr) (n15 c15 : Nat), cs = [.int .i64 x.Islet.Cap, .int .i64 x.Islet.Start.Low, .int .i64 x.Islet.Start.High, .int .i64 x.Islet.Roof, .int .i64 x.Islet.Sand, .int .i64 x.Islet.Soak.Low, .int .i64 x.Islet.Soak.High, .int .i64 x.Islet.Leak.Low, .int .i64 x.Islet.Leak.High, .int .i64 x.Islet.Pump, .int .i64 x.Islet.Keep, .int .i64 x.Islet.Size, .slice a0 n0 c0, .slice a1 n1 c1, .int .i64 x.Islet.Most, .int .i64 x.Islet.Row, .int .i64 x.Tank, .slice a2 n2 c2, .slice a3 n3 c3, .slice a4 n4 c4, .slice a5 n5 c5, .int .i64 x.Reef.Miss, .int .i64 x.Reef.Seasons, .int .i64 x.Sea.Islets, .slice a6 n6 c6, .slice a7 n7 c7, .slice a8 n8 c8, .int .i64 x.Sea.Wait, .slice a9 n9 c9, .slice a10 n10 c10, .int .i64 x.Store.Gap.Low, .int .i64 x.Store.Gap.High, .slice a11 n11 c11, .int .i64 x.Store.Hold, .int .i64 x.System.Sunny, .int .i64 x.System.Cloudy, .int .i64 x.System.Size, .int .i64 x.System.Fade, .int .i64 x.System.Start, .slice a12 n12 c12, .int .i64 x.System.Days, .int .i64 x.System.Window, .int .i64 x.System.Most, .int .i64 x.System.Panel, .int .i64 x.System.Battery, .int .i64 x.Fishing.Cells, .slice a13 n13 c13, .slice a14 n14 c14, .slice a15 n15 c15, .int .i64 x.Fishing.Days, .int .i64 x.Money] ∧ RSl RInt 1 G a0 n0 c0 x.Islet.Wells ∧ RSl RTLensMonth 6 G a1 n1 c1 x.Islet.Months ∧ RSl RTLandPerson 2 G a2 n2 c2 x.Book.People ∧ RSl RTLandEvent 2 G a3 n3 c3 x.Book.Events ∧ RSl RTLandMemory 4 G a4 n4 c4 x.Book.Memories ∧ RSl RTReefPlace 12 G a5 n5 c5 x.Reef.Places ∧ RSl RInt 1 G a6 n6 c6 x.Sea.Infested ∧ RSl RInt 1 G a7 n7 c7 x.Sea.Clean ∧ RSl RTBaneTrip 4 G a8 n8 c8 x.Sea.Trips ∧ RSl RInt 1 G a9 n9 c9 x.Store.Stock ∧ RSl RTSpan 2 G a10 n10 c10 x.Store.Use ∧ RSl RTShipLot 3 G a11 n11 c11 x.Store.Lots ∧ RSl RTCellLoad 3 G a12 n12 c12 x.System.Loads ∧ RSl RInt 1 G a13 n13 c13 x.Fishing.Roads ∧ RSl RInt 1 G a14 n14 c14 x.Fishing.Zones ∧ RSl RInt 1 G a15 n15 c15 x.Fishing.Berths
theorem RTCouncilAtoll_mono : Mono RTCouncilAtoll := fun _ _ _ _ hle ⟨a0, n0, c0, a1, n1, c1, a2, n2, c2, a3, n3, c3, a4, n4, c4, a5, n5, c5, a6, n6, c6, a7, n7, c7, a8, n8, c8, a9, n9, c9, a10, n10, c10, a11, n11, c11, a12, n12, c12, a13, n13, c13, a14, n14, c14, a15, n15, c15, h, h0, h1, h2, h3, h4, h5, h6, h7, h8, h9, h10, h11, h12, h13, h14, h15⟩ => ⟨a0, n0, c0, a1, n1, c1, a2, n2, c2, a3, n3, c3, a4, n4, c4, a5, n5, c5, a6, n6, c6, a7, n7, c7, a8, n8, c8, a9, n9, c9, a10, n10, c10, a11, n11, c11, a12, n12, c12, a13, n13, c13, a14, n14, c14, a15, n15, c15, h, h0.mono RInt_mono hle, h1.mono RTLensMonth_mono hle, h2.mono RTLandPerson_mono hle, h3.mono RTLandEvent_mono hle, h4.mono RTLandMemory_mono hle, h5.mono RTReefPlace_mono hle, h6.mono RInt_mono hle, h7.mono RInt_mono hle, h8.mono RTBaneTrip_mono hle, h9.mono RInt_mono hle, h10.mono RTSpan_mono hle, h11.mono RTShipLot_mono hle, h12.mono RTCellLoad_mono hle, h13.mono RInt_mono hle, h14.mono RInt_mono hle, h15.mono RInt_mono hle⟩
def FnOk258 (G : Gm) (k : Nat) (fi ca : List Value) (g : (TLandEvent → Option Bool)) : Prop := callB Tryz.prog k = true ∧ ∀ (G1 : Gm) (w : World), Gle G G1 → Sat G1 w → ∀ (z0 : TLandEvent) (r : Bool), g z0 = some r → Calls Tryz.prog k (fi ++ ([.agg #[.int .i64 z0.Strip, .int .i64 z0.Holder]] : List Value) ++ ca).toArray w (RetV w (.bool r))
theorem FnOk258.mono {G G' : Gm} {k : Nat} {fi ca : List Value} {g : (TLandEvent → Option Bool)} (h : FnOk258 G k fi ca g) (hle : Gle G G') : FnOk258 G' k fi ca g := ⟨h.1, fun G1 w hl hw => h.2 G1 w (hle.trans hl) hw⟩
def FnOk260 (G : Gm) (k : Nat) (fi ca : List Value) (g : (TLandMemory → Option Bool)) : Prop := callB Tryz.prog k = true ∧ ∀ (G1 : Gm) (w : World), Gle G G1 → Sat G1 w → ∀ (z0 : TLandMemory) (r : Bool), g z0 = some r → Calls Tryz.prog k (fi ++ ([.agg #[.int .i64 z0.From, .int .i64 z0.To, .int .i64 z0.Years.Low, .int .i64 z0.Years.High]] : List Value) ++ ca).toArray w (RetV w (.bool r))
theorem FnOk260.mono {G G' : Gm} {k : Nat} {fi ca : List Value} {g : (TLandMemory → Option Bool)} (h : FnOk260 G k fi ca g) (hle : Gle G G') : FnOk260 G' k fi ca g := ⟨h.1, fun G1 w hl hw => h.2 G1 w (hle.trans hl) hw⟩
def tab : Tab := ⟨[(23, 0, 0), (23, 1, 1), (27, 9, 12), (27, 10, 13), (32, 0, 0), (32, 1, 1), (32, 2, 2), (35, 0, 0), (35, 2, 2), (38, 1, 1), (38, 2, 2), (38, 3, 3), (42, 0, 0), (42, 1, 1), (42, 3, 4), (45, 5, 5), (45, 6, 6), (47, 1, 1), (47, 2, 2), (47, 3, 3), (49, 0, 0), (49, 2, 17), (49, 3, 20), (49, 4, 23), (49, 5, 28), (49, 6, 34), (49, 7, 45), (59, 0, 0), (59, 1, 1), (59, 2, 2), (63, 0, 0), (63, 1, 1), (185, 0, 0), (185, 1, 1), (268, 0, 0)], [3, 24, 25, 28, 29, 30, 33, 36, 39, 40, 43], [24, 25, 28, 29, 30, 33, 36, 39, 40, 43]⟩
theorem tabH : tabOk Tryz.prog tab = true := by kernel_rfl
theorem ag173 : agB Tryz.prog 173 = some 64 := by kernel_rfl
theorem ag185 : agB Tryz.prog 185 = some 2 := by kernel_rfl
theorem ag23 : agB Tryz.prog 23 = some 2 := by kernel_rfl
theorem ag32 : agB Tryz.prog 32 = some 3 := by kernel_rfl
theorem ag59 : agB Tryz.prog 59 = some 4 := by kernel_rfl
theorem ag63 : agB Tryz.prog 63 = some 2 := by kernel_rfl
theorem ar171 : arB Tryz.prog 171 = some (8, 1) := by kernel_rfl
theorem ar173 : arB Tryz.prog 173 = some (8, 8) := by kernel_rfl
theorem cb15 : callB Tryz.prog 15 = true := by kernel_rfl
theorem cb156 : callB Tryz.prog 156 = true := by kernel_rfl
theorem cb157 : callB Tryz.prog 157 = true := by kernel_rfl
theorem cb158 : callB Tryz.prog 158 = true := by kernel_rfl
theorem cb159 : callB Tryz.prog 159 = true := by kernel_rfl
theorem cb16 : callB Tryz.prog 16 = true := by kernel_rfl
theorem cb160 : callB Tryz.prog 160 = true := by kernel_rfl
theorem cb161 : callB Tryz.prog 161 = true := by kernel_rfl
theorem cb164 : callB Tryz.prog 164 = true := by kernel_rfl
theorem cb165 : callB Tryz.prog 165 = true := by kernel_rfl
theorem cb166 : callB Tryz.prog 166 = true := by kernel_rfl
theorem cb207 : callB Tryz.prog 207 = true := by kernel_rfl
theorem cb208 : callB Tryz.prog 208 = true := by kernel_rfl
theorem cb209 : callB Tryz.prog 209 = true := by kernel_rfl
theorem cb210 : callB Tryz.prog 210 = true := by kernel_rfl
theorem cb79 : callB Tryz.prog 79 = true := by kernel_rfl
theorem cb81 : callB Tryz.prog 81 = true := by kernel_rfl
theorem cb82 : callB Tryz.prog 82 = true := by kernel_rfl
theorem cb83 : callB Tryz.prog 83 = true := by kernel_rfl
theorem cb84 : callB Tryz.prog 84 = true := by kernel_rfl
theorem cb85 : callB Tryz.prog 85 = true := by kernel_rfl
theorem cb86 : callB Tryz.prog 86 = true := by kernel_rfl
theorem fd185_0 : fldB Tryz.prog 185 0 = some 0 := by kernel_rfl
theorem fd185_1 : fldB Tryz.prog 185 1 = some 1 := by kernel_rfl
theorem fd23_0 : fldB Tryz.prog 23 0 = some 0 := by kernel_rfl
theorem fd23_1 : fldB Tryz.prog 23 1 = some 1 := by kernel_rfl
theorem fd32_1 : fldB Tryz.prog 32 1 = some 1 := by kernel_rfl
theorem fd59_0 : fldB Tryz.prog 59 0 = some 0 := by kernel_rfl
theorem fd59_1 : fldB Tryz.prog 59 1 = some 1 := by kernel_rfl
theorem fd59_2 : fldB Tryz.prog 59 2 = some 2 := by kernel_rfl
theorem fd63_1 : fldB Tryz.prog 63 1 = some 1 := by kernel_rfl
theorem fd97_0 : fldB Tryz.prog 97 0 = some 0 := by kernel_rfl
theorem mixedO : Tryz.prog.follows .mixedOrders = true := by kernel_rfl
theorem na29 : naB Tryz.prog 29 = true := by kernel_rfl
theorem na3 : naB Tryz.prog 3 = true := by kernel_rfl
theorem na39 : naB Tryz.prog 39 = true := by kernel_rfl
theorem sl24 : slB Tryz.prog 24 = some (3, 1, 8) := by kernel_rfl
theorem sl25 : slB Tryz.prog 25 = some (182, 6, 48) := by kernel_rfl
theorem sl28 : slB Tryz.prog 28 = some (185, 2, 16) := by kernel_rfl
theorem sl29 : slB Tryz.prog 29 = some (63, 2, 16) := by kernel_rfl
theorem sl30 : slB Tryz.prog 30 = some (59, 4, 32) := by kernel_rfl
theorem sl33 : slB Tryz.prog 33 = some (187, 12, 96) := by kernel_rfl
theorem sl36 : slB Tryz.prog 36 = some (136, 4, 32) := by kernel_rfl
theorem sl39 : slB Tryz.prog 39 = some (23, 2, 16) := by kernel_rfl
theorem sl40 : slB Tryz.prog 40 = some (97, 3, 40) := by kernel_rfl
theorem sl43 : slB Tryz.prog 43 = some (193, 3, 24) := by kernel_rfl
theorem sz173 : szB Tryz.prog 173 = some 64 := by kernel_rfl
theorem sz185 : szB Tryz.prog 185 = some 2 := by kernel_rfl
theorem sz23 : szB Tryz.prog 23 = some 2 := by kernel_rfl
theorem sz3 : szB Tryz.prog 3 = some 1 := by kernel_rfl
theorem sz59 : szB Tryz.prog 59 = some 4 := by kernel_rfl
theorem sz63 : szB Tryz.prog 63 = some 2 := by kernel_rfl
end Go.Proofs.YtncjnffbdhckdaaGreatDoor
