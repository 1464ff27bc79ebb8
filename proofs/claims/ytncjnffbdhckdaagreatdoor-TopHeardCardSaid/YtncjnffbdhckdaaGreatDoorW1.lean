/-
 The walks: each Go function computes its plain function (printed by a program of ours).
-/
import Derived.Test.YtncjnffbdhckdaaGreatDoorRd
import Derived.Test.YtncjnffbdhckdaaGreatDoorLib
import Derived.Test.YtncjnffbdhckdaaGreatDoorBsC
namespace Go.Proofs.YtncjnffbdhckdaaGreatDoor
open Go.RowKit
set_option linter.unusedVariables false
section
variable {κ : Ctx} {p : List PanicEntry → Fr → World → Prop} {N : Nat} {F : Fr} {w : World} {K : Fr → World → Prop} {ops : Array Oper}
theorem wr (n : Nat) {l l' : List Oper} {F' : Fr} (hr : runP tab 0 [] none ops N n [] l F [] [] = some (l', F', [], [])) (h : WL κ Tryz.prog N ops p K l' F' w) : WL κ Tryz.prog N ops p K l F w := WL_run tabH (cells0 _) n [] hr rfl an h
theorem wk {b v : Bool} (hb : b = v) (n : Nat) {l l' : List Oper} {F' : Fr} {es : List (Value × Value)} (hr : runP tab 0 [] (some (.bool b, v)) ops N n [] l F [] [] = some (l', F', es, [])) (he : es.map (·.1) = es.map (·.2)) (h : WL κ Tryz.prog N ops p K l' F' w) : WL κ Tryz.prog N ops p K l F w := WL_runK tabH (cells0 _) (kb hb) n [] hr he an h
end
set_option maxRecDepth 20000
set_option linter.unusedVariables false
set_option maxHeartbeats 1000000 in
theorem f12_ok {G0 : Gm} {w0 : World} (hS0 : Sat G0 w0) {x0 : TCouncilAtoll} {a1 : Option Addr} {n1 c1 : Nat} {a2 : Option Addr} {n2 c2 : Nat} {a3 : Option Addr} {n3 c3 : Nat} {a4 : Option Addr} {n4 c4 : Nat} {a5 : Option Addr} {n5 c5 : Nat} {a6 : Option Addr} {n6 c6 : Nat} {a7 : Option Addr} {n7 c7 : Nat} {a8 : Option Addr} {n8 c8 : Nat} {a9 : Option Addr} {n9 c9 : Nat} {a10 : Option Addr} {n10 c10 : Nat} {a11 : Option Addr} {n11 c11 : Nat} {a12 : Option Addr} {n12 c12 : Nat} {a13 : Option Addr} {n13 c13 : Nat} {a14 : Option Addr} {n14 c14 : Nat} {a15 : Option Addr} {n15 c15 : Nat} {a16 : Option Addr} {n16 c16 : Nat} (h1 : RSl RInt 1 G0 a1 n1 c1 x0.Islet.Wells) (h2 : RSl RTLensMonth 6 G0 a2 n2 c2 x0.Islet.Months) (h3 : RSl RTLandPerson 2 G0 a3 n3 c3 x0.Book.People) (h4 : RSl RTLandEvent 2 G0 a4 n4 c4 x0.Book.Events) (h5 : RSl RTLandMemory 4 G0 a5 n5 c5 x0.Book.Memories) (h6 : RSl RTReefPlace 12 G0 a6 n6 c6 x0.Reef.Places) (h7 : RSl RInt 1 G0 a7 n7 c7 x0.Sea.Infested) (h8 : RSl RInt 1 G0 a8 n8 c8 x0.Sea.Clean) (h9 : RSl RTBaneTrip 4 G0 a9 n9 c9 x0.Sea.Trips) (h10 : RSl RInt 1 G0 a10 n10 c10 x0.Store.Stock) (h11 : RSl RTSpan 2 G0 a11 n11 c11 x0.Store.Use) (h12 : RSl RTShipLot 3 G0 a12 n12 c12 x0.Store.Lots) (h13 : RSl RTCellLoad 3 G0 a13 n13 c13 x0.System.Loads) (h14 : RSl RInt 1 G0 a14 n14 c14 x0.Fishing.Roads) (h15 : RSl RInt 1 G0 a15 n15 c15 x0.Fishing.Zones) (h16 : RSl RInt 1 G0 a16 n16 c16 x0.Fishing.Berths) {r : Bool} (H : f12 x0 = some r) :
  Calls Tryz.prog 12 #[.agg #[iV x0.Islet.Cap, iV x0.Islet.Start.Low, iV x0.Islet.Start.High, iV x0.Islet.Roof, iV x0.Islet.Sand, iV x0.Islet.Soak.Low, iV x0.Islet.Soak.High, iV x0.Islet.Leak.Low, iV x0.Islet.Leak.High, iV x0.Islet.Pump, iV x0.Islet.Keep, iV x0.Islet.Size, .slice a1 n1 c1, .slice a2 n2 c2, iV x0.Islet.Most, iV x0.Islet.Row, iV x0.Tank, .slice a3 n3 c3, .slice a4 n4 c4, .slice a5 n5 c5, .slice a6 n6 c6, iV x0.Reef.Miss, iV x0.Reef.Seasons, iV x0.Sea.Islets, .slice a7 n7 c7, .slice a8 n8 c8, .slice a9 n9 c9, iV x0.Sea.Wait, .slice a10 n10 c10, .slice a11 n11 c11, iV x0.Store.Gap.Low, iV x0.Store.Gap.High, .slice a12 n12 c12, iV x0.Store.Hold, iV x0.System.Sunny, iV x0.System.Cloudy, iV x0.System.Size, iV x0.System.Fade, iV x0.System.Start, .slice a13 n13 c13, iV x0.System.Days, iV x0.System.Window, iV x0.System.Most, iV x0.System.Panel, iV x0.System.Battery, iV x0.Fishing.Cells, .slice a14 n14 c14, .slice a15 n15 c15, .slice a16 n16 c16, iV x0.Fishing.Days, iV x0.Money]] w0 (RetV w0 (.bool r)) := by
 have hS := Since.start hS0
 have hO := own0 G0 w0
 unfold f12 at H
 refine enter1 (N := 147) (shutV _ _) Tryz.func12 rfl rfl rfl rfl (zQ (zR (zO rfl (OpP_newF (v := fun b => pV b) (cs := [iV x0.Islet.Cap, iV x0.Islet.Start.Low, iV x0.Islet.Start.High, iV x0.Islet.Roof, iV x0.Islet.Sand, iV x0.Islet.Soak.Low, iV x0.Islet.Soak.High, iV x0.Islet.Leak.Low, iV x0.Islet.Leak.High, iV x0.Islet.Pump, iV x0.Islet.Keep, iV x0.Islet.Size, .slice a1 n1 c1, .slice a2 n2 c2, iV x0.Islet.Most, iV x0.Islet.Row, iV x0.Tank, .slice a3 n3 c3, .slice a4 n4 c4, .slice a5 n5 c5, .slice a6 n6 c6, iV x0.Reef.Miss, iV x0.Reef.Seasons, iV x0.Sea.Islets, .slice a7 n7 c7, .slice a8 n8 c8, .slice a9 n9 c9, iV x0.Sea.Wait, .slice a10 n10 c10, .slice a11 n11 c11, iV x0.Store.Gap.Low, iV x0.Store.Gap.High, .slice a12 n12 c12, iV x0.Store.Hold, iV x0.System.Sunny, iV x0.System.Cloudy, iV x0.System.Size, iV x0.System.Fade, iV x0.System.Start, .slice a13 n13 c13, iV x0.System.Days, iV x0.System.Window, iV x0.System.Most, iV x0.System.Panel, iV x0.System.Battery, iV x0.Fishing.Cells, .slice a14 n14 c14, .slice a15 n15 c15, .slice a16 n16 c16, iV x0.Fishing.Days, iV x0.Money]) (e := 49) (rn_boxA rfl) hS.sat rfl (fun b17 G19 w18 hg hcb17 => ?_))))); have hS := hS.grow hg; have hO := hO.grow hg
 have leG19 := hg.le
 refine zV (zA (v := (.bool false)) rfl) rfl (zN (zQ (zQ (zR (zV (zA (v := (iV 0)) rfl) rfl (zN ?_)))))); obtain ⟨q22, hq22, H⟩ := bnd H; refine zM (fun F w => ∃ (p21 : Unit) (Fb : Fr), q22 = .inl p21 ∧ F = upds Fb [(1, pV b17)] ∧ w18 = w) ?_ ?_
 ·refine zb (WC_loop hq22 (fun s20 F w => ∃ (Fb : Fr), F = upds Fb [(1, pV b17), (3, iV s20)] ∧ w18 = w) ?_ ?_)
  ·exact ⟨_, zu _ _ ⟨rfl, rfl, trivial⟩, rfl⟩
  ·rintro s20 F wl t23 ⟨Fb, rfl, rfl⟩
   intro H1 hqq22
   have Hoq22 := H; have H := H1
   unfold f12_b0 at H
   refine zQ (zQ ?_); obtain ⟨q26, hq26, H⟩ := bnd H; refine zM (fun F w => ∃ (Fb : Fr), F = upds Fb [(1, pV b17), (3, iV s20), (13, .bool q26)] ∧ w18 = w) ?_ ?_
   ·have Hoq26 := H; have H := hq26; refine zR (WL_run tabH (cellsW hS.sat hcb17) 7 [_] rfl rfl (ao (h12.mono RTShipLot_mono leG19).1 an) ?_)
    rcases bcases (decide (s20 < (x0.Store.Lots.length : Int))) with hb27 | hb27
    ·have H := ifT hb27 H; refine wk hb27 3 rfl rfl ?_; refine zN ?_; cases H
     exact ⟨_, zu _ _ ⟨rfl, rfl, rfl, trivial⟩, rfl⟩
    ·have H := ifF hb27 H; refine wk hb27 3 rfl rfl ?_; refine zN ?_; cases H
     exact ⟨_, zu _ _ ⟨rfl, rfl, rfl, trivial⟩, rfl⟩
   ·rintro F wl ⟨Fb, rfl, rfl⟩
    refine zT rfl (fun hb30 => ?_) (fun hb30 => ?_)
    ·have H := ifT hb30 H; refine zP (zQ (zb (zQ (zR (WL_run tabH (cellsW hS.sat hcb17) 4 [] rfl rfl an ?_))))); obtain ⟨y31, hy31, H⟩ := bnd H; refine WL_idx sl40 (h12.mono RTShipLot_mono leG19) hy31 rfl rfl rfl ?_
     rintro b32 o32 _ hcb32 _ ⟨a33, n33, c33, ⟨⟩, h33⟩
     refine zV (zF fd97_0 rfl) rfl (zV (zL na39 rfl (hS.sat.cell (hcb32 0 _ rfl))) rfl (WL_run tabH (cells0 _) 2 [_] rfl rfl (ao h33.1 an) (zN (zT rfl (fun hb34 => ?_) (fun hb34 => ?_)))))
     ·have H := ifT hb34 H; refine zQ (zR (zV (zA (v := (.bool false)) rfl) rfl (zN (zr ?_)))); cases H
      have hres := hqq22 _ rfl
      subst hres; have H := Hoq22
      have H : some false = some r := H
      cases H
      exact ⟨rfl, hS.below⟩
     ·have H := ifF hb34 H; refine zP (zR ?_); refine wr 3 rfl ?_; refine zN ?_; cases H; refine ⟨_, rfl, ?_⟩
      exact ⟨_, zu _ _ ⟨rfl, rfl, trivial⟩, rfl⟩
    ·have H := ifF hb30 H; refine WC_exit rfl ?_; cases H
     have hres := hqq22 _ rfl
     subst hres
     exact ⟨_, _, rfl, zu _ _ ⟨rfl, trivial⟩, rfl⟩
 ·rintro F wl ⟨p21, Fb, rfl, rfl, rfl⟩
  refine zQ ?_; obtain ⟨q37, hq37, H⟩ := bnd H; refine zM (fun F w => ∃ (Fb : Fr), F = upds Fb [(2, .bool q37)] ∧ w18 = w) ?_ ?_
  ·have Hoq37 := H; have H := hq37; refine zR (WL_run tabH (cellsW hS.sat hcb17) 6 [_] rfl rfl (ao (h1.mono RInt_mono leG19).1 an) ?_)
   rcases bcases (decide ((x0.Islet.Wells.length : Int) ≤ 8)) with hb38 | hb38
   ·have H := ifT hb38 H; refine WL_runK tabH (cellsW hS.sat hcb17) (kb hb38) 7 [_] rfl rfl (ao (h2.mono RTLensMonth_mono leG19).1 an) ?_
    rcases bcases (decide ((x0.Islet.Months.length : Int) ≤ 4)) with hb39 | hb39
    ·have H := ifT hb39 H; refine WL_runK tabH (cellsW hS.sat hcb17) (kb hb39) 7 [_] rfl rfl (ao (h3.mono RTLandPerson_mono leG19).1 an) ?_
     rcases bcases (decide ((x0.Book.People.length : Int) ≤ 12)) with hb40 | hb40
     ·have H := ifT hb40 H; refine WL_runK tabH (cellsW hS.sat hcb17) (kb hb40) 7 [_] rfl rfl (ao (h4.mono RTLandEvent_mono leG19).1 an) ?_
      rcases bcases (decide ((x0.Book.Events.length : Int) ≤ 9)) with hb41 | hb41
      ·have H := ifT hb41 H; refine WL_runK tabH (cellsW hS.sat hcb17) (kb hb41) 7 [_] rfl rfl (ao (h5.mono RTLandMemory_mono leG19).1 an) ?_
       rcases bcases (decide ((x0.Book.Memories.length : Int) ≤ 12)) with hb42 | hb42
       ·have H := ifT hb42 H; refine WL_runK tabH (cellsW hS.sat hcb17) (kb hb42) 7 [_] rfl rfl (ao (h6.mono RTReefPlace_mono leG19).1 an) ?_
        rcases bcases (decide ((x0.Reef.Places.length : Int) ≤ 3)) with hb43 | hb43
        ·have H := ifT hb43 H; refine WL_runK tabH (cellsW hS.sat hcb17) (kb hb43) 6 [] rfl rfl an ?_
         rcases bcases (decide (x0.Reef.Seasons ≤ 2)) with hb44 | hb44
         ·have H := ifT hb44 H; refine WL_runK tabH (cellsW hS.sat hcb17) (kb hb44) 7 [_] rfl rfl (ao (h7.mono RInt_mono leG19).1 an) ?_
          rcases bcases (decide ((x0.Sea.Infested.length : Int) ≤ 10)) with hb45 | hb45
          ·have H := ifT hb45 H; refine WL_runK tabH (cellsW hS.sat hcb17) (kb hb45) 7 [_] rfl rfl (ao (h8.mono RInt_mono leG19).1 an) ?_
           rcases bcases (decide ((x0.Sea.Clean.length : Int) ≤ 10)) with hb46 | hb46
           ·have H := ifT hb46 H; refine WL_runK tabH (cellsW hS.sat hcb17) (kb hb46) 7 [_] rfl rfl (ao (h9.mono RTBaneTrip_mono leG19).1 an) ?_
            rcases bcases (decide ((x0.Sea.Trips.length : Int) ≤ 8)) with hb47 | hb47
            ·have H := ifT hb47 H; refine WL_runK tabH (cellsW hS.sat hcb17) (kb hb47) 7 [_] rfl rfl (ao (h10.mono RInt_mono leG19).1 an) ?_
             rcases bcases (decide ((x0.Store.Stock.length : Int) ≤ 8)) with hb48 | hb48
             ·have H := ifT hb48 H; refine WL_runK tabH (cellsW hS.sat hcb17) (kb hb48) 7 [_] rfl rfl (ao (h11.mono RTSpan_mono leG19).1 an) ?_
              rcases bcases (decide ((x0.Store.Use.length : Int) ≤ 8)) with hb49 | hb49
              ·have H := ifT hb49 H; refine WL_runK tabH (cellsW hS.sat hcb17) (kb hb49) 7 [_] rfl rfl (ao (h12.mono RTShipLot_mono leG19).1 an) ?_
               rcases bcases (decide ((x0.Store.Lots.length : Int) ≤ 8)) with hb50 | hb50
               ·have H := ifT hb50 H; refine WL_runK tabH (cellsW hS.sat hcb17) (kb hb50) 7 [_] rfl rfl (ao (h13.mono RTCellLoad_mono leG19).1 an) ?_
                rcases bcases (decide ((x0.System.Loads.length : Int) ≤ 7)) with hb51 | hb51
                ·have H := ifT hb51 H; refine WL_runK tabH (cellsW hS.sat hcb17) (kb hb51) 6 [] rfl rfl an ?_
                 rcases bcases (decide (x0.System.Days ≤ 4)) with hb52 | hb52
                 ·have H := ifT hb52 H; refine WL_runK tabH (cellsW hS.sat hcb17) (kb hb52) 7 [_] rfl rfl (ao (h14.mono RInt_mono leG19).1 an) ?_
                  rcases bcases (decide ((x0.Fishing.Roads.length : Int) ≤ 10)) with hb53 | hb53
                  ·have H := ifT hb53 H; refine WL_runK tabH (cellsW hS.sat hcb17) (kb hb53) 7 [_] rfl rfl (ao (h15.mono RInt_mono leG19).1 an) ?_
                   rcases bcases (decide ((x0.Fishing.Zones.length : Int) ≤ 5)) with hb54 | hb54
                   ·have H := ifT hb54 H; refine WL_runK tabH (cellsW hS.sat hcb17) (kb hb54) 7 [_] rfl rfl (ao (h16.mono RInt_mono leG19).1 an) (zN ?_); cases H
                    exact ⟨_, zu _ _ ⟨rfl, trivial⟩, rfl⟩
                   ·have H := ifF hb54 H; refine wk hb54 7 rfl rfl ?_; refine zN ?_; cases H
                    exact ⟨_, zu _ _ ⟨rfl, trivial⟩, rfl⟩
                  ·have H := ifF hb53 H; refine wk hb53 7 rfl rfl ?_; refine wr 7 rfl ?_; refine zN ?_; cases H
                   exact ⟨_, zu _ _ ⟨rfl, trivial⟩, rfl⟩
                 ·have H := ifF hb52 H; refine wk hb52 7 rfl rfl ?_; refine wr 14 rfl ?_; refine zN ?_; cases H
                  exact ⟨_, zu _ _ ⟨rfl, trivial⟩, rfl⟩
                ·have H := ifF hb51 H; refine wk hb51 6 rfl rfl ?_; refine wr 21 rfl ?_; refine zN ?_; cases H
                 exact ⟨_, zu _ _ ⟨rfl, trivial⟩, rfl⟩
               ·have H := ifF hb50 H; refine wk hb50 7 rfl rfl ?_; refine wr 27 rfl ?_; refine zN ?_; cases H
                exact ⟨_, zu _ _ ⟨rfl, trivial⟩, rfl⟩
              ·have H := ifF hb49 H; refine wk hb49 7 rfl rfl ?_; refine wr 34 rfl ?_; refine zN ?_; cases H
               exact ⟨_, zu _ _ ⟨rfl, trivial⟩, rfl⟩
             ·have H := ifF hb48 H; refine wk hb48 7 rfl rfl ?_; refine wr 41 rfl ?_; refine zN ?_; cases H
              exact ⟨_, zu _ _ ⟨rfl, trivial⟩, rfl⟩
            ·have H := ifF hb47 H; refine wk hb47 7 rfl rfl ?_; refine wr 48 rfl ?_; refine zN ?_; cases H
             exact ⟨_, zu _ _ ⟨rfl, trivial⟩, rfl⟩
           ·have H := ifF hb46 H; refine wk hb46 7 rfl rfl ?_; refine wr 55 rfl ?_; refine zN ?_; cases H
            exact ⟨_, zu _ _ ⟨rfl, trivial⟩, rfl⟩
          ·have H := ifF hb45 H; refine wk hb45 7 rfl rfl ?_; refine wr 62 rfl ?_; refine zN ?_; cases H
           exact ⟨_, zu _ _ ⟨rfl, trivial⟩, rfl⟩
         ·have H := ifF hb44 H; refine wk hb44 7 rfl rfl ?_; refine wr 69 rfl ?_; refine zN ?_; cases H
          exact ⟨_, zu _ _ ⟨rfl, trivial⟩, rfl⟩
        ·have H := ifF hb43 H; refine wk hb43 6 rfl rfl ?_; refine wr 76 rfl ?_; refine zN ?_; cases H
         exact ⟨_, zu _ _ ⟨rfl, trivial⟩, rfl⟩
       ·have H := ifF hb42 H; refine wk hb42 7 rfl rfl ?_; refine wr 82 rfl ?_; refine zN ?_; cases H
        exact ⟨_, zu _ _ ⟨rfl, trivial⟩, rfl⟩
      ·have H := ifF hb41 H; refine wk hb41 7 rfl rfl ?_; refine wr 89 rfl ?_; refine zN ?_; cases H
       exact ⟨_, zu _ _ ⟨rfl, trivial⟩, rfl⟩
     ·have H := ifF hb40 H; refine wk hb40 7 rfl rfl ?_; refine wr 96 rfl ?_; refine zN ?_; cases H
      exact ⟨_, zu _ _ ⟨rfl, trivial⟩, rfl⟩
    ·have H := ifF hb39 H; refine wk hb39 7 rfl rfl ?_; refine wr 103 rfl ?_; refine zN ?_; cases H
     exact ⟨_, zu _ _ ⟨rfl, trivial⟩, rfl⟩
   ·have H := ifF hb38 H; refine wk hb38 7 rfl rfl ?_; refine wr 110 rfl ?_; refine zN ?_; cases H
    exact ⟨_, zu _ _ ⟨rfl, trivial⟩, rfl⟩
  ·rintro F wl ⟨Fb, rfl, rfl⟩
   refine zr ?_
   have H : some q37 = some r := H
   cases H
   exact ⟨rfl, hS.below⟩
set_option maxHeartbeats 1000000 in
theorem f83_ok {G0 : Gm} {w0 : World} (hS0 : Sat G0 w0) {x0 : Int} {x1 : Int} {x2 : Int}  {r : Bool} (H : f83 x0 x1 x2 = some r) :
  Calls Tryz.prog 83 #[iV x0, iV x1, iV x2] w0 (RetV w0 (.bool r)) := by
 have hS := Since.start hS0
 have hO := own0 G0 w0
 unfold f83 at H
 refine enter1 (N := 15) (shutV _ _) Tryz.func83 rfl rfl rfl rfl (zQ (zR (zV (zA (v := (.bool false)) rfl) rfl (zN (zQ ?_))))); obtain ⟨q1, hq1, H⟩ := bnd H; refine zM (fun F w => ∃ (Fb : Fr), F = upds Fb [(6, .bool q1)] ∧ w0 = w) ?_ ?_
 ·have Hoq1 := H; have H := hq1; refine zR ?_; refine wr 4 rfl ?_
  rcases bcases (decide (x1 ≤ x0)) with hb2 | hb2
  ·have H := ifT hb2 H; refine wk hb2 5 rfl rfl ?_; refine zN ?_; cases H
   exact ⟨_, zu _ _ ⟨rfl, trivial⟩, rfl⟩
  ·have H := ifF hb2 H; refine wk hb2 5 rfl rfl ?_; refine zN ?_; cases H
   exact ⟨_, zu _ _ ⟨rfl, trivial⟩, rfl⟩
 ·rintro F wl ⟨Fb, rfl, rfl⟩
  refine zr ?_
  have H : some q1 = some r := H
  cases H
  exact ⟨rfl, hS.below⟩
set_option maxHeartbeats 1000000 in
theorem f15_ok {G0 : Gm} {w0 : World} (hS0 : Sat G0 w0) {x0 : Int} {x1 : Int} {x2 : Int}  {r : Bool} (H : f15 x0 x1 x2 = some r) :
  Calls Tryz.prog 15 #[iV x0, iV x1, iV x2] w0 (RetV w0 (.bool r)) := by
 have hS := Since.start hS0
 have hO := own0 G0 w0
 unfold f15 at H
 refine enter1 (N := 15) (shutV _ _) Tryz.func15 rfl rfl rfl rfl (zQ (zR (zV (zA (v := (.bool false)) rfl) rfl (zN (zQ ?_))))); obtain ⟨q1, hq1, H⟩ := bnd H; refine zM (fun F w => ∃ (Fb : Fr), F = upds Fb [(6, .bool q1)] ∧ w0 = w) ?_ ?_
 ·have Hoq1 := H; have H := hq1; refine zR ?_; refine wr 4 rfl ?_
  rcases bcases (decide (x1 ≤ x0)) with hb2 | hb2
  ·have H := ifT hb2 H; refine wk hb2 5 rfl rfl ?_; refine zN ?_; cases H
   exact ⟨_, zu _ _ ⟨rfl, trivial⟩, rfl⟩
  ·have H := ifF hb2 H; refine wk hb2 5 rfl rfl ?_; refine zN ?_; cases H
   exact ⟨_, zu _ _ ⟨rfl, trivial⟩, rfl⟩
 ·rintro F wl ⟨Fb, rfl, rfl⟩
  refine zr ?_
  have H : some q1 = some r := H
  cases H
  exact ⟨rfl, hS.below⟩
set_option maxHeartbeats 1000000 in
theorem f5_ok {G0 : Gm} {w0 : World} (hS0 : Sat G0 w0) {x0 : TLandBook} {a1 : Option Addr} {n1 c1 : Nat} {a2 : Option Addr} {n2 c2 : Nat} {a3 : Option Addr} {n3 c3 : Nat} {x1 : (List Int)} {a4 : Option Addr} {n4 c4 : Nat} (h1 : RSl RTLandPerson 2 G0 a1 n1 c1 x0.People) (h2 : RSl RTLandEvent 2 G0 a2 n2 c2 x0.Events) (h3 : RSl RTLandMemory 4 G0 a3 n3 c3 x0.Memories) (h4 : RSl RInt 1 G0 a4 n4 c4 x1) {r : Bool} (H : f5 x0 x1 = some r) :
  Calls Tryz.prog 5 #[.agg #[.slice a1 n1 c1, .slice a2 n2 c2, .slice a3 n3 c3], .slice a4 n4 c4] w0 (RetV w0 (.bool r)) := by
 have hS := Since.start hS0
 have hO := own0 G0 w0
 unfold f5 at H
 refine enter1 (N := 24) (shutV _ _) Tryz.func5 rfl rfl rfl rfl (zQ (zR (zO rfl (OpP_newF (v := fun b => pV b) (cs := [.slice a1 n1 c1, .slice a2 n2 c2, .slice a3 n3 c3]) (e := 32) (rn_boxA rfl) hS.sat rfl (fun b5 G7 w6 hg hcb5 => ?_))))); have hS := hS.grow hg; have hO := hO.grow hg
 have leG7 := hg.le
 refine zV (zA (v := (.bool false)) rfl) rfl (zN (zQ (zQ (zR (zV (zA (v := (iV 0)) rfl) rfl (zN ?_)))))); obtain ⟨q10, hq10, H⟩ := bnd H; refine zM (fun F w => ∃ (p9 : Unit) (Fb : Fr) (G : Gm), q10 = .inl p9 ∧ F = upds Fb [(1, .slice a4 n4 c4), (2, pV b5)] ∧ Gle G7 G ∧ SO G0 w0 G w []) ?_ ?_
 ·refine zb (WC_loop hq10 (fun s8 F w => ∃ (Fb : Fr) (G : Gm), F = upds Fb [(1, .slice a4 n4 c4), (2, pV b5), (5, iV s8)] ∧ Gle G7 G ∧ SO G0 w0 G w []) ?_ ?_)
  ·have hO : Owns _ _ _ [] := hO
   exact ⟨_, G7, zu _ _ ⟨rfl, rfl, rfl, trivial⟩, Gle.refl _, hS, hO⟩
  ·rintro s8 F w12 t11 ⟨Fb, G13, rfl, leG13, hS, hO⟩
   intro H1 hqq10
   have Hoq10 := H; have H := H1
   unfold f5_b0 at H
   refine zQ (zQ (zR ?_))
   have l0_2 := leG7.trans leG13
   refine WL_run tabH (cells0 _) 4 [_] rfl rfl (ao (h4.mono RInt_mono l0_2).1 an) (zN (zT rfl (fun hb14 => ?_) (fun hb14 => ?_)))
   ·have H := ifT hb14 H; refine zP (zQ (zb (zQ (zR ?_)))); refine wr 2 rfl ?_; obtain ⟨y15, hy15, H⟩ := bnd H; refine WL_idx sl24 (h4.mono RInt_mono l0_2) hy15 rfl rfl rfl ?_
    rintro b16 o16 _ hcb16 _ ⟨⟩
    refine zV (zL na3 rfl (hS.sat.cell (hcb16 0 _ rfl))) rfl ?_; obtain ⟨y17, hy17, H⟩ := bnd H; refine zO rfl (zC cb15 (f15_ok (x0 := y15) (x1 := 0) (x2 := 1000) hS.sat  hy17) rfl rfl (fun w18 hb => ?_)); have hS := hS.keep hb; have hO := hO.below hb; refine zV (rn_not rfl) rfl (zN (zT rfl (fun hb19 => ?_) (fun hb19 => ?_)))
    ·have H := ifT hb19 H; refine zQ (zR (zV (zA (v := (.bool false)) rfl) rfl (zN (zr ?_)))); cases H
     have hres := hqq10 _ rfl
     subst hres; have H := Hoq10
     have H : some false = some r := H
     cases H
     exact ⟨rfl, hS.below⟩
    ·have H := ifF hb19 H; refine zP (zR ?_); refine wr 3 rfl ?_; refine zN ?_
     have hO : Owns _ _ _ [] := hO
     cases H; refine ⟨_, rfl, ?_⟩
     exact ⟨_, G13, zu _ _ ⟨rfl, rfl, rfl, trivial⟩, leG13, hS, hO⟩
   ·have H := ifF hb14 H; refine WC_exit rfl ?_
    have hO : Owns _ _ _ [] := hO
    cases H
    have hres := hqq10 _ rfl
    subst hres
    exact ⟨_, _, G13, rfl, zu _ _ ⟨rfl, rfl, trivial⟩, leG13, hS, hO⟩
 ·rintro F w20 ⟨p9, Fb, G21, rfl, rfl, leG21, hS, hO⟩
  refine zQ (zR ?_)
  have l0_2 := leG7.trans leG21
  refine WL_run tabH (cellsW (hS.sat.le leG21) hcb5) 7 [_, _] rfl rfl (ao (h2.mono RTLandEvent_mono l0_2).1 (ao (h4.mono RInt_mono l0_2).1 an)) (zN (zr ?_))
  have H : some ((x1.length : Int) == (x0.Events.length : Int)) = some r := H
  cases H
  exact ⟨rfl, hS.below⟩
set_option maxHeartbeats 1000000 in
theorem f16_ok {G0 : Gm} {w0 : World} (hS0 : Sat G0 w0) {x0 : TLandMemory} {x1 : (List Int)} {a1 : Option Addr} {n1 c1 : Nat} (h1 : RSl RInt 1 G0 a1 n1 c1 x1) {r : Bool} (H : f16 x0 x1 = some r) :
  Calls Tryz.prog 16 #[.agg #[iV x0.From, iV x0.To, iV x0.Years.Low, iV x0.Years.High], .slice a1 n1 c1] w0 (RetV w0 (.bool r)) := by
 have hS := Since.start hS0
 have hO := own0 G0 w0
 unfold f16 at H
 refine enter1 (N := 23) (shutV _ _) Tryz.func16 rfl rfl rfl rfl (zQ (zR (zO rfl (OpP_newF (v := fun b => pV b) (cs := [iV x0.From, iV x0.To, iV x0.Years.Low, iV x0.Years.High]) (e := 59) (rn_boxA rfl) hS.sat rfl (fun b2 G4 w3 hg hcb2 => ?_))))); have hS := hS.grow hg; have hO := hO.grow hg
 have leG4 := hg.le
 refine zV (zA (v := (.bool false)) rfl) rfl (zN (zQ ?_)); have hS := hS.keep (below_drew _); have hO := hO.below (below_drew _)
 refine WC_regionD mixedO (fun _ w => Sat G4 w ∧ True) (.fl 0 (.fl 1 (.fl 2 (.fl 3 (.fl 4 (.fl 5 (.fl 6 (.fl 7 (.fl 8 (.fl 9 (.fl 10 (.fl 11 (.fl 12 (.fl 13 (.on 14 (.on 15 (.on 16 (.on 17 (.on 18 .nil))))))))))))))))))) (by kernel_rfl) rfl (by kernel_rfl) (fun _ => ⟨hS.sat, trivial⟩) ?_
 refine zD rfl (fun w hw => zm (v := (.slice a1 n1 c1)) rfl) rfl (zD rfl (fun w hw => zF fd59_1 rfl) rfl (zD rfl (fun w hw => zL na3 rfl (hw.1.cell (hcb2 1 _ rfl))) rfl ?_)); obtain ⟨y5, hy5, H⟩ := bnd H; refine WD_idx rfl sl24 (h1.mono RInt_mono leG4) hy5 rfl rfl rfl ?_
 rintro b6 o6 _ hcb6 _ ⟨⟩
 refine zD rfl (fun w hw => zL na3 rfl (hw.1.cell (hcb6 0 _ rfl))) rfl (zD rfl (fun w hw => zm (v := (.slice a1 n1 c1)) rfl) rfl (zD rfl (fun w hw => zF fd59_0 rfl) rfl (zD rfl (fun w hw => zL na3 rfl (hw.1.cell (hcb2 0 _ rfl))) rfl ?_))); obtain ⟨y7, hy7, H⟩ := bnd H; refine WD_idx rfl sl24 (h1.mono RInt_mono leG4) hy7 rfl rfl rfl ?_
 rintro b8 o8 _ hcb8 _ ⟨⟩
 refine zD rfl (fun w hw => zL na3 rfl (hw.1.cell (hcb8 0 _ rfl))) rfl (zD rfl (fun w hw => rn_sub rfl rfl) rfl (zD rfl (fun w hw => zF fd59_2 rfl) rfl (zD rfl (fun w hw => zF fd23_0 rfl) rfl (zD rfl (fun w hw => zL na3 rfl (hw.1.cell (hcb2 2 _ rfl))) rfl (zE rfl rfl (OpP_val (zF fd59_2 rfl) rfl ?_)))))); refine ⟨fun _ _ => ⟨hS.sat, trivial⟩, ?_⟩; refine zE rfl rfl (OpP_val (zF fd23_1 rfl) rfl ?_); refine ⟨fun _ _ => ⟨hS.sat, trivial⟩, ?_⟩; refine zE rfl rfl (OpP_val (zL na3 rfl (hS.sat.cell (hcb2 3 _ rfl))) rfl ?_); refine ⟨fun _ _ => ⟨hS.sat, trivial⟩, ?_⟩; obtain ⟨y9, hy9, H⟩ := bnd H; refine zE rfl rfl (zC cb15 (f15_ok (x0 := IntKind.i64.wrap (y5 - y7)) (x1 := x0.Years.Low) (x2 := x0.Years.High) hS.sat  hy9) rfl rfl (fun w10 hb => ?_)); have hS := hS.keep hb; have hO := hO.below hb
 refine ⟨fun _ h => noneed (by kernel_rfl) h, ?_⟩
 refine zE rfl rfl (OpP_val (zA (v := (.bool y9)) rfl) rfl ?_)
 refine ⟨fun _ h => noneed (by kernel_rfl) h, ?_⟩
 refine zI (zr ?_)
 have H : some y9 = some r := H
 cases H
 exact ⟨rfl, hS.below⟩
set_option maxHeartbeats 1000000 in
theorem f6_ok {G0 : Gm} {w0 : World} (hS0 : Sat G0 w0) {x0 : TLandBook} {a1 : Option Addr} {n1 c1 : Nat} {a2 : Option Addr} {n2 c2 : Nat} {a3 : Option Addr} {n3 c3 : Nat} {x1 : (List Int)} {a4 : Option Addr} {n4 c4 : Nat} (h1 : RSl RTLandPerson 2 G0 a1 n1 c1 x0.People) (h2 : RSl RTLandEvent 2 G0 a2 n2 c2 x0.Events) (h3 : RSl RTLandMemory 4 G0 a3 n3 c3 x0.Memories) (h4 : RSl RInt 1 G0 a4 n4 c4 x1) {r : Bool} (H : f6 x0 x1 = some r) :
  Calls Tryz.prog 6 #[.agg #[.slice a1 n1 c1, .slice a2 n2 c2, .slice a3 n3 c3], .slice a4 n4 c4] w0 (RetV w0 (.bool r)) := by
 have hS := Since.start hS0
 have hO := own0 G0 w0
 unfold f6 at H
 refine enter1 (N := 21) (shutV _ _) Tryz.func6 rfl rfl rfl rfl (zQ (zR (zO rfl (OpP_newF (v := fun b => pV b) (cs := [.slice a1 n1 c1, .slice a2 n2 c2, .slice a3 n3 c3]) (e := 32) (rn_boxA rfl) hS.sat rfl (fun b5 G7 w6 hg hcb5 => ?_))))); have hS := hS.grow hg; have hO := hO.grow hg
 have leG7 := hg.le
 refine zV (zA (v := (.bool false)) rfl) rfl (zN (zQ (zQ (zR (zV (zA (v := (iV 0)) rfl) rfl (zN ?_)))))); obtain ⟨q10, hq10, H⟩ := bnd H; refine zM (fun F w => ∃ (p9 : Unit) (Fb : Fr) (G : Gm), q10 = .inl p9 ∧ F = upds Fb [] ∧ Gle G7 G ∧ SO G0 w0 G w []) ?_ ?_
 ·refine zb (WC_loop hq10 (fun s8 F w => ∃ (Fb : Fr) (G : Gm), F = upds Fb [(1, .slice a4 n4 c4), (2, pV b5), (5, iV s8)] ∧ Gle G7 G ∧ SO G0 w0 G w []) ?_ ?_)
  ·have hO : Owns _ _ _ [] := hO
   exact ⟨_, G7, zu _ _ ⟨rfl, rfl, rfl, trivial⟩, Gle.refl _, hS, hO⟩
  ·rintro s8 F w12 t11 ⟨Fb, G13, rfl, leG13, hS, hO⟩
   intro H1 hqq10
   have Hoq10 := H; have H := H1
   unfold f6_b0 at H
   refine zQ (zQ (zR ?_))
   have l0_2 := leG7.trans leG13
   refine WL_run tabH (cellsW (hS.sat.le leG13) hcb5) 5 [_] rfl rfl (ao (h3.mono RTLandMemory_mono l0_2).1 an) (zN (zT rfl (fun hb14 => ?_) (fun hb14 => ?_)))
   ·have H := ifT hb14 H; refine zP (zQ (zb (zQ (zR (WL_run tabH (cellsW (hS.sat.le leG13) hcb5) 3 [] rfl rfl an ?_))))); obtain ⟨y15, hy15, H⟩ := bnd H; refine WL_idx sl30 (h3.mono RTLandMemory_mono l0_2) hy15 rfl rfl rfl ?_
    rintro b16 o16 _ hcb16 _ ⟨⟩
    refine zV (rn_loadA ag59 (cs := [iV y15.From, iV y15.To, iV y15.Years.Low, iV y15.Years.High]) rfl rfl (fun j v hj => hS.sat.cell (hcb16.drop_take 0 4 j v hj))) rfl (zV (zm (v := (.slice a4 n4 c4)) rfl) rfl ?_); obtain ⟨y17, hy17, H⟩ := bnd H; refine zO rfl (zC cb16 (f16_ok (x0 := y15) (x1 := x1) hS.sat (h4.mono RInt_mono l0_2) hy17) rfl rfl (fun w18 hb => ?_)); have hS := hS.keep hb; have hO := hO.below hb; refine zV (rn_not rfl) rfl (zN (zT rfl (fun hb19 => ?_) (fun hb19 => ?_)))
    ·have H := ifT hb19 H; refine zQ (zR (zV (zA (v := (.bool false)) rfl) rfl (zN (zr ?_)))); cases H
     have hres := hqq10 _ rfl
     subst hres; have H := Hoq10
     have H : some false = some r := H
     cases H
     exact ⟨rfl, hS.below⟩
    ·have H := ifF hb19 H; refine zP (zR ?_); refine wr 3 rfl ?_; refine zN ?_
     have hO : Owns _ _ _ [] := hO
     cases H; refine ⟨_, rfl, ?_⟩
     exact ⟨_, G13, zu _ _ ⟨rfl, rfl, rfl, trivial⟩, leG13, hS, hO⟩
   ·have H := ifF hb14 H; refine WC_exit rfl ?_
    have hO : Owns _ _ _ [] := hO
    cases H
    have hres := hqq10 _ rfl
    subst hres
    exact ⟨_, _, G13, rfl, rfl, leG13, hS, hO⟩
 ·rintro F w20 ⟨p9, Fb, G21, rfl, rfl, leG21, hS, hO⟩
  refine zQ (zR (zV (zA (v := (.bool true)) rfl) rfl (zN (zr ?_))))
  have H : some true = some r := H
  cases H
  exact ⟨rfl, hS.below⟩
set_option maxHeartbeats 1000000 in
theorem f7_ok {G0 : Gm} {w0 : World} (hS0 : Sat G0 w0) {x0 : Int}  {r : Bool} (H : f7 x0 = some r) :
  Calls Tryz.prog 7 #[iV x0] w0 (RetV w0 (.bool r)) := by
 have hS := Since.start hS0
 have hO := own0 G0 w0
 unfold f7 at H
 refine enter1 (N := 5) (shutV _ _) Tryz.func7 rfl rfl rfl rfl (zQ (zR (zV (zA (v := (.bool false)) rfl) rfl (zN (zQ (zR (zV (zm (v := (iV x0)) rfl) rfl ?_))))))); obtain ⟨y1, hy1, H⟩ := bnd H; refine zO rfl (zC cb15 (f15_ok (x0 := x0) (x1 := 0) (x2 := 5) hS.sat  hy1) rfl rfl (fun w2 hb => ?_)); have hS := hS.keep hb; have hO := hO.below hb; refine zV (zA (v := (.bool y1)) rfl) rfl (zN (zr ?_))
 have H : some y1 = some r := H
 cases H
 exact ⟨rfl, hS.below⟩
set_option maxHeartbeats 1000000 in
theorem f8_ok {G0 : Gm} {w0 : World} (hS0 : Sat G0 w0) {x0 : TLandBook} {a1 : Option Addr} {n1 c1 : Nat} {a2 : Option Addr} {n2 c2 : Nat} {a3 : Option Addr} {n3 c3 : Nat} {x1 : Int} (h1 : RSl RTLandPerson 2 G0 a1 n1 c1 x0.People) (h2 : RSl RTLandEvent 2 G0 a2 n2 c2 x0.Events) (h3 : RSl RTLandMemory 4 G0 a3 n3 c3 x0.Memories) {r : Bool} (H : f8 x0 x1 = some r) :
  Calls Tryz.prog 8 #[.agg #[.slice a1 n1 c1, .slice a2 n2 c2, .slice a3 n3 c3], iV x1] w0 (RetV w0 (.bool r)) := by
 have hS := Since.start hS0
 have hO := own0 G0 w0
 unfold f8 at H
 refine enter1 (N := 11) (shutV _ _) Tryz.func8 rfl rfl rfl rfl (zQ (zR (zO rfl (OpP_newF (v := fun b => pV b) (cs := [.slice a1 n1 c1, .slice a2 n2 c2, .slice a3 n3 c3]) (e := 32) (rn_boxA rfl) hS.sat rfl (fun b4 G6 w5 hg hcb4 => ?_))))); have hS := hS.grow hg; have hO := hO.grow hg
 have leG6 := hg.le
 refine zV (zA (v := (.bool false)) rfl) rfl (zN (zQ (zR (WL_run tabH (cellsW hS.sat hcb4) 5 [_] rfl rfl (ao (h2.mono RTLandEvent_mono leG6).1 an) ?_)))); obtain ⟨y7, hy7, H⟩ := bnd H; refine zO rfl (zC cb15 (f15_ok (x0 := x1) (x1 := 0) (x2 := IntKind.i64.wrap ((x0.Events.length : Int) - 1)) hS.sat  hy7) rfl rfl (fun w8 hb => ?_)); have hS := hS.keep hb; have hO := hO.below hb; refine zV (zA (v := (.bool y7)) rfl) rfl (zN (zr ?_))
 have H : some y7 = some r := H
 cases H
 exact ⟨rfl, hS.below⟩
set_option maxHeartbeats 1000000 in
theorem f207_ok {G0 : Gm} {w0 : World} (hS0 : Sat G0 w0) {x0 : (List TLandEvent)} {a1 : Option Addr} {n1 c1 : Nat} {x1 : (TLandEvent → Option Bool)} {k2 : Nat} {fi2 ca2 : List Value} (h1 : RSl RTLandEvent 2 G0 a1 n1 c1 x0) (hf2 : FnOk258 G0 k2 fi2 ca2 x1) {r : Int} (H : f207 x0 x1 = some r) :
  Calls Tryz.prog 207 #[.slice a1 n1 c1, .func (.func k2) (fi2).toArray (ca2).toArray] w0 (RetV w0 (iV r)) := by
 have hS := Since.start hS0
 have hO := own0 G0 w0
 unfold f207 at H
 refine enter1 (N := 19) (shutV _ _) Tryz.func207 rfl rfl rfl rfl (zQ (zR (zV (zA (v := (iV 0)) rfl) rfl (zN (zQ (zQ (zR (WL_run tabH (cells0 _) 3 [_] rfl rfl (ao h1.1 an) (zN ?_))))))))); obtain ⟨q5, hq5, H⟩ := bnd H; refine zM (fun F w => ∃ (p4 : Unit) (Fb : Fr) (G : Gm), q5 = .inl p4 ∧ F = upds Fb [] ∧ Gle G0 G ∧ SO G0 w0 G w []) ?_ ?_
 ·refine zb (WC_loop hq5 (fun s3 F w => ∃ (Fb : Fr) (G : Gm), F = upds Fb [(0, .slice a1 n1 c1), (1, .func (.func k2) (fi2).toArray (ca2).toArray), (7, iV (x0.length : Int)), (8, iV s3)] ∧ Gle G0 G ∧ SO G0 w0 G w []) ?_ ?_)
  ·have hO : Owns _ _ _ [] := hO
   exact ⟨_, G0, zu _ _ ⟨rfl, rfl, rfl, rfl, trivial⟩, Gle.refl _, hS, hO⟩
  ·rintro s3 F w7 t6 ⟨Fb, G8, rfl, leG8, hS, hO⟩
   intro H1 hqq5
   have Hoq5 := H; have H := H1
   unfold f207_b0 at H
   refine zQ (zR (zV (zl rfl rfl) rfl (zN (zQ (zT rfl (fun hb9 => ?_) (fun hb9 => ?_))))))
   ·have H := ifT hb9 H; refine zP (zQ (zb (zQ (zR ?_)))); refine wr 2 rfl ?_; refine zN (zQ (zR ?_)); refine wr 3 rfl ?_; obtain ⟨y10, hy10, H⟩ := bnd H; refine WL_idx sl29 (h1.mono RTLandEvent_mono leG8) hy10 rfl rfl rfl ?_
    rintro b11 o11 _ hcb11 _ ⟨⟩
    refine zV (rn_loadA ag63 (cs := [iV y10.Strip, iV y10.Holder]) rfl rfl (fun j v hj => hS.sat.cell (hcb11.drop_take 0 2 j v hj))) rfl ?_; obtain ⟨y12, hy12, H⟩ := bnd H; refine zO rfl (OpP_callVF hf2.1 (hf2.2 _ _ leG8 hS.sat y10 _  hy12) rfl rfl rfl (fun w13 hb => ?_)); have hS := hS.keep hb; have hO := hO.below hb; refine zN (zT rfl (fun hb14 => ?_) (fun hb14 => ?_))
    ·have H := ifT hb14 H; refine zQ (zR ?_); refine wr 2 rfl ?_; refine zN (zr ?_); cases H
     have hres := hqq5 _ rfl
     subst hres; have H := Hoq5
     have H : some s3 = some r := H
     cases H
     exact ⟨rfl, hS.below⟩
    ·have H := ifF hb14 H; refine zP (zR ?_); refine wr 2 rfl ?_; refine zN ?_
     have hO : Owns _ _ _ [] := hO
     cases H; refine ⟨_, rfl, ?_⟩
     exact ⟨_, G8, zu _ _ ⟨rfl, rfl, rfl, rfl, trivial⟩, leG8, hS, hO⟩
   ·have H := ifF hb9 H; refine WC_exit rfl ?_
    have hO : Owns _ _ _ [] := hO
    cases H
    have hres := hqq5 _ rfl
    subst hres
    exact ⟨_, _, G8, rfl, rfl, leG8, hS, hO⟩
 ·rintro F w15 ⟨p4, Fb, G16, rfl, rfl, leG16, hS, hO⟩
  refine zQ (zR (zV (zA (v := (iV (-1))) rfl) rfl (zN (zr ?_))))
  have H : some (-1) = some r := H
  cases H
  exact ⟨rfl, hS.below⟩
set_option maxHeartbeats 1000000 in
theorem f156_ok {G0 : Gm} {w0 : World} (hS0 : Sat G0 w0) {x0 : (List TLandEvent)} {a1 : Option Addr} {n1 c1 : Nat} {x1 : (TLandEvent → Option Bool)} {k2 : Nat} {fi2 ca2 : List Value} (h1 : RSl RTLandEvent 2 G0 a1 n1 c1 x0) (hf2 : FnOk258 G0 k2 fi2 ca2 x1) {r : Bool} (H : f156 x0 x1 = some r) :
  Calls Tryz.prog 156 #[.slice a1 n1 c1, .func (.func k2) (fi2).toArray (ca2).toArray] w0 (RetV w0 (.bool r)) := by
 have hS := Since.start hS0
 have hO := own0 G0 w0
 unfold f156 at H
 refine enter1 (N := 9) (shutV _ _) Tryz.func156 rfl rfl rfl rfl (zQ (zR (zV (zA (v := (.bool false)) rfl) rfl (zN (zQ (zR ?_)))))); refine wr 2 rfl ?_; obtain ⟨y3, hy3, H⟩ := bnd H; refine zO rfl (zC cb207 (f207_ok (x0 := x0) (x1 := x1) hS.sat h1 hf2 hy3) rfl rfl (fun w4 hb => ?_)); have hS := hS.keep hb; have hO := hO.below hb; refine wr 2 rfl ?_; refine zN (zr ?_)
 have H : some (decide (0 ≤ y3)) = some r := H
 cases H
 exact ⟨rfl, hS.below⟩
set_option maxHeartbeats 1000000 in
theorem f157_ok {G0 : Gm} {w0 : World} (hS0 : Sat G0 w0) {x0 : TLandEvent} {x1 : TLandBook} {bq1 : Nat} {a1 : Option Addr} {n1 c1 : Nat} {a2 : Option Addr} {n2 c2 : Nat} {a3 : Option Addr} {n3 c3 : Nat} (hcq1 : Cells G0 bq1 0 [.slice a1 n1 c1, .slice a2 n2 c2, .slice a3 n3 c3]) (h1 : RSl RTLandPerson 2 G0 a1 n1 c1 x1.People) (h2 : RSl RTLandEvent 2 G0 a2 n2 c2 x1.Events) (h3 : RSl RTLandMemory 4 G0 a3 n3 c3 x1.Memories) {r : Bool} (H : f157 x0 x1 = some r) :
  Calls Tryz.prog 157 #[.agg #[iV x0.Strip, iV x0.Holder], pV bq1] w0 (RetV w0 (.bool r)) := by
 have hS := Since.start hS0
 have hO := own0 G0 w0
 unfold f157 at H
 refine enter1 (N := 18) (shutV _ _) Tryz.func157 rfl rfl rfl rfl (zQ (zR (zO rfl (OpP_newF (v := fun b => pV b) (cs := [iV x0.Strip, iV x0.Holder]) (e := 63) (rn_boxA rfl) hS.sat rfl (fun b4 G6 w5 hg hcb4 => ?_))))); have hS := hS.grow hg; have hO := hO.grow hg
 have leG6 := hg.le
 refine zV (zA (v := (.bool false)) rfl) rfl (zN (zQ ?_)); obtain ⟨q7, hq7, H⟩ := bnd H; refine zM (fun F w => ∃ (Fb : Fr) (G : Gm), F = upds Fb [(3, .bool q7)] ∧ Gle G6 G ∧ SO G0 w0 G w []) ?_ ?_
 ·have Hoq7 := H; have H := hq7; refine zR (WL_run tabH (cellsW hS.sat hcb4) 2 [] rfl rfl an ?_); obtain ⟨y8, hy8, H⟩ := bnd H; refine zO rfl (zC cb83 (f83_ok (x0 := x0.Strip) (x1 := 0) (x2 := 5) hS.sat  hy8) rfl rfl (fun w9 hb => ?_)); have hS := hS.keep hb; have hO := hO.below hb; refine wr 2 rfl ?_
  rcases bcases (!y8) with hb10 | hb10
  ·have H := ifT hb10 H; refine wk hb10 10 rfl rfl ?_; refine zN ?_
   have hO : Owns _ _ _ [] := hO
   cases H
   exact ⟨_, G6, zu _ _ ⟨rfl, trivial⟩, Gle.refl _, hS, hO⟩
  ·have H := ifF hb10 H; refine WL_runK tabH (cellsW hS.sat hcb4) (kb hb10) 3 [] rfl rfl an (WL_runK tabH (cellsW (hS.sat.le leG6) hcq1) (kb hb10) 3 [_] rfl rfl (ao (h1.mono RTLandPerson_mono leG6).1 an) (zY rfl hb10 rfl rfl ?_)); obtain ⟨y11, hy11, H⟩ := bnd H; refine zO rfl (zC cb83 (f83_ok (x0 := x0.Holder) (x1 := 0) (x2 := IntKind.i64.wrap ((x1.People.length : Int) - 1)) hS.sat  hy11) rfl rfl (fun w12 hb => ?_)); have hS := hS.keep hb; have hO := hO.below hb; refine wk hb10 3 rfl rfl ?_; refine zN ?_
   have hO : Owns _ _ _ [] := hO
   cases H
   exact ⟨_, G6, zu _ _ ⟨rfl, trivial⟩, Gle.refl _, hS, hO⟩
 ·rintro F w13 ⟨Fb, G14, rfl, leG14, hS, hO⟩
  refine zr ?_
  have H : some q7 = some r := H
  cases H
  exact ⟨rfl, hS.below⟩
set_option maxHeartbeats 1000000 in
theorem f208_ok {G0 : Gm} {w0 : World} (hS0 : Sat G0 w0) {x0 : (List TLandMemory)} {a1 : Option Addr} {n1 c1 : Nat} {x1 : (TLandMemory → Option Bool)} {k2 : Nat} {fi2 ca2 : List Value} (h1 : RSl RTLandMemory 4 G0 a1 n1 c1 x0) (hf2 : FnOk260 G0 k2 fi2 ca2 x1) {r : Int} (H : f208 x0 x1 = some r) :
  Calls Tryz.prog 208 #[.slice a1 n1 c1, .func (.func k2) (fi2).toArray (ca2).toArray] w0 (RetV w0 (iV r)) := by
 have hS := Since.start hS0
 have hO := own0 G0 w0
 unfold f208 at H
 refine enter1 (N := 19) (shutV _ _) Tryz.func208 rfl rfl rfl rfl (zQ (zR (zV (zA (v := (iV 0)) rfl) rfl (zN (zQ (zQ (zR (WL_run tabH (cells0 _) 3 [_] rfl rfl (ao h1.1 an) (zN ?_))))))))); obtain ⟨q5, hq5, H⟩ := bnd H; refine zM (fun F w => ∃ (p4 : Unit) (Fb : Fr) (G : Gm), q5 = .inl p4 ∧ F = upds Fb [] ∧ Gle G0 G ∧ SO G0 w0 G w []) ?_ ?_
 ·refine zb (WC_loop hq5 (fun s3 F w => ∃ (Fb : Fr) (G : Gm), F = upds Fb [(0, .slice a1 n1 c1), (1, .func (.func k2) (fi2).toArray (ca2).toArray), (7, iV (x0.length : Int)), (8, iV s3)] ∧ Gle G0 G ∧ SO G0 w0 G w []) ?_ ?_)
  ·have hO : Owns _ _ _ [] := hO
   exact ⟨_, G0, zu _ _ ⟨rfl, rfl, rfl, rfl, trivial⟩, Gle.refl _, hS, hO⟩
  ·rintro s3 F w7 t6 ⟨Fb, G8, rfl, leG8, hS, hO⟩
   intro H1 hqq5
   have Hoq5 := H; have H := H1
   unfold f208_b0 at H
   refine zQ (zR (zV (zl rfl rfl) rfl (zN (zQ (zT rfl (fun hb9 => ?_) (fun hb9 => ?_))))))
   ·have H := ifT hb9 H; refine zP (zQ (zb (zQ (zR ?_)))); refine wr 2 rfl ?_; refine zN (zQ (zR ?_)); refine wr 3 rfl ?_; obtain ⟨y10, hy10, H⟩ := bnd H; refine WL_idx sl30 (h1.mono RTLandMemory_mono leG8) hy10 rfl rfl rfl ?_
    rintro b11 o11 _ hcb11 _ ⟨⟩
    refine zV (rn_loadA ag59 (cs := [iV y10.From, iV y10.To, iV y10.Years.Low, iV y10.Years.High]) rfl rfl (fun j v hj => hS.sat.cell (hcb11.drop_take 0 4 j v hj))) rfl ?_; obtain ⟨y12, hy12, H⟩ := bnd H; refine zO rfl (OpP_callVF hf2.1 (hf2.2 _ _ leG8 hS.sat y10 _  hy12) rfl rfl rfl (fun w13 hb => ?_)); have hS := hS.keep hb; have hO := hO.below hb; refine zN (zT rfl (fun hb14 => ?_) (fun hb14 => ?_))
    ·have H := ifT hb14 H; refine zQ (zR ?_); refine wr 2 rfl ?_; refine zN (zr ?_); cases H
     have hres := hqq5 _ rfl
     subst hres; have H := Hoq5
     have H : some s3 = some r := H
     cases H
     exact ⟨rfl, hS.below⟩
    ·have H := ifF hb14 H; refine zP (zR ?_); refine wr 2 rfl ?_; refine zN ?_
     have hO : Owns _ _ _ [] := hO
     cases H; refine ⟨_, rfl, ?_⟩
     exact ⟨_, G8, zu _ _ ⟨rfl, rfl, rfl, rfl, trivial⟩, leG8, hS, hO⟩
   ·have H := ifF hb9 H; refine WC_exit rfl ?_
    have hO : Owns _ _ _ [] := hO
    cases H
    have hres := hqq5 _ rfl
    subst hres
    exact ⟨_, _, G8, rfl, rfl, leG8, hS, hO⟩
 ·rintro F w15 ⟨p4, Fb, G16, rfl, rfl, leG16, hS, hO⟩
  refine zQ (zR (zV (zA (v := (iV (-1))) rfl) rfl (zN (zr ?_))))
  have H : some (-1) = some r := H
  cases H
  exact ⟨rfl, hS.below⟩
set_option maxHeartbeats 1000000 in
theorem f158_ok {G0 : Gm} {w0 : World} (hS0 : Sat G0 w0) {x0 : (List TLandMemory)} {a1 : Option Addr} {n1 c1 : Nat} {x1 : (TLandMemory → Option Bool)} {k2 : Nat} {fi2 ca2 : List Value} (h1 : RSl RTLandMemory 4 G0 a1 n1 c1 x0) (hf2 : FnOk260 G0 k2 fi2 ca2 x1) {r : Bool} (H : f158 x0 x1 = some r) :
  Calls Tryz.prog 158 #[.slice a1 n1 c1, .func (.func k2) (fi2).toArray (ca2).toArray] w0 (RetV w0 (.bool r)) := by
 have hS := Since.start hS0
 have hO := own0 G0 w0
 unfold f158 at H
 refine enter1 (N := 9) (shutV _ _) Tryz.func158 rfl rfl rfl rfl (zQ (zR (zV (zA (v := (.bool false)) rfl) rfl (zN (zQ (zR ?_)))))); refine wr 2 rfl ?_; obtain ⟨y3, hy3, H⟩ := bnd H; refine zO rfl (zC cb208 (f208_ok (x0 := x0) (x1 := x1) hS.sat h1 hf2 hy3) rfl rfl (fun w4 hb => ?_)); have hS := hS.keep hb; have hO := hO.below hb; refine wr 2 rfl ?_; refine zN (zr ?_)
 have H : some (decide (0 ≤ y3)) = some r := H
 cases H
 exact ⟨rfl, hS.below⟩
set_option maxHeartbeats 1000000 in
theorem f159_ok {G0 : Gm} {w0 : World} (hS0 : Sat G0 w0) {x0 : TLandMemory} {x1 : TLandBook} {bq1 : Nat} {a1 : Option Addr} {n1 c1 : Nat} {a2 : Option Addr} {n2 c2 : Nat} {a3 : Option Addr} {n3 c3 : Nat} (hcq1 : Cells G0 bq1 0 [.slice a1 n1 c1, .slice a2 n2 c2, .slice a3 n3 c3]) (h1 : RSl RTLandPerson 2 G0 a1 n1 c1 x1.People) (h2 : RSl RTLandEvent 2 G0 a2 n2 c2 x1.Events) (h3 : RSl RTLandMemory 4 G0 a3 n3 c3 x1.Memories) {r : Bool} (H : f159 x0 x1 = some r) :
  Calls Tryz.prog 159 #[.agg #[iV x0.From, iV x0.To, iV x0.Years.Low, iV x0.Years.High], pV bq1] w0 (RetV w0 (.bool r)) := by
 have hS := Since.start hS0
 have hO := own0 G0 w0
 unfold f159 at H
 refine enter1 (N := 50) (shutV _ _) Tryz.func159 rfl rfl rfl rfl (zQ (zR (zO rfl (OpP_newF (v := fun b => pV b) (cs := [iV x0.From, iV x0.To, iV x0.Years.Low, iV x0.Years.High]) (e := 59) (rn_boxA rfl) hS.sat rfl (fun b4 G6 w5 hg hcb4 => ?_))))); have hS := hS.grow hg; have hO := hO.grow hg
 have leG6 := hg.le
 refine zV (zA (v := (.bool false)) rfl) rfl (zN (zQ ?_)); obtain ⟨q7, hq7, H⟩ := bnd H; refine zM (fun F w => ∃ (Fb : Fr) (G : Gm), F = upds Fb [(3, .bool q7)] ∧ Gle G6 G ∧ SO G0 w0 G w []) ?_ ?_
 ·have Hoq7 := H; have H := hq7; refine zR (WL_run tabH (cellsW hS.sat hcb4) 3 [] rfl rfl an (WL_run tabH (cellsW (hS.sat.le leG6) hcq1) 3 [_] rfl rfl (ao (h2.mono RTLandEvent_mono leG6).1 an) ?_)); obtain ⟨y8, hy8, H⟩ := bnd H; refine zO rfl (zC cb83 (f83_ok (x0 := x0.From) (x1 := 0) (x2 := IntKind.i64.wrap ((x1.Events.length : Int) - 1)) hS.sat  hy8) rfl rfl (fun w9 hb => ?_)); have hS := hS.keep hb; have hO := hO.below hb; refine wr 2 rfl ?_
  rcases bcases (!y8) with hb10 | hb10
  ·have H := ifT hb10 H; refine wk hb10 10 rfl rfl ?_; refine wr 28 rfl ?_; refine zN ?_
   have hO : Owns _ _ _ [] := hO
   cases H
   exact ⟨_, G6, zu _ _ ⟨rfl, trivial⟩, Gle.refl _, hS, hO⟩
  ·have H := ifF hb10 H; refine WL_runK tabH (cellsW hS.sat hcb4) (kb hb10) 3 [] rfl rfl an (WL_runK tabH (cellsW (hS.sat.le leG6) hcq1) (kb hb10) 3 [_] rfl rfl (ao (h2.mono RTLandEvent_mono leG6).1 an) (zY rfl hb10 rfl rfl ?_)); obtain ⟨y11, hy11, H⟩ := bnd H; refine zO rfl (zC cb83 (f83_ok (x0 := x0.To) (x1 := 0) (x2 := IntKind.i64.wrap ((x1.Events.length : Int) - 1)) hS.sat  hy11) rfl rfl (fun w12 hb => ?_)); have hS := hS.keep hb; have hO := hO.below hb; refine wk hb10 3 rfl rfl ?_
   rcases bcases (!y11) with hb13 | hb13
   ·have H := ifT hb13 H; refine wk hb13 7 rfl rfl ?_; refine wr 21 rfl ?_; refine zN ?_
    have hO : Owns _ _ _ [] := hO
    cases H
    exact ⟨_, G6, zu _ _ ⟨rfl, trivial⟩, Gle.refl _, hS, hO⟩
   ·have H := ifF hb13 H; refine WL_runK tabH (cellsW hS.sat hcb4) (kb hb13) 7 [] rfl rfl an ?_
    rcases bcases (x0.From == x0.To) with hb14 | hb14
    ·have H := ifT hb14 H; refine wk hb14 6 rfl rfl ?_; refine wr 15 rfl ?_; refine zN ?_
     have hO : Owns _ _ _ [] := hO
     cases H
     exact ⟨_, G6, zu _ _ ⟨rfl, trivial⟩, Gle.refl _, hS, hO⟩
    ·have H := ifF hb14 H; refine WL_runK tabH (cellsW hS.sat hcb4) (kb hb14) 6 [] rfl rfl an ?_
     rcases bcases (decide (x0.Years.Low < (-1000))) with hb15 | hb15
     ·have H := ifT hb15 H; refine wk hb15 9 rfl rfl ?_; refine wr 6 rfl ?_; refine zN ?_
      have hO : Owns _ _ _ [] := hO
      cases H
      exact ⟨_, G6, zu _ _ ⟨rfl, trivial⟩, Gle.refl _, hS, hO⟩
     ·have H := ifF hb15 H; refine WL_runK tabH (cellsW hS.sat hcb4) (kb hb15) 9 [] rfl rfl an ?_
      rcases bcases (decide (x0.Years.High < x0.Years.Low)) with hb16 | hb16
      ·have H := ifT hb16 H; refine wk hb16 6 rfl rfl ?_; refine zN ?_
       have hO : Owns _ _ _ [] := hO
       cases H
       exact ⟨_, G6, zu _ _ ⟨rfl, trivial⟩, Gle.refl _, hS, hO⟩
      ·have H := ifF hb16 H; refine WL_runK tabH (cellsW hS.sat hcb4) (kb hb16) 6 [] rfl rfl an (zN ?_)
       have hO : Owns _ _ _ [] := hO
       cases H
       exact ⟨_, G6, zu _ _ ⟨rfl, trivial⟩, Gle.refl _, hS, hO⟩
 ·rintro F w17 ⟨Fb, G18, rfl, leG18, hS, hO⟩
  refine zr ?_
  have H : some q7 = some r := H
  cases H
  exact ⟨rfl, hS.below⟩
set_option maxHeartbeats 1000000 in
theorem f79_ok {G0 : Gm} {w0 : World} (hS0 : Sat G0 w0) {x0 : TLandBook} {a1 : Option Addr} {n1 c1 : Nat} {a2 : Option Addr} {n2 c2 : Nat} {a3 : Option Addr} {n3 c3 : Nat} (h1 : RSl RTLandPerson 2 G0 a1 n1 c1 x0.People) (h2 : RSl RTLandEvent 2 G0 a2 n2 c2 x0.Events) (h3 : RSl RTLandMemory 4 G0 a3 n3 c3 x0.Memories) {r : Bool} (H : f79 x0 = some r) :
  Calls Tryz.prog 79 #[.agg #[.slice a1 n1 c1, .slice a2 n2 c2, .slice a3 n3 c3]] w0 (RetV w0 (.bool r)) := by
 have hS := Since.start hS0
 have hO := own0 G0 w0
 unfold f79 at H
 refine enter1 (N := 58) (shutV _ _) Tryz.func79 rfl rfl rfl rfl (zQ (zR (zO rfl (OpP_newF (v := fun b => pV b) (cs := [.slice a1 n1 c1, .slice a2 n2 c2, .slice a3 n3 c3]) (e := 32) (rn_boxA rfl) hS.sat rfl (fun b4 G6 w5 hg hcb4 => ?_))))); have hS := hS.grow hg; have hO := hO.grow hg
 have leG6 := hg.le
 refine zV (zA (v := (.bool false)) rfl) rfl (zN (zQ (zQ (zR (WL_run tabH (cellsW hS.sat hcb4) 4 [_] rfl rfl (ao (h1.mono RTLandPerson_mono leG6).1 an) (zN ?_)))))); obtain ⟨q9, hq9, H⟩ := bnd H; refine zM (fun F w => ∃ (p8 : Unit) (Fb : Fr) (G : Gm), q9 = .inl p8 ∧ F = upds Fb [(1, pV b4)] ∧ Gle G6 G ∧ SO G0 w0 G w []) ?_ ?_
 ·refine zb (WC_loop hq9 (fun s7 F w => ∃ (Fb : Fr) (G : Gm), F = upds Fb [(1, pV b4), (6, .slice a1 n1 c1), (7, iV (x0.People.length : Int)), (8, iV s7)] ∧ Gle G6 G ∧ SO G0 w0 G w []) ?_ ?_)
  ·have hO : Owns _ _ _ [] := hO
   exact ⟨_, G6, zu _ _ ⟨rfl, rfl, rfl, rfl, trivial⟩, Gle.refl _, hS, hO⟩
  ·rintro s7 F w11 t10 ⟨Fb, G12, rfl, leG12, hS, hO⟩
   intro H1 hqq9
   have Hoq9 := H; have H := H1
   unfold f79_b0 at H
   refine zQ (zR (zV (zl rfl rfl) rfl (zN (zQ (zT rfl (fun hb13 => ?_) (fun hb13 => ?_))))))
   ·have H := ifT hb13 H; refine zP (zQ (zb (zQ (zR (zV (zm (v := (iV s7)) rfl) rfl ?_))))); obtain ⟨y14, hy14, H⟩ := bnd H
    have l0_2 := leG6.trans leG12
    refine WL_idx sl28 (h1.mono RTLandPerson_mono l0_2) hy14 rfl rfl rfl ?_
    rintro b15 o15 _ hcb15 _ ⟨⟩
    refine zV (rn_loadA ag185 (cs := [iV y14.Mother, iV y14.Adopted]) rfl rfl (fun j v hj => hS.sat.cell (hcb15.drop_take 0 2 j v hj))) rfl ?_
    refine zO rfl (zU (v := fun b => pV b) (cs := [iV 0, iV 0]) (e := 185) (by kernel_rfl) hS.sat hO rfl 2 1 rfl (by decide) (fun b16 w17 hb hO => ?_))
    have hS := hS.keep hb; refine zV (zA (v := (iV s7)) rfl) rfl (zO rfl (OpP_store (vs := [iV y14.Mother, iV y14.Adopted]) sz185 hS hO (k := 0) rfl rfl rfl rfl rfl (one_all rfl) (Nat.le_of_ble_eq_true rfl) (fun w19 hS hO => ?_)))
    have hO : Owns _ _ _ ([⟨185, 2, 1, .slice (some ⟨b16, 0, none⟩) 1 1, [iV y14.Mother, iV y14.Adopted]⟩]) := hO
    obtain ⟨G20, leG20, hS, hO, hqG20, _⟩ := hO.freeze hS (k := 0) rfl
    have hcG20 : Cells G20 b16 0 [iV y14.Mother, iV y14.Adopted] := (hqG20 _ _ _ _ rfl)
    refine zN (zQ ?_); obtain ⟨q21, hq21, H⟩ := bnd H; refine zM (fun F w => ∃ (Fb : Fr) (G : Gm), F = upds Fb [(1, pV b4), (6, .slice a1 n1 c1), (7, iV (x0.People.length : Int)), (8, iV s7), (26, .bool q21)] ∧ Gle G20 G ∧ SO G0 w0 G w []) ?_ ?_
    ·have Hoq21 := H; have H := hq21; refine zR (WL_run tabH (cellsW hS.sat hcG20) 4 [] rfl rfl an ?_); obtain ⟨y22, hy22, H⟩ := bnd H; refine zO rfl (zC cb83 (f83_ok (x0 := y14.Mother) (x1 := (-1)) (x2 := IntKind.i64.wrap (s7 - 1)) hS.sat  hy22) rfl rfl (fun w23 hb => ?_)); have hS := hS.keep hb; have hO := hO.below hb; refine wr 2 rfl ?_
     rcases bcases (!y22) with hb24 | hb24
     ·have H := ifT hb24 H; refine wk hb24 7 rfl rfl ?_; refine zN ?_
      have hO : Owns _ _ _ [] := hO
      cases H
      exact ⟨_, G20, zu _ _ ⟨rfl, rfl, rfl, rfl, rfl, trivial⟩, Gle.refl _, hS, hO⟩
     ·have H := ifF hb24 H; refine WL_runK tabH (cellsW hS.sat hcG20) (kb hb24) 4 [] rfl rfl an (zY rfl hb24 rfl rfl ?_); obtain ⟨y25, hy25, H⟩ := bnd H; refine zO rfl (zC cb83 (f83_ok (x0 := y14.Adopted) (x1 := (-1)) (x2 := IntKind.i64.wrap (s7 - 1)) hS.sat  hy25) rfl rfl (fun w26 hb => ?_)); have hS := hS.keep hb; have hO := hO.below hb; refine wk hb24 2 rfl rfl ?_; refine zN ?_
      have hO : Owns _ _ _ [] := hO
      cases H
      exact ⟨_, G20, zu _ _ ⟨rfl, rfl, rfl, rfl, rfl, trivial⟩, Gle.refl _, hS, hO⟩
    ·rintro F w27 ⟨Fb, G28, rfl, leG28, hS, hO⟩
     refine zT rfl (fun hb29 => ?_) (fun hb29 => ?_)
     ·have H := ifT hb29 H; refine zQ (zR (zV (zA (v := (.bool false)) rfl) rfl (zN (zr ?_)))); cases H
      have hres := hqq9 _ rfl
      subst hres; have H := Hoq9
      have H : some false = some r := H
      cases H
      exact ⟨rfl, hS.below⟩
     ·have H := ifF hb29 H; refine zP (zR ?_); refine wr 2 rfl ?_; refine zN ?_
      have hO : Owns _ _ _ [] := hO
      cases H; refine ⟨_, rfl, ?_⟩
      have l1_4 := (leG12.trans leG20).trans leG28
      exact ⟨_, G28, zu _ _ ⟨rfl, rfl, rfl, rfl, trivial⟩, l1_4, hS, hO⟩
   ·have H := ifF hb13 H; refine WC_exit rfl ?_
    have hO : Owns _ _ _ [] := hO
    cases H
    have hres := hqq9 _ rfl
    subst hres
    exact ⟨_, _, G12, rfl, zu _ _ ⟨rfl, trivial⟩, leG12, hS, hO⟩
 ·rintro F w30 ⟨p8, Fb, G31, rfl, rfl, leG31, hS, hO⟩
  refine zQ ?_; obtain ⟨q32, hq32, H⟩ := bnd H; refine zM (fun F w => ∃ (Fb : Fr) (G : Gm), F = upds Fb [(2, .bool q32)] ∧ Gle G31 G ∧ SO G0 w0 G w []) ?_ ?_
  ·have Hoq32 := H; have H := hq32; refine zR ?_
   have l0_2 := leG6.trans leG31
   refine WL_run tabH (cellsW (hS.sat.le leG31) hcb4) 3 [_] rfl rfl (ao (h1.mono RTLandPerson_mono l0_2).1 an) ?_; obtain ⟨y33, hy33, H⟩ := bnd H; refine zO rfl (zC cb83 (f83_ok (x0 := (x0.People.length : Int)) (x1 := 1) (x2 := 10) hS.sat  hy33) rfl rfl (fun w34 hb => ?_)); have hS := hS.keep hb; have hO := hO.below hb; refine zV (zm (v := (.bool y33)) rfl) rfl ?_
   rcases bcases y33 with hb35 | hb35
   ·have H := ifT hb35 H; refine WL_runK tabH (cellsW (hS.sat.le leG31) hcb4) (kb hb35) 3 [_] rfl rfl (ao (h2.mono RTLandEvent_mono l0_2).1 an) (zY rfl hb35 rfl rfl ?_); obtain ⟨y36, hy36, H⟩ := bnd H; refine zO rfl (zC cb83 (f83_ok (x0 := (x0.Events.length : Int)) (x1 := 1) (x2 := 7) hS.sat  hy36) rfl rfl (fun w37 hb => ?_)); have hS := hS.keep hb; have hO := hO.below hb; refine wk hb35 2 rfl rfl ?_
    rcases bcases y36 with hb38 | hb38
    ·have H := ifT hb38 H; refine WL_runK tabH (cellsW (hS.sat.le leG31) hcb4) (kb hb38) 6 [_] rfl rfl (ao (h3.mono RTLandMemory_mono l0_2).1 an) ?_
     rcases bcases (decide ((x0.Memories.length : Int) ≤ 10)) with hb39 | hb39
     ·have H := ifT hb39 H; refine WL_runK tabH (cellsW (hS.sat.le leG31) hcb4) (kb hb39) 2 [] rfl rfl an (zY rfl hb39 rfl rfl ?_)
      have hF40 : FnOk258 G31 157 [] [pV b4] (fun (z0 : TLandEvent) => f157 z0 x0) := ⟨cb157, fun G1 W1 hl hw z0 r1 H1 => f157_ok (x0 := z0) (x1 := x0) hw ((hcb4.mono leG31).mono hl) ((h1.mono RTLandPerson_mono l0_2).mono RTLandPerson_mono hl) ((h2.mono RTLandEvent_mono l0_2).mono RTLandEvent_mono hl) ((h3.mono RTLandMemory_mono l0_2).mono RTLandMemory_mono hl) H1⟩
      refine zV (rn_func (vs := []) (us := [pV b4]) rfl rfl) rfl (zY rfl hb39 rfl rfl ?_); obtain ⟨y41, hy41, H⟩ := bnd H; refine zO rfl (zC cb156 (f156_ok (x0 := x0.Events) (x1 := (fun (z0 : TLandEvent) => f157 z0 x0)) hS.sat (h2.mono RTLandEvent_mono l0_2) hF40 hy41) rfl rfl (fun w42 hb => ?_)); have hS := hS.keep hb; have hO := hO.below hb; refine wk hb39 3 rfl rfl ?_
      rcases bcases (!y41) with hb43 | hb43
      ·have H := ifT hb43 H; refine WL_runK tabH (cellsW (hS.sat.le leG31) hcb4) (kb hb43) 2 [] rfl rfl an (zY rfl hb43 rfl rfl ?_)
       have hF44 : FnOk260 G31 159 [] [pV b4] (fun (z0 : TLandMemory) => f159 z0 x0) := ⟨cb159, fun G1 W1 hl hw z0 r1 H1 => f159_ok (x0 := z0) (x1 := x0) hw ((hcb4.mono leG31).mono hl) ((h1.mono RTLandPerson_mono l0_2).mono RTLandPerson_mono hl) ((h2.mono RTLandEvent_mono l0_2).mono RTLandEvent_mono hl) ((h3.mono RTLandMemory_mono l0_2).mono RTLandMemory_mono hl) H1⟩
       refine zV (rn_func (vs := []) (us := [pV b4]) rfl rfl) rfl (zY rfl hb43 rfl rfl ?_); obtain ⟨y45, hy45, H⟩ := bnd H; refine zO rfl (zC cb158 (f158_ok (x0 := x0.Memories) (x1 := (fun (z0 : TLandMemory) => f159 z0 x0)) hS.sat (h3.mono RTLandMemory_mono l0_2) hF44 hy45) rfl rfl (fun w46 hb => ?_)); have hS := hS.keep hb; have hO := hO.below hb; refine wk hb43 3 rfl rfl ?_; refine zN ?_
       have hO : Owns _ _ _ [] := hO
       cases H
       exact ⟨_, G31, zu _ _ ⟨rfl, trivial⟩, Gle.refl _, hS, hO⟩
      ·have H := ifF hb43 H; refine wk hb43 7 rfl rfl ?_; refine zN ?_
       have hO : Owns _ _ _ [] := hO
       cases H
       exact ⟨_, G31, zu _ _ ⟨rfl, trivial⟩, Gle.refl _, hS, hO⟩
     ·have H := ifF hb39 H; refine wk hb39 7 rfl rfl ?_; refine wr 7 rfl ?_; refine zN ?_
      have hO : Owns _ _ _ [] := hO
      cases H
      exact ⟨_, G31, zu _ _ ⟨rfl, trivial⟩, Gle.refl _, hS, hO⟩
    ·have H := ifF hb38 H; refine wk hb38 6 rfl rfl ?_; refine wr 14 rfl ?_; refine zN ?_
     have hO : Owns _ _ _ [] := hO
     cases H
     exact ⟨_, G31, zu _ _ ⟨rfl, trivial⟩, Gle.refl _, hS, hO⟩
   ·have H := ifF hb35 H; refine wk hb35 6 rfl rfl ?_; refine wr 20 rfl ?_; refine zN ?_
    have hO : Owns _ _ _ [] := hO
    cases H
    exact ⟨_, G31, zu _ _ ⟨rfl, trivial⟩, Gle.refl _, hS, hO⟩
  ·rintro F w47 ⟨Fb, G48, rfl, leG48, hS, hO⟩
   refine zr ?_
   have H : some q32 = some r := H
   cases H
   exact ⟨rfl, hS.below⟩
set_option maxHeartbeats 1000000 in
theorem f26_ok {G0 : Gm} {w0 : World} (hS0 : Sat G0 w0) {x0 : TLandBook} {a1 : Option Addr} {n1 c1 : Nat} {a2 : Option Addr} {n2 c2 : Nat} {a3 : Option Addr} {n3 c3 : Nat} (h1 : RSl RTLandPerson 2 G0 a1 n1 c1 x0.People) (h2 : RSl RTLandEvent 2 G0 a2 n2 c2 x0.Events) (h3 : RSl RTLandMemory 4 G0 a3 n3 c3 x0.Memories) {r : Int} (H : f26 x0 = some r) :
  Calls Tryz.prog 26 #[.agg #[.slice a1 n1 c1, .slice a2 n2 c2, .slice a3 n3 c3]] w0 (RetV w0 (iV r)) := by
 have hS := Since.start hS0
 have hO := own0 G0 w0
 unfold f26 at H
 refine enter1 (N := 6) (shutV _ _) Tryz.func26 rfl rfl rfl rfl (zQ (zR (zO rfl (OpP_newF (v := fun b => pV b) (cs := [.slice a1 n1 c1, .slice a2 n2 c2, .slice a3 n3 c3]) (e := 32) (rn_boxA rfl) hS.sat rfl (fun b4 G6 w5 hg hcb4 => ?_))))); have hS := hS.grow hg; have hO := hO.grow hg
 have leG6 := hg.le
 refine zV (zA (v := (iV 0)) rfl) rfl (zN (zQ (zQ (zR (zV (rn_loadA ag32 (cs := [.slice a1 n1 c1, .slice a2 n2 c2, .slice a3 n3 c3]) rfl rfl (fun j v hj => hS.sat.cell (hcb4.drop_take 0 3 j v hj))) rfl ?_))))); obtain ⟨y7, hy7, H⟩ := bnd H; refine zO rfl (zC cb79 (f79_ok (x0 := x0) hS.sat (h1.mono RTLandPerson_mono leG6) (h2.mono RTLandEvent_mono leG6) (h3.mono RTLandMemory_mono leG6) hy7) rfl rfl (fun w8 hb => ?_)); have hS := hS.keep hb; have hO := hO.below hb; refine zV (rn_not rfl) rfl (zN (zT rfl (fun hb9 => ?_) (fun hb9 => ?_)))
 ·have H := ifT hb9 H; refine zQ (zR (zV (zA (v := (iV 2)) rfl) rfl (zN (zr ?_))))
  have H : some 2 = some r := H
  cases H
  exact ⟨rfl, hS.below⟩
 ·have H := ifF hb9 H; refine zP (zQ (zR (zV (zA (v := (iV 0)) rfl) rfl (zN (zr ?_)))))
  have H : some 0 = some r := H
  cases H
  exact ⟨rfl, hS.below⟩
set_option maxHeartbeats 1000000 in
theorem f210_ok {G0 : Gm} {w0 : World} (hS0 : Sat G0 w0) {x0 : Int} {x1 : Int}  {r : Bool} (H : f210 x0 x1 = some r) :
  Calls Tryz.prog 210 #[iV x0, iV x1] w0 (RetV w0 (.bool r)) := by
 have hS := Since.start hS0
 have hO := own0 G0 w0
 unfold f210 at H
 refine enter1 (N := 10) (shutV _ _) Tryz.func210 rfl rfl rfl rfl (zQ (zR (zV (zA (v := (.bool false)) rfl) rfl (zN (zQ (zR ?_)))))); refine wr 2 rfl ?_; obtain ⟨y1, hy1, H⟩ := bnd H; refine zV (rn_shr rfl rfl hy1) rfl (zV (rn_and rfl rfl) rfl ?_); refine wr 2 rfl ?_; refine zN (zr ?_)
 have H : some ((andI .i64 y1 1) == 1) = some r := H
 cases H
 exact ⟨rfl, hS.below⟩
end Go.Proofs.YtncjnffbdhckdaaGreatDoor
