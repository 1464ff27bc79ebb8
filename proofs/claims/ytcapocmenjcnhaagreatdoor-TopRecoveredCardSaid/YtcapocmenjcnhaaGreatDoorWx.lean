/-
 The walks: each Go function computes its plain function (printed by a program of ours).
-/
import Derived.Test.YtcapocmenjcnhaaGreatDoorFr
import Derived.Test.YtcapocmenjcnhaaGreatDoorBsC
set_option linter.unusedVariables false
set_option linter.unusedSimpArgs false
namespace Go.Proofs.YtcapocmenjcnhaaGreatDoor
open Go.RowKit
section
variable {κ : Ctx} {p : List PanicEntry → Fr → World → Prop} {N : Nat} {F : Fr} {w : World} {K : Fr → World → Prop} {ops : Array Oper}
theorem wr (n : Nat) {l l' : List Oper} {F' : Fr} (hr : zeI tab 0 [] none ops N n [] l F [] [] = some (l', F', [], [])) (h : WL κ Tryz.prog N ops p K l' F' w) : WL κ Tryz.prog N ops p K l F w := qY qR (zcm _) n [] hr rfl an h
theorem wk {b v : Bool} (hb : b = v) (n : Nat) {l l' : List Oper} {F' : Fr} {es : List (Value × Value)} (hr : zeI tab 0 [] (some (.bool b, v)) ops N n [] l F [] [] = some (l', F', es, [])) (he : es.map (·.1) = es.map (·.2)) (h : WL κ Tryz.prog N ops p K l' F' w) : WL κ Tryz.prog N ops p K l F w := qp qR (zcm _) (kb hb) n [] hr he an h
end
set_option maxRecDepth 20000
set_option maxHeartbeats 1000000 in
theorem zxC {G0 : Gm} {w0 : World} (hS0 : Sat G0 w0) {x0 : zJ} {a1 : Option Addr} {n1 c1 : Nat} {a2 : Option Addr} {n2 c2 : Nat} {a3 : Option Addr} {n3 c3 : Nat} {a4 : Option Addr} {n4 c4 : Nat} {a5 : Option Addr} {n5 c5 : Nat} {a6 : Option Addr} {n6 c6 : Nat} {a7 : Option Addr} {n7 c7 : Nat} {a8 : Option Addr} {n8 c8 : Nat} {a9 : Option Addr} {n9 c9 : Nat} {a10 : Option Addr} {n10 c10 : Nat} {a11 : Option Addr} {n11 c11 : Nat} {a12 : Option Addr} {n12 c12 : Nat} {a13 : Option Addr} {n13 c13 : Nat} {a14 : Option Addr} {n14 c14 : Nat} {a15 : Option Addr} {n15 c15 : Nat} {a16 : Option Addr} {n16 c16 : Nat} (h1 : RSl zW 1 G0 a1 n1 c1 x0.Islet.Wells) (h2 : RSl qV 6 G0 a2 n2 c2 x0.Islet.Months) (h3 : RSl qG 2 G0 a3 n3 c3 x0.Book.People) (h4 : RSl qW 2 G0 a4 n4 c4 x0.Book.Events) (h5 : RSl qH 4 G0 a5 n5 c5 x0.Book.Memories) (h6 : RSl zE 12 G0 a6 n6 c6 x0.Reef.Places) (h7 : RSl zW 1 G0 a7 n7 c7 x0.Sea.Infested) (h8 : RSl zW 1 G0 a8 n8 c8 x0.Sea.Clean) (h9 : RSl yo 4 G0 a9 n9 c9 x0.Sea.Trips) (h10 : RSl zW 1 G0 a10 n10 c10 x0.Store.Stock) (h11 : RSl yM 2 G0 a11 n11 c11 x0.Store.Use) (h12 : RSl yR 3 G0 a12 n12 c12 x0.Store.Lots) (h13 : RSl yn 3 G0 a13 n13 c13 x0.System.Loads) (h14 : RSl zW 1 G0 a14 n14 c14 x0.Fishing.Roads) (h15 : RSl zW 1 G0 a15 n15 c15 x0.Fishing.Zones) (h16 : RSl zW 1 G0 a16 n16 c16 x0.Fishing.Berths) {r : Bool} (H : f13 x0 = some r) :
  Calls Tryz.prog 13 #[.agg #[iV x0.Islet.Cap, iV x0.Islet.Start.Low, iV x0.Islet.Start.High, iV x0.Islet.Roof, iV x0.Islet.Sand, iV x0.Islet.Soak.Low, iV x0.Islet.Soak.High, iV x0.Islet.Leak.Low, iV x0.Islet.Leak.High, iV x0.Islet.Pump, iV x0.Islet.Keep, iV x0.Islet.Size, .slice a1 n1 c1, .slice a2 n2 c2, iV x0.Islet.Most, iV x0.Islet.Row, iV x0.Tank, .slice a3 n3 c3, .slice a4 n4 c4, .slice a5 n5 c5, .slice a6 n6 c6, iV x0.Reef.Miss, iV x0.Reef.Seasons, iV x0.Sea.Islets, .slice a7 n7 c7, .slice a8 n8 c8, .slice a9 n9 c9, iV x0.Sea.Wait, .slice a10 n10 c10, .slice a11 n11 c11, iV x0.Store.Gap.Low, iV x0.Store.Gap.High, .slice a12 n12 c12, iV x0.Store.Hold, iV x0.System.Sunny, iV x0.System.Cloudy, iV x0.System.Size, iV x0.System.Fade, iV x0.System.Start, .slice a13 n13 c13, iV x0.System.Days, iV x0.System.Window, iV x0.System.Most, iV x0.System.Panel, iV x0.System.Battery, iV x0.Fishing.Cells, .slice a14 n14 c14, .slice a15 n15 c15, .slice a16 n16 c16, iV x0.Fishing.Days, iV x0.Money]] w0 (qQ w0 (.bool r)) := by
 have hS := Since.start hS0
 have hO := xw G0 w0
 unfold f13 at H
 refine z8 (N := 147) (qS _ _) Tryz.func13 rfl rfl rfl rfl (zc (zb (zp rfl (zI (v := fun b => pV b) (cs := [iV x0.Islet.Cap, iV x0.Islet.Start.Low, iV x0.Islet.Start.High, iV x0.Islet.Roof, iV x0.Islet.Sand, iV x0.Islet.Soak.Low, iV x0.Islet.Soak.High, iV x0.Islet.Leak.Low, iV x0.Islet.Leak.High, iV x0.Islet.Pump, iV x0.Islet.Keep, iV x0.Islet.Size, .slice a1 n1 c1, .slice a2 n2 c2, iV x0.Islet.Most, iV x0.Islet.Row, iV x0.Tank, .slice a3 n3 c3, .slice a4 n4 c4, .slice a5 n5 c5, .slice a6 n6 c6, iV x0.Reef.Miss, iV x0.Reef.Seasons, iV x0.Sea.Islets, .slice a7 n7 c7, .slice a8 n8 c8, .slice a9 n9 c9, iV x0.Sea.Wait, .slice a10 n10 c10, .slice a11 n11 c11, iV x0.Store.Gap.Low, iV x0.Store.Gap.High, .slice a12 n12 c12, iV x0.Store.Hold, iV x0.System.Sunny, iV x0.System.Cloudy, iV x0.System.Size, iV x0.System.Fade, iV x0.System.Start, .slice a13 n13 c13, iV x0.System.Days, iV x0.System.Window, iV x0.System.Most, iV x0.System.Panel, iV x0.System.Battery, iV x0.Fishing.Cells, .slice a14 n14 c14, .slice a15 n15 c15, .slice a16 n16 c16, iV x0.Fishing.Days, iV x0.Money]) (e := 49) (z6 rfl) hS.sat rfl (fun b17 G19 w18 hg hcb17 => ?_))))); have hS := hS.grow hg; have hO := hO.grow hg
 have leG19 := hg.le
 refine za (ze (v := (.bool false)) rfl) rfl (zd (zc (zc (zb (za (ze (v := (iV 0)) rfl) rfl (zd ?_)))))); obtain ⟨q22, hq22, H⟩ := bnd H; refine qx (fun F w => ∃ (p21 : Unit) (Fb : Fr), q22 = .inl p21 ∧ F = qC Fb [(1, pV b17)] ∧ w18 = w) ?_ ?_
 ·refine zB (xr hq22 (fun s20 F w => ∃ (Fb : Fr), F = qC Fb [(1, pV b17), (3, iV s20)] ∧ w18 = w) ?_ ?_)
  ·exact ⟨_, zi _ _ ⟨rfl, rfl, trivial⟩, rfl⟩
  ·rintro s20 F wl t23 ⟨Fb, rfl, rfl⟩
   intro H1 hqq22
   have Hoq22 := H; have H := H1
   unfold zdN at H
   refine zc (zc ?_); obtain ⟨q26, hq26, H⟩ := bnd H; refine qx (fun F w => ∃ (Fb : Fr), F = qC Fb [(1, pV b17), (3, iV s20), (13, .bool q26)] ∧ w18 = w) ?_ ?_
   ·have Hoq26 := H; have H := hq26; refine zb (qY qR (zZ hS.sat hcb17) 7 [_] rfl rfl (ao (h12.mono ym leG19).1 an) ?_)
    rcases qo (decide (s20 < (x0.Store.Lots.length : Int))) with hb27 | hb27
    ·have H := ifT hb27 H; refine wk hb27 3 rfl rfl ?_; refine zd ?_; cases H
     exact ⟨_, zi _ _ ⟨rfl, rfl, rfl, trivial⟩, rfl⟩
    ·have H := ifF hb27 H; refine wk hb27 3 rfl rfl ?_; refine zd ?_; cases H
     exact ⟨_, zi _ _ ⟨rfl, rfl, rfl, trivial⟩, rfl⟩
   ·rintro F wl ⟨Fb, rfl, rfl⟩
    refine z7 rfl (fun hb30 => ?_) (fun hb30 => ?_)
    ·have H := ifT hb30 H; refine zD (zc (zB (zc (zb (qY qR (zZ hS.sat hcb17) 4 [] rfl rfl an ?_))))); obtain ⟨y31, hy31, H⟩ := bnd H; refine xi zzw (h12.mono ym leG19) hy31 rfl rfl rfl ?_
     rintro b32 o32 _ hcb32 _ ⟨a33, n33, c33, ⟨⟩, h33⟩
     refine za (zj zuW rfl) rfl (za (zk znM rfl (hS.sat.cell (hcb32 0 _ rfl))) rfl (qY qR (zcm _) 2 [_] rfl rfl (ao h33.1 an) (zd (z7 rfl (fun hb34 => ?_) (fun hb34 => ?_)))))
     ·have H := ifT hb34 H; refine zc (zb (za (ze (v := (.bool false)) rfl) rfl (zd (zH ?_)))); cases H
      have hres := hqq22 _ rfl
      subst hres; have H := Hoq22
      have H : some false = some r := H
      cases H
      exact ⟨rfl, hS.below⟩
     ·have H := ifF hb34 H; refine zD (zb ?_); refine wr 3 rfl ?_; refine zd ?_; cases H; refine ⟨_, rfl, ?_⟩
      exact ⟨_, zi _ _ ⟨rfl, rfl, trivial⟩, rfl⟩
    ·have H := ifF hb30 H; refine ql rfl ?_; cases H
     have hres := hqq22 _ rfl
     subst hres
     exact ⟨_, _, rfl, zi _ _ ⟨rfl, trivial⟩, rfl⟩
 ·rintro F wl ⟨p21, Fb, rfl, rfl, rfl⟩
  refine zc ?_; obtain ⟨q37, hq37, H⟩ := bnd H; refine qx (fun F w => ∃ (Fb : Fr), F = qC Fb [(2, .bool q37)] ∧ w18 = w) ?_ ?_
  ·have Hoq37 := H; have H := hq37; refine zb (qY qR (zZ hS.sat hcb17) 6 [_] rfl rfl (ao (h1.mono zm leG19).1 an) ?_)
   rcases qo (decide ((x0.Islet.Wells.length : Int) ≤ 8)) with hb38 | hb38
   ·have H := ifT hb38 H; refine qp qR (zZ hS.sat hcb17) (kb hb38) 7 [_] rfl rfl (ao (h2.mono xj leG19).1 an) ?_
    rcases qo (decide ((x0.Islet.Months.length : Int) ≤ 4)) with hb39 | hb39
    ·have H := ifT hb39 H; refine qp qR (zZ hS.sat hcb17) (kb hb39) 7 [_] rfl rfl (ao (h3.mono yy leG19).1 an) ?_
     rcases qo (decide ((x0.Book.People.length : Int) ≤ 12)) with hb40 | hb40
     ·have H := ifT hb40 H; refine qp qR (zZ hS.sat hcb17) (kb hb40) 7 [_] rfl rfl (ao (h4.mono yG leG19).1 an) ?_
      rcases qo (decide ((x0.Book.Events.length : Int) ≤ 9)) with hb41 | hb41
      ·have H := ifT hb41 H; refine qp qR (zZ hS.sat hcb17) (kb hb41) 7 [_] rfl rfl (ao (h5.mono yz leG19).1 an) ?_
       rcases qo (decide ((x0.Book.Memories.length : Int) ≤ 12)) with hb42 | hb42
       ·have H := ifT hb42 H; refine qp qR (zZ hS.sat hcb17) (kb hb42) 7 [_] rfl rfl (ao (h6.mono zl leG19).1 an) ?_
        rcases qo (decide ((x0.Reef.Places.length : Int) ≤ 3)) with hb43 | hb43
        ·have H := ifT hb43 H; refine qp qR (zZ hS.sat hcb17) (kb hb43) 6 [] rfl rfl an ?_
         rcases qo (decide (x0.Reef.Seasons ≤ 2)) with hb44 | hb44
         ·have H := ifT hb44 H; refine qp qR (zZ hS.sat hcb17) (kb hb44) 7 [_] rfl rfl (ao (h7.mono zm leG19).1 an) ?_
          rcases qo (decide ((x0.Sea.Infested.length : Int) ≤ 10)) with hb45 | hb45
          ·have H := ifT hb45 H; refine qp qR (zZ hS.sat hcb17) (kb hb45) 7 [_] rfl rfl (ao (h8.mono zm leG19).1 an) ?_
           rcases qo (decide ((x0.Sea.Clean.length : Int) ≤ 10)) with hb46 | hb46
           ·have H := ifT hb46 H; refine qp qR (zZ hS.sat hcb17) (kb hb46) 7 [_] rfl rfl (ao (h9.mono yS leG19).1 an) ?_
            rcases qo (decide ((x0.Sea.Trips.length : Int) ≤ 8)) with hb47 | hb47
            ·have H := ifT hb47 H; refine qp qR (zZ hS.sat hcb17) (kb hb47) 7 [_] rfl rfl (ao (h10.mono zm leG19).1 an) ?_
             rcases qo (decide ((x0.Store.Stock.length : Int) ≤ 8)) with hb48 | hb48
             ·have H := ifT hb48 H; refine qp qR (zZ hS.sat hcb17) (kb hb48) 7 [_] rfl rfl (ao (h11.mono yp leG19).1 an) ?_
              rcases qo (decide ((x0.Store.Use.length : Int) ≤ 8)) with hb49 | hb49
              ·have H := ifT hb49 H; refine qp qR (zZ hS.sat hcb17) (kb hb49) 7 [_] rfl rfl (ao (h12.mono ym leG19).1 an) ?_
               rcases qo (decide ((x0.Store.Lots.length : Int) ≤ 8)) with hb50 | hb50
               ·have H := ifT hb50 H; refine qp qR (zZ hS.sat hcb17) (kb hb50) 7 [_] rfl rfl (ao (h13.mono ji leG19).1 an) ?_
                rcases qo (decide ((x0.System.Loads.length : Int) ≤ 7)) with hb51 | hb51
                ·have H := ifT hb51 H; refine qp qR (zZ hS.sat hcb17) (kb hb51) 6 [] rfl rfl an ?_
                 rcases qo (decide (x0.System.Days ≤ 4)) with hb52 | hb52
                 ·have H := ifT hb52 H; refine qp qR (zZ hS.sat hcb17) (kb hb52) 7 [_] rfl rfl (ao (h14.mono zm leG19).1 an) ?_
                  rcases qo (decide ((x0.Fishing.Roads.length : Int) ≤ 10)) with hb53 | hb53
                  ·have H := ifT hb53 H; refine qp qR (zZ hS.sat hcb17) (kb hb53) 7 [_] rfl rfl (ao (h15.mono zm leG19).1 an) ?_
                   rcases qo (decide ((x0.Fishing.Zones.length : Int) ≤ 5)) with hb54 | hb54
                   ·have H := ifT hb54 H; refine qp qR (zZ hS.sat hcb17) (kb hb54) 7 [_] rfl rfl (ao (h16.mono zm leG19).1 an) (zd ?_); cases H
                    exact ⟨_, zi _ _ ⟨rfl, trivial⟩, rfl⟩
                   ·have H := ifF hb54 H; refine wk hb54 7 rfl rfl ?_; refine zd ?_; cases H
                    exact ⟨_, zi _ _ ⟨rfl, trivial⟩, rfl⟩
                  ·have H := ifF hb53 H; refine wk hb53 7 rfl rfl ?_; refine wr 7 rfl ?_; refine zd ?_; cases H
                   exact ⟨_, zi _ _ ⟨rfl, trivial⟩, rfl⟩
                 ·have H := ifF hb52 H; refine wk hb52 7 rfl rfl ?_; refine wr 14 rfl ?_; refine zd ?_; cases H
                  exact ⟨_, zi _ _ ⟨rfl, trivial⟩, rfl⟩
                ·have H := ifF hb51 H; refine wk hb51 6 rfl rfl ?_; refine wr 21 rfl ?_; refine zd ?_; cases H
                 exact ⟨_, zi _ _ ⟨rfl, trivial⟩, rfl⟩
               ·have H := ifF hb50 H; refine wk hb50 7 rfl rfl ?_; refine wr 27 rfl ?_; refine zd ?_; cases H
                exact ⟨_, zi _ _ ⟨rfl, trivial⟩, rfl⟩
              ·have H := ifF hb49 H; refine wk hb49 7 rfl rfl ?_; refine wr 34 rfl ?_; refine zd ?_; cases H
               exact ⟨_, zi _ _ ⟨rfl, trivial⟩, rfl⟩
             ·have H := ifF hb48 H; refine wk hb48 7 rfl rfl ?_; refine wr 41 rfl ?_; refine zd ?_; cases H
              exact ⟨_, zi _ _ ⟨rfl, trivial⟩, rfl⟩
            ·have H := ifF hb47 H; refine wk hb47 7 rfl rfl ?_; refine wr 48 rfl ?_; refine zd ?_; cases H
             exact ⟨_, zi _ _ ⟨rfl, trivial⟩, rfl⟩
           ·have H := ifF hb46 H; refine wk hb46 7 rfl rfl ?_; refine wr 55 rfl ?_; refine zd ?_; cases H
            exact ⟨_, zi _ _ ⟨rfl, trivial⟩, rfl⟩
          ·have H := ifF hb45 H; refine wk hb45 7 rfl rfl ?_; refine wr 62 rfl ?_; refine zd ?_; cases H
           exact ⟨_, zi _ _ ⟨rfl, trivial⟩, rfl⟩
         ·have H := ifF hb44 H; refine wk hb44 7 rfl rfl ?_; refine wr 69 rfl ?_; refine zd ?_; cases H
          exact ⟨_, zi _ _ ⟨rfl, trivial⟩, rfl⟩
        ·have H := ifF hb43 H; refine wk hb43 6 rfl rfl ?_; refine wr 76 rfl ?_; refine zd ?_; cases H
         exact ⟨_, zi _ _ ⟨rfl, trivial⟩, rfl⟩
       ·have H := ifF hb42 H; refine wk hb42 7 rfl rfl ?_; refine wr 82 rfl ?_; refine zd ?_; cases H
        exact ⟨_, zi _ _ ⟨rfl, trivial⟩, rfl⟩
      ·have H := ifF hb41 H; refine wk hb41 7 rfl rfl ?_; refine wr 89 rfl ?_; refine zd ?_; cases H
       exact ⟨_, zi _ _ ⟨rfl, trivial⟩, rfl⟩
     ·have H := ifF hb40 H; refine wk hb40 7 rfl rfl ?_; refine wr 96 rfl ?_; refine zd ?_; cases H
      exact ⟨_, zi _ _ ⟨rfl, trivial⟩, rfl⟩
    ·have H := ifF hb39 H; refine wk hb39 7 rfl rfl ?_; refine wr 103 rfl ?_; refine zd ?_; cases H
     exact ⟨_, zi _ _ ⟨rfl, trivial⟩, rfl⟩
   ·have H := ifF hb38 H; refine wk hb38 7 rfl rfl ?_; refine wr 110 rfl ?_; refine zd ?_; cases H
    exact ⟨_, zi _ _ ⟨rfl, trivial⟩, rfl⟩
  ·rintro F wl ⟨Fb, rfl, rfl⟩
   refine zH ?_
   have H : some q37 = some r := H
   cases H
   exact ⟨rfl, hS.below⟩
set_option maxHeartbeats 1000000 in
theorem zvi {G0 : Gm} {w0 : World} (hS0 : Sat G0 w0) {x0 : (List Int)} {a1 : Option Addr} {n1 c1 : Nat} (h1 : RSl zW 1 G0 a1 n1 c1 x0) {r : (List Int)} (H : zpb x0 = some r) :
  Calls Tryz.prog 122 #[.slice a1 n1 c1] w0 (yP G0 w0 (fun G v => ∃ (ra0 : Option Addr) (rn0 rc0 : Nat), v = .slice ra0 rn0 rc0 ∧ RSl zW 1 G ra0 rn0 rc0 r)) := by
 have hS := Since.start hS0
 have hO := xw G0 w0
 unfold zpb at H
 refine z8 (N := 5) (xN _ _ _) Tryz.func122 rfl rfl rfl rfl (zc (zb (za (ze (v := (.slice none 0 0)) rfl) rfl (zd (zc (zb (za (zf (v := (.slice a1 n1 c1)) rfl) rfl ?_))))))); have hO := hO.cons_nil 3 1; obtain ⟨y3, hy3, H⟩ := bnd H; refine zp rfl (qM (k := 0) zeB zf3 hS hO rfl rfl (Rd.nil zW 1 G0) h1 hy3 rfl rfl rfl rfl rfl (fun aw4 cw4 w4 clw4 hS hO hrw4 => ?_))
 have hO : Owns _ _ _ ([⟨3, 1, y3.length, .slice aw4 y3.length cw4, clw4⟩]) := hO
 refine za (ze (v := (.slice aw4 y3.length cw4)) rfl) rfl (zd (zH ?_)); obtain ⟨G5, leG5, hS, hO, hfG5⟩ := hO.freezeS hS zm (k := 0) rfl hrw4 rfl
 have H : some y3 = some r := H
 cases H
 exact ⟨_, _, rfl, hS.toGrow, _, _, _, rfl, hfG5⟩
set_option maxHeartbeats 1000000 in
theorem zvh {G0 : Gm} {w0 : World} (hS0 : Sat G0 w0) {x0 : (List xS)} {a1 : Option Addr} {n1 c1 : Nat} (h1 : RSl qV 6 G0 a1 n1 c1 x0) {r : (List xS)} (H : zpa x0 = some r) :
  Calls Tryz.prog 123 #[.slice a1 n1 c1] w0 (yP G0 w0 (fun G v => ∃ (ra0 : Option Addr) (rn0 rc0 : Nat), v = .slice ra0 rn0 rc0 ∧ RSl qV 6 G ra0 rn0 rc0 r)) := by
 have hS := Since.start hS0
 have hO := xw G0 w0
 unfold zpa at H
 refine z8 (N := 5) (xN _ _ _) Tryz.func123 rfl rfl rfl rfl (zc (zb (za (ze (v := (.slice none 0 0)) rfl) rfl (zd (zc (zb (za (zf (v := (.slice a1 n1 c1)) rfl) rfl ?_))))))); have hO := hO.cons_nil 193 6; obtain ⟨y3, hy3, H⟩ := bnd H; refine zp rfl (qM (k := 0) zzB zqo hS hO rfl rfl (Rd.nil qV 6 G0) h1 hy3 rfl rfl rfl rfl rfl (fun aw4 cw4 w4 clw4 hS hO hrw4 => ?_))
 have hO : Owns _ _ _ ([⟨193, 6, y3.length, .slice aw4 y3.length cw4, clw4⟩]) := hO
 refine za (ze (v := (.slice aw4 y3.length cw4)) rfl) rfl (zd (zH ?_)); obtain ⟨G5, leG5, hS, hO, hfG5⟩ := hO.freezeS hS xj (k := 0) rfl hrw4 rfl
 have H : some y3 = some r := H
 cases H
 exact ⟨_, _, rfl, hS.toGrow, _, _, _, rfl, hfG5⟩
set_option maxHeartbeats 1000000 in
theorem zvg {G0 : Gm} {w0 : World} (hS0 : Sat G0 w0) {x0 : (List xm)} {a1 : Option Addr} {n1 c1 : Nat} (h1 : RSl qG 2 G0 a1 n1 c1 x0) {r : (List xm)} (H : zo9 x0 = some r) :
  Calls Tryz.prog 124 #[.slice a1 n1 c1] w0 (yP G0 w0 (fun G v => ∃ (ra0 : Option Addr) (rn0 rc0 : Nat), v = .slice ra0 rn0 rc0 ∧ RSl qG 2 G ra0 rn0 rc0 r)) := by
 have hS := Since.start hS0
 have hO := xw G0 w0
 unfold zo9 at H
 refine z8 (N := 5) (xN _ _ _) Tryz.func124 rfl rfl rfl rfl (zc (zb (za (ze (v := (.slice none 0 0)) rfl) rfl (zd (zc (zb (za (zf (v := (.slice a1 n1 c1)) rfl) rfl ?_))))))); have hO := hO.cons_nil 196 2; obtain ⟨y3, hy3, H⟩ := bnd H; refine zp rfl (qM (k := 0) zzA zqg hS hO rfl rfl (Rd.nil qG 2 G0) h1 hy3 rfl rfl rfl rfl rfl (fun aw4 cw4 w4 clw4 hS hO hrw4 => ?_))
 have hO : Owns _ _ _ ([⟨196, 2, y3.length, .slice aw4 y3.length cw4, clw4⟩]) := hO
 refine za (ze (v := (.slice aw4 y3.length cw4)) rfl) rfl (zd (zH ?_)); obtain ⟨G5, leG5, hS, hO, hfG5⟩ := hO.freezeS hS yy (k := 0) rfl hrw4 rfl
 have H : some y3 = some r := H
 cases H
 exact ⟨_, _, rfl, hS.toGrow, _, _, _, rfl, hfG5⟩
set_option maxHeartbeats 1000000 in
theorem zvf {G0 : Gm} {w0 : World} (hS0 : Sat G0 w0) {x0 : (List xT)} {a1 : Option Addr} {n1 c1 : Nat} (h1 : RSl qW 2 G0 a1 n1 c1 x0) {r : (List xT)} (H : zo8 x0 = some r) :
  Calls Tryz.prog 125 #[.slice a1 n1 c1] w0 (yP G0 w0 (fun G v => ∃ (ra0 : Option Addr) (rn0 rc0 : Nat), v = .slice ra0 rn0 rc0 ∧ RSl qW 2 G ra0 rn0 rc0 r)) := by
 have hS := Since.start hS0
 have hO := xw G0 w0
 unfold zo8 at H
 refine z8 (N := 5) (xN _ _ _) Tryz.func125 rfl rfl rfl rfl (zc (zb (za (ze (v := (.slice none 0 0)) rfl) rfl (zd (zc (zb (za (zf (v := (.slice a1 n1 c1)) rfl) rfl ?_))))))); have hO := hO.cons_nil 198 2; obtain ⟨y3, hy3, H⟩ := bnd H; refine zp rfl (qM (k := 0) zzz zqp hS hO rfl rfl (Rd.nil qW 2 G0) h1 hy3 rfl rfl rfl rfl rfl (fun aw4 cw4 w4 clw4 hS hO hrw4 => ?_))
 have hO : Owns _ _ _ ([⟨198, 2, y3.length, .slice aw4 y3.length cw4, clw4⟩]) := hO
 refine za (ze (v := (.slice aw4 y3.length cw4)) rfl) rfl (zd (zH ?_)); obtain ⟨G5, leG5, hS, hO, hfG5⟩ := hO.freezeS hS yG (k := 0) rfl hrw4 rfl
 have H : some y3 = some r := H
 cases H
 exact ⟨_, _, rfl, hS.toGrow, _, _, _, rfl, hfG5⟩
set_option maxHeartbeats 1000000 in
theorem zve {G0 : Gm} {w0 : World} (hS0 : Sat G0 w0) {x0 : (List xn)} {a1 : Option Addr} {n1 c1 : Nat} (h1 : RSl qH 4 G0 a1 n1 c1 x0) {r : (List xn)} (H : zo7 x0 = some r) :
  Calls Tryz.prog 126 #[.slice a1 n1 c1] w0 (yP G0 w0 (fun G v => ∃ (ra0 : Option Addr) (rn0 rc0 : Nat), v = .slice ra0 rn0 rc0 ∧ RSl qH 4 G ra0 rn0 rc0 r)) := by
 have hS := Since.start hS0
 have hO := xw G0 w0
 unfold zo7 at H
 refine z8 (N := 5) (xN _ _ _) Tryz.func126 rfl rfl rfl rfl (zc (zb (za (ze (v := (.slice none 0 0)) rfl) rfl (zd (zc (zb (za (zf (v := (.slice a1 n1 c1)) rfl) rfl ?_))))))); have hO := hO.cons_nil 201 4; obtain ⟨y3, hy3, H⟩ := bnd H; refine zp rfl (qM (k := 0) zzy zqh hS hO rfl rfl (Rd.nil qH 4 G0) h1 hy3 rfl rfl rfl rfl rfl (fun aw4 cw4 w4 clw4 hS hO hrw4 => ?_))
 have hO : Owns _ _ _ ([⟨201, 4, y3.length, .slice aw4 y3.length cw4, clw4⟩]) := hO
 refine za (ze (v := (.slice aw4 y3.length cw4)) rfl) rfl (zd (zH ?_)); obtain ⟨G5, leG5, hS, hO, hfG5⟩ := hO.freezeS hS yz (k := 0) rfl hrw4 rfl
 have H : some y3 = some r := H
 cases H
 exact ⟨_, _, rfl, hS.toGrow, _, _, _, rfl, hfG5⟩
set_option maxHeartbeats 1000000 in
theorem zvd {G0 : Gm} {w0 : World} (hS0 : Sat G0 w0) {x0 : (List zr)} {a1 : Option Addr} {n1 c1 : Nat} (h1 : RSl zE 12 G0 a1 n1 c1 x0) {r : (List zr)} (H : zo6 x0 = some r) :
  Calls Tryz.prog 127 #[.slice a1 n1 c1] w0 (yP G0 w0 (fun G v => ∃ (ra0 : Option Addr) (rn0 rc0 : Nat), v = .slice ra0 rn0 rc0 ∧ RSl zE 12 G ra0 rn0 rc0 r)) := by
 have hS := Since.start hS0
 have hO := xw G0 w0
 unfold zo6 at H
 refine z8 (N := 5) (xN _ _ _) Tryz.func127 rfl rfl rfl rfl (zc (zb (za (ze (v := (.slice none 0 0)) rfl) rfl (zd (zc (zb (za (zf (v := (.slice a1 n1 c1)) rfl) rfl ?_))))))); have hO := hO.cons_nil 70 12; obtain ⟨y3, hy3, H⟩ := bnd H; refine zp rfl (qM (k := 0) zef zqn hS hO rfl rfl (Rd.nil zE 12 G0) h1 hy3 rfl rfl rfl rfl rfl (fun aw4 cw4 w4 clw4 hS hO hrw4 => ?_))
 have hO : Owns _ _ _ ([⟨70, 12, y3.length, .slice aw4 y3.length cw4, clw4⟩]) := hO
 refine za (ze (v := (.slice aw4 y3.length cw4)) rfl) rfl (zd (zH ?_)); obtain ⟨G5, leG5, hS, hO, hfG5⟩ := hO.freezeS hS zl (k := 0) rfl hrw4 rfl
 have H : some y3 = some r := H
 cases H
 exact ⟨_, _, rfl, hS.toGrow, _, _, _, rfl, hfG5⟩
set_option maxHeartbeats 1000000 in
theorem zvc {G0 : Gm} {w0 : World} (hS0 : Sat G0 w0) {x0 : (List jx)} {a1 : Option Addr} {n1 c1 : Nat} (h1 : RSl yo 4 G0 a1 n1 c1 x0) {r : (List jx)} (H : zo5 x0 = some r) :
  Calls Tryz.prog 128 #[.slice a1 n1 c1] w0 (yP G0 w0 (fun G v => ∃ (ra0 : Option Addr) (rn0 rc0 : Nat), v = .slice ra0 rn0 rc0 ∧ RSl yo 4 G ra0 rn0 rc0 r)) := by
 have hS := Since.start hS0
 have hO := xw G0 w0
 unfold zo5 at H
 refine z8 (N := 5) (xN _ _ _) Tryz.func128 rfl rfl rfl rfl (zc (zb (za (ze (v := (.slice none 0 0)) rfl) rfl (zd (zc (zb (za (zf (v := (.slice a1 n1 c1)) rfl) rfl ?_))))))); have hO := hO.cons_nil 142 4; obtain ⟨y3, hy3, H⟩ := bnd H; refine zp rfl (qM (k := 0) zzx zqu hS hO rfl rfl (Rd.nil yo 4 G0) h1 hy3 rfl rfl rfl rfl rfl (fun aw4 cw4 w4 clw4 hS hO hrw4 => ?_))
 have hO : Owns _ _ _ ([⟨142, 4, y3.length, .slice aw4 y3.length cw4, clw4⟩]) := hO
 refine za (ze (v := (.slice aw4 y3.length cw4)) rfl) rfl (zd (zH ?_)); obtain ⟨G5, leG5, hS, hO, hfG5⟩ := hO.freezeS hS yS (k := 0) rfl hrw4 rfl
 have H : some y3 = some r := H
 cases H
 exact ⟨_, _, rfl, hS.toGrow, _, _, _, rfl, hfG5⟩
set_option maxHeartbeats 1000000 in
theorem zvb {G0 : Gm} {w0 : World} (hS0 : Sat G0 w0) {x0 : (List qy)} {a1 : Option Addr} {n1 c1 : Nat} (h1 : RSl yM 2 G0 a1 n1 c1 x0) {r : (List qy)} (H : zo4 x0 = some r) :
  Calls Tryz.prog 129 #[.slice a1 n1 c1] w0 (yP G0 w0 (fun G v => ∃ (ra0 : Option Addr) (rn0 rc0 : Nat), v = .slice ra0 rn0 rc0 ∧ RSl yM 2 G ra0 rn0 rc0 r)) := by
 have hS := Since.start hS0
 have hO := xw G0 w0
 unfold zo4 at H
 refine z8 (N := 5) (xN _ _ _) Tryz.func129 rfl rfl rfl rfl (zc (zb (za (ze (v := (.slice none 0 0)) rfl) rfl (zd (zc (zb (za (zf (v := (.slice a1 n1 c1)) rfl) rfl ?_))))))); have hO := hO.cons_nil 23 2; obtain ⟨y3, hy3, H⟩ := bnd H; refine zp rfl (qM (k := 0) zoP zf2 hS hO rfl rfl (Rd.nil yM 2 G0) h1 hy3 rfl rfl rfl rfl rfl (fun aw4 cw4 w4 clw4 hS hO hrw4 => ?_))
 have hO : Owns _ _ _ ([⟨23, 2, y3.length, .slice aw4 y3.length cw4, clw4⟩]) := hO
 refine za (ze (v := (.slice aw4 y3.length cw4)) rfl) rfl (zd (zH ?_)); obtain ⟨G5, leG5, hS, hO, hfG5⟩ := hO.freezeS hS yp (k := 0) rfl hrw4 rfl
 have H : some y3 = some r := H
 cases H
 exact ⟨_, _, rfl, hS.toGrow, _, _, _, rfl, hfG5⟩
set_option maxHeartbeats 1000000 in
theorem zva {G0 : Gm} {w0 : World} (hS0 : Sat G0 w0) {x0 : (List jw)} {a1 : Option Addr} {n1 c1 : Nat} (h1 : RSl yn 3 G0 a1 n1 c1 x0) {r : (List jw)} (H : zo3 x0 = some r) :
  Calls Tryz.prog 131 #[.slice a1 n1 c1] w0 (yP G0 w0 (fun G v => ∃ (ra0 : Option Addr) (rn0 rc0 : Nat), v = .slice ra0 rn0 rc0 ∧ RSl yn 3 G ra0 rn0 rc0 r)) := by
 have hS := Since.start hS0
 have hO := xw G0 w0
 unfold zo3 at H
 refine z8 (N := 5) (xN _ _ _) Tryz.func131 rfl rfl rfl rfl (zc (zb (za (ze (v := (.slice none 0 0)) rfl) rfl (zd (zc (zb (za (zf (v := (.slice a1 n1 c1)) rfl) rfl ?_))))))); have hO := hO.cons_nil 207 3; obtain ⟨y3, hy3, H⟩ := bnd H; refine zp rfl (qM (k := 0) zzv zqt hS hO rfl rfl (Rd.nil yn 3 G0) h1 hy3 rfl rfl rfl rfl rfl (fun aw4 cw4 w4 clw4 hS hO hrw4 => ?_))
 have hO : Owns _ _ _ ([⟨207, 3, y3.length, .slice aw4 y3.length cw4, clw4⟩]) := hO
 refine za (ze (v := (.slice aw4 y3.length cw4)) rfl) rfl (zd (zH ?_)); obtain ⟨G5, leG5, hS, hO, hfG5⟩ := hO.freezeS hS ji (k := 0) rfl hrw4 rfl
 have H : some y3 = some r := H
 cases H
 exact ⟨_, _, rfl, hS.toGrow, _, _, _, rfl, hfG5⟩
set_option maxHeartbeats 1000000 in
theorem zjT {G0 : Gm} {w0 : World} (hS0 : Sat G0 w0) {x0 : Int} {x1 : Int} {x2 : Int}  {r : Bool} (H : f16 x0 x1 x2 = some r) :
  Calls Tryz.prog 16 #[iV x0, iV x1, iV x2] w0 (qQ w0 (.bool r)) := by
 have hS := Since.start hS0
 have hO := xw G0 w0
 unfold f16 at H
 refine z8 (N := 15) (qS _ _) Tryz.func16 rfl rfl rfl rfl (zc (zb (za (ze (v := (.bool false)) rfl) rfl (zd (zc ?_))))); obtain ⟨q1, hq1, H⟩ := bnd H; refine qx (fun F w => ∃ (Fb : Fr), F = qC Fb [(6, .bool q1)] ∧ w0 = w) ?_ ?_
 ·have Hoq1 := H; have H := hq1; refine zb ?_; refine wr 4 rfl ?_
  rcases qo (decide (x1 ≤ x0)) with hb2 | hb2
  ·have H := ifT hb2 H; refine wk hb2 5 rfl rfl ?_; refine zd ?_; cases H
   exact ⟨_, zi _ _ ⟨rfl, trivial⟩, rfl⟩
  ·have H := ifF hb2 H; refine wk hb2 5 rfl rfl ?_; refine zd ?_; cases H
   exact ⟨_, zi _ _ ⟨rfl, trivial⟩, rfl⟩
 ·rintro F wl ⟨Fb, rfl, rfl⟩
  refine zH ?_
  have H : some q1 = some r := H
  cases H
  exact ⟨rfl, hS.below⟩
set_option maxHeartbeats 1000000 in
theorem zxz {G0 : Gm} {w0 : World} (hS0 : Sat G0 w0) {x0 : qz} {a1 : Option Addr} {n1 c1 : Nat} (h1 : RSl zE 12 G0 a1 n1 c1 x0.Places) {r : Int} (H : f17 x0 = some r) :
  Calls Tryz.prog 17 #[.agg #[.slice a1 n1 c1, iV x0.Miss, iV x0.Seasons]] w0 (qQ w0 (iV r)) := by
 have hS := Since.start hS0
 have hO := xw G0 w0
 unfold f17 at H
 refine z8 (N := 15) (qS _ _) Tryz.func17 rfl rfl rfl rfl (zc (zb (zp rfl (zI (v := fun b => pV b) (cs := [.slice a1 n1 c1, iV x0.Miss, iV x0.Seasons]) (e := 35) (z6 rfl) hS.sat rfl (fun b2 G4 w3 hg hcb2 => ?_))))); have hS := hS.grow hg; have hO := hO.grow hg
 have leG4 := hg.le
 refine za (ze (v := (iV 0)) rfl) rfl (zd (zc (zb (za (ze (v := (iV 1)) rfl) rfl (zd (zc (zc (zb (za (ze (v := (iV 0)) rfl) rfl (zd ?_)))))))))); obtain ⟨q7, hq7, H⟩ := bnd H; refine qx (fun F w => ∃ (Fb : Fr), F = qC Fb [(3, iV q7)] ∧ w3 = w) ?_ ?_
 ·refine zB (xr hq7 (fun s5 F w => ∃ (Fb : Fr), F = qC Fb [(1, pV b2), (3, iV s5.1), (4, iV s5.2)] ∧ w3 = w) ?_ ?_)
  ·exact ⟨_, zi _ _ ⟨rfl, rfl, rfl, trivial⟩, rfl⟩
  ·rintro s5 F wl t8 ⟨Fb, rfl, rfl⟩
   intro H1 hqq7
   have Hoq7 := H; have H := H1
   unfold zdM at H
   refine zc (zc (zb (qY qR (zZ hS.sat hcb2) 5 [_] rfl rfl (ao (h1.mono zl leG4).1 an) (zd (z7 rfl (fun hb11 => ?_) (fun hb11 => ?_))))))
   ·have H := ifT hb11 H; refine zD (zc (zB (zb ?_))); refine wr 3 rfl ?_; refine zd (zb ?_); refine wr 3 rfl ?_; refine zd ?_; cases H; refine ⟨_, rfl, ?_⟩
    exact ⟨_, zi _ _ ⟨rfl, rfl, rfl, trivial⟩, rfl⟩
   ·have H := ifF hb11 H; refine ql rfl ?_; cases H
    have hres := hqq7 _ rfl
    subst hres
    exact ⟨_, zi _ _ ⟨rfl, trivial⟩, rfl⟩
 ·rintro F wl ⟨Fb, rfl, rfl⟩
  refine zc (zb ?_); refine wr 2 rfl ?_; refine zd (zH ?_)
  have H : some q7 = some r := H
  cases H
  exact ⟨rfl, hS.below⟩
set_option maxHeartbeats 1000000 in
theorem zmZ {G0 : Gm} {w0 : World} (hS0 : Sat G0 w0) {x0 : qz} {a1 : Option Addr} {n1 c1 : Nat} {x1 : (List Int)} {a2 : Option Addr} {n2 c2 : Nat} (h1 : RSl zE 12 G0 a1 n1 c1 x0.Places) (h2 : RSl zW 1 G0 a2 n2 c2 x1) {r : Bool} (H : f5 x0 x1 = some r) :
  Calls Tryz.prog 5 #[.agg #[.slice a1 n1 c1, iV x0.Miss, iV x0.Seasons], .slice a2 n2 c2] w0 (qQ w0 (.bool r)) := by
 have hS := Since.start hS0
 have hO := xw G0 w0
 unfold f5 at H
 refine z8 (N := 26) (qS _ _) Tryz.func5 rfl rfl rfl rfl (zc (zb (zp rfl (zI (v := fun b => pV b) (cs := [.slice a1 n1 c1, iV x0.Miss, iV x0.Seasons]) (e := 35) (z6 rfl) hS.sat rfl (fun b3 G5 w4 hg hcb3 => ?_))))); have hS := hS.grow hg; have hO := hO.grow hg
 have leG5 := hg.le
 refine za (ze (v := (.bool false)) rfl) rfl (zd (zc (zc (zb (za (ze (v := (iV 0)) rfl) rfl (zd ?_)))))); obtain ⟨q8, hq8, H⟩ := bnd H; refine qx (fun F w => ∃ (p7 : Unit) (Fb : Fr) (G : Gm), q8 = .inl p7 ∧ F = qC Fb [(1, .slice a2 n2 c2), (2, pV b3)] ∧ Gle G5 G ∧ SO G0 w0 G w []) ?_ ?_
 ·refine zB (xr hq8 (fun s6 F w => ∃ (Fb : Fr) (G : Gm), F = qC Fb [(1, .slice a2 n2 c2), (2, pV b3), (5, iV s6)] ∧ Gle G5 G ∧ SO G0 w0 G w []) ?_ ?_)
  ·have hO : Owns _ _ _ [] := hO
   exact ⟨_, G5, zi _ _ ⟨rfl, rfl, rfl, trivial⟩, Gle.refl _, hS, hO⟩
  ·rintro s6 F w10 t9 ⟨Fb, G11, rfl, leG11, hS, hO⟩
   intro H1 hqq8
   have Hoq8 := H; have H := H1
   unfold zgY at H
   refine zc (zc (zb ?_))
   have l0_2 := leG5.trans leG11
   refine qY qR (zcm _) 4 [_] rfl rfl (ao (h2.mono zm l0_2).1 an) (zd (z7 rfl (fun hb12 => ?_) (fun hb12 => ?_)))
   ·have H := ifT hb12 H; refine zD (zc (zB (zc ?_))); have hS := hS.keep (zn _); have hO := hO.below (zn _)
    refine zQ qA (fun _ w => Sat G11 w ∧ True) (.fl 0 (.fl 1 (.fl 2 (.fl 3 (.on 4 (.on 5 (.on 6 (.on 7 (.on 8 .nil))))))))) (by kernel_rfl) rfl (by kernel_rfl) (fun _ => ⟨hS.sat, trivial⟩) ?_
    refine zh rfl (fun w hw => zf (v := (.slice a2 n2 c2)) rfl) rfl (zh rfl (fun w hw => zf (v := (iV s6)) rfl) rfl ?_); obtain ⟨y13, hy13, H⟩ := bnd H; refine xH rfl zeB (h2.mono zm l0_2) hy13 rfl rfl rfl ?_
    rintro b14 o14 _ hcb14 _ ⟨⟩
    refine zh rfl (fun w hw => zk na3 rfl (hw.1.cell (hcb14 0 _ rfl))) rfl (zt rfl rfl (zA (zw zn1 (cs := [.slice a1 n1 c1, iV x0.Miss, iV x0.Seasons]) rfl rfl (fun j v hj => (hS.sat.le leG11).cell (hcb3.drop_take 0 3 j v hj))) rfl ?_)); refine ⟨fun _ _ => ⟨hS.sat, trivial⟩, ?_⟩; obtain ⟨y15, hy15, H⟩ := bnd H; refine zt rfl rfl (zu zAN (zxz (x0 := x0) hS.sat (h1.mono zl l0_2) hy15) rfl rfl (fun w16 hb => ?_)); have hS := hS.keep hb; have hO := hO.below hb; refine ⟨fun _ _ => ⟨hS.sat, trivial⟩, ?_⟩; refine zt rfl rfl (zA (xE rfl rfl) rfl ?_); refine ⟨fun _ _ => ⟨hS.sat, trivial⟩, ?_⟩; obtain ⟨y17, hy17, H⟩ := bnd H; refine zt rfl rfl (zu zpe (zjT (x0 := y13) (x1 := 0) (x2 := IntKind.i64.wrap (y15 - 1)) hS.sat  hy17) rfl rfl (fun w18 hb => ?_)); have hS := hS.keep hb; have hO := hO.below hb
    refine ⟨fun _ h => zK (by kernel_rfl) h, ?_⟩
    refine zt rfl rfl (zA (qI rfl) rfl ?_)
    refine ⟨fun _ h => zK (by kernel_rfl) h, ?_⟩
    refine qk (z7 rfl (fun hb19 => ?_) (fun hb19 => ?_))
    ·have H := ifT hb19 H; refine zc (zb (za (ze (v := (.bool false)) rfl) rfl (zd (zH ?_)))); cases H
     have hres := hqq8 _ rfl
     subst hres; have H := Hoq8
     have H : some false = some r := H
     cases H
     exact ⟨rfl, hS.below⟩
    ·have H := ifF hb19 H; refine zD (zb ?_); refine wr 3 rfl ?_; refine zd ?_
     have hO : Owns _ _ _ [] := hO
     cases H; refine ⟨_, rfl, ?_⟩
     exact ⟨_, G11, zi _ _ ⟨rfl, rfl, rfl, trivial⟩, leG11, hS, hO⟩
   ·have H := ifF hb12 H; refine ql rfl ?_
    have hO : Owns _ _ _ [] := hO
    cases H
    have hres := hqq8 _ rfl
    subst hres
    exact ⟨_, _, G11, rfl, zi _ _ ⟨rfl, rfl, trivial⟩, leG11, hS, hO⟩
 ·rintro F w20 ⟨p7, Fb, G21, rfl, rfl, leG21, hS, hO⟩
  refine zc (zb ?_)
  have l0_2 := leG5.trans leG21
  refine qY qR (zZ (hS.sat.le leG21) hcb3) 6 [_] rfl rfl (ao (h2.mono zm l0_2).1 an) (zd (zH ?_))
  have H : some ((x1.length : Int) == x0.Seasons) = some r := H
  cases H
  exact ⟨rfl, hS.below⟩
set_option maxHeartbeats 1000000 in
theorem zjQ {G0 : Gm} {w0 : World} (hS0 : Sat G0 w0) {x0 : Int} {x1 : Int}  {r : Bool} (H : f28 x0 x1 = some r) :
  Calls Tryz.prog 28 #[iV x0, iV x1] w0 (qQ w0 (.bool r)) := by
 have hS := Since.start hS0
 have hO := xw G0 w0
 unfold f28 at H
 refine z8 (N := 16) (qS _ _) Tryz.func28 rfl rfl rfl rfl (zc (zb (za (ze (v := (.bool false)) rfl) rfl (zd (zc (zc (zb (za (ze (v := (iV 0)) rfl) rfl (zd ?_))))))))); obtain ⟨q3, hq3, H⟩ := bnd H; refine qx (fun F w => ∃ (Fb : Fr), F = qC Fb [(0, iV q3)] ∧ w0 = w) ?_ ?_
 ·refine zB (xr hq3 (fun s1 F w => ∃ (Fb : Fr), F = qC Fb [(0, iV s1.1), (1, iV x1), (5, iV s1.2)] ∧ w0 = w) ?_ ?_)
  ·exact ⟨_, zi _ _ ⟨rfl, rfl, rfl, trivial⟩, rfl⟩
  ·rintro s1 F wl t4 ⟨Fb, rfl, rfl⟩
   intro H1 hqq3
   have Hoq3 := H; have H := H1
   unfold zdI at H
   refine zc (zc (zb ?_)); refine wr 3 rfl ?_; refine zd (z7 rfl (fun hb7 => ?_) (fun hb7 => ?_))
   ·have H := ifT hb7 H; refine zD (zc (zB (zb (za (zf (v := (iV s1.1)) rfl) rfl ?_))))
    refine za (zeM rfl rfl (by decide)) rfl ?_
    refine za (ze (v := (iV (IntKind.i64.wrap (s1.1.tdiv 2)))) rfl) rfl (zd (zb ?_)); refine wr 3 rfl ?_; refine zd ?_; cases H; refine ⟨_, rfl, ?_⟩
    exact ⟨_, zi _ _ ⟨rfl, rfl, rfl, trivial⟩, rfl⟩
   ·have H := ifF hb7 H; refine ql rfl ?_; cases H
    have hres := hqq3 _ rfl
    subst hres
    exact ⟨_, zi _ _ ⟨rfl, trivial⟩, rfl⟩
 ·rintro F wl ⟨Fb, rfl, rfl⟩
  refine zc (zb (za (zf (v := (iV q3)) rfl) rfl ?_))
  refine za (zvN rfl rfl (by decide)) rfl ?_
  refine wr 2 rfl ?_; refine zd (zH ?_)
  have H : some ((q3.tmod 2) == 1) = some r := H
  cases H
  exact ⟨rfl, hS.below⟩
set_option maxHeartbeats 1000000 in
theorem zyE {G0 : Gm} {w0 : World} (hS0 : Sat G0 w0) {x0 : qz} {a1 : Option Addr} {n1 c1 : Nat} {x1 : (List Int)} {a2 : Option Addr} {n2 c2 : Nat} (h1 : RSl zE 12 G0 a1 n1 c1 x0.Places) (h2 : RSl zW 1 G0 a2 n2 c2 x1) {r : Int} (H : f8 x0 x1 = some r) :
  Calls Tryz.prog 8 #[.agg #[.slice a1 n1 c1, iV x0.Miss, iV x0.Seasons], .slice a2 n2 c2] w0 (qQ w0 (iV r)) := by
 have hS := Since.start hS0
 have hO := xw G0 w0
 unfold f8 at H
 refine z8 (N := 36) (qS _ _) Tryz.func8 rfl rfl rfl rfl (zc (zb (zp rfl (zI (v := fun b => pV b) (cs := [.slice a1 n1 c1, iV x0.Miss, iV x0.Seasons]) (e := 35) (z6 rfl) hS.sat rfl (fun b3 G5 w4 hg hcb3 => ?_))))); have hS := hS.grow hg; have hO := hO.grow hg
 have leG5 := hg.le
 refine za (ze (v := (iV 0)) rfl) rfl (zd (zc (zb (za (ze (v := (iV 0)) rfl) rfl (zd (zc (zc (zb (za (ze (v := (iV 0)) rfl) rfl (zd ?_)))))))))); obtain ⟨q8, hq8, H⟩ := bnd H; refine qx (fun F w => ∃ (Fb : Fr) (G : Gm), F = qC Fb [(5, iV q8)] ∧ Gle G5 G ∧ SO G0 w0 G w []) ?_ ?_
 ·refine zB (xr hq8 (fun s6 F w => ∃ (Fb : Fr) (G : Gm), F = qC Fb [(1, .slice a2 n2 c2), (2, pV b3), (5, iV s6.1), (6, iV s6.2)] ∧ Gle G5 G ∧ SO G0 w0 G w []) ?_ ?_)
  ·have hO : Owns _ _ _ [] := hO
   exact ⟨_, G5, zi _ _ ⟨rfl, rfl, rfl, rfl, trivial⟩, Gle.refl _, hS, hO⟩
  ·rintro s6 F w10 t9 ⟨Fb, G11, rfl, leG11, hS, hO⟩
   intro H1 hqq8
   have Hoq8 := H; have H := H1
   unfold zgX at H
   refine zc (zc (zb ?_))
   have l0_2 := leG5.trans leG11
   refine qY qR (zcm _) 4 [_] rfl rfl (ao (h2.mono zm l0_2).1 an) (zd (z7 rfl (fun hb12 => ?_) (fun hb12 => ?_)))
   ·have H := ifT hb12 H; refine zD (zc (zB (zc (zb (za (ze (v := (iV 0)) rfl) rfl (zd ?_)))))); obtain ⟨q15, hq15, H⟩ := bnd H; refine qx (fun F w => ∃ (Fb : Fr) (G : Gm), F = qC Fb [(1, .slice a2 n2 c2), (2, pV b3), (5, iV q15), (6, iV s6.2)] ∧ Gle G11 G ∧ SO G0 w0 G w []) ?_ ?_
    ·refine zB (xr hq15 (fun s13 F w => ∃ (Fb : Fr) (G : Gm), F = qC Fb [(1, .slice a2 n2 c2), (2, pV b3), (5, iV s13.1), (6, iV s6.2), (7, iV s13.2)] ∧ Gle G11 G ∧ SO G0 w0 G w []) ?_ ?_)
     ·have hO : Owns _ _ _ [] := hO
      exact ⟨_, G11, zi _ _ ⟨rfl, rfl, rfl, rfl, rfl, trivial⟩, Gle.refl _, hS, hO⟩
     ·rintro s13 F w17 t16 ⟨Fb, G18, rfl, leG18, hS, hO⟩
      intro H1 hqq15
      have Hoq15 := H; have H := H1
      unfold zgW at H
      refine zc (zc (zb ?_))
      have l1_3 := leG11.trans leG18
      have l0_3 := l0_2.trans leG18
      refine qY qR (zZ (hS.sat.le l1_3) hcb3) 5 [_] rfl rfl (ao (h1.mono zl l0_3).1 an) (zd (z7 rfl (fun hb19 => ?_) (fun hb19 => ?_)))
      ·have H := ifT hb19 H; refine zD (zc ?_); obtain ⟨q20, hq20, H⟩ := bnd H; refine qx (fun F w => ∃ (Fb : Fr) (G : Gm), F = qC Fb [(1, .slice a2 n2 c2), (2, pV b3), (5, iV q20), (6, iV s6.2), (7, iV s13.2)] ∧ Gle G18 G ∧ SO G0 w0 G w []) ?_ ?_
       ·have Hoq20 := H; have H := hq20; refine zB (zc (zb ?_)); refine wr 2 rfl ?_; obtain ⟨y21, hy21, H⟩ := bnd H; refine xi zeB (h2.mono zm l0_3) hy21 rfl rfl rfl ?_
        rintro b22 o22 _ hcb22 _ ⟨⟩
        refine za (zk na3 rfl (hS.sat.cell (hcb22 0 _ rfl))) rfl (za (zf (v := (iV s13.2)) rfl) rfl ?_); obtain ⟨y23, hy23, H⟩ := bnd H; refine zp rfl (zu zpS (zjQ (x0 := y21) (x1 := s13.2) hS.sat  hy23) rfl rfl (fun w24 hb => ?_)); have hS := hS.keep hb; have hO := hO.below hb; refine zd (z7 rfl (fun hb25 => ?_) (fun hb25 => ?_))
        ·have H := ifT hb25 H; refine zb (qY qR (zZ (hS.sat.le l1_3) hcb3) 4 [] rfl rfl an ?_); obtain ⟨y26, hy26, H⟩ := bnd H; refine xi zef (h1.mono zl l0_3) hy26 rfl rfl rfl ?_
         rintro b27 o27 _ hcb27 _ ⟨⟩
         refine za (zj zmQ rfl) rfl (za (zk na3 rfl (hS.sat.cell (hcb27 11 _ rfl))) rfl ?_); refine wr 2 rfl ?_; refine zd ?_
         have hO : Owns _ _ _ [] := hO
         cases H
         exact ⟨_, G18, zi _ _ ⟨rfl, rfl, rfl, rfl, rfl, trivial⟩, Gle.refl _, hS, hO⟩
        ·have H := ifF hb25 H; refine zD ?_
         have hO : Owns _ _ _ [] := hO
         cases H
         exact ⟨_, G18, zi _ _ ⟨rfl, rfl, rfl, rfl, rfl, trivial⟩, Gle.refl _, hS, hO⟩
       ·rintro F w28 ⟨Fb, G29, rfl, leG29, hS, hO⟩
        refine zb ?_; refine wr 3 rfl ?_; refine zd ?_
        have hO : Owns _ _ _ [] := hO
        cases H; refine ⟨_, rfl, ?_⟩
        have l2_4 := leG18.trans leG29
        exact ⟨_, G29, zi _ _ ⟨rfl, rfl, rfl, rfl, rfl, trivial⟩, l2_4, hS, hO⟩
      ·have H := ifF hb19 H; refine ql rfl ?_
       have hO : Owns _ _ _ [] := hO
       cases H
       have hres := hqq15 _ rfl
       subst hres
       exact ⟨_, G18, zi _ _ ⟨rfl, rfl, rfl, rfl, trivial⟩, leG18, hS, hO⟩
    ·rintro F w30 ⟨Fb, G31, rfl, leG31, hS, hO⟩
     refine zb ?_; refine wr 3 rfl ?_; refine zd ?_
     have hO : Owns _ _ _ [] := hO
     cases H; refine ⟨_, rfl, ?_⟩
     have l1_3 := leG11.trans leG31
     exact ⟨_, G31, zi _ _ ⟨rfl, rfl, rfl, rfl, trivial⟩, l1_3, hS, hO⟩
   ·have H := ifF hb12 H; refine ql rfl ?_
    have hO : Owns _ _ _ [] := hO
    cases H
    have hres := hqq8 _ rfl
    subst hres
    exact ⟨_, G11, zi _ _ ⟨rfl, trivial⟩, leG11, hS, hO⟩
 ·rintro F w32 ⟨Fb, G33, rfl, leG33, hS, hO⟩
  refine zc (zb ?_); refine wr 2 rfl ?_; refine zd (zH ?_)
  have H : some q8 = some r := H
  cases H
  exact ⟨rfl, hS.below⟩
set_option maxHeartbeats 1000000 in
theorem zxu {G0 : Gm} {w0 : World} (hS0 : Sat G0 w0) {x0 : qz} {a1 : Option Addr} {n1 c1 : Nat} {x1 : Int} (h1 : RSl zE 12 G0 a1 n1 c1 x0.Places) {r : Int} (H : f32 x0 x1 = some r) :
  Calls Tryz.prog 32 #[.agg #[.slice a1 n1 c1, iV x0.Miss, iV x0.Seasons], iV x1] w0 (qQ w0 (iV r)) := by
 have hS := Since.start hS0
 have hO := xw G0 w0
 unfold f32 at H
 refine z8 (N := 12) (qS _ _) Tryz.func32 rfl rfl rfl rfl (zc (zb (zp rfl (zI (v := fun b => pV b) (cs := [.slice a1 n1 c1, iV x0.Miss, iV x0.Seasons]) (e := 35) (z6 rfl) hS.sat rfl (fun b2 G4 w3 hg hcb2 => ?_))))); have hS := hS.grow hg; have hO := hO.grow hg
 have leG4 := hg.le
 refine za (ze (v := (iV 0)) rfl) rfl (zd (zc (zb (qY qR (zZ hS.sat hcb2) 5 [] rfl rfl an ?_))))
 refine za (zeM rfl rfl (by decide)) rfl ?_
 refine wr 2 rfl ?_; refine zd (zH ?_)
 have H : some (IntKind.i64.wrap (x1 + (IntKind.i64.wrap ((IntKind.i64.wrap (x1 * x0.Miss)).tdiv 1000)))) = some r := H
 cases H
 exact ⟨rfl, hS.below⟩
set_option maxHeartbeats 1000000 in
theorem zm2 {G0 : Gm} {w0 : World} (hS0 : Sat G0 w0) {x0 : Int} {x1 : qy}  {r : Bool} (H : f33 x0 x1 = some r) :
  Calls Tryz.prog 33 #[iV x0, .agg #[iV x1.Low, iV x1.High]] w0 (qQ w0 (.bool r)) := by
 have hS := Since.start hS0
 have hO := xw G0 w0
 unfold f33 at H
 refine z8 (N := 11) (qS _ _) Tryz.func33 rfl rfl rfl rfl (zc (zb (zp rfl (zI (v := fun b => pV b) (cs := [iV x1.Low, iV x1.High]) (e := 23) (z6 rfl) hS.sat rfl (fun b1 G3 w2 hg hcb1 => ?_))))); have hS := hS.grow hg; have hO := hO.grow hg
 have leG3 := hg.le
 refine za (ze (v := (.bool false)) rfl) rfl (zd (zc (zb (qY qR (zZ hS.sat hcb1) 5 [] rfl rfl an ?_)))); obtain ⟨y4, hy4, H⟩ := bnd H; refine zp rfl (zu zpe (zjT (x0 := x0) (x1 := x1.Low) (x2 := x1.High) hS.sat  hy4) rfl rfl (fun w5 hb => ?_)); have hS := hS.keep hb; have hO := hO.below hb; refine za (ze (v := (.bool y4)) rfl) rfl (zd (zH ?_))
 have H : some y4 = some r := H
 cases H
 exact ⟨rfl, hS.below⟩
set_option maxHeartbeats 1000000 in
theorem zxr {G0 : Gm} {w0 : World} (hS0 : Sat G0 w0) {x0 : zr} {x1 : Bool}  {r : qy} (H : f34 x0 x1 = some r) :
  Calls Tryz.prog 34 #[.agg #[iV x0.Count, iV x0.Room, iV x0.Grow.Low, iV x0.Grow.High, iV x0.Drift, iV x0.Into, iV x0.Open.Low, iV x0.Open.High, iV x0.Shut.Low, iV x0.Shut.High, iV x0.Goal, iV x0.Worth], .bool x1] w0 (qQ w0 (.agg #[iV r.Low, iV r.High])) := by
 have hS := Since.start hS0
 have hO := xw G0 w0
 unfold f34 at H
 refine vf (N := 10) (qS _ _) [.cell 4 23] Tryz.func34 rfl rfl rfl rfl ?_; refine zc (zb (zp rfl (zI (v := fun b => pV b) (cs := [iV x0.Count, iV x0.Room, iV x0.Grow.Low, iV x0.Grow.High, iV x0.Drift, iV x0.Into, iV x0.Open.Low, iV x0.Open.High, iV x0.Shut.Low, iV x0.Shut.High, iV x0.Goal, iV x0.Worth]) (e := 70) (z6 rfl) hS.sat rfl (fun b1 G3 w2 hg hcb1 => ?_)))); have hS := hS.grow hg; have hO := hO.grow hg
 have leG3 := hg.le
 refine zp rfl (zY (v := fun b => pV b) (cs := [iV 0, iV 0]) (e := 23) (by kernel_rfl) hS.sat hO rfl 2 1 rfl (by decide) (fun b4 w5 hb hO => ?_))
 have hS := hS.keep hb; refine zd (zc (zc (zb (za (zf (v := (.bool x1)) rfl) rfl (zd (z7 rfl (fun hb7 => ?_) (fun hb7 => ?_)))))))
 ·have H := ifT hb7 H; refine zc (zb (za (zj zjK rfl) rfl (za (zw zf0 (cs := [iV x0.Shut.Low, iV x0.Shut.High]) rfl rfl (fun j v hj => hS.sat.cell (hcb1.drop_take 8 2 j v hj))) rfl (zp rfl (zM (vs := [iV x0.Shut.Low, iV x0.Shut.High]) znD hS hO (k := 0) rfl rfl rfl rfl rfl (zR rfl) (Nat.le_of_ble_eq_true rfl) (fun w8 hS hO => ?_))))))
  have hO : Owns _ _ _ ([⟨23, 2, 1, .slice (some ⟨b4, 0, none⟩) 1 1, [iV x0.Shut.Low, iV x0.Shut.High]⟩]) := hO
  refine zd (zH ?_)
  have H : some x0.Shut = some r := H
  cases H
  exact ⟨[.agg #[iV x0.Shut.Low, iV x0.Shut.High]], ⟨⟨_, rfl, zam (cs := [iV x0.Shut.Low, iV x0.Shut.High]) zf0 rfl (fun j v hj => yu hO (k := 0) rfl 0 2 j v hj)⟩, trivial⟩, ⟨rfl, hS.below⟩⟩
 ·have H := ifF hb7 H; refine zD (zc (zb (za (zj zjL rfl) rfl (za (zw zf0 (cs := [iV x0.Open.Low, iV x0.Open.High]) rfl rfl (fun j v hj => hS.sat.cell (hcb1.drop_take 6 2 j v hj))) rfl (zp rfl (zM (vs := [iV x0.Open.Low, iV x0.Open.High]) znD hS hO (k := 0) rfl rfl rfl rfl rfl (zR rfl) (Nat.le_of_ble_eq_true rfl) (fun w9 hS hO => ?_)))))))
  have hO : Owns _ _ _ ([⟨23, 2, 1, .slice (some ⟨b4, 0, none⟩) 1 1, [iV x0.Open.Low, iV x0.Open.High]⟩]) := hO
  refine zd (zH ?_)
  have H : some x0.Open = some r := H
  cases H
  exact ⟨[.agg #[iV x0.Open.Low, iV x0.Open.High]], ⟨⟨_, rfl, zam (cs := [iV x0.Open.Low, iV x0.Open.High]) zf0 rfl (fun j v hj => yu hO (k := 0) rfl 0 2 j v hj)⟩, trivial⟩, ⟨rfl, hS.below⟩⟩
set_option maxHeartbeats 1000000 in
theorem zxE {G0 : Gm} {w0 : World} (hS0 : Sat G0 w0) {x0 : qz} {a1 : Option Addr} {n1 c1 : Nat} {x1 : (List Int)} {a2 : Option Addr} {n2 c2 : Nat} {x2 : qT} {a3 : Option Addr} {n3 c3 : Nat} {a4 : Option Addr} {n4 c4 : Nat} {a5 : Option Addr} {n5 c5 : Nat} (h1 : RSl zE 12 G0 a1 n1 c1 x0.Places) (h2 : RSl zW 1 G0 a2 n2 c2 x1) (h3 : RSl zW 1 G0 a3 n3 c3 x2.Starts) (h4 : RSl (yd zW 1) 1 G0 a4 n4 c4 x2.Grows) (h5 : RSl (yd zW 1) 1 G0 a5 n5 c5 x2.Takes) {r : Bool} (H : f11 x0 x1 x2 = some r) :
  Calls Tryz.prog 11 #[.agg #[.slice a1 n1 c1, iV x0.Miss, iV x0.Seasons], .slice a2 n2 c2, .agg #[.slice a3 n3 c3, .slice a4 n4 c4, .slice a5 n5 c5]] w0 (qQ w0 (.bool r)) := by
 have hS := Since.start hS0
 have hO := xw G0 w0
 unfold f11 at H
 refine z8 (N := 136) (qS _ _) Tryz.func11 rfl rfl rfl rfl (zc (zb (zp rfl (zI (v := fun b => pV b) (cs := [.slice a1 n1 c1, iV x0.Miss, iV x0.Seasons]) (e := 35) (z6 rfl) hS.sat rfl (fun b6 G8 w7 hg hcb6 => ?_))))); have hS := hS.grow hg; have hO := hO.grow hg
 have leG8 := hg.le
 refine zp rfl (zI (v := fun b => pV b) (cs := [.slice a3 n3 c3, .slice a4 n4 c4, .slice a5 n5 c5]) (e := 52) (z6 rfl) hS.sat rfl (fun b9 G11 w10 hg hcb9 => ?_)); have hS := hS.grow hg; have hO := hO.grow hg
 have leG11 := hg.le
 refine za (ze (v := (.bool false)) rfl) rfl (zd (zc (zc ?_))); obtain ⟨q12, hq12, H⟩ := bnd H; refine qx (fun F w => ∃ (Fb : Fr), F = qC Fb [(1, .slice a2 n2 c2), (3, pV b6), (5, pV b9), (32, .bool q12)] ∧ w10 = w) ?_ ?_
 ·have Hoq12 := H; have H := hq12; refine zb ?_
  have l0_2 := leG8.trans leG11
  refine qY qR (zZ hS.sat hcb9) 4 [_] rfl rfl (ao (h3.mono zm l0_2).1 an) (qY qR (zZ (hS.sat.le leG11) hcb6) 4 [_] rfl rfl (ao (h1.mono zl l0_2).1 an) ?_)
  rcases qo ((x2.Starts.length : Int) != (x0.Places.length : Int)) with hb13 | hb13
  ·have H := ifT hb13 H; refine wk hb13 8 rfl rfl ?_; refine wr 7 rfl ?_; refine zd ?_; cases H
   exact ⟨_, zi _ _ ⟨rfl, rfl, rfl, rfl, trivial⟩, rfl⟩
  ·have H := ifF hb13 H; refine qp qR (zZ hS.sat hcb9) (kb hb13) 4 [_] rfl rfl (ao (h4.mono (zO zm) l0_2).1 an) (qp qR (zZ (hS.sat.le leG11) hcb6) (kb hb13) 4 [] rfl rfl an ?_)
   rcases qo ((x2.Grows.length : Int) != x0.Seasons) with hb14 | hb14
   ·have H := ifT hb14 H; refine wk hb14 7 rfl rfl ?_; refine zd ?_; cases H
    exact ⟨_, zi _ _ ⟨rfl, rfl, rfl, rfl, trivial⟩, rfl⟩
   ·have H := ifF hb14 H; refine qp qR (zZ hS.sat hcb9) (kb hb14) 4 [_] rfl rfl (ao (h5.mono (zO zm) l0_2).1 an) (qp qR (zZ (hS.sat.le leG11) hcb6) (kb hb14) 3 [] rfl rfl an (zd ?_)); cases H
    exact ⟨_, zi _ _ ⟨rfl, rfl, rfl, rfl, trivial⟩, rfl⟩
 ·rintro F wl ⟨Fb, rfl, rfl⟩
  refine z7 rfl (fun hb17 => ?_) (fun hb17 => ?_)
  ·have H := ifT hb17 H; refine zc (zb (za (ze (v := (.bool false)) rfl) rfl (zd (zH ?_))))
   have H : some false = some r := H
   cases H
   exact ⟨rfl, hS.below⟩
  ·have H := ifF hb17 H; refine zD (zc (zc (zb (za (ze (v := (iV 0)) rfl) rfl (zd ?_))))); obtain ⟨q20, hq20, H⟩ := bnd H; refine qx (fun F w => ∃ (p19 : Unit) (Fb : Fr) (G : Gm), q20 = .inl p19 ∧ F = qC Fb [(1, .slice a2 n2 c2), (3, pV b6), (5, pV b9)] ∧ Gle G11 G ∧ SO G0 w0 G w []) ?_ ?_
   ·refine zB (xr hq20 (fun s18 F w => ∃ (Fb : Fr) (G : Gm), F = qC Fb [(1, .slice a2 n2 c2), (3, pV b6), (5, pV b9), (7, iV s18)] ∧ Gle G11 G ∧ SO G0 w0 G w []) ?_ ?_)
    ·have hO : Owns _ _ _ [] := hO
     exact ⟨_, G11, zi _ _ ⟨rfl, rfl, rfl, rfl, trivial⟩, Gle.refl _, hS, hO⟩
    ·rintro s18 F w22 t21 ⟨Fb, G23, rfl, leG23, hS, hO⟩
     intro H1 hqq20
     have Hoq20 := H; have H := H1
     unfold zdQ at H
     refine zc (zc (zb ?_))
     have l1_3 := leG11.trans leG23
     have l0_3 := leG8.trans l1_3
     refine qY qR (zZ (hS.sat.le l1_3) hcb6) 5 [_] rfl rfl (ao (h1.mono zl l0_3).1 an) (zd (z7 rfl (fun hb24 => ?_) (fun hb24 => ?_)))
     ·have H := ifT hb24 H; refine zD (zc (zB (zc ?_))); have hS := hS.keep (zn _); have hO := hO.below (zn _)
      refine zQ qA (fun _ w => Sat G23 w ∧ True) (.fl 0 (.fl 1 (.fl 2 (.fl 3 (.fl 4 (.fl 5 (.fl 6 (.fl 7 (.fl 8 (.fl 9 (.fl 10 (.fl 11 (.fl 12 (.fl 13 (.on 14 (.on 15 (.on 16 (.on 17 (.on 18 (.on 19 (.on 20 .nil))))))))))))))))))))) (by kernel_rfl) rfl (by kernel_rfl) (fun _ => ⟨hS.sat, trivial⟩) ?_
      refine zh rfl (fun w hw => zj zw7 rfl) rfl (zh rfl (fun w hw => zk zl8 rfl ((hw.1.le leG23).cell (hcb9 0 _ rfl))) rfl (zh rfl (fun w hw => zf (v := (iV s18)) rfl) rfl ?_)); obtain ⟨y25, hy25, H⟩ := bnd H; refine xH rfl zeB (h3.mono zm l0_3) hy25 rfl rfl rfl ?_
      rintro b26 o26 _ hcb26 _ ⟨⟩
      refine zh rfl (fun w hw => zk na3 rfl (hw.1.cell (hcb26 0 _ rfl))) rfl (zh rfl (fun w hw => zj za7 rfl) rfl (zh rfl (fun w hw => zk zih rfl ((hw.1.le l1_3).cell (hcb6 0 _ rfl))) rfl (zh rfl (fun w hw => zf (v := (iV s18)) rfl) rfl ?_))); obtain ⟨y27, hy27, H⟩ := bnd H; refine xH rfl zef (h1.mono zl l0_3) hy27 rfl rfl rfl ?_
      rintro b28 o28 _ hcb28 _ ⟨⟩
      refine zh rfl (fun w hw => zj zmS rfl) rfl (zh rfl (fun w hw => zk na3 rfl (hw.1.cell (hcb28 0 _ rfl))) rfl (zh rfl (fun w hw => zw zn1 (cs := [.slice a1 n1 c1, iV x0.Miss, iV x0.Seasons]) rfl rfl (fun j v hj => (hw.1.le l1_3).cell (hcb6.drop_take 0 3 j v hj))) rfl (zh rfl (fun w hw => zj za7 rfl) rfl (zh rfl (fun w hw => zk zih rfl ((hw.1.le l1_3).cell (hcb6 0 _ rfl))) rfl (zt rfl rfl (zA (zf (v := (iV s18)) rfl) rfl ?_)))))); refine ⟨fun _ _ => ⟨hS.sat, trivial⟩, ?_⟩; refine zt rfl rfl (zeu zef (h1.mono zl l0_3) hy27 rfl rfl rfl ?_)
      rintro b29 o29 _ hcb29 _ ⟨⟩
      refine ⟨fun _ _ => ⟨hS.sat, trivial⟩, ?_⟩; refine zt rfl rfl (zA (zj zmS rfl) rfl ?_); refine ⟨fun _ _ => ⟨hS.sat, trivial⟩, ?_⟩; refine zt rfl rfl (zA (zk na3 rfl (hS.sat.cell (hcb29 0 _ rfl))) rfl ?_); refine ⟨fun _ _ => ⟨hS.sat, trivial⟩, ?_⟩; obtain ⟨y30, hy30, H⟩ := bnd H; refine zt rfl rfl (zu zAM (zxu (x0 := x0) (x1 := y27.Count) hS.sat (h1.mono zl l0_3) hy30) rfl rfl (fun w31 hb => ?_)); have hS := hS.keep hb; have hO := hO.below hb; refine ⟨fun _ _ => ⟨hS.sat, trivial⟩, ?_⟩; obtain ⟨y32, hy32, H⟩ := bnd H; refine zt rfl rfl (zu zpe (zjT (x0 := y25) (x1 := y27.Count) (x2 := y30) hS.sat  hy32) rfl rfl (fun w33 hb => ?_)); have hS := hS.keep hb; have hO := hO.below hb
      refine ⟨fun _ h => zK (by kernel_rfl) h, ?_⟩
      refine zt rfl rfl (zA (qI rfl) rfl ?_)
      refine ⟨fun _ h => zK (by kernel_rfl) h, ?_⟩
      refine qk (z7 rfl (fun hb34 => ?_) (fun hb34 => ?_))
      ·have H := ifT hb34 H; refine zc (zb (za (ze (v := (.bool false)) rfl) rfl (zd (zH ?_)))); cases H
       have hres := hqq20 _ rfl
       subst hres; have H := Hoq20
       have H : some false = some r := H
       cases H
       exact ⟨rfl, hS.below⟩
      ·have H := ifF hb34 H; refine zD (zb ?_); refine wr 3 rfl ?_; refine zd ?_
       have hO : Owns _ _ _ [] := hO
       cases H; refine ⟨_, rfl, ?_⟩
       exact ⟨_, G23, zi _ _ ⟨rfl, rfl, rfl, rfl, trivial⟩, leG23, hS, hO⟩
     ·have H := ifF hb24 H; refine ql rfl ?_
      have hO : Owns _ _ _ [] := hO
      cases H
      have hres := hqq20 _ rfl
      subst hres
      exact ⟨_, _, G23, rfl, zi _ _ ⟨rfl, rfl, rfl, trivial⟩, leG23, hS, hO⟩
   ·rintro F w35 ⟨p19, Fb, G36, rfl, rfl, leG36, hS, hO⟩
    refine zc (zc (zb (za (ze (v := (iV 0)) rfl) rfl (zd ?_)))); obtain ⟨q39, hq39, H⟩ := bnd H; refine qx (fun F w => ∃ (p38 : Unit) (Fb : Fr) (G : Gm), q39 = .inl p38 ∧ F = qC Fb [] ∧ Gle G36 G ∧ SO G0 w0 G w []) ?_ ?_
    ·refine zB (xr hq39 (fun s37 F w => ∃ (Fb : Fr) (G : Gm), F = qC Fb [(1, .slice a2 n2 c2), (3, pV b6), (5, pV b9), (8, iV s37)] ∧ Gle G36 G ∧ SO G0 w0 G w []) ?_ ?_)
     ·have hO : Owns _ _ _ [] := hO
      exact ⟨_, G36, zi _ _ ⟨rfl, rfl, rfl, rfl, trivial⟩, Gle.refl _, hS, hO⟩
     ·rintro s37 F w41 t40 ⟨Fb, G42, rfl, leG42, hS, hO⟩
      intro H1 hqq39
      have Hoq39 := H; have H := H1
      unfold zdP at H
      refine zc (zc (zb ?_))
      have l1_4 := (leG11.trans leG36).trans leG42
      refine qY qR (zZ (hS.sat.le l1_4) hcb6) 4 [] rfl rfl an (zd (z7 rfl (fun hb43 => ?_) (fun hb43 => ?_)))
      ·have H := ifT hb43 H; refine zD (zc (zB (zc (zc ?_)))); obtain ⟨q44, hq44, H⟩ := bnd H; refine qx (fun F w => ∃ (Fb : Fr) (G : Gm), F = qC Fb [(1, .slice a2 n2 c2), (3, pV b6), (5, pV b9), (8, iV s37), (88, .bool q44)] ∧ Gle G42 G ∧ SO G0 w0 G w []) ?_ ?_
       ·have Hoq44 := H; have H := hq44; have hS := hS.keep (zn _); have hO := hO.below (zn _)
        refine zQ qA (fun _ w => Sat G42 w ∧ True) (.fl 0 (.fl 1 (.fl 2 (.fl 3 (.fl 4 (.fl 5 (.on 6 (.on 7 (.on 8 (.on 9 (.on 10 (.fl 11 (.fl 12 (.fl 13 (.fl 14 (.fl 15 (.fl 16 (.on 17 (.on 18 (.on 19 (.on 20 (.on 21 .nil)))))))))))))))))))))) (by kernel_rfl) rfl (by kernel_rfl) (fun _ => ⟨hS.sat, trivial⟩) ?_
        refine zh rfl (fun w hw => zj zmU rfl) rfl (zh rfl (fun w hw => zk znK rfl ((hw.1.le (leG36.trans leG42)).cell (hcb9 1 _ rfl))) rfl (zh rfl (fun w hw => zf (v := (iV s37)) rfl) rfl ?_)); obtain ⟨y45, hy45, H⟩ := bnd H
        have l0_4 := leG8.trans l1_4
        refine xH rfl znE (h4.mono (zO zm) l0_4) hy45 rfl rfl rfl ?_
        rintro b46 o46 _ hcb46 _ ⟨a47, n47, c47, ⟨⟩, h47⟩
        refine zh rfl (fun w hw => zk zl8 rfl (hw.1.cell (hcb46 0 _ rfl))) rfl (zh rfl (fun w hw => qu zeB rfl rfl h47.1) rfl (zt rfl rfl (zA (zj za7 rfl) rfl ?_))); refine ⟨fun _ _ => ⟨hS.sat, trivial⟩, ?_⟩; refine zt rfl rfl (zA (zk zih rfl ((hS.sat.le l1_4).cell (hcb6 0 _ rfl))) rfl ?_); refine ⟨fun _ _ => ⟨hS.sat, trivial⟩, ?_⟩; refine zt rfl rfl (zA (qu zef rfl rfl (h1.mono zl l0_4).1) rfl ?_); refine ⟨fun _ _ => ⟨hS.sat, trivial⟩, ?_⟩; refine zt rfl rfl (zA (kw rfl rfl) rfl ?_); refine ⟨fun _ _ => ⟨hS.sat, trivial⟩, ?_⟩; refine zt rfl rfl (zA (zf (v := (.bool ((y45.length : Int) != (x0.Places.length : Int)))) rfl) rfl ?_); refine ⟨fun _ _ => ⟨hS.sat, trivial⟩, ?_⟩
        rcases qo ((y45.length : Int) != (x0.Places.length : Int)) with hb48 | hb48
        ·have H := ifT hb48 H; refine yh rfl rfl hb48 rfl rfl rfl (yh rfl rfl hb48 rfl rfl rfl (yh rfl rfl hb48 rfl rfl rfl (yh rfl rfl hb48 rfl rfl rfl (yh rfl rfl hb48 rfl rfl rfl (yh rfl rfl hb48 rfl rfl rfl (jh rfl rfl hb48 rfl rfl rfl (fun _ _ => ⟨hS.sat, trivial⟩) (jh rfl rfl hb48 rfl rfl rfl (fun _ _ => ⟨hS.sat, trivial⟩) (jh rfl rfl hb48 rfl rfl rfl (fun _ _ => ⟨hS.sat, trivial⟩) ?_))))))))
         refine jh rfl rfl hb48 rfl rfl rfl (fun _ h => zK (by kernel_rfl) h) ?_
         refine zt rfl rfl (zA (yH (v := (.bool true)) rfl hb48 rfl) rfl ?_)
         refine ⟨fun _ h => zK (by kernel_rfl) h, ?_⟩
         refine qk ?_
         have hO : Owns _ _ _ ([]) := hO
         cases H
         exact ⟨_, G42, zi _ _ ⟨rfl, rfl, rfl, rfl, rfl, trivial⟩, Gle.refl _, hS, hO⟩
        ·have H := ifF hb48 H; refine zX rfl rfl hb48 rfl rfl (fun w hw => zj zmT rfl) rfl (zX rfl rfl hb48 rfl rfl (fun w hw => zk znK rfl ((hw.1.le (leG36.trans leG42)).cell (hcb9 2 _ rfl))) rfl (zX rfl rfl hb48 rfl rfl (fun w hw => zf (v := (iV s37)) rfl) rfl ?_)); obtain ⟨y49, hy49, H⟩ := bnd H; refine kM rfl rfl hb48 rfl rfl znE (h5.mono (zO zm) l0_4) hy49 rfl rfl rfl ?_
         rintro b50 o50 _ hcb50 _ ⟨a51, n51, c51, ⟨⟩, h51⟩
         refine zX rfl rfl hb48 rfl rfl (fun w hw => zk zl8 rfl (hw.1.cell (hcb50 0 _ rfl))) rfl (zX rfl rfl hb48 rfl rfl (fun w hw => qu zeB rfl rfl h51.1) rfl (kB rfl rfl rfl hb48 rfl rfl (zA (zj za7 rfl) rfl ?_))); refine ⟨fun _ _ => ⟨hS.sat, trivial⟩, ?_⟩; refine kB rfl rfl rfl hb48 rfl rfl (zA (zk zih rfl ((hS.sat.le l1_4).cell (hcb6 0 _ rfl))) rfl ?_); refine ⟨fun _ _ => ⟨hS.sat, trivial⟩, ?_⟩; refine kB rfl rfl rfl hb48 rfl rfl (zA (qu zef rfl rfl (h1.mono zl l0_4).1) rfl ?_); refine ⟨fun _ _ => ⟨hS.sat, trivial⟩, ?_⟩; refine kB rfl rfl rfl hb48 rfl rfl (zA (kw rfl rfl) rfl ?_)
         refine ⟨fun _ h => zK (by kernel_rfl) h, ?_⟩
         refine zt rfl rfl (zA (xg (v := (.bool ((y49.length : Int) != (x0.Places.length : Int)))) rfl hb48 rfl) rfl ?_)
         refine ⟨fun _ h => zK (by kernel_rfl) h, ?_⟩
         refine qk ?_
         have hO : Owns _ _ _ ([]) := hO
         cases H
         exact ⟨_, G42, zi _ _ ⟨rfl, rfl, rfl, rfl, rfl, trivial⟩, Gle.refl _, hS, hO⟩
       ·rintro F w52 ⟨Fb, G53, rfl, leG53, hS, hO⟩
        refine z7 rfl (fun hb54 => ?_) (fun hb54 => ?_)
        ·have H := ifT hb54 H; refine zc (zb (za (ze (v := (.bool false)) rfl) rfl (zd (zH ?_)))); cases H
         have hres := hqq39 _ rfl
         subst hres; have H := Hoq39
         have H : some false = some r := H
         cases H
         exact ⟨rfl, hS.below⟩
        ·have H := ifF hb54 H; refine zD (zc (zb (za (ze (v := (iV 0)) rfl) rfl (zd ?_)))); obtain ⟨q57, hq57, H⟩ := bnd H; refine qx (fun F w => ∃ (p56 : Unit) (Fb : Fr) (G : Gm), q57 = .inl p56 ∧ F = qC Fb [(1, .slice a2 n2 c2), (3, pV b6), (5, pV b9), (8, iV s37)] ∧ Gle G53 G ∧ SO G0 w0 G w []) ?_ ?_
         ·refine zB (xr hq57 (fun s55 F w => ∃ (Fb : Fr) (G : Gm), F = qC Fb [(1, .slice a2 n2 c2), (3, pV b6), (5, pV b9), (8, iV s37), (9, iV s55)] ∧ Gle G53 G ∧ SO G0 w0 G w []) ?_ ?_)
          ·have hO : Owns _ _ _ [] := hO
           exact ⟨_, G53, zi _ _ ⟨rfl, rfl, rfl, rfl, rfl, trivial⟩, Gle.refl _, hS, hO⟩
          ·rintro s55 F w59 t58 ⟨Fb, G60, rfl, leG60, hS, hO⟩
           intro H1 hqq57
           have Hoq57 := H; have H := H1
           unfold zdO at H
           refine zc (zc (zb ?_))
           have l1_6 := (l1_4.trans leG53).trans leG60
           have l0_6 := leG8.trans l1_6
           refine qY qR (zZ (hS.sat.le l1_6) hcb6) 5 [_] rfl rfl (ao (h1.mono zl l0_6).1 an) (zd (z7 rfl (fun hb61 => ?_) (fun hb61 => ?_)))
           ·have H := ifT hb61 H; refine zD (zc (zB (zc ?_))); obtain ⟨q62, hq62, H⟩ := bnd H; refine qx (fun F w => ∃ (Fb : Fr) (G : Gm), F = qC Fb [(1, .slice a2 n2 c2), (3, pV b6), (5, pV b9), (8, iV s37), (9, iV s55), (135, .bool q62)] ∧ Gle G60 G ∧ SO G0 w0 G w []) ?_ ?_
            ·have Hoq62 := H; have H := hq62; have hS := hS.keep (zn _); have hO := hO.below (zn _)
             refine zQ qA (fun _ w => Sat G60 w ∧ True) (.fl 0 (.fl 1 (.fl 2 (.fl 3 (.fl 4 (.fl 5 (.fl 6 (.fl 7 (.fl 8 (.fl 9 (.on 10 (.on 11 (.on 12 (.on 13 (.on 14 (.on 15 (.on 16 (.fl 17 (.fl 18 (.fl 19 (.fl 20 (.fl 21 (.fl 22 (.fl 23 (.fl 24 (.fl 25 (.fl 26 (.fl 27 (.fl 28 (.fl 29 (.fl 30 (.fl 31 (.fl 32 (.fl 33 (.on 34 (.on 35 (.on 36 (.on 37 (.on 38 (.on 39 .nil)))))))))))))))))))))))))))))))))))))))) (by kernel_rfl) rfl (by kernel_rfl) (fun _ => ⟨hS.sat, trivial⟩) ?_
             refine zh rfl (fun w hw => zj zmU rfl) rfl (zh rfl (fun w hw => zk znK rfl ((hw.1.le (((leG36.trans leG42).trans leG53).trans leG60)).cell (hcb9 1 _ rfl))) rfl (zh rfl (fun w hw => zf (v := (iV s37)) rfl) rfl ?_)); obtain ⟨y63, hy63, H⟩ := bnd H; refine xH rfl znE (h4.mono (zO zm) l0_6) hy63 rfl rfl rfl ?_
             rintro b64 o64 _ hcb64 _ ⟨a65, n65, c65, ⟨⟩, h65⟩
             refine zh rfl (fun w hw => zk zl8 rfl (hw.1.cell (hcb64 0 _ rfl))) rfl (zh rfl (fun w hw => zf (v := (iV s55)) rfl) rfl ?_); obtain ⟨y66, hy66, H⟩ := bnd H; refine xH rfl zeB h65 hy66 rfl rfl rfl ?_
             rintro b67 o67 _ hcb67 _ ⟨⟩
             refine zh rfl (fun w hw => zk na3 rfl (hw.1.cell (hcb67 0 _ rfl))) rfl (zh rfl (fun w hw => zj za7 rfl) rfl (zh rfl (fun w hw => zk zih rfl ((hw.1.le l1_6).cell (hcb6 0 _ rfl))) rfl (zt rfl rfl (zA (zf (v := (iV s55)) rfl) rfl ?_)))); refine ⟨fun _ _ => ⟨hS.sat, trivial⟩, ?_⟩; obtain ⟨y68, hy68, H⟩ := bnd H; refine zt rfl rfl (zeu zef (h1.mono zl l0_6) hy68 rfl rfl rfl ?_)
             rintro b69 o69 _ hcb69 _ ⟨⟩
             refine ⟨fun _ _ => ⟨hS.sat, trivial⟩, ?_⟩; refine zt rfl rfl (zA (zj zmR rfl) rfl ?_); refine ⟨fun _ _ => ⟨hS.sat, trivial⟩, ?_⟩; refine zt rfl rfl (zA (zw zf0 (cs := [iV y68.Grow.Low, iV y68.Grow.High]) rfl rfl (fun j v hj => hS.sat.cell (hcb69.drop_take 2 2 j v hj))) rfl ?_); refine ⟨fun _ _ => ⟨hS.sat, trivial⟩, ?_⟩; obtain ⟨y70, hy70, H⟩ := bnd H; refine zt rfl rfl (zu zpR (zm2 (x0 := y66) (x1 := y68.Grow) hS.sat  hy70) rfl rfl (fun w71 hb => ?_)); have hS := hS.keep hb; have hO := hO.below hb; refine ⟨fun _ _ => ⟨hS.sat, trivial⟩, ?_⟩; refine zt rfl rfl (zA (qI rfl) rfl ?_); refine ⟨fun _ _ => ⟨hS.sat, trivial⟩, ?_⟩; refine zt rfl rfl (zA (zf (v := (.bool (!y70))) rfl) rfl ?_); refine ⟨fun _ _ => ⟨hS.sat, trivial⟩, ?_⟩
             rcases qo (!y70) with hb72 | hb72
             ·have H := ifT hb72 H; refine yh rfl rfl hb72 rfl rfl rfl (yh rfl rfl hb72 rfl rfl rfl (yh rfl rfl hb72 rfl rfl rfl (yh rfl rfl hb72 rfl rfl rfl (yh rfl rfl hb72 rfl rfl rfl (yh rfl rfl hb72 rfl rfl rfl (yh rfl rfl hb72 rfl rfl rfl (yh rfl rfl hb72 rfl rfl rfl (yh rfl rfl hb72 rfl rfl rfl (yh rfl rfl hb72 rfl rfl rfl (yh rfl rfl hb72 rfl rfl rfl (yh rfl rfl hb72 rfl rfl rfl (yh rfl rfl hb72 rfl rfl rfl (yh rfl rfl hb72 rfl rfl rfl (yh rfl rfl hb72 rfl rfl rfl (yh rfl rfl hb72 rfl rfl rfl (yh rfl rfl hb72 rfl rfl rfl (jh rfl rfl hb72 rfl rfl rfl (fun _ _ => ⟨hS.sat, trivial⟩) (jh rfl rfl hb72 rfl rfl rfl (fun _ _ => ⟨hS.sat, trivial⟩) (jh rfl rfl hb72 rfl rfl rfl (fun _ _ => ⟨hS.sat, trivial⟩) ?_)))))))))))))))))))
              refine jh rfl rfl hb72 rfl rfl rfl (fun _ h => zK (by kernel_rfl) h) ?_
              refine jh rfl rfl hb72 rfl rfl rfl (fun _ h => zK (by kernel_rfl) h) ?_
              refine zt rfl rfl (zA (yH (v := (.bool true)) rfl hb72 rfl) rfl ?_)
              refine ⟨fun _ h => zK (by kernel_rfl) h, ?_⟩
              refine qk ?_
              have hO : Owns _ _ _ [] := hO
              cases H
              exact ⟨_, G60, zi _ _ ⟨rfl, rfl, rfl, rfl, rfl, rfl, trivial⟩, Gle.refl _, hS, hO⟩
             ·have H := ifF hb72 H; refine zX rfl rfl hb72 rfl rfl (fun w hw => zj zmT rfl) rfl (zX rfl rfl hb72 rfl rfl (fun w hw => zk znK rfl ((hw.1.le (((leG36.trans leG42).trans leG53).trans leG60)).cell (hcb9 2 _ rfl))) rfl (zX rfl rfl hb72 rfl rfl (fun w hw => zf (v := (iV s37)) rfl) rfl ?_)); obtain ⟨y73, hy73, H⟩ := bnd H; refine kM rfl rfl hb72 rfl rfl znE (h5.mono (zO zm) l0_6) hy73 rfl rfl rfl ?_
              rintro b74 o74 _ hcb74 _ ⟨a75, n75, c75, ⟨⟩, h75⟩
              refine zX rfl rfl hb72 rfl rfl (fun w hw => zk zl8 rfl (hw.1.cell (hcb74 0 _ rfl))) rfl (zX rfl rfl hb72 rfl rfl (fun w hw => zf (v := (iV s55)) rfl) rfl ?_); obtain ⟨y76, hy76, H⟩ := bnd H; refine kM rfl rfl hb72 rfl rfl zeB h75 hy76 rfl rfl rfl ?_
              rintro b77 o77 _ hcb77 _ ⟨⟩
              refine zX rfl rfl hb72 rfl rfl (fun w hw => zk na3 rfl (hw.1.cell (hcb77 0 _ rfl))) rfl (zX rfl rfl hb72 rfl rfl (fun w hw => zj za7 rfl) rfl (zX rfl rfl hb72 rfl rfl (fun w hw => zk zih rfl ((hw.1.le l1_6).cell (hcb6 0 _ rfl))) rfl (zX rfl rfl hb72 rfl rfl (fun w hw => zf (v := (iV s55)) rfl) rfl (kM rfl rfl hb72 rfl rfl zef (h1.mono zl l0_6) hy68 rfl rfl rfl ?_))))
              rintro b78 o78 _ hcb78 _ ⟨⟩
              refine zX rfl rfl hb72 rfl rfl (fun w hw => zw zn0 (cs := [iV y68.Count, iV y68.Room, iV y68.Grow.Low, iV y68.Grow.High, iV y68.Drift, iV y68.Into, iV y68.Open.Low, iV y68.Open.High, iV y68.Shut.Low, iV y68.Shut.High, iV y68.Goal, iV y68.Worth]) rfl rfl (fun j v hj => hw.1.cell (hcb78.drop_take 0 12 j v hj))) rfl (zX rfl rfl hb72 rfl rfl (fun w hw => zf (v := (.slice a2 n2 c2)) rfl) rfl (zX rfl rfl hb72 rfl rfl (fun w hw => zf (v := (iV s37)) rfl) rfl ?_)); obtain ⟨y79, hy79, H⟩ := bnd H; refine kM rfl rfl hb72 rfl rfl zeB (h2.mono zm l0_6) hy79 rfl rfl rfl ?_
              rintro b80 o80 _ hcb80 _ ⟨⟩
              refine zX rfl rfl hb72 rfl rfl (fun w hw => zk na3 rfl (hw.1.cell (hcb80 0 _ rfl))) rfl (kB rfl rfl rfl hb72 rfl rfl (zA (zf (v := (iV s55)) rfl) rfl ?_)); refine ⟨fun _ _ => ⟨hS.sat, trivial⟩, ?_⟩; obtain ⟨y81, hy81, H⟩ := bnd H; refine kB rfl rfl rfl hb72 rfl rfl (zu zpS (zjQ (x0 := y79) (x1 := s55) hS.sat  hy81) rfl rfl (fun w82 hb => ?_)); have hS := hS.keep hb; have hO := hO.below hb; refine ⟨fun _ _ => ⟨hS.sat, trivial⟩, ?_⟩; obtain ⟨y83, hy83, H⟩ := bnd H; refine kB rfl rfl rfl hb72 rfl rfl (zu zAL (zxr (x0 := y68) (x1 := y81) hS.sat  hy83) rfl rfl (fun w84 hb => ?_)); have hS := hS.keep hb; have hO := hO.below hb; refine ⟨fun _ _ => ⟨hS.sat, trivial⟩, ?_⟩; obtain ⟨y85, hy85, H⟩ := bnd H; refine kB rfl rfl rfl hb72 rfl rfl (zu zpR (zm2 (x0 := y76) (x1 := y83) hS.sat  hy85) rfl rfl (fun w86 hb => ?_)); have hS := hS.keep hb; have hO := hO.below hb
              refine ⟨fun _ h => zK (by kernel_rfl) h, ?_⟩
              refine kB rfl rfl rfl hb72 rfl rfl (zA (qI rfl) rfl ?_)
              refine ⟨fun _ h => zK (by kernel_rfl) h, ?_⟩
              refine zt rfl rfl (zA (xg (v := (.bool (!y85))) rfl hb72 rfl) rfl ?_)
              refine ⟨fun _ h => zK (by kernel_rfl) h, ?_⟩
              refine qk ?_
              have hO : Owns _ _ _ [] := hO
              cases H
              exact ⟨_, G60, zi _ _ ⟨rfl, rfl, rfl, rfl, rfl, rfl, trivial⟩, Gle.refl _, hS, hO⟩
            ·rintro F w87 ⟨Fb, G88, rfl, leG88, hS, hO⟩
             refine z7 rfl (fun hb89 => ?_) (fun hb89 => ?_)
             ·have H := ifT hb89 H; refine zc (zb (za (ze (v := (.bool false)) rfl) rfl (zd (zH ?_)))); cases H
              have hres := hqq57 _ rfl
              subst hres; have H := Hoq57; cases H
              have hres := hqq39 _ rfl
              subst hres; have H := Hoq39
              have H : some false = some r := H
              cases H
              exact ⟨rfl, hS.below⟩
             ·have H := ifF hb89 H; refine zD (zb ?_); refine wr 3 rfl ?_; refine zd ?_
              have hO : Owns _ _ _ [] := hO
              cases H; refine ⟨_, rfl, ?_⟩
              have l5_7 := leG60.trans leG88
              exact ⟨_, G88, zi _ _ ⟨rfl, rfl, rfl, rfl, rfl, trivial⟩, l5_7, hS, hO⟩
           ·have H := ifF hb61 H; refine ql rfl ?_
            have hO : Owns _ _ _ [] := hO
            cases H
            have hres := hqq57 _ rfl
            subst hres
            exact ⟨_, _, G60, rfl, zi _ _ ⟨rfl, rfl, rfl, rfl, trivial⟩, leG60, hS, hO⟩
         ·rintro F w90 ⟨p56, Fb, G91, rfl, rfl, leG91, hS, hO⟩
          refine zb ?_; refine wr 3 rfl ?_; refine zd ?_
          have hO : Owns _ _ _ [] := hO
          cases H; refine ⟨_, rfl, ?_⟩
          have l3_6 := (leG42.trans leG53).trans leG91
          exact ⟨_, G91, zi _ _ ⟨rfl, rfl, rfl, rfl, trivial⟩, l3_6, hS, hO⟩
      ·have H := ifF hb43 H; refine ql rfl ?_
       have hO : Owns _ _ _ [] := hO
       cases H
       have hres := hqq39 _ rfl
       subst hres
       exact ⟨_, _, G42, rfl, rfl, leG42, hS, hO⟩
    ·rintro F w93 ⟨p38, Fb, G94, rfl, rfl, leG94, hS, hO⟩
     refine zc (zb (za (ze (v := (.bool true)) rfl) rfl (zd (zH ?_))))
     have H : some true = some r := H
     cases H
     exact ⟨rfl, hS.below⟩
set_option maxHeartbeats 1000000 in
theorem vd {G0 : Gm} {w0 : World} (hS0 : Sat G0 w0) {x0 : Int} {x1 : Int} {x2 : Int}  {r : Bool} (H : f75 x0 x1 x2 = some r) :
  Calls Tryz.prog 75 #[iV x0, iV x1, iV x2] w0 (qQ w0 (.bool r)) := by
 have hS := Since.start hS0
 have hO := xw G0 w0
 unfold f75 at H
 refine z8 (N := 15) (qS _ _) Tryz.func75 rfl rfl rfl rfl (zc (zb (za (ze (v := (.bool false)) rfl) rfl (zd (zc ?_))))); obtain ⟨q1, hq1, H⟩ := bnd H; refine qx (fun F w => ∃ (Fb : Fr), F = qC Fb [(6, .bool q1)] ∧ w0 = w) ?_ ?_
 ·have Hoq1 := H; have H := hq1; refine zb ?_; refine wr 4 rfl ?_
  rcases qo (decide (x1 ≤ x0)) with hb2 | hb2
  ·have H := ifT hb2 H; refine wk hb2 5 rfl rfl ?_; refine zd ?_; cases H
   exact ⟨_, zi _ _ ⟨rfl, trivial⟩, rfl⟩
  ·have H := ifF hb2 H; refine wk hb2 5 rfl rfl ?_; refine zd ?_; cases H
   exact ⟨_, zi _ _ ⟨rfl, trivial⟩, rfl⟩
 ·rintro F wl ⟨Fb, rfl, rfl⟩
  refine zH ?_
  have H : some q1 = some r := H
  cases H
  exact ⟨rfl, hS.below⟩
set_option maxHeartbeats 1000000 in
theorem zhJ {G0 : Gm} {w0 : World} (hS0 : Sat G0 w0) {x0 : qy} {x1 : Int}  {r : Bool} (H : zjU x0 x1 = some r) :
  Calls Tryz.prog 164 #[.agg #[iV x0.Low, iV x0.High], iV x1] w0 (qQ w0 (.bool r)) := by
 have hS := Since.start hS0
 have hO := xw G0 w0
 unfold zjU at H
 refine z8 (N := 21) (qS _ _) Tryz.func164 rfl rfl rfl rfl (zc (zb (zp rfl (zI (v := fun b => pV b) (cs := [iV x0.Low, iV x0.High]) (e := 23) (z6 rfl) hS.sat rfl (fun b1 G3 w2 hg hcb1 => ?_))))); have hS := hS.grow hg; have hO := hO.grow hg
 have leG3 := hg.le
 refine za (ze (v := (.bool false)) rfl) rfl (zd (zc ?_)); obtain ⟨q4, hq4, H⟩ := bnd H; refine qx (fun F w => ∃ (Fb : Fr), F = qC Fb [(4, .bool q4)] ∧ w2 = w) ?_ ?_
 ·have Hoq4 := H; have H := hq4; refine zb (qY qR (zZ hS.sat hcb1) 4 [] rfl rfl an ?_)
  rcases qo (decide (0 ≤ x0.Low)) with hb5 | hb5
  ·have H := ifT hb5 H; refine qp qR (zZ hS.sat hcb1) (kb hb5) 7 [] rfl rfl an ?_
   rcases qo (decide (x0.Low ≤ x0.High)) with hb6 | hb6
   ·have H := ifT hb6 H; refine qp qR (zZ hS.sat hcb1) (kb hb6) 6 [] rfl rfl an (zd ?_); cases H
    exact ⟨_, zi _ _ ⟨rfl, trivial⟩, rfl⟩
   ·have H := ifF hb6 H; refine wk hb6 6 rfl rfl ?_; refine zd ?_; cases H
    exact ⟨_, zi _ _ ⟨rfl, trivial⟩, rfl⟩
  ·have H := ifF hb5 H; refine wk hb5 7 rfl rfl ?_; refine wr 6 rfl ?_; refine zd ?_; cases H
   exact ⟨_, zi _ _ ⟨rfl, trivial⟩, rfl⟩
 ·rintro F wl ⟨Fb, rfl, rfl⟩
  refine zH ?_
  have H : some q4 = some r := H
  cases H
  exact ⟨rfl, hS.below⟩
set_option maxHeartbeats 1000000 in
theorem zxo {G0 : Gm} {w0 : World} (hS0 : Sat G0 w0) {x0 : zr} {x1 : Int} {x2 : Int}  {r : Bool} (H : f74 x0 x1 x2 = some r) :
  Calls Tryz.prog 74 #[.agg #[iV x0.Count, iV x0.Room, iV x0.Grow.Low, iV x0.Grow.High, iV x0.Drift, iV x0.Into, iV x0.Open.Low, iV x0.Open.High, iV x0.Shut.Low, iV x0.Shut.High, iV x0.Goal, iV x0.Worth], iV x1, iV x2] w0 (qQ w0 (.bool r)) := by
 have hS := Since.start hS0
 have hO := xw G0 w0
 unfold f74 at H
 refine z8 (N := 80) (qS _ _) Tryz.func74 rfl rfl rfl rfl (zc (zb (zp rfl (zI (v := fun b => pV b) (cs := [iV x0.Count, iV x0.Room, iV x0.Grow.Low, iV x0.Grow.High, iV x0.Drift, iV x0.Into, iV x0.Open.Low, iV x0.Open.High, iV x0.Shut.Low, iV x0.Shut.High, iV x0.Goal, iV x0.Worth]) (e := 70) (z6 rfl) hS.sat rfl (fun b1 G3 w2 hg hcb1 => ?_))))); have hS := hS.grow hg; have hO := hO.grow hg
 have leG3 := hg.le
 refine za (ze (v := (.bool false)) rfl) rfl (zd (zc (zc ?_))); obtain ⟨q4, hq4, H⟩ := bnd H; refine qx (fun F w => ∃ (Fb : Fr) (G : Gm), F = qC Fb [(3, pV b1), (23, .bool q4)] ∧ Gle G3 G ∧ SO G0 w0 G w []) ?_ ?_
 ·have Hoq4 := H; have H := hq4; refine zb (qY qR (zZ hS.sat hcb1) 4 [] rfl rfl an ?_)
  rcases qo (x0.Into != (-1)) with hb5 | hb5
  ·have H := ifT hb5 H; refine qp qR (zZ hS.sat hcb1) (kb hb5) 4 [] rfl rfl an (zo rfl hb5 rfl rfl ?_); obtain ⟨y6, hy6, H⟩ := bnd H; refine zp rfl (zu zfT (vd (x0 := x0.Into) (x1 := 0) (x2 := IntKind.i64.wrap (x2 - 1)) hS.sat  hy6) rfl rfl (fun w7 hb => ?_)); have hS := hS.keep hb; have hO := hO.below hb; refine wk hb5 2 rfl rfl ?_
   rcases qo (!y6) with hb8 | hb8
   ·have H := ifT hb8 H; refine wk hb8 4 rfl rfl ?_; refine zo rfl hb5 rfl rfl (za (yH (v := (.bool true)) rfl hb8 rfl) rfl (za (yH (v := (.bool true)) rfl hb5 rfl) rfl (zd ?_)))
    have hO : Owns _ _ _ [] := hO
    cases H
    exact ⟨_, G3, zi _ _ ⟨rfl, rfl, trivial⟩, Gle.refl _, hS, hO⟩
   ·have H := ifF hb8 H; refine qp qR (zZ hS.sat hcb1) (kb hb8) 4 [] rfl rfl an (zo rfl hb5 rfl rfl (za (xg (v := (.bool (x0.Into == x1))) rfl hb8 rfl) rfl (za (yH (v := (.bool (x0.Into == x1))) rfl hb5 rfl) rfl (zd ?_))))
    have hO : Owns _ _ _ [] := hO
    cases H
    exact ⟨_, G3, zi _ _ ⟨rfl, rfl, trivial⟩, Gle.refl _, hS, hO⟩
  ·have H := ifF hb5 H; refine wk hb5 7 rfl rfl ?_; refine jv rfl rfl rfl rfl (jv rfl rfl rfl rfl (jv rfl rfl rfl rfl (jv rfl rfl rfl rfl ?_))); refine wk hb5 2 rfl rfl ?_; refine zd ?_
   have hO : Owns _ _ _ [] := hO
   cases H
   exact ⟨_, G3, zi _ _ ⟨rfl, rfl, trivial⟩, Gle.refl _, hS, hO⟩
 ·rintro F w9 ⟨Fb, G10, rfl, leG10, hS, hO⟩
  refine z7 rfl (fun hb11 => ?_) (fun hb11 => ?_)
  ·have H := ifT hb11 H; refine zc (zb (za (ze (v := (.bool false)) rfl) rfl (zd (zH ?_))))
   have H : some false = some r := H
   cases H
   exact ⟨rfl, hS.below⟩
  ·have H := ifF hb11 H; refine zD (zc ?_); obtain ⟨q12, hq12, H⟩ := bnd H; refine qx (fun F w => ∃ (Fb : Fr) (G : Gm), F = qC Fb [(6, .bool q12)] ∧ Gle G10 G ∧ SO G0 w0 G w []) ?_ ?_
   ·have Hoq12 := H; have H := hq12; refine zb (qY qR (zZ (hS.sat.le leG10) hcb1) 2 [] rfl rfl an ?_); obtain ⟨y13, hy13, H⟩ := bnd H; refine zp rfl (zu zfT (vd (x0 := x0.Count) (x1 := 0) (x2 := 1000000) hS.sat  hy13) rfl rfl (fun w14 hb => ?_)); have hS := hS.keep hb; have hO := hO.below hb; refine za (zf (v := (.bool y13)) rfl) rfl ?_
    rcases qo y13 with hb15 | hb15
    ·have H := ifT hb15 H; refine qp qR (zZ (hS.sat.le leG10) hcb1) (kb hb15) 2 [] rfl rfl an (zo rfl hb15 rfl rfl ?_); obtain ⟨y16, hy16, H⟩ := bnd H; refine zp rfl (zu zfT (vd (x0 := x0.Room) (x1 := 0) (x2 := 1000000) hS.sat  hy16) rfl rfl (fun w17 hb => ?_)); have hS := hS.keep hb; have hO := hO.below hb; refine wk hb15 2 rfl rfl ?_
     rcases qo y16 with hb18 | hb18
     ·have H := ifT hb18 H; refine qp qR (zZ (hS.sat.le leG10) hcb1) (kb hb18) 2 [] rfl rfl an (zo rfl hb18 rfl rfl ?_); obtain ⟨y19, hy19, H⟩ := bnd H; refine zp rfl (zu zfT (vd (x0 := x0.Goal) (x1 := 0) (x2 := 1000000) hS.sat  hy19) rfl rfl (fun w20 hb => ?_)); have hS := hS.keep hb; have hO := hO.below hb; refine wk hb18 2 rfl rfl ?_
      rcases qo y19 with hb21 | hb21
      ·have H := ifT hb21 H; refine zo rfl hb21 rfl rfl (za (zj zmR rfl) rfl (zo rfl hb21 rfl rfl (za (zw zf0 (cs := [iV x0.Grow.Low, iV x0.Grow.High]) rfl rfl (fun j v hj => (hS.sat.le leG10).cell (hcb1.drop_take 2 2 j v hj))) rfl (zo rfl hb21 rfl rfl ?_)))); obtain ⟨y22, hy22, H⟩ := bnd H; refine zp rfl (zu znf (zhJ (x0 := x0.Grow) (x1 := 2000) hS.sat  hy22) rfl rfl (fun w23 hb => ?_)); have hS := hS.keep hb; have hO := hO.below hb; refine wk hb21 2 rfl rfl ?_
       rcases qo y22 with hb24 | hb24
       ·have H := ifT hb24 H; refine qp qR (zZ (hS.sat.le leG10) hcb1) (kb hb24) 2 [] rfl rfl an (zo rfl hb24 rfl rfl ?_); obtain ⟨y25, hy25, H⟩ := bnd H; refine zp rfl (zu zfT (vd (x0 := x0.Drift) (x1 := 0) (x2 := 1000) hS.sat  hy25) rfl rfl (fun w26 hb => ?_)); have hS := hS.keep hb; have hO := hO.below hb; refine wk hb24 2 rfl rfl ?_
        rcases qo y25 with hb27 | hb27
        ·have H := ifT hb27 H; refine zo rfl hb27 rfl rfl (za (zj zjL rfl) rfl (zo rfl hb27 rfl rfl (za (zw zf0 (cs := [iV x0.Open.Low, iV x0.Open.High]) rfl rfl (fun j v hj => (hS.sat.le leG10).cell (hcb1.drop_take 6 2 j v hj))) rfl (zo rfl hb27 rfl rfl ?_)))); obtain ⟨y28, hy28, H⟩ := bnd H; refine zp rfl (zu znf (zhJ (x0 := x0.Open) (x1 := 1000000) hS.sat  hy28) rfl rfl (fun w29 hb => ?_)); have hS := hS.keep hb; have hO := hO.below hb; refine wk hb27 2 rfl rfl ?_
         rcases qo y28 with hb30 | hb30
         ·have H := ifT hb30 H; refine zo rfl hb30 rfl rfl (za (zj zjK rfl) rfl (zo rfl hb30 rfl rfl (za (zw zf0 (cs := [iV x0.Shut.Low, iV x0.Shut.High]) rfl rfl (fun j v hj => (hS.sat.le leG10).cell (hcb1.drop_take 8 2 j v hj))) rfl (zo rfl hb30 rfl rfl ?_)))); obtain ⟨y31, hy31, H⟩ := bnd H; refine zp rfl (zu znf (zhJ (x0 := x0.Shut) (x1 := 1000000) hS.sat  hy31) rfl rfl (fun w32 hb => ?_)); have hS := hS.keep hb; have hO := hO.below hb; refine wk hb30 2 rfl rfl ?_
          rcases qo y31 with hb33 | hb33
          ·have H := ifT hb33 H; refine qp qR (zZ (hS.sat.le leG10) hcb1) (kb hb33) 9 [] rfl rfl an ?_
           rcases qo (decide (x0.Shut.Low ≤ x0.Open.Low)) with hb34 | hb34
           ·have H := ifT hb34 H; refine qp qR (zZ (hS.sat.le leG10) hcb1) (kb hb34) 9 [] rfl rfl an ?_
            rcases qo (decide (x0.Shut.High ≤ x0.Open.High)) with hb35 | hb35
            ·have H := ifT hb35 H; refine qp qR (zZ (hS.sat.le leG10) hcb1) (kb hb35) 2 [] rfl rfl an (zo rfl hb35 rfl rfl ?_); obtain ⟨y36, hy36, H⟩ := bnd H; refine zp rfl (zu zfT (vd (x0 := x0.Worth) (x1 := 0) (x2 := 1000000) hS.sat  hy36) rfl rfl (fun w37 hb => ?_)); have hS := hS.keep hb; have hO := hO.below hb; refine wk hb35 2 rfl rfl ?_; refine zd ?_
             have hO : Owns _ _ _ [] := hO
             cases H
             exact ⟨_, G10, zi _ _ ⟨rfl, trivial⟩, Gle.refl _, hS, hO⟩
            ·have H := ifF hb35 H; refine wk hb35 5 rfl rfl ?_; refine zd ?_
             have hO : Owns _ _ _ [] := hO
             cases H
             exact ⟨_, G10, zi _ _ ⟨rfl, trivial⟩, Gle.refl _, hS, hO⟩
           ·have H := ifF hb34 H; refine wk hb34 9 rfl rfl ?_; refine wr 5 rfl ?_; refine zd ?_
            have hO : Owns _ _ _ [] := hO
            cases H
            exact ⟨_, G10, zi _ _ ⟨rfl, trivial⟩, Gle.refl _, hS, hO⟩
          ·have H := ifF hb33 H; refine wk hb33 9 rfl rfl ?_; refine wr 14 rfl ?_; refine zd ?_
           have hO : Owns _ _ _ [] := hO
           cases H
           exact ⟨_, G10, zi _ _ ⟨rfl, trivial⟩, Gle.refl _, hS, hO⟩
         ·have H := ifF hb30 H; refine wk hb30 5 rfl rfl ?_; refine wr 23 rfl ?_; refine zd ?_
          have hO : Owns _ _ _ [] := hO
          cases H
          exact ⟨_, G10, zi _ _ ⟨rfl, trivial⟩, Gle.refl _, hS, hO⟩
        ·have H := ifF hb27 H; refine wk hb27 5 rfl rfl ?_; refine wr 28 rfl ?_; refine zd ?_
         have hO : Owns _ _ _ [] := hO
         cases H
         exact ⟨_, G10, zi _ _ ⟨rfl, trivial⟩, Gle.refl _, hS, hO⟩
       ·have H := ifF hb24 H; refine wk hb24 5 rfl rfl ?_; refine wr 33 rfl ?_; refine zd ?_
        have hO : Owns _ _ _ [] := hO
        cases H
        exact ⟨_, G10, zi _ _ ⟨rfl, trivial⟩, Gle.refl _, hS, hO⟩
      ·have H := ifF hb21 H; refine wk hb21 5 rfl rfl ?_; refine wr 38 rfl ?_; refine zd ?_
       have hO : Owns _ _ _ [] := hO
       cases H
       exact ⟨_, G10, zi _ _ ⟨rfl, trivial⟩, Gle.refl _, hS, hO⟩
     ·have H := ifF hb18 H; refine wk hb18 5 rfl rfl ?_; refine wr 43 rfl ?_; refine zd ?_
      have hO : Owns _ _ _ [] := hO
      cases H
      exact ⟨_, G10, zi _ _ ⟨rfl, trivial⟩, Gle.refl _, hS, hO⟩
    ·have H := ifF hb15 H; refine wk hb15 5 rfl rfl ?_; refine wr 48 rfl ?_; refine zd ?_
     have hO : Owns _ _ _ [] := hO
     cases H
     exact ⟨_, G10, zi _ _ ⟨rfl, trivial⟩, Gle.refl _, hS, hO⟩
   ·rintro F w38 ⟨Fb, G39, rfl, leG39, hS, hO⟩
    refine zH ?_
    have H : some q12 = some r := H
    cases H
    exact ⟨rfl, hS.below⟩
set_option maxHeartbeats 1000000 in
theorem zjS {G0 : Gm} {w0 : World} (hS0 : Sat G0 w0) {x0 : qz} {a1 : Option Addr} {n1 c1 : Nat} (h1 : RSl zE 12 G0 a1 n1 c1 x0.Places) {r : Bool} (H : f24 x0 = some r) :
  Calls Tryz.prog 24 #[.agg #[.slice a1 n1 c1, iV x0.Miss, iV x0.Seasons]] w0 (qQ w0 (.bool r)) := by
 have hS := Since.start hS0
 have hO := xw G0 w0
 unfold f24 at H
 refine z8 (N := 35) (qS _ _) Tryz.func24 rfl rfl rfl rfl (zc (zb (zp rfl (zI (v := fun b => pV b) (cs := [.slice a1 n1 c1, iV x0.Miss, iV x0.Seasons]) (e := 35) (z6 rfl) hS.sat rfl (fun b2 G4 w3 hg hcb2 => ?_))))); have hS := hS.grow hg; have hO := hO.grow hg
 have leG4 := hg.le
 refine za (ze (v := (.bool false)) rfl) rfl (zd (zc (zc (zb (qY qR (zZ hS.sat hcb2) 4 [_] rfl rfl (ao (h1.mono zl leG4).1 an) (zd ?_)))))); obtain ⟨q7, hq7, H⟩ := bnd H; refine qx (fun F w => ∃ (p6 : Unit) (Fb : Fr) (G : Gm), q7 = .inl p6 ∧ F = qC Fb [(1, pV b2)] ∧ Gle G4 G ∧ SO G0 w0 G w []) ?_ ?_
 ·refine zB (xr hq7 (fun s5 F w => ∃ (Fb : Fr) (G : Gm), F = qC Fb [(1, pV b2), (6, .slice a1 n1 c1), (7, iV (x0.Places.length : Int)), (8, iV s5)] ∧ Gle G4 G ∧ SO G0 w0 G w []) ?_ ?_)
  ·have hO : Owns _ _ _ [] := hO
   exact ⟨_, G4, zi _ _ ⟨rfl, rfl, rfl, rfl, trivial⟩, Gle.refl _, hS, hO⟩
  ·rintro s5 F w9 t8 ⟨Fb, G10, rfl, leG10, hS, hO⟩
   intro H1 hqq7
   have Hoq7 := H; have H := H1
   unfold zdL at H
   refine zc (zb (za (qa rfl rfl) rfl (zd (zc (z7 rfl (fun hb11 => ?_) (fun hb11 => ?_))))))
   ·have H := ifT hb11 H; refine zD (zc (zB (zc (zb (za (zf (v := (iV s5)) rfl) rfl ?_))))); obtain ⟨y12, hy12, H⟩ := bnd H
    have l0_2 := leG4.trans leG10
    refine xi zef (h1.mono zl l0_2) hy12 rfl rfl rfl ?_
    rintro b13 o13 _ hcb13 _ ⟨⟩
    refine za (zw zn0 (cs := [iV y12.Count, iV y12.Room, iV y12.Grow.Low, iV y12.Grow.High, iV y12.Drift, iV y12.Into, iV y12.Open.Low, iV y12.Open.High, iV y12.Shut.Low, iV y12.Shut.High, iV y12.Goal, iV y12.Worth]) rfl rfl (fun j v hj => hS.sat.cell (hcb13.drop_take 0 12 j v hj))) rfl ?_
    refine zp rfl (zY (v := fun b => pV b) (cs := [iV 0, iV 0, iV 0, iV 0, iV 0, iV 0, iV 0, iV 0, iV 0, iV 0, iV 0, iV 0]) (e := 70) (by kernel_rfl) hS.sat hO rfl 12 1 rfl (by decide) (fun b14 w15 hb hO => ?_))
    have hS := hS.keep hb; refine za (ze (v := (iV s5)) rfl) rfl (zp rfl (zM (vs := [iV y12.Count, iV y12.Room, iV y12.Grow.Low, iV y12.Grow.High, iV y12.Drift, iV y12.Into, iV y12.Open.Low, iV y12.Open.High, iV y12.Shut.Low, iV y12.Shut.High, iV y12.Goal, iV y12.Worth]) zps hS hO (k := 0) rfl rfl rfl rfl rfl (zR rfl) (Nat.le_of_ble_eq_true rfl) (fun w17 hS hO => ?_)))
    have hO : Owns _ _ _ ([⟨70, 12, 1, .slice (some ⟨b14, 0, none⟩) 1 1, [iV y12.Count, iV y12.Room, iV y12.Grow.Low, iV y12.Grow.High, iV y12.Drift, iV y12.Into, iV y12.Open.Low, iV y12.Open.High, iV y12.Shut.Low, iV y12.Shut.High, iV y12.Goal, iV y12.Worth]⟩]) := hO
    obtain ⟨G18, leG18, hS, hO, hqG18, _⟩ := hO.freeze hS (k := 0) rfl
    have hcG18 : Cells G18 b14 0 [iV y12.Count, iV y12.Room, iV y12.Grow.Low, iV y12.Grow.High, iV y12.Drift, iV y12.Into, iV y12.Open.Low, iV y12.Open.High, iV y12.Shut.Low, iV y12.Shut.High, iV y12.Goal, iV y12.Worth] := (hqG18 _ _ _ _ rfl)
    refine zd (zc (zb (za (zw zn0 (cs := [iV y12.Count, iV y12.Room, iV y12.Grow.Low, iV y12.Grow.High, iV y12.Drift, iV y12.Into, iV y12.Open.Low, iV y12.Open.High, iV y12.Shut.Low, iV y12.Shut.High, iV y12.Goal, iV y12.Worth]) rfl rfl (fun j v hj => hS.sat.cell (hcG18.drop_take 0 12 j v hj))) rfl ?_)))
    have l1_3 := leG10.trans leG18
    have l0_3 := l0_2.trans leG18
    refine qY qR (zZ (hS.sat.le l1_3) hcb2) 4 [_] rfl rfl (ao (h1.mono zl l0_3).1 an) ?_; obtain ⟨y19, hy19, H⟩ := bnd H; refine zp rfl (zu zAK (zxo (x0 := y12) (x1 := s5) (x2 := (x0.Places.length : Int)) hS.sat  hy19) rfl rfl (fun w20 hb => ?_)); have hS := hS.keep hb; have hO := hO.below hb; refine za (qI rfl) rfl (zd (z7 rfl (fun hb21 => ?_) (fun hb21 => ?_)))
    ·have H := ifT hb21 H; refine zc (zb (za (ze (v := (.bool false)) rfl) rfl (zd (zH ?_)))); cases H
     have hres := hqq7 _ rfl
     subst hres; have H := Hoq7
     have H : some false = some r := H
     cases H
     exact ⟨rfl, hS.below⟩
    ·have H := ifF hb21 H; refine zD (zb ?_); refine wr 2 rfl ?_; refine zd ?_
     have hO : Owns _ _ _ [] := hO
     cases H; refine ⟨_, rfl, ?_⟩
     exact ⟨_, G18, zi _ _ ⟨rfl, rfl, rfl, rfl, trivial⟩, l1_3, hS, hO⟩
   ·have H := ifF hb11 H; refine ql rfl ?_
    have hO : Owns _ _ _ [] := hO
    cases H
    have hres := hqq7 _ rfl
    subst hres
    exact ⟨_, _, G10, rfl, zi _ _ ⟨rfl, trivial⟩, leG10, hS, hO⟩
 ·rintro F w22 ⟨p6, Fb, G23, rfl, rfl, leG23, hS, hO⟩
  refine zc ?_; obtain ⟨q24, hq24, H⟩ := bnd H; refine qx (fun F w => ∃ (Fb : Fr) (G : Gm), F = qC Fb [(2, .bool q24)] ∧ Gle G23 G ∧ SO G0 w0 G w []) ?_ ?_
  ·have Hoq24 := H; have H := hq24; refine zb ?_
   have l0_2 := leG4.trans leG23
   refine qY qR (zZ (hS.sat.le leG23) hcb2) 3 [_] rfl rfl (ao (h1.mono zl l0_2).1 an) ?_; obtain ⟨y25, hy25, H⟩ := bnd H; refine zp rfl (zu zfT (vd (x0 := (x0.Places.length : Int)) (x1 := 1) (x2 := 4) hS.sat  hy25) rfl rfl (fun w26 hb => ?_)); have hS := hS.keep hb; have hO := hO.below hb; refine za (zf (v := (.bool y25)) rfl) rfl ?_
   rcases qo y25 with hb27 | hb27
   ·have H := ifT hb27 H; refine qp qR (zZ (hS.sat.le leG23) hcb2) (kb hb27) 2 [] rfl rfl an (zo rfl hb27 rfl rfl ?_); obtain ⟨y28, hy28, H⟩ := bnd H; refine zp rfl (zu zfT (vd (x0 := x0.Miss) (x1 := 0) (x2 := 2000) hS.sat  hy28) rfl rfl (fun w29 hb => ?_)); have hS := hS.keep hb; have hO := hO.below hb; refine wk hb27 2 rfl rfl ?_
    rcases qo y28 with hb30 | hb30
    ·have H := ifT hb30 H; refine qp qR (zZ (hS.sat.le leG23) hcb2) (kb hb30) 2 [] rfl rfl an (zo rfl hb30 rfl rfl ?_); obtain ⟨y31, hy31, H⟩ := bnd H; refine zp rfl (zu zfT (vd (x0 := x0.Seasons) (x1 := 1) (x2 := 4) hS.sat  hy31) rfl rfl (fun w32 hb => ?_)); have hS := hS.keep hb; have hO := hO.below hb; refine wk hb30 2 rfl rfl ?_; refine zd ?_
     have hO : Owns _ _ _ [] := hO
     cases H
     exact ⟨_, G23, zi _ _ ⟨rfl, trivial⟩, Gle.refl _, hS, hO⟩
    ·have H := ifF hb30 H; refine wk hb30 5 rfl rfl ?_; refine zd ?_
     have hO : Owns _ _ _ [] := hO
     cases H
     exact ⟨_, G23, zi _ _ ⟨rfl, trivial⟩, Gle.refl _, hS, hO⟩
   ·have H := ifF hb27 H; refine wk hb27 5 rfl rfl ?_; refine wr 5 rfl ?_; refine zd ?_
    have hO : Owns _ _ _ [] := hO
    cases H
    exact ⟨_, G23, zi _ _ ⟨rfl, trivial⟩, Gle.refl _, hS, hO⟩
  ·rintro F w33 ⟨Fb, G34, rfl, leG34, hS, hO⟩
   refine zH ?_
   have H : some q24 = some r := H
   cases H
   exact ⟨rfl, hS.below⟩
set_option maxHeartbeats 1000000 in
theorem zu3 {G0 : Gm} {w0 : World} (hS0 : Sat G0 w0) {x0 : (List Int)} {a1 : Option Addr} {n1 c1 : Nat} {x1 : (Int → Option Bool)} {k2 : Nat} {fi2 ca2 : List Value} (h1 : RSl zW 1 G0 a1 n1 c1 x0) (hf2 : FnOk136 G0 k2 fi2 ca2 x1) {r : Int} (H : znU x0 x1 = some r) :
  Calls Tryz.prog 175 #[.slice a1 n1 c1, .func (.func k2) (fi2).toArray (ca2).toArray] w0 (qQ w0 (iV r)) := by
 have hS := Since.start hS0
 have hO := xw G0 w0
 unfold znU at H
 refine z8 (N := 19) (qS _ _) Tryz.func175 rfl rfl rfl rfl (zc (zb (za (ze (v := (iV 0)) rfl) rfl (zd (zc (zc (zb (qY qR (zcm _) 3 [_] rfl rfl (ao h1.1 an) (zd ?_))))))))); obtain ⟨q5, hq5, H⟩ := bnd H; refine qx (fun F w => ∃ (p4 : Unit) (Fb : Fr) (G : Gm), q5 = .inl p4 ∧ F = qC Fb [] ∧ Gle G0 G ∧ SO G0 w0 G w []) ?_ ?_
 ·refine zB (xr hq5 (fun s3 F w => ∃ (Fb : Fr) (G : Gm), F = qC Fb [(0, .slice a1 n1 c1), (1, .func (.func k2) (fi2).toArray (ca2).toArray), (7, iV (x0.length : Int)), (8, iV s3)] ∧ Gle G0 G ∧ SO G0 w0 G w []) ?_ ?_)
  ·have hO : Owns _ _ _ [] := hO
   exact ⟨_, G0, zi _ _ ⟨rfl, rfl, rfl, rfl, trivial⟩, Gle.refl _, hS, hO⟩
  ·rintro s3 F w7 t6 ⟨Fb, G8, rfl, leG8, hS, hO⟩
   intro H1 hqq5
   have Hoq5 := H; have H := H1
   unfold zby at H
   refine zc (zb (za (qa rfl rfl) rfl (zd (zc (z7 rfl (fun hb9 => ?_) (fun hb9 => ?_))))))
   ·have H := ifT hb9 H; refine zD (zc (zB (zc (zb ?_)))); refine wr 2 rfl ?_; refine zd (zc (zb ?_)); refine wr 3 rfl ?_; obtain ⟨y10, hy10, H⟩ := bnd H; refine xi zeB (h1.mono zm leG8) hy10 rfl rfl rfl ?_
    rintro b11 o11 _ hcb11 _ ⟨⟩
    refine za (zk na3 rfl (hS.sat.cell (hcb11 0 _ rfl))) rfl ?_; obtain ⟨y12, hy12, H⟩ := bnd H; refine zp rfl (yN hf2.1 (hf2.2 _ _ leG8 hS.sat y10 _  hy12) rfl rfl rfl (fun w13 hb => ?_)); have hS := hS.keep hb; have hO := hO.below hb; refine zd (z7 rfl (fun hb14 => ?_) (fun hb14 => ?_))
    ·have H := ifT hb14 H; refine zc (zb ?_); refine wr 2 rfl ?_; refine zd (zH ?_); cases H
     have hres := hqq5 _ rfl
     subst hres; have H := Hoq5
     have H : some s3 = some r := H
     cases H
     exact ⟨rfl, hS.below⟩
    ·have H := ifF hb14 H; refine zD (zb ?_); refine wr 2 rfl ?_; refine zd ?_
     have hO : Owns _ _ _ [] := hO
     cases H; refine ⟨_, rfl, ?_⟩
     exact ⟨_, G8, zi _ _ ⟨rfl, rfl, rfl, rfl, trivial⟩, leG8, hS, hO⟩
   ·have H := ifF hb9 H; refine ql rfl ?_
    have hO : Owns _ _ _ [] := hO
    cases H
    have hres := hqq5 _ rfl
    subst hres
    exact ⟨_, _, G8, rfl, rfl, leG8, hS, hO⟩
 ·rintro F w15 ⟨p4, Fb, G16, rfl, rfl, leG16, hS, hO⟩
  refine zc (zb (za (ze (v := (iV (-1))) rfl) rfl (zd (zH ?_))))
  have H : some (-1) = some r := H
  cases H
  exact ⟨rfl, hS.below⟩
set_option maxHeartbeats 1000000 in
theorem zxe {G0 : Gm} {w0 : World} (hS0 : Sat G0 w0) {x0 : (List Int)} {a1 : Option Addr} {n1 c1 : Nat} {x1 : (Int → Option Bool)} {k2 : Nat} {fi2 ca2 : List Value} (h1 : RSl zW 1 G0 a1 n1 c1 x0) (hf2 : FnOk136 G0 k2 fi2 ca2 x1) {r : Bool} (H : f89 x0 x1 = some r) :
  Calls Tryz.prog 89 #[.slice a1 n1 c1, .func (.func k2) (fi2).toArray (ca2).toArray] w0 (qQ w0 (.bool r)) := by
 have hS := Since.start hS0
 have hO := xw G0 w0
 unfold f89 at H
 refine z8 (N := 9) (qS _ _) Tryz.func89 rfl rfl rfl rfl (zc (zb (za (ze (v := (.bool false)) rfl) rfl (zd (zc (zb ?_)))))); refine wr 2 rfl ?_; obtain ⟨y3, hy3, H⟩ := bnd H; refine zp rfl (zu zy1 (zu3 (x0 := x0) (x1 := x1) hS.sat h1 hf2 hy3) rfl rfl (fun w4 hb => ?_)); have hS := hS.keep hb; have hO := hO.below hb; refine wr 2 rfl ?_; refine zd (zH ?_)
 have H : some (decide (0 ≤ y3)) = some r := H
 cases H
 exact ⟨rfl, hS.below⟩
set_option maxHeartbeats 1000000 in
theorem zxd {G0 : Gm} {w0 : World} (hS0 : Sat G0 w0) {x0 : Int} {x1 : qi} {bq1 : Nat} {a1 : Option Addr} {n1 c1 : Nat} {a2 : Option Addr} {n2 c2 : Nat} (hcq1 : Cells G0 bq1 0 [.slice a1 n1 c1, iV x1.Reef.Miss, iV x1.Reef.Seasons, .slice a2 n2 c2]) (h1 : RSl zE 12 G0 a1 n1 c1 x1.Reef.Places) (h2 : RSl zW 1 G0 a2 n2 c2 x1.plan) {r : Bool} (H : f90 x0 x1 = some r) :
  Calls Tryz.prog 90 #[iV x0, pV bq1] w0 (qQ w0 (.bool r)) := by
 have hS := Since.start hS0
 have hO := xw G0 w0
 unfold f90 at H
 refine z8 (N := 13) (qS _ _) Tryz.func90 rfl rfl rfl rfl (zc (zb (za (ze (v := (.bool false)) rfl) rfl (zd (zc (zb (qY qR (zZ hS.sat hcq1) 5 [_] rfl rfl (ao h1.1 an) ?_))))))); obtain ⟨y3, hy3, H⟩ := bnd H; refine za (zeL rfl rfl hy3) rfl (za (xE rfl rfl) rfl ?_); obtain ⟨y4, hy4, H⟩ := bnd H; refine zp rfl (zu zfT (vd (x0 := x0) (x1 := 0) (x2 := IntKind.i64.wrap (y3 - 1)) hS.sat  hy4) rfl rfl (fun w5 hb => ?_)); have hS := hS.keep hb; have hO := hO.below hb; refine wr 2 rfl ?_; refine zd (zH ?_)
 have H : some (!y4) = some r := H
 cases H
 exact ⟨rfl, hS.below⟩
set_option maxHeartbeats 1000000 in
theorem zm1 {G0 : Gm} {w0 : World} (hS0 : Sat G0 w0) {x0 : qi} {a1 : Option Addr} {n1 c1 : Nat} {a2 : Option Addr} {n2 c2 : Nat} (h1 : RSl zE 12 G0 a1 n1 c1 x0.Reef.Places) (h2 : RSl zW 1 G0 a2 n2 c2 x0.plan) {r : Bool} (H : f35 x0 = some r) :
  Calls Tryz.prog 35 #[.agg #[.slice a1 n1 c1, iV x0.Reef.Miss, iV x0.Reef.Seasons, .slice a2 n2 c2]] w0 (qQ w0 (.bool r)) := by
 have hS := Since.start hS0
 have hO := xw G0 w0
 unfold f35 at H
 refine z8 (N := 22) (qS _ _) Tryz.func35 rfl rfl rfl rfl (zc (zb (zp rfl (zI (v := fun b => pV b) (cs := [.slice a1 n1 c1, iV x0.Reef.Miss, iV x0.Reef.Seasons, .slice a2 n2 c2]) (e := 91) (z6 rfl) hS.sat rfl (fun b3 G5 w4 hg hcb3 => ?_))))); have hS := hS.grow hg; have hO := hO.grow hg
 have leG5 := hg.le
 refine za (ze (v := (.bool false)) rfl) rfl (zd (zc ?_)); obtain ⟨q6, hq6, H⟩ := bnd H; refine qx (fun F w => ∃ (Fb : Fr) (G : Gm), F = qC Fb [(2, .bool q6)] ∧ Gle G5 G ∧ SO G0 w0 G w []) ?_ ?_
 ·have Hoq6 := H; have H := hq6; refine zb (za (zj zjJ rfl) rfl (za (zw zn1 (cs := [.slice a1 n1 c1, iV x0.Reef.Miss, iV x0.Reef.Seasons]) rfl rfl (fun j v hj => hS.sat.cell (hcb3.drop_take 0 3 j v hj))) rfl ?_)); obtain ⟨y7, hy7, H⟩ := bnd H; refine zp rfl (zu zpT (zjS (x0 := x0.Reef) hS.sat (h1.mono zl leG5) hy7) rfl rfl (fun w8 hb => ?_)); have hS := hS.keep hb; have hO := hO.below hb; refine za (zf (v := (.bool y7)) rfl) rfl ?_
  rcases qo y7 with hb9 | hb9
  ·have H := ifT hb9 H; refine qp qR (zZ hS.sat hcb3) (kb hb9) 9 [_] rfl rfl (ao (h2.mono zm leG5).1 an) ?_
   rcases qo ((x0.plan.length : Int) == x0.Reef.Seasons) with hb10 | hb10
   ·have H := ifT hb10 H; refine qp qR (zZ hS.sat hcb3) (kb hb10) 2 [] rfl rfl an (zo rfl hb10 rfl rfl ?_)
    have hF11 : FnOk136 G5 90 [] [pV b3] (fun (z0 : Int) => f90 z0 x0) := ⟨zAG, fun G1 W1 hl hw z0 r1 H1 => zxd (x0 := z0) (x1 := x0) hw (hcb3.mono hl) ((h1.mono zl leG5).mono zl hl) ((h2.mono zm leG5).mono zm hl) H1⟩
    refine za (yO (vs := []) (us := [pV b3]) rfl rfl) rfl (zo rfl hb10 rfl rfl ?_); obtain ⟨y12, hy12, H⟩ := bnd H; refine zp rfl (zu zAI (zxe (x0 := x0.plan) (x1 := (fun (z0 : Int) => f90 z0 x0)) hS.sat (h2.mono zm leG5) hF11 hy12) rfl rfl (fun w13 hb => ?_)); have hS := hS.keep hb; have hO := hO.below hb; refine wk hb10 3 rfl rfl ?_; refine zd ?_
    have hO : Owns _ _ _ [] := hO
    cases H
    exact ⟨_, G5, zi _ _ ⟨rfl, trivial⟩, Gle.refl _, hS, hO⟩
   ·have H := ifF hb10 H; refine wk hb10 7 rfl rfl ?_; refine zd ?_
    have hO : Owns _ _ _ [] := hO
    cases H
    exact ⟨_, G5, zi _ _ ⟨rfl, trivial⟩, Gle.refl _, hS, hO⟩
  ·have H := ifF hb9 H; refine wk hb9 9 rfl rfl ?_; refine wr 7 rfl ?_; refine zd ?_
   have hO : Owns _ _ _ [] := hO
   cases H
   exact ⟨_, G5, zi _ _ ⟨rfl, trivial⟩, Gle.refl _, hS, hO⟩
 ·rintro F w14 ⟨Fb, G15, rfl, leG15, hS, hO⟩
  refine zH ?_
  have H : some q6 = some r := H
  cases H
  exact ⟨rfl, hS.below⟩
set_option maxHeartbeats 1000000 in
theorem zvj {G0 : Gm} {w0 : World} (hS0 : Sat G0 w0) {x0 : qz} {a1 : Option Addr} {n1 c1 : Nat} (h1 : RSl zE 12 G0 a1 n1 c1 x0.Places) {r : Int} (H : zhK x0 = some r) :
  Calls Tryz.prog 117 #[.agg #[.slice a1 n1 c1, iV x0.Miss, iV x0.Seasons]] w0 (qQ w0 (iV r)) := by
 have hS := Since.start hS0
 have hO := xw G0 w0
 unfold zhK at H
 refine z8 (N := 6) (qS _ _) Tryz.func117 rfl rfl rfl rfl (zc (zb (zp rfl (zI (v := fun b => pV b) (cs := [.slice a1 n1 c1, iV x0.Miss, iV x0.Seasons]) (e := 35) (z6 rfl) hS.sat rfl (fun b2 G4 w3 hg hcb2 => ?_))))); have hS := hS.grow hg; have hO := hO.grow hg
 have leG4 := hg.le
 refine za (ze (v := (iV 0)) rfl) rfl (zd (zc (zc (zb (za (zw zn1 (cs := [.slice a1 n1 c1, iV x0.Miss, iV x0.Seasons]) rfl rfl (fun j v hj => hS.sat.cell (hcb2.drop_take 0 3 j v hj))) rfl ?_))))); obtain ⟨y5, hy5, H⟩ := bnd H; refine zp rfl (zu zpT (zjS (x0 := x0) hS.sat (h1.mono zl leG4) hy5) rfl rfl (fun w6 hb => ?_)); have hS := hS.keep hb; have hO := hO.below hb; refine za (qI rfl) rfl (zd (z7 rfl (fun hb7 => ?_) (fun hb7 => ?_)))
 ·have H := ifT hb7 H; refine zc (zb (za (ze (v := (iV 2)) rfl) rfl (zd (zH ?_))))
  have H : some 2 = some r := H
  cases H
  exact ⟨rfl, hS.below⟩
 ·have H := ifF hb7 H; refine zD (zc (zb (za (ze (v := (iV 0)) rfl) rfl (zd (zH ?_)))))
  have H : some 0 = some r := H
  cases H
  exact ⟨rfl, hS.below⟩
end Go.Proofs.YtcapocmenjcnhaaGreatDoor
/-
 The walks: each Go function computes its plain function (printed by a program of ours).
-/
namespace Go.Proofs.YtcapocmenjcnhaaGreatDoor
open Go.RowKit
set_option maxRecDepth 20000
set_option maxHeartbeats 1000000 in
theorem zmV {G0 : Gm} {w0 : World} (hS0 : Sat G0 w0) {x0 : qi} {a1 : Option Addr} {n1 c1 : Nat} {a2 : Option Addr} {n2 c2 : Nat} {x1 : Int} (h1 : RSl zE 12 G0 a1 n1 c1 x0.Reef.Places) (h2 : RSl zW 1 G0 a2 n2 c2 x0.plan) {r : (List qy)} (H : f93 x0 x1 = some r) :
  Calls Tryz.prog 93 #[.agg #[.slice a1 n1 c1, iV x0.Reef.Miss, iV x0.Reef.Seasons, .slice a2 n2 c2], iV x1] w0 (yP G0 w0 (fun G v => ∃ (ra0 : Option Addr) (rn0 rc0 : Nat), v = .slice ra0 rn0 rc0 ∧ RSl yM 2 G ra0 rn0 rc0 r)) := by
 have hS := Since.start hS0
 have hO := xw G0 w0
 unfold f93 at H
 refine z8 (N := 38) (xN _ _ _) Tryz.func93 rfl rfl rfl rfl (zc (zb (zp rfl (zI (v := fun b => pV b) (cs := [.slice a1 n1 c1, iV x0.Reef.Miss, iV x0.Reef.Seasons, .slice a2 n2 c2]) (e := 91) (z6 rfl) hS.sat rfl (fun b3 G5 w4 hg hcb3 => ?_))))); have hS := hS.grow hg; have hO := hO.grow hg
 have leG5 := hg.le
 refine za (ze (v := (.slice none 0 0)) rfl) rfl (zd (zc (zb ?_)))
 refine zp rfl (zY (v := fun b => pV b) (cs := [.slice none 0 0]) (e := 39) (by kernel_rfl) hS.sat hO rfl 1 1 rfl (by decide) (fun b6 w7 hb hO => ?_))
 have hS := hS.keep hb; refine zd (zc (zc (zb (qY qR (zZ hS.sat hcb3) 5 [_] rfl rfl (ao (h1.mono zl leG5).1 an) (zd ?_))))); have hO := hO.cons_nil 23 2; obtain ⟨q12, hq12, H⟩ := bnd H; refine qx (fun F w => ∃ (Fb : Fr) (G : Gm) (aq12_0 : Option Addr) (nq12_0 cq12_0 : Nat) (claq12_0 : List Value), F = qC Fb [(1, iV x1), (2, pV b3), (4, .slice none 0 0), (5, pV b6)] ∧ Gle G5 G ∧ Since w0.heap.size G0 w0 G w ∧ Owns G w w0.heap.size [⟨23, 2, nq12_0, .slice aq12_0 nq12_0 cq12_0, claq12_0⟩, ⟨39, 1, 1, .slice (some ⟨b6, 0, none⟩) 1 1, [.slice aq12_0 nq12_0 cq12_0]⟩] ∧ nq12_0 = q12.length ∧ Rd yM 2 G claq12_0 q12) ?_ ?_
 ·refine zB (xr hq12 (fun s10 F w => ∃ (Fb : Fr) (G : Gm) (as10_0 : Option Addr) (ns10_0 cs10_0 : Nat) (clas10_0 : List Value), F = qC Fb [(1, iV x1), (2, pV b3), (4, .slice none 0 0), (5, pV b6), (11, .slice a1 n1 c1), (12, iV (x0.Reef.Places.length : Int)), (13, iV s10.1)] ∧ Gle G5 G ∧ Since w0.heap.size G0 w0 G w ∧ Owns G w w0.heap.size [⟨23, 2, ns10_0, .slice as10_0 ns10_0 cs10_0, clas10_0⟩, ⟨39, 1, 1, .slice (some ⟨b6, 0, none⟩) 1 1, [.slice as10_0 ns10_0 cs10_0]⟩] ∧ ns10_0 = s10.2.length ∧ Rd yM 2 G clas10_0 s10.2) ?_ ?_)
  ·have hO : Owns _ _ _ ([⟨23, 2, 0, .slice none 0 0, []⟩, ⟨39, 1, 1, .slice (some ⟨b6, 0, none⟩) 1 1, [.slice none 0 0]⟩]) := hO
   exact ⟨_, G5, none, 0, 0, [], zi _ _ ⟨rfl, rfl, rfl, rfl, rfl, rfl, rfl, trivial⟩, Gle.refl _, hS, hO, rfl, (Rd.nil yM 2 G5)⟩
  ·rintro s10 F w14 t13 ⟨Fb, G15, as10_0, ns10_0, cs10_0, clas10_0, rfl, leG15, hS, hO, hnhs10_0, hs10_0⟩
   intro H1 hqq12
   have Hoq12 := H; have H := H1
   unfold zdH at H
   refine zc (zb (za (qa rfl rfl) rfl (zd (zc (z7 rfl (fun hb16 => ?_) (fun hb16 => ?_))))))
   ·have H := ifT hb16 H; refine zD (zc (zB (zc (zb ?_)))); obtain ⟨y17, hy17, H⟩ := bnd H
    have l0_2 := leG5.trans leG15
    refine xi zef (h1.mono zl l0_2) hy17 rfl rfl rfl ?_
    rintro b18 o18 _ hcb18 _ ⟨⟩
    refine za (zw zn0 (cs := [iV y17.Count, iV y17.Room, iV y17.Grow.Low, iV y17.Grow.High, iV y17.Drift, iV y17.Into, iV y17.Open.Low, iV y17.Open.High, iV y17.Shut.Low, iV y17.Shut.High, iV y17.Goal, iV y17.Worth]) rfl rfl (fun j v hj => hS.sat.cell (hcb18.drop_take 0 12 j v hj))) rfl ?_
    refine zp rfl (zY (v := fun b => pV b) (cs := [iV 0, iV 0, iV 0, iV 0, iV 0, iV 0, iV 0, iV 0, iV 0, iV 0, iV 0, iV 0]) (e := 70) (by kernel_rfl) hS.sat hO rfl 12 1 rfl (by decide) (fun b19 w20 hb hO => ?_))
    have hS := hS.keep hb; refine zp rfl (zM (vs := [iV y17.Count, iV y17.Room, iV y17.Grow.Low, iV y17.Grow.High, iV y17.Drift, iV y17.Into, iV y17.Open.Low, iV y17.Open.High, iV y17.Shut.Low, iV y17.Shut.High, iV y17.Goal, iV y17.Worth]) zps hS hO (k := 0) rfl rfl rfl rfl rfl (zR rfl) (Nat.le_of_ble_eq_true rfl) (fun w22 hS hO => ?_))
    have hO : Owns _ _ _ ([⟨70, 12, 1, .slice (some ⟨b19, 0, none⟩) 1 1, [iV y17.Count, iV y17.Room, iV y17.Grow.Low, iV y17.Grow.High, iV y17.Drift, iV y17.Into, iV y17.Open.Low, iV y17.Open.High, iV y17.Shut.Low, iV y17.Shut.High, iV y17.Goal, iV y17.Worth]⟩, ⟨23, 2, ns10_0, .slice as10_0 ns10_0 cs10_0, clas10_0⟩, ⟨39, 1, 1, .slice (some ⟨b6, 0, none⟩) 1 1, [.slice as10_0 ns10_0 cs10_0]⟩]) := hO
    obtain ⟨G23, leG23, hS, hO, hqG23, _⟩ := hO.freeze hS (k := 0) rfl
    have hcG23 : Cells G23 b19 0 [iV y17.Count, iV y17.Room, iV y17.Grow.Low, iV y17.Grow.High, iV y17.Drift, iV y17.Into, iV y17.Open.Low, iV y17.Open.High, iV y17.Shut.Low, iV y17.Shut.High, iV y17.Goal, iV y17.Worth] := (hqG23 _ _ _ _ rfl)
    refine zd (zb (za (zk znM rfl (zx hO (k := 1) rfl (j := 0) rfl)) rfl (za (zj zjL rfl) rfl (za (zw zf0 (cs := [iV y17.Open.Low, iV y17.Open.High]) rfl rfl (fun j v hj => hS.sat.cell (hcG23.drop_take 6 2 j v hj))) rfl ?_))))
    refine zp rfl (zI (v := fun b => .slice (some ⟨b, 0, none⟩) 1 1) (cs := [iV y17.Open.Low, iV y17.Open.High]) (e := 23) (by kernel_rfl) hS.sat rfl (fun b24 G26 w25 hg hcb24 => ?_))
    have hS := hS.grow hg; have hO := hO.grow hg
    have leG26 := hg.le
    have hfb24 : RSl yM 2 G26 (some ⟨b24, 0, none⟩) 1 1 [y17.Open] := RSl.of_rd hcb24 (Rd.cons (c := [iV y17.Open.Low, iV y17.Open.High]) rfl rfl (Rd.nil yM 2 _)) rfl (by decide)
    obtain ⟨y27, hy27, H⟩ := bnd H
    have l2_4 := leG23.trans leG26
    refine zp rfl (qM (k := 0) zoP zf2 hS hO rfl hnhs10_0 (hs10_0.mono yp l2_4) hfb24 hy27 rfl rfl rfl rfl rfl (fun aw28 cw28 w28 clw28 hS hO hrw28 => ?_))
    have hO : Owns _ _ _ ([⟨23, 2, y27.length, .slice aw28 y27.length cw28, clw28⟩, ⟨39, 1, 1, .slice (some ⟨b6, 0, none⟩) 1 1, [.slice as10_0 ns10_0 cs10_0]⟩]) := hO
    refine zp rfl (zM (vs := [.slice aw28 y27.length cw28]) zzu hS hO (k := 1) rfl rfl rfl rfl rfl (zR rfl) (Nat.le_of_ble_eq_true rfl) (fun w29 hS hO => ?_))
    have hO : Owns _ _ _ ([⟨23, 2, y27.length, .slice aw28 y27.length cw28, clw28⟩, ⟨39, 1, 1, .slice (some ⟨b6, 0, none⟩) 1 1, [.slice aw28 y27.length cw28]⟩]) := hO
    refine zd (zb ?_); refine wr 2 rfl ?_; refine zd ?_
    have hO : Owns _ _ _ ([⟨23, 2, y27.length, .slice aw28 y27.length cw28, clw28⟩, ⟨39, 1, 1, .slice (some ⟨b6, 0, none⟩) 1 1, [.slice aw28 y27.length cw28]⟩]) := hO
    cases H; refine ⟨_, rfl, ?_⟩
    have l1_4 := leG15.trans l2_4
    exact ⟨_, G26, aw28, y27.length, cw28, clw28, zi _ _ ⟨rfl, rfl, rfl, rfl, rfl, rfl, rfl, trivial⟩, l1_4, hS, hO, rfl, hrw28⟩
   ·have H := ifF hb16 H; refine ql rfl ?_
    have hO : Owns _ _ _ ([⟨23, 2, ns10_0, .slice as10_0 ns10_0 cs10_0, clas10_0⟩, ⟨39, 1, 1, .slice (some ⟨b6, 0, none⟩) 1 1, [.slice as10_0 ns10_0 cs10_0]⟩]) := hO
    cases H
    have hres := hqq12 _ rfl
    subst hres
    exact ⟨_, G15, as10_0, ns10_0, cs10_0, clas10_0, zi _ _ ⟨rfl, rfl, rfl, rfl, trivial⟩, leG15, hS, hO, hnhs10_0, hs10_0⟩
 ·rintro F w30 ⟨Fb, G31, aq12_0, nq12_0, cq12_0, claq12_0, rfl, leG31, hS, hO, hnhq12_0, hq12_0⟩
  refine zc (zc (zb (za (zw zp0 (cs := [.slice a1 n1 c1, iV x0.Reef.Miss, iV x0.Reef.Seasons, .slice a2 n2 c2]) rfl rfl (fun j v hj => (hS.sat.le leG31).cell (hcb3.drop_take 0 4 j v hj))) rfl (za (zf (v := (iV x1)) rfl) rfl ?_))))
  have l0_2 := leG5.trans leG31
  obtain ⟨y32, hy32, H⟩ := bnd H; refine zp rfl (zS zpP (zmY hS.sat) rfl rfl (fun vG34 G34 w33 hgG34 hvG34 => ?_)); obtain ⟨bxG34, bsG34, rfl, hcxG34, hcsG34⟩ := hvG34; have hS := hS.grow hgG34; have hO := hO.grow hgG34
  have l0_3 := l0_2.trans hgG34.le
  have hI35 := zk9 hcxG34 hcsG34 (h1.mono zl l0_3) (h2.mono zm l0_3) hy32
  refine zd (zB ?_)
  have hO : Owns _ _ _ ([⟨23, 2, nq12_0, .slice aq12_0 nq12_0 cq12_0, claq12_0⟩, ⟨39, 1, 1, .slice (some ⟨b6, 0, none⟩) 1 1, [.slice aq12_0 nq12_0 cq12_0]⟩]) := hO
  obtain ⟨q38, hq38, H⟩ := bnd H; refine zi7 (xs := (qK y32 0 x0.Reef.Places.length)) (enc := znX) (bd := zdG x0) (fi := []) (ca := [pV bxG34, pV bsG34]) zoJ hI35 rfl (fun _ => rfl) rfl hq38 (fun (s36 : (List qy)) (G : Gm) (L : List Row) => ∃ (as36_0 : Option Addr) (ns36_0 cs36_0 : Nat) (clas36_0 : List Value), L = [⟨23, 2, ns36_0, .slice as36_0 ns36_0 cs36_0, clas36_0⟩, ⟨39, 1, 1, .slice (some ⟨b6, 0, none⟩) 1 1, [.slice as36_0 ns36_0 cs36_0]⟩] ∧ ns36_0 = s36.length ∧ Rd yM 2 G clas36_0 s36) (fun (p50 : Empty) (c51 : Code) (G : Gm) (L : List Row) => False) ?_ hS hO ⟨aq12_0, nq12_0, cq12_0, claq12_0, rfl, hnhq12_0, (hq12_0.mono yp hgG34.le)⟩ [] ?_ ?_ ?_
  ·rintro s36 G1 G2 L hle ⟨as36_0, ns36_0, cs36_0, clas36_0, rfl, hnhs36_0, hs36_0⟩
   exact ⟨as36_0, ns36_0, cs36_0, clas36_0, rfl, hnhs36_0, hs36_0.mono yp hle⟩
  ·rintro l52 y37 s36 t39 G41 w40 L53 Lx42 leG41 hS hO ⟨as36_0, ns36_0, cs36_0, clas36_0, rfl, hnhs36_0, hs36_0⟩ H1 hqq38
   have hO : Owns _ _ _ ((⟨23, 2, ns36_0, .slice as36_0 ns36_0 cs36_0, clas36_0⟩ :: ⟨39, 1, 1, .slice (some ⟨b6, 0, none⟩) 1 1, [.slice as36_0 ns36_0 cs36_0]⟩ :: Lx42)) := hO
   have Hoq38 := H; have H := H1
   unfold zdG at H
   refine zb (za (ze (v := (iV y37)) rfl) rfl (zd ?_))
   intro w43 hfix
   have hS := hS.fix hfix; have hO := hO.fix hfix; refine zB ?_; have hS := hS.keep (zn _); have hO := hO.below (zn _)
   refine zed qA (fun _ w => Sat G41 w ∧ Owns G41 w w0.heap.size (⟨23, 2, ns36_0, .slice as36_0 ns36_0 cs36_0, clas36_0⟩ :: ⟨39, 1, 1, .slice (some ⟨b6, 0, none⟩) 1 1, [.slice as36_0 ns36_0 cs36_0]⟩ :: Lx42)) (.fl 0 (.fl 1 (.fl 2 (.fl 3 (.fl 4 (.on 5 (.on 6 (.on 7 (.on 8 (.on 9 (.on 10 .nil))))))))))) (by kernel_rfl) rfl (by kernel_rfl) (fun _ => ⟨hS.sat, hO⟩) ?_ rfl
   refine zh rfl (fun w hw => zk znM rfl (zx hw.2 (k := 1) rfl (j := 0) rfl)) rfl (zh rfl (fun w hw => zf (v := (iV y37)) rfl) rfl (zh rfl (fun w hw => zj zjJ rfl) rfl (zh rfl (fun w hw => zj za7 rfl) rfl (zh rfl (fun w hw => zk zih rfl ((hw.1.le ((leG31.trans hgG34.le).trans leG41)).cell (hcb3 0 _ rfl))) rfl (zt rfl rfl (zA (zf (v := (iV y37)) rfl) rfl ?_)))))); refine ⟨fun _ _ => ⟨hS.sat, hO⟩, ?_⟩; obtain ⟨y44, hy44, H⟩ := bnd H
   have l0_4 := l0_3.trans leG41
   refine zt rfl rfl (zeu zef (h1.mono zl l0_4) hy44 rfl rfl rfl ?_)
   rintro b45 o45 _ hcb45 _ ⟨⟩
   refine ⟨fun _ _ => ⟨hS.sat, hO⟩, ?_⟩; refine zt rfl rfl (zA (zj zjK rfl) rfl ?_); refine ⟨fun _ _ => ⟨hS.sat, hO⟩, ?_⟩; refine zt rfl rfl (zA (zw zf0 (cs := [iV y44.Shut.Low, iV y44.Shut.High]) rfl rfl (fun j v hj => hS.sat.cell (hcb45.drop_take 8 2 j v hj))) rfl ?_); refine ⟨fun _ _ => ⟨hS.sat, hO⟩, ?_⟩; obtain ⟨y46, hy46, H⟩ := bnd H; refine zt rfl rfl (zja zoP hO (k := 0) rfl hnhs36_0 hs36_0 hy46 rfl rfl rfl ?_)
   rintro b47 ob47 _ hb47 _ hcb47 ⟨⟩
   refine ⟨fun _ h => zK (by kernel_rfl) h, ?_⟩
   obtain ⟨y48, hy48, H⟩ := bnd H; refine zt rfl rfl (jp (vs := [iV y44.Shut.Low, iV y44.Shut.High]) (cs := [iV y46.Low, iV y46.High]) (j := 0) (y := y44.Shut) znD hS hO (k := 0) rfl hnhs36_0 rfl hs36_0 hb47 rfl hcb47 hy48 rfl rfl rfl rfl rfl (zR rfl) (Nat.le_of_ble_eq_true rfl) (fun w49 clw49 hS hO hrw49 => ?_))
   have hO : Owns _ _ _ ((⟨23, 2, ns36_0, .slice as36_0 ns36_0 cs36_0, clw49⟩ :: ⟨39, 1, 1, .slice (some ⟨b6, 0, none⟩) 1 1, [.slice as36_0 ns36_0 cs36_0]⟩ :: Lx42)) := hO
   refine ⟨fun _ h => zK (by kernel_rfl) h, ?_⟩
   refine qk ?_
   have hO : Owns _ _ _ ((⟨23, 2, ns36_0, .slice as36_0 ns36_0 cs36_0, clw49⟩ :: ⟨39, 1, 1, .slice (some ⟨b6, 0, none⟩) 1 1, [.slice as36_0 ns36_0 cs36_0]⟩ :: Lx42)) := hO
   cases H
   exact ⟨_, rfl, _, [⟨23, 2, ns36_0, .slice as36_0 ns36_0 cs36_0, clw49⟩, ⟨39, 1, 1, .slice (some ⟨b6, 0, none⟩) 1 1, [.slice as36_0 ns36_0 cs36_0]⟩], Gle.refl _, hS, hO, ⟨as36_0, ns36_0, cs36_0, clw49, rfl, (Eq.trans hnhs36_0 (zrW hy48)), hrw49⟩⟩
  ·rintro s36 G55 w54 L57 hres leG55 hS hO ⟨as36_0, ns36_0, cs36_0, clas36_0, rfl, hnhs36_0, hs36_0⟩
   subst hres; refine zc (zb (za (zk znM rfl (zx hO (k := 1) rfl (j := 0) rfl)) rfl (za (ze (v := (.slice as36_0 ns36_0 cs36_0)) rfl) rfl (zd (zH ?_))))); obtain ⟨G56, leG56, hS, hO, hfG56⟩ := hO.freezeS hS yp (k := 0) rfl hs36_0 hnhs36_0
   have H : some s36 = some r := H
   cases H
   exact ⟨_, _, rfl, hS.toGrow, _, _, _, rfl, hfG56⟩
  ·rintro _ _ _ _ _ _ _ _ _ _ hI
   exact hI.elim
set_option maxHeartbeats 1000000 in
theorem zmW {G0 : Gm} {w0 : World} (hS0 : Sat G0 w0) {x0 : qi} {a1 : Option Addr} {n1 c1 : Nat} {a2 : Option Addr} {n2 c2 : Nat} {x1 : zr} (h1 : RSl zE 12 G0 a1 n1 c1 x0.Reef.Places) (h2 : RSl zW 1 G0 a2 n2 c2 x0.plan) {r : qy} (H : f92 x0 x1 = some r) :
  Calls Tryz.prog 92 #[.agg #[.slice a1 n1 c1, iV x0.Reef.Miss, iV x0.Reef.Seasons, .slice a2 n2 c2], .agg #[iV x1.Count, iV x1.Room, iV x1.Grow.Low, iV x1.Grow.High, iV x1.Drift, iV x1.Into, iV x1.Open.Low, iV x1.Open.High, iV x1.Shut.Low, iV x1.Shut.High, iV x1.Goal, iV x1.Worth]] w0 (qQ w0 (.agg #[iV r.Low, iV r.High])) := by
 have hS := Since.start hS0
 have hO := xw G0 w0
 unfold f92 at H
 refine vf (N := 18) (qS _ _) [.cell 4 23] Tryz.func92 rfl rfl rfl rfl ?_; refine zc (zb (zp rfl (zI (v := fun b => pV b) (cs := [.slice a1 n1 c1, iV x0.Reef.Miss, iV x0.Reef.Seasons, .slice a2 n2 c2]) (e := 91) (z6 rfl) hS.sat rfl (fun b3 G5 w4 hg hcb3 => ?_)))); have hS := hS.grow hg; have hO := hO.grow hg
 have leG5 := hg.le
 refine zp rfl (zI (v := fun b => pV b) (cs := [iV x1.Count, iV x1.Room, iV x1.Grow.Low, iV x1.Grow.High, iV x1.Drift, iV x1.Into, iV x1.Open.Low, iV x1.Open.High, iV x1.Shut.Low, iV x1.Shut.High, iV x1.Goal, iV x1.Worth]) (e := 70) (z6 rfl) hS.sat rfl (fun b6 G8 w7 hg hcb6 => ?_)); have hS := hS.grow hg; have hO := hO.grow hg
 have leG8 := hg.le
 refine zp rfl (zY (v := fun b => pV b) (cs := [iV 0, iV 0]) (e := 23) (by kernel_rfl) hS.sat hO rfl 2 1 rfl (by decide) (fun b9 w10 hb hO => ?_))
 have hS := hS.keep hb; refine zd (zc (zb (qY qR (zZ hS.sat hcb6) 8 [] rfl rfl an (qY qR (zZ (hS.sat.le leG8) hcb3) 2 [] rfl rfl an ?_))))
 refine za (zeM rfl rfl (by decide)) rfl ?_
 refine za (qO rfl rfl) rfl ?_
 refine za (v := (.agg #[iV x1.Count, iV (IntKind.i64.wrap (x1.Count + (IntKind.i64.wrap ((IntKind.i64.wrap (x1.Count * x0.Reef.Miss)).tdiv 1000))))])) (by kernel_rfl) rfl ?_
 refine zp rfl (zM (vs := [iV x1.Count, iV (IntKind.i64.wrap (x1.Count + (IntKind.i64.wrap ((IntKind.i64.wrap (x1.Count * x0.Reef.Miss)).tdiv 1000))))]) znD hS hO (k := 0) rfl rfl rfl rfl rfl (zR rfl) (Nat.le_of_ble_eq_true rfl) (fun w12 hS hO => ?_))
 have hO : Owns _ _ _ ([⟨23, 2, 1, .slice (some ⟨b9, 0, none⟩) 1 1, [iV x1.Count, iV (IntKind.i64.wrap (x1.Count + (IntKind.i64.wrap ((IntKind.i64.wrap (x1.Count * x0.Reef.Miss)).tdiv 1000))))]⟩]) := hO
 obtain ⟨G13, leG13, hS, hO, hqG13, _⟩ := hO.freeze hS (k := 0) rfl
 have hcG13 : Cells G13 b9 0 [iV x1.Count, iV (IntKind.i64.wrap (x1.Count + (IntKind.i64.wrap ((IntKind.i64.wrap (x1.Count * x0.Reef.Miss)).tdiv 1000))))] := (hqG13 _ _ _ _ rfl)
 refine zd (zH ?_)
 have H : some (⟨x1.Count, IntKind.i64.wrap (x1.Count + (IntKind.i64.wrap ((IntKind.i64.wrap (x1.Count * x0.Reef.Miss)).tdiv 1000)))⟩ : qy) = some r := H
 cases H
 exact ⟨[.agg #[iV x1.Count, iV (IntKind.i64.wrap (x1.Count + (IntKind.i64.wrap ((IntKind.i64.wrap (x1.Count * x0.Reef.Miss)).tdiv 1000))))]], ⟨⟨_, rfl, zam (cs := [iV x1.Count, iV (IntKind.i64.wrap (x1.Count + (IntKind.i64.wrap ((IntKind.i64.wrap (x1.Count * x0.Reef.Miss)).tdiv 1000))))]) zf0 rfl (fun j v hj => hS.sat.cell (hcG13 j v hj))⟩, trivial⟩, ⟨rfl, hS.below⟩⟩
set_option maxHeartbeats 1000000 in
theorem zjN {G0 : Gm} {w0 : World} (hS0 : Sat G0 w0) {x0 : Int} {x1 : qy}  {r : Bool} (H : f91 x0 x1 = some r) :
  Calls Tryz.prog 91 #[iV x0, .agg #[iV x1.Low, iV x1.High]] w0 (qQ w0 (.bool r)) := by
 have hS := Since.start hS0
 have hO := xw G0 w0
 unfold f91 at H
 refine z8 (N := 11) (qS _ _) Tryz.func91 rfl rfl rfl rfl (zc (zb (zp rfl (zI (v := fun b => pV b) (cs := [iV x1.Low, iV x1.High]) (e := 23) (z6 rfl) hS.sat rfl (fun b1 G3 w2 hg hcb1 => ?_))))); have hS := hS.grow hg; have hO := hO.grow hg
 have leG3 := hg.le
 refine za (ze (v := (.bool false)) rfl) rfl (zd (zc (zb (qY qR (zZ hS.sat hcb1) 5 [] rfl rfl an ?_)))); obtain ⟨y4, hy4, H⟩ := bnd H; refine zp rfl (zu zfT (vd (x0 := x0) (x1 := x1.Low) (x2 := x1.High) hS.sat  hy4) rfl rfl (fun w5 hb => ?_)); have hS := hS.keep hb; have hO := hO.below hb; refine za (ze (v := (.bool y4)) rfl) rfl (zd (zH ?_))
 have H : some y4 = some r := H
 cases H
 exact ⟨rfl, hS.below⟩
set_option maxHeartbeats 1000000 in
theorem zxx {G0 : Gm} {w0 : World} (hS0 : Sat G0 w0) {x0 : qi} {a1 : Option Addr} {n1 c1 : Nat} {a2 : Option Addr} {n2 c2 : Nat} (h1 : RSl zE 12 G0 a1 n1 c1 x0.Reef.Places) (h2 : RSl zW 1 G0 a2 n2 c2 x0.plan) {r : Int} (H : f26 x0 = some r) :
  Calls Tryz.prog 26 #[.agg #[.slice a1 n1 c1, iV x0.Reef.Miss, iV x0.Reef.Seasons, .slice a2 n2 c2]] w0 (qQ w0 (iV r)) := by
 have hS := Since.start hS0
 have hO := xw G0 w0
 unfold f26 at H
 refine z8 (N := 27) (qS _ _) Tryz.func26 rfl rfl rfl rfl (zc (zb (zp rfl (zI (v := fun b => pV b) (cs := [.slice a1 n1 c1, iV x0.Reef.Miss, iV x0.Reef.Seasons, .slice a2 n2 c2]) (e := 91) (z6 rfl) hS.sat rfl (fun b3 G5 w4 hg hcb3 => ?_))))); have hS := hS.grow hg; have hO := hO.grow hg
 have leG5 := hg.le
 refine za (ze (v := (iV 0)) rfl) rfl (zd (zc (zb ?_)))
 refine zp rfl (zY (v := fun b => pV b) (cs := [iV 0]) (e := 3) (by kernel_rfl) hS.sat hO rfl 1 1 rfl (by decide) (fun b6 w7 hb hO => ?_))
 have hS := hS.keep hb; refine zp rfl (zM (vs := [iV 0]) sz3 hS hO (k := 0) rfl rfl rfl rfl rfl (zR rfl) (Nat.le_of_ble_eq_true rfl) (fun w9 hS hO => ?_))
 have hO : Owns _ _ _ ([⟨3, 1, 1, .slice (some ⟨b6, 0, none⟩) 1 1, [iV 0]⟩]) := hO
 refine zd (zc (zc (zb (qY qR (zZ hS.sat hcb3) 4 [] rfl rfl an (zd ?_))))); obtain ⟨q12, hq12, H⟩ := bnd H; refine qx (fun F w => ∃ (Fb : Fr) (G : Gm), F = qC Fb [(3, pV b6)] ∧ Gle G5 G ∧ Since w0.heap.size G0 w0 G w ∧ Owns G w w0.heap.size [⟨3, 1, 1, .slice (some ⟨b6, 0, none⟩) 1 1, [iV q12]⟩]) ?_ ?_
 ·refine zB (xr hq12 (fun s10 F w => ∃ (Fb : Fr) (G : Gm), F = qC Fb [(1, pV b3), (2, iV 0), (3, pV b6), (8, iV x0.Reef.Seasons), (9, iV s10.1)] ∧ Gle G5 G ∧ Since w0.heap.size G0 w0 G w ∧ Owns G w w0.heap.size [⟨3, 1, 1, .slice (some ⟨b6, 0, none⟩) 1 1, [iV s10.2]⟩]) ?_ ?_)
  ·have hO : Owns _ _ _ ([⟨3, 1, 1, .slice (some ⟨b6, 0, none⟩) 1 1, [iV 0]⟩]) := hO
   exact ⟨_, G5, zi _ _ ⟨rfl, rfl, rfl, rfl, rfl, trivial⟩, Gle.refl _, hS, hO⟩
  ·rintro s10 F w14 t13 ⟨Fb, G15, rfl, leG15, hS, hO⟩
   intro H1 hqq12
   have Hoq12 := H; have H := H1
   unfold zdK at H
   refine zc (zb (za (qa rfl rfl) rfl (zd (zc (z7 rfl (fun hb16 => ?_) (fun hb16 => ?_))))))
   ·have H := ifT hb16 H; refine zD (zc (zB (zc (zb ?_)))); refine wr 2 rfl ?_; refine zd (zc (zb (za (zw zp0 (cs := [.slice a1 n1 c1, iV x0.Reef.Miss, iV x0.Reef.Seasons, .slice a2 n2 c2]) rfl rfl (fun j v hj => (hS.sat.le leG15).cell (hcb3.drop_take 0 4 j v hj))) rfl (za (zf (v := (iV s10.1)) rfl) rfl ?_))))
    have l0_2 := leG5.trans leG15
    obtain ⟨y17, hy17, H⟩ := bnd H; refine zp rfl (zS zpP (zmY hS.sat) rfl rfl (fun vG19 G19 w18 hgG19 hvG19 => ?_)); obtain ⟨bxG19, bsG19, rfl, hcxG19, hcsG19⟩ := hvG19; have hS := hS.grow hgG19; have hO := hO.grow hgG19
    have l0_3 := l0_2.trans hgG19.le
    have hI20 := zk9 hcxG19 hcsG19 (h1.mono zl l0_3) (h2.mono zm l0_3) hy17
    refine zd (zB ?_)
    have hO : Owns _ _ _ ([⟨3, 1, 1, .slice (some ⟨b6, 0, none⟩) 1 1, [iV s10.2]⟩]) := hO
    obtain ⟨q23, hq23, H⟩ := bnd H; refine zi7 (xs := (qK y17 0 x0.Reef.Places.length)) (enc := znX) (bd := zdJ x0) (fi := []) (ca := [pV bxG19, pV bsG19]) zoJ hI20 rfl (fun _ => rfl) rfl hq23 (fun (s21 : Int) (G : Gm) (L : List Row) => L = [⟨3, 1, 1, .slice (some ⟨b6, 0, none⟩) 1 1, [iV s21]⟩]) (fun (p32 : Empty) (c33 : Code) (G : Gm) (L : List Row) => False) ?_ hS hO rfl [] ?_ ?_ ?_
    ·rintro s21 G1 G2 L hle rfl
     exact rfl
    ·rintro l34 y22 s21 t24 G26 w25 L35 Lx27 leG26 hS hO rfl H1 hqq23
     have hO : Owns _ _ _ ((⟨3, 1, 1, .slice (some ⟨b6, 0, none⟩) 1 1, [iV s21]⟩ :: Lx27)) := hO
     have Hoq23 := H; have H := H1
     unfold zdJ at H
     refine zb (za (ze (v := (iV y22)) rfl) rfl (zd ?_))
     intro w28 hfix
     have hS := hS.fix hfix; have hO := hO.fix hfix; refine zB ?_; have hS := hS.keep (zn _); have hO := hO.below (zn _)
     refine zed qA (fun _ w => Sat G26 w ∧ Owns G26 w w0.heap.size (⟨3, 1, 1, .slice (some ⟨b6, 0, none⟩) 1 1, [iV s21]⟩ :: Lx27)) (.fl 0 (.fl 1 (.fl 2 (.fl 3 (.on 4 (.on 5 (.on 6 (.on 7 (.on 8 (.on 9 .nil)))))))))) (by kernel_rfl) rfl (by kernel_rfl) (fun _ => ⟨hS.sat, hO⟩) ?_ rfl
     refine zh rfl (fun w hw => zk na3 rfl (zx hw.2 (k := 0) rfl (j := 0) rfl)) rfl (zh rfl (fun w hw => zj zjJ rfl) rfl (zh rfl (fun w hw => zj za7 rfl) rfl (zh rfl (fun w hw => zk zih rfl ((hw.1.le ((leG15.trans hgG19.le).trans leG26)).cell (hcb3 0 _ rfl))) rfl (zt rfl rfl (zA (zf (v := (iV y22)) rfl) rfl ?_))))); refine ⟨fun _ _ => ⟨hS.sat, hO⟩, ?_⟩; obtain ⟨y29, hy29, H⟩ := bnd H
     have l0_4 := l0_3.trans leG26
     refine zt rfl rfl (zeu zef (h1.mono zl l0_4) hy29 rfl rfl rfl ?_)
     rintro b30 o30 _ hcb30 _ ⟨⟩
     refine ⟨fun _ _ => ⟨hS.sat, hO⟩, ?_⟩; refine zt rfl rfl (zA (zj zmQ rfl) rfl ?_); refine ⟨fun _ _ => ⟨hS.sat, hO⟩, ?_⟩; refine zt rfl rfl (zA (zk na3 rfl (hS.sat.cell (hcb30 11 _ rfl))) rfl ?_); refine ⟨fun _ _ => ⟨hS.sat, hO⟩, ?_⟩; refine zt rfl rfl (zA (qO rfl rfl) rfl ?_)
     refine ⟨fun _ h => zK (by kernel_rfl) h, ?_⟩
     refine zt rfl rfl (zM (vs := [iV (IntKind.i64.wrap (s21 + y29.Worth))]) sz3 hS hO (k := 0) rfl rfl rfl rfl rfl (zR rfl) (Nat.le_of_ble_eq_true rfl) (fun w31 hS hO => ?_))
     have hO : Owns _ _ _ ((⟨3, 1, 1, .slice (some ⟨b6, 0, none⟩) 1 1, [iV (IntKind.i64.wrap (s21 + y29.Worth))]⟩ :: Lx27)) := hO
     refine ⟨fun _ h => zK (by kernel_rfl) h, ?_⟩
     refine qk ?_
     have hO : Owns _ _ _ ((⟨3, 1, 1, .slice (some ⟨b6, 0, none⟩) 1 1, [iV (IntKind.i64.wrap (s21 + y29.Worth))]⟩ :: Lx27)) := hO
     cases H
     exact ⟨_, rfl, _, [⟨3, 1, 1, .slice (some ⟨b6, 0, none⟩) 1 1, [iV (IntKind.i64.wrap (s21 + y29.Worth))]⟩], Gle.refl _, hS, hO, rfl⟩
    ·rintro s21 G37 w36 L38 hres leG37 hS hO rfl
     subst hres; refine zb ?_; refine wr 2 rfl ?_; refine zd ?_
     have hO : Owns _ _ _ ([⟨3, 1, 1, .slice (some ⟨b6, 0, none⟩) 1 1, [iV s21]⟩]) := hO
     cases H; refine ⟨_, rfl, ?_⟩
     have l1_4 := (leG15.trans hgG19.le).trans leG37
     exact ⟨_, G37, zi _ _ ⟨rfl, rfl, rfl, rfl, rfl, trivial⟩, l1_4, hS, hO⟩
    ·rintro _ _ _ _ _ _ _ _ _ _ hI
     exact hI.elim
   ·have H := ifF hb16 H; refine ql rfl ?_
    have hO : Owns _ _ _ ([⟨3, 1, 1, .slice (some ⟨b6, 0, none⟩) 1 1, [iV s10.2]⟩]) := hO
    cases H
    have hres := hqq12 _ rfl
    subst hres
    exact ⟨_, G15, zi _ _ ⟨rfl, trivial⟩, leG15, hS, hO⟩
 ·rintro F w39 ⟨Fb, G40, rfl, leG40, hS, hO⟩
  refine zc (zb (za (zk na3 rfl (zx hO (k := 0) rfl (j := 0) rfl)) rfl (za (ze (v := (iV q12)) rfl) rfl (zd (zH ?_)))))
  have H : some q12 = some r := H
  cases H
  exact ⟨rfl, hS.below⟩
set_option maxHeartbeats 1000000 in
theorem zfC {G0 : Gm} {w0 : World} (hS0 : Sat G0 w0) {x0 : (List Int)} {a1 : Option Addr} {n1 c1 : Nat} (h1 : RSl zW 1 G0 a1 n1 c1 x0) {r : Int} (H : f94 x0 = some r) :
  Calls Tryz.prog 94 #[.slice a1 n1 c1] w0 (qQ w0 (iV r)) := by
 have hS := Since.start hS0
 have hO := xw G0 w0
 unfold f94 at H
 refine z8 (N := 17) (qS _ _) Tryz.func94 rfl rfl rfl rfl (zc (zb (za (ze (v := (iV 0)) rfl) rfl (zd (zc (zb (za (ze (v := (iV 0)) rfl) rfl (zd (zc (zc (zb (qY qR (zcm _) 3 [_] rfl rfl (ao h1.1 an) (zd ?_))))))))))))); obtain ⟨q4, hq4, H⟩ := bnd H; refine qx (fun F w => ∃ (Fb : Fr), F = qC Fb [(3, iV q4)] ∧ w0 = w) ?_ ?_
 ·refine zB (xr hq4 (fun s2 F w => ∃ (Fb : Fr), F = qC Fb [(3, iV s2.1), (6, .slice a1 n1 c1), (7, iV (x0.length : Int)), (8, iV s2.2)] ∧ w0 = w) ?_ ?_)
  ·exact ⟨_, zi _ _ ⟨rfl, rfl, rfl, rfl, trivial⟩, rfl⟩
  ·rintro s2 F wl t5 ⟨Fb, rfl, rfl⟩
   intro H1 hqq4
   have Hoq4 := H; have H := H1
   unfold zfD at H
   refine zc (zb (za (qa rfl rfl) rfl (zd (zc (z7 rfl (fun hb8 => ?_) (fun hb8 => ?_))))))
   ·have H := ifT hb8 H; refine zD (zc (zB (zc (zb ?_)))); obtain ⟨y9, hy9, H⟩ := bnd H; refine xi zeB h1 hy9 rfl rfl rfl ?_
    rintro b10 o10 _ hcb10 _ ⟨⟩
    refine za (zk na3 rfl (hS.sat.cell (hcb10 0 _ rfl))) rfl (za (ze (v := (iV y9)) rfl) rfl (zd (zb ?_))); refine wr 4 rfl ?_; refine zd (zb ?_); refine wr 2 rfl ?_; refine zd ?_; cases H; refine ⟨_, rfl, ?_⟩
    exact ⟨_, zi _ _ ⟨rfl, rfl, rfl, rfl, trivial⟩, rfl⟩
   ·have H := ifF hb8 H; refine ql rfl ?_; cases H
    have hres := hqq4 _ rfl
    subst hres
    exact ⟨_, zi _ _ ⟨rfl, trivial⟩, rfl⟩
 ·rintro F wl ⟨Fb, rfl, rfl⟩
  refine zc (zb ?_); refine wr 2 rfl ?_; refine zd (zH ?_)
  have H : some q4 = some r := H
  cases H
  exact ⟨rfl, hS.below⟩
set_option maxHeartbeats 1000000 in
theorem zes {G0 : Gm} {w0 : World} (hS0 : Sat G0 w0) {x0 : Int} {x1 : Int} {x2 : Int}  {r : Bool} (H : ziM x0 x1 x2 = some r) :
  Calls Tryz.prog 114 #[iV x0, iV x1, iV x2] w0 (qQ w0 (.bool r)) := by
 have hS := Since.start hS0
 have hO := xw G0 w0
 unfold ziM at H
 refine z8 (N := 15) (qS _ _) Tryz.func114 rfl rfl rfl rfl (zc (zb (za (ze (v := (.bool false)) rfl) rfl (zd (zc ?_))))); obtain ⟨q1, hq1, H⟩ := bnd H; refine qx (fun F w => ∃ (Fb : Fr), F = qC Fb [(6, .bool q1)] ∧ w0 = w) ?_ ?_
 ·have Hoq1 := H; have H := hq1; refine zb ?_; refine wr 4 rfl ?_
  rcases qo (decide (x1 ≤ x0)) with hb2 | hb2
  ·have H := ifT hb2 H; refine wk hb2 5 rfl rfl ?_; refine zd ?_; cases H
   exact ⟨_, zi _ _ ⟨rfl, trivial⟩, rfl⟩
  ·have H := ifF hb2 H; refine wk hb2 5 rfl rfl ?_; refine zd ?_; cases H
   exact ⟨_, zi _ _ ⟨rfl, trivial⟩, rfl⟩
 ·rintro F wl ⟨Fb, rfl, rfl⟩
  refine zH ?_
  have H : some q1 = some r := H
  cases H
  exact ⟨rfl, hS.below⟩
end Go.Proofs.YtcapocmenjcnhaaGreatDoor
