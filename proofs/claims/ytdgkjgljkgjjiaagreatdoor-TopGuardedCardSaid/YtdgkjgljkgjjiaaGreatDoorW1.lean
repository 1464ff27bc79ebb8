/-
 The walks: each Go function computes its plain function (printed by a program of ours).
-/
import Derived.Test.YtdgkjgljkgjjiaaGreatDoorRd
import Derived.Test.YtdgkjgljkgjjiaaGreatDoorBsC
import Derived.Test.YtdgkjgljkgjjiaaGreatDoorIt
namespace Go.Proofs.YtdgkjgljkgjjiaaGreatDoor
open Go.RowKit
set_option linter.unusedVariables false
section
variable {κ : Ctx} {p : List PanicEntry → Fr → World → Prop} {N : Nat} {F : Fr} {w : World} {K : Fr → World → Prop} {ops : Array Oper}
theorem wr (n : Nat) {l l' : List Oper} {F' : Fr} (hr : runP tab 0 [] none ops N n [] l F [] [] = some (l', F', [], [])) (h : WL κ Tryz.prog N ops p K l' F' w) : WL κ Tryz.prog N ops p K l F w := WL_run tabH (cells0 _) n [] hr rfl an h
theorem wk {b v : Bool} (hb : b = v) (n : Nat) {l l' : List Oper} {F' : Fr} {es : List (Value × Value)} (hr : runP tab 0 [] (some (.bool b, v)) ops N n [] l F [] [] = some (l', F', es, [])) (he : es.map (·.1) = es.map (·.2)) (h : WL κ Tryz.prog N ops p K l' F' w) : WL κ Tryz.prog N ops p K l F w := WL_runK tabH (cells0 _) (kb hb) n [] hr he an h
end


set_option maxRecDepth 20000
set_option linter.unusedVariables false
set_option maxHeartbeats 1000000 in
theorem f13_ok {G0 : Gm} {w0 : World} (hS0 : Sat G0 w0) {x0 : TCouncilAtoll} {a1 : Option Addr} {n1 c1 : Nat} {a2 : Option Addr} {n2 c2 : Nat} {a3 : Option Addr} {n3 c3 : Nat} {a4 : Option Addr} {n4 c4 : Nat} {a5 : Option Addr} {n5 c5 : Nat} {a6 : Option Addr} {n6 c6 : Nat} {a7 : Option Addr} {n7 c7 : Nat} {a8 : Option Addr} {n8 c8 : Nat} {a9 : Option Addr} {n9 c9 : Nat} {a10 : Option Addr} {n10 c10 : Nat} {a11 : Option Addr} {n11 c11 : Nat} {a12 : Option Addr} {n12 c12 : Nat} {a13 : Option Addr} {n13 c13 : Nat} {a14 : Option Addr} {n14 c14 : Nat} {a15 : Option Addr} {n15 c15 : Nat} {a16 : Option Addr} {n16 c16 : Nat} (h1 : RSl RInt 1 G0 a1 n1 c1 x0.Islet.Wells) (h2 : RSl RTLensMonth 6 G0 a2 n2 c2 x0.Islet.Months) (h3 : RSl RTLandPerson 2 G0 a3 n3 c3 x0.Book.People) (h4 : RSl RTLandEvent 2 G0 a4 n4 c4 x0.Book.Events) (h5 : RSl RTLandMemory 4 G0 a5 n5 c5 x0.Book.Memories) (h6 : RSl RTReefPlace 12 G0 a6 n6 c6 x0.Reef.Places) (h7 : RSl RInt 1 G0 a7 n7 c7 x0.Sea.Infested) (h8 : RSl RInt 1 G0 a8 n8 c8 x0.Sea.Clean) (h9 : RSl RTBaneTrip 4 G0 a9 n9 c9 x0.Sea.Trips) (h10 : RSl RInt 1 G0 a10 n10 c10 x0.Store.Stock) (h11 : RSl RTSpan 2 G0 a11 n11 c11 x0.Store.Use) (h12 : RSl RTShipLot 3 G0 a12 n12 c12 x0.Store.Lots) (h13 : RSl RTCellLoad 3 G0 a13 n13 c13 x0.System.Loads) (h14 : RSl RInt 1 G0 a14 n14 c14 x0.Fishing.Roads) (h15 : RSl RInt 1 G0 a15 n15 c15 x0.Fishing.Zones) (h16 : RSl RInt 1 G0 a16 n16 c16 x0.Fishing.Berths) {r : Bool} (H : f13 x0 = some r) :
  Calls Tryz.prog 13 #[.agg #[iV x0.Islet.Cap, iV x0.Islet.Start.Low, iV x0.Islet.Start.High, iV x0.Islet.Roof, iV x0.Islet.Sand, iV x0.Islet.Soak.Low, iV x0.Islet.Soak.High, iV x0.Islet.Leak.Low, iV x0.Islet.Leak.High, iV x0.Islet.Pump, iV x0.Islet.Keep, iV x0.Islet.Size, .slice a1 n1 c1, .slice a2 n2 c2, iV x0.Islet.Most, iV x0.Islet.Row, iV x0.Tank, .slice a3 n3 c3, .slice a4 n4 c4, .slice a5 n5 c5, .slice a6 n6 c6, iV x0.Reef.Miss, iV x0.Reef.Seasons, iV x0.Sea.Islets, .slice a7 n7 c7, .slice a8 n8 c8, .slice a9 n9 c9, iV x0.Sea.Wait, .slice a10 n10 c10, .slice a11 n11 c11, iV x0.Store.Gap.Low, iV x0.Store.Gap.High, .slice a12 n12 c12, iV x0.Store.Hold, iV x0.System.Sunny, iV x0.System.Cloudy, iV x0.System.Size, iV x0.System.Fade, iV x0.System.Start, .slice a13 n13 c13, iV x0.System.Days, iV x0.System.Window, iV x0.System.Most, iV x0.System.Panel, iV x0.System.Battery, iV x0.Fishing.Cells, .slice a14 n14 c14, .slice a15 n15 c15, .slice a16 n16 c16, iV x0.Fishing.Days, iV x0.Money]] w0 (RetV w0 (.bool r)) := by
 have hS := Since.start hS0
 have hO := own0 G0 w0
 unfold f13 at H
 refine enter1 (N := 147) (shutV _ _) Tryz.func13 rfl rfl rfl rfl (WC_seq (WC_region (WL_op rfl (OpP_newF (v := fun b => pV b) (cs := [iV x0.Islet.Cap, iV x0.Islet.Start.Low, iV x0.Islet.Start.High, iV x0.Islet.Roof, iV x0.Islet.Sand, iV x0.Islet.Soak.Low, iV x0.Islet.Soak.High, iV x0.Islet.Leak.Low, iV x0.Islet.Leak.High, iV x0.Islet.Pump, iV x0.Islet.Keep, iV x0.Islet.Size, .slice a1 n1 c1, .slice a2 n2 c2, iV x0.Islet.Most, iV x0.Islet.Row, iV x0.Tank, .slice a3 n3 c3, .slice a4 n4 c4, .slice a5 n5 c5, .slice a6 n6 c6, iV x0.Reef.Miss, iV x0.Reef.Seasons, iV x0.Sea.Islets, .slice a7 n7 c7, .slice a8 n8 c8, .slice a9 n9 c9, iV x0.Sea.Wait, .slice a10 n10 c10, .slice a11 n11 c11, iV x0.Store.Gap.Low, iV x0.Store.Gap.High, .slice a12 n12 c12, iV x0.Store.Hold, iV x0.System.Sunny, iV x0.System.Cloudy, iV x0.System.Size, iV x0.System.Fade, iV x0.System.Start, .slice a13 n13 c13, iV x0.System.Days, iV x0.System.Window, iV x0.System.Most, iV x0.System.Panel, iV x0.System.Battery, iV x0.Fishing.Cells, .slice a14 n14 c14, .slice a15 n15 c15, .slice a16 n16 c16, iV x0.Fishing.Days, iV x0.Money]) (e := 49) (rn_boxA rfl) hS.sat rfl (fun b17 G19 w18 hg hcb17 => ?_))))); have hS := hS.grow hg; have hO := hO.grow hg
 have leG19 := hg.le
 refine WL_val (rn_assign (v := (.bool false)) rfl) rfl (WL_nil (WC_seq (WC_seq (WC_region (WL_val (rn_assign (v := (iV 0)) rfl) rfl (WL_nil ?_)))))); obtain ⟨q22, hq22, H⟩ := bnd H; refine WC_cut (fun F w => ∃ (p21 : Unit) (Fb : Fr), q22 = .inl p21 ∧ F = upds Fb [(1, pV b17)] ∧ w18 = w) ?_ ?_
 ·refine WC_block (WC_loop hq22 (fun s20 F w => ∃ (Fb : Fr), F = upds Fb [(1, pV b17), (3, iV s20)] ∧ w18 = w) ?_ ?_)
  ·exact ⟨_, upds_self _ _ ⟨rfl, rfl, trivial⟩, rfl⟩
  ·rintro s20 F wl t23 ⟨Fb, rfl, rfl⟩
   intro H1 hqq22
   have Hoq22 := H; have H := H1
   unfold f13_b0 at H
   refine WC_seq (WC_seq ?_); obtain ⟨q26, hq26, H⟩ := bnd H; refine WC_cut (fun F w => ∃ (Fb : Fr), F = upds Fb [(1, pV b17), (3, iV s20), (13, .bool q26)] ∧ w18 = w) ?_ ?_
   ·have Hoq26 := H; have H := hq26; refine WC_region (WL_run tabH (cellsW hS.sat hcb17) 7 [_] rfl rfl (ao (h12.mono RTShipLot_mono leG19).1 an) ?_)
    rcases bcases (decide (s20 < (x0.Store.Lots.length : Int))) with hb27 | hb27
    ·have H := ifT hb27 H; refine wk hb27 3 rfl rfl ?_; refine WL_nil ?_; cases H
     exact ⟨_, upds_self _ _ ⟨rfl, rfl, rfl, trivial⟩, rfl⟩
    ·have H := ifF hb27 H; refine wk hb27 3 rfl rfl ?_; refine WL_nil ?_; cases H
     exact ⟨_, upds_self _ _ ⟨rfl, rfl, rfl, trivial⟩, rfl⟩
   ·rintro F wl ⟨Fb, rfl, rfl⟩
    refine WC_cond rfl (fun hb30 => ?_) (fun hb30 => ?_)
    ·have H := ifT hb30 H; refine WC_skip (WC_seq (WC_block (WC_seq (WC_region (WL_run tabH (cellsW hS.sat hcb17) 4 [] rfl rfl an ?_))))); obtain ⟨y31, hy31, H⟩ := bnd H; refine WL_idx sl40 (h12.mono RTShipLot_mono leG19) hy31 rfl rfl rfl ?_
     rintro b32 o32 _ hcb32 _ ⟨a33, n33, c33, ⟨⟩, h33⟩
     refine WL_val (rn_fld fd110_0 rfl) rfl (WL_val (rn_load na39 rfl (hS.sat.cell (hcb32 0 _ rfl))) rfl (WL_run tabH (cells0 _) 2 [_] rfl rfl (ao h33.1 an) (WL_nil (WC_cond rfl (fun hb34 => ?_) (fun hb34 => ?_)))))
     ·have H := ifT hb34 H; refine WC_seq (WC_region (WL_val (rn_assign (v := (.bool false)) rfl) rfl (WL_nil (WC_ret ?_)))); cases H
      have hres := hqq22 _ rfl
      subst hres; have H := Hoq22
      have H : some false = some r := H
      cases H
      exact ⟨rfl, hS.below⟩
     ·have H := ifF hb34 H; refine WC_skip (WC_region ?_); refine wr 3 rfl ?_; refine WL_nil ?_; cases H; refine ⟨_, rfl, ?_⟩
      exact ⟨_, upds_self _ _ ⟨rfl, rfl, trivial⟩, rfl⟩
    ·have H := ifF hb30 H; refine WC_exit rfl ?_; cases H
     have hres := hqq22 _ rfl
     subst hres
     exact ⟨_, _, rfl, upds_self _ _ ⟨rfl, trivial⟩, rfl⟩
 ·rintro F wl ⟨p21, Fb, rfl, rfl, rfl⟩
  refine WC_seq ?_; obtain ⟨q37, hq37, H⟩ := bnd H; refine WC_cut (fun F w => ∃ (Fb : Fr), F = upds Fb [(2, .bool q37)] ∧ w18 = w) ?_ ?_
  ·have Hoq37 := H; have H := hq37; refine WC_region (WL_run tabH (cellsW hS.sat hcb17) 6 [_] rfl rfl (ao (h1.mono RInt_mono leG19).1 an) ?_)
   rcases bcases (decide ((x0.Islet.Wells.length : Int) ≤ 8)) with hb38 | hb38
   ·have H := ifT hb38 H; refine WL_runK tabH (cellsW hS.sat hcb17) (kb hb38) 7 [_] rfl rfl (ao (h2.mono RTLensMonth_mono leG19).1 an) ?_
    rcases bcases (decide ((x0.Islet.Months.length : Int) ≤ 4)) with hb39 | hb39
    ·have H := ifT hb39 H; refine WL_runK tabH (cellsW hS.sat hcb17) (kb hb39) 7 [_] rfl rfl (ao (h3.mono RTLandPerson_mono leG19).1 an) ?_
     rcases bcases (decide ((x0.Book.People.length : Int) ≤ 12)) with hb40 | hb40
     ·have H := ifT hb40 H; refine WL_runK tabH (cellsW hS.sat hcb17) (kb hb40) 7 [_] rfl rfl (ao (h4.mono RTLandEvent_mono leG19).1 an) ?_
      rcases bcases (decide ((x0.Book.Events.length : Int) ≤ 9)) with hb41 | hb41
      ·have H := ifT hb41 H; refine WL_runK tabH (cellsW hS.sat hcb17) (kb hb41) 7 [_] rfl rfl (ao (h5.mono RTLandMemory_mono leG19).1 an) ?_
       rcases bcases (decide ((x0.Book.Memories.length : Int) ≤ 12)) with hb42 | hb42
       ·have H := ifT hb42 H; refine WL_runK tabH (cellsW hS.sat hcb17) (kb hb42) 7 [_] rfl rfl (ao (h6.mono RTReefPlace_mono leG19).1 an) ?_
        rcases bcases (decide ((x0.Reef.Places.length : Int) ≤ 3)) with hb43 | hb43
        ·have H := ifT hb43 H; refine WL_runK tabH (cellsW hS.sat hcb17) (kb hb43) 6 [] rfl rfl an ?_
         rcases bcases (decide (x0.Reef.Seasons ≤ 2)) with hb44 | hb44
         ·have H := ifT hb44 H; refine WL_runK tabH (cellsW hS.sat hcb17) (kb hb44) 7 [_] rfl rfl (ao (h7.mono RInt_mono leG19).1 an) ?_
          rcases bcases (decide ((x0.Sea.Infested.length : Int) ≤ 10)) with hb45 | hb45
          ·have H := ifT hb45 H; refine WL_runK tabH (cellsW hS.sat hcb17) (kb hb45) 7 [_] rfl rfl (ao (h8.mono RInt_mono leG19).1 an) ?_
           rcases bcases (decide ((x0.Sea.Clean.length : Int) ≤ 10)) with hb46 | hb46
           ·have H := ifT hb46 H; refine WL_runK tabH (cellsW hS.sat hcb17) (kb hb46) 7 [_] rfl rfl (ao (h9.mono RTBaneTrip_mono leG19).1 an) ?_
            rcases bcases (decide ((x0.Sea.Trips.length : Int) ≤ 8)) with hb47 | hb47
            ·have H := ifT hb47 H; refine WL_runK tabH (cellsW hS.sat hcb17) (kb hb47) 7 [_] rfl rfl (ao (h10.mono RInt_mono leG19).1 an) ?_
             rcases bcases (decide ((x0.Store.Stock.length : Int) ≤ 8)) with hb48 | hb48
             ·have H := ifT hb48 H; refine WL_runK tabH (cellsW hS.sat hcb17) (kb hb48) 7 [_] rfl rfl (ao (h11.mono RTSpan_mono leG19).1 an) ?_
              rcases bcases (decide ((x0.Store.Use.length : Int) ≤ 8)) with hb49 | hb49
              ·have H := ifT hb49 H; refine WL_runK tabH (cellsW hS.sat hcb17) (kb hb49) 7 [_] rfl rfl (ao (h12.mono RTShipLot_mono leG19).1 an) ?_
               rcases bcases (decide ((x0.Store.Lots.length : Int) ≤ 8)) with hb50 | hb50
               ·have H := ifT hb50 H; refine WL_runK tabH (cellsW hS.sat hcb17) (kb hb50) 7 [_] rfl rfl (ao (h13.mono RTCellLoad_mono leG19).1 an) ?_
                rcases bcases (decide ((x0.System.Loads.length : Int) ≤ 7)) with hb51 | hb51
                ·have H := ifT hb51 H; refine WL_runK tabH (cellsW hS.sat hcb17) (kb hb51) 6 [] rfl rfl an ?_
                 rcases bcases (decide (x0.System.Days ≤ 4)) with hb52 | hb52
                 ·have H := ifT hb52 H; refine WL_runK tabH (cellsW hS.sat hcb17) (kb hb52) 7 [_] rfl rfl (ao (h14.mono RInt_mono leG19).1 an) ?_
                  rcases bcases (decide ((x0.Fishing.Roads.length : Int) ≤ 10)) with hb53 | hb53
                  ·have H := ifT hb53 H; refine WL_runK tabH (cellsW hS.sat hcb17) (kb hb53) 7 [_] rfl rfl (ao (h15.mono RInt_mono leG19).1 an) ?_
                   rcases bcases (decide ((x0.Fishing.Zones.length : Int) ≤ 5)) with hb54 | hb54
                   ·have H := ifT hb54 H; refine WL_runK tabH (cellsW hS.sat hcb17) (kb hb54) 7 [_] rfl rfl (ao (h16.mono RInt_mono leG19).1 an) (WL_nil ?_); cases H
                    exact ⟨_, upds_self _ _ ⟨rfl, trivial⟩, rfl⟩
                   ·have H := ifF hb54 H; refine wk hb54 7 rfl rfl ?_; refine WL_nil ?_; cases H
                    exact ⟨_, upds_self _ _ ⟨rfl, trivial⟩, rfl⟩
                  ·have H := ifF hb53 H; refine wk hb53 7 rfl rfl ?_; refine wr 7 rfl ?_; refine WL_nil ?_; cases H
                   exact ⟨_, upds_self _ _ ⟨rfl, trivial⟩, rfl⟩
                 ·have H := ifF hb52 H; refine wk hb52 7 rfl rfl ?_; refine wr 14 rfl ?_; refine WL_nil ?_; cases H
                  exact ⟨_, upds_self _ _ ⟨rfl, trivial⟩, rfl⟩
                ·have H := ifF hb51 H; refine wk hb51 6 rfl rfl ?_; refine wr 21 rfl ?_; refine WL_nil ?_; cases H
                 exact ⟨_, upds_self _ _ ⟨rfl, trivial⟩, rfl⟩
               ·have H := ifF hb50 H; refine wk hb50 7 rfl rfl ?_; refine wr 27 rfl ?_; refine WL_nil ?_; cases H
                exact ⟨_, upds_self _ _ ⟨rfl, trivial⟩, rfl⟩
              ·have H := ifF hb49 H; refine wk hb49 7 rfl rfl ?_; refine wr 34 rfl ?_; refine WL_nil ?_; cases H
               exact ⟨_, upds_self _ _ ⟨rfl, trivial⟩, rfl⟩
             ·have H := ifF hb48 H; refine wk hb48 7 rfl rfl ?_; refine wr 41 rfl ?_; refine WL_nil ?_; cases H
              exact ⟨_, upds_self _ _ ⟨rfl, trivial⟩, rfl⟩
            ·have H := ifF hb47 H; refine wk hb47 7 rfl rfl ?_; refine wr 48 rfl ?_; refine WL_nil ?_; cases H
             exact ⟨_, upds_self _ _ ⟨rfl, trivial⟩, rfl⟩
           ·have H := ifF hb46 H; refine wk hb46 7 rfl rfl ?_; refine wr 55 rfl ?_; refine WL_nil ?_; cases H
            exact ⟨_, upds_self _ _ ⟨rfl, trivial⟩, rfl⟩
          ·have H := ifF hb45 H; refine wk hb45 7 rfl rfl ?_; refine wr 62 rfl ?_; refine WL_nil ?_; cases H
           exact ⟨_, upds_self _ _ ⟨rfl, trivial⟩, rfl⟩
         ·have H := ifF hb44 H; refine wk hb44 7 rfl rfl ?_; refine wr 69 rfl ?_; refine WL_nil ?_; cases H
          exact ⟨_, upds_self _ _ ⟨rfl, trivial⟩, rfl⟩
        ·have H := ifF hb43 H; refine wk hb43 6 rfl rfl ?_; refine wr 76 rfl ?_; refine WL_nil ?_; cases H
         exact ⟨_, upds_self _ _ ⟨rfl, trivial⟩, rfl⟩
       ·have H := ifF hb42 H; refine wk hb42 7 rfl rfl ?_; refine wr 82 rfl ?_; refine WL_nil ?_; cases H
        exact ⟨_, upds_self _ _ ⟨rfl, trivial⟩, rfl⟩
      ·have H := ifF hb41 H; refine wk hb41 7 rfl rfl ?_; refine wr 89 rfl ?_; refine WL_nil ?_; cases H
       exact ⟨_, upds_self _ _ ⟨rfl, trivial⟩, rfl⟩
     ·have H := ifF hb40 H; refine wk hb40 7 rfl rfl ?_; refine wr 96 rfl ?_; refine WL_nil ?_; cases H
      exact ⟨_, upds_self _ _ ⟨rfl, trivial⟩, rfl⟩
    ·have H := ifF hb39 H; refine wk hb39 7 rfl rfl ?_; refine wr 103 rfl ?_; refine WL_nil ?_; cases H
     exact ⟨_, upds_self _ _ ⟨rfl, trivial⟩, rfl⟩
   ·have H := ifF hb38 H; refine wk hb38 7 rfl rfl ?_; refine wr 110 rfl ?_; refine WL_nil ?_; cases H
    exact ⟨_, upds_self _ _ ⟨rfl, trivial⟩, rfl⟩
  ·rintro F wl ⟨Fb, rfl, rfl⟩
   refine WC_ret ?_
   have H : some q37 = some r := H
   cases H
   exact ⟨rfl, hS.below⟩
set_option maxHeartbeats 1000000 in
theorem f97_ok {G0 : Gm} {w0 : World} (hS0 : Sat G0 w0) {x0 : (List Int)} {a1 : Option Addr} {n1 c1 : Nat} (h1 : RSl RInt 1 G0 a1 n1 c1 x0) {r : (List Int)} (H : f97 x0 = some r) :
  Calls Tryz.prog 97 #[.slice a1 n1 c1] w0 (RetG G0 w0 (fun G v => ∃ (ra0 : Option Addr) (rn0 rc0 : Nat), v = .slice ra0 rn0 rc0 ∧ RSl RInt 1 G ra0 rn0 rc0 r)) := by
 have hS := Since.start hS0
 have hO := own0 G0 w0
 unfold f97 at H
 refine enter1 (N := 5) (shutG _ _ _) Tryz.func97 rfl rfl rfl rfl (WC_seq (WC_region (WL_val (rn_assign (v := (.slice none 0 0)) rfl) rfl (WL_nil (WC_seq (WC_region (WL_val (rn_move (v := (.slice a1 n1 c1)) rfl) rfl ?_))))))); have hO := hO.cons_nil 3 1; obtain ⟨y3, hy3, H⟩ := bnd H; refine WL_op rfl (OpP_append (k := 0) sl24 RInt_one hS hO rfl rfl (Rd.nil RInt 1 G0) h1 hy3 rfl rfl rfl rfl rfl (fun aw4 cw4 w4 clw4 hS hO hrw4 => ?_))
 have hO : Owns G0 w4 w0.heap.size ([⟨3, 1, y3.length, .slice aw4 y3.length cw4, clw4⟩]) := hO
 refine WL_val (rn_assign (v := (.slice aw4 y3.length cw4)) rfl) rfl (WL_nil (WC_ret ?_)); obtain ⟨G5, leG5, hS, hO, hfG5⟩ := hO.freezeS hS RInt_mono (k := 0) rfl hrw4 rfl
 have H : some y3 = some r := H
 cases H
 exact ⟨_, _, rfl, hS.toGrow, _, _, _, rfl, hfG5⟩
set_option maxHeartbeats 1000000 in
theorem f127_ok {G0 : Gm} {w0 : World} (hS0 : Sat G0 w0) {x0 : (List TLensMonth)} {a1 : Option Addr} {n1 c1 : Nat} (h1 : RSl RTLensMonth 6 G0 a1 n1 c1 x0) {r : (List TLensMonth)} (H : f127 x0 = some r) :
  Calls Tryz.prog 127 #[.slice a1 n1 c1] w0 (RetG G0 w0 (fun G v => ∃ (ra0 : Option Addr) (rn0 rc0 : Nat), v = .slice ra0 rn0 rc0 ∧ RSl RTLensMonth 6 G ra0 rn0 rc0 r)) := by
 have hS := Since.start hS0
 have hO := own0 G0 w0
 unfold f127 at H
 refine enter1 (N := 5) (shutG _ _ _) Tryz.func127 rfl rfl rfl rfl (WC_seq (WC_region (WL_val (rn_assign (v := (.slice none 0 0)) rfl) rfl (WL_nil (WC_seq (WC_region (WL_val (rn_move (v := (.slice a1 n1 c1)) rfl) rfl ?_))))))); have hO := hO.cons_nil 189 6; obtain ⟨y3, hy3, H⟩ := bnd H; refine WL_op rfl (OpP_append (k := 0) sl25 RTLensMonth_one hS hO rfl rfl (Rd.nil RTLensMonth 6 G0) h1 hy3 rfl rfl rfl rfl rfl (fun aw4 cw4 w4 clw4 hS hO hrw4 => ?_))
 have hO : Owns G0 w4 w0.heap.size ([⟨189, 6, y3.length, .slice aw4 y3.length cw4, clw4⟩]) := hO
 refine WL_val (rn_assign (v := (.slice aw4 y3.length cw4)) rfl) rfl (WL_nil (WC_ret ?_)); obtain ⟨G5, leG5, hS, hO, hfG5⟩ := hO.freezeS hS RTLensMonth_mono (k := 0) rfl hrw4 rfl
 have H : some y3 = some r := H
 cases H
 exact ⟨_, _, rfl, hS.toGrow, _, _, _, rfl, hfG5⟩
set_option maxHeartbeats 1000000 in
theorem f128_ok {G0 : Gm} {w0 : World} (hS0 : Sat G0 w0) {x0 : (List TLandPerson)} {a1 : Option Addr} {n1 c1 : Nat} (h1 : RSl RTLandPerson 2 G0 a1 n1 c1 x0) {r : (List TLandPerson)} (H : f128 x0 = some r) :
  Calls Tryz.prog 128 #[.slice a1 n1 c1] w0 (RetG G0 w0 (fun G v => ∃ (ra0 : Option Addr) (rn0 rc0 : Nat), v = .slice ra0 rn0 rc0 ∧ RSl RTLandPerson 2 G ra0 rn0 rc0 r)) := by
 have hS := Since.start hS0
 have hO := own0 G0 w0
 unfold f128 at H
 refine enter1 (N := 5) (shutG _ _ _) Tryz.func128 rfl rfl rfl rfl (WC_seq (WC_region (WL_val (rn_assign (v := (.slice none 0 0)) rfl) rfl (WL_nil (WC_seq (WC_region (WL_val (rn_move (v := (.slice a1 n1 c1)) rfl) rfl ?_))))))); have hO := hO.cons_nil 192 2; obtain ⟨y3, hy3, H⟩ := bnd H; refine WL_op rfl (OpP_append (k := 0) sl28 RTLandPerson_one hS hO rfl rfl (Rd.nil RTLandPerson 2 G0) h1 hy3 rfl rfl rfl rfl rfl (fun aw4 cw4 w4 clw4 hS hO hrw4 => ?_))
 have hO : Owns G0 w4 w0.heap.size ([⟨192, 2, y3.length, .slice aw4 y3.length cw4, clw4⟩]) := hO
 refine WL_val (rn_assign (v := (.slice aw4 y3.length cw4)) rfl) rfl (WL_nil (WC_ret ?_)); obtain ⟨G5, leG5, hS, hO, hfG5⟩ := hO.freezeS hS RTLandPerson_mono (k := 0) rfl hrw4 rfl
 have H : some y3 = some r := H
 cases H
 exact ⟨_, _, rfl, hS.toGrow, _, _, _, rfl, hfG5⟩
set_option maxHeartbeats 1000000 in
theorem f129_ok {G0 : Gm} {w0 : World} (hS0 : Sat G0 w0) {x0 : (List TLandEvent)} {a1 : Option Addr} {n1 c1 : Nat} (h1 : RSl RTLandEvent 2 G0 a1 n1 c1 x0) {r : (List TLandEvent)} (H : f129 x0 = some r) :
  Calls Tryz.prog 129 #[.slice a1 n1 c1] w0 (RetG G0 w0 (fun G v => ∃ (ra0 : Option Addr) (rn0 rc0 : Nat), v = .slice ra0 rn0 rc0 ∧ RSl RTLandEvent 2 G ra0 rn0 rc0 r)) := by
 have hS := Since.start hS0
 have hO := own0 G0 w0
 unfold f129 at H
 refine enter1 (N := 5) (shutG _ _ _) Tryz.func129 rfl rfl rfl rfl (WC_seq (WC_region (WL_val (rn_assign (v := (.slice none 0 0)) rfl) rfl (WL_nil (WC_seq (WC_region (WL_val (rn_move (v := (.slice a1 n1 c1)) rfl) rfl ?_))))))); have hO := hO.cons_nil 194 2; obtain ⟨y3, hy3, H⟩ := bnd H; refine WL_op rfl (OpP_append (k := 0) sl29 RTLandEvent_one hS hO rfl rfl (Rd.nil RTLandEvent 2 G0) h1 hy3 rfl rfl rfl rfl rfl (fun aw4 cw4 w4 clw4 hS hO hrw4 => ?_))
 have hO : Owns G0 w4 w0.heap.size ([⟨194, 2, y3.length, .slice aw4 y3.length cw4, clw4⟩]) := hO
 refine WL_val (rn_assign (v := (.slice aw4 y3.length cw4)) rfl) rfl (WL_nil (WC_ret ?_)); obtain ⟨G5, leG5, hS, hO, hfG5⟩ := hO.freezeS hS RTLandEvent_mono (k := 0) rfl hrw4 rfl
 have H : some y3 = some r := H
 cases H
 exact ⟨_, _, rfl, hS.toGrow, _, _, _, rfl, hfG5⟩
set_option maxHeartbeats 1000000 in
theorem f130_ok {G0 : Gm} {w0 : World} (hS0 : Sat G0 w0) {x0 : (List TLandMemory)} {a1 : Option Addr} {n1 c1 : Nat} (h1 : RSl RTLandMemory 4 G0 a1 n1 c1 x0) {r : (List TLandMemory)} (H : f130 x0 = some r) :
  Calls Tryz.prog 130 #[.slice a1 n1 c1] w0 (RetG G0 w0 (fun G v => ∃ (ra0 : Option Addr) (rn0 rc0 : Nat), v = .slice ra0 rn0 rc0 ∧ RSl RTLandMemory 4 G ra0 rn0 rc0 r)) := by
 have hS := Since.start hS0
 have hO := own0 G0 w0
 unfold f130 at H
 refine enter1 (N := 5) (shutG _ _ _) Tryz.func130 rfl rfl rfl rfl (WC_seq (WC_region (WL_val (rn_assign (v := (.slice none 0 0)) rfl) rfl (WL_nil (WC_seq (WC_region (WL_val (rn_move (v := (.slice a1 n1 c1)) rfl) rfl ?_))))))); have hO := hO.cons_nil 197 4; obtain ⟨y3, hy3, H⟩ := bnd H; refine WL_op rfl (OpP_append (k := 0) sl30 RTLandMemory_one hS hO rfl rfl (Rd.nil RTLandMemory 4 G0) h1 hy3 rfl rfl rfl rfl rfl (fun aw4 cw4 w4 clw4 hS hO hrw4 => ?_))
 have hO : Owns G0 w4 w0.heap.size ([⟨197, 4, y3.length, .slice aw4 y3.length cw4, clw4⟩]) := hO
 refine WL_val (rn_assign (v := (.slice aw4 y3.length cw4)) rfl) rfl (WL_nil (WC_ret ?_)); obtain ⟨G5, leG5, hS, hO, hfG5⟩ := hO.freezeS hS RTLandMemory_mono (k := 0) rfl hrw4 rfl
 have H : some y3 = some r := H
 cases H
 exact ⟨_, _, rfl, hS.toGrow, _, _, _, rfl, hfG5⟩
set_option maxHeartbeats 1000000 in
theorem f131_ok {G0 : Gm} {w0 : World} (hS0 : Sat G0 w0) {x0 : (List TReefPlace)} {a1 : Option Addr} {n1 c1 : Nat} (h1 : RSl RTReefPlace 12 G0 a1 n1 c1 x0) {r : (List TReefPlace)} (H : f131 x0 = some r) :
  Calls Tryz.prog 131 #[.slice a1 n1 c1] w0 (RetG G0 w0 (fun G v => ∃ (ra0 : Option Addr) (rn0 rc0 : Nat), v = .slice ra0 rn0 rc0 ∧ RSl RTReefPlace 12 G ra0 rn0 rc0 r)) := by
 have hS := Since.start hS0
 have hO := own0 G0 w0
 unfold f131 at H
 refine enter1 (N := 5) (shutG _ _ _) Tryz.func131 rfl rfl rfl rfl (WC_seq (WC_region (WL_val (rn_assign (v := (.slice none 0 0)) rfl) rfl (WL_nil (WC_seq (WC_region (WL_val (rn_move (v := (.slice a1 n1 c1)) rfl) rfl ?_))))))); have hO := hO.cons_nil 199 12; obtain ⟨y3, hy3, H⟩ := bnd H; refine WL_op rfl (OpP_append (k := 0) sl33 RTReefPlace_one hS hO rfl rfl (Rd.nil RTReefPlace 12 G0) h1 hy3 rfl rfl rfl rfl rfl (fun aw4 cw4 w4 clw4 hS hO hrw4 => ?_))
 have hO : Owns G0 w4 w0.heap.size ([⟨199, 12, y3.length, .slice aw4 y3.length cw4, clw4⟩]) := hO
 refine WL_val (rn_assign (v := (.slice aw4 y3.length cw4)) rfl) rfl (WL_nil (WC_ret ?_)); obtain ⟨G5, leG5, hS, hO, hfG5⟩ := hO.freezeS hS RTReefPlace_mono (k := 0) rfl hrw4 rfl
 have H : some y3 = some r := H
 cases H
 exact ⟨_, _, rfl, hS.toGrow, _, _, _, rfl, hfG5⟩
set_option maxHeartbeats 1000000 in
theorem f132_ok {G0 : Gm} {w0 : World} (hS0 : Sat G0 w0) {x0 : (List TBaneTrip)} {a1 : Option Addr} {n1 c1 : Nat} (h1 : RSl RTBaneTrip 4 G0 a1 n1 c1 x0) {r : (List TBaneTrip)} (H : f132 x0 = some r) :
  Calls Tryz.prog 132 #[.slice a1 n1 c1] w0 (RetG G0 w0 (fun G v => ∃ (ra0 : Option Addr) (rn0 rc0 : Nat), v = .slice ra0 rn0 rc0 ∧ RSl RTBaneTrip 4 G ra0 rn0 rc0 r)) := by
 have hS := Since.start hS0
 have hO := own0 G0 w0
 unfold f132 at H
 refine enter1 (N := 5) (shutG _ _ _) Tryz.func132 rfl rfl rfl rfl (WC_seq (WC_region (WL_val (rn_assign (v := (.slice none 0 0)) rfl) rfl (WL_nil (WC_seq (WC_region (WL_val (rn_move (v := (.slice a1 n1 c1)) rfl) rfl ?_))))))); have hO := hO.cons_nil 82 4; obtain ⟨y3, hy3, H⟩ := bnd H; refine WL_op rfl (OpP_append (k := 0) sl36 RTBaneTrip_one hS hO rfl rfl (Rd.nil RTBaneTrip 4 G0) h1 hy3 rfl rfl rfl rfl rfl (fun aw4 cw4 w4 clw4 hS hO hrw4 => ?_))
 have hO : Owns G0 w4 w0.heap.size ([⟨82, 4, y3.length, .slice aw4 y3.length cw4, clw4⟩]) := hO
 refine WL_val (rn_assign (v := (.slice aw4 y3.length cw4)) rfl) rfl (WL_nil (WC_ret ?_)); obtain ⟨G5, leG5, hS, hO, hfG5⟩ := hO.freezeS hS RTBaneTrip_mono (k := 0) rfl hrw4 rfl
 have H : some y3 = some r := H
 cases H
 exact ⟨_, _, rfl, hS.toGrow, _, _, _, rfl, hfG5⟩
set_option maxHeartbeats 1000000 in
theorem f133_ok {G0 : Gm} {w0 : World} (hS0 : Sat G0 w0) {x0 : (List TSpan)} {a1 : Option Addr} {n1 c1 : Nat} (h1 : RSl RTSpan 2 G0 a1 n1 c1 x0) {r : (List TSpan)} (H : f133 x0 = some r) :
  Calls Tryz.prog 133 #[.slice a1 n1 c1] w0 (RetG G0 w0 (fun G v => ∃ (ra0 : Option Addr) (rn0 rc0 : Nat), v = .slice ra0 rn0 rc0 ∧ RSl RTSpan 2 G ra0 rn0 rc0 r)) := by
 have hS := Since.start hS0
 have hO := own0 G0 w0
 unfold f133 at H
 refine enter1 (N := 5) (shutG _ _ _) Tryz.func133 rfl rfl rfl rfl (WC_seq (WC_region (WL_val (rn_assign (v := (.slice none 0 0)) rfl) rfl (WL_nil (WC_seq (WC_region (WL_val (rn_move (v := (.slice a1 n1 c1)) rfl) rfl ?_))))))); have hO := hO.cons_nil 23 2; obtain ⟨y3, hy3, H⟩ := bnd H; refine WL_op rfl (OpP_append (k := 0) sl39 RTSpan_one hS hO rfl rfl (Rd.nil RTSpan 2 G0) h1 hy3 rfl rfl rfl rfl rfl (fun aw4 cw4 w4 clw4 hS hO hrw4 => ?_))
 have hO : Owns G0 w4 w0.heap.size ([⟨23, 2, y3.length, .slice aw4 y3.length cw4, clw4⟩]) := hO
 refine WL_val (rn_assign (v := (.slice aw4 y3.length cw4)) rfl) rfl (WL_nil (WC_ret ?_)); obtain ⟨G5, leG5, hS, hO, hfG5⟩ := hO.freezeS hS RTSpan_mono (k := 0) rfl hrw4 rfl
 have H : some y3 = some r := H
 cases H
 exact ⟨_, _, rfl, hS.toGrow, _, _, _, rfl, hfG5⟩
set_option maxHeartbeats 1000000 in
theorem f135_ok {G0 : Gm} {w0 : World} (hS0 : Sat G0 w0) {x0 : (List TCellLoad)} {a1 : Option Addr} {n1 c1 : Nat} (h1 : RSl RTCellLoad 3 G0 a1 n1 c1 x0) {r : (List TCellLoad)} (H : f135 x0 = some r) :
  Calls Tryz.prog 135 #[.slice a1 n1 c1] w0 (RetG G0 w0 (fun G v => ∃ (ra0 : Option Addr) (rn0 rc0 : Nat), v = .slice ra0 rn0 rc0 ∧ RSl RTCellLoad 3 G ra0 rn0 rc0 r)) := by
 have hS := Since.start hS0
 have hO := own0 G0 w0
 unfold f135 at H
 refine enter1 (N := 5) (shutG _ _ _) Tryz.func135 rfl rfl rfl rfl (WC_seq (WC_region (WL_val (rn_assign (v := (.slice none 0 0)) rfl) rfl (WL_nil (WC_seq (WC_region (WL_val (rn_move (v := (.slice a1 n1 c1)) rfl) rfl ?_))))))); have hO := hO.cons_nil 204 3; obtain ⟨y3, hy3, H⟩ := bnd H; refine WL_op rfl (OpP_append (k := 0) sl43 RTCellLoad_one hS hO rfl rfl (Rd.nil RTCellLoad 3 G0) h1 hy3 rfl rfl rfl rfl rfl (fun aw4 cw4 w4 clw4 hS hO hrw4 => ?_))
 have hO : Owns G0 w4 w0.heap.size ([⟨204, 3, y3.length, .slice aw4 y3.length cw4, clw4⟩]) := hO
 refine WL_val (rn_assign (v := (.slice aw4 y3.length cw4)) rfl) rfl (WL_nil (WC_ret ?_)); obtain ⟨G5, leG5, hS, hO, hfG5⟩ := hO.freezeS hS RTCellLoad_mono (k := 0) rfl hrw4 rfl
 have H : some y3 = some r := H
 cases H
 exact ⟨_, _, rfl, hS.toGrow, _, _, _, rfl, hfG5⟩
set_option maxHeartbeats 1000000 in
theorem f79_ok {G0 : Gm} {w0 : World} (hS0 : Sat G0 w0) {x0 : Int} {x1 : Int} {x2 : Int}  {r : Bool} (H : f79 x0 x1 x2 = some r) :
  Calls Tryz.prog 79 #[iV x0, iV x1, iV x2] w0 (RetV w0 (.bool r)) := by
 have hS := Since.start hS0
 have hO := own0 G0 w0
 unfold f79 at H
 refine enter1 (N := 15) (shutV _ _) Tryz.func79 rfl rfl rfl rfl (WC_seq (WC_region (WL_val (rn_assign (v := (.bool false)) rfl) rfl (WL_nil (WC_seq ?_))))); obtain ⟨q1, hq1, H⟩ := bnd H; refine WC_cut (fun F w => ∃ (Fb : Fr), F = upds Fb [(6, .bool q1)] ∧ w0 = w) ?_ ?_
 ·have Hoq1 := H; have H := hq1; refine WC_region ?_; refine wr 4 rfl ?_
  rcases bcases (decide (x1 ≤ x0)) with hb2 | hb2
  ·have H := ifT hb2 H; refine wk hb2 5 rfl rfl ?_; refine WL_nil ?_; cases H
   exact ⟨_, upds_self _ _ ⟨rfl, trivial⟩, rfl⟩
  ·have H := ifF hb2 H; refine wk hb2 5 rfl rfl ?_; refine WL_nil ?_; cases H
   exact ⟨_, upds_self _ _ ⟨rfl, trivial⟩, rfl⟩
 ·rintro F wl ⟨Fb, rfl, rfl⟩
  refine WC_ret ?_
  have H : some q1 = some r := H
  cases H
  exact ⟨rfl, hS.below⟩
set_option maxHeartbeats 1000000 in
theorem f80_ok {G0 : Gm} {w0 : World} (hS0 : Sat G0 w0) {x0 : (List Int)} {a1 : Option Addr} {n1 c1 : Nat} {x1 : Int} (h1 : RSl RInt 1 G0 a1 n1 c1 x0) {r : Bool} (H : f80 x0 x1 = some r) :
  Calls Tryz.prog 80 #[.slice a1 n1 c1, iV x1] w0 (RetV w0 (.bool r)) := by
 have hS := Since.start hS0
 have hO := own0 G0 w0
 unfold f80 at H
 refine enter1 (N := 33) (shutV _ _) Tryz.func80 rfl rfl rfl rfl (WC_seq (WC_region (WL_val (rn_assign (v := (.bool false)) rfl) rfl (WL_nil (WC_seq (WC_seq (WC_region (WL_run tabH (cells0 _) 3 [_] rfl rfl (ao h1.1 an) (WL_nil ?_))))))))); obtain ⟨q4, hq4, H⟩ := bnd H; refine WC_cut (fun F w => ∃ (p3 : Unit) (Fb : Fr) (G : Gm), q4 = .inl p3 ∧ F = upds Fb [] ∧ Gle G0 G ∧ SO G0 w0 G w []) ?_ ?_
 ·refine WC_block (WC_loop hq4 (fun s2 F w => ∃ (Fb : Fr) (G : Gm), F = upds Fb [(0, .slice a1 n1 c1), (1, iV x1), (7, .slice a1 n1 c1), (8, iV (x0.length : Int)), (9, iV s2)] ∧ Gle G0 G ∧ SO G0 w0 G w []) ?_ ?_)
  ·have hO : Owns _ _ _ [] := hO
   exact ⟨_, G0, upds_self _ _ ⟨rfl, rfl, rfl, rfl, rfl, trivial⟩, Gle.refl _, hS, hO⟩
  ·rintro s2 F w6 t5 ⟨Fb, G7, rfl, leG7, hS, hO⟩
   intro H1 hqq4
   have Hoq4 := H; have H := H1
   unfold f80_b0 at H
   refine WC_seq (WC_region (WL_val (rn_lss rfl rfl) rfl (WL_nil (WC_seq (WC_cond rfl (fun hb8 => ?_) (fun hb8 => ?_))))))
   ·have H := ifT hb8 H; refine WC_skip (WC_seq (WC_block (WC_seq (WC_region (WL_val (rn_move (v := (iV s2)) rfl) rfl ?_))))); obtain ⟨y9, hy9, H⟩ := bnd H; refine WL_idx sl24 (h1.mono RInt_mono leG7) hy9 rfl rfl rfl ?_
    rintro b10 o10 _ hcb10 _ ⟨⟩
    refine WL_val (rn_load na3 rfl (hS.sat.cell (hcb10 0 _ rfl))) rfl ?_; refine wr 2 rfl ?_; refine WL_nil (WC_seq ?_); obtain ⟨q11, hq11, H⟩ := bnd H; refine WC_cut (fun F w => ∃ (Fb : Fr) (G : Gm), F = upds Fb [(0, .slice a1 n1 c1), (1, iV x1), (7, .slice a1 n1 c1), (8, iV (x0.length : Int)), (9, iV s2), (31, .bool q11)] ∧ Gle G7 G ∧ SO G0 w0 G w []) ?_ ?_
    ·have Hoq11 := H; have H := hq11; refine WC_region ?_; refine wr 3 rfl ?_; obtain ⟨y12, hy12, H⟩ := bnd H; refine WL_op rfl (OpP_callV cb79 (f79_ok (x0 := y9) (x1 := 0) (x2 := IntKind.i64.wrap (x1 - 1)) hS.sat  hy12) rfl rfl (fun w13 hb => ?_)); have hS := hS.keep hb; have hO := hO.below hb; refine wr 2 rfl ?_
     rcases bcases (!y12) with hb14 | hb14
     ·have H := ifT hb14 H; refine wk hb14 3 rfl rfl ?_; refine WL_guardU rfl rfl rfl rfl (WL_guardU rfl rfl rfl rfl (WL_guardU rfl rfl rfl rfl (WL_guardU rfl rfl rfl rfl (WL_guardU rfl rfl rfl rfl (WL_guardU rfl rfl rfl rfl (WL_guardU rfl rfl rfl rfl ?_)))))); refine wk hb14 2 rfl rfl ?_; refine WL_nil ?_
      have hO : Owns _ _ _ [] := hO
      cases H
      exact ⟨_, G7, upds_self _ _ ⟨rfl, rfl, rfl, rfl, rfl, rfl, trivial⟩, Gle.refl _, hS, hO⟩
     ·have H := ifF hb14 H; refine wk hb14 3 rfl rfl ?_
      rcases bcases (decide (0 < s2)) with hb15 | hb15
      ·have H := ifT hb15 H; refine wk hb15 4 rfl rfl ?_; refine WL_guardY rfl hb15 rfl rfl ?_; obtain ⟨y16, hy16, H⟩ := bnd H; refine WL_idx sl24 (h1.mono RInt_mono leG7) hy16 rfl rfl rfl ?_
       rintro b17 o17 _ hcb17 _ ⟨⟩
       refine WL_guardY rfl hb15 rfl rfl (WL_val (rn_load na3 rfl (hS.sat.cell (hcb17 0 _ rfl))) rfl (WL_guardY rfl hb15 rfl rfl (WL_val (rn_leq rfl rfl) rfl (WL_guardY rfl hb14 rfl rfl (WL_val (rn_pickT (v := (.bool (decide (y9 ≤ y16)))) rfl hb15 rfl) rfl (WL_val (rn_pickF (v := (.bool (decide (y9 ≤ y16)))) rfl hb14 rfl) rfl (WL_nil ?_)))))))
       have hO : Owns _ _ _ [] := hO
       cases H
       exact ⟨_, G7, upds_self _ _ ⟨rfl, rfl, rfl, rfl, rfl, rfl, trivial⟩, Gle.refl _, hS, hO⟩
      ·have H := ifF hb15 H; refine wk hb15 7 rfl rfl ?_; refine WL_guardY rfl hb14 rfl rfl (WL_val (rn_pickF (v := (.bool false)) rfl hb15 rfl) rfl (WL_val (rn_pickF (v := (.bool false)) rfl hb14 rfl) rfl (WL_nil ?_)))
       have hO : Owns _ _ _ [] := hO
       cases H
       exact ⟨_, G7, upds_self _ _ ⟨rfl, rfl, rfl, rfl, rfl, rfl, trivial⟩, Gle.refl _, hS, hO⟩
    ·rintro F w18 ⟨Fb, G19, rfl, leG19, hS, hO⟩
     refine WC_cond rfl (fun hb20 => ?_) (fun hb20 => ?_)
     ·have H := ifT hb20 H; refine WC_seq (WC_region (WL_val (rn_assign (v := (.bool false)) rfl) rfl (WL_nil (WC_ret ?_)))); cases H
      have hres := hqq4 _ rfl
      subst hres; have H := Hoq4
      have H : some false = some r := H
      cases H
      exact ⟨rfl, hS.below⟩
     ·have H := ifF hb20 H; refine WC_skip (WC_region ?_); refine wr 2 rfl ?_; refine WL_nil ?_
      have hO : Owns _ _ _ [] := hO
      cases H; refine ⟨_, rfl, ?_⟩
      have l0_2 := leG7.trans leG19
      exact ⟨_, G19, upds_self _ _ ⟨rfl, rfl, rfl, rfl, rfl, trivial⟩, l0_2, hS, hO⟩
   ·have H := ifF hb8 H; refine WC_exit rfl ?_
    have hO : Owns _ _ _ [] := hO
    cases H
    have hres := hqq4 _ rfl
    subst hres
    exact ⟨_, _, G7, rfl, rfl, leG7, hS, hO⟩
 ·rintro F w21 ⟨p3, Fb, G22, rfl, rfl, leG22, hS, hO⟩
  refine WC_seq (WC_region (WL_val (rn_assign (v := (.bool true)) rfl) rfl (WL_nil (WC_ret ?_))))
  have H : some true = some r := H
  cases H
  exact ⟨rfl, hS.below⟩
set_option maxHeartbeats 1000000 in
theorem f165_ok {G0 : Gm} {w0 : World} (hS0 : Sat G0 w0) {x0 : (List TBaneTrip)} {a1 : Option Addr} {n1 c1 : Nat} {x1 : (TBaneTrip → Option Bool)} {k2 : Nat} {fi2 ca2 : List Value} (h1 : RSl RTBaneTrip 4 G0 a1 n1 c1 x0) (hf2 : FnOk168 G0 k2 fi2 ca2 x1) {r : Int} (H : f165 x0 x1 = some r) :
  Calls Tryz.prog 165 #[.slice a1 n1 c1, .func (.func k2) (fi2).toArray (ca2).toArray] w0 (RetV w0 (iV r)) := by
 have hS := Since.start hS0
 have hO := own0 G0 w0
 unfold f165 at H
 refine enter1 (N := 19) (shutV _ _) Tryz.func165 rfl rfl rfl rfl (WC_seq (WC_region (WL_val (rn_assign (v := (iV 0)) rfl) rfl (WL_nil (WC_seq (WC_seq (WC_region (WL_run tabH (cells0 _) 3 [_] rfl rfl (ao h1.1 an) (WL_nil ?_))))))))); obtain ⟨q5, hq5, H⟩ := bnd H; refine WC_cut (fun F w => ∃ (p4 : Unit) (Fb : Fr) (G : Gm), q5 = .inl p4 ∧ F = upds Fb [] ∧ Gle G0 G ∧ SO G0 w0 G w []) ?_ ?_
 ·refine WC_block (WC_loop hq5 (fun s3 F w => ∃ (Fb : Fr) (G : Gm), F = upds Fb [(0, .slice a1 n1 c1), (1, .func (.func k2) (fi2).toArray (ca2).toArray), (7, iV (x0.length : Int)), (8, iV s3)] ∧ Gle G0 G ∧ SO G0 w0 G w []) ?_ ?_)
  ·have hO : Owns _ _ _ [] := hO
   exact ⟨_, G0, upds_self _ _ ⟨rfl, rfl, rfl, rfl, trivial⟩, Gle.refl _, hS, hO⟩
  ·rintro s3 F w7 t6 ⟨Fb, G8, rfl, leG8, hS, hO⟩
   intro H1 hqq5
   have Hoq5 := H; have H := H1
   unfold f165_b0 at H
   refine WC_seq (WC_region (WL_val (rn_lss rfl rfl) rfl (WL_nil (WC_seq (WC_cond rfl (fun hb9 => ?_) (fun hb9 => ?_))))))
   ·have H := ifT hb9 H; refine WC_skip (WC_seq (WC_block (WC_seq (WC_region ?_)))); refine wr 2 rfl ?_; refine WL_nil (WC_seq (WC_region ?_)); refine wr 3 rfl ?_; obtain ⟨y10, hy10, H⟩ := bnd H; refine WL_idx sl36 (h1.mono RTBaneTrip_mono leG8) hy10 rfl rfl rfl ?_
    rintro b11 o11 _ hcb11 _ ⟨⟩
    refine WL_val (rn_loadA ag82 (cs := [iV y10.Day, iV y10.From, iV y10.To, iV y10.Cost]) rfl rfl (fun j v hj => hS.sat.cell (hcb11.drop_take 0 4 j v hj))) rfl ?_; obtain ⟨y12, hy12, H⟩ := bnd H; refine WL_op rfl (OpP_callVF hf2.1 (hf2.2 _ _ leG8 hS.sat y10 _  hy12) rfl rfl rfl (fun w13 hb => ?_)); have hS := hS.keep hb; have hO := hO.below hb; refine WL_nil (WC_cond rfl (fun hb14 => ?_) (fun hb14 => ?_))
    ·have H := ifT hb14 H; refine WC_seq (WC_region ?_); refine wr 2 rfl ?_; refine WL_nil (WC_ret ?_); cases H
     have hres := hqq5 _ rfl
     subst hres; have H := Hoq5
     have H : some s3 = some r := H
     cases H
     exact ⟨rfl, hS.below⟩
    ·have H := ifF hb14 H; refine WC_skip (WC_region ?_); refine wr 2 rfl ?_; refine WL_nil ?_
     have hO : Owns _ _ _ [] := hO
     cases H; refine ⟨_, rfl, ?_⟩
     exact ⟨_, G8, upds_self _ _ ⟨rfl, rfl, rfl, rfl, trivial⟩, leG8, hS, hO⟩
   ·have H := ifF hb9 H; refine WC_exit rfl ?_
    have hO : Owns _ _ _ [] := hO
    cases H
    have hres := hqq5 _ rfl
    subst hres
    exact ⟨_, _, G8, rfl, rfl, leG8, hS, hO⟩
 ·rintro F w15 ⟨p4, Fb, G16, rfl, rfl, leG16, hS, hO⟩
  refine WC_seq (WC_region (WL_val (rn_assign (v := (iV (-1))) rfl) rfl (WL_nil (WC_ret ?_))))
  have H : some (-1) = some r := H
  cases H
  exact ⟨rfl, hS.below⟩
set_option maxHeartbeats 1000000 in
theorem f81_ok {G0 : Gm} {w0 : World} (hS0 : Sat G0 w0) {x0 : (List TBaneTrip)} {a1 : Option Addr} {n1 c1 : Nat} {x1 : (TBaneTrip → Option Bool)} {k2 : Nat} {fi2 ca2 : List Value} (h1 : RSl RTBaneTrip 4 G0 a1 n1 c1 x0) (hf2 : FnOk168 G0 k2 fi2 ca2 x1) {r : Bool} (H : f81 x0 x1 = some r) :
  Calls Tryz.prog 81 #[.slice a1 n1 c1, .func (.func k2) (fi2).toArray (ca2).toArray] w0 (RetV w0 (.bool r)) := by
 have hS := Since.start hS0
 have hO := own0 G0 w0
 unfold f81 at H
 refine enter1 (N := 9) (shutV _ _) Tryz.func81 rfl rfl rfl rfl (WC_seq (WC_region (WL_val (rn_assign (v := (.bool false)) rfl) rfl (WL_nil (WC_seq (WC_region ?_)))))); refine wr 2 rfl ?_; obtain ⟨y3, hy3, H⟩ := bnd H; refine WL_op rfl (OpP_callV cb165 (f165_ok (x0 := x0) (x1 := x1) hS.sat h1 hf2 hy3) rfl rfl (fun w4 hb => ?_)); have hS := hS.keep hb; have hO := hO.below hb; refine wr 2 rfl ?_; refine WL_nil (WC_ret ?_)
 have H : some (decide (0 ≤ y3)) = some r := H
 cases H
 exact ⟨rfl, hS.below⟩
set_option maxHeartbeats 1000000 in
theorem f82_ok {G0 : Gm} {w0 : World} (hS0 : Sat G0 w0) {x0 : TBaneTrip} {x1 : TBaneSea} {bq1 : Nat} {a1 : Option Addr} {n1 c1 : Nat} {a2 : Option Addr} {n2 c2 : Nat} {a3 : Option Addr} {n3 c3 : Nat} (hcq1 : Cells G0 bq1 0 [iV x1.Islets, .slice a1 n1 c1, .slice a2 n2 c2, .slice a3 n3 c3, iV x1.Wait]) (h1 : RSl RInt 1 G0 a1 n1 c1 x1.Infested) (h2 : RSl RInt 1 G0 a2 n2 c2 x1.Clean) (h3 : RSl RTBaneTrip 4 G0 a3 n3 c3 x1.Trips) {r : Bool} (H : f82 x0 x1 = some r) :
  Calls Tryz.prog 82 #[.agg #[iV x0.Day, iV x0.From, iV x0.To, iV x0.Cost], pV bq1] w0 (RetV w0 (.bool r)) := by
 have hS := Since.start hS0
 have hO := own0 G0 w0
 unfold f82 at H
 refine enter1 (N := 39) (shutV _ _) Tryz.func82 rfl rfl rfl rfl (WC_seq (WC_region (WL_op rfl (OpP_newF (v := fun b => pV b) (cs := [iV x0.Day, iV x0.From, iV x0.To, iV x0.Cost]) (e := 82) (rn_boxA rfl) hS.sat rfl (fun b4 G6 w5 hg hcb4 => ?_))))); have hS := hS.grow hg; have hO := hO.grow hg
 have leG6 := hg.le
 refine WL_val (rn_assign (v := (.bool false)) rfl) rfl (WL_nil (WC_seq ?_)); obtain ⟨q7, hq7, H⟩ := bnd H; refine WC_cut (fun F w => ∃ (Fb : Fr) (G : Gm), F = upds Fb [(3, .bool q7)] ∧ Gle G6 G ∧ SO G0 w0 G w []) ?_ ?_
 ·have Hoq7 := H; have H := hq7; refine WC_region (WL_run tabH (cellsW hS.sat hcb4) 2 [] rfl rfl an ?_); obtain ⟨y8, hy8, H⟩ := bnd H; refine WL_op rfl (OpP_callV cb79 (f79_ok (x0 := x0.Day) (x1 := 0) (x2 := 400) hS.sat  hy8) rfl rfl (fun w9 hb => ?_)); have hS := hS.keep hb; have hO := hO.below hb; refine wr 2 rfl ?_
  rcases bcases (!y8) with hb10 | hb10
  ·have H := ifT hb10 H; refine wk hb10 9 rfl rfl ?_; refine wr 22 rfl ?_; refine WL_nil ?_
   have hO : Owns _ _ _ [] := hO
   cases H
   exact ⟨_, G6, upds_self _ _ ⟨rfl, trivial⟩, Gle.refl _, hS, hO⟩
  ·have H := ifF hb10 H; refine WL_runK tabH (cellsW hS.sat hcb4) (kb hb10) 3 [] rfl rfl an (WL_runK tabH (cellsW (hS.sat.le leG6) hcq1) (kb hb10) 2 [] rfl rfl an (WL_guardY rfl hb10 rfl rfl ?_)); obtain ⟨y11, hy11, H⟩ := bnd H; refine WL_op rfl (OpP_callV cb79 (f79_ok (x0 := x0.From) (x1 := 0) (x2 := IntKind.i64.wrap (x1.Islets - 1)) hS.sat  hy11) rfl rfl (fun w12 hb => ?_)); have hS := hS.keep hb; have hO := hO.below hb; refine wk hb10 3 rfl rfl ?_
   rcases bcases (!y11) with hb13 | hb13
   ·have H := ifT hb13 H; refine wk hb13 9 rfl rfl ?_; refine wr 13 rfl ?_; refine WL_nil ?_
    have hO : Owns _ _ _ [] := hO
    cases H
    exact ⟨_, G6, upds_self _ _ ⟨rfl, trivial⟩, Gle.refl _, hS, hO⟩
   ·have H := ifF hb13 H; refine WL_runK tabH (cellsW hS.sat hcb4) (kb hb13) 3 [] rfl rfl an (WL_runK tabH (cellsW (hS.sat.le leG6) hcq1) (kb hb13) 2 [] rfl rfl an (WL_guardY rfl hb13 rfl rfl ?_)); obtain ⟨y14, hy14, H⟩ := bnd H; refine WL_op rfl (OpP_callV cb79 (f79_ok (x0 := x0.To) (x1 := 0) (x2 := IntKind.i64.wrap (x1.Islets - 1)) hS.sat  hy14) rfl rfl (fun w15 hb => ?_)); have hS := hS.keep hb; have hO := hO.below hb; refine wk hb13 3 rfl rfl ?_
    rcases bcases (!y14) with hb16 | hb16
    ·have H := ifT hb16 H; refine wk hb16 7 rfl rfl ?_; refine wr 6 rfl ?_; refine WL_nil ?_
     have hO : Owns _ _ _ [] := hO
     cases H
     exact ⟨_, G6, upds_self _ _ ⟨rfl, trivial⟩, Gle.refl _, hS, hO⟩
    ·have H := ifF hb16 H; refine WL_runK tabH (cellsW hS.sat hcb4) (kb hb16) 7 [] rfl rfl an ?_
     rcases bcases (x0.From == x0.To) with hb17 | hb17
     ·have H := ifT hb17 H; refine wk hb17 6 rfl rfl ?_; refine WL_nil ?_
      have hO : Owns _ _ _ [] := hO
      cases H
      exact ⟨_, G6, upds_self _ _ ⟨rfl, trivial⟩, Gle.refl _, hS, hO⟩
     ·have H := ifF hb17 H; refine WL_runK tabH (cellsW hS.sat hcb4) (kb hb17) 2 [] rfl rfl an (WL_guardY rfl hb17 rfl rfl ?_); obtain ⟨y18, hy18, H⟩ := bnd H; refine WL_op rfl (OpP_callV cb79 (f79_ok (x0 := x0.Cost) (x1 := 0) (x2 := 1000000) hS.sat  hy18) rfl rfl (fun w19 hb => ?_)); have hS := hS.keep hb; have hO := hO.below hb; refine wk hb17 3 rfl rfl ?_; refine WL_nil ?_
      have hO : Owns _ _ _ [] := hO
      cases H
      exact ⟨_, G6, upds_self _ _ ⟨rfl, trivial⟩, Gle.refl _, hS, hO⟩
 ·rintro F w20 ⟨Fb, G21, rfl, leG21, hS, hO⟩
  refine WC_ret ?_
  have H : some q7 = some r := H
  cases H
  exact ⟨rfl, hS.below⟩
set_option maxHeartbeats 1000000 in
theorem f22_ok {G0 : Gm} {w0 : World} (hS0 : Sat G0 w0) {x0 : TBaneSea} {a1 : Option Addr} {n1 c1 : Nat} {a2 : Option Addr} {n2 c2 : Nat} {a3 : Option Addr} {n3 c3 : Nat} (h1 : RSl RInt 1 G0 a1 n1 c1 x0.Infested) (h2 : RSl RInt 1 G0 a2 n2 c2 x0.Clean) (h3 : RSl RTBaneTrip 4 G0 a3 n3 c3 x0.Trips) {r : Bool} (H : f22 x0 = some r) :
  Calls Tryz.prog 22 #[.agg #[iV x0.Islets, .slice a1 n1 c1, .slice a2 n2 c2, .slice a3 n3 c3, iV x0.Wait]] w0 (RetV w0 (.bool r)) := by
 have hS := Since.start hS0
 have hO := own0 G0 w0
 unfold f22 at H
 refine enter1 (N := 38) (shutV _ _) Tryz.func22 rfl rfl rfl rfl (WC_seq (WC_region (WL_op rfl (OpP_newF (v := fun b => pV b) (cs := [iV x0.Islets, .slice a1 n1 c1, .slice a2 n2 c2, .slice a3 n3 c3, iV x0.Wait]) (e := 38) (rn_boxA rfl) hS.sat rfl (fun b4 G6 w5 hg hcb4 => ?_))))); have hS := hS.grow hg; have hO := hO.grow hg
 have leG6 := hg.le
 refine WL_val (rn_assign (v := (.bool false)) rfl) rfl (WL_nil (WC_seq ?_)); obtain ⟨q7, hq7, H⟩ := bnd H; refine WC_cut (fun F w => ∃ (Fb : Fr) (G : Gm), F = upds Fb [(2, .bool q7)] ∧ Gle G6 G ∧ SO G0 w0 G w []) ?_ ?_
 ·have Hoq7 := H; have H := hq7; refine WC_region (WL_run tabH (cellsW hS.sat hcb4) 2 [] rfl rfl an ?_); obtain ⟨y8, hy8, H⟩ := bnd H; refine WL_op rfl (OpP_callV cb79 (f79_ok (x0 := x0.Islets) (x1 := 1) (x2 := 8) hS.sat  hy8) rfl rfl (fun w9 hb => ?_)); have hS := hS.keep hb; have hO := hO.below hb; refine WL_val (rn_move (v := (.bool y8)) rfl) rfl ?_
  rcases bcases y8 with hb10 | hb10
  ·have H := ifT hb10 H; refine WL_runK tabH (cellsW hS.sat hcb4) (kb hb10) 4 [] rfl rfl an (WL_guardY rfl hb10 rfl rfl ?_); obtain ⟨y11, hy11, H⟩ := bnd H; refine WL_op rfl (OpP_callV cb80 (f80_ok (x0 := x0.Infested) (x1 := x0.Islets) hS.sat (h1.mono RInt_mono leG6) hy11) rfl rfl (fun w12 hb => ?_)); have hS := hS.keep hb; have hO := hO.below hb; refine wk hb10 2 rfl rfl ?_
   rcases bcases y11 with hb13 | hb13
   ·have H := ifT hb13 H; refine WL_runK tabH (cellsW hS.sat hcb4) (kb hb13) 4 [] rfl rfl an (WL_guardY rfl hb13 rfl rfl ?_); obtain ⟨y14, hy14, H⟩ := bnd H; refine WL_op rfl (OpP_callV cb80 (f80_ok (x0 := x0.Clean) (x1 := x0.Islets) hS.sat (h2.mono RInt_mono leG6) hy14) rfl rfl (fun w15 hb => ?_)); have hS := hS.keep hb; have hO := hO.below hb; refine wk hb13 2 rfl rfl ?_
    rcases bcases y14 with hb16 | hb16
    ·have H := ifT hb16 H; refine WL_runK tabH (cellsW hS.sat hcb4) (kb hb16) 6 [_] rfl rfl (ao (h3.mono RTBaneTrip_mono leG6).1 an) ?_
     rcases bcases (decide ((x0.Trips.length : Int) ≤ 9)) with hb17 | hb17
     ·have H := ifT hb17 H; refine WL_runK tabH (cellsW hS.sat hcb4) (kb hb17) 2 [] rfl rfl an (WL_guardY rfl hb17 rfl rfl ?_); obtain ⟨y18, hy18, H⟩ := bnd H; refine WL_op rfl (OpP_callV cb79 (f79_ok (x0 := x0.Wait) (x1 := 0) (x2 := 40) hS.sat  hy18) rfl rfl (fun w19 hb => ?_)); have hS := hS.keep hb; have hO := hO.below hb; refine wk hb17 2 rfl rfl ?_
      rcases bcases y18 with hb20 | hb20
      ·have H := ifT hb20 H; refine WL_runK tabH (cellsW hS.sat hcb4) (kb hb20) 2 [] rfl rfl an (WL_guardY rfl hb20 rfl rfl ?_)
       have hF21 : FnOk168 G6 82 [] [pV b4] (fun (z0 : TBaneTrip) => f82 z0 x0) := ⟨cb82, fun G1 W1 hl hw z0 r1 H1 => f82_ok (x0 := z0) (x1 := x0) hw (hcb4.mono hl) ((h1.mono RInt_mono leG6).mono RInt_mono hl) ((h2.mono RInt_mono leG6).mono RInt_mono hl) ((h3.mono RTBaneTrip_mono leG6).mono RTBaneTrip_mono hl) H1⟩
       refine WL_val (rn_func (vs := []) (us := [pV b4]) rfl rfl) rfl (WL_guardY rfl hb20 rfl rfl ?_); obtain ⟨y22, hy22, H⟩ := bnd H; refine WL_op rfl (OpP_callV cb81 (f81_ok (x0 := x0.Trips) (x1 := (fun (z0 : TBaneTrip) => f82 z0 x0)) hS.sat (h3.mono RTBaneTrip_mono leG6) hF21 hy22) rfl rfl (fun w23 hb => ?_)); have hS := hS.keep hb; have hO := hO.below hb; refine wk hb20 3 rfl rfl ?_; refine WL_nil ?_
       have hO : Owns _ _ _ [] := hO
       cases H
       exact ⟨_, G6, upds_self _ _ ⟨rfl, trivial⟩, Gle.refl _, hS, hO⟩
      ·have H := ifF hb20 H; refine wk hb20 7 rfl rfl ?_; refine WL_nil ?_
       have hO : Owns _ _ _ [] := hO
       cases H
       exact ⟨_, G6, upds_self _ _ ⟨rfl, trivial⟩, Gle.refl _, hS, hO⟩
     ·have H := ifF hb17 H; refine wk hb17 5 rfl rfl ?_; refine wr 7 rfl ?_; refine WL_nil ?_
      have hO : Owns _ _ _ [] := hO
      cases H
      exact ⟨_, G6, upds_self _ _ ⟨rfl, trivial⟩, Gle.refl _, hS, hO⟩
    ·have H := ifF hb16 H; refine wk hb16 6 rfl rfl ?_; refine wr 12 rfl ?_; refine WL_nil ?_
     have hO : Owns _ _ _ [] := hO
     cases H
     exact ⟨_, G6, upds_self _ _ ⟨rfl, trivial⟩, Gle.refl _, hS, hO⟩
   ·have H := ifF hb13 H; refine wk hb13 7 rfl rfl ?_; refine wr 18 rfl ?_; refine WL_nil ?_
    have hO : Owns _ _ _ [] := hO
    cases H
    exact ⟨_, G6, upds_self _ _ ⟨rfl, trivial⟩, Gle.refl _, hS, hO⟩
  ·have H := ifF hb10 H; refine wk hb10 7 rfl rfl ?_; refine wr 25 rfl ?_; refine WL_nil ?_
   have hO : Owns _ _ _ [] := hO
   cases H
   exact ⟨_, G6, upds_self _ _ ⟨rfl, trivial⟩, Gle.refl _, hS, hO⟩
 ·rintro F w24 ⟨Fb, G25, rfl, leG25, hS, hO⟩
  refine WC_ret ?_
  have H : some q7 = some r := H
  cases H
  exact ⟨rfl, hS.below⟩
set_option maxHeartbeats 1000000 in
theorem f27_ok {G0 : Gm} {w0 : World} (hS0 : Sat G0 w0) {x0 : Int} {x1 : Int} {x2 : Int}  {r : Bool} (H : f27 x0 x1 x2 = some r) :
  Calls Tryz.prog 27 #[iV x0, iV x1, iV x2] w0 (RetV w0 (.bool r)) := by
 have hS := Since.start hS0
 have hO := own0 G0 w0
 unfold f27 at H
 refine enter1 (N := 15) (shutV _ _) Tryz.func27 rfl rfl rfl rfl (WC_seq (WC_region (WL_val (rn_assign (v := (.bool false)) rfl) rfl (WL_nil (WC_seq ?_))))); obtain ⟨q1, hq1, H⟩ := bnd H; refine WC_cut (fun F w => ∃ (Fb : Fr), F = upds Fb [(6, .bool q1)] ∧ w0 = w) ?_ ?_
 ·have Hoq1 := H; have H := hq1; refine WC_region ?_; refine wr 4 rfl ?_
  rcases bcases (decide (x1 ≤ x0)) with hb2 | hb2
  ·have H := ifT hb2 H; refine wk hb2 5 rfl rfl ?_; refine WL_nil ?_; cases H
   exact ⟨_, upds_self _ _ ⟨rfl, trivial⟩, rfl⟩
  ·have H := ifF hb2 H; refine wk hb2 5 rfl rfl ?_; refine WL_nil ?_; cases H
   exact ⟨_, upds_self _ _ ⟨rfl, trivial⟩, rfl⟩
 ·rintro F wl ⟨Fb, rfl, rfl⟩
  refine WC_ret ?_
  have H : some q1 = some r := H
  cases H
  exact ⟨rfl, hS.below⟩
set_option maxHeartbeats 1000000 in
theorem f7_ok {G0 : Gm} {w0 : World} (hS0 : Sat G0 w0) {x0 : (List Int)} {a1 : Option Addr} {n1 c1 : Nat} {x1 : Int} (h1 : RSl RInt 1 G0 a1 n1 c1 x0) {r : Bool} (H : f7 x0 x1 = some r) :
  Calls Tryz.prog 7 #[.slice a1 n1 c1, iV x1] w0 (RetV w0 (.bool r)) := by
 have hS := Since.start hS0
 have hO := own0 G0 w0
 unfold f7 at H
 refine enter1 (N := 36) (shutV _ _) Tryz.func7 rfl rfl rfl rfl (WC_seq (WC_region (WL_val (rn_assign (v := (.bool false)) rfl) rfl (WL_nil (WC_seq (WC_seq (WC_region (WL_val (rn_assign (v := (iV 0)) rfl) rfl (WL_nil ?_))))))))); obtain ⟨q4, hq4, H⟩ := bnd H; refine WC_cut (fun F w => ∃ (p3 : Unit) (Fb : Fr) (G : Gm), q4 = .inl p3 ∧ F = upds Fb [] ∧ Gle G0 G ∧ SO G0 w0 G w []) ?_ ?_
 ·refine WC_block (WC_loop hq4 (fun s2 F w => ∃ (Fb : Fr) (G : Gm), F = upds Fb [(0, .slice a1 n1 c1), (1, iV x1), (5, iV s2)] ∧ Gle G0 G ∧ SO G0 w0 G w []) ?_ ?_)
  ·have hO : Owns _ _ _ [] := hO
   exact ⟨_, G0, upds_self _ _ ⟨rfl, rfl, rfl, trivial⟩, Gle.refl _, hS, hO⟩
  ·rintro s2 F w6 t5 ⟨Fb, G7, rfl, leG7, hS, hO⟩
   intro H1 hqq4
   have Hoq4 := H; have H := H1
   unfold f7_b0 at H
   refine WC_seq (WC_seq (WC_region (WL_run tabH (cells0 _) 4 [_] rfl rfl (ao (h1.mono RInt_mono leG7).1 an) (WL_nil (WC_cond rfl (fun hb8 => ?_) (fun hb8 => ?_))))))
   ·have H := ifT hb8 H; refine WC_skip (WC_seq (WC_block (WC_seq ?_))); obtain ⟨q9, hq9, H⟩ := bnd H; refine WC_cut (fun F w => ∃ (Fb : Fr) (G : Gm), F = upds Fb [(0, .slice a1 n1 c1), (1, iV x1), (5, iV s2), (35, .bool q9)] ∧ Gle G7 G ∧ SO G0 w0 G w []) ?_ ?_
    ·have Hoq9 := H; have H := hq9; have hS := hS.keep (below_drew _); have hO := hO.below (below_drew _)
     refine WC_regionD mixedO (fun _ w => Sat G7 w ∧ True) (.fl 0 (.fl 1 (.fl 2 (.fl 3 (.on 4 (.on 5 (.on 6 (.on 7 (.on 8 (.on 9 (.on 10 (.on 11 (.fl 12 (.fl 13 (.fl 14 (.fl 15 (.fl 16 (.on 17 (.on 18 (.on 19 (.on 20 (.on 21 (.on 22 (.on 23 .nil)))))))))))))))))))))))) (by kernel_rfl) rfl (by kernel_rfl) (fun _ => ⟨hS.sat, trivial⟩) ?_
     refine WD_val rfl (fun w hw => rn_move (v := (.slice a1 n1 c1)) rfl) rfl (WD_val rfl (fun w hw => rn_move (v := (iV s2)) rfl) rfl ?_); obtain ⟨y10, hy10, H⟩ := bnd H; refine WD_idx rfl sl24 (h1.mono RInt_mono leG7) hy10 rfl rfl rfl ?_
     rintro b11 o11 _ hcb11 _ ⟨⟩
     refine WD_val rfl (fun w hw => rn_load na3 rfl (hw.1.cell (hcb11 0 _ rfl))) rfl (WD_op rfl rfl (OpP_val (rn_move (v := (iV x1)) rfl) rfl ?_)); refine ⟨fun _ _ => ⟨hS.sat, trivial⟩, ?_⟩; refine WD_op rfl rfl (OpP_val (rn_sub rfl rfl) rfl ?_); refine ⟨fun _ _ => ⟨hS.sat, trivial⟩, ?_⟩; obtain ⟨y12, hy12, H⟩ := bnd H; refine WD_op rfl rfl (OpP_callV cb27 (f27_ok (x0 := y10) (x1 := 0) (x2 := IntKind.i64.wrap (x1 - 1)) hS.sat  hy12) rfl rfl (fun w13 hb => ?_)); have hS := hS.keep hb; have hO := hO.below hb; refine ⟨fun _ _ => ⟨hS.sat, trivial⟩, ?_⟩; refine WD_op rfl rfl (OpP_val (rn_not rfl) rfl ?_); refine ⟨fun _ _ => ⟨hS.sat, trivial⟩, ?_⟩; refine WD_op rfl rfl (OpP_val (rn_move (v := (.bool (!y12))) rfl) rfl ?_); refine ⟨fun _ _ => ⟨hS.sat, trivial⟩, ?_⟩
     rcases bcases (!y12) with hb14 | hb14
     ·have H := ifT hb14 H; refine WD_skipS rfl rfl hb14 rfl rfl rfl (fun _ _ => ⟨hS.sat, trivial⟩) (WD_skipS rfl rfl hb14 rfl rfl rfl (fun _ _ => ⟨hS.sat, trivial⟩) (WD_skipS rfl rfl hb14 rfl rfl rfl (fun _ _ => ⟨hS.sat, trivial⟩) (WD_undefN rfl rfl rfl rfl rfl (WD_undefN rfl rfl rfl rfl rfl (WD_undefN rfl rfl rfl rfl rfl (WD_undefN rfl rfl rfl rfl rfl (WD_undefN rfl rfl rfl rfl rfl (WD_undefS rfl rfl rfl rfl rfl (fun _ _ => ⟨hS.sat, trivial⟩) (WD_undefS rfl rfl rfl rfl rfl (fun _ _ => ⟨hS.sat, trivial⟩) (WD_undefS rfl rfl rfl rfl rfl (fun _ _ => ⟨hS.sat, trivial⟩) (WD_undefS rfl rfl rfl rfl rfl (fun _ _ => ⟨hS.sat, trivial⟩) ?_)))))))))))
      refine WD_undefS rfl rfl rfl rfl rfl (fun _ h => noneed (by kernel_rfl) h) ?_
      refine WD_skipS rfl rfl hb14 rfl rfl rfl (fun _ h => noneed (by kernel_rfl) h) ?_
      refine WD_op rfl rfl (OpP_val (rn_pickT (v := (.bool true)) rfl hb14 rfl) rfl ?_)
      refine ⟨fun _ h => noneed (by kernel_rfl) h, ?_⟩
      refine WD_nil ?_
      have hO : Owns _ _ _ [] := hO
      cases H
      exact ⟨_, G7, upds_self _ _ ⟨rfl, rfl, rfl, rfl, trivial⟩, Gle.refl _, hS, hO⟩
     ·have H := ifF hb14 H; refine WD_opY rfl rfl rfl hb14 rfl rfl (OpP_val (rn_move (v := (iV s2)) rfl) rfl ?_); refine ⟨fun _ _ => ⟨hS.sat, trivial⟩, ?_⟩; refine WD_opY rfl rfl rfl hb14 rfl rfl (OpP_val (rn_gtr rfl rfl) rfl ?_); refine ⟨fun _ _ => ⟨hS.sat, trivial⟩, ?_⟩; refine WD_opY rfl rfl rfl hb14 rfl rfl (OpP_val (rn_move (v := (.bool (decide (0 < s2)))) rfl) rfl ?_); refine ⟨fun _ _ => ⟨hS.sat, trivial⟩, ?_⟩
      rcases bcases (decide (0 < s2)) with hb15 | hb15
      ·have H := ifT hb15 H; refine WD_valY rfl rfl hb15 rfl rfl (fun w hw => rn_move (v := (.slice a1 n1 c1)) rfl) rfl (WD_valY rfl rfl hb15 rfl rfl (fun w hw => rn_move (v := (iV s2)) rfl) rfl (WD_idxY rfl rfl hb15 rfl rfl sl24 (h1.mono RInt_mono leG7) hy10 rfl rfl rfl ?_))
       rintro b16 o16 _ hcb16 _ ⟨⟩
       refine WD_valY rfl rfl hb15 rfl rfl (fun w hw => rn_load na3 rfl (hw.1.cell (hcb16 0 _ rfl))) rfl (WD_valY rfl rfl hb15 rfl rfl (fun w hw => rn_move (v := (.slice a1 n1 c1)) rfl) rfl (WD_opY rfl rfl rfl hb15 rfl rfl (OpP_val (rn_move (v := (iV s2)) rfl) rfl ?_))); refine ⟨fun _ _ => ⟨hS.sat, trivial⟩, ?_⟩; refine WD_opY rfl rfl rfl hb15 rfl rfl (OpP_val (rn_sub rfl rfl) rfl ?_); refine ⟨fun _ _ => ⟨hS.sat, trivial⟩, ?_⟩; obtain ⟨y17, hy17, H⟩ := bnd H; refine WD_opY rfl rfl rfl hb15 rfl rfl (OpP_idx sl24 (h1.mono RInt_mono leG7) hy17 rfl rfl rfl ?_)
       rintro b18 o18 _ hcb18 _ ⟨⟩
       refine ⟨fun _ _ => ⟨hS.sat, trivial⟩, ?_⟩; refine WD_opY rfl rfl rfl hb15 rfl rfl (OpP_val (rn_load na3 rfl (hS.sat.cell (hcb18 0 _ rfl))) rfl ?_); refine ⟨fun _ _ => ⟨hS.sat, trivial⟩, ?_⟩; refine WD_opY rfl rfl rfl hb15 rfl rfl (OpP_val (rn_leq rfl rfl) rfl ?_)
       refine ⟨fun _ h => noneed (by kernel_rfl) h, ?_⟩
       refine WD_opY rfl rfl rfl hb14 rfl rfl (OpP_val (rn_pickT (v := (.bool (decide (y10 ≤ y17)))) rfl hb15 rfl) rfl ?_)
       refine ⟨fun _ h => noneed (by kernel_rfl) h, ?_⟩
       refine WD_op rfl rfl (OpP_val (rn_pickF (v := (.bool (decide (y10 ≤ y17)))) rfl hb14 rfl) rfl ?_)
       refine ⟨fun _ h => noneed (by kernel_rfl) h, ?_⟩
       refine WD_nil ?_
       have hO : Owns _ _ _ [] := hO
       cases H
       exact ⟨_, G7, upds_self _ _ ⟨rfl, rfl, rfl, rfl, trivial⟩, Gle.refl _, hS, hO⟩
      ·have H := ifF hb15 H; refine WD_skip rfl rfl hb15 rfl rfl rfl (WD_skip rfl rfl hb15 rfl rfl rfl (WD_skip rfl rfl hb15 rfl rfl rfl (WD_skip rfl rfl hb15 rfl rfl rfl (WD_skip rfl rfl hb15 rfl rfl rfl (WD_skipS rfl rfl hb15 rfl rfl rfl (fun _ _ => ⟨hS.sat, trivial⟩) (WD_skipS rfl rfl hb15 rfl rfl rfl (fun _ _ => ⟨hS.sat, trivial⟩) (WD_skipS rfl rfl hb15 rfl rfl rfl (fun _ _ => ⟨hS.sat, trivial⟩) (WD_skipS rfl rfl hb15 rfl rfl rfl (fun _ _ => ⟨hS.sat, trivial⟩) ?_))))))))
       refine WD_skipS rfl rfl hb15 rfl rfl rfl (fun _ h => noneed (by kernel_rfl) h) ?_
       refine WD_opY rfl rfl rfl hb14 rfl rfl (OpP_val (rn_pickF (v := (.bool false)) rfl hb15 rfl) rfl ?_)
       refine ⟨fun _ h => noneed (by kernel_rfl) h, ?_⟩
       refine WD_op rfl rfl (OpP_val (rn_pickF (v := (.bool false)) rfl hb14 rfl) rfl ?_)
       refine ⟨fun _ h => noneed (by kernel_rfl) h, ?_⟩
       refine WD_nil ?_
       have hO : Owns _ _ _ [] := hO
       cases H
       exact ⟨_, G7, upds_self _ _ ⟨rfl, rfl, rfl, rfl, trivial⟩, Gle.refl _, hS, hO⟩
    ·rintro F w19 ⟨Fb, G20, rfl, leG20, hS, hO⟩
     refine WC_cond rfl (fun hb21 => ?_) (fun hb21 => ?_)
     ·have H := ifT hb21 H; refine WC_seq (WC_region (WL_val (rn_assign (v := (.bool false)) rfl) rfl (WL_nil (WC_ret ?_)))); cases H
      have hres := hqq4 _ rfl
      subst hres; have H := Hoq4
      have H : some false = some r := H
      cases H
      exact ⟨rfl, hS.below⟩
     ·have H := ifF hb21 H; refine WC_skip (WC_region ?_); refine wr 3 rfl ?_; refine WL_nil ?_
      have hO : Owns _ _ _ [] := hO
      cases H; refine ⟨_, rfl, ?_⟩
      have l0_2 := leG7.trans leG20
      exact ⟨_, G20, upds_self _ _ ⟨rfl, rfl, rfl, trivial⟩, l0_2, hS, hO⟩
   ·have H := ifF hb8 H; refine WC_exit rfl ?_
    have hO : Owns _ _ _ [] := hO
    cases H
    have hres := hqq4 _ rfl
    subst hres
    exact ⟨_, _, G7, rfl, rfl, leG7, hS, hO⟩
 ·rintro F w22 ⟨p3, Fb, G23, rfl, rfl, leG23, hS, hO⟩
  refine WC_seq (WC_region (WL_val (rn_assign (v := (.bool true)) rfl) rfl (WL_nil (WC_ret ?_))))
  have H : some true = some r := H
  cases H
  exact ⟨rfl, hS.below⟩
set_option maxHeartbeats 1000000 in
theorem f83_ok {G0 : Gm} {w0 : World} (hS0 : Sat G0 w0) {x0 : Int} {x1 : Int}  {r : (List Int)} (H : f83 x0 x1 = some r) :
  Calls Tryz.prog 83 #[iV x0, iV x1] w0 (RetG G0 w0 (fun G v => ∃ (ra0 : Option Addr) (rn0 rc0 : Nat), v = .slice ra0 rn0 rc0 ∧ RSl RInt 1 G ra0 rn0 rc0 r)) := by
 have hS := Since.start hS0
 have hO := own0 G0 w0
 unfold f83 at H
 refine enter1 (N := 22) (shutG _ _ _) Tryz.func83 rfl rfl rfl rfl (WC_seq (WC_region (WL_val (rn_assign (v := (.slice none 0 0)) rfl) rfl (WL_nil (WC_seq (WC_region (WL_val (rn_assign (v := (.slice none 0 0)) rfl) rfl (WL_nil (WC_seq (WC_seq (WC_region ?_))))))))))); refine wr 2 rfl ?_; refine WL_nil ?_; have hO := hO.cons_nil 3 1; obtain ⟨q4, hq4, H⟩ := bnd H; refine WC_cut (fun F w => ∃ (Fb : Fr) (G : Gm) (aq4_0 : Option Addr) (nq4_0 cq4_0 : Nat) (claq4_0 : List Value), F = upds Fb [(5, .slice aq4_0 nq4_0 cq4_0)] ∧ Gle G0 G ∧ Since w0.heap.size G0 w0 G w ∧ Owns G w w0.heap.size [⟨3, 1, nq4_0, .slice aq4_0 nq4_0 cq4_0, claq4_0⟩] ∧ nq4_0 = q4.length ∧ Rd RInt 1 G claq4_0 q4) ?_ ?_
 ·refine WC_block (WC_loop hq4 (fun s2 F w => ∃ (Fb : Fr) (G : Gm) (as2_0 : Option Addr) (ns2_0 cs2_0 : Nat) (clas2_0 : List Value), F = upds Fb [(0, iV x0), (5, .slice as2_0 ns2_0 cs2_0), (7, iV x1), (8, iV s2.2)] ∧ Gle G0 G ∧ Since w0.heap.size G0 w0 G w ∧ Owns G w w0.heap.size [⟨3, 1, ns2_0, .slice as2_0 ns2_0 cs2_0, clas2_0⟩] ∧ ns2_0 = s2.1.length ∧ Rd RInt 1 G clas2_0 s2.1) ?_ ?_)
  ·have hO : Owns G0 w0 w0.heap.size ([⟨3, 1, 0, .slice none 0 0, []⟩]) := hO
   exact ⟨_, G0, none, 0, 0, [], upds_self _ _ ⟨rfl, rfl, rfl, rfl, trivial⟩, Gle.refl _, hS, hO, rfl, (Rd.nil RInt 1 G0)⟩
  ·rintro s2 F w6 t5 ⟨Fb, G7, as2_0, ns2_0, cs2_0, clas2_0, rfl, leG7, hS, hO, hnhs2_0, hs2_0⟩
   intro H1 hqq4
   have Hoq4 := H; have H := H1
   unfold f83_b0 at H
   refine WC_seq (WC_region (WL_val (rn_lss rfl rfl) rfl (WL_nil (WC_seq (WC_cond rfl (fun hb8 => ?_) (fun hb8 => ?_))))))
   ·have H := ifT hb8 H; refine WC_skip (WC_seq ?_); obtain ⟨q9, hq9, H⟩ := bnd H; refine WC_cut (fun F w => ∃ (Fb : Fr) (G : Gm) (aq9_0 : Option Addr) (nq9_0 cq9_0 : Nat) (claq9_0 : List Value), F = upds Fb [(0, iV x0), (5, .slice aq9_0 nq9_0 cq9_0), (7, iV x1), (8, iV s2.2)] ∧ Gle G7 G ∧ Since w0.heap.size G0 w0 G w ∧ Owns G w w0.heap.size [⟨3, 1, nq9_0, .slice aq9_0 nq9_0 cq9_0, claq9_0⟩] ∧ nq9_0 = q9.length ∧ Rd RInt 1 G claq9_0 q9) ?_ ?_
    ·have Hoq9 := H; have H := hq9; refine WC_block (WC_seq (WC_region ?_)); refine wr 2 rfl ?_; refine WL_nil (WC_seq (WC_region ?_)); refine wr 2 rfl ?_; obtain ⟨y10, hy10, H⟩ := bnd H; refine WL_val (rn_shr rfl rfl hy10) rfl (WL_val (rn_and rfl rfl) rfl (WL_val (rn_eql rfl rfl) rfl (WL_nil (WC_cond rfl (fun hb11 => ?_) (fun hb11 => ?_)))))
     ·have H := ifT hb11 H; refine WC_region ?_; refine wr 2 rfl ?_
      refine WL_op rfl (OpP_newF (v := fun b => .slice (some ⟨b, 0, none⟩) 1 1) (cs := [iV s2.2]) (e := 3) (by kernel_rfl) hS.sat rfl (fun b12 G14 w13 hg hcb12 => ?_))
      have hS := hS.grow hg; have hO := hO.grow hg
      have leG14 := hg.le
      have hfb12 : RSl RInt 1 G14 (some ⟨b12, 0, none⟩) 1 1 [s2.2] := RSl.of_rd hcb12 (Rd.cons (c := [iV s2.2]) rfl rfl (Rd.nil RInt 1 _)) rfl (by decide)
      obtain ⟨y15, hy15, H⟩ := bnd H; refine WL_op rfl (OpP_append (k := 0) sl24 RInt_one hS hO rfl hnhs2_0 (hs2_0.mono RInt_mono leG14) hfb12 hy15 rfl rfl rfl rfl rfl (fun aw16 cw16 w16 clw16 hS hO hrw16 => ?_))
      have hO : Owns G14 w16 w0.heap.size ([⟨3, 1, y15.length, .slice aw16 y15.length cw16, clw16⟩]) := hO
      refine WL_val (rn_assign (v := (.slice aw16 y15.length cw16)) rfl) rfl (WL_nil ?_)
      have hO : Owns G14 w16 w0.heap.size ([⟨3, 1, y15.length, .slice aw16 y15.length cw16, clw16⟩]) := hO
      have H := Option.some.inj H; subst H
      exact ⟨_, G14, aw16, y15.length, cw16, clw16, upds_self _ _ ⟨rfl, rfl, rfl, rfl, trivial⟩, leG14, hS, hO, rfl, hrw16⟩
     ·have H := ifF hb11 H; refine WC_skip ?_
      have hO : Owns G7 w6 w0.heap.size ([⟨3, 1, ns2_0, .slice as2_0 ns2_0 cs2_0, clas2_0⟩]) := hO
      cases H
      exact ⟨_, G7, as2_0, ns2_0, cs2_0, clas2_0, upds_self _ _ ⟨rfl, rfl, rfl, rfl, trivial⟩, Gle.refl _, hS, hO, hnhs2_0, hs2_0⟩
    ·rintro F w17 ⟨Fb, G18, aq9_0, nq9_0, cq9_0, claq9_0, rfl, leG18, hS, hO, hnhq9_0, hq9_0⟩
     refine WC_region ?_; refine wr 2 rfl ?_; refine WL_nil ?_
     have hO : Owns G18 w17 w0.heap.size ([⟨3, 1, nq9_0, .slice aq9_0 nq9_0 cq9_0, claq9_0⟩]) := hO
     cases H; refine ⟨_, rfl, ?_⟩
     have l0_2 := leG7.trans leG18
     exact ⟨_, G18, aq9_0, nq9_0, cq9_0, claq9_0, upds_self _ _ ⟨rfl, rfl, rfl, rfl, trivial⟩, l0_2, hS, hO, hnhq9_0, hq9_0⟩
   ·have H := ifF hb8 H; refine WC_exit rfl ?_
    have hO : Owns G7 w6 w0.heap.size ([⟨3, 1, ns2_0, .slice as2_0 ns2_0 cs2_0, clas2_0⟩]) := hO
    cases H
    have hres := hqq4 _ rfl
    subst hres
    exact ⟨_, G7, as2_0, ns2_0, cs2_0, clas2_0, upds_self _ _ ⟨rfl, trivial⟩, leG7, hS, hO, hnhs2_0, hs2_0⟩
 ·rintro F w19 ⟨Fb, G20, aq4_0, nq4_0, cq4_0, claq4_0, rfl, leG20, hS, hO, hnhq4_0, hq4_0⟩
  refine WC_seq (WC_region ?_); refine wr 2 rfl ?_; refine WL_nil (WC_ret ?_); obtain ⟨G21, leG21, hS, hO, hfG21⟩ := hO.freezeS hS RInt_mono (k := 0) rfl hq4_0 hnhq4_0
  have H : some q4 = some r := H
  cases H
  exact ⟨_, _, rfl, hS.toGrow, _, _, _, rfl, hfG21⟩
set_option maxHeartbeats 1000000 in
theorem f166_ok {G0 : Gm} {w0 : World} (hS0 : Sat G0 w0) {x0 : (List Int)} {a1 : Option Addr} {n1 c1 : Nat} (h1 : RSl RInt 1 G0 a1 n1 c1 x0) {r : Int} (H : f166 x0 = some r) :
  Calls Tryz.prog 166 #[.slice a1 n1 c1] w0 (RetV w0 (iV r)) := by
 have hS := Since.start hS0
 have hO := own0 G0 w0
 unfold f166 at H
 refine enter1 (N := 18) (shutV _ _) Tryz.func166 rfl rfl rfl rfl (WC_seq (WC_region (WL_val (rn_assign (v := (iV 0)) rfl) rfl (WL_nil (WC_seq (WC_region (WL_val (rn_assign (v := (iV 0)) rfl) rfl (WL_nil (WC_seq (WC_seq (WC_region (WL_run tabH (cells0 _) 3 [_] rfl rfl (ao h1.1 an) (WL_nil ?_))))))))))))); obtain ⟨q4, hq4, H⟩ := bnd H; refine WC_cut (fun F w => ∃ (p3 : Unit) (Fb : Fr), q4 = .inl p3 ∧ F = upds Fb [(3, iV 0)] ∧ w0 = w) ?_ ?_
 ·refine WC_block (WC_loop hq4 (fun s2 F w => ∃ (Fb : Fr), F = upds Fb [(3, iV 0), (6, .slice a1 n1 c1), (7, iV (x0.length : Int)), (8, iV s2)] ∧ w0 = w) ?_ ?_)
  ·exact ⟨_, upds_self _ _ ⟨rfl, rfl, rfl, rfl, trivial⟩, rfl⟩
  ·rintro s2 F wl t5 ⟨Fb, rfl, rfl⟩
   intro H1 hqq4
   have Hoq4 := H; have H := H1
   unfold f166_b0 at H
   refine WC_seq (WC_region (WL_val (rn_lss rfl rfl) rfl (WL_nil (WC_seq (WC_cond rfl (fun hb8 => ?_) (fun hb8 => ?_))))))
   ·have H := ifT hb8 H; refine WC_skip (WC_seq (WC_block (WC_seq (WC_region ?_)))); obtain ⟨y9, hy9, H⟩ := bnd H; refine WL_idx sl24 h1 hy9 rfl rfl rfl ?_
    rintro b10 o10 _ hcb10 _ ⟨⟩
    refine WL_val (rn_load na3 rfl (hS.sat.cell (hcb10 0 _ rfl))) rfl (WL_val (rn_assign (v := (iV y9)) rfl) rfl (WL_nil (WC_seq (WC_region ?_)))); refine wr 3 rfl ?_; refine WL_nil (WC_cond rfl (fun hb11 => ?_) (fun hb11 => ?_))
    ·have H := ifT hb11 H; refine WC_seq (WC_region ?_); refine wr 2 rfl ?_; refine WL_nil (WC_ret ?_); cases H
     have hres := hqq4 _ rfl
     subst hres; have H := Hoq4
     have H : some y9 = some r := H
     cases H
     exact ⟨rfl, hS.below⟩
    ·have H := ifF hb11 H; refine WC_skip (WC_region ?_); refine wr 2 rfl ?_; refine WL_nil ?_; cases H; refine ⟨_, rfl, ?_⟩
     exact ⟨_, upds_self _ _ ⟨rfl, rfl, rfl, rfl, trivial⟩, rfl⟩
   ·have H := ifF hb8 H; refine WC_exit rfl ?_; cases H
    have hres := hqq4 _ rfl
    subst hres
    exact ⟨_, _, rfl, upds_self _ _ ⟨rfl, trivial⟩, rfl⟩
 ·rintro F wl ⟨p3, Fb, rfl, rfl, rfl⟩
  refine WC_seq (WC_region ?_); refine wr 2 rfl ?_; refine WL_nil (WC_ret ?_)
  have H : some 0 = some r := H
  cases H
  exact ⟨rfl, hS.below⟩
set_option maxHeartbeats 1000000 in
theorem f205_ok {G0 : Gm} {w0 : World} (hS0 : Sat G0 w0) {x0 : Int}  {r : Bool} (H : f205 x0 = some r) :
  Calls Tryz.prog 205 #[iV x0] w0 (RetV w0 (.bool r)) := by
 have hS := Since.start hS0
 have hO := own0 G0 w0
 unfold f205 at H
 refine enter1 (N := 6) (shutV _ _) Tryz.func205 rfl rfl rfl rfl (WC_seq (WC_region (WL_val (rn_assign (v := (.bool false)) rfl) rfl (WL_nil (WC_seq (WC_region ?_)))))); refine wr 4 rfl ?_; refine WL_nil (WC_ret ?_)
 have H : some (x0 != x0) = some r := H
 cases H
 exact ⟨rfl, hS.below⟩
set_option maxHeartbeats 1000000 in
theorem f167_ok {G0 : Gm} {w0 : World} (hS0 : Sat G0 w0) {x0 : Int} {x1 : Int}  {r : Int} (H : f167 x0 x1 = some r) :
  Calls Tryz.prog 167 #[iV x0, iV x1] w0 (RetV w0 (iV r)) := by
 have hS := Since.start hS0
 have hO := own0 G0 w0
 unfold f167 at H
 refine enter1 (N := 20) (shutV _ _) Tryz.func167 rfl rfl rfl rfl (WC_seq (WC_region (WL_val (rn_assign (v := (iV 0)) rfl) rfl (WL_nil (WC_seq (WC_region (WL_val (rn_move (v := (iV x0)) rfl) rfl ?_))))))); obtain ⟨y1, hy1, H⟩ := bnd H; refine WL_op rfl (OpP_callV cb205 (f205_ok (x0 := x0) hS.sat  hy1) rfl rfl (fun w2 hb => ?_)); have hS := hS.keep hb; have hO := hO.below hb; refine WL_val (rn_assign (v := (.bool y1)) rfl) rfl (WL_nil (WC_seq (WC_region (WL_val (rn_move (v := (iV x1)) rfl) rfl ?_)))); obtain ⟨y3, hy3, H⟩ := bnd H; refine WL_op rfl (OpP_callV cb205 (f205_ok (x0 := x1) hS.sat  hy3) rfl rfl (fun w4 hb => ?_)); have hS := hS.keep hb; have hO := hO.below hb; refine WL_val (rn_assign (v := (.bool y3)) rfl) rfl (WL_nil (WC_seq (WC_seq (WC_region (WL_val (rn_move (v := (.bool y1)) rfl) rfl (WL_nil (WC_cond rfl (fun hb5 => ?_) (fun hb5 => ?_))))))))
 ·have H := ifT hb5 H; refine WC_seq (WC_seq (WC_region (WL_val (rn_move (v := (.bool y3)) rfl) rfl (WL_nil (WC_cond rfl (fun hb6 => ?_) (fun hb6 => ?_))))))
  ·have H := ifT hb6 H; refine WC_seq (WC_region (WL_val (rn_assign (v := (iV 0)) rfl) rfl (WL_nil (WC_ret ?_))))
   have H : some 0 = some r := H
   cases H
   exact ⟨rfl, hS.below⟩
  ·have H := ifF hb6 H; refine WC_skip (WC_seq (WC_region (WL_val (rn_assign (v := (iV (-1))) rfl) rfl (WL_nil (WC_ret ?_)))))
   have H : some (-1) = some r := H
   cases H
   exact ⟨rfl, hS.below⟩
 ·have H := ifF hb5 H; refine WC_skip (WC_seq (WC_seq (WC_region (WL_val (rn_move (v := (.bool y3)) rfl) rfl (WL_nil (WC_cond rfl (fun hb7 => ?_) (fun hb7 => ?_)))))))
  ·have H := ifT hb7 H; refine WC_seq (WC_region (WL_val (rn_assign (v := (iV 1)) rfl) rfl (WL_nil (WC_ret ?_))))
   have H : some 1 = some r := H
   cases H
   exact ⟨rfl, hS.below⟩
  ·have H := ifF hb7 H; refine WC_skip (WC_seq (WC_seq (WC_region ?_))); refine wr 3 rfl ?_; refine WL_nil (WC_cond rfl (fun hb8 => ?_) (fun hb8 => ?_))
   ·have H := ifT hb8 H; refine WC_seq (WC_region (WL_val (rn_assign (v := (iV (-1))) rfl) rfl (WL_nil (WC_ret ?_))))
    have H : some (-1) = some r := H
    cases H
    exact ⟨rfl, hS.below⟩
   ·have H := ifF hb8 H; refine WC_skip (WC_seq (WC_seq (WC_region ?_))); refine wr 3 rfl ?_; refine WL_nil (WC_cond rfl (fun hb9 => ?_) (fun hb9 => ?_))
    ·have H := ifT hb9 H; refine WC_seq (WC_region (WL_val (rn_assign (v := (iV 1)) rfl) rfl (WL_nil (WC_ret ?_))))
     have H : some 1 = some r := H
     cases H
     exact ⟨rfl, hS.below⟩
    ·have H := ifF hb9 H; refine WC_skip (WC_seq (WC_region (WL_val (rn_assign (v := (iV 0)) rfl) rfl (WL_nil (WC_ret ?_)))))
     have H : some 0 = some r := H
     cases H
     exact ⟨rfl, hS.below⟩
set_option maxHeartbeats 1000000 in
theorem f168_ok {G0 : Gm} {w0 : World} (hS0 : Sat G0 w0) {x0 : (List Int)} {a1 : Option Addr} {n1 c1 : Nat} {x1 : (List Int)} {a2 : Option Addr} {n2 c2 : Nat} (h1 : RSl RInt 1 G0 a1 n1 c1 x0) (h2 : RSl RInt 1 G0 a2 n2 c2 x1) {r : Int} (H : f168 x0 x1 = some r) :
  Calls Tryz.prog 168 #[.slice a1 n1 c1, .slice a2 n2 c2] w0 (RetV w0 (iV r)) := by
 have hS := Since.start hS0
 have hO := own0 G0 w0
 unfold f168 at H
 refine enter1 (N := 36) (shutV _ _) Tryz.func168 rfl rfl rfl rfl (WC_seq (WC_region (WL_val (rn_assign (v := (iV 0)) rfl) rfl (WL_nil (WC_seq (WC_seq (WC_region (WL_run tabH (cells0 _) 3 [_] rfl rfl (ao h1.1 an) (WL_nil ?_))))))))); obtain ⟨q5, hq5, H⟩ := bnd H; refine WC_cut (fun F w => ∃ (p4 : Unit) (Fb : Fr) (G : Gm), q5 = .inl p4 ∧ F = upds Fb [(0, .slice a1 n1 c1), (1, .slice a2 n2 c2)] ∧ Gle G0 G ∧ SO G0 w0 G w []) ?_ ?_
 ·refine WC_block (WC_loop hq5 (fun s3 F w => ∃ (Fb : Fr) (G : Gm), F = upds Fb [(0, .slice a1 n1 c1), (1, .slice a2 n2 c2), (9, .slice a1 n1 c1), (10, iV (x0.length : Int)), (11, iV s3)] ∧ Gle G0 G ∧ SO G0 w0 G w []) ?_ ?_)
  ·have hO : Owns _ _ _ [] := hO
   exact ⟨_, G0, upds_self _ _ ⟨rfl, rfl, rfl, rfl, rfl, trivial⟩, Gle.refl _, hS, hO⟩
  ·rintro s3 F w7 t6 ⟨Fb, G8, rfl, leG8, hS, hO⟩
   intro H1 hqq5
   have Hoq5 := H; have H := H1
   unfold f168_b0 at H
   refine WC_seq (WC_region (WL_val (rn_lss rfl rfl) rfl (WL_nil (WC_seq (WC_cond rfl (fun hb9 => ?_) (fun hb9 => ?_))))))
   ·have H := ifT hb9 H; refine WC_skip (WC_seq (WC_block (WC_seq (WC_region (WL_val (rn_move (v := (iV s3)) rfl) rfl ?_))))); obtain ⟨y10, hy10, H⟩ := bnd H; refine WL_idx sl24 (h1.mono RInt_mono leG8) hy10 rfl rfl rfl ?_
    rintro b11 o11 _ hcb11 _ ⟨⟩
    refine WL_val (rn_load na3 rfl (hS.sat.cell (hcb11 0 _ rfl))) rfl ?_; refine wr 2 rfl ?_; refine WL_nil (WC_seq (WC_seq (WC_region (WL_run tabH (cells0 _) 4 [_] rfl rfl (ao (h2.mono RInt_mono leG8).1 an) (WL_nil (WC_cond rfl (fun hb12 => ?_) (fun hb12 => ?_)))))))
    ·have H := ifT hb12 H; refine WC_seq (WC_region (WL_val (rn_assign (v := (iV 1)) rfl) rfl (WL_nil (WC_ret ?_)))); cases H
     have hres := hqq5 _ rfl
     subst hres; have H := Hoq5
     have H : some 1 = some r := H
     cases H
     exact ⟨rfl, hS.below⟩
    ·have H := ifF hb12 H; refine WC_skip (WC_seq (WC_region ?_)); refine wr 2 rfl ?_; obtain ⟨y13, hy13, H⟩ := bnd H; refine WL_idx sl24 (h2.mono RInt_mono leG8) hy13 rfl rfl rfl ?_
     rintro b14 o14 _ hcb14 _ ⟨⟩
     refine WL_val (rn_load na3 rfl (hS.sat.cell (hcb14 0 _ rfl))) rfl (WL_val (rn_assign (v := (iV y13)) rfl) rfl (WL_nil (WC_seq (WC_region ?_)))); refine wr 2 rfl ?_; obtain ⟨y15, hy15, H⟩ := bnd H; refine WL_op rfl (OpP_callV cb167 (f167_ok (x0 := y10) (x1 := y13) hS.sat  hy15) rfl rfl (fun w16 hb => ?_)); have hS := hS.keep hb; have hO := hO.below hb; refine WL_val (rn_assign (v := (iV y15)) rfl) rfl (WL_nil (WC_seq (WC_region ?_))); refine wr 2 rfl ?_; refine WL_nil (WC_cond rfl (fun hb17 => ?_) (fun hb17 => ?_))
     ·have H := ifT hb17 H; refine WC_seq (WC_region ?_); refine wr 2 rfl ?_; refine WL_nil (WC_ret ?_); cases H
      have hres := hqq5 _ rfl
      subst hres; have H := Hoq5
      have H : some y15 = some r := H
      cases H
      exact ⟨rfl, hS.below⟩
     ·have H := ifF hb17 H; refine WC_skip (WC_region ?_); refine wr 2 rfl ?_; refine WL_nil ?_
      have hO : Owns _ _ _ [] := hO
      cases H; refine ⟨_, rfl, ?_⟩
      exact ⟨_, G8, upds_self _ _ ⟨rfl, rfl, rfl, rfl, rfl, trivial⟩, leG8, hS, hO⟩
   ·have H := ifF hb9 H; refine WC_exit rfl ?_
    have hO : Owns _ _ _ [] := hO
    cases H
    have hres := hqq5 _ rfl
    subst hres
    exact ⟨_, _, G8, rfl, upds_self _ _ ⟨rfl, rfl, trivial⟩, leG8, hS, hO⟩
 ·rintro F w18 ⟨p4, Fb, G19, rfl, rfl, leG19, hS, hO⟩
  refine WC_seq (WC_seq (WC_region (WL_run tabH (cells0 _) 5 [_, _] rfl rfl (ao (h2.mono RInt_mono leG19).1 (ao (h1.mono RInt_mono leG19).1 an)) (WL_nil (WC_cond rfl (fun hb20 => ?_) (fun hb20 => ?_))))))
  ·have H := ifT hb20 H; refine WC_seq (WC_region (WL_val (rn_assign (v := (iV (-1))) rfl) rfl (WL_nil (WC_ret ?_))))
   have H : some (-1) = some r := H
   cases H
   exact ⟨rfl, hS.below⟩
  ·have H := ifF hb20 H; refine WC_skip (WC_seq (WC_region (WL_val (rn_assign (v := (iV 0)) rfl) rfl (WL_nil (WC_ret ?_)))))
   have H : some 0 = some r := H
   cases H
   exact ⟨rfl, hS.below⟩
set_option maxHeartbeats 1000000 in
theorem f84_ok {G0 : Gm} {w0 : World} (hS0 : Sat G0 w0) {x0 : TChoice} {a1 : Option Addr} {n1 c1 : Nat} {x1 : TChoice} {a2 : Option Addr} {n2 c2 : Nat} (h1 : RSl RInt 1 G0 a1 n1 c1 x0.list) (h2 : RSl RInt 1 G0 a2 n2 c2 x1.list) {r : Bool} (H : f84 x0 x1 = some r) :
  Calls Tryz.prog 84 #[.agg #[iV x0.cost, .slice a1 n1 c1], .agg #[iV x1.cost, .slice a2 n2 c2]] w0 (RetV w0 (.bool r)) := by
 have hS := Since.start hS0
 have hO := own0 G0 w0
 unfold f84 at H
 refine enter1 (N := 25) (shutV _ _) Tryz.func84 rfl rfl rfl rfl (WC_seq (WC_region (WL_op rfl (OpP_newF (v := fun b => pV b) (cs := [iV x0.cost, .slice a1 n1 c1]) (e := 78) (rn_boxA rfl) hS.sat rfl (fun b3 G5 w4 hg hcb3 => ?_))))); have hS := hS.grow hg; have hO := hO.grow hg
 have leG5 := hg.le
 refine WL_op rfl (OpP_newF (v := fun b => pV b) (cs := [iV x1.cost, .slice a2 n2 c2]) (e := 78) (rn_boxA rfl) hS.sat rfl (fun b6 G8 w7 hg hcb6 => ?_)); have hS := hS.grow hg; have hO := hO.grow hg
 have leG8 := hg.le
 refine WL_val (rn_assign (v := (.bool false)) rfl) rfl (WL_nil (WC_seq ?_)); have hS := hS.keep (below_drew _); have hO := hO.below (below_drew _)
 refine WC_regionD mixedO (fun _ w => Sat G8 w ∧ True) (.fl 0 (.fl 1 (.fl 2 (.fl 3 (.fl 5 (.fl 6 (.fl 7 (.fl 8 (.fl 9 (.fl 10 (.fl 12 (.fl 13 (.fl 14 (.fl 15 (.on 4 (.on 11 (.on 16 (.on 17 (.on 18 (.on 19 (.on 20 .nil))))))))))))))))))))) (by kernel_rfl) rfl (by kernel_rfl) (fun _ => ⟨hS.sat, trivial⟩) ?_
 refine WD_val rfl (fun w hw => rn_fld fd78_0 rfl) rfl (WD_val rfl (fun w hw => rn_load na3 rfl ((hw.1.le leG8).cell (hcb3 0 _ rfl))) rfl (WD_val rfl (fun w hw => rn_fld fd78_0 rfl) rfl (WD_val rfl (fun w hw => rn_load na3 rfl (hw.1.cell (hcb6 0 _ rfl))) rfl (WD_val rfl (fun w hw => rn_fld fd78_1 rfl) rfl (WD_val rfl (fun w hw => rn_load na24 rfl ((hw.1.le leG8).cell (hcb3 1 _ rfl))) rfl ?_)))))
 have l0_2 := leG5.trans leG8
 refine WD_val rfl (fun w hw => rn_len sl24 rfl rfl (h1.mono RInt_mono l0_2).1) rfl (WD_val rfl (fun w hw => rn_fld fd78_1 rfl) rfl (WD_val rfl (fun w hw => rn_load na24 rfl (hw.1.cell (hcb6 1 _ rfl))) rfl (WD_val rfl (fun w hw => rn_len sl24 rfl rfl (h2.mono RInt_mono l0_2).1) rfl (WD_val rfl (fun w hw => rn_fld fd78_1 rfl) rfl (WD_val rfl (fun w hw => rn_load na24 rfl ((hw.1.le leG8).cell (hcb3 1 _ rfl))) rfl (WD_val rfl (fun w hw => rn_fld fd78_1 rfl) rfl (WD_val rfl (fun w hw => rn_load na24 rfl (hw.1.cell (hcb6 1 _ rfl))) rfl ?_))))))); obtain ⟨y9, hy9, H⟩ := bnd H; refine WD_op rfl rfl (OpP_callV cb167 (f167_ok (x0 := x0.cost) (x1 := x1.cost) hS.sat  hy9) rfl rfl (fun w10 hb => ?_)); have hS := hS.keep hb; have hO := hO.below hb; refine ⟨fun _ _ => ⟨hS.sat, trivial⟩, ?_⟩; obtain ⟨y11, hy11, H⟩ := bnd H; refine WD_op rfl rfl (OpP_callV cb167 (f167_ok (x0 := (x0.list.length : Int)) (x1 := (x1.list.length : Int)) hS.sat  hy11) rfl rfl (fun w12 hb => ?_)); have hS := hS.keep hb; have hO := hO.below hb; refine ⟨fun _ _ => ⟨hS.sat, trivial⟩, ?_⟩; obtain ⟨y13, hy13, H⟩ := bnd H; refine WD_op rfl rfl (OpP_callV cb168 (f168_ok (x0 := x0.list) (x1 := x1.list) hS.sat (h1.mono RInt_mono l0_2) (h2.mono RInt_mono l0_2) hy13) rfl rfl (fun w14 hb => ?_)); have hS := hS.keep hb; have hO := hO.below hb
 refine ⟨fun _ h => noneed (by kernel_rfl) h, ?_⟩
 refine WD_op rfl rfl (OpP_newF (v := fun b => .slice (some ⟨b, 0, none⟩) 3 3) (cs := [iV y9, iV y11, iV y13]) (e := 3) (by kernel_rfl) hS.sat rfl (fun b15 G17 w16 hg hcb15 => ?_))
 have hS := hS.grow hg; have hO := hO.grow hg
 have leG17 := hg.le
 have hfb15 : RSl RInt 1 G17 (some ⟨b15, 0, none⟩) 3 3 [y9, y11, y13] := RSl.of_rd hcb15 (Rd.cons (c := [iV y9]) rfl rfl (Rd.cons (c := [iV y11]) rfl rfl (Rd.cons (c := [iV y13]) rfl rfl (Rd.nil RInt 1 _)))) rfl (by decide)
 refine ⟨fun _ h => noneed (by kernel_rfl) h, ?_⟩
 obtain ⟨y18, hy18, H⟩ := bnd H; refine WD_op rfl rfl (OpP_callV cb166 (f166_ok (x0 := [y9, y11, y13]) hS.sat hfb15 hy18) rfl rfl (fun w19 hb => ?_)); have hS := hS.keep hb; have hO := hO.below hb
 refine ⟨fun _ h => noneed (by kernel_rfl) h, ?_⟩
 refine WD_op rfl rfl (OpP_val (rn_lss rfl rfl) rfl ?_)
 refine ⟨fun _ h => noneed (by kernel_rfl) h, ?_⟩
 refine WD_op rfl rfl (OpP_val (rn_assign (v := (.bool (decide (y18 < 0)))) rfl) rfl ?_)
 refine ⟨fun _ h => noneed (by kernel_rfl) h, ?_⟩
 refine WD_nil (WC_ret ?_)
 have H : some (decide (y18 < 0)) = some r := H
 cases H
 exact ⟨rfl, hS.below⟩
set_option maxHeartbeats 1000000 in
theorem f169_ok {G0 : Gm} {w0 : World} (hS0 : Sat G0 w0) {x0 : (List Int)} {a1 : Option Addr} {n1 c1 : Nat} {x1 : (Int → Option Bool)} {k2 : Nat} {fi2 ca2 : List Value} (h1 : RSl RInt 1 G0 a1 n1 c1 x0) (hf2 : FnOk86 G0 k2 fi2 ca2 x1) {r : Int} (H : f169 x0 x1 = some r) :
  Calls Tryz.prog 169 #[.slice a1 n1 c1, .func (.func k2) (fi2).toArray (ca2).toArray] w0 (RetV w0 (iV r)) := by
 have hS := Since.start hS0
 have hO := own0 G0 w0
 unfold f169 at H
 refine enter1 (N := 19) (shutV _ _) Tryz.func169 rfl rfl rfl rfl (WC_seq (WC_region (WL_val (rn_assign (v := (iV 0)) rfl) rfl (WL_nil (WC_seq (WC_seq (WC_region (WL_run tabH (cells0 _) 3 [_] rfl rfl (ao h1.1 an) (WL_nil ?_))))))))); obtain ⟨q5, hq5, H⟩ := bnd H; refine WC_cut (fun F w => ∃ (p4 : Unit) (Fb : Fr) (G : Gm), q5 = .inl p4 ∧ F = upds Fb [] ∧ Gle G0 G ∧ SO G0 w0 G w []) ?_ ?_
 ·refine WC_block (WC_loop hq5 (fun s3 F w => ∃ (Fb : Fr) (G : Gm), F = upds Fb [(0, .slice a1 n1 c1), (1, .func (.func k2) (fi2).toArray (ca2).toArray), (7, iV (x0.length : Int)), (8, iV s3)] ∧ Gle G0 G ∧ SO G0 w0 G w []) ?_ ?_)
  ·have hO : Owns _ _ _ [] := hO
   exact ⟨_, G0, upds_self _ _ ⟨rfl, rfl, rfl, rfl, trivial⟩, Gle.refl _, hS, hO⟩
  ·rintro s3 F w7 t6 ⟨Fb, G8, rfl, leG8, hS, hO⟩
   intro H1 hqq5
   have Hoq5 := H; have H := H1
   unfold f169_b0 at H
   refine WC_seq (WC_region (WL_val (rn_lss rfl rfl) rfl (WL_nil (WC_seq (WC_cond rfl (fun hb9 => ?_) (fun hb9 => ?_))))))
   ·have H := ifT hb9 H; refine WC_skip (WC_seq (WC_block (WC_seq (WC_region ?_)))); refine wr 2 rfl ?_; refine WL_nil (WC_seq (WC_region ?_)); refine wr 3 rfl ?_; obtain ⟨y10, hy10, H⟩ := bnd H; refine WL_idx sl24 (h1.mono RInt_mono leG8) hy10 rfl rfl rfl ?_
    rintro b11 o11 _ hcb11 _ ⟨⟩
    refine WL_val (rn_load na3 rfl (hS.sat.cell (hcb11 0 _ rfl))) rfl ?_; obtain ⟨y12, hy12, H⟩ := bnd H; refine WL_op rfl (OpP_callVF hf2.1 (hf2.2 _ _ leG8 hS.sat y10 _  hy12) rfl rfl rfl (fun w13 hb => ?_)); have hS := hS.keep hb; have hO := hO.below hb; refine WL_nil (WC_cond rfl (fun hb14 => ?_) (fun hb14 => ?_))
    ·have H := ifT hb14 H; refine WC_seq (WC_region ?_); refine wr 2 rfl ?_; refine WL_nil (WC_ret ?_); cases H
     have hres := hqq5 _ rfl
     subst hres; have H := Hoq5
     have H : some s3 = some r := H
     cases H
     exact ⟨rfl, hS.below⟩
    ·have H := ifF hb14 H; refine WC_skip (WC_region ?_); refine wr 2 rfl ?_; refine WL_nil ?_
     have hO : Owns _ _ _ [] := hO
     cases H; refine ⟨_, rfl, ?_⟩
     exact ⟨_, G8, upds_self _ _ ⟨rfl, rfl, rfl, rfl, trivial⟩, leG8, hS, hO⟩
   ·have H := ifF hb9 H; refine WC_exit rfl ?_
    have hO : Owns _ _ _ [] := hO
    cases H
    have hres := hqq5 _ rfl
    subst hres
    exact ⟨_, _, G8, rfl, rfl, leG8, hS, hO⟩
 ·rintro F w15 ⟨p4, Fb, G16, rfl, rfl, leG16, hS, hO⟩
  refine WC_seq (WC_region (WL_val (rn_assign (v := (iV (-1))) rfl) rfl (WL_nil (WC_ret ?_))))
  have H : some (-1) = some r := H
  cases H
  exact ⟨rfl, hS.below⟩
set_option maxHeartbeats 1000000 in
theorem f85_ok {G0 : Gm} {w0 : World} (hS0 : Sat G0 w0) {x0 : (List Int)} {a1 : Option Addr} {n1 c1 : Nat} {x1 : (Int → Option Bool)} {k2 : Nat} {fi2 ca2 : List Value} (h1 : RSl RInt 1 G0 a1 n1 c1 x0) (hf2 : FnOk86 G0 k2 fi2 ca2 x1) {r : Bool} (H : f85 x0 x1 = some r) :
  Calls Tryz.prog 85 #[.slice a1 n1 c1, .func (.func k2) (fi2).toArray (ca2).toArray] w0 (RetV w0 (.bool r)) := by
 have hS := Since.start hS0
 have hO := own0 G0 w0
 unfold f85 at H
 refine enter1 (N := 9) (shutV _ _) Tryz.func85 rfl rfl rfl rfl (WC_seq (WC_region (WL_val (rn_assign (v := (.bool false)) rfl) rfl (WL_nil (WC_seq (WC_region ?_)))))); refine wr 2 rfl ?_; obtain ⟨y3, hy3, H⟩ := bnd H; refine WL_op rfl (OpP_callV cb169 (f169_ok (x0 := x0) (x1 := x1) hS.sat h1 hf2 hy3) rfl rfl (fun w4 hb => ?_)); have hS := hS.keep hb; have hO := hO.below hb; refine wr 2 rfl ?_; refine WL_nil (WC_ret ?_)
 have H : some (decide (0 ≤ y3)) = some r := H
 cases H
 exact ⟨rfl, hS.below⟩
set_option maxHeartbeats 1000000 in
theorem f86_ok {G0 : Gm} {w0 : World} (hS0 : Sat G0 w0) {x0 : Int} {x1 : (List Int)} {bq1 : Nat} {a1 : Option Addr} {n1 c1 : Nat} (hcq1 : Cells G0 bq1 0 [.slice a1 n1 c1]) (h1 : RSl RInt 1 G0 a1 n1 c1 x1) {r : Bool} (H : f86 x0 x1 = some r) :
  Calls Tryz.prog 86 #[iV x0, pV bq1] w0 (RetV w0 (.bool r)) := by
 have hS := Since.start hS0
 have hO := own0 G0 w0
 unfold f86 at H
 refine enter1 (N := 9) (shutV _ _) Tryz.func86 rfl rfl rfl rfl (WC_seq (WC_region (WL_val (rn_assign (v := (.bool false)) rfl) rfl (WL_nil (WC_seq (WC_region (WL_run tabH (cellsW hS.sat hcq1) 2 [] rfl rfl an ?_))))))); obtain ⟨y2, hy2, H⟩ := bnd H; refine WL_idx sl24 h1 hy2 rfl rfl rfl ?_
 rintro b3 o3 _ hcb3 _ ⟨⟩
 refine WL_val (rn_load na3 rfl (hS.sat.cell (hcb3 0 _ rfl))) rfl ?_; refine wr 2 rfl ?_; refine WL_nil (WC_ret ?_)
 have H : some (decide (0 ≤ y2)) = some r := H
 cases H
 exact ⟨rfl, hS.below⟩
set_option maxHeartbeats 1000000 in
theorem f99_ok {G0 : Gm} {w0 : World} (hS0 : Sat G0 w0) {x0 : (List Int)} {a1 : Option Addr} {n1 c1 : Nat} (h1 : RSl RInt 1 G0 a1 n1 c1 x0) {r : Int} (H : f99 x0 = some r) :
  Calls Tryz.prog 99 #[.slice a1 n1 c1] w0 (RetV w0 (iV r)) := by
 have hS := Since.start hS0
 have hO := own0 G0 w0
 unfold f99 at H
 refine enter1 (N := 18) (shutV _ _) Tryz.func99 rfl rfl rfl rfl (WC_seq (WC_region (WL_val (rn_assign (v := (iV 0)) rfl) rfl (WL_nil (WC_seq (WC_region (WL_val (rn_assign (v := (iV 0)) rfl) rfl (WL_nil (WC_seq (WC_seq (WC_region (WL_run tabH (cells0 _) 3 [_] rfl rfl (ao h1.1 an) (WL_nil ?_))))))))))))); obtain ⟨q4, hq4, H⟩ := bnd H; refine WC_cut (fun F w => ∃ (Fb : Fr), F = upds Fb [(3, iV q4)] ∧ w0 = w) ?_ ?_
 ·refine WC_block (WC_loop hq4 (fun s2 F w => ∃ (Fb : Fr), F = upds Fb [(3, iV s2.1), (6, .slice a1 n1 c1), (7, iV (x0.length : Int)), (8, iV s2.2)] ∧ w0 = w) ?_ ?_)
  ·exact ⟨_, upds_self _ _ ⟨rfl, rfl, rfl, rfl, trivial⟩, rfl⟩
  ·rintro s2 F wl t5 ⟨Fb, rfl, rfl⟩
   intro H1 hqq4
   have Hoq4 := H; have H := H1
   unfold f99_b0 at H
   refine WC_seq (WC_region (WL_val (rn_lss rfl rfl) rfl (WL_nil (WC_seq (WC_cond rfl (fun hb8 => ?_) (fun hb8 => ?_))))))
   ·have H := ifT hb8 H; refine WC_skip (WC_seq (WC_block (WC_seq (WC_region ?_)))); obtain ⟨y9, hy9, H⟩ := bnd H; refine WL_idx sl24 h1 hy9 rfl rfl rfl ?_
    rintro b10 o10 _ hcb10 _ ⟨⟩
    refine WL_val (rn_load na3 rfl (hS.sat.cell (hcb10 0 _ rfl))) rfl (WL_val (rn_assign (v := (iV y9)) rfl) rfl (WL_nil (WC_region ?_))); refine wr 2 rfl ?_; obtain ⟨y11, hy11, H⟩ := bnd H; refine WL_val (rn_shl rfl rfl hy11) rfl (WL_val (rn_or rfl rfl) rfl (WL_val (rn_assign (v := (iV (orI .i64 s2.1 y11))) rfl) rfl (WL_nil (WC_region ?_)))); refine wr 2 rfl ?_; refine WL_nil ?_; cases H; refine ⟨_, rfl, ?_⟩
    exact ⟨_, upds_self _ _ ⟨rfl, rfl, rfl, rfl, trivial⟩, rfl⟩
   ·have H := ifF hb8 H; refine WC_exit rfl ?_; cases H
    have hres := hqq4 _ rfl
    subst hres
    exact ⟨_, upds_self _ _ ⟨rfl, trivial⟩, rfl⟩
 ·rintro F wl ⟨Fb, rfl, rfl⟩
  refine WC_seq (WC_region ?_); refine wr 2 rfl ?_; refine WL_nil (WC_ret ?_)
  have H : some q4 = some r := H
  cases H
  exact ⟨rfl, hS.below⟩
set_option maxHeartbeats 1000000 in
theorem f95_ok {G0 : Gm} {w0 : World} (hS0 : Sat G0 w0) {x0 : (List Int)} {a1 : Option Addr} {n1 c1 : Nat} {x1 : Int} (h1 : RSl RInt 1 G0 a1 n1 c1 x0) {r : Int} (H : f95 x0 x1 = some r) :
  Calls Tryz.prog 95 #[.slice a1 n1 c1, iV x1] w0 (RetV w0 (iV r)) := by
 have hS := Since.start hS0
 have hO := own0 G0 w0
 unfold f95 at H
 refine enter1 (N := 19) (shutV _ _) Tryz.func95 rfl rfl rfl rfl (WC_seq (WC_region (WL_val (rn_assign (v := (iV 0)) rfl) rfl (WL_nil (WC_seq (WC_seq (WC_region (WL_run tabH (cells0 _) 3 [_] rfl rfl (ao h1.1 an) (WL_nil ?_))))))))); obtain ⟨q4, hq4, H⟩ := bnd H; refine WC_cut (fun F w => ∃ (p3 : Unit) (Fb : Fr), q4 = .inl p3 ∧ F = upds Fb [] ∧ w0 = w) ?_ ?_
 ·refine WC_block (WC_loop hq4 (fun s2 F w => ∃ (Fb : Fr), F = upds Fb [(0, .slice a1 n1 c1), (1, iV x1), (7, iV (x0.length : Int)), (8, iV s2)] ∧ w0 = w) ?_ ?_)
  ·exact ⟨_, upds_self _ _ ⟨rfl, rfl, rfl, rfl, trivial⟩, rfl⟩
  ·rintro s2 F wl t5 ⟨Fb, rfl, rfl⟩
   intro H1 hqq4
   have Hoq4 := H; have H := H1
   unfold f95_b0 at H
   refine WC_seq (WC_region (WL_val (rn_lss rfl rfl) rfl (WL_nil (WC_seq (WC_cond rfl (fun hb8 => ?_) (fun hb8 => ?_))))))
   ·have H := ifT hb8 H; refine WC_skip (WC_seq (WC_block (WC_seq (WC_region ?_)))); refine wr 2 rfl ?_; refine WL_nil (WC_seq (WC_region ?_)); refine wr 3 rfl ?_; obtain ⟨y9, hy9, H⟩ := bnd H; refine WL_idx sl24 h1 hy9 rfl rfl rfl ?_
    rintro b10 o10 _ hcb10 _ ⟨⟩
    refine WL_val (rn_load na3 rfl (hS.sat.cell (hcb10 0 _ rfl))) rfl (WL_val (rn_eql rfl rfl) rfl (WL_nil (WC_cond rfl (fun hb11 => ?_) (fun hb11 => ?_))))
    ·have H := ifT hb11 H; refine WC_seq (WC_region ?_); refine wr 2 rfl ?_; refine WL_nil (WC_ret ?_); cases H
     have hres := hqq4 _ rfl
     subst hres; have H := Hoq4
     have H : some s2 = some r := H
     cases H
     exact ⟨rfl, hS.below⟩
    ·have H := ifF hb11 H; refine WC_skip (WC_region ?_); refine wr 2 rfl ?_; refine WL_nil ?_; cases H; refine ⟨_, rfl, ?_⟩
     exact ⟨_, upds_self _ _ ⟨rfl, rfl, rfl, rfl, trivial⟩, rfl⟩
   ·have H := ifF hb8 H; refine WC_exit rfl ?_; cases H
    have hres := hqq4 _ rfl
    subst hres
    exact ⟨_, _, rfl, rfl, rfl⟩
 ·rintro F wl ⟨p3, Fb, rfl, rfl, rfl⟩
  refine WC_seq (WC_region (WL_val (rn_assign (v := (iV (-1))) rfl) rfl (WL_nil (WC_ret ?_))))
  have H : some (-1) = some r := H
  cases H
  exact ⟨rfl, hS.below⟩
set_option maxHeartbeats 1000000 in
theorem f33_ok {G0 : Gm} {w0 : World} (hS0 : Sat G0 w0) {x0 : (List Int)} {a1 : Option Addr} {n1 c1 : Nat} {x1 : Int} (h1 : RSl RInt 1 G0 a1 n1 c1 x0) {r : Bool} (H : f33 x0 x1 = some r) :
  Calls Tryz.prog 33 #[.slice a1 n1 c1, iV x1] w0 (RetV w0 (.bool r)) := by
 have hS := Since.start hS0
 have hO := own0 G0 w0
 unfold f33 at H
 refine enter1 (N := 9) (shutV _ _) Tryz.func33 rfl rfl rfl rfl (WC_seq (WC_region (WL_val (rn_assign (v := (.bool false)) rfl) rfl (WL_nil (WC_seq (WC_region ?_)))))); refine wr 2 rfl ?_; obtain ⟨y2, hy2, H⟩ := bnd H; refine WL_op rfl (OpP_callV cb95 (f95_ok (x0 := x0) (x1 := x1) hS.sat h1 hy2) rfl rfl (fun w3 hb => ?_)); have hS := hS.keep hb; have hO := hO.below hb; refine wr 2 rfl ?_; refine WL_nil (WC_ret ?_)
 have H : some (decide (0 ≤ y2)) = some r := H
 cases H
 exact ⟨rfl, hS.below⟩
set_option maxHeartbeats 1000000 in
theorem f23_ok {G0 : Gm} {w0 : World} (hS0 : Sat G0 w0) {x0 : (List TBaneTrip)} {a1 : Option Addr} {n1 c1 : Nat} {x1 : (TBaneTrip → Option Int)} {k2 : Nat} {fi2 ca2 : List Value} {x2 : (Int → Option Bool)} {k3 : Nat} {fi3 ca3 : List Value} (h1 : RSl RTBaneTrip 4 G0 a1 n1 c1 x0) (hf2 : FnOk83 G0 k2 fi2 ca2 x1) (hf3 : FnOk86 G0 k3 fi3 ca3 x2) {r : TChoice × Bool} (H : f23 x0 x1 x2 = some r) :
  Calls Tryz.prog 23 #[.slice a1 n1 c1, .func (.func k2) (fi2).toArray (ca2).toArray, .func (.func k3) (fi3).toArray (ca3).toArray] w0 (RetG G0 w0 (fun G v => ∃ (ra0 : Option Addr) (rn0 rc0 : Nat), v = .tuple #[.agg #[iV r.1.cost, .slice ra0 rn0 rc0], .bool r.2] ∧ RSl RInt 1 G ra0 rn0 rc0 r.1.list)) := by
 have hS := Since.start hS0
 have hO := own0 G0 w0
 unfold f23 at H
 refine enterG (N := 59) (shutG _ _ _) [.cell 6 78, .tmp 7] Tryz.func23 rfl rfl rfl rfl ?_; refine WC_seq (WC_region ?_)
 refine WL_op rfl (OpP_newO (v := fun b => pV b) (cs := [iV 0, .slice none 0 0]) (e := 78) (by kernel_rfl) hS.sat hO rfl 2 1 rfl (by decide) (fun b4 w5 hb hO => ?_))
 have hS := hS.keep hb; refine WL_val (rn_assign (v := (.bool false)) rfl) rfl (WL_nil (WC_seq (WC_region ?_)))
 refine WL_op rfl (OpP_newO (v := fun b => pV b) (cs := [iV 0, .slice none 0 0]) (e := 78) (by kernel_rfl) hS.sat hO rfl 2 1 rfl (by decide) (fun b7 w8 hb hO => ?_))
 have hS := hS.keep hb; refine WL_nil (WC_seq (WC_region (WL_val (rn_assign (v := (.bool false)) rfl) rfl (WL_nil (WC_seq (WC_seq (WC_region (WL_run tabH (cells0 _) 2 [_] rfl rfl (ao h1.1 an) ?_)))))))); obtain ⟨y10, hy10, H⟩ := bnd H; refine WL_val (rn_shl rfl rfl hy10) rfl (WL_val (rn_move (v := (iV 0)) rfl) rfl (WL_nil ?_)); obtain ⟨q13, hq13, H⟩ := bnd H; refine WC_cut (fun F w => ∃ (Fb : Fr) (G : Gm) (aq13_0 : Option Addr) (nq13_0 cq13_0 : Nat) (aq13_1 : Option Addr) (nq13_1 cq13_1 : Nat), F = upds Fb [(6, pV b4), (8, pV b7), (9, .bool q13.1)] ∧ Gle G0 G ∧ Since w0.heap.size G0 w0 G w ∧ Owns G w w0.heap.size [⟨78, 2, 1, .slice (some ⟨b7, 0, none⟩) 1 1, [iV q13.2.1.cost, .slice aq13_0 nq13_0 cq13_0]⟩, ⟨78, 2, 1, .slice (some ⟨b4, 0, none⟩) 1 1, [iV q13.2.2.cost, .slice aq13_1 nq13_1 cq13_1]⟩] ∧ RSl RInt 1 G aq13_0 nq13_0 cq13_0 q13.2.1.list ∧ RSl RInt 1 G aq13_1 nq13_1 cq13_1 q13.2.2.list) ?_ ?_
 ·refine WC_block (WC_loop hq13 (fun s11 F w => ∃ (Fb : Fr) (G : Gm) (as11_0 : Option Addr) (ns11_0 cs11_0 : Nat) (as11_1 : Option Addr) (ns11_1 cs11_1 : Nat), F = upds Fb [(0, .slice a1 n1 c1), (1, .func (.func k2) (fi2).toArray (ca2).toArray), (2, .func (.func k3) (fi3).toArray (ca3).toArray), (6, pV b4), (8, pV b7), (9, .bool s11.1), (16, iV y10), (17, iV s11.2.1)] ∧ Gle G0 G ∧ Since w0.heap.size G0 w0 G w ∧ Owns G w w0.heap.size [⟨78, 2, 1, .slice (some ⟨b7, 0, none⟩) 1 1, [iV s11.2.2.1.cost, .slice as11_0 ns11_0 cs11_0]⟩, ⟨78, 2, 1, .slice (some ⟨b4, 0, none⟩) 1 1, [iV s11.2.2.2.cost, .slice as11_1 ns11_1 cs11_1]⟩] ∧ RSl RInt 1 G as11_0 ns11_0 cs11_0 s11.2.2.1.list ∧ RSl RInt 1 G as11_1 ns11_1 cs11_1 s11.2.2.2.list) ?_ ?_)
  ·have hO : Owns G0 w8 w0.heap.size ([⟨78, 2, 1, .slice (some ⟨b7, 0, none⟩) 1 1, [iV 0, .slice none 0 0]⟩, ⟨78, 2, 1, .slice (some ⟨b4, 0, none⟩) 1 1, [iV 0, .slice none 0 0]⟩]) := hO
   exact ⟨_, G0, none, 0, 0, none, 0, 0, upds_self _ _ ⟨rfl, rfl, rfl, rfl, rfl, rfl, rfl, rfl, trivial⟩, Gle.refl _, hS, hO, (RSl.nil _ _ _ _), (RSl.nil _ _ _ _)⟩
  ·rintro s11 F w15 t14 ⟨Fb, G16, as11_0, ns11_0, cs11_0, as11_1, ns11_1, cs11_1, rfl, leG16, hS, hO, hs11_0, hs11_1⟩
   intro H1 hqq13
   have Hoq13 := H; have H := H1
   unfold f23_b0 at H
   refine WC_seq (WC_region (WL_val (rn_lss rfl rfl) rfl (WL_nil (WC_seq (WC_cond rfl (fun hb17 => ?_) (fun hb17 => ?_))))))
   ·have H := ifT hb17 H; refine WC_skip (WC_seq ?_); obtain ⟨q18, hq18, H⟩ := bnd H; refine WC_cut (fun F w => ∃ (Fb : Fr) (G : Gm) (aq18_0 : Option Addr) (nq18_0 cq18_0 : Nat) (aq18_1 : Option Addr) (nq18_1 cq18_1 : Nat), F = upds Fb [(0, .slice a1 n1 c1), (1, .func (.func k2) (fi2).toArray (ca2).toArray), (2, .func (.func k3) (fi3).toArray (ca3).toArray), (6, pV b4), (8, pV b7), (9, .bool q18.1), (16, iV y10), (17, iV s11.2.1)] ∧ Gle G16 G ∧ Since w0.heap.size G0 w0 G w ∧ Owns G w w0.heap.size [⟨78, 2, 1, .slice (some ⟨b7, 0, none⟩) 1 1, [iV q18.2.1.cost, .slice aq18_0 nq18_0 cq18_0]⟩, ⟨78, 2, 1, .slice (some ⟨b4, 0, none⟩) 1 1, [iV q18.2.2.cost, .slice aq18_1 nq18_1 cq18_1]⟩] ∧ RSl RInt 1 G aq18_0 nq18_0 cq18_0 q18.2.1.list ∧ RSl RInt 1 G aq18_1 nq18_1 cq18_1 q18.2.2.list) ?_ ?_
    ·have Hoq18 := H; have H := hq18; refine WC_block (WC_seq (WC_region ?_)); refine wr 2 rfl ?_; refine WL_nil (WC_seq (WC_region (WL_run tabH (cells0 _) 3 [_] rfl rfl (ao (h1.mono RTBaneTrip_mono leG16).1 an) ?_))); obtain ⟨y19, hy19, H⟩ := bnd H; refine WL_op rfl (OpP_callG cb83 (f83_ok (x0 := s11.2.1) (x1 := (x0.length : Int)) hS.sat  hy19) rfl rfl (fun vy19 G21 w20 hg hvy19 => ?_)); obtain ⟨a22, n22, c22, ⟨⟩, h22⟩ := hvy19; have hS := hS.grow hg; have hO := hO.grow hg
     have leG21 := hg.le
     refine WL_val (v := (.agg #[iV 0, .slice a22 n22 c22])) (by kernel_rfl) rfl ?_
     refine WL_op rfl (OpP_newO (v := fun b => pV b) (cs := [iV 0, .slice none 0 0]) (e := 78) (by kernel_rfl) hS.sat hO rfl 2 1 rfl (by decide) (fun b23 w24 hb hO => ?_))
     have hS := hS.keep hb; refine WL_op rfl (OpP_store (vs := [iV 0, .slice a22 n22 c22]) sz78 hS hO (k := 0) rfl rfl rfl rfl rfl (one_all rfl) (Nat.le_of_ble_eq_true rfl) (fun w26 hS hO => ?_))
     have hO : Owns G21 w26 w0.heap.size ([⟨78, 2, 1, .slice (some ⟨b23, 0, none⟩) 1 1, [iV 0, .slice a22 n22 c22]⟩, ⟨78, 2, 1, .slice (some ⟨b7, 0, none⟩) 1 1, [iV s11.2.2.1.cost, .slice as11_0 ns11_0 cs11_0]⟩, ⟨78, 2, 1, .slice (some ⟨b4, 0, none⟩) 1 1, [iV s11.2.2.2.cost, .slice as11_1 ns11_1 cs11_1]⟩]) := hO
     refine WL_nil (WC_seq (WC_seq (WC_region (WL_val (rn_fld fd78_1 rfl) rfl (WL_val (rn_load na24 rfl (own_cell hO (k := 0) rfl (j := 1) rfl)) rfl (WL_run tabH (cells0 _) 2 [_] rfl rfl (ao h22.1 an) (WL_nil ?_))))))); obtain ⟨q29, hq29, H⟩ := bnd H; refine WC_cut (fun F w => ∃ (Fb : Fr) (G : Gm) (aq29_0 : Option Addr) (nq29_0 cq29_0 : Nat) (aq29_1 : Option Addr) (nq29_1 cq29_1 : Nat) (aq29_2 : Option Addr) (nq29_2 cq29_2 : Nat), F = upds Fb [(0, .slice a1 n1 c1), (1, .func (.func k2) (fi2).toArray (ca2).toArray), (2, .func (.func k3) (fi3).toArray (ca3).toArray), (6, pV b4), (8, pV b7), (9, .bool s11.1), (10, iV s11.2.1), (11, pV b23), (16, iV y10), (17, iV s11.2.1)] ∧ Gle G21 G ∧ Since w0.heap.size G0 w0 G w ∧ Owns G w w0.heap.size [⟨78, 2, 1, .slice (some ⟨b23, 0, none⟩) 1 1, [iV q29.1.cost, .slice aq29_0 nq29_0 cq29_0]⟩, ⟨78, 2, 1, .slice (some ⟨b7, 0, none⟩) 1 1, [iV q29.2.1.cost, .slice aq29_1 nq29_1 cq29_1]⟩, ⟨78, 2, 1, .slice (some ⟨b4, 0, none⟩) 1 1, [iV q29.2.2.cost, .slice aq29_2 nq29_2 cq29_2]⟩] ∧ RSl RInt 1 G aq29_0 nq29_0 cq29_0 q29.1.list ∧ RSl RInt 1 G aq29_1 nq29_1 cq29_1 q29.2.1.list ∧ RSl RInt 1 G aq29_2 nq29_2 cq29_2 q29.2.2.list) ?_ ?_
     ·refine WC_block (WC_loop hq29 (fun s27 F w => ∃ (Fb : Fr) (G : Gm) (as27_0 : Option Addr) (ns27_0 cs27_0 : Nat) (as27_1 : Option Addr) (ns27_1 cs27_1 : Nat) (as27_2 : Option Addr) (ns27_2 cs27_2 : Nat), F = upds Fb [(0, .slice a1 n1 c1), (1, .func (.func k2) (fi2).toArray (ca2).toArray), (2, .func (.func k3) (fi3).toArray (ca3).toArray), (6, pV b4), (8, pV b7), (9, .bool s11.1), (10, iV s11.2.1), (11, pV b23), (16, iV y10), (17, iV s11.2.1), (26, .slice a22 n22 c22), (27, iV (y19.length : Int)), (28, iV s27.1)] ∧ Gle G21 G ∧ Since w0.heap.size G0 w0 G w ∧ Owns G w w0.heap.size [⟨78, 2, 1, .slice (some ⟨b23, 0, none⟩) 1 1, [iV s27.2.1.cost, .slice as27_0 ns27_0 cs27_0]⟩, ⟨78, 2, 1, .slice (some ⟨b7, 0, none⟩) 1 1, [iV s27.2.2.1.cost, .slice as27_1 ns27_1 cs27_1]⟩, ⟨78, 2, 1, .slice (some ⟨b4, 0, none⟩) 1 1, [iV s27.2.2.2.cost, .slice as27_2 ns27_2 cs27_2]⟩] ∧ RSl RInt 1 G as27_0 ns27_0 cs27_0 s27.2.1.list ∧ RSl RInt 1 G as27_1 ns27_1 cs27_1 s27.2.2.1.list ∧ RSl RInt 1 G as27_2 ns27_2 cs27_2 s27.2.2.2.list) ?_ ?_)
      ·have hO : Owns G21 w26 w0.heap.size ([⟨78, 2, 1, .slice (some ⟨b23, 0, none⟩) 1 1, [iV 0, .slice a22 n22 c22]⟩, ⟨78, 2, 1, .slice (some ⟨b7, 0, none⟩) 1 1, [iV s11.2.2.1.cost, .slice as11_0 ns11_0 cs11_0]⟩, ⟨78, 2, 1, .slice (some ⟨b4, 0, none⟩) 1 1, [iV s11.2.2.2.cost, .slice as11_1 ns11_1 cs11_1]⟩]) := hO
       exact ⟨_, G21, a22, n22, c22, as11_0, ns11_0, cs11_0, as11_1, ns11_1, cs11_1, upds_self _ _ ⟨rfl, rfl, rfl, rfl, rfl, rfl, rfl, rfl, rfl, rfl, rfl, rfl, rfl, trivial⟩, Gle.refl _, hS, hO, h22, (hs11_0.mono RInt_mono leG21), (hs11_1.mono RInt_mono leG21)⟩
      ·rintro s27 F w31 t30 ⟨Fb, G32, as27_0, ns27_0, cs27_0, as27_1, ns27_1, cs27_1, as27_2, ns27_2, cs27_2, rfl, leG32, hS, hO, hs27_0, hs27_1, hs27_2⟩
       intro H1 hqq29
       have Hoq29 := H; have H := H1
       unfold f23_b1 at H
       refine WC_seq (WC_region (WL_val (rn_lss rfl rfl) rfl (WL_nil (WC_seq (WC_cond rfl (fun hb33 => ?_) (fun hb33 => ?_))))))
       ·have H := ifT hb33 H; refine WC_skip (WC_seq (WC_block (WC_seq (WC_region ?_)))); obtain ⟨y34, hy34, H⟩ := bnd H; refine WL_idx sl24 (h22.mono RInt_mono leG32) hy34 rfl rfl rfl ?_
        rintro b35 o35 _ hcb35 _ ⟨⟩
        refine WL_val (rn_load na3 rfl (hS.sat.cell (hcb35 0 _ rfl))) rfl (WL_val (rn_assign (v := (iV y34)) rfl) rfl (WL_nil ?_)); have hS := hS.keep (below_drew _); have hO := hO.below (below_drew _)
        refine WC_regionD mixedO (fun _ w => Sat G32 w ∧ Owns G32 w w0.heap.size [⟨78, 2, 1, .slice (some ⟨b23, 0, none⟩) 1 1, [iV s27.2.1.cost, .slice as27_0 ns27_0 cs27_0]⟩, ⟨78, 2, 1, .slice (some ⟨b7, 0, none⟩) 1 1, [iV s27.2.2.1.cost, .slice as27_1 ns27_1 cs27_1]⟩, ⟨78, 2, 1, .slice (some ⟨b4, 0, none⟩) 1 1, [iV s27.2.2.2.cost, .slice as27_2 ns27_2 cs27_2]⟩]) (.fl 0 (.fl 1 (.fl 2 (.fl 3 (.on 4 (.on 5 (.on 6 (.on 7 (.on 8 (.on 9 (.on 10 .nil))))))))))) (by kernel_rfl) rfl (by kernel_rfl) (fun _ => ⟨hS.sat, hO⟩) ?_
        refine WD_val rfl (fun w hw => rn_fld fd78_0 rfl) rfl (WD_val rfl (fun w hw => rn_load na3 rfl (own_cell hw.2 (k := 0) rfl (j := 0) rfl)) rfl (WD_val rfl (fun w hw => rn_move (v := (.func (.func k2) (fi2).toArray (ca2).toArray)) rfl) rfl (WD_val rfl (fun w hw => rn_move (v := (.slice a1 n1 c1)) rfl) rfl (WD_op rfl rfl (OpP_val (rn_move (v := (iV y34)) rfl) rfl ?_))))); refine ⟨fun _ _ => ⟨hS.sat, hO⟩, ?_⟩; obtain ⟨y36, hy36, H⟩ := bnd H
        have l0_3 := (leG16.trans leG21).trans leG32
        refine WD_op rfl rfl (OpP_idx sl36 (h1.mono RTBaneTrip_mono l0_3) hy36 rfl rfl rfl ?_)
        rintro b37 o37 _ hcb37 _ ⟨⟩
        refine ⟨fun _ _ => ⟨hS.sat, hO⟩, ?_⟩; refine WD_op rfl rfl (OpP_val (rn_loadA ag82 (cs := [iV y36.Day, iV y36.From, iV y36.To, iV y36.Cost]) rfl rfl (fun j v hj => hS.sat.cell (hcb37.drop_take 0 4 j v hj))) rfl ?_); refine ⟨fun _ _ => ⟨hS.sat, hO⟩, ?_⟩; obtain ⟨y38, hy38, H⟩ := bnd H; refine WD_op rfl rfl (OpP_callVF hf2.1 (hf2.2 _ _ l0_3 hS.sat y36 _  hy38) rfl rfl rfl (fun w39 hb => ?_)); have hS := hS.keep hb; have hO := hO.below hb; refine ⟨fun _ _ => ⟨hS.sat, hO⟩, ?_⟩; refine WD_op rfl rfl (OpP_val (rn_add rfl rfl) rfl ?_)
        refine ⟨fun _ h => noneed (by kernel_rfl) h, ?_⟩
        refine WD_op rfl rfl (OpP_val (rn_fld fd78_0 rfl) rfl ?_)
        refine ⟨fun _ h => noneed (by kernel_rfl) h, ?_⟩
        refine WD_op rfl rfl (OpP_store (vs := [iV (IntKind.i64.wrap (s27.2.1.cost + y38))]) sz3 hS hO (k := 0) rfl rfl rfl rfl rfl (one_all rfl) (Nat.le_of_ble_eq_true rfl) (fun w40 hS hO => ?_))
        have hO : Owns G32 w40 w0.heap.size ([⟨78, 2, 1, .slice (some ⟨b23, 0, none⟩) 1 1, [iV (IntKind.i64.wrap (s27.2.1.cost + y38)), .slice as27_0 ns27_0 cs27_0]⟩, ⟨78, 2, 1, .slice (some ⟨b7, 0, none⟩) 1 1, [iV s27.2.2.1.cost, .slice as27_1 ns27_1 cs27_1]⟩, ⟨78, 2, 1, .slice (some ⟨b4, 0, none⟩) 1 1, [iV s27.2.2.2.cost, .slice as27_2 ns27_2 cs27_2]⟩]) := hO
        refine ⟨fun _ h => noneed (by kernel_rfl) h, ?_⟩
        refine WD_nil (WC_region ?_); refine wr 2 rfl ?_; refine WL_nil ?_
        have hO : Owns G32 w40 w0.heap.size ([⟨78, 2, 1, .slice (some ⟨b23, 0, none⟩) 1 1, [iV (IntKind.i64.wrap (s27.2.1.cost + y38)), .slice as27_0 ns27_0 cs27_0]⟩, ⟨78, 2, 1, .slice (some ⟨b7, 0, none⟩) 1 1, [iV s27.2.2.1.cost, .slice as27_1 ns27_1 cs27_1]⟩, ⟨78, 2, 1, .slice (some ⟨b4, 0, none⟩) 1 1, [iV s27.2.2.2.cost, .slice as27_2 ns27_2 cs27_2]⟩]) := hO
        cases H; refine ⟨_, rfl, ?_⟩
        exact ⟨_, G32, as27_0, ns27_0, cs27_0, as27_1, ns27_1, cs27_1, as27_2, ns27_2, cs27_2, upds_self _ _ ⟨rfl, rfl, rfl, rfl, rfl, rfl, rfl, rfl, rfl, rfl, rfl, rfl, rfl, trivial⟩, leG32, hS, hO, hs27_0, hs27_1, hs27_2⟩
       ·have H := ifF hb33 H; refine WC_exit rfl ?_
        have hO : Owns G32 w31 w0.heap.size ([⟨78, 2, 1, .slice (some ⟨b23, 0, none⟩) 1 1, [iV s27.2.1.cost, .slice as27_0 ns27_0 cs27_0]⟩, ⟨78, 2, 1, .slice (some ⟨b7, 0, none⟩) 1 1, [iV s27.2.2.1.cost, .slice as27_1 ns27_1 cs27_1]⟩, ⟨78, 2, 1, .slice (some ⟨b4, 0, none⟩) 1 1, [iV s27.2.2.2.cost, .slice as27_2 ns27_2 cs27_2]⟩]) := hO
        cases H
        have hres := hqq29 _ rfl
        subst hres
        exact ⟨_, G32, as27_0, ns27_0, cs27_0, as27_1, ns27_1, cs27_1, as27_2, ns27_2, cs27_2, upds_self _ _ ⟨rfl, rfl, rfl, rfl, rfl, rfl, rfl, rfl, rfl, rfl, trivial⟩, leG32, hS, hO, hs27_0, hs27_1, hs27_2⟩
     ·rintro F w41 ⟨Fb, G42, aq29_0, nq29_0, cq29_0, aq29_1, nq29_1, cq29_1, aq29_2, nq29_2, cq29_2, rfl, leG42, hS, hO, hq29_0, hq29_1, hq29_2⟩
      refine WC_seq ?_; obtain ⟨q43, hq43, H⟩ := bnd H; refine WC_cut (fun F w => ∃ (Fb : Fr) (G : Gm), F = upds Fb [(0, .slice a1 n1 c1), (1, .func (.func k2) (fi2).toArray (ca2).toArray), (2, .func (.func k3) (fi3).toArray (ca3).toArray), (6, pV b4), (8, pV b7), (9, .bool s11.1), (11, pV b23), (16, iV y10), (17, iV s11.2.1), (54, .bool q43)] ∧ Gle G42 G ∧ Since w0.heap.size G0 w0 G w ∧ Owns G w w0.heap.size [⟨78, 2, 1, .slice (some ⟨b23, 0, none⟩) 1 1, [iV q29.1.cost, .slice aq29_0 nq29_0 cq29_0]⟩, ⟨78, 2, 1, .slice (some ⟨b7, 0, none⟩) 1 1, [iV q29.2.1.cost, .slice aq29_1 nq29_1 cq29_1]⟩, ⟨78, 2, 1, .slice (some ⟨b4, 0, none⟩) 1 1, [iV q29.2.2.cost, .slice aq29_2 nq29_2 cq29_2]⟩]) ?_ ?_
      ·have Hoq43 := H; have H := hq43; refine WC_region ?_; refine wr 3 rfl ?_
       rcases bcases (!s11.1) with hb44 | hb44
       ·have H := ifT hb44 H; refine wk hb44 5 rfl rfl ?_; refine wr 2 rfl ?_; refine WL_guardY rfl rfl rfl rfl ?_; obtain ⟨y45, hy45, H⟩ := bnd H
        have l0_3 := (leG16.trans leG21).trans leG42
        refine WL_op rfl (OpP_callVF hf3.1 (hf3.2 _ _ l0_3 hS.sat s11.2.1 _  hy45) rfl rfl rfl (fun w46 hb => ?_)); have hS := hS.keep hb; have hO := hO.below hb; refine WL_val (rn_pickT (v := (.bool y45)) rfl rfl rfl) rfl (WL_nil ?_)
        have hO : Owns G42 w46 w0.heap.size ([⟨78, 2, 1, .slice (some ⟨b23, 0, none⟩) 1 1, [iV q29.1.cost, .slice aq29_0 nq29_0 cq29_0]⟩, ⟨78, 2, 1, .slice (some ⟨b7, 0, none⟩) 1 1, [iV q29.2.1.cost, .slice aq29_1 nq29_1 cq29_1]⟩, ⟨78, 2, 1, .slice (some ⟨b4, 0, none⟩) 1 1, [iV q29.2.2.cost, .slice aq29_2 nq29_2 cq29_2]⟩]) := hO
        cases H
        exact ⟨_, G42, upds_self _ _ ⟨rfl, rfl, rfl, rfl, rfl, rfl, rfl, rfl, rfl, rfl, trivial⟩, Gle.refl _, hS, hO⟩
       ·have H := ifF hb44 H; refine WL_guardY rfl hb44 rfl rfl (WL_val (rn_loadA ag78 (cs := [iV q29.1.cost, .slice aq29_0 nq29_0 cq29_0]) rfl rfl (fun j v hj => own_sub hO (k := 0) rfl 0 2 j v hj)) rfl (WL_guardY rfl hb44 rfl rfl (WL_val (rn_loadA ag78 (cs := [iV q29.2.1.cost, .slice aq29_1 nq29_1 cq29_1]) rfl rfl (fun j v hj => own_sub hO (k := 1) rfl 0 2 j v hj)) rfl (WL_guardY rfl hb44 rfl rfl ?_)))); obtain ⟨y47, hy47, H⟩ := bnd H; refine WL_op rfl (OpP_callV cb84 (f84_ok (x0 := q29.1) (x1 := q29.2.1) hS.sat hq29_0 hq29_1 hy47) rfl rfl (fun w48 hb => ?_)); have hS := hS.keep hb; have hO := hO.below hb; refine wk hb44 2 rfl rfl ?_
        rcases bcases y47 with hb49 | hb49
        ·have H := ifT hb49 H; refine wk hb49 2 rfl rfl ?_; refine WL_guardY rfl hb49 rfl rfl ?_; obtain ⟨y50, hy50, H⟩ := bnd H
         have l0_3 := (leG16.trans leG21).trans leG42
         refine WL_op rfl (OpP_callVF hf3.1 (hf3.2 _ _ l0_3 hS.sat s11.2.1 _  hy50) rfl rfl rfl (fun w51 hb => ?_)); have hS := hS.keep hb; have hO := hO.below hb; refine WL_val (rn_pickT (v := (.bool y50)) rfl hb49 rfl) rfl (WL_nil ?_)
         have hO : Owns G42 w51 w0.heap.size ([⟨78, 2, 1, .slice (some ⟨b23, 0, none⟩) 1 1, [iV q29.1.cost, .slice aq29_0 nq29_0 cq29_0]⟩, ⟨78, 2, 1, .slice (some ⟨b7, 0, none⟩) 1 1, [iV q29.2.1.cost, .slice aq29_1 nq29_1 cq29_1]⟩, ⟨78, 2, 1, .slice (some ⟨b4, 0, none⟩) 1 1, [iV q29.2.2.cost, .slice aq29_2 nq29_2 cq29_2]⟩]) := hO
         cases H
         exact ⟨_, G42, upds_self _ _ ⟨rfl, rfl, rfl, rfl, rfl, rfl, rfl, rfl, rfl, rfl, trivial⟩, Gle.refl _, hS, hO⟩
        ·have H := ifF hb49 H; refine wk hb49 4 rfl rfl ?_; refine WL_nil ?_
         have hO : Owns G42 w48 w0.heap.size ([⟨78, 2, 1, .slice (some ⟨b23, 0, none⟩) 1 1, [iV q29.1.cost, .slice aq29_0 nq29_0 cq29_0]⟩, ⟨78, 2, 1, .slice (some ⟨b7, 0, none⟩) 1 1, [iV q29.2.1.cost, .slice aq29_1 nq29_1 cq29_1]⟩, ⟨78, 2, 1, .slice (some ⟨b4, 0, none⟩) 1 1, [iV q29.2.2.cost, .slice aq29_2 nq29_2 cq29_2]⟩]) := hO
         cases H
         exact ⟨_, G42, upds_self _ _ ⟨rfl, rfl, rfl, rfl, rfl, rfl, rfl, rfl, rfl, rfl, trivial⟩, Gle.refl _, hS, hO⟩
      ·rintro F w52 ⟨Fb, G53, rfl, leG53, hS, hO⟩
       refine WC_cond rfl (fun hb54 => ?_) (fun hb54 => ?_)
       ·have H := ifT hb54 H; refine WC_region (WL_val (rn_loadA ag78 (cs := [iV q29.1.cost, .slice aq29_0 nq29_0 cq29_0]) rfl rfl (fun j v hj => own_sub hO (k := 0) rfl 0 2 j v hj)) rfl (WL_op rfl (OpP_store (vs := [iV q29.1.cost, .slice aq29_0 nq29_0 cq29_0]) sz78 hS hO (k := 1) rfl rfl rfl rfl rfl (one_all rfl) (Nat.le_of_ble_eq_true rfl) (fun w55 hS hO => ?_))))
        have hO : Owns G53 w55 w0.heap.size ([⟨78, 2, 1, .slice (some ⟨b23, 0, none⟩) 1 1, [iV q29.1.cost, .slice aq29_0 nq29_0 cq29_0]⟩, ⟨78, 2, 1, .slice (some ⟨b7, 0, none⟩) 1 1, [iV q29.1.cost, .slice aq29_0 nq29_0 cq29_0]⟩, ⟨78, 2, 1, .slice (some ⟨b4, 0, none⟩) 1 1, [iV q29.2.2.cost, .slice aq29_2 nq29_2 cq29_2]⟩]) := hO
        refine WL_val (rn_assign (v := (.bool true)) rfl) rfl (WL_nil ?_); have hO := hO.drop 0
        have hO : Owns G53 w55 w0.heap.size ([⟨78, 2, 1, .slice (some ⟨b7, 0, none⟩) 1 1, [iV q29.1.cost, .slice aq29_0 nq29_0 cq29_0]⟩, ⟨78, 2, 1, .slice (some ⟨b4, 0, none⟩) 1 1, [iV q29.2.2.cost, .slice aq29_2 nq29_2 cq29_2]⟩]) := hO
        cases H
        have l1_4 := (leG21.trans leG42).trans leG53
        exact ⟨_, G53, aq29_0, nq29_0, cq29_0, aq29_2, nq29_2, cq29_2, upds_self _ _ ⟨rfl, rfl, rfl, rfl, rfl, rfl, rfl, rfl, trivial⟩, l1_4, hS, hO, (hq29_0.mono RInt_mono leG53), (hq29_2.mono RInt_mono leG53)⟩
       ·have H := ifF hb54 H; refine WC_skip ?_; have hO := hO.drop 0
        have hO : Owns G53 w52 w0.heap.size ([⟨78, 2, 1, .slice (some ⟨b7, 0, none⟩) 1 1, [iV q29.2.1.cost, .slice aq29_1 nq29_1 cq29_1]⟩, ⟨78, 2, 1, .slice (some ⟨b4, 0, none⟩) 1 1, [iV q29.2.2.cost, .slice aq29_2 nq29_2 cq29_2]⟩]) := hO
        cases H
        have l1_4 := (leG21.trans leG42).trans leG53
        exact ⟨_, G53, aq29_1, nq29_1, cq29_1, aq29_2, nq29_2, cq29_2, upds_self _ _ ⟨rfl, rfl, rfl, rfl, rfl, rfl, rfl, rfl, trivial⟩, l1_4, hS, hO, (hq29_1.mono RInt_mono leG53), (hq29_2.mono RInt_mono leG53)⟩
    ·rintro F w56 ⟨Fb, G57, aq18_0, nq18_0, cq18_0, aq18_1, nq18_1, cq18_1, rfl, leG57, hS, hO, hq18_0, hq18_1⟩
     refine WC_region ?_; refine wr 2 rfl ?_; refine WL_nil ?_
     have hO : Owns G57 w56 w0.heap.size ([⟨78, 2, 1, .slice (some ⟨b7, 0, none⟩) 1 1, [iV q18.2.1.cost, .slice aq18_0 nq18_0 cq18_0]⟩, ⟨78, 2, 1, .slice (some ⟨b4, 0, none⟩) 1 1, [iV q18.2.2.cost, .slice aq18_1 nq18_1 cq18_1]⟩]) := hO
     cases H; refine ⟨_, rfl, ?_⟩
     have l0_2 := leG16.trans leG57
     exact ⟨_, G57, aq18_0, nq18_0, cq18_0, aq18_1, nq18_1, cq18_1, upds_self _ _ ⟨rfl, rfl, rfl, rfl, rfl, rfl, rfl, rfl, trivial⟩, l0_2, hS, hO, hq18_0, hq18_1⟩
   ·have H := ifF hb17 H; refine WC_exit rfl ?_
    have hO : Owns G16 w15 w0.heap.size ([⟨78, 2, 1, .slice (some ⟨b7, 0, none⟩) 1 1, [iV s11.2.2.1.cost, .slice as11_0 ns11_0 cs11_0]⟩, ⟨78, 2, 1, .slice (some ⟨b4, 0, none⟩) 1 1, [iV s11.2.2.2.cost, .slice as11_1 ns11_1 cs11_1]⟩]) := hO
    cases H
    have hres := hqq13 _ rfl
    subst hres
    exact ⟨_, G16, as11_0, ns11_0, cs11_0, as11_1, ns11_1, cs11_1, upds_self _ _ ⟨rfl, rfl, rfl, trivial⟩, leG16, hS, hO, hs11_0, hs11_1⟩
 ·rintro F w58 ⟨Fb, G59, aq13_0, nq13_0, cq13_0, aq13_1, nq13_1, cq13_1, rfl, leG59, hS, hO, hq13_0, hq13_1⟩
  refine WC_seq (WC_region (WL_val (rn_loadA ag78 (cs := [iV q13.2.1.cost, .slice aq13_0 nq13_0 cq13_0]) rfl rfl (fun j v hj => own_sub hO (k := 0) rfl 0 2 j v hj)) rfl (WL_val (rn_move (v := (.bool q13.1)) rfl) rfl (WL_op rfl (OpP_store (vs := [iV q13.2.1.cost, .slice aq13_0 nq13_0 cq13_0]) sz78 hS hO (k := 1) rfl rfl rfl rfl rfl (one_all rfl) (Nat.le_of_ble_eq_true rfl) (fun w60 hS hO => ?_))))))
  have hO : Owns G59 w60 w0.heap.size ([⟨78, 2, 1, .slice (some ⟨b7, 0, none⟩) 1 1, [iV q13.2.1.cost, .slice aq13_0 nq13_0 cq13_0]⟩, ⟨78, 2, 1, .slice (some ⟨b4, 0, none⟩) 1 1, [iV q13.2.1.cost, .slice aq13_0 nq13_0 cq13_0]⟩]) := hO
  obtain ⟨G61, leG61, hS, hO, hqG61, _⟩ := hO.freeze hS (k := 1) rfl
  have hcG61 : Cells G61 b4 0 [iV q13.2.1.cost, .slice aq13_0 nq13_0 cq13_0] := (hqG61 _ _ _ _ rfl)
  refine WL_val (rn_assign (v := (.bool q13.1)) rfl) rfl (WL_nil (WC_ret ?_))
  have H : some (q13.2.1, q13.1) = some r := H
  cases H
  exact ⟨[.agg #[iV q13.2.1.cost, .slice aq13_0 nq13_0 cq13_0], .bool q13.1], ⟨⟨_, rfl, ld_agg (cs := [iV q13.2.1.cost, .slice aq13_0 nq13_0 cq13_0]) ag78 rfl (fun j v hj => hS.sat.cell (hcG61 j v hj))⟩, rfl, trivial⟩, ⟨_, _, rfl, hS.toGrow, _, _, _, rfl, (hq13_0.mono RInt_mono leG61)⟩⟩
set_option maxHeartbeats 1000000 in
theorem f24_ok {G0 : Gm} {w0 : World} (hS0 : Sat G0 w0) {x0 : TBaneTrip}  {r : Int} (H : f24 x0 = some r) :
  Calls Tryz.prog 24 #[.agg #[iV x0.Day, iV x0.From, iV x0.To, iV x0.Cost]] w0 (RetV w0 (iV r)) := by
 have hS := Since.start hS0
 have hO := own0 G0 w0
 unfold f24 at H
 refine enter1 (N := 5) (shutV _ _) Tryz.func24 rfl rfl rfl rfl (WC_seq (WC_region (WL_op rfl (OpP_newF (v := fun b => pV b) (cs := [iV x0.Day, iV x0.From, iV x0.To, iV x0.Cost]) (e := 82) (rn_boxA rfl) hS.sat rfl (fun b1 G3 w2 hg hcb1 => ?_))))); have hS := hS.grow hg; have hO := hO.grow hg
 have leG3 := hg.le
 refine WL_val (rn_assign (v := (iV 0)) rfl) rfl (WL_nil (WC_seq (WC_region (WL_run tabH (cellsW hS.sat hcb1) 3 [] rfl rfl an (WL_nil (WC_ret ?_))))))
 have H : some x0.Cost = some r := H
 cases H
 exact ⟨rfl, hS.below⟩
end Go.Proofs.YtdgkjgljkgjjiaaGreatDoor
