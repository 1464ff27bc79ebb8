/-
 What the Go functions compute, as plain functions (printed by a program of ours).
-/
import Derived.Test.YtcapocmenjcnhaaGreatDoorBsC
import Derived.Test.YtcapocmenjcnhaaGreatDoorProg
import Derived.Test.YtcapocmenjcnhaaGreatDoorBsA
import Derived.OrdersIn
import Derived.Test.YtcapocmenjcnhaaGreatDoorBsB
set_option linter.unusedVariables false
set_option linter.unusedSimpArgs false
namespace Go.Proofs.YtcapocmenjcnhaaGreatDoor
open Go.RowKit
structure qy where
 Low : Int
 High : Int
structure xS where
 Wet : qy
 Dry : qy
 Need : qy
structure zcr where
 Cap : Int
 Start : qy
 Roof : Int
 Sand : Int
 Soak : qy
 Leak : qy
 Pump : Int
 Keep : Int
 Size : Int
 Wells : (List Int)
 Months : (List xS)
 Most : Int
 Row : Int
structure xm where
 Mother : Int
 Adopted : Int
structure xT where
 Strip : Int
 Holder : Int
structure xn where
 From : Int
 To : Int
 Years : qy
structure zdU where
 People : (List xm)
 Events : (List xT)
 Memories : (List xn)
structure zr where
 Count : Int
 Room : Int
 Grow : qy
 Drift : Int
 Into : Int
 Open : qy
 Shut : qy
 Goal : Int
 Worth : Int
structure qz where
 Places : (List zr)
 Miss : Int
 Seasons : Int
structure jx where
 Day : Int
 From : Int
 To : Int
 Cost : Int
structure zf1 where
 Islets : Int
 Infested : (List Int)
 Clean : (List Int)
 Trips : (List jx)
 Wait : Int
structure zdg where
 Goods : (List qy)
 Weight : Int
 Cost : Int
structure zcq where
 Stock : (List Int)
 Use : (List qy)
 Gap : qy
 Lots : (List zdg)
 Hold : Int
structure jw where
 Need : Int
 Keep : Int
 Must : Bool
structure zbg where
 Sunny : Int
 Cloudy : Int
 Size : Int
 Fade : Int
 Start : Int
 Loads : (List jw)
 Days : Int
 Window : Int
 Most : Int
 Panel : Int
 Battery : Int
structure zdV where
 Cells : Int
 Roads : (List Int)
 Zones : (List Int)
 Berths : (List Int)
 Days : Int
structure zJ where
 Islet : zcr
 Tank : Int
 Book : zdU
 Reef : qz
 Sea : zf1
 Store : zcq
 System : zbg
 Fishing : zdV
 Money : Int
structure qT where
 Starts : (List Int)
 Grows : (List (List Int))
 Takes : (List (List Int))
structure qi where
 Reef : qz
 plan : (List Int)
def clB (b : Int) (i : Nat) : Bool := zhT .i64 (b.fdiv (2 ^ min i IntKind.i64.bits)) 1 == 1
def qK (b : Int) : Nat → Nat → List Int
 | _, 0 => []
 | i, m + 1 => if clB b i = true then (i : Int) :: qK b (i + 1) m else qK b (i + 1) m
def znX (y : Int) : List Value := [.int .i64 y]
noncomputable def zdN (x0 : zJ) (s20 : Int) : Option (Int ⊕ (Unit ⊕ Bool)) :=
 ((if (decide (s20 < (x0.Store.Lots.length : Int))) = true then (some (decide (s20 < 8))) else (some false) : Option Bool)).bind fun q26 => if q26 = true then ((ix x0.Store.Lots s20).bind fun y31 => if (decide (8 < (y31.Goods.length : Int))) = true then (some (.inr (.inr false))) else (some (.inl (IntKind.i64.wrap (s20 + 1))))) else (some (.inr (.inl ())))
noncomputable def f13 (x0 : zJ) : Option Bool :=
 (lp (zdN x0) 0).bind fun q22 => Sum.elim (fun p21 : Unit => ((if (decide ((x0.Islet.Wells.length : Int) ≤ 8)) = true then (if (decide ((x0.Islet.Months.length : Int) ≤ 4)) = true then (if (decide ((x0.Book.People.length : Int) ≤ 12)) = true then (if (decide ((x0.Book.Events.length : Int) ≤ 9)) = true then (if (decide ((x0.Book.Memories.length : Int) ≤ 12)) = true then (if (decide ((x0.Reef.Places.length : Int) ≤ 3)) = true then (if (decide (x0.Reef.Seasons ≤ 2)) = true then (if (decide ((x0.Sea.Infested.length : Int) ≤ 10)) = true then (if (decide ((x0.Sea.Clean.length : Int) ≤ 10)) = true then (if (decide ((x0.Sea.Trips.length : Int) ≤ 8)) = true then (if (decide ((x0.Store.Stock.length : Int) ≤ 8)) = true then (if (decide ((x0.Store.Use.length : Int) ≤ 8)) = true then (if (decide ((x0.Store.Lots.length : Int) ≤ 8)) = true then (if (decide ((x0.System.Loads.length : Int) ≤ 7)) = true then (if (decide (x0.System.Days ≤ 4)) = true then (if (decide ((x0.Fishing.Roads.length : Int) ≤ 10)) = true then (if (decide ((x0.Fishing.Zones.length : Int) ≤ 5)) = true then (some (decide ((x0.Fishing.Berths.length : Int) ≤ 5))) else (some false)) else (some false)) else (some false)) else (some false)) else (some false)) else (some false)) else (some false)) else (some false)) else (some false)) else (some false)) else (some false)) else (some false)) else (some false)) else (some false)) else (some false)) else (some false)) else (some false) : Option Bool)).bind fun q37 => some q37) (fun v57 : Bool => some v57) q22
noncomputable def zpb (x0 : (List Int)) : Option (List Int) :=
 (app [] x0).bind fun y3 => some y3
noncomputable def zpa (x0 : (List xS)) : Option (List xS) :=
 (app [] x0).bind fun y3 => some y3
noncomputable def zo9 (x0 : (List xm)) : Option (List xm) :=
 (app [] x0).bind fun y3 => some y3
noncomputable def zo8 (x0 : (List xT)) : Option (List xT) :=
 (app [] x0).bind fun y3 => some y3
noncomputable def zo7 (x0 : (List xn)) : Option (List xn) :=
 (app [] x0).bind fun y3 => some y3
noncomputable def zo6 (x0 : (List zr)) : Option (List zr) :=
 (app [] x0).bind fun y3 => some y3
noncomputable def zo5 (x0 : (List jx)) : Option (List jx) :=
 (app [] x0).bind fun y3 => some y3
noncomputable def zo4 (x0 : (List qy)) : Option (List qy) :=
 (app [] x0).bind fun y3 => some y3
noncomputable def zo3 (x0 : (List jw)) : Option (List jw) :=
 (app [] x0).bind fun y3 => some y3
noncomputable def f16 (x0 : Int) (x1 : Int) (x2 : Int) : Option Bool :=
 ((if (decide (x1 ≤ x0)) = true then (some (decide (x0 ≤ x2))) else (some false) : Option Bool)).bind fun q1 => some q1
noncomputable def zdM (x0 : qz) (s5 : Int × Int) : Option ((Int × Int) ⊕ Int) :=
 if (decide (s5.2 < (x0.Places.length : Int))) = true then (some (.inl (IntKind.i64.wrap (2 * s5.1), IntKind.i64.wrap (s5.2 + 1)))) else (some (.inr s5.1))
noncomputable def f17 (x0 : qz) : Option Int :=
 (lp (zdM x0) (1, 0)).bind fun q7 => some q7
noncomputable def zgY (x0 : qz) (x1 : (List Int)) (s6 : Int) : Option (Int ⊕ (Unit ⊕ Bool)) :=
 if (decide (s6 < (x1.length : Int))) = true then ((ix x1 s6).bind fun y13 => (f17 x0).bind fun y15 => (f16 y13 0 (IntKind.i64.wrap (y15 - 1))).bind fun y17 => if (!y17) = true then (some (.inr (.inr false))) else (some (.inl (IntKind.i64.wrap (s6 + 1))))) else (some (.inr (.inl ())))
noncomputable def f5 (x0 : qz) (x1 : (List Int)) : Option Bool :=
 (lp (zgY x0 x1) 0).bind fun q8 => Sum.elim (fun p7 : Unit => some ((x1.length : Int) == x0.Seasons)) (fun v22 : Bool => some v22) q8
noncomputable def zdI (x1 : Int) (s1 : Int × Int) : Option ((Int × Int) ⊕ Int) :=
 if (decide (s1.2 < x1)) = true then (some (.inl (IntKind.i64.wrap (s1.1.tdiv 2), IntKind.i64.wrap (s1.2 + 1)))) else (some (.inr s1.1))
noncomputable def f28 (x0 : Int) (x1 : Int) : Option Bool :=
 (lp (zdI x1) (x0, 0)).bind fun q3 => some ((q3.tmod 2) == 1)
noncomputable def zgW (s6 : Int × Int) (x0 : qz) (x1 : (List Int)) (s13 : Int × Int) : Option ((Int × Int) ⊕ Int) :=
 if (decide (s13.2 < (x0.Places.length : Int))) = true then ((((ix x1 s6.2).bind fun y21 => (f28 y21 s13.2).bind fun y23 => if y23 = true then ((ix x0.Places s13.2).bind fun y26 => some (IntKind.i64.wrap (s13.1 + y26.Worth))) else (some s13.1) : Option Int)).bind fun q20 => some (.inl (q20, IntKind.i64.wrap (s13.2 + 1)))) else (some (.inr s13.1))
noncomputable def zgX (x0 : qz) (x1 : (List Int)) (s6 : Int × Int) : Option ((Int × Int) ⊕ Int) :=
 if (decide (s6.2 < (x1.length : Int))) = true then ((lp (zgW s6 x0 x1) (s6.1, 0)).bind fun q15 => some (.inl (q15, IntKind.i64.wrap (s6.2 + 1)))) else (some (.inr s6.1))
noncomputable def f8 (x0 : qz) (x1 : (List Int)) : Option Int :=
 (lp (zgX x0 x1) (0, 0)).bind fun q8 => some q8
noncomputable def f32 (x0 : qz) (x1 : Int) : Option Int :=
 some (IntKind.i64.wrap (x1 + (IntKind.i64.wrap ((IntKind.i64.wrap (x1 * x0.Miss)).tdiv 1000))))
noncomputable def f33 (x0 : Int) (x1 : qy) : Option Bool :=
 (f16 x0 x1.Low x1.High).bind fun y4 => some y4
noncomputable def f34 (x0 : zr) (x1 : Bool) : Option qy :=
 if x1 = true then (some x0.Shut) else (some x0.Open)
noncomputable def zdQ (x0 : qz) (x2 : qT) (s18 : Int) : Option (Int ⊕ (Unit ⊕ Bool)) :=
 if (decide (s18 < (x0.Places.length : Int))) = true then ((ix x2.Starts s18).bind fun y25 => (ix x0.Places s18).bind fun y27 => (f32 x0 y27.Count).bind fun y30 => (f16 y25 y27.Count y30).bind fun y32 => if (!y32) = true then (some (.inr (.inr false))) else (some (.inl (IntKind.i64.wrap (s18 + 1))))) else (some (.inr (.inl ())))
noncomputable def zdO (s37 : Int) (x0 : qz) (x1 : (List Int)) (x2 : qT) (s55 : Int) : Option (Int ⊕ (Unit ⊕ Bool)) :=
 if (decide (s55 < (x0.Places.length : Int))) = true then ((((ix x2.Grows s37).bind fun y63 => (ix y63 s55).bind fun y66 => (ix x0.Places s55).bind fun y68 => (f33 y66 y68.Grow).bind fun y70 => if (!y70) = true then (some true) else ((ix x2.Takes s37).bind fun y73 => (ix y73 s55).bind fun y76 => (ix x1 s37).bind fun y79 => (f28 y79 s55).bind fun y81 => (f34 y68 y81).bind fun y83 => (f33 y76 y83).bind fun y85 => some (!y85)) : Option Bool)).bind fun q62 => if q62 = true then (some (.inr (.inr false))) else (some (.inl (IntKind.i64.wrap (s55 + 1))))) else (some (.inr (.inl ())))
noncomputable def zdP (x0 : qz) (x1 : (List Int)) (x2 : qT) (s37 : Int) : Option (Int ⊕ (Unit ⊕ Bool)) :=
 if (decide (s37 < x0.Seasons)) = true then ((((ix x2.Grows s37).bind fun y45 => if ((y45.length : Int) != (x0.Places.length : Int)) = true then (some true) else ((ix x2.Takes s37).bind fun y49 => some ((y49.length : Int) != (x0.Places.length : Int))) : Option Bool)).bind fun q44 => if q44 = true then (some (.inr (.inr false))) else ((lp (zdO s37 x0 x1 x2) 0).bind fun q57 => Sum.elim (fun p56 : Unit => some (.inl (IntKind.i64.wrap (s37 + 1)))) (fun v92 : Bool => some (.inr (.inr v92))) q57)) else (some (.inr (.inl ())))
noncomputable def f11 (x0 : qz) (x1 : (List Int)) (x2 : qT) : Option Bool :=
 ((if ((x2.Starts.length : Int) != (x0.Places.length : Int)) = true then (some true) else (if ((x2.Grows.length : Int) != x0.Seasons) = true then (some true) else (some ((x2.Takes.length : Int) != x0.Seasons))) : Option Bool)).bind fun q12 => if q12 = true then (some false) else ((lp (zdQ x0 x2) 0).bind fun q20 => Sum.elim (fun p19 : Unit => (lp (zdP x0 x1 x2) 0).bind fun q39 => Sum.elim (fun p38 : Unit => some true) (fun v95 : Bool => some v95) q39) (fun v96 : Bool => some v96) q20)
noncomputable def f75 (x0 : Int) (x1 : Int) (x2 : Int) : Option Bool :=
 ((if (decide (x1 ≤ x0)) = true then (some (decide (x0 ≤ x2))) else (some false) : Option Bool)).bind fun q1 => some q1
noncomputable def zjU (x0 : qy) (x1 : Int) : Option Bool :=
 ((if (decide (0 ≤ x0.Low)) = true then (if (decide (x0.Low ≤ x0.High)) = true then (some (decide (x0.High ≤ x1))) else (some false)) else (some false) : Option Bool)).bind fun q4 => some q4
noncomputable def f74 (x0 : zr) (x1 : Int) (x2 : Int) : Option Bool :=
 ((if (x0.Into != (-1)) = true then ((f75 x0.Into 0 (IntKind.i64.wrap (x2 - 1))).bind fun y6 => if (!y6) = true then (some true) else (some (x0.Into == x1))) else (some false) : Option Bool)).bind fun q4 => if q4 = true then (some false) else ((((f75 x0.Count 0 1000000).bind fun y13 => if y13 = true then ((f75 x0.Room 0 1000000).bind fun y16 => if y16 = true then ((f75 x0.Goal 0 1000000).bind fun y19 => if y19 = true then ((zjU x0.Grow 2000).bind fun y22 => if y22 = true then ((f75 x0.Drift 0 1000).bind fun y25 => if y25 = true then ((zjU x0.Open 1000000).bind fun y28 => if y28 = true then ((zjU x0.Shut 1000000).bind fun y31 => if y31 = true then (if (decide (x0.Shut.Low ≤ x0.Open.Low)) = true then (if (decide (x0.Shut.High ≤ x0.Open.High)) = true then ((f75 x0.Worth 0 1000000).bind fun y36 => some y36) else (some false)) else (some false)) else (some false)) else (some false)) else (some false)) else (some false)) else (some false)) else (some false)) else (some false) : Option Bool)).bind fun q12 => some q12)
noncomputable def zdL (x0 : qz) (s5 : Int) : Option (Int ⊕ (Unit ⊕ Bool)) :=
 if (decide (s5 < (x0.Places.length : Int))) = true then ((ix x0.Places s5).bind fun y12 => (f74 y12 s5 (x0.Places.length : Int)).bind fun y19 => if (!y19) = true then (some (.inr (.inr false))) else (some (.inl (IntKind.i64.wrap (s5 + 1))))) else (some (.inr (.inl ())))
noncomputable def f24 (x0 : qz) : Option Bool :=
 (lp (zdL x0) 0).bind fun q7 => Sum.elim (fun p6 : Unit => (((f75 (x0.Places.length : Int) 1 4).bind fun y25 => if y25 = true then ((f75 x0.Miss 0 2000).bind fun y28 => if y28 = true then ((f75 x0.Seasons 1 4).bind fun y31 => some y31) else (some false)) else (some false) : Option Bool)).bind fun q24 => some q24) (fun v35 : Bool => some v35) q7
noncomputable def zby (x0 : (List Int)) (x1 : (Int → Option Bool)) (s3 : Int) : Option (Int ⊕ (Unit ⊕ Int)) :=
 if (decide (s3 < (x0.length : Int))) = true then ((ix x0 s3).bind fun y10 => (x1 y10).bind fun y12 => if y12 = true then (some (.inr (.inr s3))) else (some (.inl (IntKind.i64.wrap (s3 + 1))))) else (some (.inr (.inl ())))
noncomputable def znU (x0 : (List Int)) (x1 : (Int → Option Bool)) : Option Int :=
 (lp (zby x0 x1) 0).bind fun q5 => Sum.elim (fun p4 : Unit => some (-1)) (fun v17 : Int => some v17) q5
noncomputable def f89 (x0 : (List Int)) (x1 : (Int → Option Bool)) : Option Bool :=
 (znU x0 x1).bind fun y3 => some (decide (0 ≤ y3))
noncomputable def f90 (x0 : Int) (x1 : qi) : Option Bool :=
 (zlO .i64 1 (x1.Reef.Places.length : Int)).bind fun y3 => (f75 x0 0 (IntKind.i64.wrap (y3 - 1))).bind fun y4 => some (!y4)
noncomputable def f35 (x0 : qi) : Option Bool :=
 (((f24 x0.Reef).bind fun y7 => if y7 = true then (if ((x0.plan.length : Int) == x0.Reef.Seasons) = true then ((f89 x0.plan (fun (z0 : Int) => f90 z0 x0)).bind fun y12 => some (!y12)) else (some false)) else (some false) : Option Bool)).bind fun q6 => some q6
noncomputable def zhK (x0 : qz) : Option Int :=
 (f24 x0).bind fun y5 => if (!y5) = true then (some 2) else (some 0)
noncomputable def zdH (x0 : qi) (s10 : Int × (List qy)) : Option ((Int × (List qy)) ⊕ (List qy)) :=
 if (decide (s10.1 < (x0.Reef.Places.length : Int))) = true then ((ix x0.Reef.Places s10.1).bind fun y17 => (app s10.2 [y17.Open]).bind fun y27 => some (.inl (IntKind.i64.wrap (s10.1 + 1), y27))) else (some (.inr s10.2))
noncomputable def zdG (x0 : qi) (y37 : Int) (s36 : (List qy)) : Option ((List qy) ⊕ Empty) :=
 (ix x0.Reef.Places y37).bind fun y44 => (ix s36 y37).bind fun y46 => (jK s36 y37 y44.Shut).bind fun y48 => some (.inl y48)
noncomputable def f93 (x0 : qi) (x1 : Int) : Option (List qy) :=
 (lp (zdH x0) (0, [])).bind fun q12 => (ix x0.plan x1).bind fun y32 => (rg (zdG x0) (qK y32 0 x0.Reef.Places.length) q12).bind fun q38 => Sum.elim (fun s36 : (List qy) => some s36) (fun e : Empty => e.elim) q38
noncomputable def f92 (x0 : qi) (x1 : zr) : Option qy :=
 some (⟨x1.Count, IntKind.i64.wrap (x1.Count + (IntKind.i64.wrap ((IntKind.i64.wrap (x1.Count * x0.Reef.Miss)).tdiv 1000)))⟩ : qy)
noncomputable def f91 (x0 : Int) (x1 : qy) : Option Bool :=
 (f75 x0 x1.Low x1.High).bind fun y4 => some y4
noncomputable def zdJ (x0 : qi) (y22 : Int) (s21 : Int) : Option (Int ⊕ Empty) :=
 (ix x0.Reef.Places y22).bind fun y29 => some (.inl (IntKind.i64.wrap (s21 + y29.Worth)))
noncomputable def zdK (x0 : qi) (s10 : Int × Int) : Option ((Int × Int) ⊕ Int) :=
 if (decide (s10.1 < x0.Reef.Seasons)) = true then ((ix x0.plan s10.1).bind fun y17 => (rg (zdJ x0) (qK y17 0 x0.Reef.Places.length) s10.2).bind fun q23 => Sum.elim (fun s21 : Int => some (.inl (IntKind.i64.wrap (s10.1 + 1), s21))) (fun e : Empty => e.elim) q23) else (some (.inr s10.2))
noncomputable def f26 (x0 : qi) : Option Int :=
 (lp (zdK x0) (0, 0)).bind fun q12 => some q12
noncomputable def zfD (x0 : (List Int)) (s2 : Int × Int) : Option ((Int × Int) ⊕ Int) :=
 if (decide (s2.2 < (x0.length : Int))) = true then ((ix x0 s2.2).bind fun y9 => some (.inl (IntKind.i64.wrap (s2.1 + y9), IntKind.i64.wrap (s2.2 + 1)))) else (some (.inr s2.1))
noncomputable def f94 (x0 : (List Int)) : Option Int :=
 (lp (zfD x0) (0, 0)).bind fun q4 => some q4
noncomputable def ziM (x0 : Int) (x1 : Int) (x2 : Int) : Option Bool :=
 ((if (decide (x1 ≤ x0)) = true then (some (decide (x0 ≤ x2))) else (some false) : Option Bool)).bind fun q1 => some q1
end Go.Proofs.YtcapocmenjcnhaaGreatDoor
/-
 How the structures lie in memory; closed facts on the program (printed by a program of ours).
-/
namespace Go.Proofs.YtcapocmenjcnhaaGreatDoor
open Go.RowKit
def yM : Gm → List Value → qy → Prop := fun _ cs x => cs = [.int .i64 x.Low, .int .i64 x.High]
theorem yp : zaE yM := fun _ _ _ _ _ h => h
theorem zf2 : One yM := fun _ _ _ h => by unfold yM at h; subst h; exact zR rfl
def qV : Gm → List Value → xS → Prop := fun _ cs x => cs = [.int .i64 x.Wet.Low, .int .i64 x.Wet.High, .int .i64 x.Dry.Low, .int .i64 x.Dry.High, .int .i64 x.Need.Low, .int .i64 x.Need.High]
theorem xj : zaE qV := fun _ _ _ _ _ h => h
theorem zqo : One qV := fun _ _ _ h => by unfold qV at h; subst h; exact zR rfl
def zra : Gm → List Value → zcr → Prop := fun G cs x => ∃ (a0 : Option Addr) (n0 c0 : Nat) (a1 : Option Addr) (n1 c1 : Nat), cs = [.int .i64 x.Cap, .int .i64 x.Start.Low, .int .i64 x.Start.High, .int .i64 x.Roof, .int .i64 x.Sand, .int .i64 x.Soak.Low, .int .i64 x.Soak.High, .int .i64 x.Leak.Low, .int .i64 x.Leak.High, .int .i64 x.Pump, .int .i64 x.Keep, .int .i64 x.Size, .slice a0 n0 c0, .slice a1 n1 c1, .int .i64 x.Most, .int .i64 x.Row] ∧ RSl zW 1 G a0 n0 c0 x.Wells ∧ RSl qV 6 G a1 n1 c1 x.Months
def qG : Gm → List Value → xm → Prop := fun _ cs x => cs = [.int .i64 x.Mother, .int .i64 x.Adopted]
theorem yy : zaE qG := fun _ _ _ _ _ h => h
theorem zqg : One qG := fun _ _ _ h => by unfold qG at h; subst h; exact zR rfl
def qW : Gm → List Value → xT → Prop := fun _ cs x => cs = [.int .i64 x.Strip, .int .i64 x.Holder]
theorem yG : zaE qW := fun _ _ _ _ _ h => h
theorem zqp : One qW := fun _ _ _ h => by unfold qW at h; subst h; exact zR rfl
def qH : Gm → List Value → xn → Prop := fun _ cs x => cs = [.int .i64 x.From, .int .i64 x.To, .int .i64 x.Years.Low, .int .i64 x.Years.High]
theorem yz : zaE qH := fun _ _ _ _ _ h => h
theorem zqh : One qH := fun _ _ _ h => by unfold qH at h; subst h; exact zR rfl
def zrM : Gm → List Value → zdU → Prop := fun G cs x => ∃ (a0 : Option Addr) (n0 c0 : Nat) (a1 : Option Addr) (n1 c1 : Nat) (a2 : Option Addr) (n2 c2 : Nat), cs = [.slice a0 n0 c0, .slice a1 n1 c1, .slice a2 n2 c2] ∧ RSl qG 2 G a0 n0 c0 x.People ∧ RSl qW 2 G a1 n1 c1 x.Events ∧ RSl qH 4 G a2 n2 c2 x.Memories
def zE : Gm → List Value → zr → Prop := fun _ cs x => cs = [.int .i64 x.Count, .int .i64 x.Room, .int .i64 x.Grow.Low, .int .i64 x.Grow.High, .int .i64 x.Drift, .int .i64 x.Into, .int .i64 x.Open.Low, .int .i64 x.Open.High, .int .i64 x.Shut.Low, .int .i64 x.Shut.High, .int .i64 x.Goal, .int .i64 x.Worth]
theorem zl : zaE zE := fun _ _ _ _ _ h => h
theorem zqn : One zE := fun _ _ _ h => by unfold zE at h; subst h; exact zR rfl
def zxY : Gm → List Value → qz → Prop := fun G cs x => ∃ (a0 : Option Addr) (n0 c0 : Nat), cs = [.slice a0 n0 c0, .int .i64 x.Miss, .int .i64 x.Seasons] ∧ RSl zE 12 G a0 n0 c0 x.Places
def yo : Gm → List Value → jx → Prop := fun _ cs x => cs = [.int .i64 x.Day, .int .i64 x.From, .int .i64 x.To, .int .i64 x.Cost]
theorem yS : zaE yo := fun _ _ _ _ _ h => h
theorem zqu : One yo := fun _ _ _ h => by unfold yo at h; subst h; exact zR rfl
def zsI : Gm → List Value → zf1 → Prop := fun G cs x => ∃ (a0 : Option Addr) (n0 c0 : Nat) (a1 : Option Addr) (n1 c1 : Nat) (a2 : Option Addr) (n2 c2 : Nat), cs = [.int .i64 x.Islets, .slice a0 n0 c0, .slice a1 n1 c1, .slice a2 n2 c2, .int .i64 x.Wait] ∧ RSl zW 1 G a0 n0 c0 x.Infested ∧ RSl zW 1 G a1 n1 c1 x.Clean ∧ RSl yo 4 G a2 n2 c2 x.Trips
def yR : Gm → List Value → zdg → Prop := fun G cs x => ∃ (a0 : Option Addr) (n0 c0 : Nat), cs = [.slice a0 n0 c0, .int .i64 x.Weight, .int .i64 x.Cost] ∧ RSl yM 2 G a0 n0 c0 x.Goods
theorem ym : zaE yR := fun _ _ _ _ hle ⟨a0, n0, c0, h, h0⟩ => ⟨a0, n0, c0, h, h0.mono yp hle⟩
theorem zqy : One yR := fun _ _ _ ⟨_, _, _, h, _⟩ => by subst h; exact zR rfl
def zq8 : Gm → List Value → zcq → Prop := fun G cs x => ∃ (a0 : Option Addr) (n0 c0 : Nat) (a1 : Option Addr) (n1 c1 : Nat) (a2 : Option Addr) (n2 c2 : Nat), cs = [.slice a0 n0 c0, .slice a1 n1 c1, .int .i64 x.Gap.Low, .int .i64 x.Gap.High, .slice a2 n2 c2, .int .i64 x.Hold] ∧ RSl zW 1 G a0 n0 c0 x.Stock ∧ RSl yM 2 G a1 n1 c1 x.Use ∧ RSl yR 3 G a2 n2 c2 x.Lots
def yn : Gm → List Value → jw → Prop := fun _ cs x => cs = [.int .i64 x.Need, .int .i64 x.Keep, .bool x.Must]
theorem ji : zaE yn := fun _ _ _ _ _ h => h
theorem zqt : One yn := fun _ _ _ h => by unfold yn at h; subst h; exact zR rfl
def zqO : Gm → List Value → zbg → Prop := fun G cs x => ∃ (a0 : Option Addr) (n0 c0 : Nat), cs = [.int .i64 x.Sunny, .int .i64 x.Cloudy, .int .i64 x.Size, .int .i64 x.Fade, .int .i64 x.Start, .slice a0 n0 c0, .int .i64 x.Days, .int .i64 x.Window, .int .i64 x.Most, .int .i64 x.Panel, .int .i64 x.Battery] ∧ RSl yn 3 G a0 n0 c0 x.Loads
def zrN : Gm → List Value → zdV → Prop := fun G cs x => ∃ (a0 : Option Addr) (n0 c0 : Nat) (a1 : Option Addr) (n1 c1 : Nat) (a2 : Option Addr) (n2 c2 : Nat), cs = [.int .i64 x.Cells, .slice a0 n0 c0, .slice a1 n1 c1, .slice a2 n2 c2, .int .i64 x.Days] ∧ RSl zW 1 G a0 n0 c0 x.Roads ∧ RSl zW 1 G a1 n1 c1 x.Zones ∧ RSl zW 1 G a2 n2 c2 x.Berths
def qh : Gm → List Value → zJ → Prop := fun G cs x => ∃ (a0 : Option Addr) (n0 c0 : Nat) (a1 : Option Addr) (n1 c1 : Nat) (a2 : Option Addr) (n2 c2 : Nat) (a3 : Option Addr) (n3 c3 : Nat) (a4 : Option Addr) (n4 c4 : Nat) (a5 : Option Addr) (n5 c5 : Nat) (a6 : Option Addr) (n6 c6 : Nat) (a7 : Option Addr) (n7 c7 : Nat) (a8 : Option Addr) (n8 c8 : Nat) (a9 : Option Addr) (n9 c9 : Nat) (a10 : Option Addr) (n10 c10 : Nat) (a11 : Option Addr) (n11 c11 : Nat) (a12 : Option Addr) (n12 c12 : Nat) (a13 : Option Addr) (n13 c13 : Nat) (a14 : Option Addr) (n14 c14 : Nat) (a15 : Option Addr) (n15 c15 : Nat), cs = [.int .i64 x.Islet.Cap, .int .i64 x.Islet.Start.Low, .int .i64 x.Islet.Start.High, .int .i64 x.Islet.Roof, .int .i64 x.Islet.Sand, .int .i64 x.Islet.Soak.Low, .int .i64 x.Islet.Soak.High, .int .i64 x.Islet.Leak.Low, .int .i64 x.Islet.Leak.High, .int .i64 x.Islet.Pump, .int .i64 x.Islet.Keep, .int .i64 x.Islet.Size, .slice a0 n0 c0, .slice a1 n1 c1, .int .i64 x.Islet.Most, .int .i64 x.Islet.Row, .int .i64 x.Tank, .slice a2 n2 c2, .slice a3 n3 c3, .slice a4 n4 c4, .slice a5 n5 c5, .int .i64 x.Reef.Miss, .int .i64 x.Reef.Seasons, .int .i64 x.Sea.Islets, .slice a6 n6 c6, .slice a7 n7 c7, .slice a8 n8 c8, .int .i64 x.Sea.Wait, .slice a9 n9 c9, .slice a10 n10 c10, .int .i64 x.Store.Gap.Low, .int .i64 x.Store.Gap.High, .slice a11 n11 c11, .int .i64 x.Store.Hold, .int .i64 x.System.Sunny, .int .i64 x.System.Cloudy, .int .i64 x.System.Size, .int .i64 x.System.Fade, .int .i64 x.System.Start, .slice a12 n12 c12, .int .i64 x.System.Days, .int .i64 x.System.Window, .int .i64 x.System.Most, .int .i64 x.System.Panel, .int .i64 x.System.Battery, .int .i64 x.Fishing.Cells, .slice a13 n13 c13, .slice a14 n14 c14, .slice a15 n15 c15, .int .i64 x.Fishing.Days, .int .i64 x.Money] ∧ RSl zW 1 G a0 n0 c0 x.Islet.Wells ∧ RSl qV 6 G a1 n1 c1 x.Islet.Months ∧ RSl qG 2 G a2 n2 c2 x.Book.People ∧ RSl qW 2 G a3 n3 c3 x.Book.Events ∧ RSl qH 4 G a4 n4 c4 x.Book.Memories ∧ RSl zE 12 G a5 n5 c5 x.Reef.Places ∧ RSl zW 1 G a6 n6 c6 x.Sea.Infested ∧ RSl zW 1 G a7 n7 c7 x.Sea.Clean ∧ RSl yo 4 G a8 n8 c8 x.Sea.Trips ∧ RSl zW 1 G a9 n9 c9 x.Store.Stock ∧ RSl yM 2 G a10 n10 c10 x.Store.Use ∧ RSl yR 3 G a11 n11 c11 x.Store.Lots ∧ RSl yn 3 G a12 n12 c12 x.System.Loads ∧ RSl zW 1 G a13 n13 c13 x.Fishing.Roads ∧ RSl zW 1 G a14 n14 c14 x.Fishing.Zones ∧ RSl zW 1 G a15 n15 c15 x.Fishing.Berths
theorem qD : zaE qh := fun _ _ _ _ hle ⟨a0, n0, c0, a1, n1, c1, a2, n2, c2, a3, n3, c3, a4, n4, c4, a5, n5, c5, a6, n6, c6, a7, n7, c7, a8, n8, c8, a9, n9, c9, a10, n10, c10, a11, n11, c11, a12, n12, c12, a13, n13, c13, a14, n14, c14, a15, n15, c15, h, h0, h1, h2, h3, h4, h5, h6, h7, h8, h9, h10, h11, h12, h13, h14, h15⟩ => ⟨a0, n0, c0, a1, n1, c1, a2, n2, c2, a3, n3, c3, a4, n4, c4, a5, n5, c5, a6, n6, c6, a7, n7, c7, a8, n8, c8, a9, n9, c9, a10, n10, c10, a11, n11, c11, a12, n12, c12, a13, n13, c13, a14, n14, c14, a15, n15, c15, h, h0.mono zm hle, h1.mono xj hle, h2.mono yy hle, h3.mono yG hle, h4.mono yz hle, h5.mono zl hle, h6.mono zm hle, h7.mono zm hle, h8.mono yS hle, h9.mono zm hle, h10.mono yp hle, h11.mono ym hle, h12.mono ji hle, h13.mono zm hle, h14.mono zm hle, h15.mono zm hle⟩
def zq9 : Gm → List Value → qT → Prop := fun G cs x => ∃ (a0 : Option Addr) (n0 c0 : Nat) (a1 : Option Addr) (n1 c1 : Nat) (a2 : Option Addr) (n2 c2 : Nat), cs = [.slice a0 n0 c0, .slice a1 n1 c1, .slice a2 n2 c2] ∧ RSl zW 1 G a0 n0 c0 x.Starts ∧ RSl (yd zW 1) 1 G a1 n1 c1 x.Grows ∧ RSl (yd zW 1) 1 G a2 n2 c2 x.Takes
def FnOk136 (G : Gm) (k : Nat) (fi ca : List Value) (g : (Int → Option Bool)) : Prop := zN Tryz.prog k = true ∧ ∀ (G1 : Gm) (w : World), Gle G G1 → Sat G1 w → ∀ (z0 : Int) (r : Bool), g z0 = some r → Calls Tryz.prog k (fi ++ ([.int .i64 z0] : List Value) ++ ca).toArray w (qQ w (.bool r))
theorem FnOk136.mono {G G' : Gm} {k : Nat} {fi ca : List Value} {g : (Int → Option Bool)} (h : FnOk136 G k fi ca g) (hle : Gle G G') : FnOk136 G' k fi ca g := ⟨h.1, fun G1 w hl hw => h.2 G1 w (hle.trans hl) hw⟩
def tab : Tab := ⟨[(23, 0, 0), (23, 1, 1), (27, 9, 12), (27, 10, 13), (32, 0, 0), (32, 1, 1), (32, 2, 2), (35, 0, 0), (35, 1, 1), (35, 2, 2), (38, 1, 1), (38, 2, 2), (38, 3, 3), (42, 0, 0), (42, 1, 1), (42, 3, 4), (45, 5, 5), (45, 6, 6), (47, 1, 1), (47, 2, 2), (47, 3, 3), (49, 0, 0), (49, 2, 17), (49, 3, 20), (49, 4, 23), (49, 5, 28), (49, 6, 34), (49, 7, 45), (52, 0, 0), (52, 1, 1), (52, 2, 2), (70, 0, 0), (70, 1, 1), (70, 3, 4), (70, 4, 5), (70, 5, 6), (70, 6, 8), (70, 7, 10), (70, 8, 11), (91, 0, 0), (91, 1, 3)], [3, 24, 25, 28, 29, 30, 33, 36, 39, 40, 43, 50], [24, 25, 28, 29, 30, 33, 36, 39, 40, 43, 50]⟩
theorem qR : zaI Tryz.prog tab = true := by kernel_rfl
theorem zf0 : agB Tryz.prog 23 = some 2 := by kernel_rfl
theorem zn1 : agB Tryz.prog 35 = some 3 := by kernel_rfl
theorem zn0 : agB Tryz.prog 70 = some 12 := by kernel_rfl
theorem zp0 : agB Tryz.prog 91 = some 4 := by kernel_rfl
theorem zpe : zN Tryz.prog 16 = true := by kernel_rfl
theorem znf : zN Tryz.prog 164 = true := by kernel_rfl
theorem zoJ : zN Tryz.prog 165 = true := by kernel_rfl
theorem zAN : zN Tryz.prog 17 = true := by kernel_rfl
theorem zy1 : zN Tryz.prog 175 = true := by kernel_rfl
theorem zpT : zN Tryz.prog 24 = true := by kernel_rfl
theorem zpS : zN Tryz.prog 28 = true := by kernel_rfl
theorem zAM : zN Tryz.prog 32 = true := by kernel_rfl
theorem zpR : zN Tryz.prog 33 = true := by kernel_rfl
theorem zAL : zN Tryz.prog 34 = true := by kernel_rfl
theorem zAK : zN Tryz.prog 74 = true := by kernel_rfl
theorem zfT : zN Tryz.prog 75 = true := by kernel_rfl
theorem zpP : zN Tryz.prog 76 = true := by kernel_rfl
theorem zAI : zN Tryz.prog 89 = true := by kernel_rfl
theorem zAG : zN Tryz.prog 90 = true := by kernel_rfl
theorem zuW : qB Tryz.prog 108 0 = some 0 := by kernel_rfl
theorem za7 : qB Tryz.prog 35 0 = some 0 := by kernel_rfl
theorem zw7 : qB Tryz.prog 52 0 = some 0 := by kernel_rfl
theorem zmU : qB Tryz.prog 52 1 = some 1 := by kernel_rfl
theorem zmT : qB Tryz.prog 52 2 = some 2 := by kernel_rfl
theorem zmS : qB Tryz.prog 70 0 = some 0 := by kernel_rfl
theorem zmR : qB Tryz.prog 70 2 = some 2 := by kernel_rfl
theorem zjL : qB Tryz.prog 70 5 = some 6 := by kernel_rfl
theorem zjK : qB Tryz.prog 70 6 = some 8 := by kernel_rfl
theorem zmQ : qB Tryz.prog 70 8 = some 11 := by kernel_rfl
theorem zjJ : qB Tryz.prog 91 0 = some 0 := by kernel_rfl
theorem qA : Tryz.prog.follows .mixedOrders = true := by kernel_rfl
theorem zl8 : naB Tryz.prog 24 = true := by kernel_rfl
theorem na3 : naB Tryz.prog 3 = true := by kernel_rfl
theorem zih : naB Tryz.prog 33 = true := by kernel_rfl
theorem znM : naB Tryz.prog 39 = true := by kernel_rfl
theorem znK : naB Tryz.prog 50 = true := by kernel_rfl
theorem zeB : slB Tryz.prog 24 = some (3, 1, 8) := by kernel_rfl
theorem zzB : slB Tryz.prog 25 = some (193, 6, 48) := by kernel_rfl
theorem zzA : slB Tryz.prog 28 = some (196, 2, 16) := by kernel_rfl
theorem zzz : slB Tryz.prog 29 = some (198, 2, 16) := by kernel_rfl
theorem zzy : slB Tryz.prog 30 = some (201, 4, 32) := by kernel_rfl
theorem zef : slB Tryz.prog 33 = some (70, 12, 96) := by kernel_rfl
theorem zzx : slB Tryz.prog 36 = some (142, 4, 32) := by kernel_rfl
theorem zoP : slB Tryz.prog 39 = some (23, 2, 16) := by kernel_rfl
theorem zzw : slB Tryz.prog 40 = some (108, 3, 40) := by kernel_rfl
theorem zzv : slB Tryz.prog 43 = some (207, 3, 24) := by kernel_rfl
theorem znE : slB Tryz.prog 50 = some (24, 1, 24) := by kernel_rfl
theorem znD : szB Tryz.prog 23 = some 2 := by kernel_rfl
theorem sz3 : szB Tryz.prog 3 = some 1 := by kernel_rfl
theorem zzu : szB Tryz.prog 39 = some 1 := by kernel_rfl
theorem zps : szB Tryz.prog 70 = some 12 := by kernel_rfl
end Go.Proofs.YtcapocmenjcnhaaGreatDoor
/-
 Regions that draw their order, in rounds too.
-/
namespace Go.Proofs.YtcapocmenjcnhaaGreatDoor
open Go.RowKit
section
variable {P : Program} {ops : Array Oper} {Q : Exit → Act → World → Prop} {ρ : Option Nat}
theorem zxZ (hnd : ∀ (i : Nat) o, ops[i]? = some o → ∀ c, o.op ≠ .defer c) (hO : ∀ a w, ¬ Q .outgrown a w) {i : Nat} {K : Act → World → Prop} {a : Act} {w : World} (h : wpOp P ops Q i K a w) : wpOpIn (FW ρ) 0 P ops Q i K a w := by
 unfold wpOp at h
 unfold wpOpIn
 cases ho : ops[i]? with
 | none => rw [ho] at h; exact h
 | some o =>
  rw [ho] at h
  simp only at h ⊢
  split
  ·rename_i hw
   rw [if_pos hw] at h
   rcases h with h | ⟨_, h⟩
   ·exact ziw (hnd i o ho) hO h
   ·obtain ⟨a', w', h⟩ := h
    exact (hO _ _ h).elim
  ·rename_i hw
   rw [if_neg hw] at h
   exact ⟨fun _ _ => trivial, h⟩
theorem zlE (hnd : ∀ (i : Nat) o, ops[i]? = some o → ∀ c, o.op ≠ .defer c) (hO : ∀ a w, ¬ Q .outgrown a w) {md : Region.Mode} : ∀ (fuel : Nat) (listed : Array Bool) (a : Act) (w : World), wpAny P md ops Q fuel listed a w → wpAnyIn (FW ρ) 0 P md ops Q fuel listed a w
 | 0, _, _, _, h => h
 | fuel + 1, listed, a, w, h => ⟨h.1, fun i hi => wpOpIn_mono (fun a' w' h' => zlE hnd hO fuel _ _ _ h') (zxZ hnd hO (h.2 i hi))⟩
end
section
variable {κ : Ctx} {p : List PanicEntry → World → Prop} {P : Program} {N : Nat} {F : Fr} {w : World}
theorem zed {n r : Fr → World → Prop} {x : List (Nat × (Fr → World → Prop))} {id : Nat} {l : List Oper} (hm : P.follows .mixedOrders = true) (C : Nat → World → Prop) (ord : OT)
  (hs : Region.noSelect l.toArray = true) (hl : ord.len = l.length) (ho : ordOk l.toArray ord (Array.replicate l.length false) = true)
  (hC : ∀ q, C q w.drew) (h : WD κ P N p l.toArray C (zc1 ord) n ord F w.drew) (hnd : (l.all fun o => match o.op with | .defer _ => false | _ => true) = true) : WC κ P N (.region id l.toArray true) ⟨n, r, x, fun c _ w => p c w⟩ F w := by
 intro a wI h1 h3
 have hw : w.drew = { w with drawn := w.drawn + 1 } := rfl
 have h1' : St κ N wI a w.drew := ⟨h1.size, h1.calm.keep (Keeps.drew _), h1.keep.trans (Keeps.drew _), h1.base⟩
 rw [hw] at h hC h1'
 have hcl : Closed l.toArray (Array.replicate l.length false) := fun j o _ hl => by
  rcases Nat.lt_or_ge j l.length with h' | h'
  ·simp [h'] at hl
  ·simp [h'] at hl
 have h0 := xA (P := P) (C := C) (fl := zc1 ord) hs (Q := LQ κ N wI (fun c _ w => p c w) n) LQ.put ord (fun _ => False) (Array.replicate l.length false) a _ (fun _ h => h.elim) (fun q _ _ => hC q) hcl (fun i hi => hi) ho (h a wI h1' h3)
 rw [hl] at h0
 have hdf : ∀ (i : Nat) o, l.toArray[i]? = some o → ∀ c, o.op ≠ .defer c := fun i o hi c hc => by
  have := List.all_eq_true.1 hnd o (List.mem_of_getElem? (by simpa using hi))
  rw [hc] at this
  cases this
 refine wpIn_mono (wpIn_region_any hm (zlE (ρ := κ.ro) hdf (Q := LQ κ N wI (fun c _ w => p c w) n) LQ.out _ _ _ _ (by simpa using zb1 _ _ _ _ _ h0))) ?_
 rintro e a' w' ⟨p1, p3⟩
 cases e with
 | normal => exact ⟨p1, p3⟩
 | panic c => exact ⟨p1, p3⟩
 | ret => exact p3.elim
 | exit k => exact p3.elim
 | goto l => exact p3.elim
 | outgrown => exact p3.elim
end
end Go.Proofs.YtcapocmenjcnhaaGreatDoor
/-
 The places that are closed in a season, yielded; a copy of a list.
-/
namespace Go.Proofs.YtcapocmenjcnhaaGreatDoor
open Go.RowKit
theorem zuM : qB Tryz.prog 91 0 = some 0 := by kernel_rfl
theorem zuL : qB Tryz.prog 91 1 = some 3 := by kernel_rfl
theorem zuV : qB Tryz.prog 35 0 = some 0 := by kernel_rfl
theorem zyk : naB Tryz.prog 33 = true := by kernel_rfl
theorem zyl : naB Tryz.prog 24 = true := by kernel_rfl
theorem zpx : naB Tryz.prog 3 = true := by kernel_rfl
theorem zx3 : slB Tryz.prog 33 = some (70, 12, 96) := by kernel_rfl
theorem zx4 : slB Tryz.prog 24 = some (3, 1, 8) := by kernel_rfl
theorem zpL (n : Nat) : ∀ (m i : Nat), i + m = n → lp (fun i : Nat => if i < n then some (Sum.inl (i + 1)) else some (Sum.inr ())) i = some ()
 | 0, i, h => by rw [zbU]; simp [show ¬ i < n by omega]
 | m + 1, i, h => by rw [zbU]; simp only [show i < n by omega, if_true]; exact zpL n m (i + 1) (by omega)
theorem zk9 {G : Gm} {bx bs : Nat} {a1 a2 : Option Addr} {n1 c1 n2 c2 : Nat} {ps : List zr} {pl : List Int} {miss seas sn b : Int} (hx : Cells G bx 0 [.slice a1 n1 c1, .int .i64 miss, .int .i64 seas, .slice a2 n2 c2]) (hs : Cells G bs 0 [.int .i64 sn])
  (h1 : RSl zE 12 G a1 n1 c1 ps) (h2 : RSl zW 1 G a2 n2 c2 pl) (hb : ix pl sn = some b) :
  IterOk Tryz.prog 165 [] [.pointer (some ⟨bx, 0, none⟩), .pointer (some ⟨bs, 0, none⟩)] G znX (qK b 0 ps.length) := by
 intro l B G0 w0 J Jx G1 L1 w hle hS hO hmono hy h0
 refine zxI (l := l) (N := 28) Tryz.func165 rfl rfl rfl rfl ?_
 refine zc ?_
 refine zb ?_
 refine za (zj zuM rfl) rfl ?_
 refine za (zj zuV rfl) rfl ?_
 refine za (zk zyk rfl (hS.sat.cell ((hx.mono hle) 0 _ rfl))) rfl ?_
 refine za (qu (m := ps.length) zx3 rfl rfl h1.1) rfl ?_
 refine za (zf (v := .int .i64 0) rfl) rfl ?_
 refine zd ?_
 have hlen : ps.length ≤ maxLen := h1.1 ▸ h1.2.1.1
 refine zB (xr (zpL ps.length ps.length 0 (by omega)) (fun i F w' => ∃ (Fb : Fr) (G' : Gm) (L' : List Row) (k : Nat), F = qC Fb [(0, .func (.yield l) #[] #[]), (1, .pointer (some ⟨bx, 0, none⟩)), (2, .pointer (some ⟨bs, 0, none⟩)), (8, .int .i64 (ps.length : Int)), (9, .int .i64 (i : Int))] ∧ Gle G1 G' ∧ Since B G0 w0 G' w' ∧ Owns G' w' B L' ∧ J G' L' k w' ∧ k ≤ (qK b 0 ps.length).length ∧ i ≤ ps.length ∧ (qK b 0 ps.length).drop k = qK b i (ps.length - i)) ?_ ?_)
 ·exact ⟨_, G1, L1, 0, zi _ _ ⟨rfl, rfl, rfl, rfl, rfl, trivial⟩, Gle.refl _, hS, hO, h0, Nat.zero_le _, Nat.zero_le _, rfl⟩
 ·rintro i F w' t ⟨Fb, G', L', k, rfl, hle2, hS, hO, hJ', hkl, hi, hdrop⟩ hbody hres
  refine zc ?_
  refine zb ?_
  refine za (qa rfl rfl) rfl ?_
  refine zd ?_
  refine zc ?_
  refine z7 rfl (fun hb' => ?_) (fun hb' => ?_)
  ·have hlt : i < ps.length := by have := of_decide_eq_true hb'; omega
   simp only [hlt, if_true] at hbody
   have hbody := Option.some.inj hbody
   subst hbody
   have hm : ps.length - i = (ps.length - (i + 1)) + 1 := by omega
   rw [hm] at hdrop
   have hG := hle.trans hle2
   refine zD ?_
   refine zc ?_
   refine qx (fun F w' => ∃ (Fb : Fr) (G' : Gm) (L' : List Row) (k : Nat), F = qC Fb [(0, .func (.yield l) #[] #[]), (1, .pointer (some ⟨bx, 0, none⟩)), (2, .pointer (some ⟨bs, 0, none⟩)), (8, .int .i64 (ps.length : Int)), (9, .int .i64 (i : Int))] ∧ Gle G1 G' ∧ Since B G0 w0 G' w' ∧ Owns G' w' B L' ∧ J G' L' k w' ∧ k ≤ (qK b 0 ps.length).length ∧ (qK b 0 ps.length).drop k = qK b (i + 1) (ps.length - (i + 1))) ?_ ?_
   ·refine zB ?_
    refine zc ?_
    refine zb ?_
    refine za (zf (v := .int .i64 (i : Int)) rfl) rfl ?_
    refine za (ze (v := .int .i64 (i : Int)) rfl) rfl ?_
    refine zd ?_
    refine zc ?_
    refine zb ?_
    refine za (zj zuL rfl) rfl ?_
    refine za (zk zyl rfl (hS.sat.cell ((hx.mono hG) 3 _ rfl))) rfl ?_
    refine za (zk zpx rfl (hS.sat.cell ((hs.mono hG) 0 _ rfl))) rfl ?_
    refine xi zx4 (h2.mono zm hG) hb rfl rfl rfl ?_
    rintro b6 o6 _ hcb6 _ ⟨⟩
    refine za (zk zpx rfl (hS.sat.cell (hcb6 0 _ rfl))) rfl ?_
    refine za (zf (v := .int .i64 (i : Int)) rfl) rfl ?_
    have hshr : zlw .i64 b (i : Int) = some (b.fdiv (2 ^ min i IntKind.i64.bits)) := by
     unfold zlw
     rw [if_neg (by omega)]
     rfl
    refine za (zji rfl rfl hshr) rfl ?_
    refine za (zjj rfl rfl) rfl ?_
    refine za (zb6 rfl rfl) rfl ?_
    refine za (zf rfl) rfl ?_
    by_cases hbit : (zhT .i64 (b.fdiv (2 ^ min i IntKind.i64.bits)) 1 == 1) = true
    ·have hd1 : qK b i ((ps.length - (i + 1)) + 1) = (i : Int) :: qK b (i + 1) (ps.length - (i + 1)) := by
      simp only [qK]; rw [if_pos (by exact hbit)]
     rw [hd1] at hdrop
     have hk : (qK b 0 ps.length)[k]? = some (i : Int) := by
      have := congrArg (fun l => l[0]?) hdrop
      simpa using this
     have hdrop' : (qK b 0 ps.length).drop (k + 1) = qK b (i + 1) (ps.length - (i + 1)) := by
      have := congrArg List.tail hdrop
      simpa using this
     refine zo rfl hbit rfl rfl (za (zf (v := .func (.yield l) #[] #[]) rfl) rfl ?_)
     refine zo rfl hbit rfl rfl (za (zf (v := .int .i64 (i : Int)) rfl) rfl ?_)
     refine zo rfl hbit rfl rfl (ztI (al := znX (i : Int)) (hy G' L' [] k w' (i : Int) hle2 hJ' hS hO hk) rfl rfl rfl ?_)
     rintro e w10 ⟨hkeep, ⟨rfl, G10, L10, le10, hS, hO, hJ10⟩ | ⟨rfl, hjx⟩⟩
     ·refine ⟨_, rfl, hkeep, ?_⟩
      refine zo rfl hbit rfl rfl (za (qI rfl) rfl ?_)
      refine za (yH rfl hbit rfl) rfl ?_
      refine zd ?_
      refine zV false rfl rfl ?_
      refine zD ?_
      exact ⟨_, G10, L10, k + 1, zi _ _ ⟨rfl, rfl, rfl, rfl, rfl, trivial⟩, hle2.trans le10, hS, hO, hJ10, (List.getElem?_eq_some_iff.1 hk).1, hdrop'⟩
     ·refine ⟨_, rfl, hkeep, ?_⟩
      refine zo rfl hbit rfl rfl (za (qI rfl) rfl ?_)
      refine za (yH rfl hbit rfl) rfl ?_
      refine zd ?_
      refine qf true rfl rfl ?_
      refine zH ?_
      exact fun hkp => ⟨⟨_, rfl⟩, hkp, .inr hjx⟩
    ·have hbit' : (zhT .i64 (b.fdiv (2 ^ min i IntKind.i64.bits)) 1 == 1) = false := by simpa using hbit
     have hd1 : qK b i ((ps.length - (i + 1)) + 1) = qK b (i + 1) (ps.length - (i + 1)) := by
      simp only [qK]; rw [if_neg (by exact hbit)]
     rw [hd1] at hdrop
     refine qE rfl hbit' rfl rfl rfl ?_
     refine qE rfl hbit' rfl rfl rfl ?_
     refine qE rfl hbit' rfl rfl rfl ?_
     refine qE rfl hbit' rfl rfl rfl ?_
     refine za (xg rfl hbit' rfl) rfl ?_
     refine zd ?_
     refine zV false rfl rfl ?_
     refine zD ?_
     exact ⟨_, G', L', k, zi _ _ ⟨rfl, rfl, rfl, rfl, rfl, trivial⟩, hle2, hS, hO, hJ', hkl, hdrop⟩
   ·rintro F w3 ⟨Fb, G3, L3, k3, rfl, hle3, hS, hO, hJ3, hkl3, hdrop3⟩
    refine zb ?_
    refine za (qO rfl rfl) rfl ?_
    refine za (zf (v := .int .i64 (IntKind.i64.wrap ((i : Int) + 1))) rfl) rfl ?_
    refine zd ?_
    have hw : IntKind.i64.wrap ((i : Int) + 1) = ((i + 1 : Nat) : Int) := by
     rw [IntKind.wrap_i64]
     have : i + 1 ≤ 9223372036854775807 := Nat.le_trans hlt hlen
     omega
    rw [hw]
    exact ⟨i + 1, rfl, _, G3, L3, k3, zi _ _ ⟨rfl, rfl, rfl, rfl, rfl, trivial⟩, hle3, hS, hO, hJ3, hkl3, hlt, hdrop3⟩
  ·have hge : i = ps.length := by have := of_decide_eq_false hb'; omega
   refine ql rfl ?_
   intro hkp
   have hk0 : (qK b 0 ps.length).drop k = [] := by rw [hdrop, hge, Nat.sub_self]; rfl
   have hkn : k = (qK b 0 ps.length).length := by
    have := List.drop_eq_nil_iff.1 hk0
    omega
   exact ⟨⟨_, rfl⟩, hkp, .inl ⟨G', L', hle2, hS, by simpa using hO, hkn ▸ hJ'⟩⟩
theorem zmY {G0 : Gm} {w0 : World} (hS0 : Sat G0 w0) {v1 v2 v3 v4 : Value} {sn : Int} :
  Calls Tryz.prog 76 #[.agg #[v1, v2, v3, v4], .int .i64 sn] w0 (yP G0 w0 fun G v => ∃ bx bs : Nat, v = .func (.func 165) #[] #[.pointer (some ⟨bx, 0, none⟩), .pointer (some ⟨bs, 0, none⟩)] ∧ Cells G bx 0 [v1, v2, v3, v4] ∧ Cells G bs 0 [.int .i64 sn]) := by
 have hS := Since.start hS0
 refine z8 (N := 6) (xN _ _ _) Tryz.func76 rfl rfl rfl rfl (zc (zb ?_))
 refine zp rfl (zI (v := fun b => .pointer (some ⟨b, 0, none⟩)) (cs := [v1, v2, v3, v4]) (e := 91) (z6 rfl) hS.sat rfl fun bx G1 w1 hg hx => ?_)
 have hS := hS.grow hg
 refine zp rfl (zI (v := fun b => .pointer (some ⟨b, 0, none⟩)) (cs := [.int .i64 sn]) (e := 3) (by kernel_rfl) hS.sat rfl fun bs G2 w2 hg2 hs => ?_)
 have hS := hS.grow hg2
 refine za (ze (v := .nilFunc) rfl) rfl (zd (zc (zb (za (yO (vs := []) (us := [.pointer (some ⟨bx, 0, none⟩), .pointer (some ⟨bs, 0, none⟩)]) rfl rfl) rfl (za (ze (v := .func (.func 165) #[] #[.pointer (some ⟨bx, 0, none⟩), .pointer (some ⟨bs, 0, none⟩)]) rfl) rfl (zd (zH ?_)))))))
 exact ⟨_, _, rfl, hS.toGrow, bx, bs, rfl, hx.mono hg2.le, hs⟩
theorem zsT {P : Program} {F : Fr} {w : World} {od : Option Nat} {ty t u e : TypeId} {pos : String} {af : Array Edge} {gd : Option (Nat × Bool)} {X Y : Operand} {a : Option Addr} {n c : Nat} (hT : P.underlying t = some (.slice e)) (hx : ev F X = .slice a n c) (hy : ev F Y = .slice none 0 0) : (execOp (ev F) ⟨od, .binOp .eql t X Y u, ty, pos, af, gd⟩).run P w = .ok (.value (.bool a.isNone)) w := by
 have h : ∀ d : Nat, (Op.equalIn (d + 1) t (.slice a n c) (.slice none 0 0)).run P w = .ok a.isNone w := fun d => by cases a <;> simp [Op.equalIn, run_underlying hT]
 simp [execOp, hx, hy, eqGuard, binOp, Op.equal, Op.maxDepth, h 9999]
end Go.Proofs.YtcapocmenjcnhaaGreatDoor
