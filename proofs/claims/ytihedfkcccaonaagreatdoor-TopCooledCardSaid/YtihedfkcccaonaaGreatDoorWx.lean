/-
 What the Go functions compute, as plain functions (printed by a program of ours).
-/
import Derived.Test.YtihedfkcccaonaaGreatDoorBsC
import Derived.Test.YtihedfkcccaonaaGreatDoorProg
namespace Go.Proofs.YtihedfkcccaonaaGreatDoor
noncomputable section
open Go.RowKit
structure jb where
 Low : Int
 High : Int
structure xz where
 Wet : jb
 Dry : jb
 Need : jb
structure zb2 where
 Cap : Int
 Start : jb
 Roof : Int
 Sand : Int
 Soak : jb
 Leak : jb
 Pump : Int
 Keep : Int
 Size : Int
 Wells : (List Int)
 Months : (List xz)
 Most : Int
 Row : Int
structure yT where
 Mother : Int
 Adopted : Int
structure xA where
 Strip : Int
 Holder : Int
structure yU where
 From : Int
 To : Int
 Years : jb
structure zdt where
 People : (List yT)
 Events : (List xA)
 Memories : (List yU)
structure xy where
 Count : Int
 Room : Int
 Grow : jb
 Drift : Int
 Into : Int
 Open : jb
 Shut : jb
 Goal : Int
 Worth : Int
structure zqH where
 Places : (List xy)
 Miss : Int
 Seasons : Int
structure jc where
 Day : Int
 From : Int
 To : Int
 Cost : Int
structure zfE where
 Islets : Int
 Infested : (List Int)
 Clean : (List Int)
 Trips : (List jc)
 Wait : Int
structure zcV where
 Goods : (List jb)
 Weight : Int
 Cost : Int
structure zb1 where
 Stock : (List Int)
 Use : (List jb)
 Gap : jb
 Lots : (List zcV)
 Hold : Int
structure zE where
 Need : Int
 Keep : Int
 Must : Bool
structure zn where
 Sunny : Int
 Cloudy : Int
 Size : Int
 Fade : Int
 Start : Int
 Loads : (List zE)
 Days : Int
 Window : Int
 Most : Int
 Panel : Int
 Battery : Int
structure zdu where
 Cells : Int
 Roads : (List Int)
 Zones : (List Int)
 Berths : (List Int)
 Days : Int
structure zC where
 Islet : zb2
 Tank : Int
 Book : zdt
 Reef : zqH
 Sea : zfE
 Store : zb1
 System : zn
 Fishing : zdu
 Money : Int
structure zfD where
 Battery : Int
 Carried : Int
structure zqG where
 panels : Int
 batteries : Int
def zdn (x0 : zC) (s20 : Int) : Option (Int ⊕ (Unit ⊕ Bool)) :=
 ((if (decide (s20 < (x0.Store.Lots.length : Int))) = true then (some (decide (s20 < 8))) else (some false) : Option Bool)).bind fun q26 => if q26 = true then ((ix x0.Store.Lots s20).bind fun y31 => if (decide (8 < (y31.Goods.length : Int))) = true then (some (.inr (.inr false))) else (some (.inl (IntKind.i64.wrap (s20 + 1))))) else (some (.inr (.inl ())))
def f16 (x0 : zC) : Option Bool :=
 (lp (zdn x0) 0).bind fun q22 => Sum.elim (fun p21 : Unit => ((if (decide ((x0.Islet.Wells.length : Int) ≤ 8)) = true then (if (decide ((x0.Islet.Months.length : Int) ≤ 4)) = true then (if (decide ((x0.Book.People.length : Int) ≤ 12)) = true then (if (decide ((x0.Book.Events.length : Int) ≤ 9)) = true then (if (decide ((x0.Book.Memories.length : Int) ≤ 12)) = true then (if (decide ((x0.Reef.Places.length : Int) ≤ 3)) = true then (if (decide (x0.Reef.Seasons ≤ 2)) = true then (if (decide ((x0.Sea.Infested.length : Int) ≤ 10)) = true then (if (decide ((x0.Sea.Clean.length : Int) ≤ 10)) = true then (if (decide ((x0.Sea.Trips.length : Int) ≤ 8)) = true then (if (decide ((x0.Store.Stock.length : Int) ≤ 8)) = true then (if (decide ((x0.Store.Use.length : Int) ≤ 8)) = true then (if (decide ((x0.Store.Lots.length : Int) ≤ 8)) = true then (if (decide ((x0.System.Loads.length : Int) ≤ 7)) = true then (if (decide (x0.System.Days ≤ 4)) = true then (if (decide ((x0.Fishing.Roads.length : Int) ≤ 10)) = true then (if (decide ((x0.Fishing.Zones.length : Int) ≤ 5)) = true then (some (decide ((x0.Fishing.Berths.length : Int) ≤ 5))) else (some false)) else (some false)) else (some false)) else (some false)) else (some false)) else (some false)) else (some false)) else (some false)) else (some false)) else (some false)) else (some false)) else (some false)) else (some false)) else (some false)) else (some false)) else (some false)) else (some false) : Option Bool)).bind fun q37 => some q37) (fun v57 : Bool => some v57) q22
def zws (x0 : (List Int)) : Option (List Int) :=
 (app [] x0).bind fun y3 => some y3
def zwr (x0 : (List xz)) : Option (List xz) :=
 (app [] x0).bind fun y3 => some y3
def zwq (x0 : (List yT)) : Option (List yT) :=
 (app [] x0).bind fun y3 => some y3
def zwp (x0 : (List xA)) : Option (List xA) :=
 (app [] x0).bind fun y3 => some y3
def zwo (x0 : (List yU)) : Option (List yU) :=
 (app [] x0).bind fun y3 => some y3
def zwn (x0 : (List xy)) : Option (List xy) :=
 (app [] x0).bind fun y3 => some y3
def zwm (x0 : (List jc)) : Option (List jc) :=
 (app [] x0).bind fun y3 => some y3
def zwl (x0 : (List jb)) : Option (List jb) :=
 (app [] x0).bind fun y3 => some y3
def zwk (x0 : (List zE)) : Option (List zE) :=
 (app [] x0).bind fun y3 => some y3
def f76 (x0 : Int) (x1 : Int) (x2 : Int) : Option Bool :=
 ((if (decide (x1 ≤ x0)) = true then (some (decide (x0 ≤ x2))) else (some false) : Option Bool)).bind fun q1 => some q1
def f78 (x0 : zE) : Option Bool :=
 (((f76 x0.Need 0 1000000).bind fun y5 => if (!y5) = true then (some true) else ((f76 x0.Keep 0 1000000).bind fun y8 => some (!y8)) : Option Bool)).bind fun q4 => some q4
def zbf (x0 : (List zE)) (x1 : (zE → Option Bool)) (s3 : Int) : Option (Int ⊕ (Unit ⊕ Int)) :=
 if (decide (s3 < (x0.length : Int))) = true then ((ix x0 s3).bind fun y10 => (x1 y10).bind fun y12 => if y12 = true then (some (.inr (.inr s3))) else (some (.inl (IntKind.i64.wrap (s3 + 1))))) else (some (.inr (.inl ())))
def zsx (x0 : (List zE)) (x1 : (zE → Option Bool)) : Option Int :=
 (lp (zbf x0 x1) 0).bind fun q5 => Sum.elim (fun p4 : Unit => some (-1)) (fun v17 : Int => some v17) q5
def f77 (x0 : (List zE)) (x1 : (zE → Option Bool)) : Option Bool :=
 (zsx x0 x1).bind fun y3 => some (decide (0 ≤ y3))
def f26 (x0 : zn) : Option Bool :=
 (((f76 x0.Sunny 0 1000000).bind fun y6 => if y6 = true then ((f76 x0.Cloudy 0 x0.Sunny).bind fun y9 => if y9 = true then ((f76 x0.Size 0 1000000).bind fun y12 => if y12 = true then ((f76 x0.Fade 0 1000).bind fun y15 => if y15 = true then ((f76 x0.Start 0 1000).bind fun y18 => if y18 = true then ((f76 (x0.Loads.length : Int) 1 5).bind fun y21 => if y21 = true then ((f77 x0.Loads (fun (z0 : zE) => f78 z0)).bind fun y25 => if (!y25) = true then ((f76 x0.Days 1 10).bind fun y28 => if y28 = true then ((f76 x0.Window 1 x0.Days).bind fun y31 => if y31 = true then ((f76 x0.Most 0 x0.Window).bind fun y34 => if y34 = true then ((f76 x0.Panel 0 1000000).bind fun y37 => if y37 = true then ((f76 x0.Battery 0 1000000).bind fun y40 => some y40) else (some false)) else (some false)) else (some false)) else (some false)) else (some false)) else (some false)) else (some false)) else (some false)) else (some false)) else (some false)) else (some false) : Option Bool)).bind fun q5 => some q5
def vX (y12 : (List UInt8)) (s16 : Int × Nat) : Option ((Int × Nat) ⊕ (Int × Nat)) :=
 if (decide (s16.2 < y12.length)) = true then (if (((xV y12 s16.2).1) == 99) = true then (some (.inl (IntKind.i64.wrap (s16.1 + 1), ((s16.2 + (xV y12 s16.2).2))))) else (some (.inl (s16.1, ((s16.2 + (xV y12 s16.2).2)))))) else (some (.inr (s16.1, (s16.2))))
def kU (x0 : zn) (x1 : (List UInt8)) (s5 : Int) : Option (Int ⊕ (Unit ⊕ Bool)) :=
 if (decide (s5 < (IntKind.i64.wrap ((IntKind.i64.wrap (x0.Days - x0.Window)) + 1)))) = true then ((zjE x1 s5 (IntKind.i64.wrap (s5 + x0.Window))).bind fun y12 => (lp (vX y12) (0, (0))).bind fun q18 => if (decide (x0.Most < q18.1)) = true then (some (.inr (.inr false))) else (some (.inl (IntKind.i64.wrap (s5 + 1))))) else (some (.inr (.inl ())))
def zks (x0 : zn) (x1 : (List UInt8)) : Option Bool :=
 (lp (kU x0 x1) 0).bind fun q7 => Sum.elim (fun p6 : Unit => some true) (fun v30 : Bool => some v30) q7
def f19 (x0 : Int) (x1 : Int) (x2 : Int) : Option Bool :=
 ((if (decide (x1 ≤ x0)) = true then (some (decide (x0 ≤ x2))) else (some false) : Option Bool)).bind fun q1 => some q1
def f5 (x0 : Int) (x1 : Int) : Option Bool :=
 (((f19 x0 0 12).bind fun y2 => if y2 = true then ((f19 x1 0 8).bind fun y5 => some y5) else (some false) : Option Bool)).bind fun q1 => some q1
def f8 (x0 : zn) (x1 : Int) (x2 : Int) : Option Int :=
 some (IntKind.i64.wrap ((IntKind.i64.wrap (x1 * x0.Panel)) + (IntKind.i64.wrap (x2 * x0.Battery))))
def zaT (x1 : (List UInt8)) (s5 : Int) : Option (Int ⊕ (Unit ⊕ Bool)) :=
 if (decide (s5 < (x1.length : Int))) = true then ((((ix x1 s5).bind fun y13 => if ((y13.toNat : Int) != 115) = true then ((ix x1 s5).bind fun y15 => some ((y15.toNat : Int) != 99)) else (some false) : Option Bool)).bind fun q12 => if q12 = true then (some (.inr (.inr false))) else (some (.inl (IntKind.i64.wrap (s5 + 1))))) else (some (.inr (.inl ())))
def f12 (x0 : zn) (x1 : (List UInt8)) : Option Bool :=
 (lp (zaT x1) 0).bind fun q7 => Sum.elim (fun p6 : Unit => some ((x1.length : Int) == x0.Days)) (fun v21 : Bool => some v21) q7
def zaS (s5 : Int) (x0 : zn) (x1 : (List UInt8)) (s12 : Int × Int) : Option ((Int × Int) ⊕ Int) :=
 if (decide (s12.2 < (IntKind.i64.wrap (s5 + x0.Window)))) = true then ((((ix x1 s12.2).bind fun y20 => if ((y20.toNat : Int) == 99) = true then (some (IntKind.i64.wrap (s12.1 + 1))) else (some s12.1) : Option Int)).bind fun q19 => some (.inl (q19, IntKind.i64.wrap (s12.2 + 1)))) else (some (.inr s12.1))
def vY (x0 : zn) (x1 : (List UInt8)) (s5 : Int) : Option (Int ⊕ (Unit ⊕ Bool)) :=
 if (decide ((IntKind.i64.wrap (s5 + x0.Window)) ≤ (x1.length : Int))) = true then ((lp (zaS s5 x0 x1) (0, s5)).bind fun q14 => if (decide (x0.Most < q14)) = true then (some (.inr (.inr false))) else (some (.inl (IntKind.i64.wrap (s5 + 1))))) else (some (.inr (.inl ())))
def f13 (x0 : zn) (x1 : (List UInt8)) : Option Bool :=
 (lp (vY x0 x1) 0).bind fun q7 => Sum.elim (fun p6 : Unit => some true) (fun v29 : Bool => some v29) q7
def zbT (x1 : Int) (s1 : Int × Int) : Option ((Int × Int) ⊕ Int) :=
 if (decide (s1.2 < x1)) = true then (some (.inl (IntKind.i64.wrap (s1.1.tdiv 2), IntKind.i64.wrap (s1.2 + 1)))) else (some (.inr s1.1))
def f41 (x0 : Int) (x1 : Int) : Option Bool :=
 (lp (zbT x1) (x0, 0)).bind fun q3 => some ((q3.tmod 2) == 1)
def zaR (x0 : zn) (x1 : zfD) (s8 : Int) : Option (Int ⊕ (Unit ⊕ Int)) :=
 if (decide (s8 < (x0.Loads.length : Int))) = true then ((((ix x0.Loads s8).bind fun y16 => if y16.Must = true then ((f41 x1.Carried s8).bind fun y19 => some (!y19)) else (some false) : Option Bool)).bind fun q15 => if q15 = true then (some (.inr (.inr s8))) else (some (.inl (IntKind.i64.wrap (s8 + 1))))) else (some (.inr (.inl ())))
def f15 (x0 : zn) (x1 : zfD) : Option Int :=
 (lp (zaR x0 x1) 0).bind fun q10 => Sum.elim (fun p9 : Unit => some (-1)) (fun v26 : Int => some v26) q10
def jV (s4 : Nat) (x0 : (List UInt8)) (x2 : (List UInt8)) (s15 : Bool × Nat × Nat) : Option ((Bool × Nat × Nat) ⊕ (Bool × Nat × Nat)) :=
 if (decide (s15.2.1 < x2.length)) = true then (if s15.1 = true then (some (.inl (true, ((s15.2.1 + (xV x2 s15.2.1).2)), (s15.2.2)))) else (some (.inl (((xV x0 s4).1) == ((xV x2 s15.2.1).1), ((s15.2.1 + (xV x2 s15.2.1).2)), (s15.2.2))))) else (some (.inr (s15.1, (s15.2.1), (s15.2.2))))
def zaP (x0 : (List UInt8)) (x2 : (List UInt8)) (s4 : Nat) : Option (Nat ⊕ (Nat ⊕ Bool)) :=
 if (decide (s4 < x0.length)) = true then ((lp (jV s4 x0 x2) (false, (0), ((s4 + (xV x0 s4).2)))).bind fun q17 => if (!q17.1) = true then (some (.inr (.inr false))) else (some (.inl (q17.2.2)))) else (some (.inr (.inl (s4))))
def f38 (x0 : (List UInt8)) (x1 : Int) (x2 : (List UInt8)) : Option Bool :=
 (lp (zaP x0 x2) (0)).bind fun q6 => Sum.elim (fun p5 : Nat => some ((x0.length : Int) == x1)) (fun v29 : Bool => some v29) q6
def f37 (x0 : zn) (x1 : zqG) (x2 : Int) : Option Bool :=
 (((f26 x0).bind fun y9 => if y9 = true then ((f76 x1.panels 0 12).bind fun y12 => if y12 = true then ((f76 x1.batteries 0 8).bind fun y15 => if y15 = true then ((zmp .i64 1 (x0.Loads.length : Int)).bind fun y18 => (f76 x2 0 (IntKind.i64.wrap (y18 - 1))).bind fun y19 => some y19) else (some false)) else (some false)) else (some false) : Option Bool)).bind fun q8 => some q8
def zhF (x0 : zn) : Option Int :=
 (f26 x0).bind fun y5 => if (!y5) = true then (some 2) else (some 0)
def zsJ (x0 : Int) (x1 : Int) (x2 : Int) : Option Bool :=
 ((if (decide (x1 ≤ x0)) = true then (some (decide (x0 ≤ x2))) else (some false) : Option Bool)).bind fun q1 => some q1
def xY : Gm → List Value → jb → Prop := fun _ cs x => cs = [.int .i64 x.Low, .int .i64 x.High]
theorem xB : zam xY := fun _ _ _ _ _ h => h
theorem zkF : One xY := fun _ _ _ h => by unfold xY at h; subst h; exact zU rfl
def qL : Gm → List Value → xz → Prop := fun _ cs x => cs = [.int .i64 x.Wet.Low, .int .i64 x.Wet.High, .int .i64 x.Dry.Low, .int .i64 x.Dry.High, .int .i64 x.Need.Low, .int .i64 x.Need.High]
theorem yQ : zam qL := fun _ _ _ _ _ h => h
theorem zdY : One qL := fun _ _ _ h => by unfold qL at h; subst h; exact zU rfl
def zjt : Gm → List Value → zb2 → Prop := fun G cs x => ∃ (a0 : Option Addr) (n0 c0 : Nat) (a1 : Option Addr) (n1 c1 : Nat), cs = [.int .i64 x.Cap, .int .i64 x.Start.Low, .int .i64 x.Start.High, .int .i64 x.Roof, .int .i64 x.Sand, .int .i64 x.Soak.Low, .int .i64 x.Soak.High, .int .i64 x.Leak.Low, .int .i64 x.Leak.High, .int .i64 x.Pump, .int .i64 x.Keep, .int .i64 x.Size, .slice a0 n0 c0, .slice a1 n1 c1, .int .i64 x.Most, .int .i64 x.Row] ∧ RSl yD 1 G a0 n0 c0 x.Wells ∧ RSl qL 6 G a1 n1 c1 x.Months
def qB : Gm → List Value → yT → Prop := fun _ cs x => cs = [.int .i64 x.Mother, .int .i64 x.Adopted]
theorem yk : zam qB := fun _ _ _ _ _ h => h
theorem zdw : One qB := fun _ _ _ h => by unfold qB at h; subst h; exact zU rfl
def qM : Gm → List Value → xA → Prop := fun _ cs x => cs = [.int .i64 x.Strip, .int .i64 x.Holder]
theorem yx : zam qM := fun _ _ _ _ _ h => h
theorem zdZ : One qM := fun _ _ _ h => by unfold qM at h; subst h; exact zU rfl
def qC : Gm → List Value → yU → Prop := fun _ cs x => cs = [.int .i64 x.From, .int .i64 x.To, .int .i64 x.Years.Low, .int .i64 x.Years.High]
theorem yl : zam qC := fun _ _ _ _ _ h => h
theorem zdx : One qC := fun _ _ _ h => by unfold qC at h; subst h; exact zU rfl
def zkG : Gm → List Value → zdt → Prop := fun G cs x => ∃ (a0 : Option Addr) (n0 c0 : Nat) (a1 : Option Addr) (n1 c1 : Nat) (a2 : Option Addr) (n2 c2 : Nat), cs = [.slice a0 n0 c0, .slice a1 n1 c1, .slice a2 n2 c2] ∧ RSl qB 2 G a0 n0 c0 x.People ∧ RSl qM 2 G a1 n1 c1 x.Events ∧ RSl qC 4 G a2 n2 c2 x.Memories
def qK : Gm → List Value → xy → Prop := fun _ cs x => cs = [.int .i64 x.Count, .int .i64 x.Room, .int .i64 x.Grow.Low, .int .i64 x.Grow.High, .int .i64 x.Drift, .int .i64 x.Into, .int .i64 x.Open.Low, .int .i64 x.Open.High, .int .i64 x.Shut.Low, .int .i64 x.Shut.High, .int .i64 x.Goal, .int .i64 x.Worth]
theorem xI : zam qK := fun _ _ _ _ _ h => h
theorem zdX : One qK := fun _ _ _ h => by unfold qK at h; subst h; exact zU rfl
def zwU : Gm → List Value → zqH → Prop := fun G cs x => ∃ (a0 : Option Addr) (n0 c0 : Nat), cs = [.slice a0 n0 c0, .int .i64 x.Miss, .int .i64 x.Seasons] ∧ RSl qK 12 G a0 n0 c0 x.Places
def yb : Gm → List Value → jc → Prop := fun _ cs x => cs = [.int .i64 x.Day, .int .i64 x.From, .int .i64 x.To, .int .i64 x.Cost]
theorem yG : zam yb := fun _ _ _ _ _ h => h
theorem zfG : One yb := fun _ _ _ h => by unfold yb at h; subst h; exact zU rfl
def znm : Gm → List Value → zfE → Prop := fun G cs x => ∃ (a0 : Option Addr) (n0 c0 : Nat) (a1 : Option Addr) (n1 c1 : Nat) (a2 : Option Addr) (n2 c2 : Nat), cs = [.int .i64 x.Islets, .slice a0 n0 c0, .slice a1 n1 c1, .slice a2 n2 c2, .int .i64 x.Wait] ∧ RSl yD 1 G a0 n0 c0 x.Infested ∧ RSl yD 1 G a1 n1 c1 x.Clean ∧ RSl yb 4 G a2 n2 c2 x.Trips
def yF : Gm → List Value → zcV → Prop := fun G cs x => ∃ (a0 : Option Addr) (n0 c0 : Nat), cs = [.slice a0 n0 c0, .int .i64 x.Weight, .int .i64 x.Cost] ∧ RSl xY 2 G a0 n0 c0 x.Goods
theorem ya : zam yF := fun _ _ _ _ hle ⟨a0, n0, c0, h, h0⟩ => ⟨a0, n0, c0, h, h0.mono xB hle⟩
theorem zfV : One yF := fun _ _ _ ⟨_, _, _, h, _⟩ => by subst h; exact zU rfl
def zjs : Gm → List Value → zb1 → Prop := fun G cs x => ∃ (a0 : Option Addr) (n0 c0 : Nat) (a1 : Option Addr) (n1 c1 : Nat) (a2 : Option Addr) (n2 c2 : Nat), cs = [.slice a0 n0 c0, .slice a1 n1 c1, .int .i64 x.Gap.Low, .int .i64 x.Gap.High, .slice a2 n2 c2, .int .i64 x.Hold] ∧ RSl yD 1 G a0 n0 c0 x.Stock ∧ RSl xY 2 G a1 n1 c1 x.Use ∧ RSl yF 3 G a2 n2 c2 x.Lots
def zO : Gm → List Value → zE → Prop := fun _ cs x => cs = [.int .i64 x.Need, .int .i64 x.Keep, .bool x.Must]
theorem zx : zam zO := fun _ _ _ _ _ h => h
theorem zfF : One zO := fun _ _ _ h => by unfold zO at h; subst h; exact zU rfl
def zhT : Gm → List Value → zn → Prop := fun G cs x => ∃ (a0 : Option Addr) (n0 c0 : Nat), cs = [.int .i64 x.Sunny, .int .i64 x.Cloudy, .int .i64 x.Size, .int .i64 x.Fade, .int .i64 x.Start, .slice a0 n0 c0, .int .i64 x.Days, .int .i64 x.Window, .int .i64 x.Most, .int .i64 x.Panel, .int .i64 x.Battery] ∧ RSl zO 3 G a0 n0 c0 x.Loads
def zkH : Gm → List Value → zdu → Prop := fun G cs x => ∃ (a0 : Option Addr) (n0 c0 : Nat) (a1 : Option Addr) (n1 c1 : Nat) (a2 : Option Addr) (n2 c2 : Nat), cs = [.int .i64 x.Cells, .slice a0 n0 c0, .slice a1 n1 c1, .slice a2 n2 c2, .int .i64 x.Days] ∧ RSl yD 1 G a0 n0 c0 x.Roads ∧ RSl yD 1 G a1 n1 c1 x.Zones ∧ RSl yD 1 G a2 n2 c2 x.Berths
def qc : Gm → List Value → zC → Prop := fun G cs x => ∃ (a0 : Option Addr) (n0 c0 : Nat) (a1 : Option Addr) (n1 c1 : Nat) (a2 : Option Addr) (n2 c2 : Nat) (a3 : Option Addr) (n3 c3 : Nat) (a4 : Option Addr) (n4 c4 : Nat) (a5 : Option Addr) (n5 c5 : Nat) (a6 : Option Addr) (n6 c6 : Nat) (a7 : Option Addr) (n7 c7 : Nat) (a8 : Option Addr) (n8 c8 : Nat) (a9 : Option Addr) (n9 c9 : Nat) (a10 : Option Addr) (n10 c10 : Nat) (a11 : Option Addr) (n11 c11 : Nat) (a12 : Option Addr) (n12 c12 : Nat) (a13 : Option Addr) (n13 c13 : Nat) (a14 : Option Addr) (n14 c14 : Nat) (a15 : Option Addr) (n15 c15 : Nat), cs = [.int .i64 x.Islet.Cap, .int .i64 x.Islet.Start.Low, .int .i64 x.Islet.Start.High, .int .i64 x.Islet.Roof, .int .i64 x.Islet.Sand, .int .i64 x.Islet.Soak.Low, .int .i64 x.Islet.Soak.High, .int .i64 x.Islet.Leak.Low, .int .i64 x.Islet.Leak.High, .int .i64 x.Islet.Pump, .int .i64 x.Islet.Keep, .int .i64 x.Islet.Size, .slice a0 n0 c0, .slice a1 n1 c1, .int .i64 x.Islet.Most, .int .i64 x.Islet.Row, .int .i64 x.Tank, .slice a2 n2 c2, .slice a3 n3 c3, .slice a4 n4 c4, .slice a5 n5 c5, .int .i64 x.Reef.Miss, .int .i64 x.Reef.Seasons, .int .i64 x.Sea.Islets, .slice a6 n6 c6, .slice a7 n7 c7, .slice a8 n8 c8, .int .i64 x.Sea.Wait, .slice a9 n9 c9, .slice a10 n10 c10, .int .i64 x.Store.Gap.Low, .int .i64 x.Store.Gap.High, .slice a11 n11 c11, .int .i64 x.Store.Hold, .int .i64 x.System.Sunny, .int .i64 x.System.Cloudy, .int .i64 x.System.Size, .int .i64 x.System.Fade, .int .i64 x.System.Start, .slice a12 n12 c12, .int .i64 x.System.Days, .int .i64 x.System.Window, .int .i64 x.System.Most, .int .i64 x.System.Panel, .int .i64 x.System.Battery, .int .i64 x.Fishing.Cells, .slice a13 n13 c13, .slice a14 n14 c14, .slice a15 n15 c15, .int .i64 x.Fishing.Days, .int .i64 x.Money] ∧ RSl yD 1 G a0 n0 c0 x.Islet.Wells ∧ RSl qL 6 G a1 n1 c1 x.Islet.Months ∧ RSl qB 2 G a2 n2 c2 x.Book.People ∧ RSl qM 2 G a3 n3 c3 x.Book.Events ∧ RSl qC 4 G a4 n4 c4 x.Book.Memories ∧ RSl qK 12 G a5 n5 c5 x.Reef.Places ∧ RSl yD 1 G a6 n6 c6 x.Sea.Infested ∧ RSl yD 1 G a7 n7 c7 x.Sea.Clean ∧ RSl yb 4 G a8 n8 c8 x.Sea.Trips ∧ RSl yD 1 G a9 n9 c9 x.Store.Stock ∧ RSl xY 2 G a10 n10 c10 x.Store.Use ∧ RSl yF 3 G a11 n11 c11 x.Store.Lots ∧ RSl zO 3 G a12 n12 c12 x.System.Loads ∧ RSl yD 1 G a13 n13 c13 x.Fishing.Roads ∧ RSl yD 1 G a14 n14 c14 x.Fishing.Zones ∧ RSl yD 1 G a15 n15 c15 x.Fishing.Berths
theorem qv : zam qc := fun _ _ _ _ hle ⟨a0, n0, c0, a1, n1, c1, a2, n2, c2, a3, n3, c3, a4, n4, c4, a5, n5, c5, a6, n6, c6, a7, n7, c7, a8, n8, c8, a9, n9, c9, a10, n10, c10, a11, n11, c11, a12, n12, c12, a13, n13, c13, a14, n14, c14, a15, n15, c15, h, h0, h1, h2, h3, h4, h5, h6, h7, h8, h9, h10, h11, h12, h13, h14, h15⟩ => ⟨a0, n0, c0, a1, n1, c1, a2, n2, c2, a3, n3, c3, a4, n4, c4, a5, n5, c5, a6, n6, c6, a7, n7, c7, a8, n8, c8, a9, n9, c9, a10, n10, c10, a11, n11, c11, a12, n12, c12, a13, n13, c13, a14, n14, c14, a15, n15, c15, h, h0.mono zT hle, h1.mono yQ hle, h2.mono yk hle, h3.mono yx hle, h4.mono yl hle, h5.mono xI hle, h6.mono zT hle, h7.mono zT hle, h8.mono yG hle, h9.mono zT hle, h10.mono xB hle, h11.mono ya hle, h12.mono zx hle, h13.mono zT hle, h14.mono zT hle, h15.mono zT hle⟩
def FnOk174 (G : Gm) (k : Nat) (fi ca : List Value) (g : (zE → Option Bool)) : Prop := zJ Tryz.prog k = true ∧ ∀ (G1 : Gm) (w : World), Gle G G1 → Sat G1 w → ∀ (z0 : zE) (r : Bool), g z0 = some r → Calls Tryz.prog k (fi ++ ([.agg #[.int .i64 z0.Need, .int .i64 z0.Keep, .bool z0.Must]] : List Value) ++ ca).toArray w (qW w (.bool r))
theorem FnOk174.mono {G G' : Gm} {k : Nat} {fi ca : List Value} {g : (zE → Option Bool)} (h : FnOk174 G k fi ca g) (hle : Gle G G') : FnOk174 G' k fi ca g := ⟨h.1, fun G1 w hl hw => h.2 G1 w (hle.trans hl) hw⟩
def tab : Tab := ⟨[(27, 9, 12), (27, 10, 13), (32, 0, 0), (32, 1, 1), (32, 2, 2), (35, 0, 0), (35, 2, 2), (38, 1, 1), (38, 2, 2), (38, 3, 3), (42, 0, 0), (42, 1, 1), (42, 3, 4), (45, 0, 0), (45, 1, 1), (45, 2, 2), (45, 3, 3), (45, 4, 4), (45, 5, 5), (45, 6, 6), (45, 7, 7), (45, 8, 8), (45, 9, 9), (45, 10, 10), (47, 1, 1), (47, 2, 2), (47, 3, 3), (49, 0, 0), (49, 2, 17), (49, 3, 20), (49, 4, 23), (49, 5, 28), (49, 6, 34), (49, 7, 45), (71, 1, 1), (91, 0, 0), (91, 1, 1), (115, 0, 0), (115, 1, 1)], [3, 24, 25, 28, 29, 30, 33, 36, 39, 40, 43], [24, 25, 28, 29, 30, 33, 36, 39, 40, 43]⟩
theorem yi : zaq Tryz.prog tab = true := by kernel_rfl
theorem zyX : agB Tryz.prog 115 = some 3 := by kernel_rfl
theorem zyS : agB Tryz.prog 45 = some 11 := by kernel_rfl
theorem zyH : zJ Tryz.prog 160 = true := by kernel_rfl
theorem zyG : zJ Tryz.prog 19 = true := by kernel_rfl
theorem zyE : zJ Tryz.prog 26 = true := by kernel_rfl
theorem zAC : zJ Tryz.prog 41 = true := by kernel_rfl
theorem zbt : zJ Tryz.prog 76 = true := by kernel_rfl
theorem zAB : zJ Tryz.prog 77 = true := by kernel_rfl
theorem zAA : zJ Tryz.prog 78 = true := by kernel_rfl
theorem zso : qx Tryz.prog 115 2 = some 2 := by kernel_rfl
theorem zsn : qx Tryz.prog 117 0 = some 0 := by kernel_rfl
theorem zzD : naB Tryz.prog 39 = true := by kernel_rfl
theorem na4 : naB Tryz.prog 4 = true := by kernel_rfl
theorem zzt : slB Tryz.prog 24 = some (3, 1, 8) := by kernel_rfl
theorem zzs : slB Tryz.prog 25 = some (192, 6, 48) := by kernel_rfl
theorem zzr : slB Tryz.prog 28 = some (195, 2, 16) := by kernel_rfl
theorem zzq : slB Tryz.prog 29 = some (197, 2, 16) := by kernel_rfl
theorem zzp : slB Tryz.prog 30 = some (200, 4, 32) := by kernel_rfl
theorem zzo : slB Tryz.prog 33 = some (202, 12, 96) := by kernel_rfl
theorem zzn : slB Tryz.prog 36 = some (156, 4, 32) := by kernel_rfl
theorem zzm : slB Tryz.prog 39 = some (23, 2, 16) := by kernel_rfl
theorem zzl : slB Tryz.prog 40 = some (117, 3, 40) := by kernel_rfl
theorem zug : slB Tryz.prog 43 = some (115, 3, 24) := by kernel_rfl
theorem zo6 {α : Type} (xs : List α) (k : Nat) : ix xs (k : Int) = xs[k]? := by simp [ix]
section
variable {κ : Ctx} {p : List PanicEntry → Fr → World → Prop} {N : Nat} {F : Fr} {w : World} {K : Fr → World → Prop} {ops : Array Oper}
theorem wr (n : Nat) {l l' : List Oper} {F' : Fr} (hr : zex tab 0 [] none ops N n [] l F [] [] = some (l', F', [], [])) (h : WL κ Tryz.prog N ops p K l' F' w) : WL κ Tryz.prog N ops p K l F w := xl yi (zhI _) n [] hr rfl an h
theorem wk {b v : Bool} (hb : b = v) (n : Nat) {l l' : List Oper} {F' : Fr} {es : List (Value × Value)} (hr : zex tab 0 [] (some (.bool b, v)) ops N n [] l F [] [] = some (l', F', es, [])) (he : es.map (·.1) = es.map (·.2)) (h : WL κ Tryz.prog N ops p K l' F' w) : WL κ Tryz.prog N ops p K l F w := qr yi (zhI _) (kb hb) n [] hr he an h
end
set_option maxRecDepth 20000
set_option maxHeartbeats 1000000 in
theorem zwe {G0 : Gm} {w0 : World} (hS0 : Sat G0 w0) {x0 : zC} {a1 : Option Addr} {n1 c1 : Nat} {a2 : Option Addr} {n2 c2 : Nat} {a3 : Option Addr} {n3 c3 : Nat} {a4 : Option Addr} {n4 c4 : Nat} {a5 : Option Addr} {n5 c5 : Nat} {a6 : Option Addr} {n6 c6 : Nat} {a7 : Option Addr} {n7 c7 : Nat} {a8 : Option Addr} {n8 c8 : Nat} {a9 : Option Addr} {n9 c9 : Nat} {a10 : Option Addr} {n10 c10 : Nat} {a11 : Option Addr} {n11 c11 : Nat} {a12 : Option Addr} {n12 c12 : Nat} {a13 : Option Addr} {n13 c13 : Nat} {a14 : Option Addr} {n14 c14 : Nat} {a15 : Option Addr} {n15 c15 : Nat} {a16 : Option Addr} {n16 c16 : Nat} (h1 : RSl yD 1 G0 a1 n1 c1 x0.Islet.Wells) (h2 : RSl qL 6 G0 a2 n2 c2 x0.Islet.Months) (h3 : RSl qB 2 G0 a3 n3 c3 x0.Book.People) (h4 : RSl qM 2 G0 a4 n4 c4 x0.Book.Events) (h5 : RSl qC 4 G0 a5 n5 c5 x0.Book.Memories) (h6 : RSl qK 12 G0 a6 n6 c6 x0.Reef.Places) (h7 : RSl yD 1 G0 a7 n7 c7 x0.Sea.Infested) (h8 : RSl yD 1 G0 a8 n8 c8 x0.Sea.Clean) (h9 : RSl yb 4 G0 a9 n9 c9 x0.Sea.Trips) (h10 : RSl yD 1 G0 a10 n10 c10 x0.Store.Stock) (h11 : RSl xY 2 G0 a11 n11 c11 x0.Store.Use) (h12 : RSl yF 3 G0 a12 n12 c12 x0.Store.Lots) (h13 : RSl zO 3 G0 a13 n13 c13 x0.System.Loads) (h14 : RSl yD 1 G0 a14 n14 c14 x0.Fishing.Roads) (h15 : RSl yD 1 G0 a15 n15 c15 x0.Fishing.Zones) (h16 : RSl yD 1 G0 a16 n16 c16 x0.Fishing.Berths) {r : Bool} (H : f16 x0 = some r) :
  Calls Tryz.prog 16 #[.agg #[iV x0.Islet.Cap, iV x0.Islet.Start.Low, iV x0.Islet.Start.High, iV x0.Islet.Roof, iV x0.Islet.Sand, iV x0.Islet.Soak.Low, iV x0.Islet.Soak.High, iV x0.Islet.Leak.Low, iV x0.Islet.Leak.High, iV x0.Islet.Pump, iV x0.Islet.Keep, iV x0.Islet.Size, .slice a1 n1 c1, .slice a2 n2 c2, iV x0.Islet.Most, iV x0.Islet.Row, iV x0.Tank, .slice a3 n3 c3, .slice a4 n4 c4, .slice a5 n5 c5, .slice a6 n6 c6, iV x0.Reef.Miss, iV x0.Reef.Seasons, iV x0.Sea.Islets, .slice a7 n7 c7, .slice a8 n8 c8, .slice a9 n9 c9, iV x0.Sea.Wait, .slice a10 n10 c10, .slice a11 n11 c11, iV x0.Store.Gap.Low, iV x0.Store.Gap.High, .slice a12 n12 c12, iV x0.Store.Hold, iV x0.System.Sunny, iV x0.System.Cloudy, iV x0.System.Size, iV x0.System.Fade, iV x0.System.Start, .slice a13 n13 c13, iV x0.System.Days, iV x0.System.Window, iV x0.System.Most, iV x0.System.Panel, iV x0.System.Battery, iV x0.Fishing.Cells, .slice a14 n14 c14, .slice a15 n15 c15, .slice a16 n16 c16, iV x0.Fishing.Days, iV x0.Money]] w0 (qW w0 (.bool r)) := by
 have hS := Since.start hS0
 have hO := je G0 w0
 unfold f16 at H
 refine qb (N := 147) (yd _ _) Tryz.func16 rfl rfl rfl rfl (zd (zb (zm rfl (zP (v := fun b => pV b) (cs := [iV x0.Islet.Cap, iV x0.Islet.Start.Low, iV x0.Islet.Start.High, iV x0.Islet.Roof, iV x0.Islet.Sand, iV x0.Islet.Soak.Low, iV x0.Islet.Soak.High, iV x0.Islet.Leak.Low, iV x0.Islet.Leak.High, iV x0.Islet.Pump, iV x0.Islet.Keep, iV x0.Islet.Size, .slice a1 n1 c1, .slice a2 n2 c2, iV x0.Islet.Most, iV x0.Islet.Row, iV x0.Tank, .slice a3 n3 c3, .slice a4 n4 c4, .slice a5 n5 c5, .slice a6 n6 c6, iV x0.Reef.Miss, iV x0.Reef.Seasons, iV x0.Sea.Islets, .slice a7 n7 c7, .slice a8 n8 c8, .slice a9 n9 c9, iV x0.Sea.Wait, .slice a10 n10 c10, .slice a11 n11 c11, iV x0.Store.Gap.Low, iV x0.Store.Gap.High, .slice a12 n12 c12, iV x0.Store.Hold, iV x0.System.Sunny, iV x0.System.Cloudy, iV x0.System.Size, iV x0.System.Fade, iV x0.System.Start, .slice a13 n13 c13, iV x0.System.Days, iV x0.System.Window, iV x0.System.Most, iV x0.System.Panel, iV x0.System.Battery, iV x0.Fishing.Cells, .slice a14 n14 c14, .slice a15 n15 c15, .slice a16 n16 c16, iV x0.Fishing.Days, iV x0.Money]) (e := 49) (qu rfl) hS.sat rfl (fun b17 G19 w18 hg hcb17 => ?_))))); have hS := hS.grow hg; have hO := hO.grow hg
 have leG19 := hg.le
 refine za (zf (v := (.bool false)) rfl) rfl (ze (zd (zd (zb (za (zf (v := (iV 0)) rfl) rfl (ze ?_)))))); obtain ⟨q22, hq22, H⟩ := bnd H; refine zZ (fun F w => ∃ (p21 : Unit) (Fb : Fr), q22 = .inl p21 ∧ F = qi Fb [(1, pV b17)] ∧ w18 = w) ?_ ?_
 ·refine zp (jq hq22 (fun s20 F w => ∃ (Fb : Fr), F = qi Fb [(1, pV b17), (3, iV s20)] ∧ w18 = w) ?_ ?_)
  ·exact ⟨_, zi _ _ ⟨rfl, rfl, trivial⟩, rfl⟩
  ·rintro s20 F wl t23 ⟨Fb, rfl, rfl⟩
   intro H1 hqq22
   have Hoq22 := H; have H := H1
   unfold zdn at H
   refine zd (zd ?_); obtain ⟨q26, hq26, H⟩ := bnd H; refine zZ (fun F w => ∃ (Fb : Fr), F = qi Fb [(1, pV b17), (3, iV s20), (13, .bool q26)] ∧ w18 = w) ?_ ?_
   ·have Hoq26 := H; have H := hq26; refine zb (xl yi (qf hS.sat hcb17) 7 [_] rfl rfl (ao (h12.mono ya leG19).1 an) ?_)
    rcases qo (decide (s20 < (x0.Store.Lots.length : Int))) with hb27 | hb27
    ·have H := ifT hb27 H; refine wk hb27 3 rfl rfl ?_; refine ze ?_; cases H
     exact ⟨_, zi _ _ ⟨rfl, rfl, rfl, trivial⟩, rfl⟩
    ·have H := ifF hb27 H; refine wk hb27 3 rfl rfl ?_; refine ze ?_; cases H
     exact ⟨_, zi _ _ ⟨rfl, rfl, rfl, trivial⟩, rfl⟩
   ·rintro F wl ⟨Fb, rfl, rfl⟩
    refine zV rfl (fun hb30 => ?_) (fun hb30 => ?_)
    ·have H := ifT hb30 H; refine zq (zd (zp (zd (zb (xl yi (qf hS.sat hcb17) 4 [] rfl rfl an ?_))))); obtain ⟨y31, hy31, H⟩ := bnd H; refine zb0 zzl (h12.mono ya leG19) hy31 rfl rfl rfl ?_
     rintro b32 o32 _ hcb32 _ ⟨a33, n33, c33, ⟨⟩, h33⟩
     refine za (zk zsn rfl) rfl (za (zo zzD rfl (hS.sat.cell (hcb32 0 _ rfl))) rfl (xl yi (zhI _) 2 [_] rfl rfl (ao h33.1 an) (ze (zV rfl (fun hb34 => ?_) (fun hb34 => ?_)))))
     ·have H := ifT hb34 H; refine zd (zb (za (zf (v := (.bool false)) rfl) rfl (ze (zF ?_)))); cases H
      have hres := hqq22 _ rfl
      subst hres; have H := Hoq22
      have H : some false = some r := H
      cases H
      exact ⟨rfl, hS.below⟩
     ·have H := ifF hb34 H; refine zq (zb ?_); refine wr 3 rfl ?_; refine ze ?_; cases H; refine ⟨_, rfl, ?_⟩
      exact ⟨_, zi _ _ ⟨rfl, rfl, trivial⟩, rfl⟩
    ·have H := ifF hb30 H; refine zW rfl ?_; cases H
     have hres := hqq22 _ rfl
     subst hres
     exact ⟨_, _, rfl, zi _ _ ⟨rfl, trivial⟩, rfl⟩
 ·rintro F wl ⟨p21, Fb, rfl, rfl, rfl⟩
  refine zd ?_; obtain ⟨q37, hq37, H⟩ := bnd H; refine zZ (fun F w => ∃ (Fb : Fr), F = qi Fb [(2, .bool q37)] ∧ w18 = w) ?_ ?_
  ·have Hoq37 := H; have H := hq37; refine zb (xl yi (qf hS.sat hcb17) 6 [_] rfl rfl (ao (h1.mono zT leG19).1 an) ?_)
   rcases qo (decide ((x0.Islet.Wells.length : Int) ≤ 8)) with hb38 | hb38
   ·have H := ifT hb38 H; refine qr yi (qf hS.sat hcb17) (kb hb38) 7 [_] rfl rfl (ao (h2.mono yQ leG19).1 an) ?_
    rcases qo (decide ((x0.Islet.Months.length : Int) ≤ 4)) with hb39 | hb39
    ·have H := ifT hb39 H; refine qr yi (qf hS.sat hcb17) (kb hb39) 7 [_] rfl rfl (ao (h3.mono yk leG19).1 an) ?_
     rcases qo (decide ((x0.Book.People.length : Int) ≤ 12)) with hb40 | hb40
     ·have H := ifT hb40 H; refine qr yi (qf hS.sat hcb17) (kb hb40) 7 [_] rfl rfl (ao (h4.mono yx leG19).1 an) ?_
      rcases qo (decide ((x0.Book.Events.length : Int) ≤ 9)) with hb41 | hb41
      ·have H := ifT hb41 H; refine qr yi (qf hS.sat hcb17) (kb hb41) 7 [_] rfl rfl (ao (h5.mono yl leG19).1 an) ?_
       rcases qo (decide ((x0.Book.Memories.length : Int) ≤ 12)) with hb42 | hb42
       ·have H := ifT hb42 H; refine qr yi (qf hS.sat hcb17) (kb hb42) 7 [_] rfl rfl (ao (h6.mono xI leG19).1 an) ?_
        rcases qo (decide ((x0.Reef.Places.length : Int) ≤ 3)) with hb43 | hb43
        ·have H := ifT hb43 H; refine qr yi (qf hS.sat hcb17) (kb hb43) 6 [] rfl rfl an ?_
         rcases qo (decide (x0.Reef.Seasons ≤ 2)) with hb44 | hb44
         ·have H := ifT hb44 H; refine qr yi (qf hS.sat hcb17) (kb hb44) 7 [_] rfl rfl (ao (h7.mono zT leG19).1 an) ?_
          rcases qo (decide ((x0.Sea.Infested.length : Int) ≤ 10)) with hb45 | hb45
          ·have H := ifT hb45 H; refine qr yi (qf hS.sat hcb17) (kb hb45) 7 [_] rfl rfl (ao (h8.mono zT leG19).1 an) ?_
           rcases qo (decide ((x0.Sea.Clean.length : Int) ≤ 10)) with hb46 | hb46
           ·have H := ifT hb46 H; refine qr yi (qf hS.sat hcb17) (kb hb46) 7 [_] rfl rfl (ao (h9.mono yG leG19).1 an) ?_
            rcases qo (decide ((x0.Sea.Trips.length : Int) ≤ 8)) with hb47 | hb47
            ·have H := ifT hb47 H; refine qr yi (qf hS.sat hcb17) (kb hb47) 7 [_] rfl rfl (ao (h10.mono zT leG19).1 an) ?_
             rcases qo (decide ((x0.Store.Stock.length : Int) ≤ 8)) with hb48 | hb48
             ·have H := ifT hb48 H; refine qr yi (qf hS.sat hcb17) (kb hb48) 7 [_] rfl rfl (ao (h11.mono xB leG19).1 an) ?_
              rcases qo (decide ((x0.Store.Use.length : Int) ≤ 8)) with hb49 | hb49
              ·have H := ifT hb49 H; refine qr yi (qf hS.sat hcb17) (kb hb49) 7 [_] rfl rfl (ao (h12.mono ya leG19).1 an) ?_
               rcases qo (decide ((x0.Store.Lots.length : Int) ≤ 8)) with hb50 | hb50
               ·have H := ifT hb50 H; refine qr yi (qf hS.sat hcb17) (kb hb50) 7 [_] rfl rfl (ao (h13.mono zx leG19).1 an) ?_
                rcases qo (decide ((x0.System.Loads.length : Int) ≤ 7)) with hb51 | hb51
                ·have H := ifT hb51 H; refine qr yi (qf hS.sat hcb17) (kb hb51) 6 [] rfl rfl an ?_
                 rcases qo (decide (x0.System.Days ≤ 4)) with hb52 | hb52
                 ·have H := ifT hb52 H; refine qr yi (qf hS.sat hcb17) (kb hb52) 7 [_] rfl rfl (ao (h14.mono zT leG19).1 an) ?_
                  rcases qo (decide ((x0.Fishing.Roads.length : Int) ≤ 10)) with hb53 | hb53
                  ·have H := ifT hb53 H; refine qr yi (qf hS.sat hcb17) (kb hb53) 7 [_] rfl rfl (ao (h15.mono zT leG19).1 an) ?_
                   rcases qo (decide ((x0.Fishing.Zones.length : Int) ≤ 5)) with hb54 | hb54
                   ·have H := ifT hb54 H; refine qr yi (qf hS.sat hcb17) (kb hb54) 7 [_] rfl rfl (ao (h16.mono zT leG19).1 an) (ze ?_); cases H
                    exact ⟨_, zi _ _ ⟨rfl, trivial⟩, rfl⟩
                   ·have H := ifF hb54 H; refine wk hb54 7 rfl rfl ?_; refine ze ?_; cases H
                    exact ⟨_, zi _ _ ⟨rfl, trivial⟩, rfl⟩
                  ·have H := ifF hb53 H; refine wk hb53 7 rfl rfl ?_; refine wr 7 rfl ?_; refine ze ?_; cases H
                   exact ⟨_, zi _ _ ⟨rfl, trivial⟩, rfl⟩
                 ·have H := ifF hb52 H; refine wk hb52 7 rfl rfl ?_; refine wr 14 rfl ?_; refine ze ?_; cases H
                  exact ⟨_, zi _ _ ⟨rfl, trivial⟩, rfl⟩
                ·have H := ifF hb51 H; refine wk hb51 6 rfl rfl ?_; refine wr 21 rfl ?_; refine ze ?_; cases H
                 exact ⟨_, zi _ _ ⟨rfl, trivial⟩, rfl⟩
               ·have H := ifF hb50 H; refine wk hb50 7 rfl rfl ?_; refine wr 27 rfl ?_; refine ze ?_; cases H
                exact ⟨_, zi _ _ ⟨rfl, trivial⟩, rfl⟩
              ·have H := ifF hb49 H; refine wk hb49 7 rfl rfl ?_; refine wr 34 rfl ?_; refine ze ?_; cases H
               exact ⟨_, zi _ _ ⟨rfl, trivial⟩, rfl⟩
             ·have H := ifF hb48 H; refine wk hb48 7 rfl rfl ?_; refine wr 41 rfl ?_; refine ze ?_; cases H
              exact ⟨_, zi _ _ ⟨rfl, trivial⟩, rfl⟩
            ·have H := ifF hb47 H; refine wk hb47 7 rfl rfl ?_; refine wr 48 rfl ?_; refine ze ?_; cases H
             exact ⟨_, zi _ _ ⟨rfl, trivial⟩, rfl⟩
           ·have H := ifF hb46 H; refine wk hb46 7 rfl rfl ?_; refine wr 55 rfl ?_; refine ze ?_; cases H
            exact ⟨_, zi _ _ ⟨rfl, trivial⟩, rfl⟩
          ·have H := ifF hb45 H; refine wk hb45 7 rfl rfl ?_; refine wr 62 rfl ?_; refine ze ?_; cases H
           exact ⟨_, zi _ _ ⟨rfl, trivial⟩, rfl⟩
         ·have H := ifF hb44 H; refine wk hb44 7 rfl rfl ?_; refine wr 69 rfl ?_; refine ze ?_; cases H
          exact ⟨_, zi _ _ ⟨rfl, trivial⟩, rfl⟩
        ·have H := ifF hb43 H; refine wk hb43 6 rfl rfl ?_; refine wr 76 rfl ?_; refine ze ?_; cases H
         exact ⟨_, zi _ _ ⟨rfl, trivial⟩, rfl⟩
       ·have H := ifF hb42 H; refine wk hb42 7 rfl rfl ?_; refine wr 82 rfl ?_; refine ze ?_; cases H
        exact ⟨_, zi _ _ ⟨rfl, trivial⟩, rfl⟩
      ·have H := ifF hb41 H; refine wk hb41 7 rfl rfl ?_; refine wr 89 rfl ?_; refine ze ?_; cases H
       exact ⟨_, zi _ _ ⟨rfl, trivial⟩, rfl⟩
     ·have H := ifF hb40 H; refine wk hb40 7 rfl rfl ?_; refine wr 96 rfl ?_; refine ze ?_; cases H
      exact ⟨_, zi _ _ ⟨rfl, trivial⟩, rfl⟩
    ·have H := ifF hb39 H; refine wk hb39 7 rfl rfl ?_; refine wr 103 rfl ?_; refine ze ?_; cases H
     exact ⟨_, zi _ _ ⟨rfl, trivial⟩, rfl⟩
   ·have H := ifF hb38 H; refine wk hb38 7 rfl rfl ?_; refine wr 110 rfl ?_; refine ze ?_; cases H
    exact ⟨_, zi _ _ ⟨rfl, trivial⟩, rfl⟩
  ·rintro F wl ⟨Fb, rfl, rfl⟩
   refine zF ?_
   have H : some q37 = some r := H
   cases H
   exact ⟨rfl, hS.below⟩
set_option maxHeartbeats 1000000 in
theorem zsG {G0 : Gm} {w0 : World} (hS0 : Sat G0 w0) {x0 : (List Int)} {a1 : Option Addr} {n1 c1 : Nat} (h1 : RSl yD 1 G0 a1 n1 c1 x0) {r : (List Int)} (H : zws x0 = some r) :
  Calls Tryz.prog 119 #[.slice a1 n1 c1] w0 (yL G0 w0 (fun G v => ∃ (ra0 : Option Addr) (rn0 rc0 : Nat), v = .slice ra0 rn0 rc0 ∧ RSl yD 1 G ra0 rn0 rc0 r)) := by
 have hS := Since.start hS0
 have hO := je G0 w0
 unfold zws at H
 refine qb (N := 5) (xZ _ _ _) Tryz.func119 rfl rfl rfl rfl (zd (zb (za (zf (v := (.slice none 0 0)) rfl) rfl (ze (zd (zb (za (zc (v := (.slice a1 n1 c1)) rfl) rfl ?_))))))); have hO := hO.cons_nil 3 1; obtain ⟨y3, hy3, H⟩ := bnd H; refine zm rfl (yc (k := 0) zzt zqI hS hO rfl rfl (Rd.nil yD 1 G0) h1 hy3 rfl rfl rfl rfl rfl (fun aw4 cw4 w4 clw4 hS hO hrw4 => ?_))
 have hO : Owns _ _ _ ([⟨3, 1, y3.length, .slice aw4 y3.length cw4, clw4⟩]) := hO
 refine za (zf (v := (.slice aw4 y3.length cw4)) rfl) rfl (ze (zF ?_)); obtain ⟨G5, leG5, hS, hO, hfG5⟩ := hO.freezeS hS zT (k := 0) rfl hrw4 rfl
 have H : some y3 = some r := H
 cases H
 exact ⟨_, _, rfl, hS.toGrow, _, _, _, rfl, hfG5⟩
set_option maxHeartbeats 1000000 in
theorem zsF {G0 : Gm} {w0 : World} (hS0 : Sat G0 w0) {x0 : (List xz)} {a1 : Option Addr} {n1 c1 : Nat} (h1 : RSl qL 6 G0 a1 n1 c1 x0) {r : (List xz)} (H : zwr x0 = some r) :
  Calls Tryz.prog 120 #[.slice a1 n1 c1] w0 (yL G0 w0 (fun G v => ∃ (ra0 : Option Addr) (rn0 rc0 : Nat), v = .slice ra0 rn0 rc0 ∧ RSl qL 6 G ra0 rn0 rc0 r)) := by
 have hS := Since.start hS0
 have hO := je G0 w0
 unfold zwr at H
 refine qb (N := 5) (xZ _ _ _) Tryz.func120 rfl rfl rfl rfl (zd (zb (za (zf (v := (.slice none 0 0)) rfl) rfl (ze (zd (zb (za (zc (v := (.slice a1 n1 c1)) rfl) rfl ?_))))))); have hO := hO.cons_nil 192 6; obtain ⟨y3, hy3, H⟩ := bnd H; refine zm rfl (yc (k := 0) zzs zdY hS hO rfl rfl (Rd.nil qL 6 G0) h1 hy3 rfl rfl rfl rfl rfl (fun aw4 cw4 w4 clw4 hS hO hrw4 => ?_))
 have hO : Owns _ _ _ ([⟨192, 6, y3.length, .slice aw4 y3.length cw4, clw4⟩]) := hO
 refine za (zf (v := (.slice aw4 y3.length cw4)) rfl) rfl (ze (zF ?_)); obtain ⟨G5, leG5, hS, hO, hfG5⟩ := hO.freezeS hS yQ (k := 0) rfl hrw4 rfl
 have H : some y3 = some r := H
 cases H
 exact ⟨_, _, rfl, hS.toGrow, _, _, _, rfl, hfG5⟩
set_option maxHeartbeats 1000000 in
theorem zsE {G0 : Gm} {w0 : World} (hS0 : Sat G0 w0) {x0 : (List yT)} {a1 : Option Addr} {n1 c1 : Nat} (h1 : RSl qB 2 G0 a1 n1 c1 x0) {r : (List yT)} (H : zwq x0 = some r) :
  Calls Tryz.prog 121 #[.slice a1 n1 c1] w0 (yL G0 w0 (fun G v => ∃ (ra0 : Option Addr) (rn0 rc0 : Nat), v = .slice ra0 rn0 rc0 ∧ RSl qB 2 G ra0 rn0 rc0 r)) := by
 have hS := Since.start hS0
 have hO := je G0 w0
 unfold zwq at H
 refine qb (N := 5) (xZ _ _ _) Tryz.func121 rfl rfl rfl rfl (zd (zb (za (zf (v := (.slice none 0 0)) rfl) rfl (ze (zd (zb (za (zc (v := (.slice a1 n1 c1)) rfl) rfl ?_))))))); have hO := hO.cons_nil 195 2; obtain ⟨y3, hy3, H⟩ := bnd H; refine zm rfl (yc (k := 0) zzr zdw hS hO rfl rfl (Rd.nil qB 2 G0) h1 hy3 rfl rfl rfl rfl rfl (fun aw4 cw4 w4 clw4 hS hO hrw4 => ?_))
 have hO : Owns _ _ _ ([⟨195, 2, y3.length, .slice aw4 y3.length cw4, clw4⟩]) := hO
 refine za (zf (v := (.slice aw4 y3.length cw4)) rfl) rfl (ze (zF ?_)); obtain ⟨G5, leG5, hS, hO, hfG5⟩ := hO.freezeS hS yk (k := 0) rfl hrw4 rfl
 have H : some y3 = some r := H
 cases H
 exact ⟨_, _, rfl, hS.toGrow, _, _, _, rfl, hfG5⟩
set_option maxHeartbeats 1000000 in
theorem zsD {G0 : Gm} {w0 : World} (hS0 : Sat G0 w0) {x0 : (List xA)} {a1 : Option Addr} {n1 c1 : Nat} (h1 : RSl qM 2 G0 a1 n1 c1 x0) {r : (List xA)} (H : zwp x0 = some r) :
  Calls Tryz.prog 122 #[.slice a1 n1 c1] w0 (yL G0 w0 (fun G v => ∃ (ra0 : Option Addr) (rn0 rc0 : Nat), v = .slice ra0 rn0 rc0 ∧ RSl qM 2 G ra0 rn0 rc0 r)) := by
 have hS := Since.start hS0
 have hO := je G0 w0
 unfold zwp at H
 refine qb (N := 5) (xZ _ _ _) Tryz.func122 rfl rfl rfl rfl (zd (zb (za (zf (v := (.slice none 0 0)) rfl) rfl (ze (zd (zb (za (zc (v := (.slice a1 n1 c1)) rfl) rfl ?_))))))); have hO := hO.cons_nil 197 2; obtain ⟨y3, hy3, H⟩ := bnd H; refine zm rfl (yc (k := 0) zzq zdZ hS hO rfl rfl (Rd.nil qM 2 G0) h1 hy3 rfl rfl rfl rfl rfl (fun aw4 cw4 w4 clw4 hS hO hrw4 => ?_))
 have hO : Owns _ _ _ ([⟨197, 2, y3.length, .slice aw4 y3.length cw4, clw4⟩]) := hO
 refine za (zf (v := (.slice aw4 y3.length cw4)) rfl) rfl (ze (zF ?_)); obtain ⟨G5, leG5, hS, hO, hfG5⟩ := hO.freezeS hS yx (k := 0) rfl hrw4 rfl
 have H : some y3 = some r := H
 cases H
 exact ⟨_, _, rfl, hS.toGrow, _, _, _, rfl, hfG5⟩
set_option maxHeartbeats 1000000 in
theorem zsC {G0 : Gm} {w0 : World} (hS0 : Sat G0 w0) {x0 : (List yU)} {a1 : Option Addr} {n1 c1 : Nat} (h1 : RSl qC 4 G0 a1 n1 c1 x0) {r : (List yU)} (H : zwo x0 = some r) :
  Calls Tryz.prog 123 #[.slice a1 n1 c1] w0 (yL G0 w0 (fun G v => ∃ (ra0 : Option Addr) (rn0 rc0 : Nat), v = .slice ra0 rn0 rc0 ∧ RSl qC 4 G ra0 rn0 rc0 r)) := by
 have hS := Since.start hS0
 have hO := je G0 w0
 unfold zwo at H
 refine qb (N := 5) (xZ _ _ _) Tryz.func123 rfl rfl rfl rfl (zd (zb (za (zf (v := (.slice none 0 0)) rfl) rfl (ze (zd (zb (za (zc (v := (.slice a1 n1 c1)) rfl) rfl ?_))))))); have hO := hO.cons_nil 200 4; obtain ⟨y3, hy3, H⟩ := bnd H; refine zm rfl (yc (k := 0) zzp zdx hS hO rfl rfl (Rd.nil qC 4 G0) h1 hy3 rfl rfl rfl rfl rfl (fun aw4 cw4 w4 clw4 hS hO hrw4 => ?_))
 have hO : Owns _ _ _ ([⟨200, 4, y3.length, .slice aw4 y3.length cw4, clw4⟩]) := hO
 refine za (zf (v := (.slice aw4 y3.length cw4)) rfl) rfl (ze (zF ?_)); obtain ⟨G5, leG5, hS, hO, hfG5⟩ := hO.freezeS hS yl (k := 0) rfl hrw4 rfl
 have H : some y3 = some r := H
 cases H
 exact ⟨_, _, rfl, hS.toGrow, _, _, _, rfl, hfG5⟩
set_option maxHeartbeats 1000000 in
theorem zsB {G0 : Gm} {w0 : World} (hS0 : Sat G0 w0) {x0 : (List xy)} {a1 : Option Addr} {n1 c1 : Nat} (h1 : RSl qK 12 G0 a1 n1 c1 x0) {r : (List xy)} (H : zwn x0 = some r) :
  Calls Tryz.prog 124 #[.slice a1 n1 c1] w0 (yL G0 w0 (fun G v => ∃ (ra0 : Option Addr) (rn0 rc0 : Nat), v = .slice ra0 rn0 rc0 ∧ RSl qK 12 G ra0 rn0 rc0 r)) := by
 have hS := Since.start hS0
 have hO := je G0 w0
 unfold zwn at H
 refine qb (N := 5) (xZ _ _ _) Tryz.func124 rfl rfl rfl rfl (zd (zb (za (zf (v := (.slice none 0 0)) rfl) rfl (ze (zd (zb (za (zc (v := (.slice a1 n1 c1)) rfl) rfl ?_))))))); have hO := hO.cons_nil 202 12; obtain ⟨y3, hy3, H⟩ := bnd H; refine zm rfl (yc (k := 0) zzo zdX hS hO rfl rfl (Rd.nil qK 12 G0) h1 hy3 rfl rfl rfl rfl rfl (fun aw4 cw4 w4 clw4 hS hO hrw4 => ?_))
 have hO : Owns _ _ _ ([⟨202, 12, y3.length, .slice aw4 y3.length cw4, clw4⟩]) := hO
 refine za (zf (v := (.slice aw4 y3.length cw4)) rfl) rfl (ze (zF ?_)); obtain ⟨G5, leG5, hS, hO, hfG5⟩ := hO.freezeS hS xI (k := 0) rfl hrw4 rfl
 have H : some y3 = some r := H
 cases H
 exact ⟨_, _, rfl, hS.toGrow, _, _, _, rfl, hfG5⟩
set_option maxHeartbeats 1000000 in
theorem zsA {G0 : Gm} {w0 : World} (hS0 : Sat G0 w0) {x0 : (List jc)} {a1 : Option Addr} {n1 c1 : Nat} (h1 : RSl yb 4 G0 a1 n1 c1 x0) {r : (List jc)} (H : zwm x0 = some r) :
  Calls Tryz.prog 125 #[.slice a1 n1 c1] w0 (yL G0 w0 (fun G v => ∃ (ra0 : Option Addr) (rn0 rc0 : Nat), v = .slice ra0 rn0 rc0 ∧ RSl yb 4 G ra0 rn0 rc0 r)) := by
 have hS := Since.start hS0
 have hO := je G0 w0
 unfold zwm at H
 refine qb (N := 5) (xZ _ _ _) Tryz.func125 rfl rfl rfl rfl (zd (zb (za (zf (v := (.slice none 0 0)) rfl) rfl (ze (zd (zb (za (zc (v := (.slice a1 n1 c1)) rfl) rfl ?_))))))); have hO := hO.cons_nil 156 4; obtain ⟨y3, hy3, H⟩ := bnd H; refine zm rfl (yc (k := 0) zzn zfG hS hO rfl rfl (Rd.nil yb 4 G0) h1 hy3 rfl rfl rfl rfl rfl (fun aw4 cw4 w4 clw4 hS hO hrw4 => ?_))
 have hO : Owns _ _ _ ([⟨156, 4, y3.length, .slice aw4 y3.length cw4, clw4⟩]) := hO
 refine za (zf (v := (.slice aw4 y3.length cw4)) rfl) rfl (ze (zF ?_)); obtain ⟨G5, leG5, hS, hO, hfG5⟩ := hO.freezeS hS yG (k := 0) rfl hrw4 rfl
 have H : some y3 = some r := H
 cases H
 exact ⟨_, _, rfl, hS.toGrow, _, _, _, rfl, hfG5⟩
set_option maxHeartbeats 1000000 in
theorem zsz {G0 : Gm} {w0 : World} (hS0 : Sat G0 w0) {x0 : (List jb)} {a1 : Option Addr} {n1 c1 : Nat} (h1 : RSl xY 2 G0 a1 n1 c1 x0) {r : (List jb)} (H : zwl x0 = some r) :
  Calls Tryz.prog 126 #[.slice a1 n1 c1] w0 (yL G0 w0 (fun G v => ∃ (ra0 : Option Addr) (rn0 rc0 : Nat), v = .slice ra0 rn0 rc0 ∧ RSl xY 2 G ra0 rn0 rc0 r)) := by
 have hS := Since.start hS0
 have hO := je G0 w0
 unfold zwl at H
 refine qb (N := 5) (xZ _ _ _) Tryz.func126 rfl rfl rfl rfl (zd (zb (za (zf (v := (.slice none 0 0)) rfl) rfl (ze (zd (zb (za (zc (v := (.slice a1 n1 c1)) rfl) rfl ?_))))))); have hO := hO.cons_nil 23 2; obtain ⟨y3, hy3, H⟩ := bnd H; refine zm rfl (yc (k := 0) zzm zkF hS hO rfl rfl (Rd.nil xY 2 G0) h1 hy3 rfl rfl rfl rfl rfl (fun aw4 cw4 w4 clw4 hS hO hrw4 => ?_))
 have hO : Owns _ _ _ ([⟨23, 2, y3.length, .slice aw4 y3.length cw4, clw4⟩]) := hO
 refine za (zf (v := (.slice aw4 y3.length cw4)) rfl) rfl (ze (zF ?_)); obtain ⟨G5, leG5, hS, hO, hfG5⟩ := hO.freezeS hS xB (k := 0) rfl hrw4 rfl
 have H : some y3 = some r := H
 cases H
 exact ⟨_, _, rfl, hS.toGrow, _, _, _, rfl, hfG5⟩
set_option maxHeartbeats 1000000 in
theorem zsy {G0 : Gm} {w0 : World} (hS0 : Sat G0 w0) {x0 : (List zE)} {a1 : Option Addr} {n1 c1 : Nat} (h1 : RSl zO 3 G0 a1 n1 c1 x0) {r : (List zE)} (H : zwk x0 = some r) :
  Calls Tryz.prog 128 #[.slice a1 n1 c1] w0 (yL G0 w0 (fun G v => ∃ (ra0 : Option Addr) (rn0 rc0 : Nat), v = .slice ra0 rn0 rc0 ∧ RSl zO 3 G ra0 rn0 rc0 r)) := by
 have hS := Since.start hS0
 have hO := je G0 w0
 unfold zwk at H
 refine qb (N := 5) (xZ _ _ _) Tryz.func128 rfl rfl rfl rfl (zd (zb (za (zf (v := (.slice none 0 0)) rfl) rfl (ze (zd (zb (za (zc (v := (.slice a1 n1 c1)) rfl) rfl ?_))))))); have hO := hO.cons_nil 115 3; obtain ⟨y3, hy3, H⟩ := bnd H; refine zm rfl (yc (k := 0) zug zfF hS hO rfl rfl (Rd.nil zO 3 G0) h1 hy3 rfl rfl rfl rfl rfl (fun aw4 cw4 w4 clw4 hS hO hrw4 => ?_))
 have hO : Owns _ _ _ ([⟨115, 3, y3.length, .slice aw4 y3.length cw4, clw4⟩]) := hO
 refine za (zf (v := (.slice aw4 y3.length cw4)) rfl) rfl (ze (zF ?_)); obtain ⟨G5, leG5, hS, hO, hfG5⟩ := hO.freezeS hS zx (k := 0) rfl hrw4 rfl
 have H : some y3 = some r := H
 cases H
 exact ⟨_, _, rfl, hS.toGrow, _, _, _, rfl, hfG5⟩
set_option maxHeartbeats 1000000 in
theorem xM {G0 : Gm} {w0 : World} (hS0 : Sat G0 w0) {x0 : Int} {x1 : Int} {x2 : Int}  {r : Bool} (H : f76 x0 x1 x2 = some r) :
  Calls Tryz.prog 76 #[iV x0, iV x1, iV x2] w0 (qW w0 (.bool r)) := by
 have hS := Since.start hS0
 have hO := je G0 w0
 unfold f76 at H
 refine qb (N := 15) (yd _ _) Tryz.func76 rfl rfl rfl rfl (zd (zb (za (zf (v := (.bool false)) rfl) rfl (ze (zd ?_))))); obtain ⟨q1, hq1, H⟩ := bnd H; refine zZ (fun F w => ∃ (Fb : Fr), F = qi Fb [(6, .bool q1)] ∧ w0 = w) ?_ ?_
 ·have Hoq1 := H; have H := hq1; refine zb ?_; refine wr 4 rfl ?_
  rcases qo (decide (x1 ≤ x0)) with hb2 | hb2
  ·have H := ifT hb2 H; refine wk hb2 5 rfl rfl ?_; refine ze ?_; cases H
   exact ⟨_, zi _ _ ⟨rfl, trivial⟩, rfl⟩
  ·have H := ifF hb2 H; refine wk hb2 5 rfl rfl ?_; refine ze ?_; cases H
   exact ⟨_, zi _ _ ⟨rfl, trivial⟩, rfl⟩
 ·rintro F wl ⟨Fb, rfl, rfl⟩
  refine zF ?_
  have H : some q1 = some r := H
  cases H
  exact ⟨rfl, hS.below⟩
set_option maxHeartbeats 1000000 in
theorem zvX {G0 : Gm} {w0 : World} (hS0 : Sat G0 w0) {x0 : zE}  {r : Bool} (H : f78 x0 = some r) :
  Calls Tryz.prog 78 #[.agg #[iV x0.Need, iV x0.Keep, .bool x0.Must]] w0 (qW w0 (.bool r)) := by
 have hS := Since.start hS0
 have hO := je G0 w0
 unfold f78 at H
 refine qb (N := 13) (yd _ _) Tryz.func78 rfl rfl rfl rfl (zd (zb (zm rfl (zP (v := fun b => pV b) (cs := [iV x0.Need, iV x0.Keep, .bool x0.Must]) (e := 115) (qu rfl) hS.sat rfl (fun b1 G3 w2 hg hcb1 => ?_))))); have hS := hS.grow hg; have hO := hO.grow hg
 have leG3 := hg.le
 refine za (zf (v := (.bool false)) rfl) rfl (ze (zd ?_)); obtain ⟨q4, hq4, H⟩ := bnd H; refine zZ (fun F w => ∃ (Fb : Fr) (G : Gm), F = qi Fb [(2, .bool q4)] ∧ Gle G3 G ∧ SO G0 w0 G w []) ?_ ?_
 ·have Hoq4 := H; have H := hq4; refine zb (xl yi (qf hS.sat hcb1) 2 [] rfl rfl an ?_); obtain ⟨y5, hy5, H⟩ := bnd H; refine zm rfl (zy zbt (xM (x0 := x0.Need) (x1 := 0) (x2 := 1000000) hS.sat  hy5) rfl rfl (fun w6 hb => ?_)); have hS := hS.keep hb; have hO := hO.below hb; refine wr 2 rfl ?_
  rcases qo (!y5) with hb7 | hb7
  ·have H := ifT hb7 H; refine wk hb7 6 rfl rfl ?_; refine ze ?_
   have hO : Owns _ _ _ [] := hO
   cases H
   exact ⟨_, G3, zi _ _ ⟨rfl, trivial⟩, Gle.refl _, hS, hO⟩
  ·have H := ifF hb7 H; refine qr yi (qf hS.sat hcb1) (kb hb7) 2 [] rfl rfl an (zl rfl hb7 rfl rfl ?_); obtain ⟨y8, hy8, H⟩ := bnd H; refine zm rfl (zy zbt (xM (x0 := x0.Keep) (x1 := 0) (x2 := 1000000) hS.sat  hy8) rfl rfl (fun w9 hb => ?_)); have hS := hS.keep hb; have hO := hO.below hb; refine wk hb7 3 rfl rfl ?_; refine ze ?_
   have hO : Owns _ _ _ [] := hO
   cases H
   exact ⟨_, G3, zi _ _ ⟨rfl, trivial⟩, Gle.refl _, hS, hO⟩
 ·rintro F w10 ⟨Fb, G11, rfl, leG11, hS, hO⟩
  refine zF ?_
  have H : some q4 = some r := H
  cases H
  exact ⟨rfl, hS.below⟩
set_option maxHeartbeats 1000000 in
theorem zsw {G0 : Gm} {w0 : World} (hS0 : Sat G0 w0) {x0 : (List zE)} {a1 : Option Addr} {n1 c1 : Nat} {x1 : (zE → Option Bool)} {k2 : Nat} {fi2 ca2 : List Value} (h1 : RSl zO 3 G0 a1 n1 c1 x0) (hf2 : FnOk174 G0 k2 fi2 ca2 x1) {r : Int} (H : zsx x0 x1 = some r) :
  Calls Tryz.prog 160 #[.slice a1 n1 c1, .func (.func k2) (fi2).toArray (ca2).toArray] w0 (qW w0 (iV r)) := by
 have hS := Since.start hS0
 have hO := je G0 w0
 unfold zsx at H
 refine qb (N := 19) (yd _ _) Tryz.func160 rfl rfl rfl rfl (zd (zb (za (zf (v := (iV 0)) rfl) rfl (ze (zd (zd (zb (xl yi (zhI _) 3 [_] rfl rfl (ao h1.1 an) (ze ?_))))))))); obtain ⟨q5, hq5, H⟩ := bnd H; refine zZ (fun F w => ∃ (p4 : Unit) (Fb : Fr) (G : Gm), q5 = .inl p4 ∧ F = qi Fb [] ∧ Gle G0 G ∧ SO G0 w0 G w []) ?_ ?_
 ·refine zp (jq hq5 (fun s3 F w => ∃ (Fb : Fr) (G : Gm), F = qi Fb [(0, .slice a1 n1 c1), (1, .func (.func k2) (fi2).toArray (ca2).toArray), (7, iV (x0.length : Int)), (8, iV s3)] ∧ Gle G0 G ∧ SO G0 w0 G w []) ?_ ?_)
  ·have hO : Owns _ _ _ [] := hO
   exact ⟨_, G0, zi _ _ ⟨rfl, rfl, rfl, rfl, trivial⟩, Gle.refl _, hS, hO⟩
  ·rintro s3 F w7 t6 ⟨Fb, G8, rfl, leG8, hS, hO⟩
   intro H1 hqq5
   have Hoq5 := H; have H := H1
   unfold zbf at H
   refine zd (zb (za (zN rfl rfl) rfl (ze (zd (zV rfl (fun hb9 => ?_) (fun hb9 => ?_))))))
   ·have H := ifT hb9 H; refine zq (zd (zp (zd (zb ?_)))); refine wr 2 rfl ?_; refine ze (zd (zb ?_)); refine wr 3 rfl ?_; obtain ⟨y10, hy10, H⟩ := bnd H; refine zb0 zug (h1.mono zx leG8) hy10 rfl rfl rfl ?_
    rintro b11 o11 _ hcb11 _ ⟨⟩
    refine za (zu zyX (cs := [iV y10.Need, iV y10.Keep, .bool y10.Must]) rfl rfl (fun j v hj => hS.sat.cell (hcb11.drop_take 0 3 j v hj))) rfl ?_; obtain ⟨y12, hy12, H⟩ := bnd H; refine zm rfl (ym hf2.1 (hf2.2 _ _ leG8 hS.sat y10 _  hy12) rfl rfl rfl (fun w13 hb => ?_)); have hS := hS.keep hb; have hO := hO.below hb; refine ze (zV rfl (fun hb14 => ?_) (fun hb14 => ?_))
    ·have H := ifT hb14 H; refine zd (zb ?_); refine wr 2 rfl ?_; refine ze (zF ?_); cases H
     have hres := hqq5 _ rfl
     subst hres; have H := Hoq5
     have H : some s3 = some r := H
     cases H
     exact ⟨rfl, hS.below⟩
    ·have H := ifF hb14 H; refine zq (zb ?_); refine wr 2 rfl ?_; refine ze ?_
     have hO : Owns _ _ _ [] := hO
     cases H; refine ⟨_, rfl, ?_⟩
     exact ⟨_, G8, zi _ _ ⟨rfl, rfl, rfl, rfl, trivial⟩, leG8, hS, hO⟩
   ·have H := ifF hb9 H; refine zW rfl ?_
    have hO : Owns _ _ _ [] := hO
    cases H
    have hres := hqq5 _ rfl
    subst hres
    exact ⟨_, _, G8, rfl, rfl, leG8, hS, hO⟩
 ·rintro F w15 ⟨p4, Fb, G16, rfl, rfl, leG16, hS, hO⟩
  refine zd (zb (za (zf (v := (iV (-1))) rfl) rfl (ze (zF ?_))))
  have H : some (-1) = some r := H
  cases H
  exact ⟨rfl, hS.below⟩
set_option maxHeartbeats 1000000 in
theorem zvZ {G0 : Gm} {w0 : World} (hS0 : Sat G0 w0) {x0 : (List zE)} {a1 : Option Addr} {n1 c1 : Nat} {x1 : (zE → Option Bool)} {k2 : Nat} {fi2 ca2 : List Value} (h1 : RSl zO 3 G0 a1 n1 c1 x0) (hf2 : FnOk174 G0 k2 fi2 ca2 x1) {r : Bool} (H : f77 x0 x1 = some r) :
  Calls Tryz.prog 77 #[.slice a1 n1 c1, .func (.func k2) (fi2).toArray (ca2).toArray] w0 (qW w0 (.bool r)) := by
 have hS := Since.start hS0
 have hO := je G0 w0
 unfold f77 at H
 refine qb (N := 9) (yd _ _) Tryz.func77 rfl rfl rfl rfl (zd (zb (za (zf (v := (.bool false)) rfl) rfl (ze (zd (zb ?_)))))); refine wr 2 rfl ?_; obtain ⟨y3, hy3, H⟩ := bnd H; refine zm rfl (zy zyH (zsw (x0 := x0) (x1 := x1) hS.sat h1 hf2 hy3) rfl rfl (fun w4 hb => ?_)); have hS := hS.keep hb; have hO := hO.below hb; refine wr 2 rfl ?_; refine ze (zF ?_)
 have H : some (decide (0 ≤ y3)) = some r := H
 cases H
 exact ⟨rfl, hS.below⟩
set_option maxHeartbeats 1000000 in
theorem zkr {G0 : Gm} {w0 : World} (hS0 : Sat G0 w0) {x0 : zn} {a1 : Option Addr} {n1 c1 : Nat} (h1 : RSl zO 3 G0 a1 n1 c1 x0.Loads) {r : Bool} (H : f26 x0 = some r) :
  Calls Tryz.prog 26 #[.agg #[iV x0.Sunny, iV x0.Cloudy, iV x0.Size, iV x0.Fade, iV x0.Start, .slice a1 n1 c1, iV x0.Days, iV x0.Window, iV x0.Most, iV x0.Panel, iV x0.Battery]] w0 (qW w0 (.bool r)) := by
 have hS := Since.start hS0
 have hO := je G0 w0
 unfold f26 at H
 refine qb (N := 69) (yd _ _) Tryz.func26 rfl rfl rfl rfl (zd (zb (zm rfl (zP (v := fun b => pV b) (cs := [iV x0.Sunny, iV x0.Cloudy, iV x0.Size, iV x0.Fade, iV x0.Start, .slice a1 n1 c1, iV x0.Days, iV x0.Window, iV x0.Most, iV x0.Panel, iV x0.Battery]) (e := 45) (qu rfl) hS.sat rfl (fun b2 G4 w3 hg hcb2 => ?_))))); have hS := hS.grow hg; have hO := hO.grow hg
 have leG4 := hg.le
 refine za (zf (v := (.bool false)) rfl) rfl (ze (zd ?_)); obtain ⟨q5, hq5, H⟩ := bnd H; refine zZ (fun F w => ∃ (Fb : Fr) (G : Gm), F = qi Fb [(2, .bool q5)] ∧ Gle G4 G ∧ SO G0 w0 G w []) ?_ ?_
 ·have Hoq5 := H; have H := hq5; refine zb (xl yi (qf hS.sat hcb2) 2 [] rfl rfl an ?_); obtain ⟨y6, hy6, H⟩ := bnd H; refine zm rfl (zy zbt (xM (x0 := x0.Sunny) (x1 := 0) (x2 := 1000000) hS.sat  hy6) rfl rfl (fun w7 hb => ?_)); have hS := hS.keep hb; have hO := hO.below hb; refine za (zc (v := (.bool y6)) rfl) rfl ?_
  rcases qo y6 with hb8 | hb8
  ·have H := ifT hb8 H; refine qr yi (qf hS.sat hcb2) (kb hb8) 4 [] rfl rfl an (zl rfl hb8 rfl rfl ?_); obtain ⟨y9, hy9, H⟩ := bnd H; refine zm rfl (zy zbt (xM (x0 := x0.Cloudy) (x1 := 0) (x2 := x0.Sunny) hS.sat  hy9) rfl rfl (fun w10 hb => ?_)); have hS := hS.keep hb; have hO := hO.below hb; refine wk hb8 2 rfl rfl ?_
   rcases qo y9 with hb11 | hb11
   ·have H := ifT hb11 H; refine qr yi (qf hS.sat hcb2) (kb hb11) 2 [] rfl rfl an (zl rfl hb11 rfl rfl ?_); obtain ⟨y12, hy12, H⟩ := bnd H; refine zm rfl (zy zbt (xM (x0 := x0.Size) (x1 := 0) (x2 := 1000000) hS.sat  hy12) rfl rfl (fun w13 hb => ?_)); have hS := hS.keep hb; have hO := hO.below hb; refine wk hb11 2 rfl rfl ?_
    rcases qo y12 with hb14 | hb14
    ·have H := ifT hb14 H; refine qr yi (qf hS.sat hcb2) (kb hb14) 2 [] rfl rfl an (zl rfl hb14 rfl rfl ?_); obtain ⟨y15, hy15, H⟩ := bnd H; refine zm rfl (zy zbt (xM (x0 := x0.Fade) (x1 := 0) (x2 := 1000) hS.sat  hy15) rfl rfl (fun w16 hb => ?_)); have hS := hS.keep hb; have hO := hO.below hb; refine wk hb14 2 rfl rfl ?_
     rcases qo y15 with hb17 | hb17
     ·have H := ifT hb17 H; refine qr yi (qf hS.sat hcb2) (kb hb17) 2 [] rfl rfl an (zl rfl hb17 rfl rfl ?_); obtain ⟨y18, hy18, H⟩ := bnd H; refine zm rfl (zy zbt (xM (x0 := x0.Start) (x1 := 0) (x2 := 1000) hS.sat  hy18) rfl rfl (fun w19 hb => ?_)); have hS := hS.keep hb; have hO := hO.below hb; refine wk hb17 2 rfl rfl ?_
      rcases qo y18 with hb20 | hb20
      ·have H := ifT hb20 H; refine qr yi (qf hS.sat hcb2) (kb hb20) 3 [_] rfl rfl (ao (h1.mono zx leG4).1 an) (zl rfl hb20 rfl rfl ?_); obtain ⟨y21, hy21, H⟩ := bnd H; refine zm rfl (zy zbt (xM (x0 := (x0.Loads.length : Int)) (x1 := 1) (x2 := 5) hS.sat  hy21) rfl rfl (fun w22 hb => ?_)); have hS := hS.keep hb; have hO := hO.below hb; refine wk hb20 2 rfl rfl ?_
       rcases qo y21 with hb23 | hb23
       ·have H := ifT hb23 H; refine qr yi (qf hS.sat hcb2) (kb hb23) 2 [] rfl rfl an (zl rfl hb23 rfl rfl ?_)
        have hF24 : FnOk174 G4 78 [] [] (fun (z0 : zE) => f78 z0) := ⟨zAA, fun G1 W1 hl hw z0 r1 H1 => zvX (x0 := z0) hw  H1⟩
        obtain ⟨y25, hy25, H⟩ := bnd H; refine zm rfl (zy zAB (zvZ (x0 := x0.Loads) (x1 := (fun (z0 : zE) => f78 z0)) hS.sat (h1.mono zx leG4) hF24 hy25) rfl rfl (fun w26 hb => ?_)); have hS := hS.keep hb; have hO := hO.below hb; refine wk hb23 3 rfl rfl ?_
        rcases qo (!y25) with hb27 | hb27
        ·have H := ifT hb27 H; refine qr yi (qf hS.sat hcb2) (kb hb27) 2 [] rfl rfl an (zl rfl hb27 rfl rfl ?_); obtain ⟨y28, hy28, H⟩ := bnd H; refine zm rfl (zy zbt (xM (x0 := x0.Days) (x1 := 1) (x2 := 10) hS.sat  hy28) rfl rfl (fun w29 hb => ?_)); have hS := hS.keep hb; have hO := hO.below hb; refine wk hb27 2 rfl rfl ?_
         rcases qo y28 with hb30 | hb30
         ·have H := ifT hb30 H; refine qr yi (qf hS.sat hcb2) (kb hb30) 4 [] rfl rfl an (zl rfl hb30 rfl rfl ?_); obtain ⟨y31, hy31, H⟩ := bnd H; refine zm rfl (zy zbt (xM (x0 := x0.Window) (x1 := 1) (x2 := x0.Days) hS.sat  hy31) rfl rfl (fun w32 hb => ?_)); have hS := hS.keep hb; have hO := hO.below hb; refine wk hb30 2 rfl rfl ?_
          rcases qo y31 with hb33 | hb33
          ·have H := ifT hb33 H; refine qr yi (qf hS.sat hcb2) (kb hb33) 4 [] rfl rfl an (zl rfl hb33 rfl rfl ?_); obtain ⟨y34, hy34, H⟩ := bnd H; refine zm rfl (zy zbt (xM (x0 := x0.Most) (x1 := 0) (x2 := x0.Window) hS.sat  hy34) rfl rfl (fun w35 hb => ?_)); have hS := hS.keep hb; have hO := hO.below hb; refine wk hb33 2 rfl rfl ?_
           rcases qo y34 with hb36 | hb36
           ·have H := ifT hb36 H; refine qr yi (qf hS.sat hcb2) (kb hb36) 2 [] rfl rfl an (zl rfl hb36 rfl rfl ?_); obtain ⟨y37, hy37, H⟩ := bnd H; refine zm rfl (zy zbt (xM (x0 := x0.Panel) (x1 := 0) (x2 := 1000000) hS.sat  hy37) rfl rfl (fun w38 hb => ?_)); have hS := hS.keep hb; have hO := hO.below hb; refine wk hb36 2 rfl rfl ?_
            rcases qo y37 with hb39 | hb39
            ·have H := ifT hb39 H; refine qr yi (qf hS.sat hcb2) (kb hb39) 2 [] rfl rfl an (zl rfl hb39 rfl rfl ?_); obtain ⟨y40, hy40, H⟩ := bnd H; refine zm rfl (zy zbt (xM (x0 := x0.Battery) (x1 := 0) (x2 := 1000000) hS.sat  hy40) rfl rfl (fun w41 hb => ?_)); have hS := hS.keep hb; have hO := hO.below hb; refine wk hb39 2 rfl rfl ?_; refine ze ?_
             have hO : Owns _ _ _ [] := hO
             cases H
             exact ⟨_, G4, zi _ _ ⟨rfl, trivial⟩, Gle.refl _, hS, hO⟩
            ·have H := ifF hb39 H; refine wk hb39 5 rfl rfl ?_; refine ze ?_
             have hO : Owns _ _ _ [] := hO
             cases H
             exact ⟨_, G4, zi _ _ ⟨rfl, trivial⟩, Gle.refl _, hS, hO⟩
           ·have H := ifF hb36 H; refine wk hb36 5 rfl rfl ?_; refine wr 5 rfl ?_; refine ze ?_
            have hO : Owns _ _ _ [] := hO
            cases H
            exact ⟨_, G4, zi _ _ ⟨rfl, trivial⟩, Gle.refl _, hS, hO⟩
          ·have H := ifF hb33 H; refine wk hb33 7 rfl rfl ?_; refine wr 10 rfl ?_; refine ze ?_
           have hO : Owns _ _ _ [] := hO
           cases H
           exact ⟨_, G4, zi _ _ ⟨rfl, trivial⟩, Gle.refl _, hS, hO⟩
         ·have H := ifF hb30 H; refine wk hb30 7 rfl rfl ?_; refine wr 17 rfl ?_; refine ze ?_
          have hO : Owns _ _ _ [] := hO
          cases H
          exact ⟨_, G4, zi _ _ ⟨rfl, trivial⟩, Gle.refl _, hS, hO⟩
        ·have H := ifF hb27 H; refine wk hb27 5 rfl rfl ?_; refine wr 24 rfl ?_; refine ze ?_
         have hO : Owns _ _ _ [] := hO
         cases H
         exact ⟨_, G4, zi _ _ ⟨rfl, trivial⟩, Gle.refl _, hS, hO⟩
       ·have H := ifF hb23 H; refine wk hb23 6 rfl rfl ?_; refine wr 29 rfl ?_; refine ze ?_
        have hO : Owns _ _ _ [] := hO
        cases H
        exact ⟨_, G4, zi _ _ ⟨rfl, trivial⟩, Gle.refl _, hS, hO⟩
      ·have H := ifF hb20 H; refine wk hb20 6 rfl rfl ?_; refine wr 35 rfl ?_; refine ze ?_
       have hO : Owns _ _ _ [] := hO
       cases H
       exact ⟨_, G4, zi _ _ ⟨rfl, trivial⟩, Gle.refl _, hS, hO⟩
     ·have H := ifF hb17 H; refine wk hb17 5 rfl rfl ?_; refine wr 41 rfl ?_; refine ze ?_
      have hO : Owns _ _ _ [] := hO
      cases H
      exact ⟨_, G4, zi _ _ ⟨rfl, trivial⟩, Gle.refl _, hS, hO⟩
    ·have H := ifF hb14 H; refine wk hb14 5 rfl rfl ?_; refine wr 46 rfl ?_; refine ze ?_
     have hO : Owns _ _ _ [] := hO
     cases H
     exact ⟨_, G4, zi _ _ ⟨rfl, trivial⟩, Gle.refl _, hS, hO⟩
   ·have H := ifF hb11 H; refine wk hb11 5 rfl rfl ?_; refine wr 51 rfl ?_; refine ze ?_
    have hO : Owns _ _ _ [] := hO
    cases H
    exact ⟨_, G4, zi _ _ ⟨rfl, trivial⟩, Gle.refl _, hS, hO⟩
  ·have H := ifF hb8 H; refine wk hb8 7 rfl rfl ?_; refine wr 56 rfl ?_; refine ze ?_
   have hO : Owns _ _ _ [] := hO
   cases H
   exact ⟨_, G4, zi _ _ ⟨rfl, trivial⟩, Gle.refl _, hS, hO⟩
 ·rintro F w42 ⟨Fb, G43, rfl, leG43, hS, hO⟩
  refine zF ?_
  have H : some q5 = some r := H
  cases H
  exact ⟨rfl, hS.below⟩
set_option maxHeartbeats 1000000 in
theorem zsu {G0 : Gm} {w0 : World} (hS0 : Sat G0 w0) {x0 : zn} {a1 : Option Addr} {n1 c1 : Nat} {x1 : (List UInt8)} (h1 : RSl zO 3 G0 a1 n1 c1 x0.Loads) {r : Bool} (H : zks x0 x1 = some r) :
  Calls Tryz.prog 164 #[.agg #[iV x0.Sunny, iV x0.Cloudy, iV x0.Size, iV x0.Fade, iV x0.Start, .slice a1 n1 c1, iV x0.Days, iV x0.Window, iV x0.Most, iV x0.Panel, iV x0.Battery], .string ⟨x1.toArray⟩] w0 (qW w0 (.bool r)) := by
 have hS := Since.start hS0
 have hO := je G0 w0
 unfold zks at H
 refine qb (N := 38) (yd _ _) Tryz.func164 rfl rfl rfl rfl (zd (zb (zm rfl (zP (v := fun b => pV b) (cs := [iV x0.Sunny, iV x0.Cloudy, iV x0.Size, iV x0.Fade, iV x0.Start, .slice a1 n1 c1, iV x0.Days, iV x0.Window, iV x0.Most, iV x0.Panel, iV x0.Battery]) (e := 45) (qu rfl) hS.sat rfl (fun b2 G4 w3 hg hcb2 => ?_))))); have hS := hS.grow hg; have hO := hO.grow hg
 have leG4 := hg.le
 refine za (zf (v := (.bool false)) rfl) rfl (ze (zd (zd (zb (xl yi (qf hS.sat hcb2) 7 [] rfl rfl an (ze ?_)))))); obtain ⟨q7, hq7, H⟩ := bnd H; refine zZ (fun F w => ∃ (p6 : Unit) (Fb : Fr) (G : Gm), q7 = .inl p6 ∧ F = qi Fb [] ∧ Gle G4 G ∧ SO G0 w0 G w []) ?_ ?_
 ·refine zp (jq hq7 (fun s5 F w => ∃ (Fb : Fr) (G : Gm), F = qi Fb [(1, .string ⟨x1.toArray⟩), (2, pV b2), (14, iV (IntKind.i64.wrap ((IntKind.i64.wrap (x0.Days - x0.Window)) + 1))), (15, iV s5)] ∧ Gle G4 G ∧ SO G0 w0 G w []) ?_ ?_)
  ·have hO : Owns _ _ _ [] := hO
   exact ⟨_, G4, zi _ _ ⟨rfl, rfl, rfl, rfl, trivial⟩, Gle.refl _, hS, hO⟩
  ·rintro s5 F w9 t8 ⟨Fb, G10, rfl, leG10, hS, hO⟩
   intro H1 hqq7
   have Hoq7 := H; have H := H1
   unfold kU at H
   refine zd (zb (za (zN rfl rfl) rfl (ze (zd (zV rfl (fun hb11 => ?_) (fun hb11 => ?_))))))
   ·have H := ifT hb11 H; refine zq (zd (zp (zd (zb ?_)))); refine wr 2 rfl ?_; refine ze (zd (zb (za (zf (v := (iV 0)) rfl) rfl (ze (zd (zd (zb (xl yi (qf (hS.sat.le leG10) hcb2) 6 [] rfl rfl an ?_)))))))); obtain ⟨y12, hy12, H⟩ := bnd H; refine za (zms Tryz.underlying9 rfl rfl rfl hy12) rfl (zm rfl (zb3 Tryz.underlying9 hS hO rfl rfl (fun r13 w14 hS hO => ?_)))
    have hO : Owns _ _ _ ([⟨0, 1, 2, .map (some r13), [.string ⟨y12.toArray⟩, iV ((0 : Nat) : Int)]⟩]) := hO
    refine ze ?_; obtain ⟨q18, hq18, H⟩ := bnd H; refine zZ (fun F w => ∃ (Fb : Fr) (G : Gm), F = qi Fb [(1, .string ⟨x1.toArray⟩), (2, pV b2), (6, iV q18.1), (14, iV (IntKind.i64.wrap ((IntKind.i64.wrap (x0.Days - x0.Window)) + 1))), (15, iV s5)] ∧ Gle G10 G ∧ Since w0.heap.size G0 w0 G w ∧ Owns G w w0.heap.size [⟨0, 1, 2, .map (some r13), [.string ⟨y12.toArray⟩, iV ((q18.2 : Nat) : Int)]⟩]) ?_ ?_
    ·refine zp (jq hq18 (fun s16 F w => ∃ (Fb : Fr) (G : Gm), F = qi Fb [(1, .string ⟨x1.toArray⟩), (2, pV b2), (6, iV s16.1), (14, iV (IntKind.i64.wrap ((IntKind.i64.wrap (x0.Days - x0.Window)) + 1))), (15, iV s5), (25, pV r13)] ∧ Gle G10 G ∧ Since w0.heap.size G0 w0 G w ∧ Owns G w w0.heap.size [⟨0, 1, 2, .map (some r13), [.string ⟨y12.toArray⟩, iV ((s16.2 : Nat) : Int)]⟩]) ?_ ?_)
     ·have hO : Owns _ _ _ ([⟨0, 1, 2, .map (some r13), [.string ⟨y12.toArray⟩, iV ((0 : Nat) : Int)]⟩]) := hO
      exact ⟨_, G10, zi _ _ ⟨rfl, rfl, rfl, rfl, rfl, rfl, trivial⟩, Gle.refl _, hS, hO⟩
     ·rintro s16 F w20 t19 ⟨Fb, G21, rfl, leG21, hS, hO⟩
      intro H1 hqq18
      have Hoq18 := H; have H := H1
      unfold vX at H
      refine zd (zb ?_)
      rcases qo (decide (s16.2 < y12.length)) with hb22 | hb22
      ·have H := ifT hb22 H; refine zm rfl (zdz (k := 0) hS hO rfl rfl rfl hb22 (fun w23 hS hO => ?_))
       have hO : Owns _ _ _ ([⟨0, 1, 2, .map (some r13), [.string ⟨y12.toArray⟩, iV (((s16.2 + (xV y12 s16.2).2) : Nat) : Int)]⟩]) := hO
       refine za (zL (v := (.bool true)) rfl rfl) rfl (ze (zd (zQ _ rfl rfl (zq (zp (zd (zb (za (zL (v := (.int .i32 ((xV y12 s16.2).1))) rfl rfl) rfl (za (zf (v := (.int .i32 ((xV y12 s16.2).1))) rfl) rfl (ze (zd (zb ?_)))))))))))); refine wr 2 rfl ?_; refine ze (zV rfl (fun hb24 => ?_) (fun hb24 => ?_))
       ·have H := ifT hb24 H; refine zb ?_; refine wr 3 rfl ?_; refine ze ?_
        have hO : Owns _ _ _ ([⟨0, 1, 2, .map (some r13), [.string ⟨y12.toArray⟩, iV (((s16.2 + (xV y12 s16.2).2) : Nat) : Int)]⟩]) := hO
        cases H; refine ⟨_, rfl, ?_⟩
        exact ⟨_, G21, zi _ _ ⟨rfl, rfl, rfl, rfl, rfl, rfl, trivial⟩, leG21, hS, hO⟩
       ·have H := ifF hb24 H; refine zq ?_
        have hO : Owns _ _ _ ([⟨0, 1, 2, .map (some r13), [.string ⟨y12.toArray⟩, iV (((s16.2 + (xV y12 s16.2).2) : Nat) : Int)]⟩]) := hO
        cases H; refine ⟨_, rfl, ?_⟩
        exact ⟨_, G21, zi _ _ ⟨rfl, rfl, rfl, rfl, rfl, rfl, trivial⟩, leG21, hS, hO⟩
      ·have H := ifF hb22 H; refine zm rfl (zdy (k := 0) hO rfl rfl rfl hb22 ?_); refine za (zL (v := (.bool false)) rfl rfl) rfl (ze (zd (zH _ rfl rfl (zW rfl ?_))))
       have hO : Owns _ _ _ ([⟨0, 1, 2, .map (some r13), [.string ⟨y12.toArray⟩, iV ((s16.2 : Nat) : Int)]⟩]) := hO
       cases H
       have hres := hqq18 _ rfl
       subst hres
       exact ⟨_, G21, zi _ _ ⟨rfl, rfl, rfl, rfl, rfl, trivial⟩, leG21, hS, hO⟩
    ·rintro F w25 ⟨Fb, G26, rfl, leG26, hS, hO⟩
     refine zd (zb ?_)
     have l1_3 := leG10.trans leG26
     refine xl yi (qf (hS.sat.le l1_3) hcb2) 4 [] rfl rfl an (ze (zV rfl (fun hb27 => ?_) (fun hb27 => ?_)))
     ·have H := ifT hb27 H; refine zd (zb (za (zf (v := (.bool false)) rfl) rfl (ze (zF ?_)))); cases H
      have hres := hqq7 _ rfl
      subst hres; have H := Hoq7
      have H : some false = some r := H
      cases H
      exact ⟨rfl, hS.below⟩
     ·have H := ifF hb27 H; refine zq (zb ?_); refine wr 2 rfl ?_; refine ze ?_; have hO := hO.drop 0
      have hO : Owns _ _ _ [] := hO
      cases H; refine ⟨_, rfl, ?_⟩
      exact ⟨_, G26, zi _ _ ⟨rfl, rfl, rfl, rfl, trivial⟩, l1_3, hS, hO⟩
   ·have H := ifF hb11 H; refine zW rfl ?_
    have hO : Owns _ _ _ [] := hO
    cases H
    have hres := hqq7 _ rfl
    subst hres
    exact ⟨_, _, G10, rfl, rfl, leG10, hS, hO⟩
 ·rintro F w28 ⟨p6, Fb, G29, rfl, rfl, leG29, hS, hO⟩
  refine zd (zb (za (zf (v := (.bool true)) rfl) rfl (ze (zF ?_))))
  have H : some true = some r := H
  cases H
  exact ⟨rfl, hS.below⟩
set_option maxHeartbeats 1000000 in
theorem zpD {G0 : Gm} {w0 : World} (hS0 : Sat G0 w0) {x0 : Int} {x1 : Int} {x2 : Int}  {r : Bool} (H : f19 x0 x1 x2 = some r) :
  Calls Tryz.prog 19 #[iV x0, iV x1, iV x2] w0 (qW w0 (.bool r)) := by
 have hS := Since.start hS0
 have hO := je G0 w0
 unfold f19 at H
 refine qb (N := 15) (yd _ _) Tryz.func19 rfl rfl rfl rfl (zd (zb (za (zf (v := (.bool false)) rfl) rfl (ze (zd ?_))))); obtain ⟨q1, hq1, H⟩ := bnd H; refine zZ (fun F w => ∃ (Fb : Fr), F = qi Fb [(6, .bool q1)] ∧ w0 = w) ?_ ?_
 ·have Hoq1 := H; have H := hq1; refine zb ?_; refine wr 4 rfl ?_
  rcases qo (decide (x1 ≤ x0)) with hb2 | hb2
  ·have H := ifT hb2 H; refine wk hb2 5 rfl rfl ?_; refine ze ?_; cases H
   exact ⟨_, zi _ _ ⟨rfl, trivial⟩, rfl⟩
  ·have H := ifF hb2 H; refine wk hb2 5 rfl rfl ?_; refine ze ?_; cases H
   exact ⟨_, zi _ _ ⟨rfl, trivial⟩, rfl⟩
 ·rintro F wl ⟨Fb, rfl, rfl⟩
  refine zF ?_
  have H : some q1 = some r := H
  cases H
  exact ⟨rfl, hS.below⟩
set_option maxHeartbeats 1000000 in
theorem ztz {G0 : Gm} {w0 : World} (hS0 : Sat G0 w0) {x0 : Int} {x1 : Int}  {r : Bool} (H : f5 x0 x1 = some r) :
  Calls Tryz.prog 5 #[iV x0, iV x1] w0 (qW w0 (.bool r)) := by
 have hS := Since.start hS0
 have hO := je G0 w0
 unfold f5 at H
 refine qb (N := 11) (yd _ _) Tryz.func5 rfl rfl rfl rfl (zd (zb (za (zf (v := (.bool false)) rfl) rfl (ze (zd ?_))))); obtain ⟨q1, hq1, H⟩ := bnd H; refine zZ (fun F w => ∃ (Fb : Fr) (G : Gm), F = qi Fb [(4, .bool q1)] ∧ Gle G0 G ∧ SO G0 w0 G w []) ?_ ?_
 ·have Hoq1 := H; have H := hq1; refine zb (za (zc (v := (iV x0)) rfl) rfl ?_); obtain ⟨y2, hy2, H⟩ := bnd H; refine zm rfl (zy zyG (zpD (x0 := x0) (x1 := 0) (x2 := 12) hS.sat  hy2) rfl rfl (fun w3 hb => ?_)); have hS := hS.keep hb; have hO := hO.below hb; refine za (zc (v := (.bool y2)) rfl) rfl ?_
  rcases qo y2 with hb4 | hb4
  ·have H := ifT hb4 H; refine zl rfl hb4 rfl rfl (za (zc (v := (iV x1)) rfl) rfl (zl rfl hb4 rfl rfl ?_)); obtain ⟨y5, hy5, H⟩ := bnd H; refine zm rfl (zy zyG (zpD (x0 := x1) (x1 := 0) (x2 := 8) hS.sat  hy5) rfl rfl (fun w6 hb => ?_)); have hS := hS.keep hb; have hO := hO.below hb; refine wk hb4 2 rfl rfl ?_; refine ze ?_
   have hO : Owns _ _ _ [] := hO
   cases H
   exact ⟨_, G0, zi _ _ ⟨rfl, trivial⟩, Gle.refl _, hS, hO⟩
  ·have H := ifF hb4 H; refine wk hb4 4 rfl rfl ?_; refine ze ?_
   have hO : Owns _ _ _ [] := hO
   cases H
   exact ⟨_, G0, zi _ _ ⟨rfl, trivial⟩, Gle.refl _, hS, hO⟩
 ·rintro F w7 ⟨Fb, G8, rfl, leG8, hS, hO⟩
  refine zF ?_
  have H : some q1 = some r := H
  cases H
  exact ⟨rfl, hS.below⟩
set_option maxHeartbeats 1000000 in
theorem zx1 {G0 : Gm} {w0 : World} (hS0 : Sat G0 w0) {x0 : zn} {a1 : Option Addr} {n1 c1 : Nat} {x1 : Int} {x2 : Int} (h1 : RSl zO 3 G0 a1 n1 c1 x0.Loads) {r : Int} (H : f8 x0 x1 x2 = some r) :
  Calls Tryz.prog 8 #[.agg #[iV x0.Sunny, iV x0.Cloudy, iV x0.Size, iV x0.Fade, iV x0.Start, .slice a1 n1 c1, iV x0.Days, iV x0.Window, iV x0.Most, iV x0.Panel, iV x0.Battery], iV x1, iV x2] w0 (qW w0 (iV r)) := by
 have hS := Since.start hS0
 have hO := je G0 w0
 unfold f8 at H
 refine qb (N := 16) (yd _ _) Tryz.func8 rfl rfl rfl rfl (zd (zb (zm rfl (zP (v := fun b => pV b) (cs := [iV x0.Sunny, iV x0.Cloudy, iV x0.Size, iV x0.Fade, iV x0.Start, .slice a1 n1 c1, iV x0.Days, iV x0.Window, iV x0.Most, iV x0.Panel, iV x0.Battery]) (e := 45) (qu rfl) hS.sat rfl (fun b2 G4 w3 hg hcb2 => ?_))))); have hS := hS.grow hg; have hO := hO.grow hg
 have leG4 := hg.le
 refine za (zf (v := (iV 0)) rfl) rfl (ze (zd (zb (xl yi (qf hS.sat hcb2) 10 [] rfl rfl an (ze (zF ?_))))))
 have H : some (IntKind.i64.wrap ((IntKind.i64.wrap (x1 * x0.Panel)) + (IntKind.i64.wrap (x2 * x0.Battery)))) = some r := H
 cases H
 exact ⟨rfl, hS.below⟩
set_option maxHeartbeats 1000000 in
theorem zwi {G0 : Gm} {w0 : World} (hS0 : Sat G0 w0) {x0 : zn} {a1 : Option Addr} {n1 c1 : Nat} {x1 : (List UInt8)} (h1 : RSl zO 3 G0 a1 n1 c1 x0.Loads) {r : Bool} (H : f12 x0 x1 = some r) :
  Calls Tryz.prog 12 #[.agg #[iV x0.Sunny, iV x0.Cloudy, iV x0.Size, iV x0.Fade, iV x0.Start, .slice a1 n1 c1, iV x0.Days, iV x0.Window, iV x0.Most, iV x0.Panel, iV x0.Battery], .string ⟨x1.toArray⟩] w0 (qW w0 (.bool r)) := by
 have hS := Since.start hS0
 have hO := je G0 w0
 unfold f12 at H
 refine qb (N := 27) (yd _ _) Tryz.func12 rfl rfl rfl rfl (zd (zb (zm rfl (zP (v := fun b => pV b) (cs := [iV x0.Sunny, iV x0.Cloudy, iV x0.Size, iV x0.Fade, iV x0.Start, .slice a1 n1 c1, iV x0.Days, iV x0.Window, iV x0.Most, iV x0.Panel, iV x0.Battery]) (e := 45) (qu rfl) hS.sat rfl (fun b2 G4 w3 hg hcb2 => ?_))))); have hS := hS.grow hg; have hO := hO.grow hg
 have leG4 := hg.le
 refine za (zf (v := (.bool false)) rfl) rfl (ze (zd (zd (zb (za (zf (v := (iV 0)) rfl) rfl (ze ?_)))))); obtain ⟨q7, hq7, H⟩ := bnd H; refine zZ (fun F w => ∃ (p6 : Unit) (Fb : Fr), q7 = .inl p6 ∧ F = qi Fb [(1, .string ⟨x1.toArray⟩), (2, pV b2)] ∧ w3 = w) ?_ ?_
 ·refine zp (jq hq7 (fun s5 F w => ∃ (Fb : Fr), F = qi Fb [(1, .string ⟨x1.toArray⟩), (2, pV b2), (5, iV s5)] ∧ w3 = w) ?_ ?_)
  ·exact ⟨_, zi _ _ ⟨rfl, rfl, rfl, trivial⟩, rfl⟩
  ·rintro s5 F wl t8 ⟨Fb, rfl, rfl⟩
   intro H1 hqq7
   have Hoq7 := H; have H := H1
   unfold zaT at H
   refine zd (zd (zb ?_)); refine wr 2 rfl ?_; refine za (zch Tryz.underlying9 rfl rfl) rfl (za (zN rfl rfl) rfl (ze (zV rfl (fun hb11 => ?_) (fun hb11 => ?_))))
   ·have H := ifT hb11 H; refine zq (zd (zp (zd ?_))); obtain ⟨q12, hq12, H⟩ := bnd H; refine zZ (fun F w => ∃ (Fb : Fr), F = qi Fb [(1, .string ⟨x1.toArray⟩), (2, pV b2), (5, iV s5), (21, .bool q12)] ∧ w3 = w) ?_ ?_
    ·have Hoq12 := H; have H := hq12; refine zb ?_; refine wr 2 rfl ?_; obtain ⟨y13, hy13, H⟩ := bnd H; refine za (rn_idxS Tryz.underlying9 rfl rfl hy13) rfl ?_; refine wr 2 rfl ?_
     rcases qo ((y13.toNat : Int) != 115) with hb14 | hb14
     ·have H := ifT hb14 H; refine wk hb14 2 rfl rfl ?_; refine zl rfl hb14 rfl rfl ?_; obtain ⟨y15, hy15, H⟩ := bnd H; refine za (rn_idxS Tryz.underlying9 rfl rfl hy15) rfl ?_; refine wk hb14 2 rfl rfl ?_; refine ze ?_; cases H
      exact ⟨_, zi _ _ ⟨rfl, rfl, rfl, rfl, trivial⟩, rfl⟩
     ·have H := ifF hb14 H; refine wk hb14 5 rfl rfl ?_; refine ze ?_; cases H
      exact ⟨_, zi _ _ ⟨rfl, rfl, rfl, rfl, trivial⟩, rfl⟩
    ·rintro F wl ⟨Fb, rfl, rfl⟩
     refine zV rfl (fun hb18 => ?_) (fun hb18 => ?_)
     ·have H := ifT hb18 H; refine zd (zb (za (zf (v := (.bool false)) rfl) rfl (ze (zF ?_)))); cases H
      have hres := hqq7 _ rfl
      subst hres; have H := Hoq7
      have H : some false = some r := H
      cases H
      exact ⟨rfl, hS.below⟩
     ·have H := ifF hb18 H; refine zq (zb ?_); refine wr 3 rfl ?_; refine ze ?_; cases H; refine ⟨_, rfl, ?_⟩
      exact ⟨_, zi _ _ ⟨rfl, rfl, rfl, trivial⟩, rfl⟩
   ·have H := ifF hb11 H; refine zW rfl ?_; cases H
    have hres := hqq7 _ rfl
    subst hres
    exact ⟨_, _, rfl, zi _ _ ⟨rfl, rfl, trivial⟩, rfl⟩
 ·rintro F wl ⟨p6, Fb, rfl, rfl, rfl⟩
  refine zd (zb (za (zc (v := (.string ⟨x1.toArray⟩)) rfl) rfl (za (zch Tryz.underlying9 rfl rfl) rfl (xl yi (qf hS.sat hcb2) 4 [] rfl rfl an (ze (zF ?_))))))
  have H : some ((x1.length : Int) == x0.Days) = some r := H
  cases H
  exact ⟨rfl, hS.below⟩
set_option maxHeartbeats 1000000 in
theorem zwh {G0 : Gm} {w0 : World} (hS0 : Sat G0 w0) {x0 : zn} {a1 : Option Addr} {n1 c1 : Nat} {x1 : (List UInt8)} (h1 : RSl zO 3 G0 a1 n1 c1 x0.Loads) {r : Bool} (H : f13 x0 x1 = some r) :
  Calls Tryz.prog 13 #[.agg #[iV x0.Sunny, iV x0.Cloudy, iV x0.Size, iV x0.Fade, iV x0.Start, .slice a1 n1 c1, iV x0.Days, iV x0.Window, iV x0.Most, iV x0.Panel, iV x0.Battery], .string ⟨x1.toArray⟩] w0 (qW w0 (.bool r)) := by
 have hS := Since.start hS0
 have hO := je G0 w0
 unfold f13 at H
 refine qb (N := 36) (yd _ _) Tryz.func13 rfl rfl rfl rfl (zd (zb (zm rfl (zP (v := fun b => pV b) (cs := [iV x0.Sunny, iV x0.Cloudy, iV x0.Size, iV x0.Fade, iV x0.Start, .slice a1 n1 c1, iV x0.Days, iV x0.Window, iV x0.Most, iV x0.Panel, iV x0.Battery]) (e := 45) (qu rfl) hS.sat rfl (fun b2 G4 w3 hg hcb2 => ?_))))); have hS := hS.grow hg; have hO := hO.grow hg
 have leG4 := hg.le
 refine za (zf (v := (.bool false)) rfl) rfl (ze (zd (zd (zb (za (zf (v := (iV 0)) rfl) rfl (ze ?_)))))); obtain ⟨q7, hq7, H⟩ := bnd H; refine zZ (fun F w => ∃ (p6 : Unit) (Fb : Fr), q7 = .inl p6 ∧ F = qi Fb [] ∧ w3 = w) ?_ ?_
 ·refine zp (jq hq7 (fun s5 F w => ∃ (Fb : Fr), F = qi Fb [(1, .string ⟨x1.toArray⟩), (2, pV b2), (5, iV s5)] ∧ w3 = w) ?_ ?_)
  ·exact ⟨_, zi _ _ ⟨rfl, rfl, rfl, trivial⟩, rfl⟩
  ·rintro s5 F wl t8 ⟨Fb, rfl, rfl⟩
   intro H1 hqq7
   have Hoq7 := H; have H := H1
   unfold vY at H
   refine zd (zd (zb (xl yi (qf hS.sat hcb2) 5 [] rfl rfl an (za (zch Tryz.underlying9 rfl rfl) rfl (za (yW rfl rfl) rfl (ze (zV rfl (fun hb11 => ?_) (fun hb11 => ?_))))))))
   ·have H := ifT hb11 H; refine zq (zd (zp (zd (zb (za (zf (v := (iV 0)) rfl) rfl (ze (zd (zd (zb ?_))))))))); refine wr 2 rfl ?_; refine ze ?_; obtain ⟨q14, hq14, H⟩ := bnd H; refine zZ (fun F w => ∃ (Fb : Fr), F = qi Fb [(1, .string ⟨x1.toArray⟩), (2, pV b2), (5, iV s5), (6, iV q14)] ∧ w3 = w) ?_ ?_
    ·refine zp (jq hq14 (fun s12 F w => ∃ (Fb : Fr), F = qi Fb [(1, .string ⟨x1.toArray⟩), (2, pV b2), (5, iV s5), (6, iV s12.1), (7, iV s12.2)] ∧ w3 = w) ?_ ?_)
     ·exact ⟨_, zi _ _ ⟨rfl, rfl, rfl, rfl, rfl, trivial⟩, rfl⟩
     ·rintro s12 F wl t15 ⟨Fb, rfl, rfl⟩
      intro H1 hqq14
      have Hoq14 := H; have H := H1
      unfold zaS at H
      refine zd (zd (zb (xl yi (qf hS.sat hcb2) 6 [] rfl rfl an (ze (zV rfl (fun hb18 => ?_) (fun hb18 => ?_))))))
      ·have H := ifT hb18 H; refine zq (zd ?_); obtain ⟨q19, hq19, H⟩ := bnd H; refine zZ (fun F w => ∃ (Fb : Fr), F = qi Fb [(1, .string ⟨x1.toArray⟩), (2, pV b2), (5, iV s5), (6, iV q19), (7, iV s12.2)] ∧ w3 = w) ?_ ?_
       ·have Hoq19 := H; have H := hq19; refine zp (zd (zb ?_)); refine wr 2 rfl ?_; obtain ⟨y20, hy20, H⟩ := bnd H; refine za (rn_idxS Tryz.underlying9 rfl rfl hy20) rfl (za (xu rfl rfl) rfl (ze (zV rfl (fun hb21 => ?_) (fun hb21 => ?_))))
        ·have H := ifT hb21 H; refine zb ?_; refine wr 3 rfl ?_; refine ze ?_; cases H
         exact ⟨_, zi _ _ ⟨rfl, rfl, rfl, rfl, rfl, trivial⟩, rfl⟩
        ·have H := ifF hb21 H; refine zq ?_; cases H
         exact ⟨_, zi _ _ ⟨rfl, rfl, rfl, rfl, rfl, trivial⟩, rfl⟩
       ·rintro F wl ⟨Fb, rfl, rfl⟩
        refine zb ?_; refine wr 3 rfl ?_; refine ze ?_; cases H; refine ⟨_, rfl, ?_⟩
        exact ⟨_, zi _ _ ⟨rfl, rfl, rfl, rfl, rfl, trivial⟩, rfl⟩
      ·have H := ifF hb18 H; refine zW rfl ?_; cases H
       have hres := hqq14 _ rfl
       subst hres
       exact ⟨_, zi _ _ ⟨rfl, rfl, rfl, rfl, trivial⟩, rfl⟩
    ·rintro F wl ⟨Fb, rfl, rfl⟩
     refine zd (zb (xl yi (qf hS.sat hcb2) 4 [] rfl rfl an (ze (zV rfl (fun hb26 => ?_) (fun hb26 => ?_)))))
     ·have H := ifT hb26 H; refine zd (zb (za (zf (v := (.bool false)) rfl) rfl (ze (zF ?_)))); cases H
      have hres := hqq7 _ rfl
      subst hres; have H := Hoq7
      have H : some false = some r := H
      cases H
      exact ⟨rfl, hS.below⟩
     ·have H := ifF hb26 H; refine zq (zb ?_); refine wr 3 rfl ?_; refine ze ?_; cases H; refine ⟨_, rfl, ?_⟩
      exact ⟨_, zi _ _ ⟨rfl, rfl, rfl, trivial⟩, rfl⟩
   ·have H := ifF hb11 H; refine zW rfl ?_; cases H
    have hres := hqq7 _ rfl
    subst hres
    exact ⟨_, _, rfl, rfl, rfl⟩
 ·rintro F wl ⟨p6, Fb, rfl, rfl, rfl⟩
  refine zd (zb (za (zf (v := (.bool true)) rfl) rfl (ze (zF ?_))))
  have H : some true = some r := H
  cases H
  exact ⟨rfl, hS.below⟩
set_option maxHeartbeats 1000000 in
theorem zv2 {G0 : Gm} {w0 : World} (hS0 : Sat G0 w0) {x0 : Int} {x1 : Int}  {r : Bool} (H : f41 x0 x1 = some r) :
  Calls Tryz.prog 41 #[iV x0, iV x1] w0 (qW w0 (.bool r)) := by
 have hS := Since.start hS0
 have hO := je G0 w0
 unfold f41 at H
 refine qb (N := 16) (yd _ _) Tryz.func41 rfl rfl rfl rfl (zd (zb (za (zf (v := (.bool false)) rfl) rfl (ze (zd (zd (zb (za (zf (v := (iV 0)) rfl) rfl (ze ?_))))))))); obtain ⟨q3, hq3, H⟩ := bnd H; refine zZ (fun F w => ∃ (Fb : Fr), F = qi Fb [(0, iV q3)] ∧ w0 = w) ?_ ?_
 ·refine zp (jq hq3 (fun s1 F w => ∃ (Fb : Fr), F = qi Fb [(0, iV s1.1), (1, iV x1), (5, iV s1.2)] ∧ w0 = w) ?_ ?_)
  ·exact ⟨_, zi _ _ ⟨rfl, rfl, rfl, trivial⟩, rfl⟩
  ·rintro s1 F wl t4 ⟨Fb, rfl, rfl⟩
   intro H1 hqq3
   have Hoq3 := H; have H := H1
   unfold zbT at H
   refine zd (zd (zb ?_)); refine wr 3 rfl ?_; refine ze (zV rfl (fun hb7 => ?_) (fun hb7 => ?_))
   ·have H := ifT hb7 H; refine zq (zd (zp (zb (za (zc (v := (iV s1.1)) rfl) rfl ?_))))
    refine za (zjQ rfl rfl (by decide)) rfl ?_
    refine za (zf (v := (iV (IntKind.i64.wrap (s1.1.tdiv 2)))) rfl) rfl (ze (zb ?_)); refine wr 3 rfl ?_; refine ze ?_; cases H; refine ⟨_, rfl, ?_⟩
    exact ⟨_, zi _ _ ⟨rfl, rfl, rfl, trivial⟩, rfl⟩
   ·have H := ifF hb7 H; refine zW rfl ?_; cases H
    have hres := hqq3 _ rfl
    subst hres
    exact ⟨_, zi _ _ ⟨rfl, trivial⟩, rfl⟩
 ·rintro F wl ⟨Fb, rfl, rfl⟩
  refine zd (zb (za (zc (v := (iV q3)) rfl) rfl ?_))
  refine za (zuj rfl rfl (by decide)) rfl ?_
  refine wr 2 rfl ?_; refine ze (zF ?_)
  have H : some ((q3.tmod 2) == 1) = some r := H
  cases H
  exact ⟨rfl, hS.below⟩
set_option maxHeartbeats 1000000 in
theorem zwf {G0 : Gm} {w0 : World} (hS0 : Sat G0 w0) {x0 : zn} {a1 : Option Addr} {n1 c1 : Nat} {x1 : zfD} (h1 : RSl zO 3 G0 a1 n1 c1 x0.Loads) {r : Int} (H : f15 x0 x1 = some r) :
  Calls Tryz.prog 15 #[.agg #[iV x0.Sunny, iV x0.Cloudy, iV x0.Size, iV x0.Fade, iV x0.Start, .slice a1 n1 c1, iV x0.Days, iV x0.Window, iV x0.Most, iV x0.Panel, iV x0.Battery], .agg #[iV x1.Battery, iV x1.Carried]] w0 (qW w0 (iV r)) := by
 have hS := Since.start hS0
 have hO := je G0 w0
 unfold f15 at H
 refine qb (N := 27) (yd _ _) Tryz.func15 rfl rfl rfl rfl (zd (zb (zm rfl (zP (v := fun b => pV b) (cs := [iV x0.Sunny, iV x0.Cloudy, iV x0.Size, iV x0.Fade, iV x0.Start, .slice a1 n1 c1, iV x0.Days, iV x0.Window, iV x0.Most, iV x0.Panel, iV x0.Battery]) (e := 45) (qu rfl) hS.sat rfl (fun b2 G4 w3 hg hcb2 => ?_))))); have hS := hS.grow hg; have hO := hO.grow hg
 have leG4 := hg.le
 refine zm rfl (zP (v := fun b => pV b) (cs := [iV x1.Battery, iV x1.Carried]) (e := 71) (qu rfl) hS.sat rfl (fun b5 G7 w6 hg hcb5 => ?_)); have hS := hS.grow hg; have hO := hO.grow hg
 have leG7 := hg.le
 refine za (zf (v := (iV 0)) rfl) rfl (ze (zd (zd (zb (za (zf (v := (iV 0)) rfl) rfl (ze ?_)))))); obtain ⟨q10, hq10, H⟩ := bnd H; refine zZ (fun F w => ∃ (p9 : Unit) (Fb : Fr) (G : Gm), q10 = .inl p9 ∧ F = qi Fb [] ∧ Gle G7 G ∧ SO G0 w0 G w []) ?_ ?_
 ·refine zp (jq hq10 (fun s8 F w => ∃ (Fb : Fr) (G : Gm), F = qi Fb [(2, pV b2), (3, pV b5), (5, iV s8)] ∧ Gle G7 G ∧ SO G0 w0 G w []) ?_ ?_)
  ·have hO : Owns _ _ _ [] := hO
   exact ⟨_, G7, zi _ _ ⟨rfl, rfl, rfl, trivial⟩, Gle.refl _, hS, hO⟩
  ·rintro s8 F w12 t11 ⟨Fb, G13, rfl, leG13, hS, hO⟩
   intro H1 hqq10
   have Hoq10 := H; have H := H1
   unfold zaR at H
   refine zd (zd (zb ?_))
   have l1_3 := leG7.trans leG13
   have l0_3 := leG4.trans l1_3
   refine xl yi (qf (hS.sat.le l1_3) hcb2) 5 [_] rfl rfl (ao (h1.mono zx l0_3).1 an) (ze (zV rfl (fun hb14 => ?_) (fun hb14 => ?_)))
   ·have H := ifT hb14 H; refine zq (zd (zp (zd ?_))); obtain ⟨q15, hq15, H⟩ := bnd H; refine zZ (fun F w => ∃ (Fb : Fr) (G : Gm), F = qi Fb [(2, pV b2), (3, pV b5), (5, iV s8), (25, .bool q15)] ∧ Gle G13 G ∧ SO G0 w0 G w []) ?_ ?_
    ·have Hoq15 := H; have H := hq15; refine zb (xl yi (qf (hS.sat.le l1_3) hcb2) 3 [] rfl rfl an ?_); obtain ⟨y16, hy16, H⟩ := bnd H; refine zb0 zug (h1.mono zx l0_3) hy16 rfl rfl rfl ?_
     rintro b17 o17 _ hcb17 _ ⟨⟩
     refine za (zk zso rfl) rfl (za (zo na4 rfl (hS.sat.cell (hcb17 2 _ rfl))) rfl (za (zc (v := (.bool y16.Must)) rfl) rfl ?_))
     rcases qo y16.Must with hb18 | hb18
     ·have H := ifT hb18 H; refine qr yi (qf (hS.sat.le leG13) hcb5) (kb hb18) 3 [] rfl rfl an (zl rfl hb18 rfl rfl ?_); obtain ⟨y19, hy19, H⟩ := bnd H; refine zm rfl (zy zAC (zv2 (x0 := x1.Carried) (x1 := s8) hS.sat  hy19) rfl rfl (fun w20 hb => ?_)); have hS := hS.keep hb; have hO := hO.below hb; refine wk hb18 2 rfl rfl ?_; refine ze ?_
      have hO : Owns _ _ _ [] := hO
      cases H
      exact ⟨_, G13, zi _ _ ⟨rfl, rfl, rfl, rfl, trivial⟩, Gle.refl _, hS, hO⟩
     ·have H := ifF hb18 H; refine wk hb18 6 rfl rfl ?_; refine ze ?_
      have hO : Owns _ _ _ [] := hO
      cases H
      exact ⟨_, G13, zi _ _ ⟨rfl, rfl, rfl, rfl, trivial⟩, Gle.refl _, hS, hO⟩
    ·rintro F w21 ⟨Fb, G22, rfl, leG22, hS, hO⟩
     refine zV rfl (fun hb23 => ?_) (fun hb23 => ?_)
     ·have H := ifT hb23 H; refine zd (zb ?_); refine wr 2 rfl ?_; refine ze (zF ?_); cases H
      have hres := hqq10 _ rfl
      subst hres; have H := Hoq10
      have H : some s8 = some r := H
      cases H
      exact ⟨rfl, hS.below⟩
     ·have H := ifF hb23 H; refine zq (zb ?_); refine wr 3 rfl ?_; refine ze ?_
      have hO : Owns _ _ _ [] := hO
      cases H; refine ⟨_, rfl, ?_⟩
      have l2_4 := leG13.trans leG22
      exact ⟨_, G22, zi _ _ ⟨rfl, rfl, rfl, trivial⟩, l2_4, hS, hO⟩
   ·have H := ifF hb14 H; refine zW rfl ?_
    have hO : Owns _ _ _ [] := hO
    cases H
    have hres := hqq10 _ rfl
    subst hres
    exact ⟨_, _, G13, rfl, rfl, leG13, hS, hO⟩
 ·rintro F w24 ⟨p9, Fb, G25, rfl, rfl, leG25, hS, hO⟩
  refine zd (zb (za (zf (v := (iV (-1))) rfl) rfl (ze (zF ?_))))
  have H : some (-1) = some r := H
  cases H
  exact ⟨rfl, hS.below⟩
set_option maxHeartbeats 1000000 in
theorem zv3 {G0 : Gm} {w0 : World} (hS0 : Sat G0 w0) {x0 : (List UInt8)} {x1 : Int} {x2 : (List UInt8)}  {r : Bool} (H : f38 x0 x1 x2 = some r) :
  Calls Tryz.prog 38 #[.string ⟨x0.toArray⟩, iV x1, .string ⟨x2.toArray⟩] w0 (qW w0 (.bool r)) := by
 have hS := Since.start hS0
 have hO := je G0 w0
 unfold f38 at H
 refine qb (N := 34) (yd _ _) Tryz.func38 rfl rfl rfl rfl (zd (zb (za (zf (v := (.bool false)) rfl) rfl (ze (zd (zd (zb (za (zc (v := (.string ⟨x0.toArray⟩)) rfl) rfl (zm rfl (zb3 Tryz.underlying9 hS hO rfl rfl (fun r1 w2 hS hO => ?_)))))))))))
 have hO : Owns _ _ _ ([⟨0, 1, 2, .map (some r1), [.string ⟨x0.toArray⟩, iV ((0 : Nat) : Int)]⟩]) := hO
 refine ze ?_; obtain ⟨q6, hq6, H⟩ := bnd H; refine zZ (fun F w => ∃ (p5 : Nat) (Fb : Fr) (G : Gm), q6 = .inl p5 ∧ F = qi Fb [(0, .string ⟨x0.toArray⟩), (1, iV x1)] ∧ Gle G0 G ∧ Since w0.heap.size G0 w0 G w ∧ Owns G w w0.heap.size [⟨0, 1, 2, .map (some r1), [.string ⟨x0.toArray⟩, iV ((p5 : Nat) : Int)]⟩]) ?_ ?_
 ·refine zp (jq hq6 (fun s4 F w => ∃ (Fb : Fr) (G : Gm), F = qi Fb [(0, .string ⟨x0.toArray⟩), (1, iV x1), (2, .string ⟨x2.toArray⟩), (13, pV r1)] ∧ Gle G0 G ∧ Since w0.heap.size G0 w0 G w ∧ Owns G w w0.heap.size [⟨0, 1, 2, .map (some r1), [.string ⟨x0.toArray⟩, iV ((s4 : Nat) : Int)]⟩]) ?_ ?_)
  ·have hO : Owns _ _ _ ([⟨0, 1, 2, .map (some r1), [.string ⟨x0.toArray⟩, iV ((0 : Nat) : Int)]⟩]) := hO
   exact ⟨_, G0, zi _ _ ⟨rfl, rfl, rfl, rfl, trivial⟩, Gle.refl _, hS, hO⟩
  ·rintro s4 F w8 t7 ⟨Fb, G9, rfl, leG9, hS, hO⟩
   intro H1 hqq6
   have Hoq6 := H; have H := H1
   unfold zaP at H
   refine zd (zb ?_)
   rcases qo (decide (s4 < x0.length)) with hb10 | hb10
   ·have H := ifT hb10 H; refine zm rfl (zdz (k := 0) hS hO rfl rfl rfl hb10 (fun w11 hS hO => ?_))
    have hO : Owns _ _ _ ([⟨0, 1, 2, .map (some r1), [.string ⟨x0.toArray⟩, iV (((s4 + (xV x0 s4).2) : Nat) : Int)]⟩]) := hO
    refine za (zL (v := (.bool true)) rfl rfl) rfl (ze (zd (zQ _ rfl rfl (zq (zp (zd (zb (za (zL (v := (.int .i32 ((xV x0 s4).1))) rfl rfl) rfl (za (zf (v := (.int .i32 ((xV x0 s4).1))) rfl) rfl (ze (zd (zb (za (zf (v := (.bool false)) rfl) rfl (ze (zd (zd (zb (za (zc (v := (.string ⟨x2.toArray⟩)) rfl) rfl (zm rfl (zb3 Tryz.underlying9 hS hO rfl rfl (fun r12 w13 hS hO => ?_)))))))))))))))))))))
    have hO : Owns _ _ _ ([⟨0, 1, 2, .map (some r12), [.string ⟨x2.toArray⟩, iV ((0 : Nat) : Int)]⟩, ⟨0, 1, 2, .map (some r1), [.string ⟨x0.toArray⟩, iV (((s4 + (xV x0 s4).2) : Nat) : Int)]⟩]) := hO
    refine ze ?_; obtain ⟨q17, hq17, H⟩ := bnd H; refine zZ (fun F w => ∃ (Fb : Fr) (G : Gm), F = qi Fb [(0, .string ⟨x0.toArray⟩), (1, iV x1), (2, .string ⟨x2.toArray⟩), (9, .bool q17.1), (13, pV r1)] ∧ Gle G9 G ∧ Since w0.heap.size G0 w0 G w ∧ Owns G w w0.heap.size [⟨0, 1, 2, .map (some r12), [.string ⟨x2.toArray⟩, iV ((q17.2.1 : Nat) : Int)]⟩, ⟨0, 1, 2, .map (some r1), [.string ⟨x0.toArray⟩, iV ((q17.2.2 : Nat) : Int)]⟩]) ?_ ?_
    ·refine zp (jq hq17 (fun s15 F w => ∃ (Fb : Fr) (G : Gm), F = qi Fb [(0, .string ⟨x0.toArray⟩), (1, iV x1), (2, .string ⟨x2.toArray⟩), (8, .int .i32 ((xV x0 s4).1)), (9, .bool s15.1), (13, pV r1), (18, pV r12)] ∧ Gle G9 G ∧ Since w0.heap.size G0 w0 G w ∧ Owns G w w0.heap.size [⟨0, 1, 2, .map (some r12), [.string ⟨x2.toArray⟩, iV ((s15.2.1 : Nat) : Int)]⟩, ⟨0, 1, 2, .map (some r1), [.string ⟨x0.toArray⟩, iV ((s15.2.2 : Nat) : Int)]⟩]) ?_ ?_)
     ·have hO : Owns _ _ _ ([⟨0, 1, 2, .map (some r12), [.string ⟨x2.toArray⟩, iV ((0 : Nat) : Int)]⟩, ⟨0, 1, 2, .map (some r1), [.string ⟨x0.toArray⟩, iV (((s4 + (xV x0 s4).2) : Nat) : Int)]⟩]) := hO
      exact ⟨_, G9, zi _ _ ⟨rfl, rfl, rfl, rfl, rfl, rfl, rfl, trivial⟩, Gle.refl _, hS, hO⟩
     ·rintro s15 F w19 t18 ⟨Fb, G20, rfl, leG20, hS, hO⟩
      intro H1 hqq17
      have Hoq17 := H; have H := H1
      unfold jV at H
      refine zd (zb ?_)
      rcases qo (decide (s15.2.1 < x2.length)) with hb21 | hb21
      ·have H := ifT hb21 H; refine zm rfl (zdz (k := 0) hS hO rfl rfl rfl hb21 (fun w22 hS hO => ?_))
       have hO : Owns _ _ _ ([⟨0, 1, 2, .map (some r12), [.string ⟨x2.toArray⟩, iV (((s15.2.1 + (xV x2 s15.2.1).2) : Nat) : Int)]⟩, ⟨0, 1, 2, .map (some r1), [.string ⟨x0.toArray⟩, iV ((s15.2.2 : Nat) : Int)]⟩]) := hO
       refine za (zL (v := (.bool true)) rfl rfl) rfl (ze (zd (zQ _ rfl rfl (zq (zp (zd (zb (za (zL (v := (.int .i32 ((xV x2 s15.2.1).1))) rfl rfl) rfl (za (zf (v := (.int .i32 ((xV x2 s15.2.1).1))) rfl) rfl (ze (zb ?_))))))))))); refine wr 2 rfl ?_
       rcases qo s15.1 with hb23 | hb23
       ·have H := ifT hb23 H; refine wk hb23 5 rfl rfl ?_; refine ze ?_
        have hO : Owns _ _ _ ([⟨0, 1, 2, .map (some r12), [.string ⟨x2.toArray⟩, iV (((s15.2.1 + (xV x2 s15.2.1).2) : Nat) : Int)]⟩, ⟨0, 1, 2, .map (some r1), [.string ⟨x0.toArray⟩, iV ((s15.2.2 : Nat) : Int)]⟩]) := hO
        cases H; refine ⟨_, rfl, ?_⟩
        exact ⟨_, G20, zi _ _ ⟨rfl, rfl, rfl, rfl, rfl, rfl, rfl, trivial⟩, leG20, hS, hO⟩
       ·have H := ifF hb23 H; refine wk hb23 5 rfl rfl ?_; refine ze ?_
        have hO : Owns _ _ _ ([⟨0, 1, 2, .map (some r12), [.string ⟨x2.toArray⟩, iV (((s15.2.1 + (xV x2 s15.2.1).2) : Nat) : Int)]⟩, ⟨0, 1, 2, .map (some r1), [.string ⟨x0.toArray⟩, iV ((s15.2.2 : Nat) : Int)]⟩]) := hO
        cases H; refine ⟨_, rfl, ?_⟩
        exact ⟨_, G20, zi _ _ ⟨rfl, rfl, rfl, rfl, rfl, rfl, rfl, trivial⟩, leG20, hS, hO⟩
      ·have H := ifF hb21 H; refine zm rfl (zdy (k := 0) hO rfl rfl rfl hb21 ?_); refine za (zL (v := (.bool false)) rfl rfl) rfl (ze (zd (zH _ rfl rfl (zW rfl ?_))))
       have hO : Owns _ _ _ ([⟨0, 1, 2, .map (some r12), [.string ⟨x2.toArray⟩, iV ((s15.2.1 : Nat) : Int)]⟩, ⟨0, 1, 2, .map (some r1), [.string ⟨x0.toArray⟩, iV ((s15.2.2 : Nat) : Int)]⟩]) := hO
       cases H
       have hres := hqq17 _ rfl
       subst hres
       exact ⟨_, G20, zi _ _ ⟨rfl, rfl, rfl, rfl, rfl, trivial⟩, leG20, hS, hO⟩
    ·rintro F w24 ⟨Fb, G25, rfl, leG25, hS, hO⟩
     refine zd (zb ?_); refine wr 2 rfl ?_; refine ze (zV rfl (fun hb26 => ?_) (fun hb26 => ?_))
     ·have H := ifT hb26 H; refine zd (zb (za (zf (v := (.bool false)) rfl) rfl (ze (zF ?_)))); cases H
      have hres := hqq6 _ rfl
      subst hres; have H := Hoq6
      have H : some false = some r := H
      cases H
      exact ⟨rfl, hS.below⟩
     ·have H := ifF hb26 H; refine zq ?_; have hO := hO.drop 0
      have hO : Owns _ _ _ ([⟨0, 1, 2, .map (some r1), [.string ⟨x0.toArray⟩, iV ((q17.2.2 : Nat) : Int)]⟩]) := hO
      cases H; refine ⟨_, rfl, ?_⟩
      have l0_2 := leG9.trans leG25
      exact ⟨_, G25, zi _ _ ⟨rfl, rfl, rfl, rfl, trivial⟩, l0_2, hS, hO⟩
   ·have H := ifF hb10 H; refine zm rfl (zdy (k := 0) hO rfl rfl rfl hb10 ?_); refine za (zL (v := (.bool false)) rfl rfl) rfl (ze (zd (zH _ rfl rfl (zW rfl ?_))))
    have hO : Owns _ _ _ ([⟨0, 1, 2, .map (some r1), [.string ⟨x0.toArray⟩, iV ((s4 : Nat) : Int)]⟩]) := hO
    cases H
    have hres := hqq6 _ rfl
    subst hres
    exact ⟨_, _, G9, rfl, zi _ _ ⟨rfl, rfl, trivial⟩, leG9, hS, hO⟩
 ·rintro F w27 ⟨p5, Fb, G28, rfl, rfl, leG28, hS, hO⟩
  refine zd (zb (za (zc (v := (.string ⟨x0.toArray⟩)) rfl) rfl (za (zch Tryz.underlying9 rfl rfl) rfl ?_))); refine wr 3 rfl ?_; refine ze (zF ?_)
  have H : some ((x0.length : Int) == x1) = some r := H
  cases H
  exact ⟨rfl, hS.below⟩
set_option maxHeartbeats 1000000 in
theorem zpB {G0 : Gm} {w0 : World} (hS0 : Sat G0 w0) {x0 : zn} {a1 : Option Addr} {n1 c1 : Nat} {x1 : zqG} {x2 : Int} (h1 : RSl zO 3 G0 a1 n1 c1 x0.Loads) {r : Bool} (H : f37 x0 x1 x2 = some r) :
  Calls Tryz.prog 37 #[.agg #[iV x0.Sunny, iV x0.Cloudy, iV x0.Size, iV x0.Fade, iV x0.Start, .slice a1 n1 c1, iV x0.Days, iV x0.Window, iV x0.Most, iV x0.Panel, iV x0.Battery], .agg #[iV x1.panels, iV x1.batteries], iV x2] w0 (qW w0 (.bool r)) := by
 have hS := Since.start hS0
 have hO := je G0 w0
 unfold f37 at H
 refine qb (N := 28) (yd _ _) Tryz.func37 rfl rfl rfl rfl (zd (zb (zm rfl (zP (v := fun b => pV b) (cs := [iV x0.Sunny, iV x0.Cloudy, iV x0.Size, iV x0.Fade, iV x0.Start, .slice a1 n1 c1, iV x0.Days, iV x0.Window, iV x0.Most, iV x0.Panel, iV x0.Battery]) (e := 45) (qu rfl) hS.sat rfl (fun b2 G4 w3 hg hcb2 => ?_))))); have hS := hS.grow hg; have hO := hO.grow hg
 have leG4 := hg.le
 refine zm rfl (zP (v := fun b => pV b) (cs := [iV x1.panels, iV x1.batteries]) (e := 91) (qu rfl) hS.sat rfl (fun b5 G7 w6 hg hcb5 => ?_)); have hS := hS.grow hg; have hO := hO.grow hg
 have leG7 := hg.le
 refine za (zf (v := (.bool false)) rfl) rfl (ze (zd ?_)); obtain ⟨q8, hq8, H⟩ := bnd H; refine zZ (fun F w => ∃ (Fb : Fr) (G : Gm), F = qi Fb [(6, .bool q8)] ∧ Gle G7 G ∧ SO G0 w0 G w []) ?_ ?_
 ·have Hoq8 := H; have H := hq8; refine zb (za (zu zyS (cs := [iV x0.Sunny, iV x0.Cloudy, iV x0.Size, iV x0.Fade, iV x0.Start, .slice a1 n1 c1, iV x0.Days, iV x0.Window, iV x0.Most, iV x0.Panel, iV x0.Battery]) rfl rfl (fun j v hj => (hS.sat.le leG7).cell (hcb2.drop_take 0 11 j v hj))) rfl ?_); obtain ⟨y9, hy9, H⟩ := bnd H
  have l0_2 := leG4.trans leG7
  refine zm rfl (zy zyE (zkr (x0 := x0) hS.sat (h1.mono zx l0_2) hy9) rfl rfl (fun w10 hb => ?_)); have hS := hS.keep hb; have hO := hO.below hb; refine za (zc (v := (.bool y9)) rfl) rfl ?_
  rcases qo y9 with hb11 | hb11
  ·have H := ifT hb11 H; refine qr yi (qf hS.sat hcb5) (kb hb11) 2 [] rfl rfl an (zl rfl hb11 rfl rfl ?_); obtain ⟨y12, hy12, H⟩ := bnd H; refine zm rfl (zy zbt (xM (x0 := x1.panels) (x1 := 0) (x2 := 12) hS.sat  hy12) rfl rfl (fun w13 hb => ?_)); have hS := hS.keep hb; have hO := hO.below hb; refine wk hb11 2 rfl rfl ?_
   rcases qo y12 with hb14 | hb14
   ·have H := ifT hb14 H; refine qr yi (qf hS.sat hcb5) (kb hb14) 2 [] rfl rfl an (zl rfl hb14 rfl rfl ?_); obtain ⟨y15, hy15, H⟩ := bnd H; refine zm rfl (zy zbt (xM (x0 := x1.batteries) (x1 := 0) (x2 := 8) hS.sat  hy15) rfl rfl (fun w16 hb => ?_)); have hS := hS.keep hb; have hO := hO.below hb; refine wk hb14 2 rfl rfl ?_
    rcases qo y15 with hb17 | hb17
    ·have H := ifT hb17 H; refine qr yi (qf (hS.sat.le leG7) hcb2) (kb hb17) 4 [_] rfl rfl (ao (h1.mono zx l0_2).1 an) (zl rfl hb17 rfl rfl ?_); obtain ⟨y18, hy18, H⟩ := bnd H; refine za (zg8 rfl rfl hy18) rfl (zl rfl hb17 rfl rfl (za (vd rfl rfl) rfl (zl rfl hb17 rfl rfl ?_))); obtain ⟨y19, hy19, H⟩ := bnd H; refine zm rfl (zy zbt (xM (x0 := x2) (x1 := 0) (x2 := IntKind.i64.wrap (y18 - 1)) hS.sat  hy19) rfl rfl (fun w20 hb => ?_)); have hS := hS.keep hb; have hO := hO.below hb; refine wk hb17 2 rfl rfl ?_; refine ze ?_
     have hO : Owns _ _ _ [] := hO
     cases H
     exact ⟨_, G7, zi _ _ ⟨rfl, trivial⟩, Gle.refl _, hS, hO⟩
    ·have H := ifF hb17 H; refine wk hb17 9 rfl rfl ?_; refine ze ?_
     have hO : Owns _ _ _ [] := hO
     cases H
     exact ⟨_, G7, zi _ _ ⟨rfl, trivial⟩, Gle.refl _, hS, hO⟩
   ·have H := ifF hb14 H; refine wk hb14 5 rfl rfl ?_; refine wr 9 rfl ?_; refine ze ?_
    have hO : Owns _ _ _ [] := hO
    cases H
    exact ⟨_, G7, zi _ _ ⟨rfl, trivial⟩, Gle.refl _, hS, hO⟩
  ·have H := ifF hb11 H; refine wk hb11 5 rfl rfl ?_; refine wr 14 rfl ?_; refine ze ?_
   have hO : Owns _ _ _ [] := hO
   cases H
   exact ⟨_, G7, zi _ _ ⟨rfl, trivial⟩, Gle.refl _, hS, hO⟩
 ·rintro F w21 ⟨Fb, G22, rfl, leG22, hS, hO⟩
  refine zF ?_
  have H : some q8 = some r := H
  cases H
  exact ⟨rfl, hS.below⟩
set_option maxHeartbeats 1000000 in
theorem zsH {G0 : Gm} {w0 : World} (hS0 : Sat G0 w0) {x0 : zn} {a1 : Option Addr} {n1 c1 : Nat} (h1 : RSl zO 3 G0 a1 n1 c1 x0.Loads) {r : Int} (H : zhF x0 = some r) :
  Calls Tryz.prog 117 #[.agg #[iV x0.Sunny, iV x0.Cloudy, iV x0.Size, iV x0.Fade, iV x0.Start, .slice a1 n1 c1, iV x0.Days, iV x0.Window, iV x0.Most, iV x0.Panel, iV x0.Battery]] w0 (qW w0 (iV r)) := by
 have hS := Since.start hS0
 have hO := je G0 w0
 unfold zhF at H
 refine qb (N := 6) (yd _ _) Tryz.func117 rfl rfl rfl rfl (zd (zb (zm rfl (zP (v := fun b => pV b) (cs := [iV x0.Sunny, iV x0.Cloudy, iV x0.Size, iV x0.Fade, iV x0.Start, .slice a1 n1 c1, iV x0.Days, iV x0.Window, iV x0.Most, iV x0.Panel, iV x0.Battery]) (e := 45) (qu rfl) hS.sat rfl (fun b2 G4 w3 hg hcb2 => ?_))))); have hS := hS.grow hg; have hO := hO.grow hg
 have leG4 := hg.le
 refine za (zf (v := (iV 0)) rfl) rfl (ze (zd (zd (zb (za (zu zyS (cs := [iV x0.Sunny, iV x0.Cloudy, iV x0.Size, iV x0.Fade, iV x0.Start, .slice a1 n1 c1, iV x0.Days, iV x0.Window, iV x0.Most, iV x0.Panel, iV x0.Battery]) rfl rfl (fun j v hj => hS.sat.cell (hcb2.drop_take 0 11 j v hj))) rfl ?_))))); obtain ⟨y5, hy5, H⟩ := bnd H; refine zm rfl (zy zyE (zkr (x0 := x0) hS.sat (h1.mono zx leG4) hy5) rfl rfl (fun w6 hb => ?_)); have hS := hS.keep hb; have hO := hO.below hb; refine za (qE rfl) rfl (ze (zV rfl (fun hb7 => ?_) (fun hb7 => ?_)))
 ·have H := ifT hb7 H; refine zd (zb (za (zf (v := (iV 2)) rfl) rfl (ze (zF ?_))))
  have H : some 2 = some r := H
  cases H
  exact ⟨rfl, hS.below⟩
 ·have H := ifF hb7 H; refine zq (zd (zb (za (zf (v := (iV 0)) rfl) rfl (ze (zF ?_)))))
  have H : some 0 = some r := H
  cases H
  exact ⟨rfl, hS.below⟩
set_option maxHeartbeats 1000000 in
theorem zlW {G0 : Gm} {w0 : World} (hS0 : Sat G0 w0) {x0 : Int} {x1 : Int} {x2 : Int}  {r : Bool} (H : zsJ x0 x1 x2 = some r) :
  Calls Tryz.prog 111 #[iV x0, iV x1, iV x2] w0 (qW w0 (.bool r)) := by
 have hS := Since.start hS0
 have hO := je G0 w0
 unfold zsJ at H
 refine qb (N := 15) (yd _ _) Tryz.func111 rfl rfl rfl rfl (zd (zb (za (zf (v := (.bool false)) rfl) rfl (ze (zd ?_))))); obtain ⟨q1, hq1, H⟩ := bnd H; refine zZ (fun F w => ∃ (Fb : Fr), F = qi Fb [(6, .bool q1)] ∧ w0 = w) ?_ ?_
 ·have Hoq1 := H; have H := hq1; refine zb ?_; refine wr 4 rfl ?_
  rcases qo (decide (x1 ≤ x0)) with hb2 | hb2
  ·have H := ifT hb2 H; refine wk hb2 5 rfl rfl ?_; refine ze ?_; cases H
   exact ⟨_, zi _ _ ⟨rfl, trivial⟩, rfl⟩
  ·have H := ifF hb2 H; refine wk hb2 5 rfl rfl ?_; refine ze ?_; cases H
   exact ⟨_, zi _ _ ⟨rfl, trivial⟩, rfl⟩
 ·rintro F wl ⟨Fb, rfl, rfl⟩
  refine zF ?_
  have H : some q1 = some r := H
  cases H
  exact ⟨rfl, hS.below⟩
end
end Go.Proofs.YtihedfkcccaonaaGreatDoor
