/-
  What the Go functions compute, as plain functions (printed by a program of ours).
-/
import Derived.Test.YtdgkjgljkgjjiaaGreatDoorBsC
namespace Go.Proofs.YtdgkjgljkgjjiaaGreatDoor
open Go.RowKit
set_option linter.unusedVariables false

structure TSpan where
  Low : Int
  High : Int
structure TLensMonth where
  Wet : TSpan
  Dry : TSpan
  Need : TSpan
structure TLensIslet where
  Cap : Int
  Start : TSpan
  Roof : Int
  Sand : Int
  Soak : TSpan
  Leak : TSpan
  Pump : Int
  Keep : Int
  Size : Int
  Wells : (List Int)
  Months : (List TLensMonth)
  Most : Int
  Row : Int
structure TLandPerson where
  Mother : Int
  Adopted : Int
structure TLandEvent where
  Strip : Int
  Holder : Int
structure TLandMemory where
  From : Int
  To : Int
  Years : TSpan
structure TLandBook where
  People : (List TLandPerson)
  Events : (List TLandEvent)
  Memories : (List TLandMemory)
structure TReefPlace where
  Count : Int
  Room : Int
  Grow : TSpan
  Drift : Int
  Into : Int
  Open : TSpan
  Shut : TSpan
  Goal : Int
  Worth : Int
structure TReef where
  Places : (List TReefPlace)
  Miss : Int
  Seasons : Int
structure TBaneTrip where
  Day : Int
  From : Int
  To : Int
  Cost : Int
structure TBaneSea where
  Islets : Int
  Infested : (List Int)
  Clean : (List Int)
  Trips : (List TBaneTrip)
  Wait : Int
structure TShipLot where
  Goods : (List TSpan)
  Weight : Int
  Cost : Int
structure TShipStore where
  Stock : (List Int)
  Use : (List TSpan)
  Gap : TSpan
  Lots : (List TShipLot)
  Hold : Int
structure TCellLoad where
  Need : Int
  Keep : Int
  Must : Bool
structure TCellSystem where
  Sunny : Int
  Cloudy : Int
  Size : Int
  Fade : Int
  Start : Int
  Loads : (List TCellLoad)
  Days : Int
  Window : Int
  Most : Int
  Panel : Int
  Battery : Int
structure TFleetSea where
  Cells : Int
  Roads : (List Int)
  Zones : (List Int)
  Berths : (List Int)
  Days : Int
structure TCouncilAtoll where
  Islet : TLensIslet
  Tank : Int
  Book : TLandBook
  Reef : TReef
  Sea : TBaneSea
  Store : TShipStore
  System : TCellSystem
  Fishing : TFleetSea
  Money : Int
structure TChoice where
  cost : Int
  list : (List Int)
structure TSea where
  BaneSea : TBaneSea
  shut : Int
structure TQueue_int_ where
  all : (List Int)
/-- The trips that are open, with their numbers. -/
def openL (shut : Int) : Nat → List TBaneTrip → List (Int × TBaneTrip)
  | _, [] => []
  | i, t :: l => if (andI .i64 (((shut).fdiv (2 ^ min i IntKind.i64.bits))) 1 == 0) = true then ((i : Int), t) :: openL shut (i + 1) l else openL shut (i + 1) l
def encT (y : Int × TBaneTrip) : List Value := [.int .i64 y.1, .agg #[.int .i64 y.2.Day, .int .i64 y.2.From, .int .i64 y.2.To, .int .i64 y.2.Cost]]

noncomputable def f13_b0 (x0 : TCouncilAtoll) (s20 : Int) : Option (Int ⊕ (Unit ⊕ Bool)) :=
  ((if (decide (s20 < (x0.Store.Lots.length : Int))) = true then (some (decide (s20 < 8))) else (some false) : Option Bool)).bind fun q26 => if q26 = true then ((ix x0.Store.Lots s20).bind fun y31 => if (decide (8 < (y31.Goods.length : Int))) = true then (some (.inr (.inr false))) else (some (.inl (IntKind.i64.wrap (s20 + 1))))) else (some (.inr (.inl ())))
noncomputable def f13 (x0 : TCouncilAtoll) : Option Bool :=
  (lp (f13_b0 x0) 0).bind fun q22 => Sum.elim (fun p21 : Unit => ((if (decide ((x0.Islet.Wells.length : Int) ≤ 8)) = true then (if (decide ((x0.Islet.Months.length : Int) ≤ 4)) = true then (if (decide ((x0.Book.People.length : Int) ≤ 12)) = true then (if (decide ((x0.Book.Events.length : Int) ≤ 9)) = true then (if (decide ((x0.Book.Memories.length : Int) ≤ 12)) = true then (if (decide ((x0.Reef.Places.length : Int) ≤ 3)) = true then (if (decide (x0.Reef.Seasons ≤ 2)) = true then (if (decide ((x0.Sea.Infested.length : Int) ≤ 10)) = true then (if (decide ((x0.Sea.Clean.length : Int) ≤ 10)) = true then (if (decide ((x0.Sea.Trips.length : Int) ≤ 8)) = true then (if (decide ((x0.Store.Stock.length : Int) ≤ 8)) = true then (if (decide ((x0.Store.Use.length : Int) ≤ 8)) = true then (if (decide ((x0.Store.Lots.length : Int) ≤ 8)) = true then (if (decide ((x0.System.Loads.length : Int) ≤ 7)) = true then (if (decide (x0.System.Days ≤ 4)) = true then (if (decide ((x0.Fishing.Roads.length : Int) ≤ 10)) = true then (if (decide ((x0.Fishing.Zones.length : Int) ≤ 5)) = true then (some (decide ((x0.Fishing.Berths.length : Int) ≤ 5))) else (some false)) else (some false)) else (some false)) else (some false)) else (some false)) else (some false)) else (some false)) else (some false)) else (some false)) else (some false)) else (some false)) else (some false)) else (some false)) else (some false)) else (some false)) else (some false)) else (some false) : Option Bool)).bind fun q37 => some q37) (fun v57 : Bool => some v57) q22
noncomputable def f97 (x0 : (List Int)) : Option (List Int) :=
  (app [] x0).bind fun y3 => some y3
noncomputable def f127 (x0 : (List TLensMonth)) : Option (List TLensMonth) :=
  (app [] x0).bind fun y3 => some y3
noncomputable def f128 (x0 : (List TLandPerson)) : Option (List TLandPerson) :=
  (app [] x0).bind fun y3 => some y3
noncomputable def f129 (x0 : (List TLandEvent)) : Option (List TLandEvent) :=
  (app [] x0).bind fun y3 => some y3
noncomputable def f130 (x0 : (List TLandMemory)) : Option (List TLandMemory) :=
  (app [] x0).bind fun y3 => some y3
noncomputable def f131 (x0 : (List TReefPlace)) : Option (List TReefPlace) :=
  (app [] x0).bind fun y3 => some y3
noncomputable def f132 (x0 : (List TBaneTrip)) : Option (List TBaneTrip) :=
  (app [] x0).bind fun y3 => some y3
noncomputable def f133 (x0 : (List TSpan)) : Option (List TSpan) :=
  (app [] x0).bind fun y3 => some y3
noncomputable def f135 (x0 : (List TCellLoad)) : Option (List TCellLoad) :=
  (app [] x0).bind fun y3 => some y3
noncomputable def f79 (x0 : Int) (x1 : Int) (x2 : Int) : Option Bool :=
  ((if (decide (x1 ≤ x0)) = true then (some (decide (x0 ≤ x2))) else (some false) : Option Bool)).bind fun q1 => some q1
noncomputable def f80_b0 (x0 : (List Int)) (x1 : Int) (s2 : Int) : Option (Int ⊕ (Unit ⊕ Bool)) :=
  if (decide (s2 < (x0.length : Int))) = true then ((ix x0 s2).bind fun y9 => (((f79 y9 0 (IntKind.i64.wrap (x1 - 1))).bind fun y12 => if (!y12) = true then (some true) else (if (decide (0 < s2)) = true then ((ix x0 (IntKind.i64.wrap (s2 - 1))).bind fun y16 => some (decide (y9 ≤ y16))) else (some false)) : Option Bool)).bind fun q11 => if q11 = true then (some (.inr (.inr false))) else (some (.inl (IntKind.i64.wrap (s2 + 1))))) else (some (.inr (.inl ())))
noncomputable def f80 (x0 : (List Int)) (x1 : Int) : Option Bool :=
  (lp (f80_b0 x0 x1) 0).bind fun q4 => Sum.elim (fun p3 : Unit => some true) (fun v23 : Bool => some v23) q4
noncomputable def f165_b0 (x0 : (List TBaneTrip)) (x1 : (TBaneTrip → Option Bool)) (s3 : Int) : Option (Int ⊕ (Unit ⊕ Int)) :=
  if (decide (s3 < (x0.length : Int))) = true then ((ix x0 s3).bind fun y10 => (x1 y10).bind fun y12 => if y12 = true then (some (.inr (.inr s3))) else (some (.inl (IntKind.i64.wrap (s3 + 1))))) else (some (.inr (.inl ())))
noncomputable def f165 (x0 : (List TBaneTrip)) (x1 : (TBaneTrip → Option Bool)) : Option Int :=
  (lp (f165_b0 x0 x1) 0).bind fun q5 => Sum.elim (fun p4 : Unit => some (-1)) (fun v17 : Int => some v17) q5
noncomputable def f81 (x0 : (List TBaneTrip)) (x1 : (TBaneTrip → Option Bool)) : Option Bool :=
  (f165 x0 x1).bind fun y3 => some (decide (0 ≤ y3))
noncomputable def f82 (x0 : TBaneTrip) (x1 : TBaneSea) : Option Bool :=
  (((f79 x0.Day 0 400).bind fun y8 => if (!y8) = true then (some true) else ((f79 x0.From 0 (IntKind.i64.wrap (x1.Islets - 1))).bind fun y11 => if (!y11) = true then (some true) else ((f79 x0.To 0 (IntKind.i64.wrap (x1.Islets - 1))).bind fun y14 => if (!y14) = true then (some true) else (if (x0.From == x0.To) = true then (some true) else ((f79 x0.Cost 0 1000000).bind fun y18 => some (!y18))))) : Option Bool)).bind fun q7 => some q7
noncomputable def f22 (x0 : TBaneSea) : Option Bool :=
  (((f79 x0.Islets 1 8).bind fun y8 => if y8 = true then ((f80 x0.Infested x0.Islets).bind fun y11 => if y11 = true then ((f80 x0.Clean x0.Islets).bind fun y14 => if y14 = true then (if (decide ((x0.Trips.length : Int) ≤ 9)) = true then ((f79 x0.Wait 0 40).bind fun y18 => if y18 = true then ((f81 x0.Trips (fun (z0 : TBaneTrip) => f82 z0 x0)).bind fun y22 => some (!y22)) else (some false)) else (some false)) else (some false)) else (some false)) else (some false) : Option Bool)).bind fun q7 => some q7
noncomputable def f27 (x0 : Int) (x1 : Int) (x2 : Int) : Option Bool :=
  ((if (decide (x1 ≤ x0)) = true then (some (decide (x0 ≤ x2))) else (some false) : Option Bool)).bind fun q1 => some q1
noncomputable def f7_b0 (x0 : (List Int)) (x1 : Int) (s2 : Int) : Option (Int ⊕ (Unit ⊕ Bool)) :=
  if (decide (s2 < (x0.length : Int))) = true then ((((ix x0 s2).bind fun y10 => (f27 y10 0 (IntKind.i64.wrap (x1 - 1))).bind fun y12 => if (!y12) = true then (some true) else (if (decide (0 < s2)) = true then ((ix x0 (IntKind.i64.wrap (s2 - 1))).bind fun y17 => some (decide (y10 ≤ y17))) else (some false)) : Option Bool)).bind fun q9 => if q9 = true then (some (.inr (.inr false))) else (some (.inl (IntKind.i64.wrap (s2 + 1))))) else (some (.inr (.inl ())))
noncomputable def f7 (x0 : (List Int)) (x1 : Int) : Option Bool :=
  (lp (f7_b0 x0 x1) 0).bind fun q4 => Sum.elim (fun p3 : Unit => some true) (fun v24 : Bool => some v24) q4
noncomputable def f83_b0 (x0 : Int) (x1 : Int) (s2 : (List Int) × Int) : Option (((List Int) × Int) ⊕ (List Int)) :=
  if (decide (s2.2 < x1)) = true then ((((shrI .i64 x0 s2.2).bind fun y10 => if ((andI .i64 y10 1) == 1) = true then ((app s2.1 [s2.2]).bind fun y15 => some y15) else (some s2.1) : Option (List Int))).bind fun q9 => some (.inl (q9, IntKind.i64.wrap (s2.2 + 1)))) else (some (.inr s2.1))
noncomputable def f83 (x0 : Int) (x1 : Int) : Option (List Int) :=
  (lp (f83_b0 x0 x1) ([], 0)).bind fun q4 => some q4
noncomputable def f166_b0 (x0 : (List Int)) (s2 : Int) : Option (Int ⊕ (Unit ⊕ Int)) :=
  if (decide (s2 < (x0.length : Int))) = true then ((ix x0 s2).bind fun y9 => if (y9 != 0) = true then (some (.inr (.inr y9))) else (some (.inl (IntKind.i64.wrap (s2 + 1))))) else (some (.inr (.inl ())))
noncomputable def f166 (x0 : (List Int)) : Option Int :=
  (lp (f166_b0 x0) 0).bind fun q4 => Sum.elim (fun p3 : Unit => some 0) (fun v14 : Int => some v14) q4
noncomputable def f205 (x0 : Int) : Option Bool :=
  some (x0 != x0)
noncomputable def f167 (x0 : Int) (x1 : Int) : Option Int :=
  (f205 x0).bind fun y1 => (f205 x1).bind fun y3 => if y1 = true then (if y3 = true then (some 0) else (some (-1))) else (if y3 = true then (some 1) else (if (decide (x0 < x1)) = true then (some (-1)) else (if (decide (x1 < x0)) = true then (some 1) else (some 0))))
noncomputable def f168_b0 (x0 : (List Int)) (x1 : (List Int)) (s3 : Int) : Option (Int ⊕ (Unit ⊕ Int)) :=
  if (decide (s3 < (x0.length : Int))) = true then ((ix x0 s3).bind fun y10 => if (decide ((x1.length : Int) ≤ s3)) = true then (some (.inr (.inr 1))) else ((ix x1 s3).bind fun y13 => (f167 y10 y13).bind fun y15 => if (y15 != 0) = true then (some (.inr (.inr y15))) else (some (.inl (IntKind.i64.wrap (s3 + 1)))))) else (some (.inr (.inl ())))
noncomputable def f168 (x0 : (List Int)) (x1 : (List Int)) : Option Int :=
  (lp (f168_b0 x0 x1) 0).bind fun q5 => Sum.elim (fun p4 : Unit => if (decide ((x0.length : Int) < (x1.length : Int))) = true then (some (-1)) else (some 0)) (fun v21 : Int => some v21) q5
noncomputable def f84 (x0 : TChoice) (x1 : TChoice) : Option Bool :=
  (f167 x0.cost x1.cost).bind fun y9 => (f167 (x0.list.length : Int) (x1.list.length : Int)).bind fun y11 => (f168 x0.list x1.list).bind fun y13 => (f166 [y9, y11, y13]).bind fun y18 => some (decide (y18 < 0))
noncomputable def f169_b0 (x0 : (List Int)) (x1 : (Int → Option Bool)) (s3 : Int) : Option (Int ⊕ (Unit ⊕ Int)) :=
  if (decide (s3 < (x0.length : Int))) = true then ((ix x0 s3).bind fun y10 => (x1 y10).bind fun y12 => if y12 = true then (some (.inr (.inr s3))) else (some (.inl (IntKind.i64.wrap (s3 + 1))))) else (some (.inr (.inl ())))
noncomputable def f169 (x0 : (List Int)) (x1 : (Int → Option Bool)) : Option Int :=
  (lp (f169_b0 x0 x1) 0).bind fun q5 => Sum.elim (fun p4 : Unit => some (-1)) (fun v17 : Int => some v17) q5
noncomputable def f85 (x0 : (List Int)) (x1 : (Int → Option Bool)) : Option Bool :=
  (f169 x0 x1).bind fun y3 => some (decide (0 ≤ y3))
noncomputable def f86 (x0 : Int) (x1 : (List Int)) : Option Bool :=
  (ix x1 x0).bind fun y2 => some (decide (0 ≤ y2))
noncomputable def f99_b0 (x0 : (List Int)) (s2 : Int × Int) : Option ((Int × Int) ⊕ Int) :=
  if (decide (s2.2 < (x0.length : Int))) = true then ((ix x0 s2.2).bind fun y9 => (shlI .i64 1 y9).bind fun y11 => some (.inl (orI .i64 s2.1 y11, IntKind.i64.wrap (s2.2 + 1)))) else (some (.inr s2.1))
noncomputable def f99 (x0 : (List Int)) : Option Int :=
  (lp (f99_b0 x0) (0, 0)).bind fun q4 => some q4
noncomputable def f95_b0 (x0 : (List Int)) (x1 : Int) (s2 : Int) : Option (Int ⊕ (Unit ⊕ Int)) :=
  if (decide (s2 < (x0.length : Int))) = true then ((ix x0 s2).bind fun y9 => if (x1 == y9) = true then (some (.inr (.inr s2))) else (some (.inl (IntKind.i64.wrap (s2 + 1))))) else (some (.inr (.inl ())))
noncomputable def f95 (x0 : (List Int)) (x1 : Int) : Option Int :=
  (lp (f95_b0 x0 x1) 0).bind fun q4 => Sum.elim (fun p3 : Unit => some (-1)) (fun v14 : Int => some v14) q4
noncomputable def f33 (x0 : (List Int)) (x1 : Int) : Option Bool :=
  (f95 x0 x1).bind fun y2 => some (decide (0 ≤ y2))
noncomputable def f23_b1 (x0 : (List TBaneTrip)) (x1 : (TBaneTrip → Option Int)) (y19 : (List Int)) (s27 : Int × TChoice × TChoice × TChoice) : Option ((Int × TChoice × TChoice × TChoice) ⊕ (TChoice × TChoice × TChoice)) :=
  if (decide (s27.1 < (y19.length : Int))) = true then ((ix y19 s27.1).bind fun y34 => (ix x0 y34).bind fun y36 => (x1 y36).bind fun y38 => some (.inl (IntKind.i64.wrap (s27.1 + 1), (⟨IntKind.i64.wrap (s27.2.1.cost + y38), s27.2.1.list⟩ : TChoice), s27.2.2.1, s27.2.2.2))) else (some (.inr (s27.2.1, s27.2.2.1, s27.2.2.2)))
noncomputable def f23_b0 (x0 : (List TBaneTrip)) (x1 : (TBaneTrip → Option Int)) (x2 : (Int → Option Bool)) (y10 : Int) (s11 : Bool × Int × TChoice × TChoice) : Option ((Bool × Int × TChoice × TChoice) ⊕ (Bool × TChoice × TChoice)) :=
  if (decide (s11.2.1 < y10)) = true then ((((f83 s11.2.1 (x0.length : Int)).bind fun y19 => (lp (f23_b1 x0 x1 y19) (0, (⟨0, y19⟩ : TChoice), s11.2.2.1, s11.2.2.2)).bind fun q29 => ((if (!s11.1) = true then ((x2 s11.2.1).bind fun y45 => some y45) else ((f84 q29.1 q29.2.1).bind fun y47 => if y47 = true then ((x2 s11.2.1).bind fun y50 => some y50) else (some false)) : Option Bool)).bind fun q43 => if q43 = true then (some (true, q29.1, q29.2.2)) else (some (s11.1, q29.2.1, q29.2.2)) : Option (Bool × TChoice × TChoice))).bind fun q18 => some (.inl (q18.1, IntKind.i64.wrap (s11.2.1 + 1), q18.2.1, q18.2.2))) else (some (.inr (s11.1, s11.2.2.1, s11.2.2.2)))
noncomputable def f23 (x0 : (List TBaneTrip)) (x1 : (TBaneTrip → Option Int)) (x2 : (Int → Option Bool)) : Option (TChoice × Bool) :=
  (shlI .i64 1 (x0.length : Int)).bind fun y10 => (lp (f23_b0 x0 x1 x2 y10) (false, 0, (⟨0, []⟩ : TChoice), (⟨0, []⟩ : TChoice))).bind fun q13 => some (q13.2.1, q13.1)
noncomputable def f24 (x0 : TBaneTrip) : Option Int :=
  some x0.Cost
noncomputable def f40_b0 (y7 : (List Int)) (s11 : (List Int) × Int) : Option (((List Int) × Int) ⊕ (List Int)) :=
  if (decide (s11.2 < (y7.length : Int))) = true then ((ix s11.1 s11.2).bind fun y18 => (setIx s11.1 s11.2 (-1)).bind fun y20 => some (.inl (y20, IntKind.i64.wrap (s11.2 + 1)))) else (some (.inr s11.1))
noncomputable def f40_b1 (x0 : TSea) (y43 : (Int × TBaneTrip)) (s42 : (List Bool) × TQueue_int_) : Option (((List Bool) × TQueue_int_) ⊕ Empty) :=
  (f33 x0.BaneSea.Infested y43.2.From).bind fun y55 => if y55 = true then ((ix s42.1 y43.1).bind fun y58 => (setIx s42.1 y43.1 true).bind fun y60 => (app s42.2.all [y43.1]).bind fun y65 => some (.inl (y60, (⟨y65⟩ : TQueue_int_)))) else (some (.inl (s42.1, s42.2)))
noncomputable def f40_b3 (x0 : TSea) (y89 : TBaneTrip) (y113 : (Int × TBaneTrip)) (s112 : (List Bool) × TQueue_int_) : Option (((List Bool) × TQueue_int_) ⊕ Empty) :=
  (((ix s112.1 y113.1).bind fun y126 => if (!y126) = true then (if (y113.2.From == y89.To) = true then (some (decide ((IntKind.i64.wrap (y89.Day + x0.BaneSea.Wait)) ≤ y113.2.Day))) else (some false)) else (some false) : Option Bool)).bind fun q125 => if q125 = true then ((ix s112.1 y113.1).bind fun y133 => (setIx s112.1 y113.1 true).bind fun y135 => (app s112.2.all [y113.1]).bind fun y140 => some (.inl (y135, (⟨y140⟩ : TQueue_int_)))) else (some (.inl (s112.1, s112.2)))
noncomputable def f40_b2 (x0 : TSea) (s82 : (List Int) × Int × Bool × (List Bool) × TQueue_int_) : Option (((List Int) × Int × Bool × (List Bool) × TQueue_int_) ⊕ ((List Int) × (List Bool) × TQueue_int_)) :=
  if s82.2.2.1 = true then ((ix x0.BaneSea.Trips s82.2.1).bind fun y89 => (((((ix s82.1 y89.To).bind fun y98 => if (decide (y98 < 0)) = true then (some true) else (some (decide (y89.Day < y98))) : Option Bool)).bind fun q97 => if q97 = true then ((ix s82.1 y89.To).bind fun y105 => (setIx s82.1 y89.To y89.Day).bind fun y107 => some y107) else (some s82.1) : Option (List Int))).bind fun q96 => (rg (f40_b3 x0 y89) (openL x0.shut 0 x0.BaneSea.Trips) (s82.2.2.2.1, s82.2.2.2.2)).bind fun q114 => Sum.elim (fun s112 : (List Bool) × TQueue_int_ => if ((s112.2.all.length : Int) == 0) = true then (some (.inl (q96, 0, false, s112.1, s112.2))) else ((ix s112.2.all 0).bind fun y150 => (subL s112.2.all 1 (s112.2.all.length : Int)).bind fun y152 => some (.inl (q96, y150, true, s112.1, (⟨y152⟩ : TQueue_int_))))) (fun e : Empty => e.elim) q114) else (some (.inr (s82.1, s82.2.2.2.1, s82.2.2.2.2)))
noncomputable def f40_b4 (x0 : TSea) (s157 : (List Int) × Int × (List Bool) × TQueue_int_) : Option (((List Int) × Int × (List Bool) × TQueue_int_) ⊕ ((List Int) × (List Bool) × TQueue_int_)) :=
  if (decide (s157.2.1 < (x0.BaneSea.Infested.length : Int))) = true then ((ix x0.BaneSea.Infested s157.2.1).bind fun y164 => (ix s157.1 y164).bind fun y166 => (setIx s157.1 y164 0).bind fun y168 => some (.inl (y168, IntKind.i64.wrap (s157.2.1 + 1), s157.2.2.1, (⟨s157.2.2.2.all⟩ : TQueue_int_)))) else (some (.inr (s157.1, s157.2.2.1, s157.2.2.2)))
noncomputable def f40 (x0 : TSea) : Option (List Int) :=
  (mkS x0.BaneSea.Islets 0).bind fun y7 => (lp (f40_b0 y7) (y7, 0)).bind fun q13 => (mkS (x0.BaneSea.Trips.length : Int) false).bind fun y32 => (rg (f40_b1 x0) (openL x0.shut 0 x0.BaneSea.Trips) (y32, (⟨[]⟩ : TQueue_int_))).bind fun q44 => Sum.elim (fun s42 : (List Bool) × TQueue_int_ => ((if ((s42.2.all.length : Int) == 0) = true then (some (0, false, s42.2)) else ((ix s42.2.all 0).bind fun y76 => (subL s42.2.all 1 (s42.2.all.length : Int)).bind fun y78 => some (y76, true, (⟨y78⟩ : TQueue_int_))) : Option (Int × Bool × TQueue_int_))).bind fun q74 => (lp (f40_b2 x0) (q13, q74.1, q74.2.1, s42.1, q74.2.2)).bind fun q84 => (lp (f40_b4 x0) (q84.1, 0, q84.2.1, q84.2.2)).bind fun q159 => some q159.1) (fun e : Empty => e.elim) q44
noncomputable def f26 (x0 : TSea) : Option Bool :=
  (f40 x0).bind fun y7 => (f85 x0.BaneSea.Clean (fun (z0 : Int) => f86 z0 y7)).bind fun y17 => some (!y17)
noncomputable def f25 (x0 : Int) (x1 : TBaneSea) : Option Bool :=
  (f26 (⟨x1, x0⟩ : TSea)).bind fun y4 => some y4
noncomputable def f39 (x0 : TBaneSea) (x1 : (List Int)) : Option (TSea × Bool) :=
  (((f22 x0).bind fun y12 => if (!y12) = true then (some true) else ((f80 x1 (x0.Trips.length : Int)).bind fun y15 => some (!y15)) : Option Bool)).bind fun q11 => if q11 = true then (some ((⟨(⟨0, [], [], [], 0⟩ : TBaneSea), 0⟩ : TSea), false)) else ((f99 x1).bind fun y21 => some ((⟨x0, y21⟩ : TSea), true))
noncomputable def f38 (x0 : TBaneSea) (x1 : (List Int)) : Option ((List Int) × Int) :=
  (f39 x0 x1).bind fun y8 => if (!y8.2) = true then (some ([], 2)) else ((f40 y8.1).bind fun y20 => some (y20, 0))
noncomputable def f10_b0 (x2 : (List Bool)) (s24 : Int × TSea) : Option ((Int × TSea) ⊕ TSea) :=
  if (decide (s24.1 < (x2.length : Int))) = true then ((((ix x2 s24.1).bind fun y32 => if (!y32) = true then ((shlI .i64 1 s24.1).bind fun y35 => some (⟨s24.2.BaneSea, orI .i64 s24.2.shut y35⟩ : TSea)) else (some s24.2) : Option TSea)).bind fun q31 => some (.inl (IntKind.i64.wrap (s24.1 + 1), q31))) else (some (.inr s24.2))
noncomputable def f10 (x0 : TBaneSea) (x1 : (List Int)) (x2 : (List Bool)) : Option ((List Int) × Int) :=
  (f39 x0 x1).bind fun y9 => ((if (!y9.2) = true then (some true) else (some ((x2.length : Int) != (x0.Trips.length : Int))) : Option Bool)).bind fun q19 => if q19 = true then (some ([], 2)) else ((lp (f10_b0 x2) (0, y9.1)).bind fun q26 => (f40 q26).bind fun y41 => some (y41, 0))
noncomputable def f6 (x0 : TBaneSea) : Option ((List Int) × Int × Int) :=
  (f22 x0).bind fun y7 => if (!y7) = true then (some ([], 0, 2)) else ((f23 x0.Trips (fun (z0 : TBaneTrip) => f24 z0) (fun (z0 : Int) => f25 z0 x0)).bind fun y12 => if (!y12.2) = true then (some ([], 0, 5)) else (some (y12.1.list, y12.1.cost, 0)))
noncomputable def f93 (x0 : Int) (x1 : Int) (x2 : Int) : Option Bool :=
  ((if (decide (x1 ≤ x0)) = true then (some (decide (x0 ≤ x2))) else (some false) : Option Bool)).bind fun q1 => some q1
noncomputable def f212 (x0 : Int) (x1 : Int) : Option Bool :=
  (((f205 x0).bind fun y2 => if y2 = true then ((f205 x1).bind fun y5 => if (!y5) = true then (some true) else (some (decide (x0 < x1)))) else (some (decide (x0 < x1))) : Option Bool)).bind fun q1 => some q1
noncomputable def f123 (x0 : TBaneSea) : Option Int :=
  (f22 x0).bind fun y7 => if (!y7) = true then (some 2) else (some 0)
end Go.Proofs.YtdgkjgljkgjjiaaGreatDoor
