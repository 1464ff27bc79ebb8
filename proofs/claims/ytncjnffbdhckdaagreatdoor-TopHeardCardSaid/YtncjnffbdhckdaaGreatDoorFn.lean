/-
 What the Go functions compute, as plain functions (printed by a program of ours).
-/
import Derived.Test.YtncjnffbdhckdaaGreatDoorBsC
namespace Go.Proofs.YtncjnffbdhckdaaGreatDoor
open Go.RowKit
set_option linter.unusedVariables false
structure TSpan where
 Low : Int
 High : Int
structure TLensMonth where
 Wet : TSpan
 Dry : TSpan
 Need : TSpan
structure TLensIslet where
 Cap : Int
 Start : TSpan
 Roof : Int
 Sand : Int
 Soak : TSpan
 Leak : TSpan
 Pump : Int
 Keep : Int
 Size : Int
 Wells : (List Int)
 Months : (List TLensMonth)
 Most : Int
 Row : Int
structure TLandPerson where
 Mother : Int
 Adopted : Int
structure TLandEvent where
 Strip : Int
 Holder : Int
structure TLandMemory where
 From : Int
 To : Int
 Years : TSpan
structure TLandBook where
 People : (List TLandPerson)
 Events : (List TLandEvent)
 Memories : (List TLandMemory)
structure TReefPlace where
 Count : Int
 Room : Int
 Grow : TSpan
 Drift : Int
 Into : Int
 Open : TSpan
 Shut : TSpan
 Goal : Int
 Worth : Int
structure TReef where
 Places : (List TReefPlace)
 Miss : Int
 Seasons : Int
structure TBaneTrip where
 Day : Int
 From : Int
 To : Int
 Cost : Int
structure TBaneSea where
 Islets : Int
 Infested : (List Int)
 Clean : (List Int)
 Trips : (List TBaneTrip)
 Wait : Int
structure TShipLot where
 Goods : (List TSpan)
 Weight : Int
 Cost : Int
structure TShipStore where
 Stock : (List Int)
 Use : (List TSpan)
 Gap : TSpan
 Lots : (List TShipLot)
 Hold : Int
structure TCellLoad where
 Need : Int
 Keep : Int
 Must : Bool
structure TCellSystem where
 Sunny : Int
 Cloudy : Int
 Size : Int
 Fade : Int
 Start : Int
 Loads : (List TCellLoad)
 Days : Int
 Window : Int
 Most : Int
 Panel : Int
 Battery : Int
structure TFleetSea where
 Cells : Int
 Roads : (List Int)
 Zones : (List Int)
 Berths : (List Int)
 Days : Int
structure TCouncilAtoll where
 Islet : TLensIslet
 Tank : Int
 Book : TLandBook
 Reef : TReef
 Sea : TBaneSea
 Store : TShipStore
 System : TCellSystem
 Fishing : TFleetSea
 Money : Int
noncomputable def f12_b0 (x0 : TCouncilAtoll) (s20 : Int) : Option (Int ⊕ (Unit ⊕ Bool)) :=
 ((if (decide (s20 < (x0.Store.Lots.length : Int))) = true then (some (decide (s20 < 8))) else (some false) : Option Bool)).bind fun q26 => if q26 = true then ((ix x0.Store.Lots s20).bind fun y31 => if (decide (8 < (y31.Goods.length : Int))) = true then (some (.inr (.inr false))) else (some (.inl (IntKind.i64.wrap (s20 + 1))))) else (some (.inr (.inl ())))
noncomputable def f12 (x0 : TCouncilAtoll) : Option Bool :=
 (lp (f12_b0 x0) 0).bind fun q22 => Sum.elim (fun p21 : Unit => ((if (decide ((x0.Islet.Wells.length : Int) ≤ 8)) = true then (if (decide ((x0.Islet.Months.length : Int) ≤ 4)) = true then (if (decide ((x0.Book.People.length : Int) ≤ 12)) = true then (if (decide ((x0.Book.Events.length : Int) ≤ 9)) = true then (if (decide ((x0.Book.Memories.length : Int) ≤ 12)) = true then (if (decide ((x0.Reef.Places.length : Int) ≤ 3)) = true then (if (decide (x0.Reef.Seasons ≤ 2)) = true then (if (decide ((x0.Sea.Infested.length : Int) ≤ 10)) = true then (if (decide ((x0.Sea.Clean.length : Int) ≤ 10)) = true then (if (decide ((x0.Sea.Trips.length : Int) ≤ 8)) = true then (if (decide ((x0.Store.Stock.length : Int) ≤ 8)) = true then (if (decide ((x0.Store.Use.length : Int) ≤ 8)) = true then (if (decide ((x0.Store.Lots.length : Int) ≤ 8)) = true then (if (decide ((x0.System.Loads.length : Int) ≤ 7)) = true then (if (decide (x0.System.Days ≤ 4)) = true then (if (decide ((x0.Fishing.Roads.length : Int) ≤ 10)) = true then (if (decide ((x0.Fishing.Zones.length : Int) ≤ 5)) = true then (some (decide ((x0.Fishing.Berths.length : Int) ≤ 5))) else (some false)) else (some false)) else (some false)) else (some false)) else (some false)) else (some false)) else (some false)) else (some false)) else (some false)) else (some false)) else (some false)) else (some false)) else (some false)) else (some false)) else (some false)) else (some false)) else (some false) : Option Bool)).bind fun q37 => some q37) (fun v57 : Bool => some v57) q22
noncomputable def f83 (x0 : Int) (x1 : Int) (x2 : Int) : Option Bool :=
 ((if (decide (x1 ≤ x0)) = true then (some (decide (x0 ≤ x2))) else (some false) : Option Bool)).bind fun q1 => some q1
noncomputable def f15 (x0 : Int) (x1 : Int) (x2 : Int) : Option Bool :=
 ((if (decide (x1 ≤ x0)) = true then (some (decide (x0 ≤ x2))) else (some false) : Option Bool)).bind fun q1 => some q1
noncomputable def f5_b0 (x1 : (List Int)) (s8 : Int) : Option (Int ⊕ (Unit ⊕ Bool)) :=
 if (decide (s8 < (x1.length : Int))) = true then ((ix x1 s8).bind fun y15 => (f15 y15 0 1000).bind fun y17 => if (!y17) = true then (some (.inr (.inr false))) else (some (.inl (IntKind.i64.wrap (s8 + 1))))) else (some (.inr (.inl ())))
noncomputable def f5 (x0 : TLandBook) (x1 : (List Int)) : Option Bool :=
 (lp (f5_b0 x1) 0).bind fun q10 => Sum.elim (fun p9 : Unit => some ((x1.length : Int) == (x0.Events.length : Int))) (fun v22 : Bool => some v22) q10
noncomputable def f16 (x0 : TLandMemory) (x1 : (List Int)) : Option Bool :=
 (ix x1 x0.To).bind fun y5 => (ix x1 x0.From).bind fun y7 => (f15 (IntKind.i64.wrap (y5 - y7)) x0.Years.Low x0.Years.High).bind fun y9 => some y9
noncomputable def f6_b0 (x0 : TLandBook) (x1 : (List Int)) (s8 : Int) : Option (Int ⊕ (Unit ⊕ Bool)) :=
 if (decide (s8 < (x0.Memories.length : Int))) = true then ((ix x0.Memories s8).bind fun y15 => (f16 y15 x1).bind fun y17 => if (!y17) = true then (some (.inr (.inr false))) else (some (.inl (IntKind.i64.wrap (s8 + 1))))) else (some (.inr (.inl ())))
noncomputable def f6 (x0 : TLandBook) (x1 : (List Int)) : Option Bool :=
 (lp (f6_b0 x0 x1) 0).bind fun q10 => Sum.elim (fun p9 : Unit => some true) (fun v22 : Bool => some v22) q10
noncomputable def f7 (x0 : Int) : Option Bool :=
 (f15 x0 0 5).bind fun y1 => some y1
noncomputable def f8 (x0 : TLandBook) (x1 : Int) : Option Bool :=
 (f15 x1 0 (IntKind.i64.wrap ((x0.Events.length : Int) - 1))).bind fun y7 => some y7
noncomputable def f207_b0 (x0 : (List TLandEvent)) (x1 : (TLandEvent → Option Bool)) (s3 : Int) : Option (Int ⊕ (Unit ⊕ Int)) :=
 if (decide (s3 < (x0.length : Int))) = true then ((ix x0 s3).bind fun y10 => (x1 y10).bind fun y12 => if y12 = true then (some (.inr (.inr s3))) else (some (.inl (IntKind.i64.wrap (s3 + 1))))) else (some (.inr (.inl ())))
noncomputable def f207 (x0 : (List TLandEvent)) (x1 : (TLandEvent → Option Bool)) : Option Int :=
 (lp (f207_b0 x0 x1) 0).bind fun q5 => Sum.elim (fun p4 : Unit => some (-1)) (fun v17 : Int => some v17) q5
noncomputable def f156 (x0 : (List TLandEvent)) (x1 : (TLandEvent → Option Bool)) : Option Bool :=
 (f207 x0 x1).bind fun y3 => some (decide (0 ≤ y3))
noncomputable def f157 (x0 : TLandEvent) (x1 : TLandBook) : Option Bool :=
 (((f83 x0.Strip 0 5).bind fun y8 => if (!y8) = true then (some true) else ((f83 x0.Holder 0 (IntKind.i64.wrap ((x1.People.length : Int) - 1))).bind fun y11 => some (!y11)) : Option Bool)).bind fun q7 => some q7
noncomputable def f208_b0 (x0 : (List TLandMemory)) (x1 : (TLandMemory → Option Bool)) (s3 : Int) : Option (Int ⊕ (Unit ⊕ Int)) :=
 if (decide (s3 < (x0.length : Int))) = true then ((ix x0 s3).bind fun y10 => (x1 y10).bind fun y12 => if y12 = true then (some (.inr (.inr s3))) else (some (.inl (IntKind.i64.wrap (s3 + 1))))) else (some (.inr (.inl ())))
noncomputable def f208 (x0 : (List TLandMemory)) (x1 : (TLandMemory → Option Bool)) : Option Int :=
 (lp (f208_b0 x0 x1) 0).bind fun q5 => Sum.elim (fun p4 : Unit => some (-1)) (fun v17 : Int => some v17) q5
noncomputable def f158 (x0 : (List TLandMemory)) (x1 : (TLandMemory → Option Bool)) : Option Bool :=
 (f208 x0 x1).bind fun y3 => some (decide (0 ≤ y3))
noncomputable def f159 (x0 : TLandMemory) (x1 : TLandBook) : Option Bool :=
 (((f83 x0.From 0 (IntKind.i64.wrap ((x1.Events.length : Int) - 1))).bind fun y8 => if (!y8) = true then (some true) else ((f83 x0.To 0 (IntKind.i64.wrap ((x1.Events.length : Int) - 1))).bind fun y11 => if (!y11) = true then (some true) else (if (x0.From == x0.To) = true then (some true) else (if (decide (x0.Years.Low < (-1000))) = true then (some true) else (if (decide (x0.Years.High < x0.Years.Low)) = true then (some true) else (some (decide (1000 < x0.Years.High))))))) : Option Bool)).bind fun q7 => some q7
noncomputable def f79_b0 (x0 : TLandBook) (s7 : Int) : Option (Int ⊕ (Unit ⊕ Bool)) :=
 if (decide (s7 < (x0.People.length : Int))) = true then ((ix x0.People s7).bind fun y14 => (((f83 y14.Mother (-1) (IntKind.i64.wrap (s7 - 1))).bind fun y22 => if (!y22) = true then (some true) else ((f83 y14.Adopted (-1) (IntKind.i64.wrap (s7 - 1))).bind fun y25 => some (!y25)) : Option Bool)).bind fun q21 => if q21 = true then (some (.inr (.inr false))) else (some (.inl (IntKind.i64.wrap (s7 + 1))))) else (some (.inr (.inl ())))
noncomputable def f79 (x0 : TLandBook) : Option Bool :=
 (lp (f79_b0 x0) 0).bind fun q9 => Sum.elim (fun p8 : Unit => (((f83 (x0.People.length : Int) 1 10).bind fun y33 => if y33 = true then ((f83 (x0.Events.length : Int) 1 7).bind fun y36 => if y36 = true then (if (decide ((x0.Memories.length : Int) ≤ 10)) = true then ((f156 x0.Events (fun (z0 : TLandEvent) => f157 z0 x0)).bind fun y41 => if (!y41) = true then ((f158 x0.Memories (fun (z0 : TLandMemory) => f159 z0 x0)).bind fun y45 => some (!y45)) else (some false)) else (some false)) else (some false)) else (some false) : Option Bool)).bind fun q32 => some q32) (fun v49 : Bool => some v49) q9
noncomputable def f26 (x0 : TLandBook) : Option Int :=
 (f79 x0).bind fun y7 => if (!y7) = true then (some 2) else (some 0)
noncomputable def f210 (x0 : Int) (x1 : Int) : Option Bool :=
 (shrI .i64 x0 x1).bind fun y1 => some ((andI .i64 y1 1) == 1)
noncomputable def f160_b1 (s11 : Int × (Tb 64) × (Tb 64)) (s18 : Int × (Tb 64) × (Tb 64)) : Option ((Int × (Tb 64) × (Tb 64)) ⊕ ((Tb 64) × (Tb 64))) :=
 if (decide (s18.1 < 8)) = true then (((if (s11.1 != s18.1) = true then ((ckI s11.1 8).bind fun j27 => (ckI s18.1 8).bind fun j28 => some (tset s18.2.1 (0 + j27 * 8 + j28 * 1) 2000)) else (some s18.2.1) : Option (Tb 64))).bind fun q25 => some (.inl (IntKind.i64.wrap (s18.1 + 1), q25, s18.2.2))) else (some (.inr (s18.2.1, s18.2.2)))
noncomputable def f160_b0 (s11 : Int × (Tb 64) × (Tb 64)) : Option ((Int × (Tb 64) × (Tb 64)) ⊕ ((Tb 64) × (Tb 64))) :=
 if (decide (s11.1 < 8)) = true then ((lp (f160_b1 s11) (0, s11.2.1, s11.2.2)).bind fun q20 => some (.inl (IntKind.i64.wrap (s11.1 + 1), q20.1, q20.2))) else (some (.inr (s11.2.1, s11.2.2)))
noncomputable def f160_b2 (x0 : TLandBook) (s37 : Int × (Tb 64) × (Tb 64)) : Option ((Int × (Tb 64) × (Tb 64)) ⊕ ((Tb 64) × (Tb 64))) :=
 if (decide (s37.1 < (x0.Events.length : Int))) = true then ((((((ckI s37.1 8).bind fun j46 => if (decide ((tget s37.2.1 (0 + 7 * 8 + j46 * 1)) ≤ 1000)) = true then (some s37.2.1) else ((ckI s37.1 8).bind fun j49 => some (tset s37.2.1 (0 + 7 * 8 + j49 * 1) 1000)) : Option (Tb 64))).bind fun q45 => (ckI s37.1 8).bind fun j54 => if (decide ((tget q45 (0 + j54 * 8 + 7 * 1)) ≤ 0)) = true then (some q45) else ((ckI s37.1 8).bind fun j57 => some (tset q45 (0 + j57 * 8 + 7 * 1) 0)) : Option (Tb 64))).bind fun q44 => some (.inl (IntKind.i64.wrap (s37.1 + 1), q44, s37.2.2))) else (some (.inr (s37.2.1, s37.2.2)))
noncomputable def f160_b3 (x0 : TLandBook) (x1 : Int) (s64 : Int × (Tb 64) × (Tb 64)) : Option ((Int × (Tb 64) × (Tb 64)) ⊕ ((Tb 64) × (Tb 64))) :=
 if (decide (s64.1 < (x0.Memories.length : Int))) = true then ((((ix x0.Memories s64.1).bind fun y72 => (f210 x1 s64.1).bind fun y79 => if y79 = true then ((((ckI y72.From 8).bind fun j83 => (ckI y72.To 8).bind fun j84 => if (decide ((tget s64.2.1 (0 + j83 * 8 + j84 * 1)) ≤ y72.Years.High)) = true then (some s64.2.1) else ((ckI y72.From 8).bind fun j87 => (ckI y72.To 8).bind fun j88 => some (tset s64.2.1 (0 + j87 * 8 + j88 * 1) y72.Years.High)) : Option (Tb 64))).bind fun q82 => (ckI y72.To 8).bind fun j93 => (ckI y72.From 8).bind fun j94 => if (decide ((tget q82 (0 + j93 * 8 + j94 * 1)) ≤ (IntKind.i64.wrap (0 - y72.Years.Low)))) = true then (some q82) else ((ckI y72.To 8).bind fun j97 => (ckI y72.From 8).bind fun j98 => some (tset q82 (0 + j97 * 8 + j98 * 1) (IntKind.i64.wrap (0 - y72.Years.Low))))) else (some s64.2.1) : Option (Tb 64))).bind fun q71 => some (.inl (IntKind.i64.wrap (s64.1 + 1), q71, s64.2.2))) else (some (.inr (s64.2.1, s64.2.2)))
noncomputable def f160_b4 (x0 : TLandBook) (s109 : (List Int) × Int × (Tb 64) × (Tb 64)) : Option (((List Int) × Int × (Tb 64) × (Tb 64)) ⊕ ((List Int) × (Tb 64) × (Tb 64))) :=
 if (decide (s109.2.1 < (x0.Events.length : Int))) = true then ((app s109.1 [s109.2.1]).bind fun y119 => some (.inl (y119, IntKind.i64.wrap (s109.2.1 + 1), s109.2.2.1, s109.2.2.2))) else (some (.inr (s109.1, s109.2.2.1, s109.2.2.2)))
noncomputable def f160_b8 (y126 : (List Int)) (y142 : Int) (y151 : Int) (s153 : Bool × Int × (Tb 64) × (Tb 64)) : Option ((Bool × Int × (Tb 64) × (Tb 64)) ⊕ (Bool × (Tb 64) × (Tb 64))) :=
 if (decide (s153.2.1 < (y126.length : Int))) = true then ((((ix y126 s153.2.1).bind fun y161 => (((ckI y151 8).bind fun j164 => (ckI y142 8).bind fun j165 => (ckI y142 8).bind fun j167 => (ckI y161 8).bind fun j168 => (ckI y151 8).bind fun j170 => (ckI y161 8).bind fun j171 => if (decide ((tget s153.2.2.1 (0 + j170 * 8 + j171 * 1)) ≤ (IntKind.i64.wrap ((tget s153.2.2.1 (0 + j164 * 8 + j165 * 1)) + (tget s153.2.2.1 (0 + j167 * 8 + j168 * 1)))))) = true then (some (false, s153.2.2.1)) else ((ckI y151 8).bind fun j174 => (ckI y161 8).bind fun j175 => some (true, tset s153.2.2.1 (0 + j174 * 8 + j175 * 1) (IntKind.i64.wrap ((tget s153.2.2.1 (0 + j164 * 8 + j165 * 1)) + (tget s153.2.2.1 (0 + j167 * 8 + j168 * 1)))))) : Option (Bool × (Tb 64)))).bind fun q163 => if q163.1 = true then (some (true, q163.2)) else (some (s153.1, q163.2)) : Option (Bool × (Tb 64)))).bind fun q160 => some (.inl (q160.1, IntKind.i64.wrap (s153.2.1 + 1), q160.2, s153.2.2.2))) else (some (.inr (s153.1, s153.2.2.1, s153.2.2.2)))
noncomputable def f160_b7 (y126 : (List Int)) (y142 : Int) (s144 : Bool × Int × (Tb 64) × (Tb 64)) : Option ((Bool × Int × (Tb 64) × (Tb 64)) ⊕ (Bool × (Tb 64) × (Tb 64))) :=
 if (decide (s144.2.1 < (y126.length : Int))) = true then ((ix y126 s144.2.1).bind fun y151 => (lp (f160_b8 y126 y142 y151) (s144.1, 0, s144.2.2.1, s144.2.2.2)).bind fun q155 => some (.inl (q155.1, IntKind.i64.wrap (s144.2.1 + 1), q155.2.1, q155.2.2))) else (some (.inr (s144.1, s144.2.2.1, s144.2.2.2)))
noncomputable def f160_b6 (y126 : (List Int)) (s135 : Bool × Int × (Tb 64) × (Tb 64)) : Option ((Bool × Int × (Tb 64) × (Tb 64)) ⊕ (Bool × (Tb 64) × (Tb 64))) :=
 if (decide (s135.2.1 < (y126.length : Int))) = true then ((ix y126 s135.2.1).bind fun y142 => (lp (f160_b7 y126 y142) (s135.1, 0, s135.2.2.1, s135.2.2.2)).bind fun q146 => some (.inl (q146.1, IntKind.i64.wrap (s135.2.1 + 1), q146.2.1, q146.2.2))) else (some (.inr (s135.1, s135.2.2.1, s135.2.2.2)))
noncomputable def f160_b9 (q137 : Bool × (Tb 64) × (Tb 64)) (y126 : (List Int)) (s189 : Int) : Option (Int ⊕ (Unit ⊕ ((Tb 64) × Bool))) :=
 if (decide (s189 < (y126.length : Int))) = true then ((ix y126 s189).bind fun y196 => (ckI y196 8).bind fun j198 => (ckI y196 8).bind fun j199 => if (decide ((tget q137.2.1 (0 + j198 * 8 + j199 * 1)) < 0)) = true then (some (.inr (.inr (Tb.zero 64, false)))) else (some (.inl (IntKind.i64.wrap (s189 + 1))))) else (some (.inr (.inl ())))
noncomputable def f160_b5 (x0 : TLandBook) (y126 : (List Int)) (s128 : Int × (Tb 64) × (Tb 64)) : Option ((Int × (Tb 64) × (Tb 64)) ⊕ (((Tb 64) × (Tb 64)) ⊕ ((Tb 64) × Bool))) :=
 if (decide (s128.1 < (IntKind.i64.wrap ((IntKind.i64.wrap ((x0.Events.length : Int) + 1)) + 1)))) = true then ((lp (f160_b6 y126) (false, 0, s128.2.1, s128.2.2)).bind fun q137 => (lp (f160_b9 q137 y126) 0).bind fun q191 => Sum.elim (fun p190 : Unit => if (!q137.1) = true then (some (.inr (.inl (q137.2.1, q137.2.2)))) else (some (.inl (IntKind.i64.wrap (s128.1 + 1), q137.2.1, q137.2.2)))) (fun v206 : (Tb 64) × Bool => some (.inr (.inr v206))) q191) else (some (.inr (.inl (s128.2.1, s128.2.2))))
noncomputable def f160 (x0 : TLandBook) (x1 : Int) : Option ((Tb 64) × Bool) :=
 (lp f160_b0 (0, Tb.zero 64, Tb.zero 64)).bind fun q13 => (lp (f160_b2 x0) (0, q13.1, q13.2)).bind fun q39 => (lp (f160_b3 x0 x1) (0, q39.1, q39.2)).bind fun q66 => (mk0 (IntKind.i64.wrap ((x0.Events.length : Int) + 1))).bind fun _ => (lp (f160_b4 x0) ([], 0, q66.1, q66.2)).bind fun q111 => (app q111.1 [7]).bind fun y126 => (lp (f160_b5 x0 y126) (0, q111.2.1, q111.2.2)).bind fun q130 => Sum.elim (fun p129 : (Tb 64) × (Tb 64) => some (p129.1, true)) (fun v210 : (Tb 64) × Bool => some v210) q130
noncomputable def f161 (x0 : TLandBook) : Option Int :=
 (shlI .i64 1 (x0.Memories.length : Int)).bind fun y5 => some (IntKind.i64.wrap (y5 - 1))
noncomputable def f81 (x0 : TLandBook) (x1 : Bool) : Option ((Tb 64) × Int) :=
 (((f79 x0).bind fun y11 => if (!y11) = true then (some true) else (some (!x1)) : Option Bool)).bind fun q10 => if q10 = true then (some (Tb.zero 64, 2)) else ((f161 x0).bind fun y36 => (f160 x0 y36).bind fun y39 => if (!y39.2) = true then (some (Tb.zero 64, 7)) else (some (y39.1, 0)))
noncomputable def f82 (x0 : (Tb 64)) (x1 : Int) (x2 : Int) : Option TSpan :=
 (ckI x2 8).bind fun j7 => (ckI x1 8).bind fun j8 => (ckI x1 8).bind fun j10 => (ckI x2 8).bind fun j11 => some (⟨IntKind.i64.wrap (0 - (tget x0 (0 + j7 * 8 + j8 * 1))), tget x0 (0 + j10 * 8 + j11 * 1)⟩ : TSpan)
noncomputable def f31_b0 (x0 : TLandBook) (s15 : (List Int) × Int × (Tb 64)) : Option (((List Int) × Int × (Tb 64)) ⊕ ((List Int) × (Tb 64))) :=
 if (decide (s15.2.1 < (x0.Events.length : Int))) = true then ((f82 s15.2.2 7 s15.2.1).bind fun y22 => (app s15.1 [y22.Low]).bind fun y27 => some (.inl (y27, IntKind.i64.wrap (s15.2.1 + 1), s15.2.2))) else (some (.inr (s15.1, s15.2.2)))
noncomputable def f31 (x0 : TLandBook) : Option ((List Int) × Int) :=
 (f81 x0 true).bind fun y7 => if (y7.2 != 0) = true then (some ([], y7.2)) else ((lp (f31_b0 x0) ([], 0, y7.1)).bind fun q17 => some (q17.1, 0))
noncomputable def f86 (x0 : TLandBook) (x1 : Int) (x2 : Int) : Option Bool :=
 ((if (x1 != x2) = true then ((ix x0.People x1).bind fun y7 => some (y7.Mother == x2)) else (some false) : Option Bool)).bind fun q5 => if q5 = true then (some true) else (((if (x1 != x2) = true then ((ix x0.People x1).bind fun y14 => some (y14.Adopted == x2)) else (some false) : Option Bool)).bind fun q12 => if q12 = true then (some true) else (((if (x1 != x2) = true then ((ix x0.People x1).bind fun y21 => ((if (y21.Mother != (-1)) = true then ((ix x0.People x2).bind fun y25 => some (y21.Mother == y25.Mother)) else (some false) : Option Bool)).bind fun q23 => some q23) else (some false) : Option Bool)).bind fun q19 => if q19 = true then (some true) else (some false)))
noncomputable def f34_b1 (s17 : (List Int) × Int × (Tb 64)) (s34 : Int × Int × (Tb 64)) : Option ((Int × Int × (Tb 64)) ⊕ ((Int × (Tb 64)) ⊕ ((List Int) × Int × Int))) :=
 if (decide (s34.2.1 < (s17.1.length : Int))) = true then ((((ix s17.1 s34.2.1).bind fun y43 => (f82 s34.2.2 s17.2.1 y43).bind fun y45 => if (decide (0 < y45.Low)) = true then (some (.inl (if s34.2.1 < s34.1 then s34.2.1 else s34.1))) else ((f82 s34.2.2 y43 s17.2.1).bind fun y48 => if (decide (y48.Low ≤ 0)) = true then (some (.inr ([], 0, 8))) else (some (.inl s34.1))) : Option (Int ⊕ ((List Int) × Int × Int)))).bind fun q41 => Sum.elim (fun p42 : Int => some (.inl (p42, IntKind.i64.wrap (s34.2.1 + 1), s34.2.2))) (fun v53 : (List Int) × Int × Int => some (.inr (.inr v53))) q41) else (some (.inr (.inl (s34.1, s34.2.2))))
noncomputable def f34_b0 (x0 : TLandBook) (x1 : Int) (s17 : (List Int) × Int × (Tb 64)) : Option (((List Int) × Int × (Tb 64)) ⊕ (((List Int) × (Tb 64)) ⊕ ((List Int) × Int × Int))) :=
 if (decide (s17.2.1 < (x0.Events.length : Int))) = true then ((((ix x0.Events s17.2.1).bind fun y26 => if (y26.Strip != x1) = true then (some (.inl (s17.1, s17.2.2))) else ((lp (f34_b1 s17) ((s17.1.length : Int), 0, s17.2.2)).bind fun q36 => Sum.elim (fun p35 : Int × (Tb 64) => (insL s17.1 p35.1 s17.2.1).bind fun y59 => some (.inl (y59, p35.2))) (fun v63 : (List Int) × Int × Int => some (.inr v63)) q36) : Option (((List Int) × (Tb 64)) ⊕ ((List Int) × Int × Int)))).bind fun q24 => Sum.elim (fun p25 : (List Int) × (Tb 64) => some (.inl (p25.1, IntKind.i64.wrap (s17.2.1 + 1), p25.2))) (fun v66 : (List Int) × Int × Int => some (.inr (.inr v66))) q24) else (some (.inr (.inl (s17.1, s17.2.2))))
noncomputable def f34_b2 (p18 : (List Int) × (Tb 64)) (x0 : TLandBook) (s78 : Int × (Tb 64) × (List (Int × Bool))) : Option ((Int × (Tb 64) × (List (Int × Bool))) ⊕ (((Tb 64) × (List (Int × Bool))) ⊕ ((List Int) × Int × Int))) :=
 if (decide (s78.1 < (p18.1.length : Int))) = true then ((ix p18.1 s78.1).bind fun y85 => (ix x0.Events y85).bind fun y87 => (ix p18.1 (IntKind.i64.wrap (s78.1 - 1))).bind fun y89 => (ix x0.Events y89).bind fun y91 => (f86 x0 y87.Holder y91.Holder).bind fun y93 => if (!y93) = true then (some (.inr (.inr (p18.1, s78.1, 0)))) else (some (.inl (IntKind.i64.wrap (s78.1 + 1), s78.2.1, (s78.2.2))))) else (some (.inr (.inl (s78.2.1, (s78.2.2)))))
noncomputable def f34 (x0 : TLandBook) (x1 : Int) : Option ((List Int) × Int × Int) :=
 (f83 x1 0 5).bind fun y7 => (f81 x0 y7).bind fun y9 => if (y9.2 != 0) = true then (some ([], 0, y9.2)) else ((lp (f34_b0 x0 x1) ([], 0, y9.1)).bind fun q19 => Sum.elim (fun p18 : (List Int) × (Tb 64) => (lp (f34_b2 p18 x0) (1, p18.2, ([] : (List (Int × Bool))))).bind fun q80 => Sum.elim (fun p79 : (Tb 64) × (List (Int × Bool)) => some (p18.1, (-1), 0)) (fun v101 : (List Int) × Int × Int => some v101) q80) (fun v102 : (List Int) × Int × Int => some v102) q19)
noncomputable def f30 (x0 : (List TLandMemory)) : Option (List TLandMemory) :=
 (app [] x0).bind fun y3 => some y3
noncomputable def f108 (x0 : (List Int)) : Option (List Int) :=
 (app [] x0).bind fun y3 => some y3
noncomputable def f109 (x0 : (List TLensMonth)) : Option (List TLensMonth) :=
 (app [] x0).bind fun y3 => some y3
noncomputable def f110 (x0 : (List TLandPerson)) : Option (List TLandPerson) :=
 (app [] x0).bind fun y3 => some y3
noncomputable def f111 (x0 : (List TLandEvent)) : Option (List TLandEvent) :=
 (app [] x0).bind fun y3 => some y3
noncomputable def f112 (x0 : (List TReefPlace)) : Option (List TReefPlace) :=
 (app [] x0).bind fun y3 => some y3
noncomputable def f113 (x0 : (List TBaneTrip)) : Option (List TBaneTrip) :=
 (app [] x0).bind fun y3 => some y3
noncomputable def f114 (x0 : (List TSpan)) : Option (List TSpan) :=
 (app [] x0).bind fun y3 => some y3
noncomputable def f116 (x0 : (List TCellLoad)) : Option (List TCellLoad) :=
 (app [] x0).bind fun y3 => some y3
end Go.Proofs.YtncjnffbdhckdaaGreatDoor
