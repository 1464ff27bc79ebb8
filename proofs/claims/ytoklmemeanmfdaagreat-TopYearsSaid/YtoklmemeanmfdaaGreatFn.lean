/-
  What the Go functions compute, as plain functions (printed by a program of ours).
-/
import Derived.Test.YtoklmemeanmfdaaGreatBsC
namespace Go.Proofs.YtoklmemeanmfdaaGreat
open Go.RowKit
set_option linter.unusedVariables false

structure TSpan where
  Low : Int
  High : Int
structure TShipPass where
  Tides : (List Int)
  Depth : Int
  Draft : Int
  Swell : (List TSpan)
  Light : TSpan
structure TPass where
  ShipPass : TShipPass
  swell : Int
structure TShipCall where
  Day : Int
  Hour : Int
structure TSpot where
  day : Int
  left : Int
structure TLandMemory where
  From : Int
  To : Int
  Years : TSpan
structure TLandEvent where
  Strip : Int
  Holder : Int
structure TLandPerson where
  Mother : Int
  Adopted : Int
structure TLandBook where
  People : (List TLandPerson)
  Events : (List TLandEvent)
  Memories : (List TLandMemory)

noncomputable def f14 (x0 : Int) (x1 : Int) (x2 : Int) : Option Bool :=
  ((if (decide (x1 ≤ x0)) = true then (some (decide (x0 ≤ x2))) else (some false) : Option Bool)).bind fun q1 => some q1
noncomputable def f15 (x0 : TSpan) (x1 : Int) (x2 : Int) : Option Bool :=
  ((if (decide (x1 ≤ x0.Low)) = true then (if (decide (x0.Low ≤ x0.High)) = true then (some (decide (x0.High ≤ x2))) else (some false)) else (some false) : Option Bool)).bind fun q4 => some q4
noncomputable def f4_b0 (x0 : TShipPass) (s6 : Int) : Option (Int ⊕ (Unit ⊕ Bool)) :=
  if (decide (s6 < (x0.Tides.length : Int))) = true then ((ix x0.Tides s6).bind fun y13 => (f14 y13 (-1000) 1000).bind fun y15 => if (!y15) = true then (some (.inr (.inr false))) else (some (.inl (IntKind.i64.wrap (s6 + 1))))) else (some (.inr (.inl ())))
noncomputable def f4_b1 (x0 : TShipPass) (s20 : Int) : Option (Int ⊕ (Unit ⊕ Bool)) :=
  if (decide (s20 < (x0.Swell.length : Int))) = true then ((ix x0.Swell s20).bind fun y27 => (f15 y27 0 1000).bind fun y29 => if (!y29) = true then (some (.inr (.inr false))) else (some (.inl (IntKind.i64.wrap (s20 + 1))))) else (some (.inr (.inl ())))
noncomputable def f4 (x0 : TShipPass) : Option Bool :=
  (lp (f4_b0 x0) 0).bind fun q8 => Sum.elim (fun p7 : Unit => (lp (f4_b1 x0) 0).bind fun q22 => Sum.elim (fun p21 : Unit => (((f14 (x0.Tides.length : Int) 1 50).bind fun y35 => if y35 = true then ((f14 x0.Depth 0 1000).bind fun y38 => if y38 = true then ((f14 x0.Draft 0 1000).bind fun y41 => if y41 = true then ((f14 (x0.Swell.length : Int) 1 60).bind fun y44 => if y44 = true then ((f15 x0.Light 0 23).bind fun y47 => some y47) else (some false)) else (some false)) else (some false)) else (some false) : Option Bool)).bind fun q34 => some q34) (fun v51 : Bool => some v51) q22) (fun v52 : Bool => some v52) q8
noncomputable def f5 (x0 : TSpan) : Option Bool :=
  (f15 x0 1 60).bind fun y4 => some y4
noncomputable def f6 (x0 : Int) : Option Bool :=
  (f14 x0 1 8).bind fun y1 => some y1
noncomputable def f13_b0 (x0 : (List Int)) (x1 : (List Int)) (s4 : Int) : Option (Int ⊕ (Unit ⊕ Bool)) :=
  if (decide (s4 < (x0.length : Int))) = true then ((ix x0 s4).bind fun y11 => (ix x1 s4).bind fun y13 => if (y11 != y13) = true then (some (.inr (.inr false))) else (some (.inl (IntKind.i64.wrap (s4 + 1))))) else (some (.inr (.inl ())))
noncomputable def f13 (x0 : (List Int)) (x1 : (List Int)) : Option Bool :=
  if ((x0.length : Int) != (x1.length : Int)) = true then (some false) else ((lp (f13_b0 x0 x1) 0).bind fun q6 => Sum.elim (fun p5 : Unit => some true) (fun v18 : Bool => some v18) q6)
noncomputable def f68_b0 (x0 : (List Int)) (x1 : (Int → Option Bool)) (s3 : Int) : Option (Int ⊕ (Unit ⊕ Int)) :=
  if (decide (s3 < (x0.length : Int))) = true then ((ix x0 s3).bind fun y10 => (x1 y10).bind fun y12 => if y12 = true then (some (.inr (.inr s3))) else (some (.inl (IntKind.i64.wrap (s3 + 1))))) else (some (.inr (.inl ())))
noncomputable def f68 (x0 : (List Int)) (x1 : (Int → Option Bool)) : Option Int :=
  (lp (f68_b0 x0 x1) 0).bind fun q5 => Sum.elim (fun p4 : Unit => some (-1)) (fun v17 : Int => some v17) q5
noncomputable def f34 (x0 : (List Int)) (x1 : (Int → Option Bool)) : Option Bool :=
  (f68 x0 x1).bind fun y3 => some (decide (0 ≤ y3))
noncomputable def f7 : Option Bool := some true
noncomputable def f27 (x0 : TSpan) (x1 : Int) (x2 : Int) : Option Bool :=
  ((if (decide (x1 ≤ x0.Low)) = true then (if (decide (x0.Low ≤ x0.High)) = true then (some (decide (x0.High ≤ x2))) else (some false)) else (some false) : Option Bool)).bind fun q4 => some q4
noncomputable def f28 (x0 : Int) (x1 : Int) (x2 : Int) : Option Bool :=
  ((if (decide (x1 ≤ x0)) = true then (some (decide (x0 ≤ x2))) else (some false) : Option Bool)).bind fun q1 => some q1
noncomputable def f58 (x0 : Int) : Option Bool :=
  (f28 x0 (-1000) 1000).bind fun y1 => some (!y1)
noncomputable def f101_b0 (x0 : (List TSpan)) (x1 : (TSpan → Option Bool)) (s3 : Int) : Option (Int ⊕ (Unit ⊕ Int)) :=
  if (decide (s3 < (x0.length : Int))) = true then ((ix x0 s3).bind fun y10 => (x1 y10).bind fun y12 => if y12 = true then (some (.inr (.inr s3))) else (some (.inl (IntKind.i64.wrap (s3 + 1))))) else (some (.inr (.inl ())))
noncomputable def f101 (x0 : (List TSpan)) (x1 : (TSpan → Option Bool)) : Option Int :=
  (lp (f101_b0 x0 x1) 0).bind fun q5 => Sum.elim (fun p4 : Unit => some (-1)) (fun v17 : Int => some v17) q5
noncomputable def f59 (x0 : (List TSpan)) (x1 : (TSpan → Option Bool)) : Option Bool :=
  (f101 x0 x1).bind fun y3 => some (decide (0 ≤ y3))
noncomputable def f60 (x0 : TSpan) : Option Bool :=
  (f27 x0 0 1000).bind fun y4 => some (!y4)
noncomputable def f26 (x0 : TShipPass) : Option Bool :=
  (((f28 (x0.Tides.length : Int) 1 50).bind fun y7 => if y7 = true then ((f28 (x0.Swell.length : Int) 1 60).bind fun y10 => if y10 = true then ((f28 x0.Depth 0 1000).bind fun y13 => if y13 = true then ((f28 x0.Draft 0 1000).bind fun y16 => if y16 = true then ((f27 x0.Light 0 23).bind fun y19 => if y19 = true then ((f34 x0.Tides (fun (z0 : Int) => f58 z0)).bind fun y23 => if (!y23) = true then ((f59 x0.Swell (fun (z0 : TSpan) => f60 z0)).bind fun y27 => some (!y27)) else (some false)) else (some false)) else (some false)) else (some false)) else (some false)) else (some false) : Option Bool)).bind fun q6 => some q6
noncomputable def f135 (x0 : TPass) (x1 : TShipCall) : Option Bool :=
  (f28 x1.Hour x0.ShipPass.Light.Low x0.ShipPass.Light.High).bind fun y9 => some y9
noncomputable def f136 (x0 : TPass) (x1 : TShipCall) : Option Bool :=
  (remI (IntKind.i64.wrap ((IntKind.i64.wrap (x1.Day * 24)) + x1.Hour)) (x0.ShipPass.Tides.length : Int)).bind fun y9 => (ix x0.ShipPass.Tides y9).bind fun y10 => some (decide (x0.ShipPass.Draft ≤ (IntKind.i64.wrap ((IntKind.i64.wrap (x0.ShipPass.Depth + y10)) - x0.swell))))
noncomputable def f102 (x0 : TPass) (x1 : TShipCall) : Option Bool :=
  ((fun (z0 : TShipCall) => f135 x0 z0) x1).bind fun y11 => if (!y11) = true then (some false) else (((fun (z0 : TShipCall) => f136 x0 z0) x1).bind fun y14 => if (!y14) = true then (some false) else (some true))
noncomputable def f62 (x0 : TShipPass) (x1 : TShipCall) : Option Bool :=
  (ix x0.Swell x1.Day).bind fun y9 => (f102 (⟨x0, y9.High⟩ : TPass) x1).bind fun y11 => some y11
/-- All calls from some call on, in which a ship surely can go through. -/
def nextC (c : TShipCall) : TShipCall := if (IntKind.i64.wrap (c.Hour + 1) == 24) = true then ⟨IntKind.i64.wrap (c.Day + 1), 0⟩ else ⟨c.Day, IntKind.i64.wrap (c.Hour + 1)⟩
def callsF (sure : TShipCall → Option Bool) (n : Nat) : Nat → TShipCall → Option (List TShipCall)
  | 0, _ => none
  | k + 1, c => if c.Day < (n : Int) then (sure c).bind fun s => (callsF sure n k (nextC c)).bind fun l => some (if s = true then c :: l else l) else some []
def callsL (sure : TShipCall → Option Bool) (n : Nat) (c : TShipCall) : Option (List TShipCall) := callsF sure n (24 * n + 1) c
def encC (y : TShipCall) : List Value := [.agg #[.int .i64 y.Day, .int .i64 y.Hour]]

noncomputable def f29_b1 (rec : TSpot → (List ((Int × Int) × Bool)) → (List TShipCall) → Option (Bool × (List ((Int × Int) × Bool)) × (List TShipCall))) (x0 : TSpot) (y39 : TShipCall) (s38 : Int × Bool × (List TShipCall) × (List ((Int × Int) × Bool))) : Option ((Int × Bool × (List TShipCall) × (List ((Int × Int) × Bool))) ⊕ ((Int × Bool × (List TShipCall) × (List ((Int × Int) × Bool))) ⊕ (Int × Bool × (List TShipCall) × (List ((Int × Int) × Bool))))) :=
  if (y39.Day != s38.1) = true then (some (.inr (.inl (s38.1, s38.2.1, s38.2.2.1, (s38.2.2.2))))) else ((app s38.2.2.1 [y39]).bind fun y55 => (rec (⟨s38.1, IntKind.i64.wrap (x0.left - 1)⟩ : TSpot) (s38.2.2.2) y55).bind fun y58 => if y58.1 = true then (some (.inr (.inr (s38.1, true, y58.2.2, (y58.2.1))))) else ((subL y58.2.2 0 (IntKind.i64.wrap ((y58.2.2.length : Int) - 1))).bind fun y64 => some (.inr (.inl (s38.1, s38.2.1, y64, (y58.2.1))))))
noncomputable def f29_b0 (rec : TSpot → (List ((Int × Int) × Bool)) → (List TShipCall) → Option (Bool × (List ((Int × Int) × Bool)) × (List TShipCall))) (x0 : TSpot) (x2 : TSpan) (x3 : TShipPass) (s20 : Int × Bool × (List TShipCall) × (List ((Int × Int) × Bool))) : Option ((Int × Bool × (List TShipCall) × (List ((Int × Int) × Bool))) ⊕ ((Bool × (List TShipCall) × (List ((Int × Int) × Bool))) ⊕ (Bool × (List ((Int × Int) × Bool)) × (List TShipCall)))) :=
  if (decide (s20.1 ≤ (IntKind.i64.wrap (x0.day + x2.High)))) = true then (((if (decide ((x3.Swell.length : Int) ≤ s20.1)) = true then (some (.inr (.inl (s20.2.1, s20.2.2.1, (s20.2.2.2))))) else ((callsL (f62 x3) x3.Swell.length (⟨s20.1, 0⟩ : TShipCall)).bind fun y36 => (rg (f29_b1 rec x0) y36 (s20.1, s20.2.1, s20.2.2.1, (s20.2.2.2))).bind fun q40 => Sum.elim (fun s38 : Int × Bool × (List TShipCall) × (List ((Int × Int) × Bool)) => some (.inl (s38.1, s38.2.1, s38.2.2.1, (s38.2.2.2)))) (fun z73 => Sum.elim (fun s38 : Int × Bool × (List TShipCall) × (List ((Int × Int) × Bool)) => some (.inl (s38.1, s38.2.1, s38.2.2.1, (s38.2.2.2)))) (fun s38 : Int × Bool × (List TShipCall) × (List ((Int × Int) × Bool)) => some (.inr (.inr (s38.2.1, (s38.2.2.2), s38.2.2.1)))) z73) q40) : Option ((Int × Bool × (List TShipCall) × (List ((Int × Int) × Bool))) ⊕ ((Bool × (List TShipCall) × (List ((Int × Int) × Bool))) ⊕ (Bool × (List ((Int × Int) × Bool)) × (List TShipCall)))))).bind fun q27 => Sum.elim (fun p28 : Int × Bool × (List TShipCall) × (List ((Int × Int) × Bool)) => some (.inl (IntKind.i64.wrap (p28.1 + 1), p28.2.1, p28.2.2.1, (p28.2.2.2)))) (fun z82 => Sum.elim (fun v81 : Bool × (List TShipCall) × (List ((Int × Int) × Bool)) => some (.inr (.inl v81))) (fun v83 : Bool × (List ((Int × Int) × Bool)) × (List TShipCall) => some (.inr (.inr v83))) z82) q27) else (some (.inr (.inl (s20.2.1, s20.2.2.1, (s20.2.2.2)))))
noncomputable def f29_F (x2 : TSpan) (x3 : TShipPass) (rec : TSpot → (List ((Int × Int) × Bool)) → (List TShipCall) → Option (Bool × (List ((Int × Int) × Bool)) × (List TShipCall))) (x0 : TSpot) (m1 : (List ((Int × Int) × Bool))) (m4 : (List TShipCall)) : Option (Bool × (List ((Int × Int) × Bool)) × (List TShipCall)) :=
  if (x0.left == 0) = true then (some (true, (m1), m4)) else (if ((lookM (m1) (x0.day, x0.left)).getD false) = true then (some (false, (m1), m4)) else ((lp (f29_b0 rec x0 x2 x3) (IntKind.i64.wrap (x0.day + x2.Low), false, m4, (m1))).bind fun q22 => Sum.elim (fun p21 : Bool × (List TShipCall) × (List ((Int × Int) × Bool)) => some (false, (updM (p21.2.2) (x0.day, x0.left) true), p21.2.1)) (fun v88 : Bool × (List ((Int × Int) × Bool)) × (List TShipCall) => some v88) q22))
noncomputable def f29 (x2 : TSpan) (x3 : TShipPass) : Nat → TSpot → (List ((Int × Int) × Bool)) → (List TShipCall) → Option (Bool × (List ((Int × Int) × Bool)) × (List TShipCall))
  | 0 => fun _ _ _ => none
  | n + 1 => fun x0 m1 m4 => f29_F x2 x3 (f29 x2 x3 n) x0 m1 m4
noncomputable def f8 (x0 : TShipPass) (x1 : TSpan) (x2 : Int) : Option ((List TShipCall) × Int) :=
  (((f26 x0).bind fun y10 => if (!y10) = true then (some true) else ((f27 x1 1 60).bind fun y13 => if (!y13) = true then (some true) else ((f28 x2 1 8).bind fun y16 => some (!y16))) : Option Bool)).bind fun q9 => if q9 = true then (some ([], 2)) else ((f29 x1 x0 (x2.toNat + 1) (⟨0, x2⟩ : TSpot) ([] : (List ((Int × Int) × Bool))) []).bind fun y38 => if (!y38.1) = true then (some ([], 5)) else (some (y38.2.2, 0)))
noncomputable def f63 (x0 : TShipPass) (x1 : Int) : Option Bool :=
  (f14 x1 0 (IntKind.i64.wrap ((x0.Swell.length : Int) - 1))).bind fun y6 => some y6
noncomputable def f31 (x0 : TShipPass) (x1 : TShipCall) : Option Bool :=
  (((f63 x0 x1.Day).bind fun y10 => if y10 = true then ((f14 x1.Hour 0 23).bind fun y13 => some y13) else (some false) : Option Bool)).bind fun q9 => some q9
noncomputable def f64 (x0 : TShipPass) (x1 : TShipCall) (x2 : Int) : Option Bool :=
  (remI (IntKind.i64.wrap ((IntKind.i64.wrap (x1.Day * 24)) + x1.Hour)) (x0.Tides.length : Int)).bind fun y9 => (ix x0.Tides y9).bind fun y10 => (((f14 x1.Hour x0.Light.Low x0.Light.High).bind fun y13 => if y13 = true then (some (decide (x0.Draft ≤ (IntKind.i64.wrap ((IntKind.i64.wrap (x0.Depth + y10)) - x2))))) else (some false) : Option Bool)).bind fun q12 => some q12
noncomputable def f32 (x0 : TShipPass) (x1 : TShipCall) : Option Bool :=
  (ix x0.Swell x1.Day).bind fun y9 => (f64 x0 x1 y9.High).bind fun y11 => some y11
noncomputable def f9_b0 (x0 : TShipPass) (x1 : TSpan) (x3 : (List TShipCall)) (s10 : Int × Int) : Option ((Int × Int) ⊕ (Unit ⊕ Bool)) :=
  if (decide (s10.2 < (x3.length : Int))) = true then ((((ix x3 s10.2).bind fun y18 => (f31 x0 y18).bind fun y20 => if (!y20) = true then (some true) else ((f32 x0 y18).bind fun y24 => if (!y24) = true then (some true) else ((f14 (IntKind.i64.wrap (y18.Day - s10.1)) x1.Low x1.High).bind fun y28 => some (!y28))) : Option Bool)).bind fun q17 => if q17 = true then (some (.inr (.inr false))) else ((ix x3 s10.2).bind fun y33 => some (.inl (y33.Day, IntKind.i64.wrap (s10.2 + 1))))) else (some (.inr (.inl ())))
noncomputable def f9 (x0 : TShipPass) (x1 : TSpan) (x2 : Int) (x3 : (List TShipCall)) : Option Bool :=
  (lp (f9_b0 x0 x1 x3) (0, 0)).bind fun q12 => Sum.elim (fun p11 : Unit => some ((x3.length : Int) == x2)) (fun v37 : Bool => some v37) q12
noncomputable def f36 (x0 : Int) (x1 : Int) (x2 : Int) : Option Bool :=
  ((if (decide (x1 ≤ x0)) = true then (some (decide (x0 ≤ x2))) else (some false) : Option Bool)).bind fun q1 => some q1
noncomputable def f69_b0 (x0 : (List TLandMemory)) (x1 : (TLandMemory → Option Bool)) (s3 : Int) : Option (Int ⊕ (Unit ⊕ Int)) :=
  if (decide (s3 < (x0.length : Int))) = true then ((ix x0 s3).bind fun y10 => (x1 y10).bind fun y12 => if y12 = true then (some (.inr (.inr s3))) else (some (.inl (IntKind.i64.wrap (s3 + 1))))) else (some (.inr (.inl ())))
noncomputable def f69 (x0 : (List TLandMemory)) (x1 : (TLandMemory → Option Bool)) : Option Int :=
  (lp (f69_b0 x0 x1) 0).bind fun q5 => Sum.elim (fun p4 : Unit => some (-1)) (fun v17 : Int => some v17) q5
noncomputable def f37 (x0 : (List TLandMemory)) (x1 : (TLandMemory → Option Bool)) : Option Bool :=
  (f69 x0 x1).bind fun y3 => some (decide (0 ≤ y3))
noncomputable def f103_b0 (x0 : (List TLandEvent)) (x1 : (TLandEvent → Option Bool)) (s3 : Int) : Option (Int ⊕ (Unit ⊕ Int)) :=
  if (decide (s3 < (x0.length : Int))) = true then ((ix x0 s3).bind fun y10 => (x1 y10).bind fun y12 => if y12 = true then (some (.inr (.inr s3))) else (some (.inl (IntKind.i64.wrap (s3 + 1))))) else (some (.inr (.inl ())))
noncomputable def f103 (x0 : (List TLandEvent)) (x1 : (TLandEvent → Option Bool)) : Option Int :=
  (lp (f103_b0 x0 x1) 0).bind fun q5 => Sum.elim (fun p4 : Unit => some (-1)) (fun v17 : Int => some v17) q5
noncomputable def f65 (x0 : (List TLandEvent)) (x1 : (TLandEvent → Option Bool)) : Option Bool :=
  (f103 x0 x1).bind fun y3 => some (decide (0 ≤ y3))
noncomputable def f66 (x0 : TLandEvent) (x1 : TLandBook) : Option Bool :=
  (((f36 x0.Strip 0 5).bind fun y8 => if (!y8) = true then (some true) else ((f36 x0.Holder 0 (IntKind.i64.wrap ((x1.People.length : Int) - 1))).bind fun y11 => some (!y11)) : Option Bool)).bind fun q7 => some q7
noncomputable def f67 (x0 : TLandMemory) (x1 : TLandBook) : Option Bool :=
  (((f36 x0.From 0 (IntKind.i64.wrap ((x1.Events.length : Int) - 1))).bind fun y8 => if (!y8) = true then (some true) else ((f36 x0.To 0 (IntKind.i64.wrap ((x1.Events.length : Int) - 1))).bind fun y11 => if (!y11) = true then (some true) else (if (x0.From == x0.To) = true then (some true) else (if (decide (x0.Years.Low < (-1000))) = true then (some true) else (if (decide (x0.Years.High < x0.Years.Low)) = true then (some true) else (some (decide (1000 < x0.Years.High))))))) : Option Bool)).bind fun q7 => some q7
noncomputable def f33_b0 (x0 : TLandBook) (s7 : Int) : Option (Int ⊕ (Unit ⊕ Bool)) :=
  if (decide (s7 < (x0.People.length : Int))) = true then ((ix x0.People s7).bind fun y14 => (((f36 y14.Mother (-1) (IntKind.i64.wrap (s7 - 1))).bind fun y22 => if (!y22) = true then (some true) else ((f36 y14.Adopted (-1) (IntKind.i64.wrap (s7 - 1))).bind fun y25 => some (!y25)) : Option Bool)).bind fun q21 => if q21 = true then (some (.inr (.inr false))) else (some (.inl (IntKind.i64.wrap (s7 + 1))))) else (some (.inr (.inl ())))
noncomputable def f33 (x0 : TLandBook) : Option Bool :=
  (lp (f33_b0 x0) 0).bind fun q9 => Sum.elim (fun p8 : Unit => (((f36 (x0.People.length : Int) 1 10).bind fun y33 => if y33 = true then ((f36 (x0.Events.length : Int) 1 7).bind fun y36 => if y36 = true then (if (decide ((x0.Memories.length : Int) ≤ 10)) = true then ((f65 x0.Events (fun (z0 : TLandEvent) => f66 z0 x0)).bind fun y41 => if (!y41) = true then ((f37 x0.Memories (fun (z0 : TLandMemory) => f67 z0 x0)).bind fun y45 => some (!y45)) else (some false)) else (some false)) else (some false)) else (some false) : Option Bool)).bind fun q32 => some q32) (fun v49 : Bool => some v49) q9
noncomputable def f35 (x0 : Int) : Option Bool :=
  (f36 x0 0 1000).bind fun y1 => some (!y1)
noncomputable def f38 (x0 : TLandMemory) (x1 : (List Int)) : Option Bool :=
  (ix x1 x0.To).bind fun y5 => (ix x1 x0.From).bind fun y7 => (f36 (IntKind.i64.wrap (y5 - y7)) x0.Years.Low x0.Years.High).bind fun y9 => some (!y9)
noncomputable def f10 (x0 : TLandBook) (x1 : (List Int)) : Option (Bool × Int) :=
  (((f33 x0).bind fun y12 => if (!y12) = true then (some true) else (if ((x1.length : Int) != (x0.Events.length : Int)) = true then (some true) else ((f34 x1 (fun (z0 : Int) => f35 z0)).bind fun y17 => some y17)) : Option Bool)).bind fun q11 => if q11 = true then (some (false, 2)) else ((f37 x0.Memories (fun (z0 : TLandMemory) => f38 z0 x1)).bind fun y23 => some (!y23, 0))
noncomputable def f105 (x0 : Int) (x1 : Int) : Option Bool :=
  (shrI .i64 x0 x1).bind fun y1 => some ((andI .i64 y1 1) == 1)
noncomputable def f70_b1 (s11 : Int × (Tb 64) × (Tb 64)) (s18 : Int × (Tb 64) × (Tb 64)) : Option ((Int × (Tb 64) × (Tb 64)) ⊕ ((Tb 64) × (Tb 64))) :=
  if (decide (s18.1 < 8)) = true then (((if (s11.1 != s18.1) = true then ((ckI s11.1 8).bind fun j27 => (ckI s18.1 8).bind fun j28 => some (tset s18.2.1 (0 + j27 * 8 + j28 * 1) 2000)) else (some s18.2.1) : Option (Tb 64))).bind fun q25 => some (.inl (IntKind.i64.wrap (s18.1 + 1), q25, s18.2.2))) else (some (.inr (s18.2.1, s18.2.2)))
noncomputable def f70_b0 (s11 : Int × (Tb 64) × (Tb 64)) : Option ((Int × (Tb 64) × (Tb 64)) ⊕ ((Tb 64) × (Tb 64))) :=
  if (decide (s11.1 < 8)) = true then ((lp (f70_b1 s11) (0, s11.2.1, s11.2.2)).bind fun q20 => some (.inl (IntKind.i64.wrap (s11.1 + 1), q20.1, q20.2))) else (some (.inr (s11.2.1, s11.2.2)))
noncomputable def f70_b2 (x0 : TLandBook) (s37 : Int × (Tb 64) × (Tb 64)) : Option ((Int × (Tb 64) × (Tb 64)) ⊕ ((Tb 64) × (Tb 64))) :=
  if (decide (s37.1 < (x0.Events.length : Int))) = true then ((((((ckI s37.1 8).bind fun j46 => if (decide ((tget s37.2.1 (0 + 7 * 8 + j46 * 1)) ≤ 1000)) = true then (some s37.2.1) else ((ckI s37.1 8).bind fun j49 => some (tset s37.2.1 (0 + 7 * 8 + j49 * 1) 1000)) : Option (Tb 64))).bind fun q45 => (ckI s37.1 8).bind fun j54 => if (decide ((tget q45 (0 + j54 * 8 + 7 * 1)) ≤ 0)) = true then (some q45) else ((ckI s37.1 8).bind fun j57 => some (tset q45 (0 + j57 * 8 + 7 * 1) 0)) : Option (Tb 64))).bind fun q44 => some (.inl (IntKind.i64.wrap (s37.1 + 1), q44, s37.2.2))) else (some (.inr (s37.2.1, s37.2.2)))
noncomputable def f70_b3 (x0 : TLandBook) (x1 : Int) (s64 : Int × (Tb 64) × (Tb 64)) : Option ((Int × (Tb 64) × (Tb 64)) ⊕ ((Tb 64) × (Tb 64))) :=
  if (decide (s64.1 < (x0.Memories.length : Int))) = true then ((((ix x0.Memories s64.1).bind fun y72 => (f105 x1 s64.1).bind fun y79 => if y79 = true then ((((ckI y72.From 8).bind fun j83 => (ckI y72.To 8).bind fun j84 => if (decide ((tget s64.2.1 (0 + j83 * 8 + j84 * 1)) ≤ y72.Years.High)) = true then (some s64.2.1) else ((ckI y72.From 8).bind fun j87 => (ckI y72.To 8).bind fun j88 => some (tset s64.2.1 (0 + j87 * 8 + j88 * 1) y72.Years.High)) : Option (Tb 64))).bind fun q82 => (ckI y72.To 8).bind fun j93 => (ckI y72.From 8).bind fun j94 => if (decide ((tget q82 (0 + j93 * 8 + j94 * 1)) ≤ (IntKind.i64.wrap (0 - y72.Years.Low)))) = true then (some q82) else ((ckI y72.To 8).bind fun j97 => (ckI y72.From 8).bind fun j98 => some (tset q82 (0 + j97 * 8 + j98 * 1) (IntKind.i64.wrap (0 - y72.Years.Low))))) else (some s64.2.1) : Option (Tb 64))).bind fun q71 => some (.inl (IntKind.i64.wrap (s64.1 + 1), q71, s64.2.2))) else (some (.inr (s64.2.1, s64.2.2)))
noncomputable def f70_b4 (x0 : TLandBook) (s109 : (List Int) × Int × (Tb 64) × (Tb 64)) : Option (((List Int) × Int × (Tb 64) × (Tb 64)) ⊕ ((List Int) × (Tb 64) × (Tb 64))) :=
  if (decide (s109.2.1 < (x0.Events.length : Int))) = true then ((app s109.1 [s109.2.1]).bind fun y119 => some (.inl (y119, IntKind.i64.wrap (s109.2.1 + 1), s109.2.2.1, s109.2.2.2))) else (some (.inr (s109.1, s109.2.2.1, s109.2.2.2)))
noncomputable def f70_b8 (y126 : (List Int)) (y142 : Int) (y151 : Int) (s153 : Bool × Int × (Tb 64) × (Tb 64)) : Option ((Bool × Int × (Tb 64) × (Tb 64)) ⊕ (Bool × (Tb 64) × (Tb 64))) :=
  if (decide (s153.2.1 < (y126.length : Int))) = true then ((((ix y126 s153.2.1).bind fun y161 => (((ckI y151 8).bind fun j164 => (ckI y142 8).bind fun j165 => (ckI y142 8).bind fun j167 => (ckI y161 8).bind fun j168 => (ckI y151 8).bind fun j170 => (ckI y161 8).bind fun j171 => if (decide ((tget s153.2.2.1 (0 + j170 * 8 + j171 * 1)) ≤ (IntKind.i64.wrap ((tget s153.2.2.1 (0 + j164 * 8 + j165 * 1)) + (tget s153.2.2.1 (0 + j167 * 8 + j168 * 1)))))) = true then (some (false, s153.2.2.1)) else ((ckI y151 8).bind fun j174 => (ckI y161 8).bind fun j175 => some (true, tset s153.2.2.1 (0 + j174 * 8 + j175 * 1) (IntKind.i64.wrap ((tget s153.2.2.1 (0 + j164 * 8 + j165 * 1)) + (tget s153.2.2.1 (0 + j167 * 8 + j168 * 1)))))) : Option (Bool × (Tb 64)))).bind fun q163 => if q163.1 = true then (some (true, q163.2)) else (some (s153.1, q163.2)) : Option (Bool × (Tb 64)))).bind fun q160 => some (.inl (q160.1, IntKind.i64.wrap (s153.2.1 + 1), q160.2, s153.2.2.2))) else (some (.inr (s153.1, s153.2.2.1, s153.2.2.2)))
noncomputable def f70_b7 (y126 : (List Int)) (y142 : Int) (s144 : Bool × Int × (Tb 64) × (Tb 64)) : Option ((Bool × Int × (Tb 64) × (Tb 64)) ⊕ (Bool × (Tb 64) × (Tb 64))) :=
  if (decide (s144.2.1 < (y126.length : Int))) = true then ((ix y126 s144.2.1).bind fun y151 => (lp (f70_b8 y126 y142 y151) (s144.1, 0, s144.2.2.1, s144.2.2.2)).bind fun q155 => some (.inl (q155.1, IntKind.i64.wrap (s144.2.1 + 1), q155.2.1, q155.2.2))) else (some (.inr (s144.1, s144.2.2.1, s144.2.2.2)))
noncomputable def f70_b6 (y126 : (List Int)) (s135 : Bool × Int × (Tb 64) × (Tb 64)) : Option ((Bool × Int × (Tb 64) × (Tb 64)) ⊕ (Bool × (Tb 64) × (Tb 64))) :=
  if (decide (s135.2.1 < (y126.length : Int))) = true then ((ix y126 s135.2.1).bind fun y142 => (lp (f70_b7 y126 y142) (s135.1, 0, s135.2.2.1, s135.2.2.2)).bind fun q146 => some (.inl (q146.1, IntKind.i64.wrap (s135.2.1 + 1), q146.2.1, q146.2.2))) else (some (.inr (s135.1, s135.2.2.1, s135.2.2.2)))
noncomputable def f70_b9 (q137 : Bool × (Tb 64) × (Tb 64)) (y126 : (List Int)) (s189 : Int) : Option (Int ⊕ (Unit ⊕ ((Tb 64) × Bool))) :=
  if (decide (s189 < (y126.length : Int))) = true then ((ix y126 s189).bind fun y196 => (ckI y196 8).bind fun j198 => (ckI y196 8).bind fun j199 => if (decide ((tget q137.2.1 (0 + j198 * 8 + j199 * 1)) < 0)) = true then (some (.inr (.inr (Tb.zero 64, false)))) else (some (.inl (IntKind.i64.wrap (s189 + 1))))) else (some (.inr (.inl ())))
noncomputable def f70_b5 (x0 : TLandBook) (y126 : (List Int)) (s128 : Int × (Tb 64) × (Tb 64)) : Option ((Int × (Tb 64) × (Tb 64)) ⊕ (((Tb 64) × (Tb 64)) ⊕ ((Tb 64) × Bool))) :=
  if (decide (s128.1 < (IntKind.i64.wrap ((IntKind.i64.wrap ((x0.Events.length : Int) + 1)) + 1)))) = true then ((lp (f70_b6 y126) (false, 0, s128.2.1, s128.2.2)).bind fun q137 => (lp (f70_b9 q137 y126) 0).bind fun q191 => Sum.elim (fun p190 : Unit => if (!q137.1) = true then (some (.inr (.inl (q137.2.1, q137.2.2)))) else (some (.inl (IntKind.i64.wrap (s128.1 + 1), q137.2.1, q137.2.2)))) (fun v206 : (Tb 64) × Bool => some (.inr (.inr v206))) q191) else (some (.inr (.inl (s128.2.1, s128.2.2))))
noncomputable def f70 (x0 : TLandBook) (x1 : Int) : Option ((Tb 64) × Bool) :=
  (lp f70_b0 (0, Tb.zero 64, Tb.zero 64)).bind fun q13 => (lp (f70_b2 x0) (0, q13.1, q13.2)).bind fun q39 => (lp (f70_b3 x0 x1) (0, q39.1, q39.2)).bind fun q66 => (mk0 (IntKind.i64.wrap ((x0.Events.length : Int) + 1))).bind fun _ => (lp (f70_b4 x0) ([], 0, q66.1, q66.2)).bind fun q111 => (app q111.1 [7]).bind fun y126 => (lp (f70_b5 x0 y126) (0, q111.2.1, q111.2.2)).bind fun q130 => Sum.elim (fun p129 : (Tb 64) × (Tb 64) => some (p129.1, true)) (fun v210 : (Tb 64) × Bool => some v210) q130
noncomputable def f71 (x0 : TLandBook) : Option Int :=
  (shlI .i64 1 (x0.Memories.length : Int)).bind fun y5 => some (IntKind.i64.wrap (y5 - 1))
noncomputable def f39 (x0 : TLandBook) (x1 : Bool) : Option ((Tb 64) × Int) :=
  (((f33 x0).bind fun y11 => if (!y11) = true then (some true) else (some (!x1)) : Option Bool)).bind fun q10 => if q10 = true then (some (Tb.zero 64, 2)) else ((f71 x0).bind fun y36 => (f70 x0 y36).bind fun y39 => if (!y39.2) = true then (some (Tb.zero 64, 7)) else (some (y39.1, 0)))
noncomputable def f40 (x0 : (Tb 64)) (x1 : Int) (x2 : Int) : Option TSpan :=
  (ckI x2 8).bind fun j7 => (ckI x1 8).bind fun j8 => (ckI x1 8).bind fun j10 => (ckI x2 8).bind fun j11 => some (⟨IntKind.i64.wrap (0 - (tget x0 (0 + j7 * 8 + j8 * 1))), tget x0 (0 + j10 * 8 + j11 * 1)⟩ : TSpan)
noncomputable def f11_b0 (x0 : TLandBook) (s15 : (List Int) × Int × (Tb 64)) : Option (((List Int) × Int × (Tb 64)) ⊕ ((List Int) × (Tb 64))) :=
  if (decide (s15.2.1 < (x0.Events.length : Int))) = true then ((f40 s15.2.2 7 s15.2.1).bind fun y22 => (app s15.1 [y22.Low]).bind fun y27 => some (.inl (y27, IntKind.i64.wrap (s15.2.1 + 1), s15.2.2))) else (some (.inr (s15.1, s15.2.2)))
noncomputable def f11 (x0 : TLandBook) : Option ((List Int) × Int) :=
  (f39 x0 true).bind fun y7 => if (y7.2 != 0) = true then (some ([], y7.2)) else ((lp (f11_b0 x0) ([], 0, y7.1)).bind fun q17 => some (q17.1, 0))
noncomputable def f43 (x0 : TLandBook) (x1 : Int) (x2 : Int) : Option Bool :=
  ((if (x1 != x2) = true then ((ix x0.People x1).bind fun y7 => some (y7.Mother == x2)) else (some false) : Option Bool)).bind fun q5 => if q5 = true then (some true) else (((if (x1 != x2) = true then ((ix x0.People x1).bind fun y14 => some (y14.Adopted == x2)) else (some false) : Option Bool)).bind fun q12 => if q12 = true then (some true) else (((if (x1 != x2) = true then ((ix x0.People x1).bind fun y21 => ((if (y21.Mother != (-1)) = true then ((ix x0.People x2).bind fun y25 => some (y21.Mother == y25.Mother)) else (some false) : Option Bool)).bind fun q23 => some q23) else (some false) : Option Bool)).bind fun q19 => if q19 = true then (some true) else (some false)))
noncomputable def f12_b1 (s17 : (List Int) × Int × (Tb 64)) (s34 : Int × Int × (Tb 64)) : Option ((Int × Int × (Tb 64)) ⊕ ((Int × (Tb 64)) ⊕ ((List Int) × Int × Int))) :=
  if (decide (s34.2.1 < (s17.1.length : Int))) = true then ((((ix s17.1 s34.2.1).bind fun y43 => (f40 s34.2.2 s17.2.1 y43).bind fun y45 => if (decide (0 < y45.Low)) = true then (some (.inl (if s34.2.1 < s34.1 then s34.2.1 else s34.1))) else ((f40 s34.2.2 y43 s17.2.1).bind fun y48 => if (decide (y48.Low ≤ 0)) = true then (some (.inr ([], 0, 8))) else (some (.inl s34.1))) : Option (Int ⊕ ((List Int) × Int × Int)))).bind fun q41 => Sum.elim (fun p42 : Int => some (.inl (p42, IntKind.i64.wrap (s34.2.1 + 1), s34.2.2))) (fun v53 : (List Int) × Int × Int => some (.inr (.inr v53))) q41) else (some (.inr (.inl (s34.1, s34.2.2))))
noncomputable def f12_b0 (x0 : TLandBook) (x1 : Int) (s17 : (List Int) × Int × (Tb 64)) : Option (((List Int) × Int × (Tb 64)) ⊕ (((List Int) × (Tb 64)) ⊕ ((List Int) × Int × Int))) :=
  if (decide (s17.2.1 < (x0.Events.length : Int))) = true then ((((ix x0.Events s17.2.1).bind fun y26 => if (y26.Strip != x1) = true then (some (.inl (s17.1, s17.2.2))) else ((lp (f12_b1 s17) ((s17.1.length : Int), 0, s17.2.2)).bind fun q36 => Sum.elim (fun p35 : Int × (Tb 64) => (insL s17.1 p35.1 s17.2.1).bind fun y59 => some (.inl (y59, p35.2))) (fun v63 : (List Int) × Int × Int => some (.inr v63)) q36) : Option (((List Int) × (Tb 64)) ⊕ ((List Int) × Int × Int)))).bind fun q24 => Sum.elim (fun p25 : (List Int) × (Tb 64) => some (.inl (p25.1, IntKind.i64.wrap (s17.2.1 + 1), p25.2))) (fun v66 : (List Int) × Int × Int => some (.inr (.inr v66))) q24) else (some (.inr (.inl (s17.1, s17.2.2))))
noncomputable def f12_b2 (p18 : (List Int) × (Tb 64)) (x0 : TLandBook) (s78 : Int × (Tb 64) × (List (Int × Bool))) : Option ((Int × (Tb 64) × (List (Int × Bool))) ⊕ (((Tb 64) × (List (Int × Bool))) ⊕ ((List Int) × Int × Int))) :=
  if (decide (s78.1 < (p18.1.length : Int))) = true then ((ix p18.1 s78.1).bind fun y85 => (ix x0.Events y85).bind fun y87 => (ix p18.1 (IntKind.i64.wrap (s78.1 - 1))).bind fun y89 => (ix x0.Events y89).bind fun y91 => (f43 x0 y87.Holder y91.Holder).bind fun y93 => if (!y93) = true then (some (.inr (.inr (p18.1, s78.1, 0)))) else (some (.inl (IntKind.i64.wrap (s78.1 + 1), s78.2.1, (s78.2.2))))) else (some (.inr (.inl (s78.2.1, (s78.2.2)))))
noncomputable def f12 (x0 : TLandBook) (x1 : Int) : Option ((List Int) × Int × Int) :=
  (f36 x1 0 5).bind fun y7 => (f39 x0 y7).bind fun y9 => if (y9.2 != 0) = true then (some ([], 0, y9.2)) else ((lp (f12_b0 x0 x1) ([], 0, y9.1)).bind fun q19 => Sum.elim (fun p18 : (List Int) × (Tb 64) => (lp (f12_b2 p18 x0) (1, p18.2, ([] : (List (Int × Bool))))).bind fun q80 => Sum.elim (fun p79 : (Tb 64) × (List (Int × Bool)) => some (p18.1, (-1), 0)) (fun v101 : (List Int) × Int × Int => some v101) q80) (fun v102 : (List Int) × Int × Int => some v102) q19)
noncomputable def f3_b0 (x1 : TSpan) (x2 : Int) (y26 : (List TShipCall) × Int) (s51 : (List Int) × (List Int) × Int × TLandBook) : Option (((List Int) × (List Int) × Int × TLandBook) ⊕ ((List Int) × (List Int) × TLandBook)) :=
  if (decide (s51.2.2.1 < x2)) = true then ((((app s51.2.2.2.Events [(⟨0, 0⟩ : TLandEvent)]).bind fun y62 => (ix y26.1 s51.2.2.1).bind fun y65 => (app s51.1 [y65.Day]).bind fun y70 => (app s51.2.1 [s51.2.2.1]).bind fun y75 => if (decide (0 < s51.2.2.1)) = true then ((app s51.2.2.2.Memories [(⟨IntKind.i64.wrap (s51.2.2.1 - 1), s51.2.2.1, x1⟩ : TLandMemory)]).bind fun y81 => some (y70, y75, (⟨s51.2.2.2.People, y62, y81⟩ : TLandBook))) else (some (y70, y75, (⟨s51.2.2.2.People, y62, s51.2.2.2.Memories⟩ : TLandBook))) : Option ((List Int) × (List Int) × TLandBook))).bind fun q58 => some (.inl (q58.1, q58.2.1, IntKind.i64.wrap (s51.2.2.1 + 1), q58.2.2))) else (some (.inr (s51.1, s51.2.1, s51.2.2.2)))
noncomputable def f3_b1 (q53 : (List Int) × (List Int) × TLandBook) (x2 : Int) (y93 : (List Int) × Int) (s113 : Int × TLandBook) : Option ((Int × TLandBook) ⊕ (TLandBook ⊕ Bool)) :=
  if (decide (s113.1 < x2)) = true then ((ix y93.1 s113.1).bind fun y120 => (ix q53.1 s113.1).bind fun y122 => if (decide (y122 < y120)) = true then (some (.inr (.inr false))) else (some (.inl (IntKind.i64.wrap (s113.1 + 1), s113.2)))) else (some (.inr (.inl s113.2)))
noncomputable def f3 (x0 : TShipPass) (x1 : TSpan) (x2 : Int) : Option Bool :=
  ((if (decide (60 < (x0.Tides.length : Int))) = true then (some true) else (if (decide (70 < (x0.Swell.length : Int))) = true then (some true) else ((f4 x0).bind fun y12 => if (!y12) = true then (some true) else ((f5 x1).bind fun y15 => if (!y15) = true then (some true) else ((f6 x2).bind fun y18 => if (!y18) = true then (some true) else (some (decide (7 < x2))))))) : Option Bool)).bind fun q9 => if q9 = true then ((f7).bind fun y24 => some y24) else ((f8 x0 x1 x2).bind fun y26 => if (y26.2 != 0) = true then (((if (y26.2 == 5) = true then ((f7).bind fun y33 => some y33) else (some false) : Option Bool)).bind fun q31 => some q31) else ((f9 x0 x1 x2 y26.1).bind fun y37 => if (!y37) = true then (some false) else ((lp (f3_b0 x1 x2 y26) ([], [], 0, (⟨[(⟨(-1), (-1)⟩ : TLandPerson)], [], []⟩ : TLandBook))).bind fun q53 => (f10 (⟨q53.2.2.People, q53.2.2.Events, q53.2.2.Memories⟩ : TLandBook) q53.1).bind fun y91 => (f11 (⟨q53.2.2.People, q53.2.2.Events, q53.2.2.Memories⟩ : TLandBook)).bind fun y93 => (f12 (⟨q53.2.2.People, q53.2.2.Events, q53.2.2.Memories⟩ : TLandBook) 0).bind fun y97 => ((if (y91.2 != 0) = true then (some true) else (if (y93.2 != 0) = true then (some true) else (if (y97.2.2 != 0) = true then (some true) else (if (!y91.1) = true then (some true) else (if ((y93.1.length : Int) != x2) = true then (some true) else ((f13 y97.1 q53.2.1).bind fun y107 => some (!y107)))))) : Option Bool)).bind fun q101 => if q101 = true then (some false) else ((lp (f3_b1 q53 x2 y93) (0, (⟨q53.2.2.People, q53.2.2.Events, q53.2.2.Memories⟩ : TLandBook))).bind fun q115 => Sum.elim (fun p114 : TLandBook => ((if ((y97.2.1 == 1) == (decide (1 < x2))) = true then (if ((y97.2.1 == (-1)) == (x2 == 1)) = true then ((f7).bind fun y130 => some y130) else (some false)) else (some false) : Option Bool)).bind fun q127 => some q127) (fun v134 : Bool => some v134) q115))))
end Go.Proofs.YtoklmemeanmfdaaGreat
