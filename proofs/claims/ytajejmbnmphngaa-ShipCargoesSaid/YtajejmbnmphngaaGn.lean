/-
  The same functions with a bound on the rounds of each loop, so that they can be run; what they give, those give (printed by a program of ours).
-/
import Derived.Test.YtajejmbnmphngaaFn
namespace Go.Proofs.Ytajejmbnmphngaa
open Go.RowKit
set_option linter.unusedVariables false

def LeO {α : Type} (a b : Option α) : Prop := ∀ r, a = some r → b = some r
theorem LeO.refl {α : Type} (a : Option α) : LeO a a := fun _ h => h
theorem LeO.bind {α β : Type} {a b : Option α} {f g : α → Option β} (h : LeO a b) (k : ∀ x, LeO (f x) (g x)) : LeO (a.bind f) (b.bind g) := fun r hr => by
  obtain ⟨x, h1, h2⟩ := bnd hr
  rw [h x h1]; exact k x r h2
theorem LeO.ite {α : Type} {c : Prop} [Decidable c] {a b a' b' : Option α} (h : LeO a a') (k : LeO b b') : LeO (if c then a else b) (if c then a' else b') := by split <;> assumption
theorem LeO.elim {α β γ : Type} {f f' : α → Option γ} {g g' : β → Option γ} (h : ∀ x, LeO (f x) (f' x)) (k : ∀ x, LeO (g x) (g' x)) (s : α ⊕ β) : LeO (Sum.elim f g s) (Sum.elim f' g' s) := by
  cases s with
  | inl x => exact h x
  | inr x => exact k x
def lpF {σ ρ : Type} (body : σ → Option (σ ⊕ ρ)) (s : σ) : Option ρ := lpN body 3000 s
theorem lpN_le {σ ρ : Type} {b b' : σ → Option (σ ⊕ ρ)} (h : ∀ s, LeO (b s) (b' s)) : ∀ n s, LeO (lpN b n s) (lpN b' n s)
  | 0, _ => LeO.refl _
  | n + 1, s => by
    intro r hr
    simp only [lpN] at hr ⊢
    cases hb : b s with
    | none => rw [hb] at hr; cases hr
    | some t => rw [hb] at hr; rw [h s t hb]; cases t with
      | inl s' => exact lpN_le h n s' r hr
      | inr q => exact hr
theorem LeO.lp {σ ρ : Type} {b b' : σ → Option (σ ⊕ ρ)} (h : ∀ s, LeO (b s) (b' s)) (s : σ) : LeO (lpF b s) (lp b' s) := fun r hr => lp_some.2 ⟨_, lpN_le h 3000 s r hr⟩
theorem LeO.rg {α σ ρ : Type} {b b' : α → σ → Option (σ ⊕ ρ)} (h : ∀ x s, LeO (b x s) (b' x s)) : ∀ l s, LeO (rg b l s) (rg b' l s)
  | [], _ => LeO.refl _
  | x :: l, s => by
    intro r hr
    simp only [Go.Proofs.Ytajejmbnmphngaa.rg] at hr ⊢
    cases hb : b x s with
    | none => rw [hb] at hr; cases hr
    | some t => rw [hb] at hr; rw [h x s t hb]; cases t with
      | inl s' => exact LeO.rg h l s' r hr
      | inr q => exact hr
theorem LeO.allPan {f f' : Int → Option (Unit ⊕ Int)} (h : ∀ k, LeO (f k) (f' k)) : ∀ l, LeO (Ytajejmbnmphngaa.allPan f l) (Ytajejmbnmphngaa.allPan f' l)
  | [] => LeO.refl _
  | k :: l => by
    simp only [Ytajejmbnmphngaa.allPan]
    exact LeO.bind (h k) fun y => LeO.elim (fun _ => LeO.allPan h l) (fun _ => LeO.refl _) y
theorem LeO.callsF {s s' : TShipCall → Option Bool} (h : ∀ c, LeO (s c) (s' c)) (n : Nat) : ∀ k c, LeO (Ytajejmbnmphngaa.callsF s n k c) (Ytajejmbnmphngaa.callsF s' n k c)
  | 0, _ => LeO.refl _
  | k + 1, c => by
    simp only [Ytajejmbnmphngaa.callsF]
    exact LeO.ite (LeO.bind (h c) fun _ => LeO.bind (LeO.callsF h n k _) fun _ => LeO.refl _) (LeO.refl _)
theorem LeO.callsL {s s' : TShipCall → Option Bool} (h : ∀ c, LeO (s c) (s' c)) (n : Nat) (c : TShipCall) : LeO (Ytajejmbnmphngaa.callsL s n c) (Ytajejmbnmphngaa.callsL s' n c) := LeO.callsF h n _ c

def g61 (x0 : TSpan) (x1 : Int) (x2 : Int) : Option Bool :=
  ((if (decide (x1 ≤ x0.Low)) = true then (if (decide (x0.Low ≤ x0.High)) = true then (some (decide (x0.High ≤ x2))) else (some false)) else (some false) : Option Bool)).bind fun q4 => some q4
theorem g61_le (x0 : TSpan) (x1 : Int) (x2 : Int) : LeO (g61 x0 x1 x2) (f61 x0 x1 x2) := by
  unfold g61 f61
  repeat (first | (with_reducible exact LeO.refl _) | (with_reducible refine LeO.bind ?_ (fun _ => ?_)) | (with_reducible refine LeO.ite ?_ ?_) | (with_reducible refine LeO.elim (fun _ => ?_) (fun _ => ?_) _) | (with_reducible refine LeO.lp (fun _ => ?_) _) | (with_reducible refine LeO.rg (fun _ _ => ?_) _ _) | (with_reducible refine LeO.allPan (fun _ => ?_) _) | (with_reducible refine LeO.callsL (fun _ => ?_) _ _))
def g62 (x0 : Int) (x1 : Int) (x2 : Int) : Option Bool :=
  ((if (decide (x1 ≤ x0)) = true then (some (decide (x0 ≤ x2))) else (some false) : Option Bool)).bind fun q1 => some q1
theorem g62_le (x0 : Int) (x1 : Int) (x2 : Int) : LeO (g62 x0 x1 x2) (f62 x0 x1 x2) := by
  unfold g62 f62
  repeat (first | (with_reducible exact LeO.refl _) | (with_reducible refine LeO.bind ?_ (fun _ => ?_)) | (with_reducible refine LeO.ite ?_ ?_) | (with_reducible refine LeO.elim (fun _ => ?_) (fun _ => ?_) _) | (with_reducible refine LeO.lp (fun _ => ?_) _) | (with_reducible refine LeO.rg (fun _ _ => ?_) _ _) | (with_reducible refine LeO.allPan (fun _ => ?_) _) | (with_reducible refine LeO.callsL (fun _ => ?_) _ _))
def g108_b0 (x0 : (List Int)) (x1 : (Int → Option Bool)) (s3 : Int) : Option (Int ⊕ (Unit ⊕ Int)) :=
  if (decide (s3 < (x0.length : Int))) = true then ((ix x0 s3).bind fun y10 => (x1 y10).bind fun y12 => if y12 = true then (some (.inr (.inr s3))) else (some (.inl (IntKind.i64.wrap (s3 + 1))))) else (some (.inr (.inl ())))
theorem g108_b0_le (x0 : (List Int)) (x1 : (Int → Option Bool)) (s3 : Int) (x1q : (Int → Option Bool)) (hx1 : ∀ z0, LeO (x1 z0) (x1q z0)) : LeO (g108_b0 x0 x1 s3) (f108_b0 x0 x1q s3) := by
  unfold g108_b0 f108_b0
  repeat (first | (with_reducible exact hx1 _) | (with_reducible exact LeO.refl _) | (with_reducible refine LeO.bind ?_ (fun _ => ?_)) | (with_reducible refine LeO.ite ?_ ?_) | (with_reducible refine LeO.elim (fun _ => ?_) (fun _ => ?_) _) | (with_reducible refine LeO.lp (fun _ => ?_) _) | (with_reducible refine LeO.rg (fun _ _ => ?_) _ _) | (with_reducible refine LeO.allPan (fun _ => ?_) _) | (with_reducible refine LeO.callsL (fun _ => ?_) _ _))
def g108 (x0 : (List Int)) (x1 : (Int → Option Bool)) : Option Int :=
  (lpF (g108_b0 x0 x1) 0).bind fun q5 => Sum.elim (fun p4 : Unit => some (-1)) (fun v17 : Int => some v17) q5
theorem g108_le (x0 : (List Int)) (x1 : (Int → Option Bool)) (x1q : (Int → Option Bool)) (hx1 : ∀ z0, LeO (x1 z0) (x1q z0)) : LeO (g108 x0 x1) (f108 x0 x1q) := by
  unfold g108 f108
  repeat (first | (with_reducible exact hx1 _) | (with_reducible exact LeO.refl _) | (with_reducible refine g108_b0_le _ _ _ _ (fun _ => ?_)) | (with_reducible refine LeO.bind ?_ (fun _ => ?_)) | (with_reducible refine LeO.ite ?_ ?_) | (with_reducible refine LeO.elim (fun _ => ?_) (fun _ => ?_) _) | (with_reducible refine LeO.lp (fun _ => ?_) _) | (with_reducible refine LeO.rg (fun _ _ => ?_) _ _) | (with_reducible refine LeO.allPan (fun _ => ?_) _) | (with_reducible refine LeO.callsL (fun _ => ?_) _ _))
def g85 (x0 : (List Int)) (x1 : (Int → Option Bool)) : Option Bool :=
  (g108 x0 x1).bind fun y3 => some (decide (0 ≤ y3))
theorem g85_le (x0 : (List Int)) (x1 : (Int → Option Bool)) (x1q : (Int → Option Bool)) (hx1 : ∀ z0, LeO (x1 z0) (x1q z0)) : LeO (g85 x0 x1) (f85 x0 x1q) := by
  unfold g85 f85
  repeat (first | (with_reducible exact hx1 _) | (with_reducible exact LeO.refl _) | (with_reducible refine g108_le _ _ _ (fun _ => ?_)) | (with_reducible refine LeO.bind ?_ (fun _ => ?_)) | (with_reducible refine LeO.ite ?_ ?_) | (with_reducible refine LeO.elim (fun _ => ?_) (fun _ => ?_) _) | (with_reducible refine LeO.lp (fun _ => ?_) _) | (with_reducible refine LeO.rg (fun _ _ => ?_) _ _) | (with_reducible refine LeO.allPan (fun _ => ?_) _) | (with_reducible refine LeO.callsL (fun _ => ?_) _ _))
def g86 (x0 : Int) : Option Bool :=
  (g62 x0 (-1000) 1000).bind fun y1 => some (!y1)
theorem g86_le (x0 : Int) : LeO (g86 x0) (f86 x0) := by
  unfold g86 f86
  repeat (first | (with_reducible exact LeO.refl _) | (with_reducible refine g62_le _ _ _) | (with_reducible refine LeO.bind ?_ (fun _ => ?_)) | (with_reducible refine LeO.ite ?_ ?_) | (with_reducible refine LeO.elim (fun _ => ?_) (fun _ => ?_) _) | (with_reducible refine LeO.lp (fun _ => ?_) _) | (with_reducible refine LeO.rg (fun _ _ => ?_) _ _) | (with_reducible refine LeO.allPan (fun _ => ?_) _) | (with_reducible refine LeO.callsL (fun _ => ?_) _ _))
def g109_b0 (x0 : (List TSpan)) (x1 : (TSpan → Option Bool)) (s3 : Int) : Option (Int ⊕ (Unit ⊕ Int)) :=
  if (decide (s3 < (x0.length : Int))) = true then ((ix x0 s3).bind fun y10 => (x1 y10).bind fun y12 => if y12 = true then (some (.inr (.inr s3))) else (some (.inl (IntKind.i64.wrap (s3 + 1))))) else (some (.inr (.inl ())))
theorem g109_b0_le (x0 : (List TSpan)) (x1 : (TSpan → Option Bool)) (s3 : Int) (x1q : (TSpan → Option Bool)) (hx1 : ∀ z0, LeO (x1 z0) (x1q z0)) : LeO (g109_b0 x0 x1 s3) (f109_b0 x0 x1q s3) := by
  unfold g109_b0 f109_b0
  repeat (first | (with_reducible exact hx1 _) | (with_reducible exact LeO.refl _) | (with_reducible refine LeO.bind ?_ (fun _ => ?_)) | (with_reducible refine LeO.ite ?_ ?_) | (with_reducible refine LeO.elim (fun _ => ?_) (fun _ => ?_) _) | (with_reducible refine LeO.lp (fun _ => ?_) _) | (with_reducible refine LeO.rg (fun _ _ => ?_) _ _) | (with_reducible refine LeO.allPan (fun _ => ?_) _) | (with_reducible refine LeO.callsL (fun _ => ?_) _ _))
def g109 (x0 : (List TSpan)) (x1 : (TSpan → Option Bool)) : Option Int :=
  (lpF (g109_b0 x0 x1) 0).bind fun q5 => Sum.elim (fun p4 : Unit => some (-1)) (fun v17 : Int => some v17) q5
theorem g109_le (x0 : (List TSpan)) (x1 : (TSpan → Option Bool)) (x1q : (TSpan → Option Bool)) (hx1 : ∀ z0, LeO (x1 z0) (x1q z0)) : LeO (g109 x0 x1) (f109 x0 x1q) := by
  unfold g109 f109
  repeat (first | (with_reducible exact hx1 _) | (with_reducible exact LeO.refl _) | (with_reducible refine g109_b0_le _ _ _ _ (fun _ => ?_)) | (with_reducible refine LeO.bind ?_ (fun _ => ?_)) | (with_reducible refine LeO.ite ?_ ?_) | (with_reducible refine LeO.elim (fun _ => ?_) (fun _ => ?_) _) | (with_reducible refine LeO.lp (fun _ => ?_) _) | (with_reducible refine LeO.rg (fun _ _ => ?_) _ _) | (with_reducible refine LeO.allPan (fun _ => ?_) _) | (with_reducible refine LeO.callsL (fun _ => ?_) _ _))
def g87 (x0 : (List TSpan)) (x1 : (TSpan → Option Bool)) : Option Bool :=
  (g109 x0 x1).bind fun y3 => some (decide (0 ≤ y3))
theorem g87_le (x0 : (List TSpan)) (x1 : (TSpan → Option Bool)) (x1q : (TSpan → Option Bool)) (hx1 : ∀ z0, LeO (x1 z0) (x1q z0)) : LeO (g87 x0 x1) (f87 x0 x1q) := by
  unfold g87 f87
  repeat (first | (with_reducible exact hx1 _) | (with_reducible exact LeO.refl _) | (with_reducible refine g109_le _ _ _ (fun _ => ?_)) | (with_reducible refine LeO.bind ?_ (fun _ => ?_)) | (with_reducible refine LeO.ite ?_ ?_) | (with_reducible refine LeO.elim (fun _ => ?_) (fun _ => ?_) _) | (with_reducible refine LeO.lp (fun _ => ?_) _) | (with_reducible refine LeO.rg (fun _ _ => ?_) _ _) | (with_reducible refine LeO.allPan (fun _ => ?_) _) | (with_reducible refine LeO.callsL (fun _ => ?_) _ _))
def g88 (x0 : TSpan) : Option Bool :=
  (g61 x0 0 1000).bind fun y4 => some (!y4)
theorem g88_le (x0 : TSpan) : LeO (g88 x0) (f88 x0) := by
  unfold g88 f88
  repeat (first | (with_reducible exact LeO.refl _) | (with_reducible refine g61_le _ _ _) | (with_reducible refine LeO.bind ?_ (fun _ => ?_)) | (with_reducible refine LeO.ite ?_ ?_) | (with_reducible refine LeO.elim (fun _ => ?_) (fun _ => ?_) _) | (with_reducible refine LeO.lp (fun _ => ?_) _) | (with_reducible refine LeO.rg (fun _ _ => ?_) _ _) | (with_reducible refine LeO.allPan (fun _ => ?_) _) | (with_reducible refine LeO.callsL (fun _ => ?_) _ _))
def g60 (x0 : TShipPass) : Option Bool :=
  (((g62 (x0.Tides.length : Int) 1 50).bind fun y7 => if y7 = true then ((g62 (x0.Swell.length : Int) 1 60).bind fun y10 => if y10 = true then ((g62 x0.Depth 0 1000).bind fun y13 => if y13 = true then ((g62 x0.Draft 0 1000).bind fun y16 => if y16 = true then ((g61 x0.Light 0 23).bind fun y19 => if y19 = true then ((g85 x0.Tides (fun (z0 : Int) => g86 z0)).bind fun y23 => if (!y23) = true then ((g87 x0.Swell (fun (z0 : TSpan) => g88 z0)).bind fun y27 => some (!y27)) else (some false)) else (some false)) else (some false)) else (some false)) else (some false)) else (some false) : Option Bool)).bind fun q6 => some q6
theorem g60_le (x0 : TShipPass) : LeO (g60 x0) (f60 x0) := by
  unfold g60 f60
  repeat (first | (with_reducible exact LeO.refl _) | (with_reducible refine g61_le _ _ _) | (with_reducible refine g62_le _ _ _) | (with_reducible refine g85_le _ _ _ (fun _ => ?_)) | (with_reducible refine g86_le _) | (with_reducible refine g87_le _ _ _ (fun _ => ?_)) | (with_reducible refine g88_le _) | (with_reducible refine LeO.bind ?_ (fun _ => ?_)) | (with_reducible refine LeO.ite ?_ ?_) | (with_reducible refine LeO.elim (fun _ => ?_) (fun _ => ?_) _) | (with_reducible refine LeO.lp (fun _ => ?_) _) | (with_reducible refine LeO.rg (fun _ _ => ?_) _ _) | (with_reducible refine LeO.allPan (fun _ => ?_) _) | (with_reducible refine LeO.callsL (fun _ => ?_) _ _))
def g106 (x0 : TPass) (x1 : TShipCall) : Option Bool :=
  (g62 x1.Hour x0.ShipPass.Light.Low x0.ShipPass.Light.High).bind fun y9 => some y9
theorem g106_le (x0 : TPass) (x1 : TShipCall) : LeO (g106 x0 x1) (f106 x0 x1) := by
  unfold g106 f106
  repeat (first | (with_reducible exact LeO.refl _) | (with_reducible refine g62_le _ _ _) | (with_reducible refine LeO.bind ?_ (fun _ => ?_)) | (with_reducible refine LeO.ite ?_ ?_) | (with_reducible refine LeO.elim (fun _ => ?_) (fun _ => ?_) _) | (with_reducible refine LeO.lp (fun _ => ?_) _) | (with_reducible refine LeO.rg (fun _ _ => ?_) _ _) | (with_reducible refine LeO.allPan (fun _ => ?_) _) | (with_reducible refine LeO.callsL (fun _ => ?_) _ _))
def g107 (x0 : TPass) (x1 : TShipCall) : Option Bool :=
  (remI (IntKind.i64.wrap ((IntKind.i64.wrap (x1.Day * 24)) + x1.Hour)) (x0.ShipPass.Tides.length : Int)).bind fun y9 => (ix x0.ShipPass.Tides y9).bind fun y10 => some (decide (x0.ShipPass.Draft ≤ (IntKind.i64.wrap ((IntKind.i64.wrap (x0.ShipPass.Depth + y10)) - x0.swell))))
theorem g107_le (x0 : TPass) (x1 : TShipCall) : LeO (g107 x0 x1) (f107 x0 x1) := by
  unfold g107 f107
  repeat (first | (with_reducible exact LeO.refl _) | (with_reducible refine LeO.bind ?_ (fun _ => ?_)) | (with_reducible refine LeO.ite ?_ ?_) | (with_reducible refine LeO.elim (fun _ => ?_) (fun _ => ?_) _) | (with_reducible refine LeO.lp (fun _ => ?_) _) | (with_reducible refine LeO.rg (fun _ _ => ?_) _ _) | (with_reducible refine LeO.allPan (fun _ => ?_) _) | (with_reducible refine LeO.callsL (fun _ => ?_) _ _))
def g81 (x0 : TPass) (x1 : TShipCall) : Option Bool :=
  ((fun (z0 : TShipCall) => g106 x0 z0) x1).bind fun y11 => if (!y11) = true then (some false) else (((fun (z0 : TShipCall) => g107 x0 z0) x1).bind fun y14 => if (!y14) = true then (some false) else (some true))
theorem g81_le (x0 : TPass) (x1 : TShipCall) : LeO (g81 x0 x1) (f81 x0 x1) := by
  unfold g81 f81
  repeat (first | (with_reducible exact LeO.refl _) | (with_reducible refine g106_le _ _) | (with_reducible refine g107_le _ _) | (with_reducible refine LeO.bind ?_ (fun _ => ?_)) | (with_reducible refine LeO.ite ?_ ?_) | (with_reducible refine LeO.elim (fun _ => ?_) (fun _ => ?_) _) | (with_reducible refine LeO.lp (fun _ => ?_) _) | (with_reducible refine LeO.rg (fun _ _ => ?_) _ _) | (with_reducible refine LeO.allPan (fun _ => ?_) _) | (with_reducible refine LeO.callsL (fun _ => ?_) _ _))
def g80 (x0 : TShipPass) (x1 : TShipCall) : Option Bool :=
  (ix x0.Swell x1.Day).bind fun y9 => (g81 (⟨x0, y9.High⟩ : TPass) x1).bind fun y11 => some y11
theorem g80_le (x0 : TShipPass) (x1 : TShipCall) : LeO (g80 x0 x1) (f80 x0 x1) := by
  unfold g80 f80
  repeat (first | (with_reducible exact LeO.refl _) | (with_reducible refine g81_le _ _) | (with_reducible refine LeO.bind ?_ (fun _ => ?_)) | (with_reducible refine LeO.ite ?_ ?_) | (with_reducible refine LeO.elim (fun _ => ?_) (fun _ => ?_) _) | (with_reducible refine LeO.lp (fun _ => ?_) _) | (with_reducible refine LeO.rg (fun _ _ => ?_) _ _) | (with_reducible refine LeO.allPan (fun _ => ?_) _) | (with_reducible refine LeO.callsL (fun _ => ?_) _ _))
def g63_b1 (rec : TSpot → (List ((Int × Int) × Bool)) → (List TShipCall) → Option (Bool × (List ((Int × Int) × Bool)) × (List TShipCall))) (x0 : TSpot) (y39 : TShipCall) (s38 : Int × Bool × (List TShipCall) × (List ((Int × Int) × Bool))) : Option ((Int × Bool × (List TShipCall) × (List ((Int × Int) × Bool))) ⊕ ((Int × Bool × (List TShipCall) × (List ((Int × Int) × Bool))) ⊕ (Int × Bool × (List TShipCall) × (List ((Int × Int) × Bool))))) :=
  if (y39.Day != s38.1) = true then (some (.inr (.inl (s38.1, s38.2.1, s38.2.2.1, (s38.2.2.2))))) else ((app s38.2.2.1 [y39]).bind fun y55 => (rec (⟨s38.1, IntKind.i64.wrap (x0.left - 1)⟩ : TSpot) (s38.2.2.2) y55).bind fun y58 => if y58.1 = true then (some (.inr (.inr (s38.1, true, y58.2.2, (y58.2.1))))) else ((subL y58.2.2 0 (IntKind.i64.wrap ((y58.2.2.length : Int) - 1))).bind fun y64 => some (.inr (.inl (s38.1, s38.2.1, y64, (y58.2.1))))))
theorem g63_b1_le (rec : TSpot → (List ((Int × Int) × Bool)) → (List TShipCall) → Option (Bool × (List ((Int × Int) × Bool)) × (List TShipCall))) (x0 : TSpot) (y39 : TShipCall) (s38 : Int × Bool × (List TShipCall) × (List ((Int × Int) × Bool))) (recq : TSpot → (List ((Int × Int) × Bool)) → (List TShipCall) → Option (Bool × (List ((Int × Int) × Bool)) × (List TShipCall))) (hrec : ∀ z0 z1 z2, LeO (rec z0 z1 z2) (recq z0 z1 z2)) : LeO (g63_b1 rec x0 y39 s38) (f63_b1 recq x0 y39 s38) := by
  unfold g63_b1 f63_b1
  repeat (first | (with_reducible exact hrec _ _ _) | (with_reducible exact LeO.refl _) | (with_reducible refine LeO.bind ?_ (fun _ => ?_)) | (with_reducible refine LeO.ite ?_ ?_) | (with_reducible refine LeO.elim (fun _ => ?_) (fun _ => ?_) _) | (with_reducible refine LeO.lp (fun _ => ?_) _) | (with_reducible refine LeO.rg (fun _ _ => ?_) _ _) | (with_reducible refine LeO.allPan (fun _ => ?_) _) | (with_reducible refine LeO.callsL (fun _ => ?_) _ _))
def g63_b0 (rec : TSpot → (List ((Int × Int) × Bool)) → (List TShipCall) → Option (Bool × (List ((Int × Int) × Bool)) × (List TShipCall))) (x0 : TSpot) (x2 : TSpan) (x3 : TShipPass) (s20 : Int × Bool × (List TShipCall) × (List ((Int × Int) × Bool))) : Option ((Int × Bool × (List TShipCall) × (List ((Int × Int) × Bool))) ⊕ ((Bool × (List TShipCall) × (List ((Int × Int) × Bool))) ⊕ (Bool × (List ((Int × Int) × Bool)) × (List TShipCall)))) :=
  if (decide (s20.1 ≤ (IntKind.i64.wrap (x0.day + x2.High)))) = true then (((if (decide ((x3.Swell.length : Int) ≤ s20.1)) = true then (some (.inr (.inl (s20.2.1, s20.2.2.1, (s20.2.2.2))))) else ((callsL (g80 x3) x3.Swell.length (⟨s20.1, 0⟩ : TShipCall)).bind fun y36 => (rg (g63_b1 rec x0) y36 (s20.1, s20.2.1, s20.2.2.1, (s20.2.2.2))).bind fun q40 => Sum.elim (fun s38 : Int × Bool × (List TShipCall) × (List ((Int × Int) × Bool)) => some (.inl (s38.1, s38.2.1, s38.2.2.1, (s38.2.2.2)))) (fun z73 => Sum.elim (fun s38 : Int × Bool × (List TShipCall) × (List ((Int × Int) × Bool)) => some (.inl (s38.1, s38.2.1, s38.2.2.1, (s38.2.2.2)))) (fun s38 : Int × Bool × (List TShipCall) × (List ((Int × Int) × Bool)) => some (.inr (.inr (s38.2.1, (s38.2.2.2), s38.2.2.1)))) z73) q40) : Option ((Int × Bool × (List TShipCall) × (List ((Int × Int) × Bool))) ⊕ ((Bool × (List TShipCall) × (List ((Int × Int) × Bool))) ⊕ (Bool × (List ((Int × Int) × Bool)) × (List TShipCall)))))).bind fun q27 => Sum.elim (fun p28 : Int × Bool × (List TShipCall) × (List ((Int × Int) × Bool)) => some (.inl (IntKind.i64.wrap (p28.1 + 1), p28.2.1, p28.2.2.1, (p28.2.2.2)))) (fun z82 => Sum.elim (fun v81 : Bool × (List TShipCall) × (List ((Int × Int) × Bool)) => some (.inr (.inl v81))) (fun v83 : Bool × (List ((Int × Int) × Bool)) × (List TShipCall) => some (.inr (.inr v83))) z82) q27) else (some (.inr (.inl (s20.2.1, s20.2.2.1, (s20.2.2.2)))))
theorem g63_b0_le (rec : TSpot → (List ((Int × Int) × Bool)) → (List TShipCall) → Option (Bool × (List ((Int × Int) × Bool)) × (List TShipCall))) (x0 : TSpot) (x2 : TSpan) (x3 : TShipPass) (s20 : Int × Bool × (List TShipCall) × (List ((Int × Int) × Bool))) (recq : TSpot → (List ((Int × Int) × Bool)) → (List TShipCall) → Option (Bool × (List ((Int × Int) × Bool)) × (List TShipCall))) (hrec : ∀ z0 z1 z2, LeO (rec z0 z1 z2) (recq z0 z1 z2)) : LeO (g63_b0 rec x0 x2 x3 s20) (f63_b0 recq x0 x2 x3 s20) := by
  unfold g63_b0 f63_b0
  repeat (first | (with_reducible exact hrec _ _ _) | (with_reducible exact LeO.refl _) | (with_reducible refine g63_b1_le _ _ _ _ _ (fun _ _ _ => ?_)) | (with_reducible refine g80_le _ _) | (with_reducible refine LeO.bind ?_ (fun _ => ?_)) | (with_reducible refine LeO.ite ?_ ?_) | (with_reducible refine LeO.elim (fun _ => ?_) (fun _ => ?_) _) | (with_reducible refine LeO.lp (fun _ => ?_) _) | (with_reducible refine LeO.rg (fun _ _ => ?_) _ _) | (with_reducible refine LeO.allPan (fun _ => ?_) _) | (with_reducible refine LeO.callsL (fun _ => ?_) _ _))
def g63_F (x2 : TSpan) (x3 : TShipPass) (rec : TSpot → (List ((Int × Int) × Bool)) → (List TShipCall) → Option (Bool × (List ((Int × Int) × Bool)) × (List TShipCall))) (x0 : TSpot) (m1 : (List ((Int × Int) × Bool))) (m4 : (List TShipCall)) : Option (Bool × (List ((Int × Int) × Bool)) × (List TShipCall)) :=
  if (x0.left == 0) = true then (some (true, (m1), m4)) else (if ((lookM (m1) (x0.day, x0.left)).getD false) = true then (some (false, (m1), m4)) else ((lpF (g63_b0 rec x0 x2 x3) (IntKind.i64.wrap (x0.day + x2.Low), false, m4, (m1))).bind fun q22 => Sum.elim (fun p21 : Bool × (List TShipCall) × (List ((Int × Int) × Bool)) => some (false, (updM (p21.2.2) (x0.day, x0.left) true), p21.2.1)) (fun v88 : Bool × (List ((Int × Int) × Bool)) × (List TShipCall) => some v88) q22))
theorem g63_F_le (x2 : TSpan) (x3 : TShipPass) (rec : TSpot → (List ((Int × Int) × Bool)) → (List TShipCall) → Option (Bool × (List ((Int × Int) × Bool)) × (List TShipCall))) (x0 : TSpot) (m1 : (List ((Int × Int) × Bool))) (m4 : (List TShipCall)) (recq : TSpot → (List ((Int × Int) × Bool)) → (List TShipCall) → Option (Bool × (List ((Int × Int) × Bool)) × (List TShipCall))) (hrec : ∀ z0 z1 z2, LeO (rec z0 z1 z2) (recq z0 z1 z2)) : LeO (g63_F x2 x3 rec x0 m1 m4) (f63_F x2 x3 recq x0 m1 m4) := by
  unfold g63_F f63_F
  repeat (first | (with_reducible exact hrec _ _ _) | (with_reducible exact LeO.refl _) | (with_reducible refine g63_b0_le _ _ _ _ _ _ (fun _ _ _ => ?_)) | (with_reducible refine LeO.bind ?_ (fun _ => ?_)) | (with_reducible refine LeO.ite ?_ ?_) | (with_reducible refine LeO.elim (fun _ => ?_) (fun _ => ?_) _) | (with_reducible refine LeO.lp (fun _ => ?_) _) | (with_reducible refine LeO.rg (fun _ _ => ?_) _ _) | (with_reducible refine LeO.allPan (fun _ => ?_) _) | (with_reducible refine LeO.callsL (fun _ => ?_) _ _))
def g63 (x2 : TSpan) (x3 : TShipPass) : Nat → TSpot → (List ((Int × Int) × Bool)) → (List TShipCall) → Option (Bool × (List ((Int × Int) × Bool)) × (List TShipCall))
  | 0 => fun _ _ _ => none
  | n + 1 => fun x0 m1 m4 => g63_F x2 x3 (g63 x2 x3 n) x0 m1 m4
theorem g63_le (x2 : TSpan) (x3 : TShipPass) : ∀ n z0 z1 z2, LeO (g63 x2 x3 n z0 z1 z2) (f63 x2 x3 n z0 z1 z2)
  | 0, _, _, _ => LeO.refl _
  | n + 1, _, _, _ => g63_F_le _ _ _ _ _ _ _ (fun z0 z1 z2 => g63_le x2 x3 n z0 z1 z2) 
def g18 (x0 : TShipPass) (x1 : TSpan) (x2 : Int) : Option ((List TShipCall) × Int) :=
  (((g60 x0).bind fun y10 => if (!y10) = true then (some true) else ((g61 x1 1 60).bind fun y13 => if (!y13) = true then (some true) else ((g62 x2 1 8).bind fun y16 => some (!y16))) : Option Bool)).bind fun q9 => if q9 = true then (some ([], 2)) else ((g63 x1 x0 (x2.toNat + 1) (⟨0, x2⟩ : TSpot) ([] : (List ((Int × Int) × Bool))) []).bind fun y38 => if (!y38.1) = true then (some ([], 5)) else (some (y38.2.2, 0)))
theorem g18_le (x0 : TShipPass) (x1 : TSpan) (x2 : Int) : LeO (g18 x0 x1 x2) (f18 x0 x1 x2) := by
  unfold g18 f18
  repeat (first | (with_reducible exact LeO.refl _) | (with_reducible refine g60_le _) | (with_reducible refine g61_le _ _ _) | (with_reducible refine g62_le _ _ _) | (with_reducible refine g63_le _ _ _ _ _ _) | (with_reducible refine LeO.bind ?_ (fun _ => ?_)) | (with_reducible refine LeO.ite ?_ ?_) | (with_reducible refine LeO.elim (fun _ => ?_) (fun _ => ?_) _) | (with_reducible refine LeO.lp (fun _ => ?_) _) | (with_reducible refine LeO.rg (fun _ _ => ?_) _ _) | (with_reducible refine LeO.allPan (fun _ => ?_) _) | (with_reducible refine LeO.callsL (fun _ => ?_) _ _))
def g23_b0 (x0 : (List TShipCall)) (x1 : (List TShipCall)) (s4 : Int) : Option (Int ⊕ (Unit ⊕ Bool)) :=
  if (decide (s4 < (x0.length : Int))) = true then ((ix x0 s4).bind fun y11 => (ix x1 s4).bind fun y13 => if (!(([y11.Day, y11.Hour] : List Int) == [y13.Day, y13.Hour])) = true then (some (.inr (.inr false))) else (some (.inl (IntKind.i64.wrap (s4 + 1))))) else (some (.inr (.inl ())))
theorem g23_b0_le (x0 : (List TShipCall)) (x1 : (List TShipCall)) (s4 : Int) : LeO (g23_b0 x0 x1 s4) (f23_b0 x0 x1 s4) := by
  unfold g23_b0 f23_b0
  repeat (first | (with_reducible exact LeO.refl _) | (with_reducible refine LeO.bind ?_ (fun _ => ?_)) | (with_reducible refine LeO.ite ?_ ?_) | (with_reducible refine LeO.elim (fun _ => ?_) (fun _ => ?_) _) | (with_reducible refine LeO.lp (fun _ => ?_) _) | (with_reducible refine LeO.rg (fun _ _ => ?_) _ _) | (with_reducible refine LeO.allPan (fun _ => ?_) _) | (with_reducible refine LeO.callsL (fun _ => ?_) _ _))
def g23 (x0 : (List TShipCall)) (x1 : (List TShipCall)) : Option Bool :=
  if ((x0.length : Int) != (x1.length : Int)) = true then (some false) else ((lpF (g23_b0 x0 x1) 0).bind fun q6 => Sum.elim (fun p5 : Unit => some true) (fun v18 : Bool => some v18) q6)
theorem g23_le (x0 : (List TShipCall)) (x1 : (List TShipCall)) : LeO (g23 x0 x1) (f23 x0 x1) := by
  unfold g23 f23
  repeat (first | (with_reducible exact LeO.refl _) | (with_reducible refine g23_b0_le _ _ _) | (with_reducible refine LeO.bind ?_ (fun _ => ?_)) | (with_reducible refine LeO.ite ?_ ?_) | (with_reducible refine LeO.elim (fun _ => ?_) (fun _ => ?_) _) | (with_reducible refine LeO.lp (fun _ => ?_) _) | (with_reducible refine LeO.rg (fun _ _ => ?_) _ _) | (with_reducible refine LeO.allPan (fun _ => ?_) _) | (with_reducible refine LeO.callsL (fun _ => ?_) _ _))
def g90 (x0 : Int) : Option Bool :=
  (g62 x0 0 100000).bind fun y1 => some (!y1)
theorem g90_le (x0 : Int) : LeO (g90 x0) (f90 x0) := by
  unfold g90 f90
  repeat (first | (with_reducible exact LeO.refl _) | (with_reducible refine g62_le _ _ _) | (with_reducible refine LeO.bind ?_ (fun _ => ?_)) | (with_reducible refine LeO.ite ?_ ?_) | (with_reducible refine LeO.elim (fun _ => ?_) (fun _ => ?_) _) | (with_reducible refine LeO.lp (fun _ => ?_) _) | (with_reducible refine LeO.rg (fun _ _ => ?_) _ _) | (with_reducible refine LeO.allPan (fun _ => ?_) _) | (with_reducible refine LeO.callsL (fun _ => ?_) _ _))
def g91 (x0 : TSpan) : Option Bool :=
  (g61 x0 0 1000).bind fun y4 => some (!y4)
theorem g91_le (x0 : TSpan) : LeO (g91 x0) (f91 x0) := by
  unfold g91 f91
  repeat (first | (with_reducible exact LeO.refl _) | (with_reducible refine g61_le _ _ _) | (with_reducible refine LeO.bind ?_ (fun _ => ?_)) | (with_reducible refine LeO.ite ?_ ?_) | (with_reducible refine LeO.elim (fun _ => ?_) (fun _ => ?_) _) | (with_reducible refine LeO.lp (fun _ => ?_) _) | (with_reducible refine LeO.rg (fun _ _ => ?_) _ _) | (with_reducible refine LeO.allPan (fun _ => ?_) _) | (with_reducible refine LeO.callsL (fun _ => ?_) _ _))
def g110_b0 (x0 : (List TShipLot)) (x1 : (TShipLot → Option Bool)) (s3 : Int) : Option (Int ⊕ (Unit ⊕ Int)) :=
  if (decide (s3 < (x0.length : Int))) = true then ((ix x0 s3).bind fun y10 => (x1 y10).bind fun y13 => if y13 = true then (some (.inr (.inr s3))) else (some (.inl (IntKind.i64.wrap (s3 + 1))))) else (some (.inr (.inl ())))
theorem g110_b0_le (x0 : (List TShipLot)) (x1 : (TShipLot → Option Bool)) (s3 : Int) (x1q : (TShipLot → Option Bool)) (hx1 : ∀ z0, LeO (x1 z0) (x1q z0)) : LeO (g110_b0 x0 x1 s3) (f110_b0 x0 x1q s3) := by
  unfold g110_b0 f110_b0
  repeat (first | (with_reducible exact hx1 _) | (with_reducible exact LeO.refl _) | (with_reducible refine LeO.bind ?_ (fun _ => ?_)) | (with_reducible refine LeO.ite ?_ ?_) | (with_reducible refine LeO.elim (fun _ => ?_) (fun _ => ?_) _) | (with_reducible refine LeO.lp (fun _ => ?_) _) | (with_reducible refine LeO.rg (fun _ _ => ?_) _ _) | (with_reducible refine LeO.allPan (fun _ => ?_) _) | (with_reducible refine LeO.callsL (fun _ => ?_) _ _))
def g110 (x0 : (List TShipLot)) (x1 : (TShipLot → Option Bool)) : Option Int :=
  (lpF (g110_b0 x0 x1) 0).bind fun q5 => Sum.elim (fun p4 : Unit => some (-1)) (fun v18 : Int => some v18) q5
theorem g110_le (x0 : (List TShipLot)) (x1 : (TShipLot → Option Bool)) (x1q : (TShipLot → Option Bool)) (hx1 : ∀ z0, LeO (x1 z0) (x1q z0)) : LeO (g110 x0 x1) (f110 x0 x1q) := by
  unfold g110 f110
  repeat (first | (with_reducible exact hx1 _) | (with_reducible exact LeO.refl _) | (with_reducible refine g110_b0_le _ _ _ _ (fun _ => ?_)) | (with_reducible refine LeO.bind ?_ (fun _ => ?_)) | (with_reducible refine LeO.ite ?_ ?_) | (with_reducible refine LeO.elim (fun _ => ?_) (fun _ => ?_) _) | (with_reducible refine LeO.lp (fun _ => ?_) _) | (with_reducible refine LeO.rg (fun _ _ => ?_) _ _) | (with_reducible refine LeO.allPan (fun _ => ?_) _) | (with_reducible refine LeO.callsL (fun _ => ?_) _ _))
def g92 (x0 : (List TShipLot)) (x1 : (TShipLot → Option Bool)) : Option Bool :=
  (g110 x0 x1).bind fun y3 => some (decide (0 ≤ y3))
theorem g92_le (x0 : (List TShipLot)) (x1 : (TShipLot → Option Bool)) (x1q : (TShipLot → Option Bool)) (hx1 : ∀ z0, LeO (x1 z0) (x1q z0)) : LeO (g92 x0 x1) (f92 x0 x1q) := by
  unfold g92 f92
  repeat (first | (with_reducible exact hx1 _) | (with_reducible exact LeO.refl _) | (with_reducible refine g110_le _ _ _ (fun _ => ?_)) | (with_reducible refine LeO.bind ?_ (fun _ => ?_)) | (with_reducible refine LeO.ite ?_ ?_) | (with_reducible refine LeO.elim (fun _ => ?_) (fun _ => ?_) _) | (with_reducible refine LeO.lp (fun _ => ?_) _) | (with_reducible refine LeO.rg (fun _ _ => ?_) _ _) | (with_reducible refine LeO.allPan (fun _ => ?_) _) | (with_reducible refine LeO.callsL (fun _ => ?_) _ _))
def g94 (x0 : TSpan) : Option Bool :=
  (g61 x0 0 100000).bind fun y4 => some (!y4)
theorem g94_le (x0 : TSpan) : LeO (g94 x0) (f94 x0) := by
  unfold g94 f94
  repeat (first | (with_reducible exact LeO.refl _) | (with_reducible refine g61_le _ _ _) | (with_reducible refine LeO.bind ?_ (fun _ => ?_)) | (with_reducible refine LeO.ite ?_ ?_) | (with_reducible refine LeO.elim (fun _ => ?_) (fun _ => ?_) _) | (with_reducible refine LeO.lp (fun _ => ?_) _) | (with_reducible refine LeO.rg (fun _ _ => ?_) _ _) | (with_reducible refine LeO.allPan (fun _ => ?_) _) | (with_reducible refine LeO.callsL (fun _ => ?_) _ _))
def g93 (x0 : TShipLot) (x1 : Int) : Option Bool :=
  ((if ((x0.Goods.length : Int) != x1) = true then (some true) else ((g62 x0.Weight 0 100000).bind fun y7 => if (!y7) = true then (some true) else ((g62 x0.Cost 0 1000000).bind fun y10 => if (!y10) = true then (some true) else ((g87 x0.Goods (fun (z0 : TSpan) => g94 z0)).bind fun y14 => some y14))) : Option Bool)).bind fun q5 => some q5
theorem g93_le (x0 : TShipLot) (x1 : Int) : LeO (g93 x0 x1) (f93 x0 x1) := by
  unfold g93 f93
  repeat (first | (with_reducible exact LeO.refl _) | (with_reducible refine g62_le _ _ _) | (with_reducible refine g87_le _ _ _ (fun _ => ?_)) | (with_reducible refine g94_le _) | (with_reducible refine LeO.bind ?_ (fun _ => ?_)) | (with_reducible refine LeO.ite ?_ ?_) | (with_reducible refine LeO.elim (fun _ => ?_) (fun _ => ?_) _) | (with_reducible refine LeO.lp (fun _ => ?_) _) | (with_reducible refine LeO.rg (fun _ _ => ?_) _ _) | (with_reducible refine LeO.allPan (fun _ => ?_) _) | (with_reducible refine LeO.callsL (fun _ => ?_) _ _))
def g68 (x0 : TShipStore) : Option Bool :=
  (((g62 (x0.Stock.length : Int) 1 4).bind fun y13 => if y13 = true then (if ((x0.Use.length : Int) == (x0.Stock.length : Int)) = true then ((g61 x0.Gap 1 60).bind fun y17 => if y17 = true then (if (decide ((x0.Lots.length : Int) ≤ 6)) = true then ((g62 x0.Hold 0 100000).bind fun y21 => if y21 = true then ((g85 x0.Stock (fun (z0 : Int) => g90 z0)).bind fun y25 => if (!y25) = true then ((g87 x0.Use (fun (z0 : TSpan) => g91 z0)).bind fun y29 => if (!y29) = true then ((g92 x0.Lots (fun (z0 : TShipLot) => g93 z0 (x0.Stock.length : Int))).bind fun y33 => some (!y33)) else (some false)) else (some false)) else (some false)) else (some false)) else (some false)) else (some false)) else (some false) : Option Bool)).bind fun q12 => some q12
theorem g68_le (x0 : TShipStore) : LeO (g68 x0) (f68 x0) := by
  unfold g68 f68
  repeat (first | (with_reducible exact LeO.refl _) | (with_reducible refine g61_le _ _ _) | (with_reducible refine g62_le _ _ _) | (with_reducible refine g85_le _ _ _ (fun _ => ?_)) | (with_reducible refine g87_le _ _ _ (fun _ => ?_)) | (with_reducible refine g90_le _) | (with_reducible refine g91_le _) | (with_reducible refine g92_le _ _ _ (fun _ => ?_)) | (with_reducible refine g93_le _ _) | (with_reducible refine LeO.bind ?_ (fun _ => ?_)) | (with_reducible refine LeO.ite ?_ ?_) | (with_reducible refine LeO.elim (fun _ => ?_) (fun _ => ?_) _) | (with_reducible refine LeO.lp (fun _ => ?_) _) | (with_reducible refine LeO.rg (fun _ _ => ?_) _ _) | (with_reducible refine LeO.allPan (fun _ => ?_) _) | (with_reducible refine LeO.callsL (fun _ => ?_) _ _))
def g95_b0 (x0 : (List Int)) (s2 : Int × Int) : Option ((Int × Int) ⊕ Int) :=
  if (decide (s2.2 < (x0.length : Int))) = true then ((ix x0 s2.2).bind fun y9 => some (.inl (IntKind.i64.wrap (s2.1 + y9), IntKind.i64.wrap (s2.2 + 1)))) else (some (.inr s2.1))
theorem g95_b0_le (x0 : (List Int)) (s2 : Int × Int) : LeO (g95_b0 x0 s2) (f95_b0 x0 s2) := by
  unfold g95_b0 f95_b0
  repeat (first | (with_reducible exact LeO.refl _) | (with_reducible refine LeO.bind ?_ (fun _ => ?_)) | (with_reducible refine LeO.ite ?_ ?_) | (with_reducible refine LeO.elim (fun _ => ?_) (fun _ => ?_) _) | (with_reducible refine LeO.lp (fun _ => ?_) _) | (with_reducible refine LeO.rg (fun _ _ => ?_) _ _) | (with_reducible refine LeO.allPan (fun _ => ?_) _) | (with_reducible refine LeO.callsL (fun _ => ?_) _ _))
def g95 (x0 : (List Int)) : Option Int :=
  (lpF (g95_b0 x0) (0, 0)).bind fun q4 => some q4
theorem g95_le (x0 : (List Int)) : LeO (g95 x0) (f95 x0) := by
  unfold g95 f95
  repeat (first | (with_reducible exact LeO.refl _) | (with_reducible refine g95_b0_le _ _) | (with_reducible refine LeO.bind ?_ (fun _ => ?_)) | (with_reducible refine LeO.ite ?_ ?_) | (with_reducible refine LeO.elim (fun _ => ?_) (fun _ => ?_) _) | (with_reducible refine LeO.lp (fun _ => ?_) _) | (with_reducible refine LeO.rg (fun _ _ => ?_) _ _) | (with_reducible refine LeO.allPan (fun _ => ?_) _) | (with_reducible refine LeO.callsL (fun _ => ?_) _ _))
def g69_b0 (x0 : TShipStore) (x1 : (List Int)) (s9 : (List Int) × Int) : Option (((List Int) × Int) ⊕ ((List Int) ⊕ Bool)) :=
  if (decide (s9.2 < (x1.length : Int))) = true then ((ix x1 s9.2).bind fun y16 => (((g62 y16 0 (IntKind.i64.wrap ((x0.Lots.length : Int) - 1))).bind fun y19 => if (!y19) = true then (some true) else (if (decide (0 < s9.2)) = true then ((ix x1 (IntKind.i64.wrap (s9.2 - 1))).bind fun y23 => some (decide (y16 ≤ y23))) else (some false)) : Option Bool)).bind fun q18 => if q18 = true then (some (.inr (.inr false))) else ((ix x0.Lots y16).bind fun y28 => (app s9.1 [y28.Weight]).bind fun y34 => some (.inl (y34, IntKind.i64.wrap (s9.2 + 1))))) else (some (.inr (.inl s9.1)))
theorem g69_b0_le (x0 : TShipStore) (x1 : (List Int)) (s9 : (List Int) × Int) : LeO (g69_b0 x0 x1 s9) (f69_b0 x0 x1 s9) := by
  unfold g69_b0 f69_b0
  repeat (first | (with_reducible exact LeO.refl _) | (with_reducible refine g62_le _ _ _) | (with_reducible refine LeO.bind ?_ (fun _ => ?_)) | (with_reducible refine LeO.ite ?_ ?_) | (with_reducible refine LeO.elim (fun _ => ?_) (fun _ => ?_) _) | (with_reducible refine LeO.lp (fun _ => ?_) _) | (with_reducible refine LeO.rg (fun _ _ => ?_) _ _) | (with_reducible refine LeO.allPan (fun _ => ?_) _) | (with_reducible refine LeO.callsL (fun _ => ?_) _ _))
def g69 (x0 : TShipStore) (x1 : (List Int)) : Option Bool :=
  (lpF (g69_b0 x0 x1) ([], 0)).bind fun q11 => Sum.elim (fun p10 : (List Int) => (g95 p10).bind fun y38 => some (decide (y38 ≤ x0.Hold))) (fun v41 : Bool => some v41) q11
theorem g69_le (x0 : TShipStore) (x1 : (List Int)) : LeO (g69 x0 x1) (f69 x0 x1) := by
  unfold g69 f69
  repeat (first | (with_reducible exact LeO.refl _) | (with_reducible refine g69_b0_le _ _ _) | (with_reducible refine g95_le _) | (with_reducible refine LeO.bind ?_ (fun _ => ?_)) | (with_reducible refine LeO.ite ?_ ?_) | (with_reducible refine LeO.elim (fun _ => ?_) (fun _ => ?_) _) | (with_reducible refine LeO.lp (fun _ => ?_) _) | (with_reducible refine LeO.rg (fun _ _ => ?_) _ _) | (with_reducible refine LeO.allPan (fun _ => ?_) _) | (with_reducible refine LeO.callsL (fun _ => ?_) _ _))
def g70 (x0 : Int) : Option Bool :=
  (g62 x0 0 300).bind fun y1 => some y1
theorem g70_le (x0 : Int) : LeO (g70 x0) (f70 x0) := by
  unfold g70 f70
  repeat (first | (with_reducible exact LeO.refl _) | (with_reducible refine g62_le _ _ _) | (with_reducible refine LeO.bind ?_ (fun _ => ?_)) | (with_reducible refine LeO.ite ?_ ?_) | (with_reducible refine LeO.elim (fun _ => ?_) (fun _ => ?_) _) | (with_reducible refine LeO.lp (fun _ => ?_) _) | (with_reducible refine LeO.rg (fun _ _ => ?_) _ _) | (with_reducible refine LeO.allPan (fun _ => ?_) _) | (with_reducible refine LeO.callsL (fun _ => ?_) _ _))
def g96 (x0 : Int) (x1 : TShipStore) : Option Bool :=
  (g62 x0 x1.Gap.Low x1.Gap.High).bind fun y4 => some (!y4)
theorem g96_le (x0 : Int) (x1 : TShipStore) : LeO (g96 x0 x1) (f96 x0 x1) := by
  unfold g96 f96
  repeat (first | (with_reducible exact LeO.refl _) | (with_reducible refine g62_le _ _ _) | (with_reducible refine LeO.bind ?_ (fun _ => ?_)) | (with_reducible refine LeO.ite ?_ ?_) | (with_reducible refine LeO.elim (fun _ => ?_) (fun _ => ?_) _) | (with_reducible refine LeO.lp (fun _ => ?_) _) | (with_reducible refine LeO.rg (fun _ _ => ?_) _ _) | (with_reducible refine LeO.allPan (fun _ => ?_) _) | (with_reducible refine LeO.callsL (fun _ => ?_) _ _))
def g71_b0 (x0 : TShipStore) (x2 : TShipTruth) (s19 : Int) : Option (Int ⊕ (Unit ⊕ Bool)) :=
  if (decide (s19 < (x2.Uses.length : Int))) = true then ((ix x2.Uses s19).bind fun y26 => (ix x0.Use s19).bind fun y28 => (g62 y26 y28.Low y28.High).bind fun y31 => if (!y31) = true then (some (.inr (.inr false))) else (some (.inl (IntKind.i64.wrap (s19 + 1))))) else (some (.inr (.inl ())))
theorem g71_b0_le (x0 : TShipStore) (x2 : TShipTruth) (s19 : Int) : LeO (g71_b0 x0 x2 s19) (f71_b0 x0 x2 s19) := by
  unfold g71_b0 f71_b0
  repeat (first | (with_reducible exact LeO.refl _) | (with_reducible refine g62_le _ _ _) | (with_reducible refine LeO.bind ?_ (fun _ => ?_)) | (with_reducible refine LeO.ite ?_ ?_) | (with_reducible refine LeO.elim (fun _ => ?_) (fun _ => ?_) _) | (with_reducible refine LeO.lp (fun _ => ?_) _) | (with_reducible refine LeO.rg (fun _ _ => ?_) _ _) | (with_reducible refine LeO.allPan (fun _ => ?_) _) | (with_reducible refine LeO.callsL (fun _ => ?_) _ _))
def g71_b2 (s36 : Int) (x0 : TShipStore) (y43 : (List Int)) (s47 : Int) : Option (Int ⊕ (Unit ⊕ Bool)) :=
  if (decide (s47 < (y43.length : Int))) = true then ((ix y43 s47).bind fun y54 => (ix x0.Lots s36).bind fun y56 => (ix y56.Goods s47).bind fun y59 => (g62 y54 y59.Low y59.High).bind fun y66 => if (!y66) = true then (some (.inr (.inr false))) else (some (.inl (IntKind.i64.wrap (s47 + 1))))) else (some (.inr (.inl ())))
theorem g71_b2_le (s36 : Int) (x0 : TShipStore) (y43 : (List Int)) (s47 : Int) : LeO (g71_b2 s36 x0 y43 s47) (f71_b2 s36 x0 y43 s47) := by
  unfold g71_b2 f71_b2
  repeat (first | (with_reducible exact LeO.refl _) | (with_reducible refine g62_le _ _ _) | (with_reducible refine LeO.bind ?_ (fun _ => ?_)) | (with_reducible refine LeO.ite ?_ ?_) | (with_reducible refine LeO.elim (fun _ => ?_) (fun _ => ?_) _) | (with_reducible refine LeO.lp (fun _ => ?_) _) | (with_reducible refine LeO.rg (fun _ _ => ?_) _ _) | (with_reducible refine LeO.allPan (fun _ => ?_) _) | (with_reducible refine LeO.callsL (fun _ => ?_) _ _))
def g71_b1 (x0 : TShipStore) (x2 : TShipTruth) (s36 : Int) : Option (Int ⊕ (Unit ⊕ Bool)) :=
  if (decide (s36 < (x2.Goods.length : Int))) = true then ((ix x2.Goods s36).bind fun y43 => if ((y43.length : Int) != (x0.Stock.length : Int)) = true then (some (.inr (.inr false))) else ((lpF (g71_b2 s36 x0 y43) 0).bind fun q49 => Sum.elim (fun p48 : Unit => some (.inl (IntKind.i64.wrap (s36 + 1)))) (fun v71 : Bool => some (.inr (.inr v71))) q49)) else (some (.inr (.inl ())))
theorem g71_b1_le (x0 : TShipStore) (x2 : TShipTruth) (s36 : Int) : LeO (g71_b1 x0 x2 s36) (f71_b1 x0 x2 s36) := by
  unfold g71_b1 f71_b1
  repeat (first | (with_reducible exact LeO.refl _) | (with_reducible refine g71_b2_le _ _ _ _) | (with_reducible refine LeO.bind ?_ (fun _ => ?_)) | (with_reducible refine LeO.ite ?_ ?_) | (with_reducible refine LeO.elim (fun _ => ?_) (fun _ => ?_) _) | (with_reducible refine LeO.lp (fun _ => ?_) _) | (with_reducible refine LeO.rg (fun _ _ => ?_) _ _) | (with_reducible refine LeO.allPan (fun _ => ?_) _) | (with_reducible refine LeO.callsL (fun _ => ?_) _ _))
def g71 (x0 : TShipStore) (x1 : Int) (x2 : TShipTruth) : Option Bool :=
  ((if ((x2.Uses.length : Int) != (x0.Use.length : Int)) = true then (some true) else (if (decide (300 < (x2.Gaps.length : Int))) = true then (some true) else (some ((x2.Goods.length : Int) != (x0.Lots.length : Int)))) : Option Bool)).bind fun q13 => if q13 = true then (some false) else ((lpF (g71_b0 x0 x2) 0).bind fun q21 => Sum.elim (fun p20 : Unit => (lpF (g71_b1 x0 x2) 0).bind fun q38 => Sum.elim (fun p37 : Unit => (((g85 x2.Gaps (fun (z0 : Int) => g96 z0 x0)).bind fun y76 => if (!y76) = true then ((g95 x2.Gaps).bind fun y79 => some (decide (x1 ≤ y79))) else (some false) : Option Bool)).bind fun q74 => some q74) (fun v83 : Bool => some v83) q38) (fun v84 : Bool => some v84) q21)
theorem g71_le (x0 : TShipStore) (x1 : Int) (x2 : TShipTruth) : LeO (g71 x0 x1 x2) (f71 x0 x1 x2) := by
  unfold g71 f71
  repeat (first | (with_reducible exact LeO.refl _) | (with_reducible refine g71_b0_le _ _ _) | (with_reducible refine g71_b1_le _ _ _) | (with_reducible refine g85_le _ _ _ (fun _ => ?_)) | (with_reducible refine g95_le _) | (with_reducible refine g96_le _ _) | (with_reducible refine LeO.bind ?_ (fun _ => ?_)) | (with_reducible refine LeO.ite ?_ ?_) | (with_reducible refine LeO.elim (fun _ => ?_) (fun _ => ?_) _) | (with_reducible refine LeO.lp (fun _ => ?_) _) | (with_reducible refine LeO.rg (fun _ _ => ?_) _ _) | (with_reducible refine LeO.allPan (fun _ => ?_) _) | (with_reducible refine LeO.callsL (fun _ => ?_) _ _))
def g97_b0 (x0 : TStore) (x1 : Int) (s10 : Int × Int) : Option ((Int × Int) ⊕ Int) :=
  if (decide (s10.2 < (x0.load.length : Int))) = true then ((ix x0.load s10.2).bind fun y17 => (ix x0.truth.Goods y17).bind fun y19 => (ix y19 x1).bind fun y22 => some (.inl (IntKind.i64.wrap (s10.1 + y22), IntKind.i64.wrap (s10.2 + 1)))) else (some (.inr s10.1))
theorem g97_b0_le (x0 : TStore) (x1 : Int) (s10 : Int × Int) : LeO (g97_b0 x0 x1 s10) (f97_b0 x0 x1 s10) := by
  unfold g97_b0 f97_b0
  repeat (first | (with_reducible exact LeO.refl _) | (with_reducible refine LeO.bind ?_ (fun _ => ?_)) | (with_reducible refine LeO.ite ?_ ?_) | (with_reducible refine LeO.elim (fun _ => ?_) (fun _ => ?_) _) | (with_reducible refine LeO.lp (fun _ => ?_) _) | (with_reducible refine LeO.rg (fun _ _ => ?_) _ _) | (with_reducible refine LeO.allPan (fun _ => ?_) _) | (with_reducible refine LeO.callsL (fun _ => ?_) _ _))
def g97 (x0 : TStore) (x1 : Int) (x2 : Int) (x3 : Bool) : Option (Int × Bool) :=
  ((if x3 = true then ((lpF (g97_b0 x0 x1) (x2, 0)).bind fun q12 => some q12) else (some x2) : Option Int)).bind fun q8 => (ix x0.truth.Uses x1).bind fun y28 => if (decide (q8 < y28)) = true then (some (0, true)) else (some (IntKind.i64.wrap (q8 - y28), false))
theorem g97_le (x0 : TStore) (x1 : Int) (x2 : Int) (x3 : Bool) : LeO (g97 x0 x1 x2 x3) (f97 x0 x1 x2 x3) := by
  unfold g97 f97
  repeat (first | (with_reducible exact LeO.refl _) | (with_reducible refine g97_b0_le _ _ _) | (with_reducible refine LeO.bind ?_ (fun _ => ?_)) | (with_reducible refine LeO.ite ?_ ?_) | (with_reducible refine LeO.elim (fun _ => ?_) (fun _ => ?_) _) | (with_reducible refine LeO.lp (fun _ => ?_) _) | (with_reducible refine LeO.rg (fun _ _ => ?_) _ _) | (with_reducible refine LeO.allPan (fun _ => ?_) _) | (with_reducible refine LeO.callsL (fun _ => ?_) _ _))
def g72_b0 (x0 : TStore) (x1 : Int) (x2 : Int) (s16 : Int × Int × Int × Int × Int) : Option ((Int × Int × Int × Int × Int) ⊕ (Int × Int)) :=
  if (decide (s16.2.2.2.2 < x2)) = true then (((if (s16.2.2.2.2 == s16.2.2.1) = true then (if (decide ((IntKind.i64.wrap (s16.2.2.2.1 + 1)) < (x0.truth.Gaps.length : Int))) = true then ((ix x0.truth.Gaps (IntKind.i64.wrap (s16.2.2.2.1 + 1))).bind fun y26 => some (IntKind.i64.wrap (s16.2.2.1 + y26), IntKind.i64.wrap (s16.2.2.2.1 + 1))) else (some (s16.2.2.1, IntKind.i64.wrap (s16.2.2.2.1 + 1)))) else (some (s16.2.2.1, s16.2.2.2.1)) : Option (Int × Int))).bind fun q23 => (g97 x0 x1 s16.2.1 (s16.2.2.2.2 == s16.2.2.1)).bind fun y30 => ((((if y30.2 = true then (some (decide (s16.1 < 0))) else (some false) : Option Bool)).bind fun q34 => if q34 = true then (some s16.2.2.2.2) else (some s16.1) : Option Int)).bind fun q33 => some (.inl (q33, y30.1, q23.1, q23.2, IntKind.i64.wrap (s16.2.2.2.2 + 1)))) else (some (.inr (s16.1, s16.2.1)))
theorem g72_b0_le (x0 : TStore) (x1 : Int) (x2 : Int) (s16 : Int × Int × Int × Int × Int) : LeO (g72_b0 x0 x1 x2 s16) (f72_b0 x0 x1 x2 s16) := by
  unfold g72_b0 f72_b0
  repeat (first | (with_reducible exact LeO.refl _) | (with_reducible refine g97_le _ _ _ _) | (with_reducible refine LeO.bind ?_ (fun _ => ?_)) | (with_reducible refine LeO.ite ?_ ?_) | (with_reducible refine LeO.elim (fun _ => ?_) (fun _ => ?_) _) | (with_reducible refine LeO.lp (fun _ => ?_) _) | (with_reducible refine LeO.rg (fun _ _ => ?_) _ _) | (with_reducible refine LeO.allPan (fun _ => ?_) _) | (with_reducible refine LeO.callsL (fun _ => ?_) _ _))
def g72 (x0 : TStore) (x1 : Int) (x2 : Int) : Option (Int × Int) :=
  (ix x0.ShipStore.Stock x1).bind fun y8 => ((if (decide (0 < (x0.truth.Gaps.length : Int))) = true then ((ix x0.truth.Gaps 0).bind fun y12 => some y12) else (some (-1)) : Option Int)).bind fun q10 => (lpF (g72_b0 x0 x1 x2) ((-1), y8, q10, 0, 0)).bind fun q18 => some (q18.1, q18.2)
theorem g72_le (x0 : TStore) (x1 : Int) (x2 : Int) : LeO (g72 x0 x1 x2) (f72 x0 x1 x2) := by
  unfold g72 f72
  repeat (first | (with_reducible exact LeO.refl _) | (with_reducible refine g72_b0_le _ _ _ _) | (with_reducible refine LeO.bind ?_ (fun _ => ?_)) | (with_reducible refine LeO.ite ?_ ?_) | (with_reducible refine LeO.elim (fun _ => ?_) (fun _ => ?_) _) | (with_reducible refine LeO.lp (fun _ => ?_) _) | (with_reducible refine LeO.rg (fun _ _ => ?_) _ _) | (with_reducible refine LeO.allPan (fun _ => ?_) _) | (with_reducible refine LeO.callsL (fun _ => ?_) _ _))
def g26_b0 (x0 : TShipStore) (x1 : (List Int)) (x2 : Int) (x3 : TShipTruth) (s34 : (List Int) × (List Int) × Int) : Option (((List Int) × (List Int) × Int) ⊕ ((List Int) × (List Int))) :=
  if (decide (s34.2.2 < (x0.Stock.length : Int))) = true then ((g72 (⟨x0, x1, x3⟩ : TStore) s34.2.2 x2).bind fun y41 => (app s34.1 [y41.1]).bind fun y47 => (app s34.2.1 [y41.2]).bind fun y52 => some (.inl (y47, y52, IntKind.i64.wrap (s34.2.2 + 1)))) else (some (.inr (s34.1, s34.2.1)))
theorem g26_b0_le (x0 : TShipStore) (x1 : (List Int)) (x2 : Int) (x3 : TShipTruth) (s34 : (List Int) × (List Int) × Int) : LeO (g26_b0 x0 x1 x2 x3 s34) (f26_b0 x0 x1 x2 x3 s34) := by
  unfold g26_b0 f26_b0
  repeat (first | (with_reducible exact LeO.refl _) | (with_reducible refine g72_le _ _ _) | (with_reducible refine LeO.bind ?_ (fun _ => ?_)) | (with_reducible refine LeO.ite ?_ ?_) | (with_reducible refine LeO.elim (fun _ => ?_) (fun _ => ?_) _) | (with_reducible refine LeO.lp (fun _ => ?_) _) | (with_reducible refine LeO.rg (fun _ _ => ?_) _ _) | (with_reducible refine LeO.allPan (fun _ => ?_) _) | (with_reducible refine LeO.callsL (fun _ => ?_) _ _))
def g26 (x0 : TShipStore) (x1 : (List Int)) (x2 : Int) (x3 : TShipTruth) : Option ((List Int) × (List Int) × Int) :=
  (((g68 x0).bind fun y15 => if (!y15) = true then (some true) else ((g69 x0 x1).bind fun y18 => if (!y18) = true then (some true) else ((g70 x2).bind fun y21 => if (!y21) = true then (some true) else ((g71 x0 x2 x3).bind fun y24 => some (!y24)))) : Option Bool)).bind fun q14 => if q14 = true then (some ([], [], 2)) else ((lpF (g26_b0 x0 x1 x2 x3) ([], [], 0)).bind fun q36 => some (q36.1, q36.2, 0))
theorem g26_le (x0 : TShipStore) (x1 : (List Int)) (x2 : Int) (x3 : TShipTruth) : LeO (g26 x0 x1 x2 x3) (f26 x0 x1 x2 x3) := by
  unfold g26 f26
  repeat (first | (with_reducible exact LeO.refl _) | (with_reducible refine g26_b0_le _ _ _ _ _) | (with_reducible refine g68_le _) | (with_reducible refine g69_le _ _) | (with_reducible refine g70_le _) | (with_reducible refine g71_le _ _ _) | (with_reducible refine LeO.bind ?_ (fun _ => ?_)) | (with_reducible refine LeO.ite ?_ ?_) | (with_reducible refine LeO.elim (fun _ => ?_) (fun _ => ?_) _) | (with_reducible refine LeO.lp (fun _ => ?_) _) | (with_reducible refine LeO.rg (fun _ _ => ?_) _ _) | (with_reducible refine LeO.allPan (fun _ => ?_) _) | (with_reducible refine LeO.callsL (fun _ => ?_) _ _))
def g111_b0 (x0 : (List TSpan)) (x1 : (TSpan → Option Int)) (s4 : (List Int) × Int) : Option (((List Int) × Int) ⊕ (List Int)) :=
  if (decide (s4.2 < (x0.length : Int))) = true then ((ix x0 s4.2).bind fun y11 => (x1 y11).bind fun y18 => (app s4.1 [y18]).bind fun y23 => some (.inl (y23, IntKind.i64.wrap (s4.2 + 1)))) else (some (.inr s4.1))
theorem g111_b0_le (x0 : (List TSpan)) (x1 : (TSpan → Option Int)) (s4 : (List Int) × Int) (x1q : (TSpan → Option Int)) (hx1 : ∀ z0, LeO (x1 z0) (x1q z0)) : LeO (g111_b0 x0 x1 s4) (f111_b0 x0 x1q s4) := by
  unfold g111_b0 f111_b0
  repeat (first | (with_reducible exact hx1 _) | (with_reducible exact LeO.refl _) | (with_reducible refine LeO.bind ?_ (fun _ => ?_)) | (with_reducible refine LeO.ite ?_ ?_) | (with_reducible refine LeO.elim (fun _ => ?_) (fun _ => ?_) _) | (with_reducible refine LeO.lp (fun _ => ?_) _) | (with_reducible refine LeO.rg (fun _ _ => ?_) _ _) | (with_reducible refine LeO.allPan (fun _ => ?_) _) | (with_reducible refine LeO.callsL (fun _ => ?_) _ _))
def g111 (x0 : (List TSpan)) (x1 : (TSpan → Option Int)) : Option (List Int) :=
  (lpF (g111_b0 x0 x1) ([], 0)).bind fun q6 => some q6
theorem g111_le (x0 : (List TSpan)) (x1 : (TSpan → Option Int)) (x1q : (TSpan → Option Int)) (hx1 : ∀ z0, LeO (x1 z0) (x1q z0)) : LeO (g111 x0 x1) (f111 x0 x1q) := by
  unfold g111 f111
  repeat (first | (with_reducible exact hx1 _) | (with_reducible exact LeO.refl _) | (with_reducible refine g111_b0_le _ _ _ _ (fun _ => ?_)) | (with_reducible refine LeO.bind ?_ (fun _ => ?_)) | (with_reducible refine LeO.ite ?_ ?_) | (with_reducible refine LeO.elim (fun _ => ?_) (fun _ => ?_) _) | (with_reducible refine LeO.lp (fun _ => ?_) _) | (with_reducible refine LeO.rg (fun _ _ => ?_) _ _) | (with_reducible refine LeO.allPan (fun _ => ?_) _) | (with_reducible refine LeO.callsL (fun _ => ?_) _ _))
def g98_b0 (x0 : TShipStore) (x2 : Int) (x3 : (TSpan → Option Int)) (s20 : Int × TShipTruth) : Option ((Int × TShipTruth) ⊕ TShipTruth) :=
  if (decide (s20.1 < x2)) = true then ((x3 x0.Gap).bind fun y27 => (app s20.2.Gaps [y27]).bind fun y32 => (x3 x0.Gap).bind fun y35 => some (.inl (IntKind.i64.wrap (s20.1 + y35), (⟨s20.2.Uses, y32, s20.2.Goods⟩ : TShipTruth)))) else (some (.inr s20.2))
theorem g98_b0_le (x0 : TShipStore) (x2 : Int) (x3 : (TSpan → Option Int)) (s20 : Int × TShipTruth) (x3q : (TSpan → Option Int)) (hx3 : ∀ z0, LeO (x3 z0) (x3q z0)) : LeO (g98_b0 x0 x2 x3 s20) (f98_b0 x0 x2 x3q s20) := by
  unfold g98_b0 f98_b0
  repeat (first | (with_reducible exact hx3 _) | (with_reducible exact LeO.refl _) | (with_reducible refine LeO.bind ?_ (fun _ => ?_)) | (with_reducible refine LeO.ite ?_ ?_) | (with_reducible refine LeO.elim (fun _ => ?_) (fun _ => ?_) _) | (with_reducible refine LeO.lp (fun _ => ?_) _) | (with_reducible refine LeO.rg (fun _ _ => ?_) _ _) | (with_reducible refine LeO.allPan (fun _ => ?_) _) | (with_reducible refine LeO.callsL (fun _ => ?_) _ _))
def g98_b1 (x0 : TShipStore) (x4 : (TSpan → Option Int)) (s39 : Int × TShipTruth) : Option ((Int × TShipTruth) ⊕ TShipTruth) :=
  if (decide (s39.1 < (x0.Lots.length : Int))) = true then ((ix x0.Lots s39.1).bind fun y46 => (g111 y46.Goods x4).bind fun y54 => (app s39.2.Goods [y54]).bind fun y61 => some (.inl (IntKind.i64.wrap (s39.1 + 1), (⟨s39.2.Uses, s39.2.Gaps, y61⟩ : TShipTruth)))) else (some (.inr s39.2))
theorem g98_b1_le (x0 : TShipStore) (x4 : (TSpan → Option Int)) (s39 : Int × TShipTruth) (x4q : (TSpan → Option Int)) (hx4 : ∀ z0, LeO (x4 z0) (x4q z0)) : LeO (g98_b1 x0 x4 s39) (f98_b1 x0 x4q s39) := by
  unfold g98_b1 f98_b1
  repeat (first | (with_reducible exact hx4 _) | (with_reducible exact LeO.refl _) | (with_reducible refine g111_le _ _ _ (fun _ => ?_)) | (with_reducible refine LeO.bind ?_ (fun _ => ?_)) | (with_reducible refine LeO.ite ?_ ?_) | (with_reducible refine LeO.elim (fun _ => ?_) (fun _ => ?_) _) | (with_reducible refine LeO.lp (fun _ => ?_) _) | (with_reducible refine LeO.rg (fun _ _ => ?_) _ _) | (with_reducible refine LeO.allPan (fun _ => ?_) _) | (with_reducible refine LeO.callsL (fun _ => ?_) _ _))
def g98 (x0 : TShipStore) (x1 : (List Int)) (x2 : Int) (x3 : (TSpan → Option Int)) (x4 : (TSpan → Option Int)) : Option TStore :=
  (g111 x0.Use x3).bind fun y10 => (lpF (g98_b0 x0 x2 x3) (0, (⟨y10, [], []⟩ : TShipTruth))).bind fun q22 => (lpF (g98_b1 x0 x4) (0, q22)).bind fun q41 => some (⟨(⟨x0.Stock, x0.Use, (⟨x0.Gap.Low, x0.Gap.High⟩ : TSpan), x0.Lots, x0.Hold⟩ : TShipStore), x1, (⟨q41.Uses, q41.Gaps, q41.Goods⟩ : TShipTruth)⟩ : TStore)
theorem g98_le (x0 : TShipStore) (x1 : (List Int)) (x2 : Int) (x3 : (TSpan → Option Int)) (x4 : (TSpan → Option Int)) (x3q : (TSpan → Option Int)) (hx3 : ∀ z0, LeO (x3 z0) (x3q z0)) (x4q : (TSpan → Option Int)) (hx4 : ∀ z0, LeO (x4 z0) (x4q z0)) : LeO (g98 x0 x1 x2 x3 x4) (f98 x0 x1 x2 x3q x4q) := by
  unfold g98 f98
  repeat (first | (with_reducible exact hx3 _) | (with_reducible exact hx4 _) | (with_reducible exact LeO.refl _) | (with_reducible refine g111_le _ _ _ (fun _ => ?_)) | (with_reducible refine g98_b0_le _ _ _ _ _ (fun _ => ?_)) | (with_reducible refine g98_b1_le _ _ _ _ (fun _ => ?_)) | (with_reducible refine LeO.bind ?_ (fun _ => ?_)) | (with_reducible refine LeO.ite ?_ ?_) | (with_reducible refine LeO.elim (fun _ => ?_) (fun _ => ?_) _) | (with_reducible refine LeO.lp (fun _ => ?_) _) | (with_reducible refine LeO.rg (fun _ _ => ?_) _ _) | (with_reducible refine LeO.allPan (fun _ => ?_) _) | (with_reducible refine LeO.callsL (fun _ => ?_) _ _))
def g99 (x0 : TSpan) : Option Int :=
  some x0.High
theorem g99_le (x0 : TSpan) : LeO (g99 x0) (f99 x0) := by
  unfold g99 f99
  repeat (first | (with_reducible exact LeO.refl _) | (with_reducible refine LeO.bind ?_ (fun _ => ?_)) | (with_reducible refine LeO.ite ?_ ?_) | (with_reducible refine LeO.elim (fun _ => ?_) (fun _ => ?_) _) | (with_reducible refine LeO.lp (fun _ => ?_) _) | (with_reducible refine LeO.rg (fun _ _ => ?_) _ _) | (with_reducible refine LeO.allPan (fun _ => ?_) _) | (with_reducible refine LeO.callsL (fun _ => ?_) _ _))
def g100 (x0 : TSpan) : Option Int :=
  some x0.Low
theorem g100_le (x0 : TSpan) : LeO (g100 x0) (f100 x0) := by
  unfold g100 f100
  repeat (first | (with_reducible exact LeO.refl _) | (with_reducible refine LeO.bind ?_ (fun _ => ?_)) | (with_reducible refine LeO.ite ?_ ?_) | (with_reducible refine LeO.elim (fun _ => ?_) (fun _ => ?_) _) | (with_reducible refine LeO.lp (fun _ => ?_) _) | (with_reducible refine LeO.rg (fun _ _ => ?_) _ _) | (with_reducible refine LeO.allPan (fun _ => ?_) _) | (with_reducible refine LeO.callsL (fun _ => ?_) _ _))
def g74 (x0 : TShipStore) (x1 : (List Int)) (x2 : Int) : Option TStore :=
  (g98 x0 x1 x2 (fun (z0 : TSpan) => g99 z0) (fun (z0 : TSpan) => g100 z0)).bind fun y10 => some y10
theorem g74_le (x0 : TShipStore) (x1 : (List Int)) (x2 : Int) : LeO (g74 x0 x1 x2) (f74 x0 x1 x2) := by
  unfold g74 f74
  repeat (first | (with_reducible exact LeO.refl _) | (with_reducible refine g100_le _) | (with_reducible refine g98_le _ _ _ _ _ _ (fun _ => ?_) _ (fun _ => ?_)) | (with_reducible refine g99_le _) | (with_reducible refine LeO.bind ?_ (fun _ => ?_)) | (with_reducible refine LeO.ite ?_ ?_) | (with_reducible refine LeO.elim (fun _ => ?_) (fun _ => ?_) _) | (with_reducible refine LeO.lp (fun _ => ?_) _) | (with_reducible refine LeO.rg (fun _ _ => ?_) _ _) | (with_reducible refine LeO.allPan (fun _ => ?_) _) | (with_reducible refine LeO.callsL (fun _ => ?_) _ _))
def g75 (x0 : TShipStore) (x1 : (List Int)) (x2 : Int) : Option TStore :=
  (g98 x0 x1 x2 (fun (z0 : TSpan) => g100 z0) (fun (z0 : TSpan) => g99 z0)).bind fun y10 => some y10
theorem g75_le (x0 : TShipStore) (x1 : (List Int)) (x2 : Int) : LeO (g75 x0 x1 x2) (f75 x0 x1 x2) := by
  unfold g75 f75
  repeat (first | (with_reducible exact LeO.refl _) | (with_reducible refine g100_le _) | (with_reducible refine g98_le _ _ _ _ _ _ (fun _ => ?_) _ (fun _ => ?_)) | (with_reducible refine g99_le _) | (with_reducible refine LeO.bind ?_ (fun _ => ?_)) | (with_reducible refine LeO.ite ?_ ?_) | (with_reducible refine LeO.elim (fun _ => ?_) (fun _ => ?_) _) | (with_reducible refine LeO.lp (fun _ => ?_) _) | (with_reducible refine LeO.rg (fun _ _ => ?_) _ _) | (with_reducible refine LeO.allPan (fun _ => ?_) _) | (with_reducible refine LeO.callsL (fun _ => ?_) _ _))
def g30_b0 (x0 : TShipStore) (x2 : Int) (y20 : TStore) (y31 : TStore) (s43 : (List TShipWant) × Int) : Option (((List TShipWant) × Int) ⊕ (List TShipWant)) :=
  if (decide (s43.2 < (x0.Stock.length : Int))) = true then ((g72 y20 s43.2 x2).bind fun y50 => (g72 y31 s43.2 x2).bind fun y53 => (app s43.1 [(⟨y50.1, y53.1⟩ : TShipWant)]).bind fun y59 => some (.inl (y59, IntKind.i64.wrap (s43.2 + 1)))) else (some (.inr s43.1))
theorem g30_b0_le (x0 : TShipStore) (x2 : Int) (y20 : TStore) (y31 : TStore) (s43 : (List TShipWant) × Int) : LeO (g30_b0 x0 x2 y20 y31 s43) (f30_b0 x0 x2 y20 y31 s43) := by
  unfold g30_b0 f30_b0
  repeat (first | (with_reducible exact LeO.refl _) | (with_reducible refine g72_le _ _ _) | (with_reducible refine LeO.bind ?_ (fun _ => ?_)) | (with_reducible refine LeO.ite ?_ ?_) | (with_reducible refine LeO.elim (fun _ => ?_) (fun _ => ?_) _) | (with_reducible refine LeO.lp (fun _ => ?_) _) | (with_reducible refine LeO.rg (fun _ _ => ?_) _ _) | (with_reducible refine LeO.allPan (fun _ => ?_) _) | (with_reducible refine LeO.callsL (fun _ => ?_) _ _))
def g30 (x0 : TShipStore) (x1 : (List Int)) (x2 : Int) : Option ((List TShipWant) × Int) :=
  (((g68 x0).bind fun y9 => if (!y9) = true then (some true) else ((g69 x0 x1).bind fun y12 => if (!y12) = true then (some true) else ((g70 x2).bind fun y15 => some (!y15))) : Option Bool)).bind fun q8 => if q8 = true then (some ([], 2)) else ((g74 x0 x1 x2).bind fun y20 => (g75 x0 x1 x2).bind fun y31 => (lpF (g30_b0 x0 x2 y20 y31) ([], 0)).bind fun q45 => some (q45, 0))
theorem g30_le (x0 : TShipStore) (x1 : (List Int)) (x2 : Int) : LeO (g30 x0 x1 x2) (f30 x0 x1 x2) := by
  unfold g30 f30
  repeat (first | (with_reducible exact LeO.refl _) | (with_reducible refine g30_b0_le _ _ _ _ _) | (with_reducible refine g68_le _) | (with_reducible refine g69_le _ _) | (with_reducible refine g70_le _) | (with_reducible refine g74_le _ _ _) | (with_reducible refine g75_le _ _ _) | (with_reducible refine LeO.bind ?_ (fun _ => ?_)) | (with_reducible refine LeO.ite ?_ ?_) | (with_reducible refine LeO.elim (fun _ => ?_) (fun _ => ?_) _) | (with_reducible refine LeO.lp (fun _ => ?_) _) | (with_reducible refine LeO.rg (fun _ _ => ?_) _ _) | (with_reducible refine LeO.allPan (fun _ => ?_) _) | (with_reducible refine LeO.callsL (fun _ => ?_) _ _))
def g102 (x0 : TStore) (x1 : Int) (x2 : Int) : Option ((Unit) ⊕ Int) :=
  (g72 x0 x1 x2).bind fun y8 => if (decide (0 ≤ y8.1)) = true then (some (.inr y8.1)) else (some (.inl ()))
theorem g102_le (x0 : TStore) (x1 : Int) (x2 : Int) : LeO (g102 x0 x1 x2) (f102 x0 x1 x2) := by
  unfold g102 f102
  repeat (first | (with_reducible exact LeO.refl _) | (with_reducible refine g72_le _ _ _) | (with_reducible refine LeO.bind ?_ (fun _ => ?_)) | (with_reducible refine LeO.ite ?_ ?_) | (with_reducible refine LeO.elim (fun _ => ?_) (fun _ => ?_) _) | (with_reducible refine LeO.lp (fun _ => ?_) _) | (with_reducible refine LeO.rg (fun _ _ => ?_) _ _) | (with_reducible refine LeO.allPan (fun _ => ?_) _) | (with_reducible refine LeO.callsL (fun _ => ?_) _ _))
def g76 (x0 : TStore) (x1 : Int) (x2 : (List Int)) : Option Bool :=
  allPan (fun k => g102 x0 k x1) x2
theorem g76_le (x0 : TStore) (x1 : Int) (x2 : (List Int)) : LeO (g76 x0 x1 x2) (f76 x0 x1 x2) := by
  unfold g76 f76
  repeat (first | (with_reducible exact LeO.refl _) | (with_reducible refine g102_le _ _ _) | (with_reducible refine LeO.bind ?_ (fun _ => ?_)) | (with_reducible refine LeO.ite ?_ ?_) | (with_reducible refine LeO.elim (fun _ => ?_) (fun _ => ?_) _) | (with_reducible refine LeO.lp (fun _ => ?_) _) | (with_reducible refine LeO.rg (fun _ _ => ?_) _ _) | (with_reducible refine LeO.allPan (fun _ => ?_) _) | (with_reducible refine LeO.callsL (fun _ => ?_) _ _))
def g32_b0 (x0 : TShipStore) (s32 : (List Int) × Int) : Option (((List Int) × Int) ⊕ (List Int)) :=
  if (decide (s32.2 < (x0.Use.length : Int))) = true then ((ix x0.Use s32.2).bind fun y39 => ((fun (z0 : TSpan) => g99 z0) y39).bind fun y46 => (app s32.1 [y46]).bind fun y51 => some (.inl (y51, IntKind.i64.wrap (s32.2 + 1)))) else (some (.inr s32.1))
theorem g32_b0_le (x0 : TShipStore) (s32 : (List Int) × Int) : LeO (g32_b0 x0 s32) (f32_b0 x0 s32) := by
  unfold g32_b0 f32_b0
  repeat (first | (with_reducible exact LeO.refl _) | (with_reducible refine g99_le _) | (with_reducible refine LeO.bind ?_ (fun _ => ?_)) | (with_reducible refine LeO.ite ?_ ?_) | (with_reducible refine LeO.elim (fun _ => ?_) (fun _ => ?_) _) | (with_reducible refine LeO.lp (fun _ => ?_) _) | (with_reducible refine LeO.rg (fun _ _ => ?_) _ _) | (with_reducible refine LeO.allPan (fun _ => ?_) _) | (with_reducible refine LeO.callsL (fun _ => ?_) _ _))
def g32_b1 (x0 : TShipStore) (x2 : Int) (s61 : Int × TShipTruth) : Option ((Int × TShipTruth) ⊕ TShipTruth) :=
  if (decide (s61.1 < x2)) = true then (((fun (z0 : TSpan) => g99 z0) x0.Gap).bind fun y68 => (app s61.2.Gaps [y68]).bind fun y73 => ((fun (z0 : TSpan) => g99 z0) x0.Gap).bind fun y76 => some (.inl (IntKind.i64.wrap (s61.1 + y76), (⟨s61.2.Uses, y73, s61.2.Goods⟩ : TShipTruth)))) else (some (.inr s61.2))
theorem g32_b1_le (x0 : TShipStore) (x2 : Int) (s61 : Int × TShipTruth) : LeO (g32_b1 x0 x2 s61) (f32_b1 x0 x2 s61) := by
  unfold g32_b1 f32_b1
  repeat (first | (with_reducible exact LeO.refl _) | (with_reducible refine g99_le _) | (with_reducible refine LeO.bind ?_ (fun _ => ?_)) | (with_reducible refine LeO.ite ?_ ?_) | (with_reducible refine LeO.elim (fun _ => ?_) (fun _ => ?_) _) | (with_reducible refine LeO.lp (fun _ => ?_) _) | (with_reducible refine LeO.rg (fun _ _ => ?_) _ _) | (with_reducible refine LeO.allPan (fun _ => ?_) _) | (with_reducible refine LeO.callsL (fun _ => ?_) _ _))
def g32_b3 (y87 : TShipLot) (s96 : (List Int) × Int × TShipTruth) : Option (((List Int) × Int × TShipTruth) ⊕ ((List Int) × TShipTruth)) :=
  if (decide (s96.2.1 < (y87.Goods.length : Int))) = true then ((ix y87.Goods s96.2.1).bind fun y103 => ((fun (z0 : TSpan) => g100 z0) y103).bind fun y110 => (app s96.1 [y110]).bind fun y115 => some (.inl (y115, IntKind.i64.wrap (s96.2.1 + 1), s96.2.2))) else (some (.inr (s96.1, s96.2.2)))
theorem g32_b3_le (y87 : TShipLot) (s96 : (List Int) × Int × TShipTruth) : LeO (g32_b3 y87 s96) (f32_b3 y87 s96) := by
  unfold g32_b3 f32_b3
  repeat (first | (with_reducible exact LeO.refl _) | (with_reducible refine g100_le _) | (with_reducible refine LeO.bind ?_ (fun _ => ?_)) | (with_reducible refine LeO.ite ?_ ?_) | (with_reducible refine LeO.elim (fun _ => ?_) (fun _ => ?_) _) | (with_reducible refine LeO.lp (fun _ => ?_) _) | (with_reducible refine LeO.rg (fun _ _ => ?_) _ _) | (with_reducible refine LeO.allPan (fun _ => ?_) _) | (with_reducible refine LeO.callsL (fun _ => ?_) _ _))
def g32_b2 (x0 : TShipStore) (s80 : Int × TShipTruth) : Option ((Int × TShipTruth) ⊕ TShipTruth) :=
  if (decide (s80.1 < (x0.Lots.length : Int))) = true then ((ix x0.Lots s80.1).bind fun y87 => (lpF (g32_b3 y87) ([], 0, s80.2)).bind fun q98 => (app q98.2.Goods [q98.1]).bind fun y123 => some (.inl (IntKind.i64.wrap (s80.1 + 1), (⟨q98.2.Uses, q98.2.Gaps, y123⟩ : TShipTruth)))) else (some (.inr s80.2))
theorem g32_b2_le (x0 : TShipStore) (s80 : Int × TShipTruth) : LeO (g32_b2 x0 s80) (f32_b2 x0 s80) := by
  unfold g32_b2 f32_b2
  repeat (first | (with_reducible exact LeO.refl _) | (with_reducible refine g32_b3_le _ _) | (with_reducible refine LeO.bind ?_ (fun _ => ?_)) | (with_reducible refine LeO.ite ?_ ?_) | (with_reducible refine LeO.elim (fun _ => ?_) (fun _ => ?_) _) | (with_reducible refine LeO.lp (fun _ => ?_) _) | (with_reducible refine LeO.rg (fun _ _ => ?_) _ _) | (with_reducible refine LeO.allPan (fun _ => ?_) _) | (with_reducible refine LeO.callsL (fun _ => ?_) _ _))
def g32_b4 (x2 : Int) (x3 : Int) (y131 : Int) (s133 : Int × TStore) : Option ((Int × TStore) ⊕ (TStore ⊕ (Int × Int))) :=
  if (decide (0 < s133.1)) = true then ((ix s133.2.truth.Uses x3).bind fun y140 => (setIx s133.2.truth.Uses x3 (IntKind.i64.wrap ((IntKind.i64.wrap ((IntKind.i64.wrap (y131 * s133.1)) + 999)).tdiv 1000))).bind fun y142 => (g76 (⟨(⟨s133.2.ShipStore.Stock, s133.2.ShipStore.Use, (⟨s133.2.ShipStore.Gap.Low, s133.2.ShipStore.Gap.High⟩ : TSpan), s133.2.ShipStore.Lots, s133.2.ShipStore.Hold⟩ : TShipStore), s133.2.load, (⟨y142, s133.2.truth.Gaps, s133.2.truth.Goods⟩ : TShipTruth)⟩ : TStore) x2 [x3]).bind fun y151 => if y151 = true then (some (.inr (.inr (s133.1, 0)))) else (some (.inl (IntKind.i64.wrap (s133.1 - 1), (⟨(⟨s133.2.ShipStore.Stock, s133.2.ShipStore.Use, (⟨s133.2.ShipStore.Gap.Low, s133.2.ShipStore.Gap.High⟩ : TSpan), s133.2.ShipStore.Lots, s133.2.ShipStore.Hold⟩ : TShipStore), s133.2.load, (⟨y142, s133.2.truth.Gaps, s133.2.truth.Goods⟩ : TShipTruth)⟩ : TStore))))) else (some (.inr (.inl s133.2)))
theorem g32_b4_le (x2 : Int) (x3 : Int) (y131 : Int) (s133 : Int × TStore) : LeO (g32_b4 x2 x3 y131 s133) (f32_b4 x2 x3 y131 s133) := by
  unfold g32_b4 f32_b4
  repeat (first | (with_reducible exact LeO.refl _) | (with_reducible refine g76_le _ _ _) | (with_reducible refine LeO.bind ?_ (fun _ => ?_)) | (with_reducible refine LeO.ite ?_ ?_) | (with_reducible refine LeO.elim (fun _ => ?_) (fun _ => ?_) _) | (with_reducible refine LeO.lp (fun _ => ?_) _) | (with_reducible refine LeO.rg (fun _ _ => ?_) _ _) | (with_reducible refine LeO.allPan (fun _ => ?_) _) | (with_reducible refine LeO.callsL (fun _ => ?_) _ _))
def g32 (x0 : TShipStore) (x1 : (List Int)) (x2 : Int) (x3 : Int) : Option (Int × Int) :=
  (((g68 x0).bind fun y9 => if (!y9) = true then (some true) else ((g69 x0 x1).bind fun y12 => if (!y12) = true then (some true) else ((g70 x2).bind fun y15 => if (!y15) = true then (some true) else ((g62 x3 0 (IntKind.i64.wrap ((x0.Stock.length : Int) - 1))).bind fun y18 => some (!y18)))) : Option Bool)).bind fun q8 => if q8 = true then (some (0, 2)) else ((lpF (g32_b0 x0) ([], 0)).bind fun q34 => (lpF (g32_b1 x0 x2) (0, (⟨q34, [], []⟩ : TShipTruth))).bind fun q63 => (lpF (g32_b2 x0) (0, q63)).bind fun q82 => (ix q82.Uses x3).bind fun y131 => (lpF (g32_b4 x2 x3 y131) (1000, (⟨x0, x1, q82⟩ : TStore))).bind fun q135 => Sum.elim (fun p134 : TStore => some (0, 0)) (fun v157 : Int × Int => some v157) q135)
theorem g32_le (x0 : TShipStore) (x1 : (List Int)) (x2 : Int) (x3 : Int) : LeO (g32 x0 x1 x2 x3) (f32 x0 x1 x2 x3) := by
  unfold g32 f32
  repeat (first | (with_reducible exact LeO.refl _) | (with_reducible refine g32_b0_le _ _) | (with_reducible refine g32_b1_le _ _ _) | (with_reducible refine g32_b2_le _ _) | (with_reducible refine g32_b4_le _ _ _ _) | (with_reducible refine g62_le _ _ _) | (with_reducible refine g68_le _) | (with_reducible refine g69_le _ _) | (with_reducible refine g70_le _) | (with_reducible refine LeO.bind ?_ (fun _ => ?_)) | (with_reducible refine LeO.ite ?_ ?_) | (with_reducible refine LeO.elim (fun _ => ?_) (fun _ => ?_) _) | (with_reducible refine LeO.lp (fun _ => ?_) _) | (with_reducible refine LeO.rg (fun _ _ => ?_) _ _) | (with_reducible refine LeO.allPan (fun _ => ?_) _) | (with_reducible refine LeO.callsL (fun _ => ?_) _ _))
def g103_b0 (x0 : (List Int)) (s2 : Int) : Option (Int ⊕ (Unit ⊕ Int)) :=
  if (decide (s2 < (x0.length : Int))) = true then ((ix x0 s2).bind fun y9 => if (y9 != 0) = true then (some (.inr (.inr y9))) else (some (.inl (IntKind.i64.wrap (s2 + 1))))) else (some (.inr (.inl ())))
theorem g103_b0_le (x0 : (List Int)) (s2 : Int) : LeO (g103_b0 x0 s2) (f103_b0 x0 s2) := by
  unfold g103_b0 f103_b0
  repeat (first | (with_reducible exact LeO.refl _) | (with_reducible refine LeO.bind ?_ (fun _ => ?_)) | (with_reducible refine LeO.ite ?_ ?_) | (with_reducible refine LeO.elim (fun _ => ?_) (fun _ => ?_) _) | (with_reducible refine LeO.lp (fun _ => ?_) _) | (with_reducible refine LeO.rg (fun _ _ => ?_) _ _) | (with_reducible refine LeO.allPan (fun _ => ?_) _) | (with_reducible refine LeO.callsL (fun _ => ?_) _ _))
def g103 (x0 : (List Int)) : Option Int :=
  (lpF (g103_b0 x0) 0).bind fun q4 => Sum.elim (fun p3 : Unit => some 0) (fun v14 : Int => some v14) q4
theorem g103_le (x0 : (List Int)) : LeO (g103 x0) (f103 x0) := by
  unfold g103 f103
  repeat (first | (with_reducible exact LeO.refl _) | (with_reducible refine g103_b0_le _ _) | (with_reducible refine LeO.bind ?_ (fun _ => ?_)) | (with_reducible refine LeO.ite ?_ ?_) | (with_reducible refine LeO.elim (fun _ => ?_) (fun _ => ?_) _) | (with_reducible refine LeO.lp (fun _ => ?_) _) | (with_reducible refine LeO.rg (fun _ _ => ?_) _ _) | (with_reducible refine LeO.allPan (fun _ => ?_) _) | (with_reducible refine LeO.callsL (fun _ => ?_) _ _))
def g112 (x0 : Int) : Option Bool :=
  some (x0 != x0)
theorem g112_le (x0 : Int) : LeO (g112 x0) (f112 x0) := by
  unfold g112 f112
  repeat (first | (with_reducible exact LeO.refl _) | (with_reducible refine LeO.bind ?_ (fun _ => ?_)) | (with_reducible refine LeO.ite ?_ ?_) | (with_reducible refine LeO.elim (fun _ => ?_) (fun _ => ?_) _) | (with_reducible refine LeO.lp (fun _ => ?_) _) | (with_reducible refine LeO.rg (fun _ _ => ?_) _ _) | (with_reducible refine LeO.allPan (fun _ => ?_) _) | (with_reducible refine LeO.callsL (fun _ => ?_) _ _))
def g104 (x0 : Int) (x1 : Int) : Option Int :=
  (g112 x0).bind fun y1 => (g112 x1).bind fun y3 => if y1 = true then (if y3 = true then (some 0) else (some (-1))) else (if y3 = true then (some 1) else (if (decide (x0 < x1)) = true then (some (-1)) else (if (decide (x1 < x0)) = true then (some 1) else (some 0))))
theorem g104_le (x0 : Int) (x1 : Int) : LeO (g104 x0 x1) (f104 x0 x1) := by
  unfold g104 f104
  repeat (first | (with_reducible exact LeO.refl _) | (with_reducible refine g112_le _) | (with_reducible refine LeO.bind ?_ (fun _ => ?_)) | (with_reducible refine LeO.ite ?_ ?_) | (with_reducible refine LeO.elim (fun _ => ?_) (fun _ => ?_) _) | (with_reducible refine LeO.lp (fun _ => ?_) _) | (with_reducible refine LeO.rg (fun _ _ => ?_) _ _) | (with_reducible refine LeO.allPan (fun _ => ?_) _) | (with_reducible refine LeO.callsL (fun _ => ?_) _ _))
def g105_b0 (x0 : (List Int)) (x1 : (List Int)) (s3 : Int) : Option (Int ⊕ (Unit ⊕ Int)) :=
  if (decide (s3 < (x0.length : Int))) = true then ((ix x0 s3).bind fun y10 => if (decide ((x1.length : Int) ≤ s3)) = true then (some (.inr (.inr 1))) else ((ix x1 s3).bind fun y13 => (g104 y10 y13).bind fun y15 => if (y15 != 0) = true then (some (.inr (.inr y15))) else (some (.inl (IntKind.i64.wrap (s3 + 1)))))) else (some (.inr (.inl ())))
theorem g105_b0_le (x0 : (List Int)) (x1 : (List Int)) (s3 : Int) : LeO (g105_b0 x0 x1 s3) (f105_b0 x0 x1 s3) := by
  unfold g105_b0 f105_b0
  repeat (first | (with_reducible exact LeO.refl _) | (with_reducible refine g104_le _ _) | (with_reducible refine LeO.bind ?_ (fun _ => ?_)) | (with_reducible refine LeO.ite ?_ ?_) | (with_reducible refine LeO.elim (fun _ => ?_) (fun _ => ?_) _) | (with_reducible refine LeO.lp (fun _ => ?_) _) | (with_reducible refine LeO.rg (fun _ _ => ?_) _ _) | (with_reducible refine LeO.allPan (fun _ => ?_) _) | (with_reducible refine LeO.callsL (fun _ => ?_) _ _))
def g105 (x0 : (List Int)) (x1 : (List Int)) : Option Int :=
  (lpF (g105_b0 x0 x1) 0).bind fun q5 => Sum.elim (fun p4 : Unit => if (decide ((x0.length : Int) < (x1.length : Int))) = true then (some (-1)) else (some 0)) (fun v21 : Int => some v21) q5
theorem g105_le (x0 : (List Int)) (x1 : (List Int)) : LeO (g105 x0 x1) (f105 x0 x1) := by
  unfold g105 f105
  repeat (first | (with_reducible exact LeO.refl _) | (with_reducible refine g105_b0_le _ _ _) | (with_reducible refine LeO.bind ?_ (fun _ => ?_)) | (with_reducible refine LeO.ite ?_ ?_) | (with_reducible refine LeO.elim (fun _ => ?_) (fun _ => ?_) _) | (with_reducible refine LeO.lp (fun _ => ?_) _) | (with_reducible refine LeO.rg (fun _ _ => ?_) _ _) | (with_reducible refine LeO.allPan (fun _ => ?_) _) | (with_reducible refine LeO.callsL (fun _ => ?_) _ _))
def g77 (x0 : TChoice) (x1 : TChoice) : Option Bool :=
  (g104 x0.cost x1.cost).bind fun y9 => (g104 (x0.list.length : Int) (x1.list.length : Int)).bind fun y11 => (g105 x0.list x1.list).bind fun y13 => (g103 [y9, y11, y13]).bind fun y18 => some (decide (y18 < 0))
theorem g77_le (x0 : TChoice) (x1 : TChoice) : LeO (g77 x0 x1) (f77 x0 x1) := by
  unfold g77 f77
  repeat (first | (with_reducible exact LeO.refl _) | (with_reducible refine g103_le _) | (with_reducible refine g104_le _ _) | (with_reducible refine g105_le _ _) | (with_reducible refine LeO.bind ?_ (fun _ => ?_)) | (with_reducible refine LeO.ite ?_ ?_) | (with_reducible refine LeO.elim (fun _ => ?_) (fun _ => ?_) _) | (with_reducible refine LeO.lp (fun _ => ?_) _) | (with_reducible refine LeO.rg (fun _ _ => ?_) _ _) | (with_reducible refine LeO.allPan (fun _ => ?_) _) | (with_reducible refine LeO.callsL (fun _ => ?_) _ _))
def g35_b0 (x0 : TShipStore) (s17 : (List Int) × Int) : Option (((List Int) × Int) ⊕ (List Int)) :=
  if (decide (s17.2 < (x0.Stock.length : Int))) = true then ((app s17.1 [s17.2]).bind fun y27 => some (.inl (y27, IntKind.i64.wrap (s17.2 + 1)))) else (some (.inr s17.1))
theorem g35_b0_le (x0 : TShipStore) (s17 : (List Int) × Int) : LeO (g35_b0 x0 s17) (f35_b0 x0 s17) := by
  unfold g35_b0 f35_b0
  repeat (first | (with_reducible exact LeO.refl _) | (with_reducible refine LeO.bind ?_ (fun _ => ?_)) | (with_reducible refine LeO.ite ?_ ?_) | (with_reducible refine LeO.elim (fun _ => ?_) (fun _ => ?_) _) | (with_reducible refine LeO.lp (fun _ => ?_) _) | (with_reducible refine LeO.rg (fun _ _ => ?_) _ _) | (with_reducible refine LeO.allPan (fun _ => ?_) _) | (with_reducible refine LeO.callsL (fun _ => ?_) _ _))
def g35_b2 (s35 : Bool × Int × TChoice) (x0 : TShipStore) (s47 : Int × TChoice × TChoice) : Option ((Int × TChoice × TChoice) ⊕ (TChoice × TChoice)) :=
  if (decide (s47.1 < (x0.Lots.length : Int))) = true then ((((ix x0.Lots s47.1).bind fun y55 => (shrI .i64 s35.2.1 s47.1).bind fun y63 => if ((andI .i64 y63 1) == 1) = true then ((app s47.2.1.list [s47.1]).bind fun y68 => some (⟨IntKind.i64.wrap (s47.2.1.cost + y55.Cost), y68⟩ : TChoice)) else (some s47.2.1) : Option TChoice)).bind fun q54 => some (.inl (IntKind.i64.wrap (s47.1 + 1), q54, s47.2.2))) else (some (.inr (s47.2.1, s47.2.2)))
theorem g35_b2_le (s35 : Bool × Int × TChoice) (x0 : TShipStore) (s47 : Int × TChoice × TChoice) : LeO (g35_b2 s35 x0 s47) (f35_b2 s35 x0 s47) := by
  unfold g35_b2 f35_b2
  repeat (first | (with_reducible exact LeO.refl _) | (with_reducible refine LeO.bind ?_ (fun _ => ?_)) | (with_reducible refine LeO.ite ?_ ?_) | (with_reducible refine LeO.elim (fun _ => ?_) (fun _ => ?_) _) | (with_reducible refine LeO.lp (fun _ => ?_) _) | (with_reducible refine LeO.rg (fun _ _ => ?_) _ _) | (with_reducible refine LeO.allPan (fun _ => ?_) _) | (with_reducible refine LeO.callsL (fun _ => ?_) _ _))
def g35_b1 (q19 : (List Int)) (x0 : TShipStore) (x1 : Int) (y34 : Int) (s35 : Bool × Int × TChoice) : Option ((Bool × Int × TChoice) ⊕ (Bool × TChoice)) :=
  if (decide (s35.2.1 < y34)) = true then ((((lpF (g35_b2 s35 x0) (0, (⟨0, []⟩ : TChoice), s35.2.2)).bind fun q49 => (((g69 x0 q49.1.list).bind fun y77 => if (!y77) = true then (some true) else (if s35.1 = true then ((g77 q49.1 q49.2).bind fun y82 => some (!y82)) else (some false)) : Option Bool)).bind fun q76 => if q76 = true then (some (s35.1, q49.2)) else ((g74 (⟨x0.Stock, x0.Use, (⟨x0.Gap.Low, x0.Gap.High⟩ : TSpan), x0.Lots, x0.Hold⟩ : TShipStore) q49.1.list x1).bind fun y89 => (g76 y89 x1 q19).bind fun y101 => if y101 = true then (some (true, (⟨q49.1.cost, q49.1.list⟩ : TChoice))) else (some (s35.1, (⟨q49.2.cost, q49.2.list⟩ : TChoice)))) : Option (Bool × TChoice))).bind fun q42 => some (.inl (q42.1, IntKind.i64.wrap (s35.2.1 + 1), q42.2))) else (some (.inr (s35.1, s35.2.2)))
theorem g35_b1_le (q19 : (List Int)) (x0 : TShipStore) (x1 : Int) (y34 : Int) (s35 : Bool × Int × TChoice) : LeO (g35_b1 q19 x0 x1 y34 s35) (f35_b1 q19 x0 x1 y34 s35) := by
  unfold g35_b1 f35_b1
  repeat (first | (with_reducible exact LeO.refl _) | (with_reducible refine g35_b2_le _ _ _) | (with_reducible refine g69_le _ _) | (with_reducible refine g74_le _ _ _) | (with_reducible refine g76_le _ _ _) | (with_reducible refine g77_le _ _) | (with_reducible refine LeO.bind ?_ (fun _ => ?_)) | (with_reducible refine LeO.ite ?_ ?_) | (with_reducible refine LeO.elim (fun _ => ?_) (fun _ => ?_) _) | (with_reducible refine LeO.lp (fun _ => ?_) _) | (with_reducible refine LeO.rg (fun _ _ => ?_) _ _) | (with_reducible refine LeO.allPan (fun _ => ?_) _) | (with_reducible refine LeO.callsL (fun _ => ?_) _ _))
def g35 (x0 : TShipStore) (x1 : Int) : Option ((List Int) × Int × Int) :=
  (((g68 x0).bind fun y8 => if (!y8) = true then (some true) else ((g70 x1).bind fun y11 => some (!y11)) : Option Bool)).bind fun q7 => if q7 = true then (some ([], 0, 2)) else ((lpF (g35_b0 x0) ([], 0)).bind fun q19 => (shlI .i64 1 (x0.Lots.length : Int)).bind fun y34 => (lpF (g35_b1 q19 x0 x1 y34) (false, 0, (⟨0, []⟩ : TChoice))).bind fun q37 => if (!q37.1) = true then (some ([], 0, 5)) else (some (q37.2.list, q37.2.cost, 0)))
theorem g35_le (x0 : TShipStore) (x1 : Int) : LeO (g35 x0 x1) (f35 x0 x1) := by
  unfold g35 f35
  repeat (first | (with_reducible exact LeO.refl _) | (with_reducible refine g35_b0_le _ _) | (with_reducible refine g35_b1_le _ _ _ _ _) | (with_reducible refine g68_le _) | (with_reducible refine g70_le _) | (with_reducible refine LeO.bind ?_ (fun _ => ?_)) | (with_reducible refine LeO.ite ?_ ?_) | (with_reducible refine LeO.elim (fun _ => ?_) (fun _ => ?_) _) | (with_reducible refine LeO.lp (fun _ => ?_) _) | (with_reducible refine LeO.rg (fun _ _ => ?_) _ _) | (with_reducible refine LeO.allPan (fun _ => ?_) _) | (with_reducible refine LeO.callsL (fun _ => ?_) _ _))
def g39_b0 (x0 : (List Int)) (x1 : (List Int)) (s4 : Int) : Option (Int ⊕ (Unit ⊕ Bool)) :=
  if (decide (s4 < (x0.length : Int))) = true then ((ix x0 s4).bind fun y11 => (ix x1 s4).bind fun y13 => if (y11 != y13) = true then (some (.inr (.inr false))) else (some (.inl (IntKind.i64.wrap (s4 + 1))))) else (some (.inr (.inl ())))
theorem g39_b0_le (x0 : (List Int)) (x1 : (List Int)) (s4 : Int) : LeO (g39_b0 x0 x1 s4) (f39_b0 x0 x1 s4) := by
  unfold g39_b0 f39_b0
  repeat (first | (with_reducible exact LeO.refl _) | (with_reducible refine LeO.bind ?_ (fun _ => ?_)) | (with_reducible refine LeO.ite ?_ ?_) | (with_reducible refine LeO.elim (fun _ => ?_) (fun _ => ?_) _) | (with_reducible refine LeO.lp (fun _ => ?_) _) | (with_reducible refine LeO.rg (fun _ _ => ?_) _ _) | (with_reducible refine LeO.allPan (fun _ => ?_) _) | (with_reducible refine LeO.callsL (fun _ => ?_) _ _))
def g39 (x0 : (List Int)) (x1 : (List Int)) : Option Bool :=
  if ((x0.length : Int) != (x1.length : Int)) = true then (some false) else ((lpF (g39_b0 x0 x1) 0).bind fun q6 => Sum.elim (fun p5 : Unit => some true) (fun v18 : Bool => some v18) q6)
theorem g39_le (x0 : (List Int)) (x1 : (List Int)) : LeO (g39 x0 x1) (f39 x0 x1) := by
  unfold g39 f39
  repeat (first | (with_reducible exact LeO.refl _) | (with_reducible refine g39_b0_le _ _ _) | (with_reducible refine LeO.bind ?_ (fun _ => ?_)) | (with_reducible refine LeO.ite ?_ ?_) | (with_reducible refine LeO.elim (fun _ => ?_) (fun _ => ?_) _) | (with_reducible refine LeO.lp (fun _ => ?_) _) | (with_reducible refine LeO.rg (fun _ _ => ?_) _ _) | (with_reducible refine LeO.allPan (fun _ => ?_) _) | (with_reducible refine LeO.callsL (fun _ => ?_) _ _))
def g45_b0 (x0 : TShipPass) (x1 : Int) (s17 : (List Int) × (List Int) × Int) : Option (((List Int) × (List Int) × Int) ⊕ ((List Int) × (List Int))) :=
  if (decide (s17.2.2 < 24)) = true then ((((((g80 x0 (⟨x1, s17.2.2⟩ : TShipCall)).bind fun y31 => if y31 = true then ((app s17.1 [s17.2.2]).bind fun y37 => some y37) else (some s17.1) : Option (List Int))).bind fun q30 => (ix x0.Swell x1).bind fun y41 => (g81 (⟨x0, y41.Low⟩ : TPass) (⟨x1, s17.2.2⟩ : TShipCall)).bind fun y43 => if y43 = true then ((app s17.2.1 [s17.2.2]).bind fun y49 => some (q30, y49)) else (some (q30, s17.2.1)) : Option ((List Int) × (List Int)))).bind fun q24 => some (.inl (q24.1, q24.2, IntKind.i64.wrap (s17.2.2 + 1)))) else (some (.inr (s17.1, s17.2.1)))
theorem g45_b0_le (x0 : TShipPass) (x1 : Int) (s17 : (List Int) × (List Int) × Int) : LeO (g45_b0 x0 x1 s17) (f45_b0 x0 x1 s17) := by
  unfold g45_b0 f45_b0
  repeat (first | (with_reducible exact LeO.refl _) | (with_reducible refine g80_le _ _) | (with_reducible refine g81_le _ _) | (with_reducible refine LeO.bind ?_ (fun _ => ?_)) | (with_reducible refine LeO.ite ?_ ?_) | (with_reducible refine LeO.elim (fun _ => ?_) (fun _ => ?_) _) | (with_reducible refine LeO.lp (fun _ => ?_) _) | (with_reducible refine LeO.rg (fun _ _ => ?_) _ _) | (with_reducible refine LeO.allPan (fun _ => ?_) _) | (with_reducible refine LeO.callsL (fun _ => ?_) _ _))
def g45 (x0 : TShipPass) (x1 : Int) : Option ((List Int) × (List Int) × Int) :=
  (((g60 x0).bind fun y7 => if (!y7) = true then (some true) else ((g62 x1 0 (IntKind.i64.wrap ((x0.Swell.length : Int) - 1))).bind fun y10 => some (!y10)) : Option Bool)).bind fun q6 => if q6 = true then (some ([], [], 2)) else ((lpF (g45_b0 x0 x1) ([], [], 0)).bind fun q19 => some (q19.1, q19.2, 0))
theorem g45_le (x0 : TShipPass) (x1 : Int) : LeO (g45 x0 x1) (f45 x0 x1) := by
  unfold g45 f45
  repeat (first | (with_reducible exact LeO.refl _) | (with_reducible refine g45_b0_le _ _ _) | (with_reducible refine g60_le _) | (with_reducible refine g62_le _ _ _) | (with_reducible refine LeO.bind ?_ (fun _ => ?_)) | (with_reducible refine LeO.ite ?_ ?_) | (with_reducible refine LeO.elim (fun _ => ?_) (fun _ => ?_) _) | (with_reducible refine LeO.lp (fun _ => ?_) _) | (with_reducible refine LeO.rg (fun _ _ => ?_) _ _) | (with_reducible refine LeO.allPan (fun _ => ?_) _) | (with_reducible refine LeO.callsL (fun _ => ?_) _ _))
def g82 (x0 : TShipPass) (x1 : TShipCall) : Option Bool :=
  (((g62 x1.Day 0 (IntKind.i64.wrap ((x0.Swell.length : Int) - 1))).bind fun y10 => if y10 = true then ((g62 x1.Hour 0 23).bind fun y13 => some y13) else (some false) : Option Bool)).bind fun q9 => some q9
theorem g82_le (x0 : TShipPass) (x1 : TShipCall) : LeO (g82 x0 x1) (f82 x0 x1) := by
  unfold g82 f82
  repeat (first | (with_reducible exact LeO.refl _) | (with_reducible refine g62_le _ _ _) | (with_reducible refine LeO.bind ?_ (fun _ => ?_)) | (with_reducible refine LeO.ite ?_ ?_) | (with_reducible refine LeO.elim (fun _ => ?_) (fun _ => ?_) _) | (with_reducible refine LeO.lp (fun _ => ?_) _) | (with_reducible refine LeO.rg (fun _ _ => ?_) _ _) | (with_reducible refine LeO.allPan (fun _ => ?_) _) | (with_reducible refine LeO.callsL (fun _ => ?_) _ _))
def g48_b0 (y35 : TShipCall) (s34 : TShipCall) : Option (TShipCall ⊕ TShipCall) :=
  some (.inr y35)
theorem g48_b0_le (y35 : TShipCall) (s34 : TShipCall) : LeO (g48_b0 y35 s34) (f48_b0 y35 s34) := by
  unfold g48_b0 f48_b0
  repeat (first | (with_reducible exact LeO.refl _) | (with_reducible refine LeO.bind ?_ (fun _ => ?_)) | (with_reducible refine LeO.ite ?_ ?_) | (with_reducible refine LeO.elim (fun _ => ?_) (fun _ => ?_) _) | (with_reducible refine LeO.lp (fun _ => ?_) _) | (with_reducible refine LeO.rg (fun _ _ => ?_) _ _) | (with_reducible refine LeO.allPan (fun _ => ?_) _) | (with_reducible refine LeO.callsL (fun _ => ?_) _ _))
def g48 (x0 : TShipPass) (x1 : TShipCall) : Option (TShipCall × Int) :=
  (((g60 x0).bind fun y16 => if (!y16) = true then (some true) else ((g82 x0 x1).bind fun y19 => some (!y19)) : Option Bool)).bind fun q15 => if q15 = true then (some ((⟨0, 0⟩ : TShipCall), 2)) else ((callsL (g80 x0) x0.Swell.length x1).bind fun y32 => (rg g48_b0 y32 (⟨0, 0⟩ : TShipCall)).bind fun q36 => Sum.elim (fun s34 : TShipCall => some ((⟨0, 0⟩ : TShipCall), 5)) (fun s34 : TShipCall => some (s34, 0)) q36)
theorem g48_le (x0 : TShipPass) (x1 : TShipCall) : LeO (g48 x0 x1) (f48 x0 x1) := by
  unfold g48 f48
  repeat (first | (with_reducible exact LeO.refl _) | (with_reducible refine g48_b0_le _ _) | (with_reducible refine g60_le _) | (with_reducible refine g80_le _ _) | (with_reducible refine g82_le _ _) | (with_reducible refine LeO.bind ?_ (fun _ => ?_)) | (with_reducible refine LeO.ite ?_ ?_) | (with_reducible refine LeO.elim (fun _ => ?_) (fun _ => ?_) _) | (with_reducible refine LeO.lp (fun _ => ?_) _) | (with_reducible refine LeO.rg (fun _ _ => ?_) _ _) | (with_reducible refine LeO.allPan (fun _ => ?_) _) | (with_reducible refine LeO.callsL (fun _ => ?_) _ _))
def g56_b0 (x0 : (List TShipWant)) (x1 : (List TShipWant)) (s4 : Int) : Option (Int ⊕ (Unit ⊕ Bool)) :=
  if (decide (s4 < (x0.length : Int))) = true then ((ix x0 s4).bind fun y11 => (ix x1 s4).bind fun y13 => if (!(([y11.May, y11.Must] : List Int) == [y13.May, y13.Must])) = true then (some (.inr (.inr false))) else (some (.inl (IntKind.i64.wrap (s4 + 1))))) else (some (.inr (.inl ())))
theorem g56_b0_le (x0 : (List TShipWant)) (x1 : (List TShipWant)) (s4 : Int) : LeO (g56_b0 x0 x1 s4) (f56_b0 x0 x1 s4) := by
  unfold g56_b0 f56_b0
  repeat (first | (with_reducible exact LeO.refl _) | (with_reducible refine LeO.bind ?_ (fun _ => ?_)) | (with_reducible refine LeO.ite ?_ ?_) | (with_reducible refine LeO.elim (fun _ => ?_) (fun _ => ?_) _) | (with_reducible refine LeO.lp (fun _ => ?_) _) | (with_reducible refine LeO.rg (fun _ _ => ?_) _ _) | (with_reducible refine LeO.allPan (fun _ => ?_) _) | (with_reducible refine LeO.callsL (fun _ => ?_) _ _))
def g56 (x0 : (List TShipWant)) (x1 : (List TShipWant)) : Option Bool :=
  if ((x0.length : Int) != (x1.length : Int)) = true then (some false) else ((lpF (g56_b0 x0 x1) 0).bind fun q6 => Sum.elim (fun p5 : Unit => some true) (fun v18 : Bool => some v18) q6)
theorem g56_le (x0 : (List TShipWant)) (x1 : (List TShipWant)) : LeO (g56 x0 x1) (f56 x0 x1) := by
  unfold g56 f56
  repeat (first | (with_reducible exact LeO.refl _) | (with_reducible refine g56_b0_le _ _ _) | (with_reducible refine LeO.bind ?_ (fun _ => ?_)) | (with_reducible refine LeO.ite ?_ ?_) | (with_reducible refine LeO.elim (fun _ => ?_) (fun _ => ?_) _) | (with_reducible refine LeO.lp (fun _ => ?_) _) | (with_reducible refine LeO.rg (fun _ _ => ?_) _ _) | (with_reducible refine LeO.allPan (fun _ => ?_) _) | (with_reducible refine LeO.callsL (fun _ => ?_) _ _))
def g58 : Option TShipPass :=
  some (⟨[0, 2, 4, 3, 1, (-1)], 20, 21, [(⟨0, 1⟩ : TSpan), (⟨1, 3⟩ : TSpan)], (⟨6, 17⟩ : TSpan)⟩ : TShipPass)
theorem g58_le : LeO (g58) (f58) := by
  unfold g58 f58
  repeat (first | (with_reducible exact LeO.refl _) | (with_reducible refine LeO.bind ?_ (fun _ => ?_)) | (with_reducible refine LeO.ite ?_ ?_) | (with_reducible refine LeO.elim (fun _ => ?_) (fun _ => ?_) _) | (with_reducible refine LeO.lp (fun _ => ?_) _) | (with_reducible refine LeO.rg (fun _ _ => ?_) _ _) | (with_reducible refine LeO.allPan (fun _ => ?_) _) | (with_reducible refine LeO.callsL (fun _ => ?_) _ _))
def g59 : Option TShipStore :=
  some (⟨[130, 70], [(⟨3, 4⟩ : TSpan), (⟨1, 2⟩ : TSpan)], (⟨20, 30⟩ : TSpan), [(⟨[(⟨90, 100⟩ : TSpan), (⟨0, 0⟩ : TSpan)], 50, 70⟩ : TShipLot), (⟨[(⟨0, 0⟩ : TSpan), (⟨50, 60⟩ : TSpan)], 30, 40⟩ : TShipLot), (⟨[(⟨130, 130⟩ : TSpan), (⟨30, 30⟩ : TSpan)], 90, 100⟩ : TShipLot)], 100⟩ : TShipStore)
theorem g59_le : LeO (g59) (f59) := by
  unfold g59 f59
  repeat (first | (with_reducible exact LeO.refl _) | (with_reducible refine LeO.bind ?_ (fun _ => ?_)) | (with_reducible refine LeO.ite ?_ ?_) | (with_reducible refine LeO.elim (fun _ => ?_) (fun _ => ?_) _) | (with_reducible refine LeO.lp (fun _ => ?_) _) | (with_reducible refine LeO.rg (fun _ _ => ?_) _ _) | (with_reducible refine LeO.allPan (fun _ => ?_) _) | (with_reducible refine LeO.callsL (fun _ => ?_) _ _))
def g17 : Option Bool :=
  (g58).bind fun y1 => (g45 y1 1).bind fun y6 => (g58).bind fun y11 => (g48 y11 (⟨0, 16⟩ : TShipCall)).bind fun y16 => (g58).bind fun y23 => (g18 y23 (⟨1, 2⟩ : TSpan) 1).bind fun y28 => (g59).bind fun y32 => (g26 y32 [0, 1] 60 (⟨[4, 2], [30, 30], [[95, 0], [0, 55], [130, 30]]⟩ : TShipTruth)).bind fun y59 => (g59).bind fun y64 => (g30 y64 [2] 60).bind fun y73 => (g59).bind fun y77 => (g32 y77 [0, 1] 60 0).bind fun y86 => (g59).bind fun y88 => (g35 y88 55).bind fun y94 => ((if (y6.2.2 != 0) = true then (some true) else (if (y16.2 != 0) = true then (some true) else (if (y28.2 != 0) = true then (some true) else (if (y59.2.2 != 0) = true then (some true) else (if (y73.2 != 0) = true then (some true) else (if (y86.2 != 0) = true then (some true) else (some (y94.2.2 != 0))))))) : Option Bool)).bind fun q98 => if q98 = true then (some false) else ((((g39 y6.1 [8, 14]).bind fun y112 => if (!y112) = true then (some true) else ((g39 y6.2.1 [7, 8, 9, 13, 14, 15]).bind fun y118 => if (!y118) = true then (some true) else (if (!(([y16.1.Day, y16.1.Hour] : List Int) == [1, 8])) = true then (some true) else ((g23 y28.1 [(⟨1, 8⟩ : TShipCall)]).bind fun y125 => some (!y125)))) : Option Bool)).bind fun q108 => if q108 = true then (some false) else ((((g39 y59.1 [56, (-1)]).bind fun y134 => if y134 = true then ((g39 y59.2.1 [0, 5]).bind fun y140 => if y140 = true then ((g56 y73.1 [(⟨(-1), (-1)⟩ : TShipWant), (⟨50, (-1)⟩ : TShipWant)]).bind fun y146 => if y146 = true then (if (y86.1 == 750) = true then ((g39 y94.1 [0, 1]).bind fun y153 => if y153 = true then (some (y94.2.1 == 110)) else (some false)) else (some false)) else (some false)) else (some false)) else (some false) : Option Bool)).bind fun q130 => some q130))
theorem g17_le : LeO (g17) (f17) := by
  unfold g17 f17
  repeat (first | (with_reducible exact LeO.refl _) | (with_reducible refine g18_le _ _ _) | (with_reducible refine g23_le _ _) | (with_reducible refine g26_le _ _ _ _) | (with_reducible refine g30_le _ _ _) | (with_reducible refine g32_le _ _ _ _) | (with_reducible refine g35_le _ _) | (with_reducible refine g39_le _ _) | (with_reducible refine g45_le _ _) | (with_reducible refine g48_le _ _) | (with_reducible refine g56_le _ _) | (with_reducible refine g58_le ) | (with_reducible refine g59_le ) | (with_reducible refine LeO.bind ?_ (fun _ => ?_)) | (with_reducible refine LeO.ite ?_ ?_) | (with_reducible refine LeO.elim (fun _ => ?_) (fun _ => ?_) _) | (with_reducible refine LeO.lp (fun _ => ?_) _) | (with_reducible refine LeO.rg (fun _ _ => ?_) _ _) | (with_reducible refine LeO.allPan (fun _ => ?_) _) | (with_reducible refine LeO.callsL (fun _ => ?_) _ _))
theorem known_pure : f17 = some true := g17_le true (by kernel_rfl)
end Go.Proofs.Ytajejmbnmphngaa
