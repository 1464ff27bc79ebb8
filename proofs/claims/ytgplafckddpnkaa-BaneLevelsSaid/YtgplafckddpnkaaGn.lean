/-
  The same functions with a bound on the rounds of each loop, so that they can be run; what they give, those give (printed by a program of ours).
-/
import Derived.Test.YtgplafckddpnkaaFn
namespace Go.Proofs.Ytgplafckddpnkaa
open Go.RowKit
set_option linter.unusedVariables false

def LeO {α : Type} (a b : Option α) : Prop := ∀ r, a = some r → b = some r
theorem LeO.refl {α : Type} (a : Option α) : LeO a a := fun _ h => h
theorem LeO.bind {α β : Type} {a b : Option α} {f g : α → Option β} (h : LeO a b) (k : ∀ x, LeO (f x) (g x)) : LeO (a.bind f) (b.bind g) := fun r hr => by
  obtain ⟨x, h1, h2⟩ := bnd hr
  rw [h x h1]; exact k x r h2
theorem LeO.ite {α : Type} {c : Prop} [Decidable c] {a b a' b' : Option α} (h : LeO a a') (k : LeO b b') : LeO (if c then a else b) (if c then a' else b') := by split <;> assumption
theorem LeO.elim {α β γ : Type} {f f' : α → Option γ} {g g' : β → Option γ} (h : ∀ x, LeO (f x) (f' x)) (k : ∀ x, LeO (g x) (g' x)) (s : α ⊕ β) : LeO (Sum.elim f g s) (Sum.elim f' g' s) := by
  cases s with
  | inl x => exact h x
  | inr x => exact k x
def lpF {σ ρ : Type} (body : σ → Option (σ ⊕ ρ)) (s : σ) : Option ρ := lpN body 3000 s
theorem lpN_le {σ ρ : Type} {b b' : σ → Option (σ ⊕ ρ)} (h : ∀ s, LeO (b s) (b' s)) : ∀ n s, LeO (lpN b n s) (lpN b' n s)
  | 0, _ => LeO.refl _
  | n + 1, s => by
    intro r hr
    simp only [lpN] at hr ⊢
    cases hb : b s with
    | none => rw [hb] at hr; cases hr
    | some t => rw [hb] at hr; rw [h s t hb]; cases t with
      | inl s' => exact lpN_le h n s' r hr
      | inr q => exact hr
theorem LeO.lp {σ ρ : Type} {b b' : σ → Option (σ ⊕ ρ)} (h : ∀ s, LeO (b s) (b' s)) (s : σ) : LeO (lpF b s) (lp b' s) := fun r hr => lp_some.2 ⟨_, lpN_le h 3000 s r hr⟩
theorem LeO.rg {α σ ρ : Type} {b b' : α → σ → Option (σ ⊕ ρ)} (h : ∀ x s, LeO (b x s) (b' x s)) : ∀ l s, LeO (rg b l s) (rg b' l s)
  | [], _ => LeO.refl _
  | x :: l, s => by
    intro r hr
    simp only [Go.Proofs.Ytgplafckddpnkaa.rg] at hr ⊢
    cases hb : b x s with
    | none => rw [hb] at hr; cases hr
    | some t => rw [hb] at hr; rw [h x s t hb]; cases t with
      | inl s' => exact LeO.rg h l s' r hr
      | inr q => exact hr
def g66 (x0 : Int) (x1 : Int) (x2 : Int) : Option Bool :=
  ((if (decide (x1 ≤ x0)) = true then (some (decide (x0 ≤ x2))) else (some false) : Option Bool)).bind fun q1 => some q1
theorem g66_le (x0 : Int) (x1 : Int) (x2 : Int) : LeO (g66 x0 x1 x2) (f66 x0 x1 x2) := by
  unfold g66 f66
  repeat (first | (with_reducible exact LeO.refl _) | (with_reducible refine LeO.bind ?_ (fun _ => ?_)) | (with_reducible refine LeO.ite ?_ ?_) | (with_reducible refine LeO.elim (fun _ => ?_) (fun _ => ?_) _) | (with_reducible refine LeO.lp (fun _ => ?_) _) | (with_reducible refine LeO.rg (fun _ _ => ?_) _ _))
def g99_b0 (x0 : (List Int)) (x1 : Int) (s2 : Int) : Option (Int ⊕ (Unit ⊕ Int)) :=
  if (decide (s2 < (x0.length : Int))) = true then ((ix x0 s2).bind fun y9 => if (x1 == y9) = true then (some (.inr (.inr s2))) else (some (.inl (IntKind.i64.wrap (s2 + 1))))) else (some (.inr (.inl ())))
theorem g99_b0_le (x0 : (List Int)) (x1 : Int) (s2 : Int) : LeO (g99_b0 x0 x1 s2) (f99_b0 x0 x1 s2) := by
  unfold g99_b0 f99_b0
  repeat (first | (with_reducible exact LeO.refl _) | (with_reducible refine LeO.bind ?_ (fun _ => ?_)) | (with_reducible refine LeO.ite ?_ ?_) | (with_reducible refine LeO.elim (fun _ => ?_) (fun _ => ?_) _) | (with_reducible refine LeO.lp (fun _ => ?_) _) | (with_reducible refine LeO.rg (fun _ _ => ?_) _ _))
def g99 (x0 : (List Int)) (x1 : Int) : Option Int :=
  (lpF (g99_b0 x0 x1) 0).bind fun q4 => Sum.elim (fun p3 : Unit => some (-1)) (fun v14 : Int => some v14) q4
theorem g99_le (x0 : (List Int)) (x1 : Int) : LeO (g99 x0 x1) (f99 x0 x1) := by
  unfold g99 f99
  repeat (first | (with_reducible exact LeO.refl _) | (with_reducible refine g99_b0_le _ _ _) | (with_reducible refine LeO.bind ?_ (fun _ => ?_)) | (with_reducible refine LeO.ite ?_ ?_) | (with_reducible refine LeO.elim (fun _ => ?_) (fun _ => ?_) _) | (with_reducible refine LeO.lp (fun _ => ?_) _) | (with_reducible refine LeO.rg (fun _ _ => ?_) _ _))
def g74 (x0 : (List Int)) (x1 : Int) : Option Bool :=
  (g99 x0 x1).bind fun y2 => some (decide (0 ≤ y2))
theorem g74_le (x0 : (List Int)) (x1 : Int) : LeO (g74 x0 x1) (f74 x0 x1) := by
  unfold g74 f74
  repeat (first | (with_reducible exact LeO.refl _) | (with_reducible refine g99_le _ _) | (with_reducible refine LeO.bind ?_ (fun _ => ?_)) | (with_reducible refine LeO.ite ?_ ?_) | (with_reducible refine LeO.elim (fun _ => ?_) (fun _ => ?_) _) | (with_reducible refine LeO.lp (fun _ => ?_) _) | (with_reducible refine LeO.rg (fun _ _ => ?_) _ _))
def g95 (x0 : TSpan) (x1 : Int) : Option Bool :=
  ((if (decide (0 ≤ x0.Low)) = true then (if (decide (x0.Low ≤ x0.High)) = true then (some (decide (x0.High ≤ x1))) else (some false)) else (some false) : Option Bool)).bind fun q4 => some q4
theorem g95_le (x0 : TSpan) (x1 : Int) : LeO (g95 x0 x1) (f95 x0 x1) := by
  unfold g95 f95
  repeat (first | (with_reducible exact LeO.refl _) | (with_reducible refine LeO.bind ?_ (fun _ => ?_)) | (with_reducible refine LeO.ite ?_ ?_) | (with_reducible refine LeO.elim (fun _ => ?_) (fun _ => ?_) _) | (with_reducible refine LeO.lp (fun _ => ?_) _) | (with_reducible refine LeO.rg (fun _ _ => ?_) _ _))
def g65_b1 (s5 : Int) (y12 : TBaneFish) (s34 : (List Int) × Int) : Option (((List Int) × Int) ⊕ (Unit ⊕ Bool)) :=
  if (decide (s34.2 < (y12.Bites.length : Int))) = true then ((ix y12.Bites s34.2).bind fun y41 => (((g66 y41.Prey 0 (IntKind.i64.wrap (s5 - 1))).bind fun y49 => if (!y49) = true then (some true) else ((g74 s34.1 y41.Prey).bind fun y52 => if y52 = true then (some true) else ((g95 y41.Share 1000).bind fun y56 => some (!y56))) : Option Bool)).bind fun q48 => if q48 = true then (some (.inr (.inr false))) else ((app s34.1 [y41.Prey]).bind fun y64 => some (.inl (y64, IntKind.i64.wrap (s34.2 + 1))))) else (some (.inr (.inl ())))
theorem g65_b1_le (s5 : Int) (y12 : TBaneFish) (s34 : (List Int) × Int) : LeO (g65_b1 s5 y12 s34) (f65_b1 s5 y12 s34) := by
  unfold g65_b1 f65_b1
  repeat (first | (with_reducible exact LeO.refl _) | (with_reducible refine g66_le _ _ _) | (with_reducible refine g74_le _ _) | (with_reducible refine g95_le _ _) | (with_reducible refine LeO.bind ?_ (fun _ => ?_)) | (with_reducible refine LeO.ite ?_ ?_) | (with_reducible refine LeO.elim (fun _ => ?_) (fun _ => ?_) _) | (with_reducible refine LeO.lp (fun _ => ?_) _) | (with_reducible refine LeO.rg (fun _ _ => ?_) _ _))
def g65_b0 (x0 : TBaneWeb) (s5 : Int) : Option (Int ⊕ (Unit ⊕ Bool)) :=
  if (decide (s5 < (x0.Fish.length : Int))) = true then ((ix x0.Fish s5).bind fun y12 => (((g95 y12.Base 1000000).bind fun y21 => if (!y21) = true then (some true) else (if (decide (6 < (y12.Bites.length : Int))) = true then (some true) else ((g66 y12.Pass 0 1000000).bind fun y25 => if (!y25) = true then (some true) else ((g66 y12.Cost 0 1000000).bind fun y28 => some (!y28)))) : Option Bool)).bind fun q20 => if q20 = true then (some (.inr (.inr false))) else ((lpF (g65_b1 s5 y12) ([], 0)).bind fun q36 => Sum.elim (fun p35 : Unit => some (.inl (IntKind.i64.wrap (s5 + 1)))) (fun v68 : Bool => some (.inr (.inr v68))) q36)) else (some (.inr (.inl ())))
theorem g65_b0_le (x0 : TBaneWeb) (s5 : Int) : LeO (g65_b0 x0 s5) (f65_b0 x0 s5) := by
  unfold g65_b0 f65_b0
  repeat (first | (with_reducible exact LeO.refl _) | (with_reducible refine g65_b1_le _ _ _) | (with_reducible refine g66_le _ _ _) | (with_reducible refine g95_le _ _) | (with_reducible refine LeO.bind ?_ (fun _ => ?_)) | (with_reducible refine LeO.ite ?_ ?_) | (with_reducible refine LeO.elim (fun _ => ?_) (fun _ => ?_) _) | (with_reducible refine LeO.lp (fun _ => ?_) _) | (with_reducible refine LeO.rg (fun _ _ => ?_) _ _))
def g65 (x0 : TBaneWeb) : Option Bool :=
  (lpF (g65_b0 x0) 0).bind fun q7 => Sum.elim (fun p6 : Unit => (((g66 (x0.Fish.length : Int) 1 7).bind fun y72 => if y72 = true then ((g66 x0.Limit 0 1000000).bind fun y75 => some y75) else (some false) : Option Bool)).bind fun q71 => some q71) (fun v79 : Bool => some v79) q7
theorem g65_le (x0 : TBaneWeb) : LeO (g65 x0) (f65 x0) := by
  unfold g65 f65
  repeat (first | (with_reducible exact LeO.refl _) | (with_reducible refine g65_b0_le _ _) | (with_reducible refine g66_le _ _ _) | (with_reducible refine LeO.bind ?_ (fun _ => ?_)) | (with_reducible refine LeO.ite ?_ ?_) | (with_reducible refine LeO.elim (fun _ => ?_) (fun _ => ?_) _) | (with_reducible refine LeO.lp (fun _ => ?_) _) | (with_reducible refine LeO.rg (fun _ _ => ?_) _ _))
def g96_b0 (x0 : (List Int)) (s2 : Int × Int) : Option ((Int × Int) ⊕ Int) :=
  if (decide (s2.2 < (x0.length : Int))) = true then ((ix x0 s2.2).bind fun y9 => some (.inl (IntKind.i64.wrap (s2.1 + y9), IntKind.i64.wrap (s2.2 + 1)))) else (some (.inr s2.1))
theorem g96_b0_le (x0 : (List Int)) (s2 : Int × Int) : LeO (g96_b0 x0 s2) (f96_b0 x0 s2) := by
  unfold g96_b0 f96_b0
  repeat (first | (with_reducible exact LeO.refl _) | (with_reducible refine LeO.bind ?_ (fun _ => ?_)) | (with_reducible refine LeO.ite ?_ ?_) | (with_reducible refine LeO.elim (fun _ => ?_) (fun _ => ?_) _) | (with_reducible refine LeO.lp (fun _ => ?_) _) | (with_reducible refine LeO.rg (fun _ _ => ?_) _ _))
def g96 (x0 : (List Int)) : Option Int :=
  (lpF (g96_b0 x0) (0, 0)).bind fun q4 => some q4
theorem g96_le (x0 : (List Int)) : LeO (g96 x0) (f96 x0) := by
  unfold g96 f96
  repeat (first | (with_reducible exact LeO.refl _) | (with_reducible refine g96_b0_le _ _) | (with_reducible refine LeO.bind ?_ (fun _ => ?_)) | (with_reducible refine LeO.ite ?_ ?_) | (with_reducible refine LeO.elim (fun _ => ?_) (fun _ => ?_) _) | (with_reducible refine LeO.lp (fun _ => ?_) _) | (with_reducible refine LeO.rg (fun _ _ => ?_) _ _))
def g67_b0 (x0 : TBaneFish) (x2 : (List Int)) (x3 : (Int → Option Int)) (s10 : (List Int) × Int) : Option (((List Int) × Int) ⊕ (List Int)) :=
  if (decide (s10.2 < (x0.Bites.length : Int))) = true then ((ix x0.Bites s10.2).bind fun y17 => (ix x2 y17.Prey).bind fun y24 => (x3 s10.2).bind fun y26 => (app s10.1 [IntKind.i64.wrap ((IntKind.i64.wrap (y26 * y24)).tdiv 1000)]).bind fun y31 => some (.inl (y31, IntKind.i64.wrap (s10.2 + 1)))) else (some (.inr s10.1))
theorem g67_b0_le (x0 : TBaneFish) (x2 : (List Int)) (x3 : (Int → Option Int)) (s10 : (List Int) × Int) (x3q : (Int → Option Int)) (hx3 : ∀ z0, LeO (x3 z0) (x3q z0)) : LeO (g67_b0 x0 x2 x3 s10) (f67_b0 x0 x2 x3q s10) := by
  unfold g67_b0 f67_b0
  repeat (first | (with_reducible exact hx3 _) | (with_reducible exact LeO.refl _) | (with_reducible refine LeO.bind ?_ (fun _ => ?_)) | (with_reducible refine LeO.ite ?_ ?_) | (with_reducible refine LeO.elim (fun _ => ?_) (fun _ => ?_) _) | (with_reducible refine LeO.lp (fun _ => ?_) _) | (with_reducible refine LeO.rg (fun _ _ => ?_) _ _))
def g67 (x0 : TBaneFish) (x1 : Int) (x2 : (List Int)) (x3 : (Int → Option Int)) : Option Int :=
  (lpF (g67_b0 x0 x2 x3) ([x1], 0)).bind fun q12 => (g96 q12).bind fun y35 => some y35
theorem g67_le (x0 : TBaneFish) (x1 : Int) (x2 : (List Int)) (x3 : (Int → Option Int)) (x3q : (Int → Option Int)) (hx3 : ∀ z0, LeO (x3 z0) (x3q z0)) : LeO (g67 x0 x1 x2 x3) (f67 x0 x1 x2 x3q) := by
  unfold g67 f67
  repeat (first | (with_reducible exact hx3 _) | (with_reducible exact LeO.refl _) | (with_reducible refine g67_b0_le _ _ _ _ _ (fun _ => ?_)) | (with_reducible refine g96_le _) | (with_reducible refine LeO.bind ?_ (fun _ => ?_)) | (with_reducible refine LeO.ite ?_ ?_) | (with_reducible refine LeO.elim (fun _ => ?_) (fun _ => ?_) _) | (with_reducible refine LeO.lp (fun _ => ?_) _) | (with_reducible refine LeO.rg (fun _ _ => ?_) _ _))
def g68 (x0 : Int) (x1 : TBaneTruth) (x2 : Int) : Option Int :=
  (ix x1.Shares x2).bind fun y3 => (ix y3 x0).bind fun y6 => some y6
theorem g68_le (x0 : Int) (x1 : TBaneTruth) (x2 : Int) : LeO (g68 x0 x1 x2) (f68 x0 x1 x2) := by
  unfold g68 f68
  repeat (first | (with_reducible exact LeO.refl _) | (with_reducible refine LeO.bind ?_ (fun _ => ?_)) | (with_reducible refine LeO.ite ?_ ?_) | (with_reducible refine LeO.elim (fun _ => ?_) (fun _ => ?_) _) | (with_reducible refine LeO.lp (fun _ => ?_) _) | (with_reducible refine LeO.rg (fun _ _ => ?_) _ _))
def g20_b1 (s19 : (List Int) × Int) (x1 : TBaneTruth) (y26 : TBaneFish) (s51 : Int) : Option (Int ⊕ (Unit ⊕ ((List Int) × Int))) :=
  if (decide (s51 < (y26.Bites.length : Int))) = true then ((ix y26.Bites s51).bind fun y58 => (ix x1.Shares s19.2).bind fun y65 => (ix y65 s51).bind fun y68 => (g66 y68 y58.Share.Low y58.Share.High).bind fun y70 => if (!y70) = true then (some (.inr (.inr ([], 2)))) else (some (.inl (IntKind.i64.wrap (s51 + 1))))) else (some (.inr (.inl ())))
theorem g20_b1_le (s19 : (List Int) × Int) (x1 : TBaneTruth) (y26 : TBaneFish) (s51 : Int) : LeO (g20_b1 s19 x1 y26 s51) (f20_b1 s19 x1 y26 s51) := by
  unfold g20_b1 f20_b1
  repeat (first | (with_reducible exact LeO.refl _) | (with_reducible refine g66_le _ _ _) | (with_reducible refine LeO.bind ?_ (fun _ => ?_)) | (with_reducible refine LeO.ite ?_ ?_) | (with_reducible refine LeO.elim (fun _ => ?_) (fun _ => ?_) _) | (with_reducible refine LeO.lp (fun _ => ?_) _) | (with_reducible refine LeO.rg (fun _ _ => ?_) _ _))
def g20_b0 (x0 : TBaneWeb) (x1 : TBaneTruth) (s19 : (List Int) × Int) : Option (((List Int) × Int) ⊕ ((List Int) ⊕ ((List Int) × Int))) :=
  if (decide (s19.2 < (x0.Fish.length : Int))) = true then ((ix x0.Fish s19.2).bind fun y26 => (((ix x1.Bases s19.2).bind fun y40 => (g66 y40 y26.Base.Low y26.Base.High).bind fun y42 => if (!y42) = true then (some true) else ((ix x1.Shares s19.2).bind fun y45 => some ((y45.length : Int) != (y26.Bites.length : Int))) : Option Bool)).bind fun q39 => if q39 = true then (some (.inr (.inr ([], 2)))) else ((lpF (g20_b1 s19 x1 y26) 0).bind fun q53 => Sum.elim (fun p52 : Unit => (ix x1.Bases s19.2).bind fun y75 => (g67 y26 y75 s19.1 (fun (z0 : Int) => g68 z0 x1 s19.2)).bind fun y78 => (app s19.1 [y78]).bind fun y84 => some (.inl (y84, IntKind.i64.wrap (s19.2 + 1)))) (fun v86 : (List Int) × Int => some (.inr (.inr v86))) q53)) else (some (.inr (.inl s19.1)))
theorem g20_b0_le (x0 : TBaneWeb) (x1 : TBaneTruth) (s19 : (List Int) × Int) : LeO (g20_b0 x0 x1 s19) (f20_b0 x0 x1 s19) := by
  unfold g20_b0 f20_b0
  repeat (first | (with_reducible exact LeO.refl _) | (with_reducible refine g20_b1_le _ _ _ _) | (with_reducible refine g66_le _ _ _) | (with_reducible refine g67_le _ _ _ _ _ (fun _ => ?_)) | (with_reducible refine g68_le _ _ _) | (with_reducible refine LeO.bind ?_ (fun _ => ?_)) | (with_reducible refine LeO.ite ?_ ?_) | (with_reducible refine LeO.elim (fun _ => ?_) (fun _ => ?_) _) | (with_reducible refine LeO.lp (fun _ => ?_) _) | (with_reducible refine LeO.rg (fun _ _ => ?_) _ _))
def g20 (x0 : TBaneWeb) (x1 : TBaneTruth) : Option ((List Int) × Int) :=
  (((g65 x0).bind fun y11 => if (!y11) = true then (some true) else (if ((x1.Bases.length : Int) != (x0.Fish.length : Int)) = true then (some true) else (some ((x1.Shares.length : Int) != (x0.Fish.length : Int)))) : Option Bool)).bind fun q10 => if q10 = true then (some ([], 2)) else ((lpF (g20_b0 x0 x1) ([], 0)).bind fun q21 => Sum.elim (fun p20 : (List Int) => some (p20, 0)) (fun v90 : (List Int) × Int => some v90) q21)
theorem g20_le (x0 : TBaneWeb) (x1 : TBaneTruth) : LeO (g20 x0 x1) (f20 x0 x1) := by
  unfold g20 f20
  repeat (first | (with_reducible exact LeO.refl _) | (with_reducible refine g20_b0_le _ _ _) | (with_reducible refine g65_le _) | (with_reducible refine LeO.bind ?_ (fun _ => ?_)) | (with_reducible refine LeO.ite ?_ ?_) | (with_reducible refine LeO.elim (fun _ => ?_) (fun _ => ?_) _) | (with_reducible refine LeO.lp (fun _ => ?_) _) | (with_reducible refine LeO.rg (fun _ _ => ?_) _ _))
def g23_b0 (x0 : (List Int)) (x1 : (List Int)) (s4 : Int) : Option (Int ⊕ (Unit ⊕ Bool)) :=
  if (decide (s4 < (x0.length : Int))) = true then ((ix x0 s4).bind fun y11 => (ix x1 s4).bind fun y13 => if (y11 != y13) = true then (some (.inr (.inr false))) else (some (.inl (IntKind.i64.wrap (s4 + 1))))) else (some (.inr (.inl ())))
theorem g23_b0_le (x0 : (List Int)) (x1 : (List Int)) (s4 : Int) : LeO (g23_b0 x0 x1 s4) (f23_b0 x0 x1 s4) := by
  unfold g23_b0 f23_b0
  repeat (first | (with_reducible exact LeO.refl _) | (with_reducible refine LeO.bind ?_ (fun _ => ?_)) | (with_reducible refine LeO.ite ?_ ?_) | (with_reducible refine LeO.elim (fun _ => ?_) (fun _ => ?_) _) | (with_reducible refine LeO.lp (fun _ => ?_) _) | (with_reducible refine LeO.rg (fun _ _ => ?_) _ _))
def g23 (x0 : (List Int)) (x1 : (List Int)) : Option Bool :=
  if ((x0.length : Int) != (x1.length : Int)) = true then (some false) else ((lpF (g23_b0 x0 x1) 0).bind fun q6 => Sum.elim (fun p5 : Unit => some true) (fun v18 : Bool => some v18) q6)
theorem g23_le (x0 : (List Int)) (x1 : (List Int)) : LeO (g23 x0 x1) (f23 x0 x1) := by
  unfold g23 f23
  repeat (first | (with_reducible exact LeO.refl _) | (with_reducible refine g23_b0_le _ _ _) | (with_reducible refine LeO.bind ?_ (fun _ => ?_)) | (with_reducible refine LeO.ite ?_ ?_) | (with_reducible refine LeO.elim (fun _ => ?_) (fun _ => ?_) _) | (with_reducible refine LeO.lp (fun _ => ?_) _) | (with_reducible refine LeO.rg (fun _ _ => ?_) _ _))
def g97 (x0 : Int) (x1 : TBaneFish) : Option Int :=
  (ix x1.Bites x0).bind fun y2 => some y2.Share.Low
theorem g97_le (x0 : Int) (x1 : TBaneFish) : LeO (g97 x0 x1) (f97 x0 x1) := by
  unfold g97 f97
  repeat (first | (with_reducible exact LeO.refl _) | (with_reducible refine LeO.bind ?_ (fun _ => ?_)) | (with_reducible refine LeO.ite ?_ ?_) | (with_reducible refine LeO.elim (fun _ => ?_) (fun _ => ?_) _) | (with_reducible refine LeO.lp (fun _ => ?_) _) | (with_reducible refine LeO.rg (fun _ _ => ?_) _ _))
def g71_b0 (x0 : TWeb) (s6 : (List Int) × Int) : Option (((List Int) × Int) ⊕ (List Int)) :=
  if (decide (s6.2 < (x0.BaneWeb.Fish.length : Int))) = true then ((ix x0.BaneWeb.Fish s6.2).bind fun y13 => (g67 y13 y13.Base.Low s6.1 (fun (z0 : Int) => g97 z0 y13)).bind fun y22 => (app s6.1 [y22]).bind fun y28 => some (.inl (y28, IntKind.i64.wrap (s6.2 + 1)))) else (some (.inr s6.1))
theorem g71_b0_le (x0 : TWeb) (s6 : (List Int) × Int) : LeO (g71_b0 x0 s6) (f71_b0 x0 s6) := by
  unfold g71_b0 f71_b0
  repeat (first | (with_reducible exact LeO.refl _) | (with_reducible refine g67_le _ _ _ _ _ (fun _ => ?_)) | (with_reducible refine g97_le _ _) | (with_reducible refine LeO.bind ?_ (fun _ => ?_)) | (with_reducible refine LeO.ite ?_ ?_) | (with_reducible refine LeO.elim (fun _ => ?_) (fun _ => ?_) _) | (with_reducible refine LeO.lp (fun _ => ?_) _) | (with_reducible refine LeO.rg (fun _ _ => ?_) _ _))
def g71 (x0 : TWeb) : Option (List Int) :=
  (lpF (g71_b0 x0) ([], 0)).bind fun q8 => some q8
theorem g71_le (x0 : TWeb) : LeO (g71 x0) (f71 x0) := by
  unfold g71 f71
  repeat (first | (with_reducible exact LeO.refl _) | (with_reducible refine g71_b0_le _ _) | (with_reducible refine LeO.bind ?_ (fun _ => ?_)) | (with_reducible refine LeO.ite ?_ ?_) | (with_reducible refine LeO.elim (fun _ => ?_) (fun _ => ?_) _) | (with_reducible refine LeO.lp (fun _ => ?_) _) | (with_reducible refine LeO.rg (fun _ _ => ?_) _ _))
def g98 (x0 : Int) (x1 : TBaneFish) : Option Int :=
  (ix x1.Bites x0).bind fun y2 => some y2.Share.High
theorem g98_le (x0 : Int) (x1 : TBaneFish) : LeO (g98 x0 x1) (f98 x0 x1) := by
  unfold g98 f98
  repeat (first | (with_reducible exact LeO.refl _) | (with_reducible refine LeO.bind ?_ (fun _ => ?_)) | (with_reducible refine LeO.ite ?_ ?_) | (with_reducible refine LeO.elim (fun _ => ?_) (fun _ => ?_) _) | (with_reducible refine LeO.lp (fun _ => ?_) _) | (with_reducible refine LeO.rg (fun _ _ => ?_) _ _))
def g72_b0 (x0 : TWeb) (s6 : (List Int) × Int) : Option (((List Int) × Int) ⊕ (List Int)) :=
  if (decide (s6.2 < (x0.BaneWeb.Fish.length : Int))) = true then ((ix x0.BaneWeb.Fish s6.2).bind fun y13 => (g67 y13 y13.Base.High s6.1 (fun (z0 : Int) => g98 z0 y13)).bind fun y22 => (((shrI .i64 x0.tests s6.2).bind fun y26 => if ((andI .i64 y26 1) == 1) = true then (some (if y13.Pass < y22 then y13.Pass else y22)) else (some y22) : Option Int)).bind fun q25 => (app s6.1 [q25]).bind fun y33 => some (.inl (y33, IntKind.i64.wrap (s6.2 + 1)))) else (some (.inr s6.1))
theorem g72_b0_le (x0 : TWeb) (s6 : (List Int) × Int) : LeO (g72_b0 x0 s6) (f72_b0 x0 s6) := by
  unfold g72_b0 f72_b0
  repeat (first | (with_reducible exact LeO.refl _) | (with_reducible refine g67_le _ _ _ _ _ (fun _ => ?_)) | (with_reducible refine g98_le _ _) | (with_reducible refine LeO.bind ?_ (fun _ => ?_)) | (with_reducible refine LeO.ite ?_ ?_) | (with_reducible refine LeO.elim (fun _ => ?_) (fun _ => ?_) _) | (with_reducible refine LeO.lp (fun _ => ?_) _) | (with_reducible refine LeO.rg (fun _ _ => ?_) _ _))
def g72 (x0 : TWeb) : Option (List Int) :=
  (lpF (g72_b0 x0) ([], 0)).bind fun q8 => some q8
theorem g72_le (x0 : TWeb) : LeO (g72 x0) (f72 x0) := by
  unfold g72 f72
  repeat (first | (with_reducible exact LeO.refl _) | (with_reducible refine g72_b0_le _ _) | (with_reducible refine LeO.bind ?_ (fun _ => ?_)) | (with_reducible refine LeO.ite ?_ ?_) | (with_reducible refine LeO.elim (fun _ => ?_) (fun _ => ?_) _) | (with_reducible refine LeO.lp (fun _ => ?_) _) | (with_reducible refine LeO.rg (fun _ _ => ?_) _ _))
def g25_b0 (x0 : TBaneWeb) (s29 : (List TSpan) × Int × ((List Int) × (List Int))) : Option (((List TSpan) × Int × ((List Int) × (List Int))) ⊕ ((List TSpan) × ((List Int) × (List Int)))) :=
  if (decide (s29.2.1 < (x0.Fish.length : Int))) = true then ((ix s29.2.2.1 s29.2.1).bind fun y36 => (ix s29.2.2.2 s29.2.1).bind fun y38 => (app s29.1 [(⟨y36, y38⟩ : TSpan)]).bind fun y43 => some (.inl (y43, IntKind.i64.wrap (s29.2.1 + 1), s29.2.2))) else (some (.inr (s29.1, s29.2.2)))
theorem g25_b0_le (x0 : TBaneWeb) (s29 : (List TSpan) × Int × ((List Int) × (List Int))) : LeO (g25_b0 x0 s29) (f25_b0 x0 s29) := by
  unfold g25_b0 f25_b0
  repeat (first | (with_reducible exact LeO.refl _) | (with_reducible refine LeO.bind ?_ (fun _ => ?_)) | (with_reducible refine LeO.ite ?_ ?_) | (with_reducible refine LeO.elim (fun _ => ?_) (fun _ => ?_) _) | (with_reducible refine LeO.lp (fun _ => ?_) _) | (with_reducible refine LeO.rg (fun _ _ => ?_) _ _))
def g25 (x0 : TBaneWeb) : Option ((List TSpan) × Int) :=
  (g65 x0).bind fun y5 => if (!y5) = true then (some ([], 2)) else (((g71 (⟨x0, 0⟩ : TWeb))).bind fun y18 => ((g72 (⟨x0, 0⟩ : TWeb))).bind fun y23 => (lpF (g25_b0 x0) ([], 0, (y18, y23))).bind fun q31 => some (q31.1, 0))
theorem g25_le (x0 : TBaneWeb) : LeO (g25 x0) (f25 x0) := by
  unfold g25 f25
  repeat (first | (with_reducible exact LeO.refl _) | (with_reducible refine g25_b0_le _ _) | (with_reducible refine g65_le _) | (with_reducible refine g71_le _) | (with_reducible refine g72_le _) | (with_reducible refine LeO.bind ?_ (fun _ => ?_)) | (with_reducible refine LeO.ite ?_ ?_) | (with_reducible refine LeO.elim (fun _ => ?_) (fun _ => ?_) _) | (with_reducible refine LeO.lp (fun _ => ?_) _) | (with_reducible refine LeO.rg (fun _ _ => ?_) _ _))
def g86_b0 (x0 : (List Int)) (x1 : Int) (s2 : Int) : Option (Int ⊕ (Unit ⊕ Bool)) :=
  if (decide (s2 < (x0.length : Int))) = true then ((ix x0 s2).bind fun y9 => (((g66 y9 0 (IntKind.i64.wrap (x1 - 1))).bind fun y12 => if (!y12) = true then (some true) else (if (decide (0 < s2)) = true then ((ix x0 (IntKind.i64.wrap (s2 - 1))).bind fun y16 => some (decide (y9 ≤ y16))) else (some false)) : Option Bool)).bind fun q11 => if q11 = true then (some (.inr (.inr false))) else (some (.inl (IntKind.i64.wrap (s2 + 1))))) else (some (.inr (.inl ())))
theorem g86_b0_le (x0 : (List Int)) (x1 : Int) (s2 : Int) : LeO (g86_b0 x0 x1 s2) (f86_b0 x0 x1 s2) := by
  unfold g86_b0 f86_b0
  repeat (first | (with_reducible exact LeO.refl _) | (with_reducible refine g66_le _ _ _) | (with_reducible refine LeO.bind ?_ (fun _ => ?_)) | (with_reducible refine LeO.ite ?_ ?_) | (with_reducible refine LeO.elim (fun _ => ?_) (fun _ => ?_) _) | (with_reducible refine LeO.lp (fun _ => ?_) _) | (with_reducible refine LeO.rg (fun _ _ => ?_) _ _))
def g86 (x0 : (List Int)) (x1 : Int) : Option Bool :=
  (lpF (g86_b0 x0 x1) 0).bind fun q4 => Sum.elim (fun p3 : Unit => some true) (fun v23 : Bool => some v23) q4
theorem g86_le (x0 : (List Int)) (x1 : Int) : LeO (g86 x0 x1) (f86 x0 x1) := by
  unfold g86 f86
  repeat (first | (with_reducible exact LeO.refl _) | (with_reducible refine g86_b0_le _ _ _) | (with_reducible refine LeO.bind ?_ (fun _ => ?_)) | (with_reducible refine LeO.ite ?_ ?_) | (with_reducible refine LeO.elim (fun _ => ?_) (fun _ => ?_) _) | (with_reducible refine LeO.lp (fun _ => ?_) _) | (with_reducible refine LeO.rg (fun _ _ => ?_) _ _))
def g112_b0 (x0 : (List TBaneTrip)) (x1 : (TBaneTrip → Option Bool)) (s3 : Int) : Option (Int ⊕ (Unit ⊕ Int)) :=
  if (decide (s3 < (x0.length : Int))) = true then ((ix x0 s3).bind fun y10 => (x1 y10).bind fun y12 => if y12 = true then (some (.inr (.inr s3))) else (some (.inl (IntKind.i64.wrap (s3 + 1))))) else (some (.inr (.inl ())))
theorem g112_b0_le (x0 : (List TBaneTrip)) (x1 : (TBaneTrip → Option Bool)) (s3 : Int) (x1q : (TBaneTrip → Option Bool)) (hx1 : ∀ z0, LeO (x1 z0) (x1q z0)) : LeO (g112_b0 x0 x1 s3) (f112_b0 x0 x1q s3) := by
  unfold g112_b0 f112_b0
  repeat (first | (with_reducible exact hx1 _) | (with_reducible exact LeO.refl _) | (with_reducible refine LeO.bind ?_ (fun _ => ?_)) | (with_reducible refine LeO.ite ?_ ?_) | (with_reducible refine LeO.elim (fun _ => ?_) (fun _ => ?_) _) | (with_reducible refine LeO.lp (fun _ => ?_) _) | (with_reducible refine LeO.rg (fun _ _ => ?_) _ _))
def g112 (x0 : (List TBaneTrip)) (x1 : (TBaneTrip → Option Bool)) : Option Int :=
  (lpF (g112_b0 x0 x1) 0).bind fun q5 => Sum.elim (fun p4 : Unit => some (-1)) (fun v17 : Int => some v17) q5
theorem g112_le (x0 : (List TBaneTrip)) (x1 : (TBaneTrip → Option Bool)) (x1q : (TBaneTrip → Option Bool)) (hx1 : ∀ z0, LeO (x1 z0) (x1q z0)) : LeO (g112 x0 x1) (f112 x0 x1q) := by
  unfold g112 f112
  repeat (first | (with_reducible exact hx1 _) | (with_reducible exact LeO.refl _) | (with_reducible refine g112_b0_le _ _ _ _ (fun _ => ?_)) | (with_reducible refine LeO.bind ?_ (fun _ => ?_)) | (with_reducible refine LeO.ite ?_ ?_) | (with_reducible refine LeO.elim (fun _ => ?_) (fun _ => ?_) _) | (with_reducible refine LeO.lp (fun _ => ?_) _) | (with_reducible refine LeO.rg (fun _ _ => ?_) _ _))
def g103 (x0 : (List TBaneTrip)) (x1 : (TBaneTrip → Option Bool)) : Option Bool :=
  (g112 x0 x1).bind fun y3 => some (decide (0 ≤ y3))
theorem g103_le (x0 : (List TBaneTrip)) (x1 : (TBaneTrip → Option Bool)) (x1q : (TBaneTrip → Option Bool)) (hx1 : ∀ z0, LeO (x1 z0) (x1q z0)) : LeO (g103 x0 x1) (f103 x0 x1q) := by
  unfold g103 f103
  repeat (first | (with_reducible exact hx1 _) | (with_reducible exact LeO.refl _) | (with_reducible refine g112_le _ _ _ (fun _ => ?_)) | (with_reducible refine LeO.bind ?_ (fun _ => ?_)) | (with_reducible refine LeO.ite ?_ ?_) | (with_reducible refine LeO.elim (fun _ => ?_) (fun _ => ?_) _) | (with_reducible refine LeO.lp (fun _ => ?_) _) | (with_reducible refine LeO.rg (fun _ _ => ?_) _ _))
def g104 (x0 : TBaneTrip) (x1 : TBaneSea) : Option Bool :=
  (((g66 x0.Day 0 400).bind fun y8 => if (!y8) = true then (some true) else ((g66 x0.From 0 (IntKind.i64.wrap (x1.Islets - 1))).bind fun y11 => if (!y11) = true then (some true) else ((g66 x0.To 0 (IntKind.i64.wrap (x1.Islets - 1))).bind fun y14 => if (!y14) = true then (some true) else (if (x0.From == x0.To) = true then (some true) else ((g66 x0.Cost 0 1000000).bind fun y18 => some (!y18))))) : Option Bool)).bind fun q7 => some q7
theorem g104_le (x0 : TBaneTrip) (x1 : TBaneSea) : LeO (g104 x0 x1) (f104 x0 x1) := by
  unfold g104 f104
  repeat (first | (with_reducible exact LeO.refl _) | (with_reducible refine g66_le _ _ _) | (with_reducible refine LeO.bind ?_ (fun _ => ?_)) | (with_reducible refine LeO.ite ?_ ?_) | (with_reducible refine LeO.elim (fun _ => ?_) (fun _ => ?_) _) | (with_reducible refine LeO.lp (fun _ => ?_) _) | (with_reducible refine LeO.rg (fun _ _ => ?_) _ _))
def g79 (x0 : TBaneSea) : Option Bool :=
  (((g66 x0.Islets 1 8).bind fun y8 => if y8 = true then ((g86 x0.Infested x0.Islets).bind fun y11 => if y11 = true then ((g86 x0.Clean x0.Islets).bind fun y14 => if y14 = true then (if (decide ((x0.Trips.length : Int) ≤ 9)) = true then ((g66 x0.Wait 0 40).bind fun y18 => if y18 = true then ((g103 x0.Trips (fun (z0 : TBaneTrip) => g104 z0 x0)).bind fun y22 => some (!y22)) else (some false)) else (some false)) else (some false)) else (some false)) else (some false) : Option Bool)).bind fun q7 => some q7
theorem g79_le (x0 : TBaneSea) : LeO (g79 x0) (f79 x0) := by
  unfold g79 f79
  repeat (first | (with_reducible exact LeO.refl _) | (with_reducible refine g103_le _ _ _ (fun _ => ?_)) | (with_reducible refine g104_le _ _) | (with_reducible refine g66_le _ _ _) | (with_reducible refine g86_le _ _) | (with_reducible refine LeO.bind ?_ (fun _ => ?_)) | (with_reducible refine LeO.ite ?_ ?_) | (with_reducible refine LeO.elim (fun _ => ?_) (fun _ => ?_) _) | (with_reducible refine LeO.lp (fun _ => ?_) _) | (with_reducible refine LeO.rg (fun _ _ => ?_) _ _))
def g87_b0 (x0 : (List Int)) (s2 : Int × Int) : Option ((Int × Int) ⊕ Int) :=
  if (decide (s2.2 < (x0.length : Int))) = true then ((ix x0 s2.2).bind fun y9 => (shlI .i64 1 y9).bind fun y11 => some (.inl (orI .i64 s2.1 y11, IntKind.i64.wrap (s2.2 + 1)))) else (some (.inr s2.1))
theorem g87_b0_le (x0 : (List Int)) (s2 : Int × Int) : LeO (g87_b0 x0 s2) (f87_b0 x0 s2) := by
  unfold g87_b0 f87_b0
  repeat (first | (with_reducible exact LeO.refl _) | (with_reducible refine LeO.bind ?_ (fun _ => ?_)) | (with_reducible refine LeO.ite ?_ ?_) | (with_reducible refine LeO.elim (fun _ => ?_) (fun _ => ?_) _) | (with_reducible refine LeO.lp (fun _ => ?_) _) | (with_reducible refine LeO.rg (fun _ _ => ?_) _ _))
def g87 (x0 : (List Int)) : Option Int :=
  (lpF (g87_b0 x0) (0, 0)).bind fun q4 => some q4
theorem g87_le (x0 : (List Int)) : LeO (g87 x0) (f87 x0) := by
  unfold g87 f87
  repeat (first | (with_reducible exact LeO.refl _) | (with_reducible refine g87_b0_le _ _) | (with_reducible refine LeO.bind ?_ (fun _ => ?_)) | (with_reducible refine LeO.ite ?_ ?_) | (with_reducible refine LeO.elim (fun _ => ?_) (fun _ => ?_) _) | (with_reducible refine LeO.lp (fun _ => ?_) _) | (with_reducible refine LeO.rg (fun _ _ => ?_) _ _))
def g73 (x0 : TBaneSea) (x1 : (List Int)) : Option (TSea × Bool) :=
  (((g79 x0).bind fun y12 => if (!y12) = true then (some true) else ((g86 x1 (x0.Trips.length : Int)).bind fun y15 => some (!y15)) : Option Bool)).bind fun q11 => if q11 = true then (some ((⟨(⟨0, [], [], [], 0⟩ : TBaneSea), 0⟩ : TSea), false)) else ((g87 x1).bind fun y21 => some ((⟨x0, y21⟩ : TSea), true))
theorem g73_le (x0 : TBaneSea) (x1 : (List Int)) : LeO (g73 x0 x1) (f73 x0 x1) := by
  unfold g73 f73
  repeat (first | (with_reducible exact LeO.refl _) | (with_reducible refine g79_le _) | (with_reducible refine g86_le _ _) | (with_reducible refine g87_le _) | (with_reducible refine LeO.bind ?_ (fun _ => ?_)) | (with_reducible refine LeO.ite ?_ ?_) | (with_reducible refine LeO.elim (fun _ => ?_) (fun _ => ?_) _) | (with_reducible refine LeO.lp (fun _ => ?_) _) | (with_reducible refine LeO.rg (fun _ _ => ?_) _ _))
def g75_b0 (y7 : (List Int)) (s11 : (List Int) × Int) : Option (((List Int) × Int) ⊕ (List Int)) :=
  if (decide (s11.2 < (y7.length : Int))) = true then ((ix s11.1 s11.2).bind fun y18 => (setIx s11.1 s11.2 (-1)).bind fun y20 => some (.inl (y20, IntKind.i64.wrap (s11.2 + 1)))) else (some (.inr s11.1))
theorem g75_b0_le (y7 : (List Int)) (s11 : (List Int) × Int) : LeO (g75_b0 y7 s11) (f75_b0 y7 s11) := by
  unfold g75_b0 f75_b0
  repeat (first | (with_reducible exact LeO.refl _) | (with_reducible refine LeO.bind ?_ (fun _ => ?_)) | (with_reducible refine LeO.ite ?_ ?_) | (with_reducible refine LeO.elim (fun _ => ?_) (fun _ => ?_) _) | (with_reducible refine LeO.lp (fun _ => ?_) _) | (with_reducible refine LeO.rg (fun _ _ => ?_) _ _))
def g75_b1 (x0 : TSea) (y43 : (Int × TBaneTrip)) (s42 : (List Bool) × TQueue_int_) : Option (((List Bool) × TQueue_int_) ⊕ Empty) :=
  (g74 x0.BaneSea.Infested y43.2.From).bind fun y55 => if y55 = true then ((ix s42.1 y43.1).bind fun y58 => (setIx s42.1 y43.1 true).bind fun y60 => (app s42.2.all [y43.1]).bind fun y65 => some (.inl (y60, (⟨y65⟩ : TQueue_int_)))) else (some (.inl (s42.1, s42.2)))
theorem g75_b1_le (x0 : TSea) (y43 : (Int × TBaneTrip)) (s42 : (List Bool) × TQueue_int_) : LeO (g75_b1 x0 y43 s42) (f75_b1 x0 y43 s42) := by
  unfold g75_b1 f75_b1
  repeat (first | (with_reducible exact LeO.refl _) | (with_reducible refine g74_le _ _) | (with_reducible refine LeO.bind ?_ (fun _ => ?_)) | (with_reducible refine LeO.ite ?_ ?_) | (with_reducible refine LeO.elim (fun _ => ?_) (fun _ => ?_) _) | (with_reducible refine LeO.lp (fun _ => ?_) _) | (with_reducible refine LeO.rg (fun _ _ => ?_) _ _))
def g75_b3 (x0 : TSea) (y89 : TBaneTrip) (y113 : (Int × TBaneTrip)) (s112 : (List Bool) × TQueue_int_) : Option (((List Bool) × TQueue_int_) ⊕ Empty) :=
  (((ix s112.1 y113.1).bind fun y126 => if (!y126) = true then (if (y113.2.From == y89.To) = true then (some (decide ((IntKind.i64.wrap (y89.Day + x0.BaneSea.Wait)) ≤ y113.2.Day))) else (some false)) else (some false) : Option Bool)).bind fun q125 => if q125 = true then ((ix s112.1 y113.1).bind fun y133 => (setIx s112.1 y113.1 true).bind fun y135 => (app s112.2.all [y113.1]).bind fun y140 => some (.inl (y135, (⟨y140⟩ : TQueue_int_)))) else (some (.inl (s112.1, s112.2)))
theorem g75_b3_le (x0 : TSea) (y89 : TBaneTrip) (y113 : (Int × TBaneTrip)) (s112 : (List Bool) × TQueue_int_) : LeO (g75_b3 x0 y89 y113 s112) (f75_b3 x0 y89 y113 s112) := by
  unfold g75_b3 f75_b3
  repeat (first | (with_reducible exact LeO.refl _) | (with_reducible refine LeO.bind ?_ (fun _ => ?_)) | (with_reducible refine LeO.ite ?_ ?_) | (with_reducible refine LeO.elim (fun _ => ?_) (fun _ => ?_) _) | (with_reducible refine LeO.lp (fun _ => ?_) _) | (with_reducible refine LeO.rg (fun _ _ => ?_) _ _))
def g75_b2 (x0 : TSea) (s82 : (List Int) × Int × Bool × (List Bool) × TQueue_int_) : Option (((List Int) × Int × Bool × (List Bool) × TQueue_int_) ⊕ ((List Int) × (List Bool) × TQueue_int_)) :=
  if s82.2.2.1 = true then ((ix x0.BaneSea.Trips s82.2.1).bind fun y89 => (((((ix s82.1 y89.To).bind fun y98 => if (decide (y98 < 0)) = true then (some true) else (some (decide (y89.Day < y98))) : Option Bool)).bind fun q97 => if q97 = true then ((ix s82.1 y89.To).bind fun y105 => (setIx s82.1 y89.To y89.Day).bind fun y107 => some y107) else (some s82.1) : Option (List Int))).bind fun q96 => (rg (g75_b3 x0 y89) (openL x0.shut 0 x0.BaneSea.Trips) (s82.2.2.2.1, s82.2.2.2.2)).bind fun q114 => Sum.elim (fun s112 : (List Bool) × TQueue_int_ => if ((s112.2.all.length : Int) == 0) = true then (some (.inl (q96, 0, false, s112.1, s112.2))) else ((ix s112.2.all 0).bind fun y150 => (subL s112.2.all 1 (s112.2.all.length : Int)).bind fun y152 => some (.inl (q96, y150, true, s112.1, (⟨y152⟩ : TQueue_int_))))) (fun e : Empty => e.elim) q114) else (some (.inr (s82.1, s82.2.2.2.1, s82.2.2.2.2)))
theorem g75_b2_le (x0 : TSea) (s82 : (List Int) × Int × Bool × (List Bool) × TQueue_int_) : LeO (g75_b2 x0 s82) (f75_b2 x0 s82) := by
  unfold g75_b2 f75_b2
  repeat (first | (with_reducible exact LeO.refl _) | (with_reducible refine g75_b3_le _ _ _ _) | (with_reducible refine LeO.bind ?_ (fun _ => ?_)) | (with_reducible refine LeO.ite ?_ ?_) | (with_reducible refine LeO.elim (fun _ => ?_) (fun _ => ?_) _) | (with_reducible refine LeO.lp (fun _ => ?_) _) | (with_reducible refine LeO.rg (fun _ _ => ?_) _ _))
def g75_b4 (x0 : TSea) (s157 : (List Int) × Int × (List Bool) × TQueue_int_) : Option (((List Int) × Int × (List Bool) × TQueue_int_) ⊕ ((List Int) × (List Bool) × TQueue_int_)) :=
  if (decide (s157.2.1 < (x0.BaneSea.Infested.length : Int))) = true then ((ix x0.BaneSea.Infested s157.2.1).bind fun y164 => (ix s157.1 y164).bind fun y166 => (setIx s157.1 y164 0).bind fun y168 => some (.inl (y168, IntKind.i64.wrap (s157.2.1 + 1), s157.2.2.1, (⟨s157.2.2.2.all⟩ : TQueue_int_)))) else (some (.inr (s157.1, s157.2.2.1, s157.2.2.2)))
theorem g75_b4_le (x0 : TSea) (s157 : (List Int) × Int × (List Bool) × TQueue_int_) : LeO (g75_b4 x0 s157) (f75_b4 x0 s157) := by
  unfold g75_b4 f75_b4
  repeat (first | (with_reducible exact LeO.refl _) | (with_reducible refine LeO.bind ?_ (fun _ => ?_)) | (with_reducible refine LeO.ite ?_ ?_) | (with_reducible refine LeO.elim (fun _ => ?_) (fun _ => ?_) _) | (with_reducible refine LeO.lp (fun _ => ?_) _) | (with_reducible refine LeO.rg (fun _ _ => ?_) _ _))
def g75 (x0 : TSea) : Option (List Int) :=
  (mkS x0.BaneSea.Islets 0).bind fun y7 => (lpF (g75_b0 y7) (y7, 0)).bind fun q13 => (mkS (x0.BaneSea.Trips.length : Int) false).bind fun y32 => (rg (g75_b1 x0) (openL x0.shut 0 x0.BaneSea.Trips) (y32, (⟨[]⟩ : TQueue_int_))).bind fun q44 => Sum.elim (fun s42 : (List Bool) × TQueue_int_ => ((if ((s42.2.all.length : Int) == 0) = true then (some (0, false, s42.2)) else ((ix s42.2.all 0).bind fun y76 => (subL s42.2.all 1 (s42.2.all.length : Int)).bind fun y78 => some (y76, true, (⟨y78⟩ : TQueue_int_))) : Option (Int × Bool × TQueue_int_))).bind fun q74 => (lpF (g75_b2 x0) (q13, q74.1, q74.2.1, s42.1, q74.2.2)).bind fun q84 => (lpF (g75_b4 x0) (q84.1, 0, q84.2.1, q84.2.2)).bind fun q159 => some q159.1) (fun e : Empty => e.elim) q44
theorem g75_le (x0 : TSea) : LeO (g75 x0) (f75 x0) := by
  unfold g75 f75
  repeat (first | (with_reducible exact LeO.refl _) | (with_reducible refine g75_b0_le _ _) | (with_reducible refine g75_b1_le _ _ _) | (with_reducible refine g75_b2_le _ _) | (with_reducible refine g75_b4_le _ _) | (with_reducible refine LeO.bind ?_ (fun _ => ?_)) | (with_reducible refine LeO.ite ?_ ?_) | (with_reducible refine LeO.elim (fun _ => ?_) (fun _ => ?_) _) | (with_reducible refine LeO.lp (fun _ => ?_) _) | (with_reducible refine LeO.rg (fun _ _ => ?_) _ _))
def g76_b0 (rec : TSpot → (List ((Int × Int) × Bool)) → (List Int) → Option (Bool × (List ((Int × Int) × Bool)) × (List Int))) (x0 : TSpot) (x1 : TBaneSea) (y16 : TBaneTrip) (y34 : (Int × TBaneTrip)) (s33 : Bool × (List Int) × (List ((Int × Int) × Bool))) : Option ((Bool × (List Int) × (List ((Int × Int) × Bool))) ⊕ (Bool × (List Int) × (List ((Int × Int) × Bool)))) :=
  ((((if (y34.2.From != y16.To) = true then (some true) else (some (decide (y34.2.Day < (IntKind.i64.wrap (y16.Day + x1.Wait))))) : Option Bool)).bind fun q48 => if q48 = true then (some (.inl (s33.2.1, (s33.2.2)))) else ((app s33.2.1 [y34.1]).bind fun y56 => (rec (⟨y34.1, IntKind.i64.wrap (x0.left - 1)⟩ : TSpot) (s33.2.2) y56).bind fun y59 => if y59.1 = true then (some (.inr (true, y59.2.2, (y59.2.1)))) else ((subL y59.2.2 0 (IntKind.i64.wrap ((y59.2.2.length : Int) - 1))).bind fun y65 => some (.inl (y65, (y59.2.1))))) : Option (((List Int) × (List ((Int × Int) × Bool))) ⊕ (Bool × (List Int) × (List ((Int × Int) × Bool)))))).bind fun q46 => Sum.elim (fun p47 : (List Int) × (List ((Int × Int) × Bool)) => some (.inl (s33.1, p47.1, (p47.2)))) (fun v69 : Bool × (List Int) × (List ((Int × Int) × Bool)) => some (.inr v69)) q46
theorem g76_b0_le (rec : TSpot → (List ((Int × Int) × Bool)) → (List Int) → Option (Bool × (List ((Int × Int) × Bool)) × (List Int))) (x0 : TSpot) (x1 : TBaneSea) (y16 : TBaneTrip) (y34 : (Int × TBaneTrip)) (s33 : Bool × (List Int) × (List ((Int × Int) × Bool))) (recq : TSpot → (List ((Int × Int) × Bool)) → (List Int) → Option (Bool × (List ((Int × Int) × Bool)) × (List Int))) (hrec : ∀ z0 z1 z2, LeO (rec z0 z1 z2) (recq z0 z1 z2)) : LeO (g76_b0 rec x0 x1 y16 y34 s33) (f76_b0 recq x0 x1 y16 y34 s33) := by
  unfold g76_b0 f76_b0
  repeat (first | (with_reducible exact hrec _ _ _) | (with_reducible exact LeO.refl _) | (with_reducible refine LeO.bind ?_ (fun _ => ?_)) | (with_reducible refine LeO.ite ?_ ?_) | (with_reducible refine LeO.elim (fun _ => ?_) (fun _ => ?_) _) | (with_reducible refine LeO.lp (fun _ => ?_) _) | (with_reducible refine LeO.rg (fun _ _ => ?_) _ _))
def g76_F (x1 : TBaneSea) (x2 : Int) (x3 : Int) (x5 : TSea) (rec : TSpot → (List ((Int × Int) × Bool)) → (List Int) → Option (Bool × (List ((Int × Int) × Bool)) × (List Int))) (x0 : TSpot) (m4 : (List ((Int × Int) × Bool))) (m6 : (List Int)) : Option (Bool × (List ((Int × Int) × Bool)) × (List Int)) :=
  (ix x1.Trips x0.trip).bind fun y16 => if (x0.left == 0) = true then (((if (y16.To == x2) = true then (some (y16.Day == x3)) else (some false) : Option Bool)).bind fun q24 => some (q24, (m4), m6)) else (if ((lookM (m4) (x0.trip, x0.left)).getD false) = true then (some (false, (m4), m6)) else ((rg (g76_b0 rec x0 x1 y16) (openL x5.shut 0 x5.BaneSea.Trips) (false, m6, (m4))).bind fun q35 => Sum.elim (fun s33 : Bool × (List Int) × (List ((Int × Int) × Bool)) => some (false, (updM (s33.2.2) (x0.trip, x0.left) true), s33.2.1)) (fun s33 : Bool × (List Int) × (List ((Int × Int) × Bool)) => some (s33.1, (s33.2.2), s33.2.1)) q35))
theorem g76_F_le (x1 : TBaneSea) (x2 : Int) (x3 : Int) (x5 : TSea) (rec : TSpot → (List ((Int × Int) × Bool)) → (List Int) → Option (Bool × (List ((Int × Int) × Bool)) × (List Int))) (x0 : TSpot) (m4 : (List ((Int × Int) × Bool))) (m6 : (List Int)) (recq : TSpot → (List ((Int × Int) × Bool)) → (List Int) → Option (Bool × (List ((Int × Int) × Bool)) × (List Int))) (hrec : ∀ z0 z1 z2, LeO (rec z0 z1 z2) (recq z0 z1 z2)) : LeO (g76_F x1 x2 x3 x5 rec x0 m4 m6) (f76_F x1 x2 x3 x5 recq x0 m4 m6) := by
  unfold g76_F f76_F
  repeat (first | (with_reducible exact hrec _ _ _) | (with_reducible exact LeO.refl _) | (with_reducible refine g76_b0_le _ _ _ _ _ _ _ (fun _ _ _ => ?_)) | (with_reducible refine LeO.bind ?_ (fun _ => ?_)) | (with_reducible refine LeO.ite ?_ ?_) | (with_reducible refine LeO.elim (fun _ => ?_) (fun _ => ?_) _) | (with_reducible refine LeO.lp (fun _ => ?_) _) | (with_reducible refine LeO.rg (fun _ _ => ?_) _ _))
def g76 (x1 : TBaneSea) (x2 : Int) (x3 : Int) (x5 : TSea) : Nat → TSpot → (List ((Int × Int) × Bool)) → (List Int) → Option (Bool × (List ((Int × Int) × Bool)) × (List Int))
  | 0 => fun _ _ _ => none
  | n + 1 => fun x0 m4 m6 => g76_F x1 x2 x3 x5 (g76 x1 x2 x3 x5 n) x0 m4 m6
theorem g76_le (x1 : TBaneSea) (x2 : Int) (x3 : Int) (x5 : TSea) : ∀ n z0 z1 z2, LeO (g76 x1 x2 x3 x5 n z0 z1 z2) (f76 x1 x2 x3 x5 n z0 z1 z2)
  | 0, _, _, _ => LeO.refl _
  | n + 1, _, _, _ => g76_F_le _ _ _ _ _ _ _ _ _ (fun z0 z1 z2 => g76_le x1 x2 x3 x5 n z0 z1 z2) 
def g29_b1 (s61 : Int × (List Int) × (List ((Int × Int) × Bool))) (x0 : TBaneSea) (x2 : Int) (y11 : TSea × Bool) (y36 : Int) (y75 : (Int × TBaneTrip)) (s74 : (List Int) × (List ((Int × Int) × Bool))) : Option (((List Int) × (List ((Int × Int) × Bool))) ⊕ ((List Int) × (List ((Int × Int) × Bool)))) :=
  (((g74 x0.Infested y75.2.From).bind fun y89 => if (!y89) = true then (some (.inl (s74.1, (s74.2)))) else ((g76 x0 x2 y36 y11.1 (s61.1.toNat + 1) (⟨y75.1, s61.1⟩ : TSpot) (s74.2) [y75.1]).bind fun y96 => if y96.1 = true then (some (.inr (y96.2.2, (y96.2.1)))) else (some (.inl (y96.2.2, (y96.2.1))))) : Option (((List Int) × (List ((Int × Int) × Bool))) ⊕ ((List Int) × (List ((Int × Int) × Bool)))))).bind fun q87 => Sum.elim (fun p88 : (List Int) × (List ((Int × Int) × Bool)) => some (.inl (p88.1, (p88.2)))) (fun v103 : (List Int) × (List ((Int × Int) × Bool)) => some (.inr v103)) q87
theorem g29_b1_le (s61 : Int × (List Int) × (List ((Int × Int) × Bool))) (x0 : TBaneSea) (x2 : Int) (y11 : TSea × Bool) (y36 : Int) (y75 : (Int × TBaneTrip)) (s74 : (List Int) × (List ((Int × Int) × Bool))) : LeO (g29_b1 s61 x0 x2 y11 y36 y75 s74) (f29_b1 s61 x0 x2 y11 y36 y75 s74) := by
  unfold g29_b1 f29_b1
  repeat (first | (with_reducible exact LeO.refl _) | (with_reducible refine g74_le _ _) | (with_reducible refine g76_le _ _ _ _ _ _ _ _) | (with_reducible refine LeO.bind ?_ (fun _ => ?_)) | (with_reducible refine LeO.ite ?_ ?_) | (with_reducible refine LeO.elim (fun _ => ?_) (fun _ => ?_) _) | (with_reducible refine LeO.lp (fun _ => ?_) _) | (with_reducible refine LeO.rg (fun _ _ => ?_) _ _))
def g29_b0 (x0 : TBaneSea) (x2 : Int) (y11 : TSea × Bool) (y36 : Int) (s61 : Int × (List Int) × (List ((Int × Int) × Bool))) : Option ((Int × (List Int) × (List ((Int × Int) × Bool))) ⊕ ((List Int) × (List ((Int × Int) × Bool)))) :=
  if (decide (s61.1 < (x0.Trips.length : Int))) = true then ((rg (g29_b1 s61 x0 x2 y11 y36) (openL y11.1.shut 0 y11.1.BaneSea.Trips) (s61.2.1, (s61.2.2))).bind fun q76 => Sum.elim (fun s74 : (List Int) × (List ((Int × Int) × Bool)) => some (.inl (IntKind.i64.wrap (s61.1 + 1), s74.1, (s74.2)))) (fun s74 : (List Int) × (List ((Int × Int) × Bool)) => some (.inr (s74.1, (s74.2)))) q76) else (some (.inr (s61.2.1, (s61.2.2))))
theorem g29_b0_le (x0 : TBaneSea) (x2 : Int) (y11 : TSea × Bool) (y36 : Int) (s61 : Int × (List Int) × (List ((Int × Int) × Bool))) : LeO (g29_b0 x0 x2 y11 y36 s61) (f29_b0 x0 x2 y11 y36 s61) := by
  unfold g29_b0 f29_b0
  repeat (first | (with_reducible exact LeO.refl _) | (with_reducible refine g29_b1_le _ _ _ _ _ _ _) | (with_reducible refine LeO.bind ?_ (fun _ => ?_)) | (with_reducible refine LeO.ite ?_ ?_) | (with_reducible refine LeO.elim (fun _ => ?_) (fun _ => ?_) _) | (with_reducible refine LeO.lp (fun _ => ?_) _) | (with_reducible refine LeO.rg (fun _ _ => ?_) _ _))
def g29 (x0 : TBaneSea) (x1 : (List Int)) (x2 : Int) : Option ((List Int) × Int) :=
  (g73 x0 x1).bind fun y11 => ((if (!y11.2) = true then (some true) else ((g66 x2 0 (IntKind.i64.wrap (x0.Islets - 1))).bind fun y24 => some (!y24)) : Option Bool)).bind fun q22 => if q22 = true then (some ([], 2)) else ((g74 x0.Infested x2).bind fun y29 => if y29 = true then (some ([], 0)) else ((g75 y11.1).bind fun y32 => (ix y32 x2).bind fun y36 => if (decide (y36 < 0)) = true then (some ([], 5)) else ((lpF (g29_b0 x0 x2 y11 y36) (0, [], ([] : (List ((Int × Int) × Bool))))).bind fun q63 => some (q63.1, 0))))
theorem g29_le (x0 : TBaneSea) (x1 : (List Int)) (x2 : Int) : LeO (g29 x0 x1 x2) (f29 x0 x1 x2) := by
  unfold g29 f29
  repeat (first | (with_reducible exact LeO.refl _) | (with_reducible refine g29_b0_le _ _ _ _ _) | (with_reducible refine g66_le _ _ _) | (with_reducible refine g73_le _ _) | (with_reducible refine g74_le _ _) | (with_reducible refine g75_le _) | (with_reducible refine LeO.bind ?_ (fun _ => ?_)) | (with_reducible refine LeO.ite ?_ ?_) | (with_reducible refine LeO.elim (fun _ => ?_) (fun _ => ?_) _) | (with_reducible refine LeO.lp (fun _ => ?_) _) | (with_reducible refine LeO.rg (fun _ _ => ?_) _ _))
def g105_b0 (x0 : Int) (x1 : Int) (s2 : (List Int) × Int) : Option (((List Int) × Int) ⊕ (List Int)) :=
  if (decide (s2.2 < x1)) = true then ((((shrI .i64 x0 s2.2).bind fun y10 => if ((andI .i64 y10 1) == 1) = true then ((app s2.1 [s2.2]).bind fun y15 => some y15) else (some s2.1) : Option (List Int))).bind fun q9 => some (.inl (q9, IntKind.i64.wrap (s2.2 + 1)))) else (some (.inr s2.1))
theorem g105_b0_le (x0 : Int) (x1 : Int) (s2 : (List Int) × Int) : LeO (g105_b0 x0 x1 s2) (f105_b0 x0 x1 s2) := by
  unfold g105_b0 f105_b0
  repeat (first | (with_reducible exact LeO.refl _) | (with_reducible refine LeO.bind ?_ (fun _ => ?_)) | (with_reducible refine LeO.ite ?_ ?_) | (with_reducible refine LeO.elim (fun _ => ?_) (fun _ => ?_) _) | (with_reducible refine LeO.lp (fun _ => ?_) _) | (with_reducible refine LeO.rg (fun _ _ => ?_) _ _))
def g105 (x0 : Int) (x1 : Int) : Option (List Int) :=
  (lpF (g105_b0 x0 x1) ([], 0)).bind fun q4 => some q4
theorem g105_le (x0 : Int) (x1 : Int) : LeO (g105 x0 x1) (f105 x0 x1) := by
  unfold g105 f105
  repeat (first | (with_reducible exact LeO.refl _) | (with_reducible refine g105_b0_le _ _ _) | (with_reducible refine LeO.bind ?_ (fun _ => ?_)) | (with_reducible refine LeO.ite ?_ ?_) | (with_reducible refine LeO.elim (fun _ => ?_) (fun _ => ?_) _) | (with_reducible refine LeO.lp (fun _ => ?_) _) | (with_reducible refine LeO.rg (fun _ _ => ?_) _ _))
def g113_b0 (x0 : (List Int)) (s2 : Int) : Option (Int ⊕ (Unit ⊕ Int)) :=
  if (decide (s2 < (x0.length : Int))) = true then ((ix x0 s2).bind fun y9 => if (y9 != 0) = true then (some (.inr (.inr y9))) else (some (.inl (IntKind.i64.wrap (s2 + 1))))) else (some (.inr (.inl ())))
theorem g113_b0_le (x0 : (List Int)) (s2 : Int) : LeO (g113_b0 x0 s2) (f113_b0 x0 s2) := by
  unfold g113_b0 f113_b0
  repeat (first | (with_reducible exact LeO.refl _) | (with_reducible refine LeO.bind ?_ (fun _ => ?_)) | (with_reducible refine LeO.ite ?_ ?_) | (with_reducible refine LeO.elim (fun _ => ?_) (fun _ => ?_) _) | (with_reducible refine LeO.lp (fun _ => ?_) _) | (with_reducible refine LeO.rg (fun _ _ => ?_) _ _))
def g113 (x0 : (List Int)) : Option Int :=
  (lpF (g113_b0 x0) 0).bind fun q4 => Sum.elim (fun p3 : Unit => some 0) (fun v14 : Int => some v14) q4
theorem g113_le (x0 : (List Int)) : LeO (g113 x0) (f113 x0) := by
  unfold g113 f113
  repeat (first | (with_reducible exact LeO.refl _) | (with_reducible refine g113_b0_le _ _) | (with_reducible refine LeO.bind ?_ (fun _ => ?_)) | (with_reducible refine LeO.ite ?_ ?_) | (with_reducible refine LeO.elim (fun _ => ?_) (fun _ => ?_) _) | (with_reducible refine LeO.lp (fun _ => ?_) _) | (with_reducible refine LeO.rg (fun _ _ => ?_) _ _))
def g117 (x0 : Int) : Option Bool :=
  some (x0 != x0)
theorem g117_le (x0 : Int) : LeO (g117 x0) (f117 x0) := by
  unfold g117 f117
  repeat (first | (with_reducible exact LeO.refl _) | (with_reducible refine LeO.bind ?_ (fun _ => ?_)) | (with_reducible refine LeO.ite ?_ ?_) | (with_reducible refine LeO.elim (fun _ => ?_) (fun _ => ?_) _) | (with_reducible refine LeO.lp (fun _ => ?_) _) | (with_reducible refine LeO.rg (fun _ _ => ?_) _ _))
def g114 (x0 : Int) (x1 : Int) : Option Int :=
  (g117 x0).bind fun y1 => (g117 x1).bind fun y3 => if y1 = true then (if y3 = true then (some 0) else (some (-1))) else (if y3 = true then (some 1) else (if (decide (x0 < x1)) = true then (some (-1)) else (if (decide (x1 < x0)) = true then (some 1) else (some 0))))
theorem g114_le (x0 : Int) (x1 : Int) : LeO (g114 x0 x1) (f114 x0 x1) := by
  unfold g114 f114
  repeat (first | (with_reducible exact LeO.refl _) | (with_reducible refine g117_le _) | (with_reducible refine LeO.bind ?_ (fun _ => ?_)) | (with_reducible refine LeO.ite ?_ ?_) | (with_reducible refine LeO.elim (fun _ => ?_) (fun _ => ?_) _) | (with_reducible refine LeO.lp (fun _ => ?_) _) | (with_reducible refine LeO.rg (fun _ _ => ?_) _ _))
def g115_b0 (x0 : (List Int)) (x1 : (List Int)) (s3 : Int) : Option (Int ⊕ (Unit ⊕ Int)) :=
  if (decide (s3 < (x0.length : Int))) = true then ((ix x0 s3).bind fun y10 => if (decide ((x1.length : Int) ≤ s3)) = true then (some (.inr (.inr 1))) else ((ix x1 s3).bind fun y13 => (g114 y10 y13).bind fun y15 => if (y15 != 0) = true then (some (.inr (.inr y15))) else (some (.inl (IntKind.i64.wrap (s3 + 1)))))) else (some (.inr (.inl ())))
theorem g115_b0_le (x0 : (List Int)) (x1 : (List Int)) (s3 : Int) : LeO (g115_b0 x0 x1 s3) (f115_b0 x0 x1 s3) := by
  unfold g115_b0 f115_b0
  repeat (first | (with_reducible exact LeO.refl _) | (with_reducible refine g114_le _ _) | (with_reducible refine LeO.bind ?_ (fun _ => ?_)) | (with_reducible refine LeO.ite ?_ ?_) | (with_reducible refine LeO.elim (fun _ => ?_) (fun _ => ?_) _) | (with_reducible refine LeO.lp (fun _ => ?_) _) | (with_reducible refine LeO.rg (fun _ _ => ?_) _ _))
def g115 (x0 : (List Int)) (x1 : (List Int)) : Option Int :=
  (lpF (g115_b0 x0 x1) 0).bind fun q5 => Sum.elim (fun p4 : Unit => if (decide ((x0.length : Int) < (x1.length : Int))) = true then (some (-1)) else (some 0)) (fun v21 : Int => some v21) q5
theorem g115_le (x0 : (List Int)) (x1 : (List Int)) : LeO (g115 x0 x1) (f115 x0 x1) := by
  unfold g115 f115
  repeat (first | (with_reducible exact LeO.refl _) | (with_reducible refine g115_b0_le _ _ _) | (with_reducible refine LeO.bind ?_ (fun _ => ?_)) | (with_reducible refine LeO.ite ?_ ?_) | (with_reducible refine LeO.elim (fun _ => ?_) (fun _ => ?_) _) | (with_reducible refine LeO.lp (fun _ => ?_) _) | (with_reducible refine LeO.rg (fun _ _ => ?_) _ _))
def g106 (x0 : TChoice) (x1 : TChoice) : Option Bool :=
  (g114 x0.cost x1.cost).bind fun y9 => (g114 (x0.list.length : Int) (x1.list.length : Int)).bind fun y11 => (g115 x0.list x1.list).bind fun y13 => (g113 [y9, y11, y13]).bind fun y18 => some (decide (y18 < 0))
theorem g106_le (x0 : TChoice) (x1 : TChoice) : LeO (g106 x0 x1) (f106 x0 x1) := by
  unfold g106 f106
  repeat (first | (with_reducible exact LeO.refl _) | (with_reducible refine g113_le _) | (with_reducible refine g114_le _ _) | (with_reducible refine g115_le _ _) | (with_reducible refine LeO.bind ?_ (fun _ => ?_)) | (with_reducible refine LeO.ite ?_ ?_) | (with_reducible refine LeO.elim (fun _ => ?_) (fun _ => ?_) _) | (with_reducible refine LeO.lp (fun _ => ?_) _) | (with_reducible refine LeO.rg (fun _ _ => ?_) _ _))
def g80_b1 (x0 : (List TBaneTrip)) (x1 : (TBaneTrip → Option Int)) (y19 : (List Int)) (s27 : Int × TChoice × TChoice × TChoice) : Option ((Int × TChoice × TChoice × TChoice) ⊕ (TChoice × TChoice × TChoice)) :=
  if (decide (s27.1 < (y19.length : Int))) = true then ((ix y19 s27.1).bind fun y34 => (ix x0 y34).bind fun y36 => (x1 y36).bind fun y38 => some (.inl (IntKind.i64.wrap (s27.1 + 1), (⟨IntKind.i64.wrap (s27.2.1.cost + y38), s27.2.1.list⟩ : TChoice), s27.2.2.1, s27.2.2.2))) else (some (.inr (s27.2.1, s27.2.2.1, s27.2.2.2)))
theorem g80_b1_le (x0 : (List TBaneTrip)) (x1 : (TBaneTrip → Option Int)) (y19 : (List Int)) (s27 : Int × TChoice × TChoice × TChoice) (x1q : (TBaneTrip → Option Int)) (hx1 : ∀ z0, LeO (x1 z0) (x1q z0)) : LeO (g80_b1 x0 x1 y19 s27) (f80_b1 x0 x1q y19 s27) := by
  unfold g80_b1 f80_b1
  repeat (first | (with_reducible exact hx1 _) | (with_reducible exact LeO.refl _) | (with_reducible refine LeO.bind ?_ (fun _ => ?_)) | (with_reducible refine LeO.ite ?_ ?_) | (with_reducible refine LeO.elim (fun _ => ?_) (fun _ => ?_) _) | (with_reducible refine LeO.lp (fun _ => ?_) _) | (with_reducible refine LeO.rg (fun _ _ => ?_) _ _))
def g80_b0 (x0 : (List TBaneTrip)) (x1 : (TBaneTrip → Option Int)) (x2 : (Int → Option Bool)) (y10 : Int) (s11 : Bool × Int × TChoice × TChoice) : Option ((Bool × Int × TChoice × TChoice) ⊕ (Bool × TChoice × TChoice)) :=
  if (decide (s11.2.1 < y10)) = true then ((((g105 s11.2.1 (x0.length : Int)).bind fun y19 => (lpF (g80_b1 x0 x1 y19) (0, (⟨0, y19⟩ : TChoice), s11.2.2.1, s11.2.2.2)).bind fun q29 => ((if (!s11.1) = true then ((x2 s11.2.1).bind fun y45 => some y45) else ((g106 q29.1 q29.2.1).bind fun y47 => if y47 = true then ((x2 s11.2.1).bind fun y50 => some y50) else (some false)) : Option Bool)).bind fun q43 => if q43 = true then (some (true, q29.1, q29.2.2)) else (some (s11.1, q29.2.1, q29.2.2)) : Option (Bool × TChoice × TChoice))).bind fun q18 => some (.inl (q18.1, IntKind.i64.wrap (s11.2.1 + 1), q18.2.1, q18.2.2))) else (some (.inr (s11.1, s11.2.2.1, s11.2.2.2)))
theorem g80_b0_le (x0 : (List TBaneTrip)) (x1 : (TBaneTrip → Option Int)) (x2 : (Int → Option Bool)) (y10 : Int) (s11 : Bool × Int × TChoice × TChoice) (x1q : (TBaneTrip → Option Int)) (hx1 : ∀ z0, LeO (x1 z0) (x1q z0)) (x2q : (Int → Option Bool)) (hx2 : ∀ z0, LeO (x2 z0) (x2q z0)) : LeO (g80_b0 x0 x1 x2 y10 s11) (f80_b0 x0 x1q x2q y10 s11) := by
  unfold g80_b0 f80_b0
  repeat (first | (with_reducible exact hx1 _) | (with_reducible exact hx2 _) | (with_reducible exact LeO.refl _) | (with_reducible refine g105_le _ _) | (with_reducible refine g106_le _ _) | (with_reducible refine g80_b1_le _ _ _ _ _ (fun _ => ?_)) | (with_reducible refine LeO.bind ?_ (fun _ => ?_)) | (with_reducible refine LeO.ite ?_ ?_) | (with_reducible refine LeO.elim (fun _ => ?_) (fun _ => ?_) _) | (with_reducible refine LeO.lp (fun _ => ?_) _) | (with_reducible refine LeO.rg (fun _ _ => ?_) _ _))
def g80 (x0 : (List TBaneTrip)) (x1 : (TBaneTrip → Option Int)) (x2 : (Int → Option Bool)) : Option (TChoice × Bool) :=
  (shlI .i64 1 (x0.length : Int)).bind fun y10 => (lpF (g80_b0 x0 x1 x2 y10) (false, 0, (⟨0, []⟩ : TChoice), (⟨0, []⟩ : TChoice))).bind fun q13 => some (q13.2.1, q13.1)
theorem g80_le (x0 : (List TBaneTrip)) (x1 : (TBaneTrip → Option Int)) (x2 : (Int → Option Bool)) (x1q : (TBaneTrip → Option Int)) (hx1 : ∀ z0, LeO (x1 z0) (x1q z0)) (x2q : (Int → Option Bool)) (hx2 : ∀ z0, LeO (x2 z0) (x2q z0)) : LeO (g80 x0 x1 x2) (f80 x0 x1q x2q) := by
  unfold g80 f80
  repeat (first | (with_reducible exact hx1 _) | (with_reducible exact hx2 _) | (with_reducible exact LeO.refl _) | (with_reducible refine g80_b0_le _ _ _ _ _ _ (fun _ => ?_) _ (fun _ => ?_)) | (with_reducible refine LeO.bind ?_ (fun _ => ?_)) | (with_reducible refine LeO.ite ?_ ?_) | (with_reducible refine LeO.elim (fun _ => ?_) (fun _ => ?_) _) | (with_reducible refine LeO.lp (fun _ => ?_) _) | (with_reducible refine LeO.rg (fun _ _ => ?_) _ _))
def g81 (x0 : TBaneTrip) : Option Int :=
  some x0.Cost
theorem g81_le (x0 : TBaneTrip) : LeO (g81 x0) (f81 x0) := by
  unfold g81 f81
  repeat (first | (with_reducible exact LeO.refl _) | (with_reducible refine LeO.bind ?_ (fun _ => ?_)) | (with_reducible refine LeO.ite ?_ ?_) | (with_reducible refine LeO.elim (fun _ => ?_) (fun _ => ?_) _) | (with_reducible refine LeO.lp (fun _ => ?_) _) | (with_reducible refine LeO.rg (fun _ _ => ?_) _ _))
def g116_b0 (x0 : (List Int)) (x1 : (Int → Option Bool)) (s3 : Int) : Option (Int ⊕ (Unit ⊕ Int)) :=
  if (decide (s3 < (x0.length : Int))) = true then ((ix x0 s3).bind fun y10 => (x1 y10).bind fun y12 => if y12 = true then (some (.inr (.inr s3))) else (some (.inl (IntKind.i64.wrap (s3 + 1))))) else (some (.inr (.inl ())))
theorem g116_b0_le (x0 : (List Int)) (x1 : (Int → Option Bool)) (s3 : Int) (x1q : (Int → Option Bool)) (hx1 : ∀ z0, LeO (x1 z0) (x1q z0)) : LeO (g116_b0 x0 x1 s3) (f116_b0 x0 x1q s3) := by
  unfold g116_b0 f116_b0
  repeat (first | (with_reducible exact hx1 _) | (with_reducible exact LeO.refl _) | (with_reducible refine LeO.bind ?_ (fun _ => ?_)) | (with_reducible refine LeO.ite ?_ ?_) | (with_reducible refine LeO.elim (fun _ => ?_) (fun _ => ?_) _) | (with_reducible refine LeO.lp (fun _ => ?_) _) | (with_reducible refine LeO.rg (fun _ _ => ?_) _ _))
def g116 (x0 : (List Int)) (x1 : (Int → Option Bool)) : Option Int :=
  (lpF (g116_b0 x0 x1) 0).bind fun q5 => Sum.elim (fun p4 : Unit => some (-1)) (fun v17 : Int => some v17) q5
theorem g116_le (x0 : (List Int)) (x1 : (Int → Option Bool)) (x1q : (Int → Option Bool)) (hx1 : ∀ z0, LeO (x1 z0) (x1q z0)) : LeO (g116 x0 x1) (f116 x0 x1q) := by
  unfold g116 f116
  repeat (first | (with_reducible exact hx1 _) | (with_reducible exact LeO.refl _) | (with_reducible refine g116_b0_le _ _ _ _ (fun _ => ?_)) | (with_reducible refine LeO.bind ?_ (fun _ => ?_)) | (with_reducible refine LeO.ite ?_ ?_) | (with_reducible refine LeO.elim (fun _ => ?_) (fun _ => ?_) _) | (with_reducible refine LeO.lp (fun _ => ?_) _) | (with_reducible refine LeO.rg (fun _ _ => ?_) _ _))
def g107 (x0 : (List Int)) (x1 : (Int → Option Bool)) : Option Bool :=
  (g116 x0 x1).bind fun y3 => some (decide (0 ≤ y3))
theorem g107_le (x0 : (List Int)) (x1 : (Int → Option Bool)) (x1q : (Int → Option Bool)) (hx1 : ∀ z0, LeO (x1 z0) (x1q z0)) : LeO (g107 x0 x1) (f107 x0 x1q) := by
  unfold g107 f107
  repeat (first | (with_reducible exact hx1 _) | (with_reducible exact LeO.refl _) | (with_reducible refine g116_le _ _ _ (fun _ => ?_)) | (with_reducible refine LeO.bind ?_ (fun _ => ?_)) | (with_reducible refine LeO.ite ?_ ?_) | (with_reducible refine LeO.elim (fun _ => ?_) (fun _ => ?_) _) | (with_reducible refine LeO.lp (fun _ => ?_) _) | (with_reducible refine LeO.rg (fun _ _ => ?_) _ _))
def g108 (x0 : Int) (x1 : (List Int)) : Option Bool :=
  (ix x1 x0).bind fun y2 => some (decide (0 ≤ y2))
theorem g108_le (x0 : Int) (x1 : (List Int)) : LeO (g108 x0 x1) (f108 x0 x1) := by
  unfold g108 f108
  repeat (first | (with_reducible exact LeO.refl _) | (with_reducible refine LeO.bind ?_ (fun _ => ?_)) | (with_reducible refine LeO.ite ?_ ?_) | (with_reducible refine LeO.elim (fun _ => ?_) (fun _ => ?_) _) | (with_reducible refine LeO.lp (fun _ => ?_) _) | (with_reducible refine LeO.rg (fun _ _ => ?_) _ _))
def g83 (x0 : TSea) : Option Bool :=
  (g75 x0).bind fun y7 => (g107 x0.BaneSea.Clean (fun (z0 : Int) => g108 z0 y7)).bind fun y17 => some (!y17)
theorem g83_le (x0 : TSea) : LeO (g83 x0) (f83 x0) := by
  unfold g83 f83
  repeat (first | (with_reducible exact LeO.refl _) | (with_reducible refine g107_le _ _ _ (fun _ => ?_)) | (with_reducible refine g108_le _ _) | (with_reducible refine g75_le _) | (with_reducible refine LeO.bind ?_ (fun _ => ?_)) | (with_reducible refine LeO.ite ?_ ?_) | (with_reducible refine LeO.elim (fun _ => ?_) (fun _ => ?_) _) | (with_reducible refine LeO.lp (fun _ => ?_) _) | (with_reducible refine LeO.rg (fun _ _ => ?_) _ _))
def g82 (x0 : Int) (x1 : TBaneSea) : Option Bool :=
  (g83 (⟨x1, x0⟩ : TSea)).bind fun y4 => some y4
theorem g82_le (x0 : Int) (x1 : TBaneSea) : LeO (g82 x0 x1) (f82 x0 x1) := by
  unfold g82 f82
  repeat (first | (with_reducible exact LeO.refl _) | (with_reducible refine g83_le _) | (with_reducible refine LeO.bind ?_ (fun _ => ?_)) | (with_reducible refine LeO.ite ?_ ?_) | (with_reducible refine LeO.elim (fun _ => ?_) (fun _ => ?_) _) | (with_reducible refine LeO.lp (fun _ => ?_) _) | (with_reducible refine LeO.rg (fun _ _ => ?_) _ _))
def g33 (x0 : TBaneSea) : Option ((List Int) × Int × Int) :=
  (g79 x0).bind fun y7 => if (!y7) = true then (some ([], 0, 2)) else ((g80 x0.Trips (fun (z0 : TBaneTrip) => g81 z0) (fun (z0 : Int) => g82 z0 x0)).bind fun y12 => if (!y12.2) = true then (some ([], 0, 5)) else (some (y12.1.list, y12.1.cost, 0)))
theorem g33_le (x0 : TBaneSea) : LeO (g33 x0) (f33 x0) := by
  unfold g33 f33
  repeat (first | (with_reducible exact LeO.refl _) | (with_reducible refine g79_le _) | (with_reducible refine g80_le _ _ _ _ (fun _ => ?_) _ (fun _ => ?_)) | (with_reducible refine g81_le _) | (with_reducible refine g82_le _ _) | (with_reducible refine LeO.bind ?_ (fun _ => ?_)) | (with_reducible refine LeO.ite ?_ ?_) | (with_reducible refine LeO.elim (fun _ => ?_) (fun _ => ?_) _) | (with_reducible refine LeO.lp (fun _ => ?_) _) | (with_reducible refine LeO.rg (fun _ _ => ?_) _ _))
def g34_b0 (x0 : TBaneSea) (s10 : Int) : Option (Int ⊕ (Unit ⊕ (Int × Int))) :=
  if (decide (s10 < 41)) = true then ((g83 (⟨(⟨x0.Islets, x0.Infested, x0.Clean, x0.Trips, s10⟩ : TBaneSea), 0⟩ : TSea)).bind fun y22 => if y22 = true then (some (.inr (.inr (s10, 0)))) else (some (.inl (IntKind.i64.wrap (s10 + 1))))) else (some (.inr (.inl ())))
theorem g34_b0_le (x0 : TBaneSea) (s10 : Int) : LeO (g34_b0 x0 s10) (f34_b0 x0 s10) := by
  unfold g34_b0 f34_b0
  repeat (first | (with_reducible exact LeO.refl _) | (with_reducible refine g83_le _) | (with_reducible refine LeO.bind ?_ (fun _ => ?_)) | (with_reducible refine LeO.ite ?_ ?_) | (with_reducible refine LeO.elim (fun _ => ?_) (fun _ => ?_) _) | (with_reducible refine LeO.lp (fun _ => ?_) _) | (with_reducible refine LeO.rg (fun _ _ => ?_) _ _))
def g34 (x0 : TBaneSea) : Option (Int × Int) :=
  (g79 x0).bind fun y7 => if (!y7) = true then (some (0, 2)) else ((lpF (g34_b0 x0) 0).bind fun q12 => Sum.elim (fun p11 : Unit => some (0, 5)) (fun v27 : Int × Int => some v27) q12)
theorem g34_le (x0 : TBaneSea) : LeO (g34 x0) (f34 x0) := by
  unfold g34 f34
  repeat (first | (with_reducible exact LeO.refl _) | (with_reducible refine g34_b0_le _ _) | (with_reducible refine g79_le _) | (with_reducible refine LeO.bind ?_ (fun _ => ?_)) | (with_reducible refine LeO.ite ?_ ?_) | (with_reducible refine LeO.elim (fun _ => ?_) (fun _ => ?_) _) | (with_reducible refine LeO.lp (fun _ => ?_) _) | (with_reducible refine LeO.rg (fun _ _ => ?_) _ _))
def g39 (x0 : TBaneSea) (x1 : (List Int)) : Option ((List Int) × Int) :=
  (g73 x0 x1).bind fun y8 => if (!y8.2) = true then (some ([], 2)) else ((g75 y8.1).bind fun y20 => some (y20, 0))
theorem g39_le (x0 : TBaneSea) (x1 : (List Int)) : LeO (g39 x0 x1) (f39 x0 x1) := by
  unfold g39 f39
  repeat (first | (with_reducible exact LeO.refl _) | (with_reducible refine g73_le _ _) | (with_reducible refine g75_le _) | (with_reducible refine LeO.bind ?_ (fun _ => ?_)) | (with_reducible refine LeO.ite ?_ ?_) | (with_reducible refine LeO.elim (fun _ => ?_) (fun _ => ?_) _) | (with_reducible refine LeO.lp (fun _ => ?_) _) | (with_reducible refine LeO.rg (fun _ _ => ?_) _ _))
def g89_b1 (x0 : (List TBaneFish)) (x1 : (TBaneFish → Option Int)) (y19 : (List Int)) (s27 : Int × TChoice × TChoice × TChoice) : Option ((Int × TChoice × TChoice × TChoice) ⊕ (TChoice × TChoice × TChoice)) :=
  if (decide (s27.1 < (y19.length : Int))) = true then ((ix y19 s27.1).bind fun y34 => (ix x0 y34).bind fun y36 => (x1 y36).bind fun y39 => some (.inl (IntKind.i64.wrap (s27.1 + 1), (⟨IntKind.i64.wrap (s27.2.1.cost + y39), s27.2.1.list⟩ : TChoice), s27.2.2.1, s27.2.2.2))) else (some (.inr (s27.2.1, s27.2.2.1, s27.2.2.2)))
theorem g89_b1_le (x0 : (List TBaneFish)) (x1 : (TBaneFish → Option Int)) (y19 : (List Int)) (s27 : Int × TChoice × TChoice × TChoice) (x1q : (TBaneFish → Option Int)) (hx1 : ∀ z0, LeO (x1 z0) (x1q z0)) : LeO (g89_b1 x0 x1 y19 s27) (f89_b1 x0 x1q y19 s27) := by
  unfold g89_b1 f89_b1
  repeat (first | (with_reducible exact hx1 _) | (with_reducible exact LeO.refl _) | (with_reducible refine LeO.bind ?_ (fun _ => ?_)) | (with_reducible refine LeO.ite ?_ ?_) | (with_reducible refine LeO.elim (fun _ => ?_) (fun _ => ?_) _) | (with_reducible refine LeO.lp (fun _ => ?_) _) | (with_reducible refine LeO.rg (fun _ _ => ?_) _ _))
def g89_b0 (x0 : (List TBaneFish)) (x1 : (TBaneFish → Option Int)) (x2 : (Int → Option Bool)) (y10 : Int) (s11 : Bool × Int × TChoice × TChoice) : Option ((Bool × Int × TChoice × TChoice) ⊕ (Bool × TChoice × TChoice)) :=
  if (decide (s11.2.1 < y10)) = true then ((((g105 s11.2.1 (x0.length : Int)).bind fun y19 => (lpF (g89_b1 x0 x1 y19) (0, (⟨0, y19⟩ : TChoice), s11.2.2.1, s11.2.2.2)).bind fun q29 => ((if (!s11.1) = true then ((x2 s11.2.1).bind fun y46 => some y46) else ((g106 q29.1 q29.2.1).bind fun y48 => if y48 = true then ((x2 s11.2.1).bind fun y51 => some y51) else (some false)) : Option Bool)).bind fun q44 => if q44 = true then (some (true, q29.1, q29.2.2)) else (some (s11.1, q29.2.1, q29.2.2)) : Option (Bool × TChoice × TChoice))).bind fun q18 => some (.inl (q18.1, IntKind.i64.wrap (s11.2.1 + 1), q18.2.1, q18.2.2))) else (some (.inr (s11.1, s11.2.2.1, s11.2.2.2)))
theorem g89_b0_le (x0 : (List TBaneFish)) (x1 : (TBaneFish → Option Int)) (x2 : (Int → Option Bool)) (y10 : Int) (s11 : Bool × Int × TChoice × TChoice) (x1q : (TBaneFish → Option Int)) (hx1 : ∀ z0, LeO (x1 z0) (x1q z0)) (x2q : (Int → Option Bool)) (hx2 : ∀ z0, LeO (x2 z0) (x2q z0)) : LeO (g89_b0 x0 x1 x2 y10 s11) (f89_b0 x0 x1q x2q y10 s11) := by
  unfold g89_b0 f89_b0
  repeat (first | (with_reducible exact hx1 _) | (with_reducible exact hx2 _) | (with_reducible exact LeO.refl _) | (with_reducible refine g105_le _ _) | (with_reducible refine g106_le _ _) | (with_reducible refine g89_b1_le _ _ _ _ _ (fun _ => ?_)) | (with_reducible refine LeO.bind ?_ (fun _ => ?_)) | (with_reducible refine LeO.ite ?_ ?_) | (with_reducible refine LeO.elim (fun _ => ?_) (fun _ => ?_) _) | (with_reducible refine LeO.lp (fun _ => ?_) _) | (with_reducible refine LeO.rg (fun _ _ => ?_) _ _))
def g89 (x0 : (List TBaneFish)) (x1 : (TBaneFish → Option Int)) (x2 : (Int → Option Bool)) : Option (TChoice × Bool) :=
  (shlI .i64 1 (x0.length : Int)).bind fun y10 => (lpF (g89_b0 x0 x1 x2 y10) (false, 0, (⟨0, []⟩ : TChoice), (⟨0, []⟩ : TChoice))).bind fun q13 => some (q13.2.1, q13.1)
theorem g89_le (x0 : (List TBaneFish)) (x1 : (TBaneFish → Option Int)) (x2 : (Int → Option Bool)) (x1q : (TBaneFish → Option Int)) (hx1 : ∀ z0, LeO (x1 z0) (x1q z0)) (x2q : (Int → Option Bool)) (hx2 : ∀ z0, LeO (x2 z0) (x2q z0)) : LeO (g89 x0 x1 x2) (f89 x0 x1q x2q) := by
  unfold g89 f89
  repeat (first | (with_reducible exact hx1 _) | (with_reducible exact hx2 _) | (with_reducible exact LeO.refl _) | (with_reducible refine g89_b0_le _ _ _ _ _ _ (fun _ => ?_) _ (fun _ => ?_)) | (with_reducible refine LeO.bind ?_ (fun _ => ?_)) | (with_reducible refine LeO.ite ?_ ?_) | (with_reducible refine LeO.elim (fun _ => ?_) (fun _ => ?_) _) | (with_reducible refine LeO.lp (fun _ => ?_) _) | (with_reducible refine LeO.rg (fun _ _ => ?_) _ _))
def g90 (x0 : TBaneFish) : Option Int :=
  some x0.Cost
theorem g90_le (x0 : TBaneFish) : LeO (g90 x0) (f90 x0) := by
  unfold g90 f90
  repeat (first | (with_reducible exact LeO.refl _) | (with_reducible refine LeO.bind ?_ (fun _ => ?_)) | (with_reducible refine LeO.ite ?_ ?_) | (with_reducible refine LeO.elim (fun _ => ?_) (fun _ => ?_) _) | (with_reducible refine LeO.lp (fun _ => ?_) _) | (with_reducible refine LeO.rg (fun _ _ => ?_) _ _))
def g109 (x0 : Int) (x1 : (List Int)) (x2 : TWeb) : Option Bool :=
  (ix x1 x0).bind fun y3 => some (decide (x2.BaneWeb.Limit < y3))
theorem g109_le (x0 : Int) (x1 : (List Int)) (x2 : TWeb) : LeO (g109 x0 x1 x2) (f109 x0 x1 x2) := by
  unfold g109 f109
  repeat (first | (with_reducible exact LeO.refl _) | (with_reducible refine LeO.bind ?_ (fun _ => ?_)) | (with_reducible refine LeO.ite ?_ ?_) | (with_reducible refine LeO.elim (fun _ => ?_) (fun _ => ?_) _) | (with_reducible refine LeO.lp (fun _ => ?_) _) | (with_reducible refine LeO.rg (fun _ _ => ?_) _ _))
def g88 (x0 : TWeb) (x1 : (List Int)) : Option Bool :=
  (g72 x0).bind fun y6 => (g107 x1 (fun (z0 : Int) => g109 z0 y6 x0)).bind fun y16 => some (!y16)
theorem g88_le (x0 : TWeb) (x1 : (List Int)) : LeO (g88 x0 x1) (f88 x0 x1) := by
  unfold g88 f88
  repeat (first | (with_reducible exact LeO.refl _) | (with_reducible refine g107_le _ _ _ (fun _ => ?_)) | (with_reducible refine g109_le _ _ _) | (with_reducible refine g72_le _) | (with_reducible refine LeO.bind ?_ (fun _ => ?_)) | (with_reducible refine LeO.ite ?_ ?_) | (with_reducible refine LeO.elim (fun _ => ?_) (fun _ => ?_) _) | (with_reducible refine LeO.lp (fun _ => ?_) _) | (with_reducible refine LeO.rg (fun _ _ => ?_) _ _))
def g91 (x0 : Int) (x1 : TBaneWeb) (x2 : (List Int)) : Option Bool :=
  (g88 (⟨x1, x0⟩ : TWeb) x2).bind fun y3 => some y3
theorem g91_le (x0 : Int) (x1 : TBaneWeb) (x2 : (List Int)) : LeO (g91 x0 x1 x2) (f91 x0 x1 x2) := by
  unfold g91 f91
  repeat (first | (with_reducible exact LeO.refl _) | (with_reducible refine g88_le _ _) | (with_reducible refine LeO.bind ?_ (fun _ => ?_)) | (with_reducible refine LeO.ite ?_ ?_) | (with_reducible refine LeO.elim (fun _ => ?_) (fun _ => ?_) _) | (with_reducible refine LeO.lp (fun _ => ?_) _) | (with_reducible refine LeO.rg (fun _ _ => ?_) _ _))
def g42 (x0 : TBaneWeb) (x1 : (List Int)) : Option ((List Int) × Int × Int) :=
  (((g65 x0).bind fun y10 => if (!y10) = true then (some true) else ((g86 x1 (x0.Fish.length : Int)).bind fun y13 => some (!y13)) : Option Bool)).bind fun q9 => if q9 = true then (some ([], 0, 2)) else ((g89 x0.Fish (fun (z0 : TBaneFish) => g90 z0) (fun (z0 : Int) => g91 z0 x0 x1)).bind fun y20 => if (!y20.2) = true then (some ([], 0, 5)) else (some (y20.1.list, y20.1.cost, 0)))
theorem g42_le (x0 : TBaneWeb) (x1 : (List Int)) : LeO (g42 x0 x1) (f42 x0 x1) := by
  unfold g42 f42
  repeat (first | (with_reducible exact LeO.refl _) | (with_reducible refine g65_le _) | (with_reducible refine g86_le _ _) | (with_reducible refine g89_le _ _ _ _ (fun _ => ?_) _ (fun _ => ?_)) | (with_reducible refine g90_le _) | (with_reducible refine g91_le _ _ _) | (with_reducible refine LeO.bind ?_ (fun _ => ?_)) | (with_reducible refine LeO.ite ?_ ?_) | (with_reducible refine LeO.elim (fun _ => ?_) (fun _ => ?_) _) | (with_reducible refine LeO.lp (fun _ => ?_) _) | (with_reducible refine LeO.rg (fun _ _ => ?_) _ _))
def g60_b0 (x0 : (List TSpan)) (x1 : (List TSpan)) (s4 : Int) : Option (Int ⊕ (Unit ⊕ Bool)) :=
  if (decide (s4 < (x0.length : Int))) = true then ((ix x0 s4).bind fun y11 => (ix x1 s4).bind fun y13 => if (!(([y11.Low, y11.High] : List Int) == [y13.Low, y13.High])) = true then (some (.inr (.inr false))) else (some (.inl (IntKind.i64.wrap (s4 + 1))))) else (some (.inr (.inl ())))
theorem g60_b0_le (x0 : (List TSpan)) (x1 : (List TSpan)) (s4 : Int) : LeO (g60_b0 x0 x1 s4) (f60_b0 x0 x1 s4) := by
  unfold g60_b0 f60_b0
  repeat (first | (with_reducible exact LeO.refl _) | (with_reducible refine LeO.bind ?_ (fun _ => ?_)) | (with_reducible refine LeO.ite ?_ ?_) | (with_reducible refine LeO.elim (fun _ => ?_) (fun _ => ?_) _) | (with_reducible refine LeO.lp (fun _ => ?_) _) | (with_reducible refine LeO.rg (fun _ _ => ?_) _ _))
def g60 (x0 : (List TSpan)) (x1 : (List TSpan)) : Option Bool :=
  if ((x0.length : Int) != (x1.length : Int)) = true then (some false) else ((lpF (g60_b0 x0 x1) 0).bind fun q6 => Sum.elim (fun p5 : Unit => some true) (fun v18 : Bool => some v18) q6)
theorem g60_le (x0 : (List TSpan)) (x1 : (List TSpan)) : LeO (g60 x0 x1) (f60 x0 x1) := by
  unfold g60 f60
  repeat (first | (with_reducible exact LeO.refl _) | (with_reducible refine g60_b0_le _ _ _) | (with_reducible refine LeO.bind ?_ (fun _ => ?_)) | (with_reducible refine LeO.ite ?_ ?_) | (with_reducible refine LeO.elim (fun _ => ?_) (fun _ => ?_) _) | (with_reducible refine LeO.lp (fun _ => ?_) _) | (with_reducible refine LeO.rg (fun _ _ => ?_) _ _))
def g63 : Option TBaneWeb :=
  some (⟨[(⟨(⟨100, 200⟩ : TSpan), [], 150, 10⟩ : TBaneFish), (⟨(⟨0, 50⟩ : TSpan), [(⟨0, (⟨500, 800⟩ : TSpan)⟩ : TBaneBite)], 200, 20⟩ : TBaneFish), (⟨(⟨10, 20⟩ : TSpan), [(⟨1, (⟨900, 1000⟩ : TSpan)⟩ : TBaneBite), (⟨0, (⟨100, 200⟩ : TSpan)⟩ : TBaneBite)], 150, 30⟩ : TBaneFish)], 200⟩ : TBaneWeb)
theorem g63_le : LeO (g63) (f63) := by
  unfold g63 f63
  repeat (first | (with_reducible exact LeO.refl _) | (with_reducible refine LeO.bind ?_ (fun _ => ?_)) | (with_reducible refine LeO.ite ?_ ?_) | (with_reducible refine LeO.elim (fun _ => ?_) (fun _ => ?_) _) | (with_reducible refine LeO.lp (fun _ => ?_) _) | (with_reducible refine LeO.rg (fun _ _ => ?_) _ _))
def g64 : Option TBaneSea :=
  some (⟨4, [0], [3], [(⟨1, 0, 1, 5⟩ : TBaneTrip), (⟨2, 1, 3, 9⟩ : TBaneTrip), (⟨3, 1, 2, 4⟩ : TBaneTrip), (⟨5, 2, 3, 6⟩ : TBaneTrip), (⟨4, 0, 2, 7⟩ : TBaneTrip)], 2⟩ : TBaneSea)
theorem g64_le : LeO (g64) (f64) := by
  unfold g64 f64
  repeat (first | (with_reducible exact LeO.refl _) | (with_reducible refine LeO.bind ?_ (fun _ => ?_)) | (with_reducible refine LeO.ite ?_ ?_) | (with_reducible refine LeO.elim (fun _ => ?_) (fun _ => ?_) _) | (with_reducible refine LeO.lp (fun _ => ?_) _) | (with_reducible refine LeO.rg (fun _ _ => ?_) _ _))
def g19 : Option Bool :=
  (g63).bind fun y1 => (g25 y1).bind fun y5 => (g63).bind fun y9 => (g20 y9 (⟨[150, 20, 15], [[], [600], [950, 150]]⟩ : TBaneTruth)).bind fun y25 => (g63).bind fun y29 => (g42 y29 [1, 2]).bind fun y36 => (g64).bind fun y40 => (g39 y40 []).bind fun y46 => (g64).bind fun y50 => (g29 y50 [] 3).bind fun y56 => (g64).bind fun y60 => (g33 y60).bind fun y66 => (g64).bind fun y70 => (g34 y70).bind fun y76 => ((if (y5.2 != 0) = true then (some true) else (if (y25.2 != 0) = true then (some true) else (if (y36.2.2 != 0) = true then (some true) else (if (y46.2 != 0) = true then (some true) else (if (y56.2 != 0) = true then (some true) else (if (y66.2.2 != 0) = true then (some true) else (some (y76.2 != 0))))))) : Option Bool)).bind fun q78 => if q78 = true then (some false) else ((((g60 y5.1 [(⟨100, 200⟩ : TSpan), (⟨50, 210⟩ : TSpan), (⟨65, 270⟩ : TSpan)]).bind fun y92 => if (!y92) = true then (some true) else ((g23 y25.1 [150, 110, 141]).bind fun y98 => if (!y98) = true then (some true) else ((g23 y36.1 [0, 2]).bind fun y104 => if (!y104) = true then (some true) else (some (y36.2.1 != 40)))) : Option Bool)).bind fun q88 => if q88 = true then (some false) else ((((g23 y46.1 [0, 1, 3, 5]).bind fun y114 => if y114 = true then ((g23 y56.1 [0, 2, 3]).bind fun y120 => if y120 = true then ((g23 y66.1 [2]).bind fun y126 => if y126 = true then (if (y66.2.1 == 4) = true then (some (y76.1 == 3)) else (some false)) else (some false)) else (some false)) else (some false) : Option Bool)).bind fun q110 => some q110))
theorem g19_le : LeO (g19) (f19) := by
  unfold g19 f19
  repeat (first | (with_reducible exact LeO.refl _) | (with_reducible refine g20_le _ _) | (with_reducible refine g23_le _ _) | (with_reducible refine g25_le _) | (with_reducible refine g29_le _ _ _) | (with_reducible refine g33_le _) | (with_reducible refine g34_le _) | (with_reducible refine g39_le _ _) | (with_reducible refine g42_le _ _) | (with_reducible refine g60_le _ _) | (with_reducible refine g63_le ) | (with_reducible refine g64_le ) | (with_reducible refine LeO.bind ?_ (fun _ => ?_)) | (with_reducible refine LeO.ite ?_ ?_) | (with_reducible refine LeO.elim (fun _ => ?_) (fun _ => ?_) _) | (with_reducible refine LeO.lp (fun _ => ?_) _) | (with_reducible refine LeO.rg (fun _ _ => ?_) _ _))
theorem known_pure : f19 = some true := g19_le true (by kernel_rfl)
end Go.Proofs.Ytgplafckddpnkaa
