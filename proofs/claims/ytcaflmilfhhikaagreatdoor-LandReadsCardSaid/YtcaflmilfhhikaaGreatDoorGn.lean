/-
  The same functions with a bound on the rounds of each loop, so that they can be run; what they give, those give (printed by a program of ours).
-/
import Derived.Test.YtcaflmilfhhikaaGreatDoorFn
namespace Go.Proofs.YtcaflmilfhhikaaGreatDoor
open Go.RowKit
set_option linter.unusedVariables false

def LeO {α : Type} (a b : Option α) : Prop := ∀ r, a = some r → b = some r
theorem LeO.refl {α : Type} (a : Option α) : LeO a a := fun _ h => h
theorem LeO.bind {α β : Type} {a b : Option α} {f g : α → Option β} (h : LeO a b) (k : ∀ x, LeO (f x) (g x)) : LeO (a.bind f) (b.bind g) := fun r hr => by
  obtain ⟨x, h1, h2⟩ := bnd hr
  rw [h x h1]; exact k x r h2
theorem LeO.ite {α : Type} {c : Prop} [Decidable c] {a b a' b' : Option α} (h : LeO a a') (k : LeO b b') : LeO (if c then a else b) (if c then a' else b') := by split <;> assumption
theorem LeO.elim {α β γ : Type} {f f' : α → Option γ} {g g' : β → Option γ} (h : ∀ x, LeO (f x) (f' x)) (k : ∀ x, LeO (g x) (g' x)) (s : α ⊕ β) : LeO (Sum.elim f g s) (Sum.elim f' g' s) := by
  cases s with
  | inl x => exact h x
  | inr x => exact k x
def lpF {σ ρ : Type} (body : σ → Option (σ ⊕ ρ)) (s : σ) : Option ρ := lpN body 3000 s
theorem lpN_le {σ ρ : Type} {b b' : σ → Option (σ ⊕ ρ)} (h : ∀ s, LeO (b s) (b' s)) : ∀ n s, LeO (lpN b n s) (lpN b' n s)
  | 0, _ => LeO.refl _
  | n + 1, s => by
    intro r hr
    simp only [lpN] at hr ⊢
    cases hb : b s with
    | none => rw [hb] at hr; cases hr
    | some t => rw [hb] at hr; rw [h s t hb]; cases t with
      | inl s' => exact lpN_le h n s' r hr
      | inr q => exact hr
theorem LeO.lp {σ ρ : Type} {b b' : σ → Option (σ ⊕ ρ)} (h : ∀ s, LeO (b s) (b' s)) (s : σ) : LeO (lpF b s) (lp b' s) := fun r hr => lp_some.2 ⟨_, lpN_le h 3000 s r hr⟩
theorem LeO.rg {α σ ρ : Type} {b b' : α → σ → Option (σ ⊕ ρ)} (h : ∀ x s, LeO (b x s) (b' x s)) : ∀ l s, LeO (rg b l s) (rg b' l s)
  | [], _ => LeO.refl _
  | x :: l, s => by
    intro r hr
    simp only [Go.Proofs.YtcaflmilfhhikaaGreatDoor.rg] at hr ⊢
    cases hb : b x s with
    | none => rw [hb] at hr; cases hr
    | some t => rw [hb] at hr; rw [h x s t hb]; cases t with
      | inl s' => exact LeO.rg h l s' r hr
      | inr q => exact hr
def g37 (x0 : Int) (x1 : Int) (x2 : Int) : Option Bool :=
  ((if (decide (x1 ≤ x0)) = true then (some (decide (x0 ≤ x2))) else (some false) : Option Bool)).bind fun q1 => some q1
theorem g37_le (x0 : Int) (x1 : Int) (x2 : Int) : LeO (g37 x0 x1 x2) (f37 x0 x1 x2) := by
  unfold g37 f37
  repeat (first | (with_reducible exact LeO.refl _) | (with_reducible refine LeO.bind ?_ (fun _ => ?_)) | (with_reducible refine LeO.ite ?_ ?_) | (with_reducible refine LeO.elim (fun _ => ?_) (fun _ => ?_) _) | (with_reducible refine LeO.lp (fun _ => ?_) _) | (with_reducible refine LeO.rg (fun _ _ => ?_) _ _))
def g71_b0 (x0 : (List TLandEvent)) (x1 : (TLandEvent → Option Bool)) (s3 : Int) : Option (Int ⊕ (Unit ⊕ Int)) :=
  if (decide (s3 < (x0.length : Int))) = true then ((ix x0 s3).bind fun y10 => (x1 y10).bind fun y12 => if y12 = true then (some (.inr (.inr s3))) else (some (.inl (IntKind.i64.wrap (s3 + 1))))) else (some (.inr (.inl ())))
theorem g71_b0_le (x0 : (List TLandEvent)) (x1 : (TLandEvent → Option Bool)) (s3 : Int) (x1q : (TLandEvent → Option Bool)) (hx1 : ∀ z0, LeO (x1 z0) (x1q z0)) : LeO (g71_b0 x0 x1 s3) (f71_b0 x0 x1q s3) := by
  unfold g71_b0 f71_b0
  repeat (first | (with_reducible exact hx1 _) | (with_reducible exact LeO.refl _) | (with_reducible refine LeO.bind ?_ (fun _ => ?_)) | (with_reducible refine LeO.ite ?_ ?_) | (with_reducible refine LeO.elim (fun _ => ?_) (fun _ => ?_) _) | (with_reducible refine LeO.lp (fun _ => ?_) _) | (with_reducible refine LeO.rg (fun _ _ => ?_) _ _))
def g71 (x0 : (List TLandEvent)) (x1 : (TLandEvent → Option Bool)) : Option Int :=
  (lpF (g71_b0 x0 x1) 0).bind fun q5 => Sum.elim (fun p4 : Unit => some (-1)) (fun v17 : Int => some v17) q5
theorem g71_le (x0 : (List TLandEvent)) (x1 : (TLandEvent → Option Bool)) (x1q : (TLandEvent → Option Bool)) (hx1 : ∀ z0, LeO (x1 z0) (x1q z0)) : LeO (g71 x0 x1) (f71 x0 x1q) := by
  unfold g71 f71
  repeat (first | (with_reducible exact hx1 _) | (with_reducible exact LeO.refl _) | (with_reducible refine g71_b0_le _ _ _ _ (fun _ => ?_)) | (with_reducible refine LeO.bind ?_ (fun _ => ?_)) | (with_reducible refine LeO.ite ?_ ?_) | (with_reducible refine LeO.elim (fun _ => ?_) (fun _ => ?_) _) | (with_reducible refine LeO.lp (fun _ => ?_) _) | (with_reducible refine LeO.rg (fun _ _ => ?_) _ _))
def g48 (x0 : (List TLandEvent)) (x1 : (TLandEvent → Option Bool)) : Option Bool :=
  (g71 x0 x1).bind fun y3 => some (decide (0 ≤ y3))
theorem g48_le (x0 : (List TLandEvent)) (x1 : (TLandEvent → Option Bool)) (x1q : (TLandEvent → Option Bool)) (hx1 : ∀ z0, LeO (x1 z0) (x1q z0)) : LeO (g48 x0 x1) (f48 x0 x1q) := by
  unfold g48 f48
  repeat (first | (with_reducible exact hx1 _) | (with_reducible exact LeO.refl _) | (with_reducible refine g71_le _ _ _ (fun _ => ?_)) | (with_reducible refine LeO.bind ?_ (fun _ => ?_)) | (with_reducible refine LeO.ite ?_ ?_) | (with_reducible refine LeO.elim (fun _ => ?_) (fun _ => ?_) _) | (with_reducible refine LeO.lp (fun _ => ?_) _) | (with_reducible refine LeO.rg (fun _ _ => ?_) _ _))
def g49 (x0 : TLandEvent) (x1 : TLandBook) : Option Bool :=
  (((g37 x0.Strip 0 5).bind fun y8 => if (!y8) = true then (some true) else ((g37 x0.Holder 0 (IntKind.i64.wrap ((x1.People.length : Int) - 1))).bind fun y11 => some (!y11)) : Option Bool)).bind fun q7 => some q7
theorem g49_le (x0 : TLandEvent) (x1 : TLandBook) : LeO (g49 x0 x1) (f49 x0 x1) := by
  unfold g49 f49
  repeat (first | (with_reducible exact LeO.refl _) | (with_reducible refine g37_le _ _ _) | (with_reducible refine LeO.bind ?_ (fun _ => ?_)) | (with_reducible refine LeO.ite ?_ ?_) | (with_reducible refine LeO.elim (fun _ => ?_) (fun _ => ?_) _) | (with_reducible refine LeO.lp (fun _ => ?_) _) | (with_reducible refine LeO.rg (fun _ _ => ?_) _ _))
def g72_b0 (x0 : (List TLandMemory)) (x1 : (TLandMemory → Option Bool)) (s3 : Int) : Option (Int ⊕ (Unit ⊕ Int)) :=
  if (decide (s3 < (x0.length : Int))) = true then ((ix x0 s3).bind fun y10 => (x1 y10).bind fun y12 => if y12 = true then (some (.inr (.inr s3))) else (some (.inl (IntKind.i64.wrap (s3 + 1))))) else (some (.inr (.inl ())))
theorem g72_b0_le (x0 : (List TLandMemory)) (x1 : (TLandMemory → Option Bool)) (s3 : Int) (x1q : (TLandMemory → Option Bool)) (hx1 : ∀ z0, LeO (x1 z0) (x1q z0)) : LeO (g72_b0 x0 x1 s3) (f72_b0 x0 x1q s3) := by
  unfold g72_b0 f72_b0
  repeat (first | (with_reducible exact hx1 _) | (with_reducible exact LeO.refl _) | (with_reducible refine LeO.bind ?_ (fun _ => ?_)) | (with_reducible refine LeO.ite ?_ ?_) | (with_reducible refine LeO.elim (fun _ => ?_) (fun _ => ?_) _) | (with_reducible refine LeO.lp (fun _ => ?_) _) | (with_reducible refine LeO.rg (fun _ _ => ?_) _ _))
def g72 (x0 : (List TLandMemory)) (x1 : (TLandMemory → Option Bool)) : Option Int :=
  (lpF (g72_b0 x0 x1) 0).bind fun q5 => Sum.elim (fun p4 : Unit => some (-1)) (fun v17 : Int => some v17) q5
theorem g72_le (x0 : (List TLandMemory)) (x1 : (TLandMemory → Option Bool)) (x1q : (TLandMemory → Option Bool)) (hx1 : ∀ z0, LeO (x1 z0) (x1q z0)) : LeO (g72 x0 x1) (f72 x0 x1q) := by
  unfold g72 f72
  repeat (first | (with_reducible exact hx1 _) | (with_reducible exact LeO.refl _) | (with_reducible refine g72_b0_le _ _ _ _ (fun _ => ?_)) | (with_reducible refine LeO.bind ?_ (fun _ => ?_)) | (with_reducible refine LeO.ite ?_ ?_) | (with_reducible refine LeO.elim (fun _ => ?_) (fun _ => ?_) _) | (with_reducible refine LeO.lp (fun _ => ?_) _) | (with_reducible refine LeO.rg (fun _ _ => ?_) _ _))
def g50 (x0 : (List TLandMemory)) (x1 : (TLandMemory → Option Bool)) : Option Bool :=
  (g72 x0 x1).bind fun y3 => some (decide (0 ≤ y3))
theorem g50_le (x0 : (List TLandMemory)) (x1 : (TLandMemory → Option Bool)) (x1q : (TLandMemory → Option Bool)) (hx1 : ∀ z0, LeO (x1 z0) (x1q z0)) : LeO (g50 x0 x1) (f50 x0 x1q) := by
  unfold g50 f50
  repeat (first | (with_reducible exact hx1 _) | (with_reducible exact LeO.refl _) | (with_reducible refine g72_le _ _ _ (fun _ => ?_)) | (with_reducible refine LeO.bind ?_ (fun _ => ?_)) | (with_reducible refine LeO.ite ?_ ?_) | (with_reducible refine LeO.elim (fun _ => ?_) (fun _ => ?_) _) | (with_reducible refine LeO.lp (fun _ => ?_) _) | (with_reducible refine LeO.rg (fun _ _ => ?_) _ _))
def g51 (x0 : TLandMemory) (x1 : TLandBook) : Option Bool :=
  (((g37 x0.From 0 (IntKind.i64.wrap ((x1.Events.length : Int) - 1))).bind fun y8 => if (!y8) = true then (some true) else ((g37 x0.To 0 (IntKind.i64.wrap ((x1.Events.length : Int) - 1))).bind fun y11 => if (!y11) = true then (some true) else (if (x0.From == x0.To) = true then (some true) else (if (decide (x0.Years.Low < (-1000))) = true then (some true) else (if (decide (x0.Years.High < x0.Years.Low)) = true then (some true) else (some (decide (1000 < x0.Years.High))))))) : Option Bool)).bind fun q7 => some q7
theorem g51_le (x0 : TLandMemory) (x1 : TLandBook) : LeO (g51 x0 x1) (f51 x0 x1) := by
  unfold g51 f51
  repeat (first | (with_reducible exact LeO.refl _) | (with_reducible refine g37_le _ _ _) | (with_reducible refine LeO.bind ?_ (fun _ => ?_)) | (with_reducible refine LeO.ite ?_ ?_) | (with_reducible refine LeO.elim (fun _ => ?_) (fun _ => ?_) _) | (with_reducible refine LeO.lp (fun _ => ?_) _) | (with_reducible refine LeO.rg (fun _ _ => ?_) _ _))
def g22_b0 (x0 : TLandBook) (s7 : Int) : Option (Int ⊕ (Unit ⊕ Bool)) :=
  if (decide (s7 < (x0.People.length : Int))) = true then ((ix x0.People s7).bind fun y14 => (((g37 y14.Mother (-1) (IntKind.i64.wrap (s7 - 1))).bind fun y22 => if (!y22) = true then (some true) else ((g37 y14.Adopted (-1) (IntKind.i64.wrap (s7 - 1))).bind fun y25 => some (!y25)) : Option Bool)).bind fun q21 => if q21 = true then (some (.inr (.inr false))) else (some (.inl (IntKind.i64.wrap (s7 + 1))))) else (some (.inr (.inl ())))
theorem g22_b0_le (x0 : TLandBook) (s7 : Int) : LeO (g22_b0 x0 s7) (f22_b0 x0 s7) := by
  unfold g22_b0 f22_b0
  repeat (first | (with_reducible exact LeO.refl _) | (with_reducible refine g37_le _ _ _) | (with_reducible refine LeO.bind ?_ (fun _ => ?_)) | (with_reducible refine LeO.ite ?_ ?_) | (with_reducible refine LeO.elim (fun _ => ?_) (fun _ => ?_) _) | (with_reducible refine LeO.lp (fun _ => ?_) _) | (with_reducible refine LeO.rg (fun _ _ => ?_) _ _))
def g22 (x0 : TLandBook) : Option Bool :=
  (lpF (g22_b0 x0) 0).bind fun q9 => Sum.elim (fun p8 : Unit => (((g37 (x0.People.length : Int) 1 10).bind fun y33 => if y33 = true then ((g37 (x0.Events.length : Int) 1 7).bind fun y36 => if y36 = true then (if (decide ((x0.Memories.length : Int) ≤ 10)) = true then ((g48 x0.Events (fun (z0 : TLandEvent) => g49 z0 x0)).bind fun y41 => if (!y41) = true then ((g50 x0.Memories (fun (z0 : TLandMemory) => g51 z0 x0)).bind fun y45 => some (!y45)) else (some false)) else (some false)) else (some false)) else (some false) : Option Bool)).bind fun q32 => some q32) (fun v49 : Bool => some v49) q9
theorem g22_le (x0 : TLandBook) : LeO (g22 x0) (f22 x0) := by
  unfold g22 f22
  repeat (first | (with_reducible exact LeO.refl _) | (with_reducible refine g22_b0_le _ _) | (with_reducible refine g37_le _ _ _) | (with_reducible refine g48_le _ _ _ (fun _ => ?_)) | (with_reducible refine g49_le _ _) | (with_reducible refine g50_le _ _ _ (fun _ => ?_)) | (with_reducible refine g51_le _ _) | (with_reducible refine LeO.bind ?_ (fun _ => ?_)) | (with_reducible refine LeO.ite ?_ ?_) | (with_reducible refine LeO.elim (fun _ => ?_) (fun _ => ?_) _) | (with_reducible refine LeO.lp (fun _ => ?_) _) | (with_reducible refine LeO.rg (fun _ _ => ?_) _ _))
def g53_b0 (x1 : (List Int)) (s2 : (List UInt8) × Int) : Option (((List UInt8) × Int) ⊕ (List UInt8)) :=
  if (decide (s2.2 < (x1.length : Int))) = true then ((ix x1 s2.2).bind fun y9 => (itoaF y9).bind fun y11 => (catS ([32] : List UInt8) y11).bind fun y13 => (catS s2.1 y13).bind fun y14 => some (.inl (y14, IntKind.i64.wrap (s2.2 + 1)))) else (some (.inr s2.1))
theorem g53_b0_le (x1 : (List Int)) (s2 : (List UInt8) × Int) : LeO (g53_b0 x1 s2) (f53_b0 x1 s2) := by
  unfold g53_b0 f53_b0
  repeat (first | (with_reducible exact LeO.refl _) | (with_reducible refine LeO.bind ?_ (fun _ => ?_)) | (with_reducible refine LeO.ite ?_ ?_) | (with_reducible refine LeO.elim (fun _ => ?_) (fun _ => ?_) _) | (with_reducible refine LeO.lp (fun _ => ?_) _) | (with_reducible refine LeO.rg (fun _ _ => ?_) _ _))
def g53 (x0 : (List UInt8)) (x1 : (List Int)) : Option (List UInt8) :=
  (lpF (g53_b0 x1) (x0, 0)).bind fun q4 => (catS q4 ([10] : List UInt8)).bind fun y17 => some y17
theorem g53_le (x0 : (List UInt8)) (x1 : (List Int)) : LeO (g53 x0 x1) (f53 x0 x1) := by
  unfold g53 f53
  repeat (first | (with_reducible exact LeO.refl _) | (with_reducible refine g53_b0_le _ _) | (with_reducible refine LeO.bind ?_ (fun _ => ?_)) | (with_reducible refine LeO.ite ?_ ?_) | (with_reducible refine LeO.elim (fun _ => ?_) (fun _ => ?_) _) | (with_reducible refine LeO.lp (fun _ => ?_) _) | (with_reducible refine LeO.rg (fun _ _ => ?_) _ _))
def g54 (x0 : TLandPerson) : Option (List UInt8) :=
  (itoaF x0.Mother).bind fun y4 => ((if (x0.Mother == (-1)) = true then (some ([45] : List UInt8)) else (some y4) : Option (List UInt8))).bind fun q6 => (catS ([32] : List UInt8) q6).bind fun y10 => (catS ([112, 101, 114, 115, 111, 110] : List UInt8) y10).bind fun y11 => (itoaF x0.Adopted).bind fun y12 => ((if (x0.Adopted == (-1)) = true then (some ([45] : List UInt8)) else (some y12) : Option (List UInt8))).bind fun q14 => (catS ([32] : List UInt8) q14).bind fun y18 => (catS y11 y18).bind fun y19 => (catS y19 ([10] : List UInt8)).bind fun y20 => some y20
theorem g54_le (x0 : TLandPerson) : LeO (g54 x0) (f54 x0) := by
  unfold g54 f54
  repeat (first | (with_reducible exact LeO.refl _) | (with_reducible refine LeO.bind ?_ (fun _ => ?_)) | (with_reducible refine LeO.ite ?_ ?_) | (with_reducible refine LeO.elim (fun _ => ?_) (fun _ => ?_) _) | (with_reducible refine LeO.lp (fun _ => ?_) _) | (with_reducible refine LeO.rg (fun _ _ => ?_) _ _))
def g56_b0 (x0 : (List UInt8)) (s4 : Int × Int × Nat) : Option ((Int × Int × Nat) ⊕ (Int × Nat)) :=
  if (decide (s4.2.2 < x0.length)) = true then (((if (decide (48 ≤ ((decN x0 s4.2.2).1))) = true then (some (decide (((decN x0 s4.2.2).1) ≤ 57))) else (some false) : Option Bool)).bind fun q12 => if q12 = true then (some (.inl (IntKind.i64.wrap (s4.1 + (IntKind.i64.wrap ((IntKind.i64.wrap (IntKind.i32.wrap (((decN x0 s4.2.2).1) - 48))) * (IntKind.i64.wrap (1 + (s4.2.1.tmod 9)))))), IntKind.i64.wrap (s4.2.1 + 1), ((s4.2.2 + (decN x0 s4.2.2).2))))) else (some (.inl (s4.1, s4.2.1, ((s4.2.2 + (decN x0 s4.2.2).2)))))) else (some (.inr (s4.1, (s4.2.2))))
theorem g56_b0_le (x0 : (List UInt8)) (s4 : Int × Int × Nat) : LeO (g56_b0 x0 s4) (f56_b0 x0 s4) := by
  unfold g56_b0 f56_b0
  repeat (first | (with_reducible exact LeO.refl _) | (with_reducible refine LeO.bind ?_ (fun _ => ?_)) | (with_reducible refine LeO.ite ?_ ?_) | (with_reducible refine LeO.elim (fun _ => ?_) (fun _ => ?_) _) | (with_reducible refine LeO.lp (fun _ => ?_) _) | (with_reducible refine LeO.rg (fun _ _ => ?_) _ _))
def g56 (x0 : (List UInt8)) : Option (List UInt8) :=
  (lpF (g56_b0 x0) (0, 0, (0))).bind fun q6 => (itoaF (IntKind.i64.wrap ((q6.1.tmod 97).tdiv 10))).bind fun y19 => (itoaF ((q6.1.tmod 97).tmod 10)).bind fun y21 => (catS y19 y21).bind fun y23 => some y23
theorem g56_le (x0 : (List UInt8)) : LeO (g56 x0) (f56 x0) := by
  unfold g56 f56
  repeat (first | (with_reducible exact LeO.refl _) | (with_reducible refine g56_b0_le _ _) | (with_reducible refine LeO.bind ?_ (fun _ => ?_)) | (with_reducible refine LeO.ite ?_ ?_) | (with_reducible refine LeO.elim (fun _ => ?_) (fun _ => ?_) _) | (with_reducible refine LeO.lp (fun _ => ?_) _) | (with_reducible refine LeO.rg (fun _ _ => ?_) _ _))
def g23_b0 (x0 : TLandBook) (s20 : Int × (List UInt8)) : Option ((Int × (List UInt8)) ⊕ (List UInt8)) :=
  if (decide (s20.1 < (x0.People.length : Int))) = true then ((ix x0.People s20.1).bind fun y27 => (g54 y27).bind fun y34 => (catS s20.2 y34).bind fun y36 => some (.inl (IntKind.i64.wrap (s20.1 + 1), y36))) else (some (.inr s20.2))
theorem g23_b0_le (x0 : TLandBook) (s20 : Int × (List UInt8)) : LeO (g23_b0 x0 s20) (f23_b0 x0 s20) := by
  unfold g23_b0 f23_b0
  repeat (first | (with_reducible exact LeO.refl _) | (with_reducible refine g54_le _) | (with_reducible refine LeO.bind ?_ (fun _ => ?_)) | (with_reducible refine LeO.ite ?_ ?_) | (with_reducible refine LeO.elim (fun _ => ?_) (fun _ => ?_) _) | (with_reducible refine LeO.lp (fun _ => ?_) _) | (with_reducible refine LeO.rg (fun _ _ => ?_) _ _))
def g23_b1 (x0 : TLandBook) (s42 : Int × (List UInt8)) : Option ((Int × (List UInt8)) ⊕ (List UInt8)) :=
  if (decide (s42.1 < (x0.Events.length : Int))) = true then ((ix x0.Events s42.1).bind fun y49 => (g53 ([101, 118, 101, 110, 116] : List UInt8) [y49.Strip, y49.Holder]).bind fun y59 => (catS s42.2 y59).bind fun y61 => some (.inl (IntKind.i64.wrap (s42.1 + 1), y61))) else (some (.inr s42.2))
theorem g23_b1_le (x0 : TLandBook) (s42 : Int × (List UInt8)) : LeO (g23_b1 x0 s42) (f23_b1 x0 s42) := by
  unfold g23_b1 f23_b1
  repeat (first | (with_reducible exact LeO.refl _) | (with_reducible refine g53_le _ _) | (with_reducible refine LeO.bind ?_ (fun _ => ?_)) | (with_reducible refine LeO.ite ?_ ?_) | (with_reducible refine LeO.elim (fun _ => ?_) (fun _ => ?_) _) | (with_reducible refine LeO.lp (fun _ => ?_) _) | (with_reducible refine LeO.rg (fun _ _ => ?_) _ _))
def g23_b2 (x0 : TLandBook) (s67 : Int × (List UInt8)) : Option ((Int × (List UInt8)) ⊕ (List UInt8)) :=
  if (decide (s67.1 < (x0.Memories.length : Int))) = true then ((ix x0.Memories s67.1).bind fun y74 => (g53 ([109, 101, 109, 111, 114, 121] : List UInt8) [y74.From, y74.To, y74.Years.Low, y74.Years.High]).bind fun y84 => (catS s67.2 y84).bind fun y86 => some (.inl (IntKind.i64.wrap (s67.1 + 1), y86))) else (some (.inr s67.2))
theorem g23_b2_le (x0 : TLandBook) (s67 : Int × (List UInt8)) : LeO (g23_b2 x0 s67) (f23_b2 x0 s67) := by
  unfold g23_b2 f23_b2
  repeat (first | (with_reducible exact LeO.refl _) | (with_reducible refine g53_le _ _) | (with_reducible refine LeO.bind ?_ (fun _ => ?_)) | (with_reducible refine LeO.ite ?_ ?_) | (with_reducible refine LeO.elim (fun _ => ?_) (fun _ => ?_) _) | (with_reducible refine LeO.lp (fun _ => ?_) _) | (with_reducible refine LeO.rg (fun _ _ => ?_) _ _))
def g23 (x0 : TLandBook) : Option (List UInt8) :=
  (g53 ([108, 97, 110, 100] : List UInt8) [(x0.People.length : Int), (x0.Events.length : Int), (x0.Memories.length : Int)]).bind fun y14 => (catS ([] : List UInt8) y14).bind fun y16 => (lpF (g23_b0 x0) (0, y16)).bind fun q22 => (lpF (g23_b1 x0) (0, q22)).bind fun q44 => (lpF (g23_b2 x0) (0, q44)).bind fun q69 => (neS q69).bind fun _ => (catS q69 ([101, 110, 100, 32] : List UInt8)).bind fun y96 => (g56 q69).bind fun y98 => (catS y96 y98).bind fun y100 => (catS y100 ([10] : List UInt8)).bind fun y101 => some y101
theorem g23_le (x0 : TLandBook) : LeO (g23 x0) (f23 x0) := by
  unfold g23 f23
  repeat (first | (with_reducible exact LeO.refl _) | (with_reducible refine g23_b0_le _ _) | (with_reducible refine g23_b1_le _ _) | (with_reducible refine g23_b2_le _ _) | (with_reducible refine g53_le _ _) | (with_reducible refine g56_le _) | (with_reducible refine LeO.bind ?_ (fun _ => ?_)) | (with_reducible refine LeO.ite ?_ ?_) | (with_reducible refine LeO.elim (fun _ => ?_) (fun _ => ?_) _) | (with_reducible refine LeO.lp (fun _ => ?_) _) | (with_reducible refine LeO.rg (fun _ _ => ?_) _ _))
def g8 (x0 : TLandBook) : Option ((List UInt8) × Int) :=
  (g22 x0).bind fun y7 => if (!y7) = true then (some (([] : List UInt8), 2)) else ((g23 x0).bind fun y10 => some (y10, 0))
theorem g8_le (x0 : TLandBook) : LeO (g8 x0) (f8 x0) := by
  unfold g8 f8
  repeat (first | (with_reducible exact LeO.refl _) | (with_reducible refine g22_le _) | (with_reducible refine g23_le _) | (with_reducible refine LeO.bind ?_ (fun _ => ?_)) | (with_reducible refine LeO.ite ?_ ?_) | (with_reducible refine LeO.elim (fun _ => ?_) (fun _ => ?_) _) | (with_reducible refine LeO.lp (fun _ => ?_) _) | (with_reducible refine LeO.rg (fun _ _ => ?_) _ _))
def g40 (x0 : TLandBook) : Option Int :=
  (shlI .i64 1 (x0.Memories.length : Int)).bind fun y5 => some (IntKind.i64.wrap (y5 - 1))
theorem g40_le (x0 : TLandBook) : LeO (g40 x0) (f40 x0) := by
  unfold g40 f40
  repeat (first | (with_reducible exact LeO.refl _) | (with_reducible refine LeO.bind ?_ (fun _ => ?_)) | (with_reducible refine LeO.ite ?_ ?_) | (with_reducible refine LeO.elim (fun _ => ?_) (fun _ => ?_) _) | (with_reducible refine LeO.lp (fun _ => ?_) _) | (with_reducible refine LeO.rg (fun _ _ => ?_) _ _))
def g65 (x0 : Int) (x1 : Int) : Option Bool :=
  (shrI .i64 x0 x1).bind fun y1 => some ((andI .i64 y1 1) == 1)
theorem g65_le (x0 : Int) (x1 : Int) : LeO (g65 x0 x1) (f65 x0 x1) := by
  unfold g65 f65
  repeat (first | (with_reducible exact LeO.refl _) | (with_reducible refine LeO.bind ?_ (fun _ => ?_)) | (with_reducible refine LeO.ite ?_ ?_) | (with_reducible refine LeO.elim (fun _ => ?_) (fun _ => ?_) _) | (with_reducible refine LeO.lp (fun _ => ?_) _) | (with_reducible refine LeO.rg (fun _ _ => ?_) _ _))
def g63_b1 (s11 : Int × (Tb 64) × (Tb 64)) (s18 : Int × (Tb 64) × (Tb 64)) : Option ((Int × (Tb 64) × (Tb 64)) ⊕ ((Tb 64) × (Tb 64))) :=
  if (decide (s18.1 < 8)) = true then (((if (s11.1 != s18.1) = true then ((ckI s11.1 8).bind fun j27 => (ckI s18.1 8).bind fun j28 => some (tset s18.2.1 (0 + j27 * 8 + j28 * 1) 2000)) else (some s18.2.1) : Option (Tb 64))).bind fun q25 => some (.inl (IntKind.i64.wrap (s18.1 + 1), q25, s18.2.2))) else (some (.inr (s18.2.1, s18.2.2)))
theorem g63_b1_le (s11 : Int × (Tb 64) × (Tb 64)) (s18 : Int × (Tb 64) × (Tb 64)) : LeO (g63_b1 s11 s18) (f63_b1 s11 s18) := by
  unfold g63_b1 f63_b1
  repeat (first | (with_reducible exact LeO.refl _) | (with_reducible refine LeO.bind ?_ (fun _ => ?_)) | (with_reducible refine LeO.ite ?_ ?_) | (with_reducible refine LeO.elim (fun _ => ?_) (fun _ => ?_) _) | (with_reducible refine LeO.lp (fun _ => ?_) _) | (with_reducible refine LeO.rg (fun _ _ => ?_) _ _))
def g63_b0 (s11 : Int × (Tb 64) × (Tb 64)) : Option ((Int × (Tb 64) × (Tb 64)) ⊕ ((Tb 64) × (Tb 64))) :=
  if (decide (s11.1 < 8)) = true then ((lpF (g63_b1 s11) (0, s11.2.1, s11.2.2)).bind fun q20 => some (.inl (IntKind.i64.wrap (s11.1 + 1), q20.1, q20.2))) else (some (.inr (s11.2.1, s11.2.2)))
theorem g63_b0_le (s11 : Int × (Tb 64) × (Tb 64)) : LeO (g63_b0 s11) (f63_b0 s11) := by
  unfold g63_b0 f63_b0
  repeat (first | (with_reducible exact LeO.refl _) | (with_reducible refine g63_b1_le _ _) | (with_reducible refine LeO.bind ?_ (fun _ => ?_)) | (with_reducible refine LeO.ite ?_ ?_) | (with_reducible refine LeO.elim (fun _ => ?_) (fun _ => ?_) _) | (with_reducible refine LeO.lp (fun _ => ?_) _) | (with_reducible refine LeO.rg (fun _ _ => ?_) _ _))
def g63_b2 (x0 : TLandBook) (s37 : Int × (Tb 64) × (Tb 64)) : Option ((Int × (Tb 64) × (Tb 64)) ⊕ ((Tb 64) × (Tb 64))) :=
  if (decide (s37.1 < (x0.Events.length : Int))) = true then ((((((ckI s37.1 8).bind fun j46 => if (decide ((tget s37.2.1 (0 + 7 * 8 + j46 * 1)) ≤ 1000)) = true then (some s37.2.1) else ((ckI s37.1 8).bind fun j49 => some (tset s37.2.1 (0 + 7 * 8 + j49 * 1) 1000)) : Option (Tb 64))).bind fun q45 => (ckI s37.1 8).bind fun j54 => if (decide ((tget q45 (0 + j54 * 8 + 7 * 1)) ≤ 0)) = true then (some q45) else ((ckI s37.1 8).bind fun j57 => some (tset q45 (0 + j57 * 8 + 7 * 1) 0)) : Option (Tb 64))).bind fun q44 => some (.inl (IntKind.i64.wrap (s37.1 + 1), q44, s37.2.2))) else (some (.inr (s37.2.1, s37.2.2)))
theorem g63_b2_le (x0 : TLandBook) (s37 : Int × (Tb 64) × (Tb 64)) : LeO (g63_b2 x0 s37) (f63_b2 x0 s37) := by
  unfold g63_b2 f63_b2
  repeat (first | (with_reducible exact LeO.refl _) | (with_reducible refine LeO.bind ?_ (fun _ => ?_)) | (with_reducible refine LeO.ite ?_ ?_) | (with_reducible refine LeO.elim (fun _ => ?_) (fun _ => ?_) _) | (with_reducible refine LeO.lp (fun _ => ?_) _) | (with_reducible refine LeO.rg (fun _ _ => ?_) _ _))
def g63_b3 (x0 : TLandBook) (x1 : Int) (s64 : Int × (Tb 64) × (Tb 64)) : Option ((Int × (Tb 64) × (Tb 64)) ⊕ ((Tb 64) × (Tb 64))) :=
  if (decide (s64.1 < (x0.Memories.length : Int))) = true then ((((ix x0.Memories s64.1).bind fun y72 => (g65 x1 s64.1).bind fun y79 => if y79 = true then ((((ckI y72.From 8).bind fun j83 => (ckI y72.To 8).bind fun j84 => if (decide ((tget s64.2.1 (0 + j83 * 8 + j84 * 1)) ≤ y72.Years.High)) = true then (some s64.2.1) else ((ckI y72.From 8).bind fun j87 => (ckI y72.To 8).bind fun j88 => some (tset s64.2.1 (0 + j87 * 8 + j88 * 1) y72.Years.High)) : Option (Tb 64))).bind fun q82 => (ckI y72.To 8).bind fun j93 => (ckI y72.From 8).bind fun j94 => if (decide ((tget q82 (0 + j93 * 8 + j94 * 1)) ≤ (IntKind.i64.wrap (0 - y72.Years.Low)))) = true then (some q82) else ((ckI y72.To 8).bind fun j97 => (ckI y72.From 8).bind fun j98 => some (tset q82 (0 + j97 * 8 + j98 * 1) (IntKind.i64.wrap (0 - y72.Years.Low))))) else (some s64.2.1) : Option (Tb 64))).bind fun q71 => some (.inl (IntKind.i64.wrap (s64.1 + 1), q71, s64.2.2))) else (some (.inr (s64.2.1, s64.2.2)))
theorem g63_b3_le (x0 : TLandBook) (x1 : Int) (s64 : Int × (Tb 64) × (Tb 64)) : LeO (g63_b3 x0 x1 s64) (f63_b3 x0 x1 s64) := by
  unfold g63_b3 f63_b3
  repeat (first | (with_reducible exact LeO.refl _) | (with_reducible refine g65_le _ _) | (with_reducible refine LeO.bind ?_ (fun _ => ?_)) | (with_reducible refine LeO.ite ?_ ?_) | (with_reducible refine LeO.elim (fun _ => ?_) (fun _ => ?_) _) | (with_reducible refine LeO.lp (fun _ => ?_) _) | (with_reducible refine LeO.rg (fun _ _ => ?_) _ _))
def g63_b4 (x0 : TLandBook) (s109 : (List Int) × Int × (Tb 64) × (Tb 64)) : Option (((List Int) × Int × (Tb 64) × (Tb 64)) ⊕ ((List Int) × (Tb 64) × (Tb 64))) :=
  if (decide (s109.2.1 < (x0.Events.length : Int))) = true then ((app s109.1 [s109.2.1]).bind fun y119 => some (.inl (y119, IntKind.i64.wrap (s109.2.1 + 1), s109.2.2.1, s109.2.2.2))) else (some (.inr (s109.1, s109.2.2.1, s109.2.2.2)))
theorem g63_b4_le (x0 : TLandBook) (s109 : (List Int) × Int × (Tb 64) × (Tb 64)) : LeO (g63_b4 x0 s109) (f63_b4 x0 s109) := by
  unfold g63_b4 f63_b4
  repeat (first | (with_reducible exact LeO.refl _) | (with_reducible refine LeO.bind ?_ (fun _ => ?_)) | (with_reducible refine LeO.ite ?_ ?_) | (with_reducible refine LeO.elim (fun _ => ?_) (fun _ => ?_) _) | (with_reducible refine LeO.lp (fun _ => ?_) _) | (with_reducible refine LeO.rg (fun _ _ => ?_) _ _))
def g63_b8 (y126 : (List Int)) (y142 : Int) (y151 : Int) (s153 : Bool × Int × (Tb 64) × (Tb 64)) : Option ((Bool × Int × (Tb 64) × (Tb 64)) ⊕ (Bool × (Tb 64) × (Tb 64))) :=
  if (decide (s153.2.1 < (y126.length : Int))) = true then ((((ix y126 s153.2.1).bind fun y161 => (((ckI y151 8).bind fun j164 => (ckI y142 8).bind fun j165 => (ckI y142 8).bind fun j167 => (ckI y161 8).bind fun j168 => (ckI y151 8).bind fun j170 => (ckI y161 8).bind fun j171 => if (decide ((tget s153.2.2.1 (0 + j170 * 8 + j171 * 1)) ≤ (IntKind.i64.wrap ((tget s153.2.2.1 (0 + j164 * 8 + j165 * 1)) + (tget s153.2.2.1 (0 + j167 * 8 + j168 * 1)))))) = true then (some (false, s153.2.2.1)) else ((ckI y151 8).bind fun j174 => (ckI y161 8).bind fun j175 => some (true, tset s153.2.2.1 (0 + j174 * 8 + j175 * 1) (IntKind.i64.wrap ((tget s153.2.2.1 (0 + j164 * 8 + j165 * 1)) + (tget s153.2.2.1 (0 + j167 * 8 + j168 * 1)))))) : Option (Bool × (Tb 64)))).bind fun q163 => if q163.1 = true then (some (true, q163.2)) else (some (s153.1, q163.2)) : Option (Bool × (Tb 64)))).bind fun q160 => some (.inl (q160.1, IntKind.i64.wrap (s153.2.1 + 1), q160.2, s153.2.2.2))) else (some (.inr (s153.1, s153.2.2.1, s153.2.2.2)))
theorem g63_b8_le (y126 : (List Int)) (y142 : Int) (y151 : Int) (s153 : Bool × Int × (Tb 64) × (Tb 64)) : LeO (g63_b8 y126 y142 y151 s153) (f63_b8 y126 y142 y151 s153) := by
  unfold g63_b8 f63_b8
  repeat (first | (with_reducible exact LeO.refl _) | (with_reducible refine LeO.bind ?_ (fun _ => ?_)) | (with_reducible refine LeO.ite ?_ ?_) | (with_reducible refine LeO.elim (fun _ => ?_) (fun _ => ?_) _) | (with_reducible refine LeO.lp (fun _ => ?_) _) | (with_reducible refine LeO.rg (fun _ _ => ?_) _ _))
def g63_b7 (y126 : (List Int)) (y142 : Int) (s144 : Bool × Int × (Tb 64) × (Tb 64)) : Option ((Bool × Int × (Tb 64) × (Tb 64)) ⊕ (Bool × (Tb 64) × (Tb 64))) :=
  if (decide (s144.2.1 < (y126.length : Int))) = true then ((ix y126 s144.2.1).bind fun y151 => (lpF (g63_b8 y126 y142 y151) (s144.1, 0, s144.2.2.1, s144.2.2.2)).bind fun q155 => some (.inl (q155.1, IntKind.i64.wrap (s144.2.1 + 1), q155.2.1, q155.2.2))) else (some (.inr (s144.1, s144.2.2.1, s144.2.2.2)))
theorem g63_b7_le (y126 : (List Int)) (y142 : Int) (s144 : Bool × Int × (Tb 64) × (Tb 64)) : LeO (g63_b7 y126 y142 s144) (f63_b7 y126 y142 s144) := by
  unfold g63_b7 f63_b7
  repeat (first | (with_reducible exact LeO.refl _) | (with_reducible refine g63_b8_le _ _ _ _) | (with_reducible refine LeO.bind ?_ (fun _ => ?_)) | (with_reducible refine LeO.ite ?_ ?_) | (with_reducible refine LeO.elim (fun _ => ?_) (fun _ => ?_) _) | (with_reducible refine LeO.lp (fun _ => ?_) _) | (with_reducible refine LeO.rg (fun _ _ => ?_) _ _))
def g63_b6 (y126 : (List Int)) (s135 : Bool × Int × (Tb 64) × (Tb 64)) : Option ((Bool × Int × (Tb 64) × (Tb 64)) ⊕ (Bool × (Tb 64) × (Tb 64))) :=
  if (decide (s135.2.1 < (y126.length : Int))) = true then ((ix y126 s135.2.1).bind fun y142 => (lpF (g63_b7 y126 y142) (s135.1, 0, s135.2.2.1, s135.2.2.2)).bind fun q146 => some (.inl (q146.1, IntKind.i64.wrap (s135.2.1 + 1), q146.2.1, q146.2.2))) else (some (.inr (s135.1, s135.2.2.1, s135.2.2.2)))
theorem g63_b6_le (y126 : (List Int)) (s135 : Bool × Int × (Tb 64) × (Tb 64)) : LeO (g63_b6 y126 s135) (f63_b6 y126 s135) := by
  unfold g63_b6 f63_b6
  repeat (first | (with_reducible exact LeO.refl _) | (with_reducible refine g63_b7_le _ _ _) | (with_reducible refine LeO.bind ?_ (fun _ => ?_)) | (with_reducible refine LeO.ite ?_ ?_) | (with_reducible refine LeO.elim (fun _ => ?_) (fun _ => ?_) _) | (with_reducible refine LeO.lp (fun _ => ?_) _) | (with_reducible refine LeO.rg (fun _ _ => ?_) _ _))
def g63_b9 (q137 : Bool × (Tb 64) × (Tb 64)) (y126 : (List Int)) (s189 : Int) : Option (Int ⊕ (Unit ⊕ ((Tb 64) × Bool))) :=
  if (decide (s189 < (y126.length : Int))) = true then ((ix y126 s189).bind fun y196 => (ckI y196 8).bind fun j198 => (ckI y196 8).bind fun j199 => if (decide ((tget q137.2.1 (0 + j198 * 8 + j199 * 1)) < 0)) = true then (some (.inr (.inr (Tb.zero 64, false)))) else (some (.inl (IntKind.i64.wrap (s189 + 1))))) else (some (.inr (.inl ())))
theorem g63_b9_le (q137 : Bool × (Tb 64) × (Tb 64)) (y126 : (List Int)) (s189 : Int) : LeO (g63_b9 q137 y126 s189) (f63_b9 q137 y126 s189) := by
  unfold g63_b9 f63_b9
  repeat (first | (with_reducible exact LeO.refl _) | (with_reducible refine LeO.bind ?_ (fun _ => ?_)) | (with_reducible refine LeO.ite ?_ ?_) | (with_reducible refine LeO.elim (fun _ => ?_) (fun _ => ?_) _) | (with_reducible refine LeO.lp (fun _ => ?_) _) | (with_reducible refine LeO.rg (fun _ _ => ?_) _ _))
def g63_b5 (x0 : TLandBook) (y126 : (List Int)) (s128 : Int × (Tb 64) × (Tb 64)) : Option ((Int × (Tb 64) × (Tb 64)) ⊕ (((Tb 64) × (Tb 64)) ⊕ ((Tb 64) × Bool))) :=
  if (decide (s128.1 < (IntKind.i64.wrap ((IntKind.i64.wrap ((x0.Events.length : Int) + 1)) + 1)))) = true then ((lpF (g63_b6 y126) (false, 0, s128.2.1, s128.2.2)).bind fun q137 => (lpF (g63_b9 q137 y126) 0).bind fun q191 => Sum.elim (fun p190 : Unit => if (!q137.1) = true then (some (.inr (.inl (q137.2.1, q137.2.2)))) else (some (.inl (IntKind.i64.wrap (s128.1 + 1), q137.2.1, q137.2.2)))) (fun v206 : (Tb 64) × Bool => some (.inr (.inr v206))) q191) else (some (.inr (.inl (s128.2.1, s128.2.2))))
theorem g63_b5_le (x0 : TLandBook) (y126 : (List Int)) (s128 : Int × (Tb 64) × (Tb 64)) : LeO (g63_b5 x0 y126 s128) (f63_b5 x0 y126 s128) := by
  unfold g63_b5 f63_b5
  repeat (first | (with_reducible exact LeO.refl _) | (with_reducible refine g63_b6_le _ _) | (with_reducible refine g63_b9_le _ _ _) | (with_reducible refine LeO.bind ?_ (fun _ => ?_)) | (with_reducible refine LeO.ite ?_ ?_) | (with_reducible refine LeO.elim (fun _ => ?_) (fun _ => ?_) _) | (with_reducible refine LeO.lp (fun _ => ?_) _) | (with_reducible refine LeO.rg (fun _ _ => ?_) _ _))
def g63 (x0 : TLandBook) (x1 : Int) : Option ((Tb 64) × Bool) :=
  (lpF g63_b0 (0, Tb.zero 64, Tb.zero 64)).bind fun q13 => (lpF (g63_b2 x0) (0, q13.1, q13.2)).bind fun q39 => (lpF (g63_b3 x0 x1) (0, q39.1, q39.2)).bind fun q66 => (mk0 (IntKind.i64.wrap ((x0.Events.length : Int) + 1))).bind fun _ => (lpF (g63_b4 x0) ([], 0, q66.1, q66.2)).bind fun q111 => (app q111.1 [7]).bind fun y126 => (lpF (g63_b5 x0 y126) (0, q111.2.1, q111.2.2)).bind fun q130 => Sum.elim (fun p129 : (Tb 64) × (Tb 64) => some (p129.1, true)) (fun v210 : (Tb 64) × Bool => some v210) q130
theorem g63_le (x0 : TLandBook) (x1 : Int) : LeO (g63 x0 x1) (f63 x0 x1) := by
  unfold g63 f63
  repeat (first | (with_reducible exact LeO.refl _) | (with_reducible refine g63_b0_le _) | (with_reducible refine g63_b2_le _ _) | (with_reducible refine g63_b3_le _ _ _) | (with_reducible refine g63_b4_le _ _) | (with_reducible refine g63_b5_le _ _ _) | (with_reducible refine LeO.bind ?_ (fun _ => ?_)) | (with_reducible refine LeO.ite ?_ ?_) | (with_reducible refine LeO.elim (fun _ => ?_) (fun _ => ?_) _) | (with_reducible refine LeO.lp (fun _ => ?_) _) | (with_reducible refine LeO.rg (fun _ _ => ?_) _ _))
def g35 (x0 : TLandBook) (x1 : Bool) : Option ((Tb 64) × Int) :=
  (((g22 x0).bind fun y11 => if (!y11) = true then (some true) else (some (!x1)) : Option Bool)).bind fun q10 => if q10 = true then (some (Tb.zero 64, 2)) else ((g40 x0).bind fun y36 => (g63 x0 y36).bind fun y39 => if (!y39.2) = true then (some (Tb.zero 64, 7)) else (some (y39.1, 0)))
theorem g35_le (x0 : TLandBook) (x1 : Bool) : LeO (g35 x0 x1) (f35 x0 x1) := by
  unfold g35 f35
  repeat (first | (with_reducible exact LeO.refl _) | (with_reducible refine g22_le _) | (with_reducible refine g40_le _) | (with_reducible refine g63_le _ _) | (with_reducible refine LeO.bind ?_ (fun _ => ?_)) | (with_reducible refine LeO.ite ?_ ?_) | (with_reducible refine LeO.elim (fun _ => ?_) (fun _ => ?_) _) | (with_reducible refine LeO.lp (fun _ => ?_) _) | (with_reducible refine LeO.rg (fun _ _ => ?_) _ _))
def g36 (x0 : (Tb 64)) (x1 : Int) (x2 : Int) : Option TSpan :=
  (ckI x2 8).bind fun j7 => (ckI x1 8).bind fun j8 => (ckI x1 8).bind fun j10 => (ckI x2 8).bind fun j11 => some (⟨IntKind.i64.wrap (0 - (tget x0 (0 + j7 * 8 + j8 * 1))), tget x0 (0 + j10 * 8 + j11 * 1)⟩ : TSpan)
theorem g36_le (x0 : (Tb 64)) (x1 : Int) (x2 : Int) : LeO (g36 x0 x1 x2) (f36 x0 x1 x2) := by
  unfold g36 f36
  repeat (first | (with_reducible exact LeO.refl _) | (with_reducible refine LeO.bind ?_ (fun _ => ?_)) | (with_reducible refine LeO.ite ?_ ?_) | (with_reducible refine LeO.elim (fun _ => ?_) (fun _ => ?_) _) | (with_reducible refine LeO.lp (fun _ => ?_) _) | (with_reducible refine LeO.rg (fun _ _ => ?_) _ _))
def g14_b0 (x0 : TLandBook) (s15 : (List Int) × Int × (Tb 64)) : Option (((List Int) × Int × (Tb 64)) ⊕ ((List Int) × (Tb 64))) :=
  if (decide (s15.2.1 < (x0.Events.length : Int))) = true then ((g36 s15.2.2 7 s15.2.1).bind fun y22 => (app s15.1 [y22.Low]).bind fun y27 => some (.inl (y27, IntKind.i64.wrap (s15.2.1 + 1), s15.2.2))) else (some (.inr (s15.1, s15.2.2)))
theorem g14_b0_le (x0 : TLandBook) (s15 : (List Int) × Int × (Tb 64)) : LeO (g14_b0 x0 s15) (f14_b0 x0 s15) := by
  unfold g14_b0 f14_b0
  repeat (first | (with_reducible exact LeO.refl _) | (with_reducible refine g36_le _ _ _) | (with_reducible refine LeO.bind ?_ (fun _ => ?_)) | (with_reducible refine LeO.ite ?_ ?_) | (with_reducible refine LeO.elim (fun _ => ?_) (fun _ => ?_) _) | (with_reducible refine LeO.lp (fun _ => ?_) _) | (with_reducible refine LeO.rg (fun _ _ => ?_) _ _))
def g14 (x0 : TLandBook) : Option ((List Int) × Int) :=
  (g35 x0 true).bind fun y7 => if (y7.2 != 0) = true then (some ([], y7.2)) else ((lpF (g14_b0 x0) ([], 0, y7.1)).bind fun q17 => some (q17.1, 0))
theorem g14_le (x0 : TLandBook) : LeO (g14 x0) (f14 x0) := by
  unfold g14 f14
  repeat (first | (with_reducible exact LeO.refl _) | (with_reducible refine g14_b0_le _ _) | (with_reducible refine g35_le _ _) | (with_reducible refine LeO.bind ?_ (fun _ => ?_)) | (with_reducible refine LeO.ite ?_ ?_) | (with_reducible refine LeO.elim (fun _ => ?_) (fun _ => ?_) _) | (with_reducible refine LeO.lp (fun _ => ?_) _) | (with_reducible refine LeO.rg (fun _ _ => ?_) _ _))
def g15 : Option TLandBook :=
  some (⟨[(⟨(-1), (-1)⟩ : TLandPerson), (⟨0, (-1)⟩ : TLandPerson), (⟨1, (-1)⟩ : TLandPerson), (⟨(-1), 0⟩ : TLandPerson)], [(⟨0, 0⟩ : TLandEvent), (⟨0, 1⟩ : TLandEvent), (⟨0, 2⟩ : TLandEvent), (⟨1, 1⟩ : TLandEvent)], [(⟨0, 1, (⟨10, 20⟩ : TSpan)⟩ : TLandMemory), (⟨1, 2, (⟨5, 8⟩ : TSpan)⟩ : TLandMemory), (⟨0, 2, (⟨12, 16⟩ : TSpan)⟩ : TLandMemory), (⟨1, 3, (⟨(-3), 0⟩ : TSpan)⟩ : TLandMemory)]⟩ : TLandBook)
theorem g15_le : LeO (g15) (f15) := by
  unfold g15 f15
  repeat (first | (with_reducible exact LeO.refl _) | (with_reducible refine LeO.bind ?_ (fun _ => ?_)) | (with_reducible refine LeO.ite ?_ ?_) | (with_reducible refine LeO.elim (fun _ => ?_) (fun _ => ?_) _) | (with_reducible refine LeO.lp (fun _ => ?_) _) | (with_reducible refine LeO.rg (fun _ _ => ?_) _ _))
def g16 (x0 : TLandBook) (x1 : Int) (x2 : Int) : Option (TSpan × Int) :=
  (g37 x1 0 (IntKind.i64.wrap ((x0.Events.length : Int) - 1))).bind fun y10 => if y10 = true then ((g37 x2 0 (IntKind.i64.wrap ((x0.Events.length : Int) - 1))).bind fun y13 => (g35 x0 y13).bind fun y15 => if (y15.2 != 0) = true then (some ((⟨0, 0⟩ : TSpan), y15.2)) else ((g36 y15.1 x1 x2).bind fun y23 => some (y23, 0))) else ((g35 x0 false).bind fun y26 => if (y26.2 != 0) = true then (some ((⟨0, 0⟩ : TSpan), y26.2)) else ((g36 y26.1 x1 x2).bind fun y34 => some (y34, 0)))
theorem g16_le (x0 : TLandBook) (x1 : Int) (x2 : Int) : LeO (g16 x0 x1 x2) (f16 x0 x1 x2) := by
  unfold g16 f16
  repeat (first | (with_reducible exact LeO.refl _) | (with_reducible refine g35_le _ _) | (with_reducible refine g36_le _ _ _) | (with_reducible refine g37_le _ _ _) | (with_reducible refine LeO.bind ?_ (fun _ => ?_)) | (with_reducible refine LeO.ite ?_ ?_) | (with_reducible refine LeO.elim (fun _ => ?_) (fun _ => ?_) _) | (with_reducible refine LeO.lp (fun _ => ?_) _) | (with_reducible refine LeO.rg (fun _ _ => ?_) _ _))
def g39 (x0 : TLandBook) (m : List (Int × Bool)) (x1 : Int) : Option (Bool × List (Int × Bool)) :=
  ((if (!((lookM m x1).isSome)) = true then ((g63 x0 x1).bind fun y12 => some (y12.2, (updM m x1 y12.2))) else (some ((lookM m x1).getD false, m)) : Option (Bool × (List (Int × Bool))))).bind fun q10 => some q10
theorem g39_le (x0 : TLandBook) (m : List (Int × Bool)) (x1 : Int) : LeO (g39 x0 m x1) (f39 x0 m x1) := by
  unfold g39 f39
  repeat (first | (with_reducible exact LeO.refl _) | (with_reducible refine g63_le _ _) | (with_reducible refine LeO.bind ?_ (fun _ => ?_)) | (with_reducible refine LeO.ite ?_ ?_) | (with_reducible refine LeO.elim (fun _ => ?_) (fun _ => ?_) _) | (with_reducible refine LeO.lp (fun _ => ?_) _) | (with_reducible refine LeO.rg (fun _ _ => ?_) _ _))
def gpredN (x0 : TLandBook) (m : List (Int × Bool)) (x : Int) : Option (Bool × List (Int × Bool)) := (g39 x0 m x).bind fun u => some (!u.1, u.2)
def gpredD (x0 : TLandBook) (al : Int) (m : List (Int × Bool)) (x : Int) : Option (Bool × List (Int × Bool)) := g39 x0 m (anI .i64 al x)
theorem gpredN_le (x0 : TLandBook) (m : List (Int × Bool)) (x : Int) : LeO (gpredN x0 m x) (predN x0 m x) := LeO.bind (g39_le _ _ _) fun _ => LeO.refl _
theorem gpredD_le (x0 : TLandBook) (al : Int) (m : List (Int × Bool)) (x : Int) : LeO (gpredD x0 al m x) (predD x0 al m x) := g39_le _ _ _
theorem bestF_le {p q : List (Int × Bool) → Int → Option (Bool × List (Int × Bool))} (h : ∀ m x, LeO (p m x) (q m x)) (xs : List Int) (m : List (Int × Bool)) : LeO (bestF p xs m) (bestF q xs m) :=
  LeO.bind (LeO.rg (fun _ _ => LeO.bind (h _ _) fun _ => LeO.refl _) _ _) fun _ => LeO.refl _
def g44_b0 (x0 : Int) (x1 : Int) (s2 : (List Int) × Int) : Option (((List Int) × Int) ⊕ (List Int)) :=
  if (decide (s2.2 < x1)) = true then ((((g65 x0 s2.2).bind fun y10 => if y10 = true then ((app s2.1 [s2.2]).bind fun y16 => some y16) else (some s2.1) : Option (List Int))).bind fun q9 => some (.inl (q9, IntKind.i64.wrap (s2.2 + 1)))) else (some (.inr s2.1))
theorem g44_b0_le (x0 : Int) (x1 : Int) (s2 : (List Int) × Int) : LeO (g44_b0 x0 x1 s2) (f44_b0 x0 x1 s2) := by
  unfold g44_b0 f44_b0
  repeat (first | (with_reducible exact LeO.refl _) | (with_reducible refine g65_le _ _) | (with_reducible refine LeO.bind ?_ (fun _ => ?_)) | (with_reducible refine LeO.ite ?_ ?_) | (with_reducible refine LeO.elim (fun _ => ?_) (fun _ => ?_) _) | (with_reducible refine LeO.lp (fun _ => ?_) _) | (with_reducible refine LeO.rg (fun _ _ => ?_) _ _))
def g44 (x0 : Int) (x1 : Int) : Option (List Int) :=
  (lpF (g44_b0 x0 x1) ([], 0)).bind fun q4 => some q4
theorem g44_le (x0 : Int) (x1 : Int) : LeO (g44 x0 x1) (f44 x0 x1) := by
  unfold g44 f44
  repeat (first | (with_reducible exact LeO.refl _) | (with_reducible refine g44_b0_le _ _ _) | (with_reducible refine LeO.bind ?_ (fun _ => ?_)) | (with_reducible refine LeO.ite ?_ ?_) | (with_reducible refine LeO.elim (fun _ => ?_) (fun _ => ?_) _) | (with_reducible refine LeO.lp (fun _ => ?_) _) | (with_reducible refine LeO.rg (fun _ _ => ?_) _ _))
def g17 (x0 : TLandBook) : Option ((List Int) × Int) :=
  (g22 x0).bind fun y7 => if (!y7) = true then (some ([], 2)) else ((g40 x0).bind fun y24 => (g39 x0 ([] : (List (Int × Bool))) y24).bind fun y27 => if y27.1 = true then (some ([], 5)) else ((ckM x0.Memories).bind fun _ => (bestF (gpredN x0) (setsAll x0.Memories.length) (y27.2)).bind fun y34 => (g44 y34.1 (x0.Memories.length : Int)).bind fun y40 => some (y40, 0)))
theorem g17_le (x0 : TLandBook) : LeO (g17 x0) (f17 x0) := by
  unfold g17 f17
  repeat (first | (with_reducible refine bestF_le (fun _ _ => ?_) _ _) | (with_reducible exact gpredN_le _ _ _) | (with_reducible exact gpredD_le _ _ _ _) | (with_reducible exact LeO.refl _) | (with_reducible refine g22_le _) | (with_reducible refine g39_le _ _ _) | (with_reducible refine g40_le _) | (with_reducible refine g44_le _ _) | (with_reducible refine LeO.bind ?_ (fun _ => ?_)) | (with_reducible refine LeO.ite ?_ ?_) | (with_reducible refine LeO.elim (fun _ => ?_) (fun _ => ?_) _) | (with_reducible refine LeO.lp (fun _ => ?_) _) | (with_reducible refine LeO.rg (fun _ _ => ?_) _ _))
def g18 : Option TLandBook :=
  (app [(⟨0, 1, (⟨10, 20⟩ : TSpan)⟩ : TLandMemory), (⟨1, 2, (⟨5, 8⟩ : TSpan)⟩ : TLandMemory), (⟨0, 2, (⟨12, 16⟩ : TSpan)⟩ : TLandMemory), (⟨1, 3, (⟨(-3), 0⟩ : TSpan)⟩ : TLandMemory)] [(⟨0, 1, (⟨12, 30⟩ : TSpan)⟩ : TLandMemory)]).bind fun y24 => some (⟨[(⟨(-1), (-1)⟩ : TLandPerson), (⟨0, (-1)⟩ : TLandPerson), (⟨1, (-1)⟩ : TLandPerson), (⟨(-1), 0⟩ : TLandPerson)], [(⟨0, 0⟩ : TLandEvent), (⟨0, 1⟩ : TLandEvent), (⟨0, 2⟩ : TLandEvent), (⟨1, 1⟩ : TLandEvent)], y24⟩ : TLandBook)
theorem g18_le : LeO (g18) (f18) := by
  unfold g18 f18
  repeat (first | (with_reducible exact LeO.refl _) | (with_reducible refine LeO.bind ?_ (fun _ => ?_)) | (with_reducible refine LeO.ite ?_ ?_) | (with_reducible refine LeO.elim (fun _ => ?_) (fun _ => ?_) _) | (with_reducible refine LeO.lp (fun _ => ?_) _) | (with_reducible refine LeO.rg (fun _ _ => ?_) _ _))
def g19 (x0 : TLandBook) : Option ((List Int) × Int) :=
  (g22 x0).bind fun y7 => if (!y7) = true then (some ([], 2)) else ((ckM x0.Memories).bind fun _ => (g40 x0).bind fun y26 => (bestF (gpredD x0 y26) (setsAll x0.Memories.length) ([] : (List (Int × Bool)))).bind fun y27 => (g44 y27.1 (x0.Memories.length : Int)).bind fun y33 => some (y33, 0))
theorem g19_le (x0 : TLandBook) : LeO (g19 x0) (f19 x0) := by
  unfold g19 f19
  repeat (first | (with_reducible refine bestF_le (fun _ _ => ?_) _ _) | (with_reducible exact gpredN_le _ _ _) | (with_reducible exact gpredD_le _ _ _ _) | (with_reducible exact LeO.refl _) | (with_reducible refine g22_le _) | (with_reducible refine g40_le _) | (with_reducible refine g44_le _ _) | (with_reducible refine LeO.bind ?_ (fun _ => ?_)) | (with_reducible refine LeO.ite ?_ ?_) | (with_reducible refine LeO.elim (fun _ => ?_) (fun _ => ?_) _) | (with_reducible refine LeO.lp (fun _ => ?_) _) | (with_reducible refine LeO.rg (fun _ _ => ?_) _ _))
def g47 (x0 : TLandBook) (x1 : Int) (x2 : Int) : Option Bool :=
  ((if (x1 != x2) = true then ((ix x0.People x1).bind fun y7 => some (y7.Mother == x2)) else (some false) : Option Bool)).bind fun q5 => if q5 = true then (some true) else (((if (x1 != x2) = true then ((ix x0.People x1).bind fun y14 => some (y14.Adopted == x2)) else (some false) : Option Bool)).bind fun q12 => if q12 = true then (some true) else (((if (x1 != x2) = true then ((ix x0.People x1).bind fun y21 => ((if (y21.Mother != (-1)) = true then ((ix x0.People x2).bind fun y25 => some (y21.Mother == y25.Mother)) else (some false) : Option Bool)).bind fun q23 => some q23) else (some false) : Option Bool)).bind fun q19 => if q19 = true then (some true) else (some false)))
theorem g47_le (x0 : TLandBook) (x1 : Int) (x2 : Int) : LeO (g47 x0 x1 x2) (f47 x0 x1 x2) := by
  unfold g47 f47
  repeat (first | (with_reducible exact LeO.refl _) | (with_reducible refine LeO.bind ?_ (fun _ => ?_)) | (with_reducible refine LeO.ite ?_ ?_) | (with_reducible refine LeO.elim (fun _ => ?_) (fun _ => ?_) _) | (with_reducible refine LeO.lp (fun _ => ?_) _) | (with_reducible refine LeO.rg (fun _ _ => ?_) _ _))
def g20_b1 (s17 : (List Int) × Int × (Tb 64)) (s34 : Int × Int × (Tb 64)) : Option ((Int × Int × (Tb 64)) ⊕ ((Int × (Tb 64)) ⊕ ((List Int) × Int × Int))) :=
  if (decide (s34.2.1 < (s17.1.length : Int))) = true then ((((ix s17.1 s34.2.1).bind fun y43 => (g36 s34.2.2 s17.2.1 y43).bind fun y45 => if (decide (0 < y45.Low)) = true then (some (.inl (if s34.2.1 < s34.1 then s34.2.1 else s34.1))) else ((g36 s34.2.2 y43 s17.2.1).bind fun y48 => if (decide (y48.Low ≤ 0)) = true then (some (.inr ([], 0, 8))) else (some (.inl s34.1))) : Option (Int ⊕ ((List Int) × Int × Int)))).bind fun q41 => Sum.elim (fun p42 : Int => some (.inl (p42, IntKind.i64.wrap (s34.2.1 + 1), s34.2.2))) (fun v53 : (List Int) × Int × Int => some (.inr (.inr v53))) q41) else (some (.inr (.inl (s34.1, s34.2.2))))
theorem g20_b1_le (s17 : (List Int) × Int × (Tb 64)) (s34 : Int × Int × (Tb 64)) : LeO (g20_b1 s17 s34) (f20_b1 s17 s34) := by
  unfold g20_b1 f20_b1
  repeat (first | (with_reducible exact LeO.refl _) | (with_reducible refine g36_le _ _ _) | (with_reducible refine LeO.bind ?_ (fun _ => ?_)) | (with_reducible refine LeO.ite ?_ ?_) | (with_reducible refine LeO.elim (fun _ => ?_) (fun _ => ?_) _) | (with_reducible refine LeO.lp (fun _ => ?_) _) | (with_reducible refine LeO.rg (fun _ _ => ?_) _ _))
def g20_b0 (x0 : TLandBook) (x1 : Int) (s17 : (List Int) × Int × (Tb 64)) : Option (((List Int) × Int × (Tb 64)) ⊕ (((List Int) × (Tb 64)) ⊕ ((List Int) × Int × Int))) :=
  if (decide (s17.2.1 < (x0.Events.length : Int))) = true then ((((ix x0.Events s17.2.1).bind fun y26 => if (y26.Strip != x1) = true then (some (.inl (s17.1, s17.2.2))) else ((lpF (g20_b1 s17) ((s17.1.length : Int), 0, s17.2.2)).bind fun q36 => Sum.elim (fun p35 : Int × (Tb 64) => (insL s17.1 p35.1 s17.2.1).bind fun y59 => some (.inl (y59, p35.2))) (fun v63 : (List Int) × Int × Int => some (.inr v63)) q36) : Option (((List Int) × (Tb 64)) ⊕ ((List Int) × Int × Int)))).bind fun q24 => Sum.elim (fun p25 : (List Int) × (Tb 64) => some (.inl (p25.1, IntKind.i64.wrap (s17.2.1 + 1), p25.2))) (fun v66 : (List Int) × Int × Int => some (.inr (.inr v66))) q24) else (some (.inr (.inl (s17.1, s17.2.2))))
theorem g20_b0_le (x0 : TLandBook) (x1 : Int) (s17 : (List Int) × Int × (Tb 64)) : LeO (g20_b0 x0 x1 s17) (f20_b0 x0 x1 s17) := by
  unfold g20_b0 f20_b0
  repeat (first | (with_reducible exact LeO.refl _) | (with_reducible refine g20_b1_le _ _) | (with_reducible refine LeO.bind ?_ (fun _ => ?_)) | (with_reducible refine LeO.ite ?_ ?_) | (with_reducible refine LeO.elim (fun _ => ?_) (fun _ => ?_) _) | (with_reducible refine LeO.lp (fun _ => ?_) _) | (with_reducible refine LeO.rg (fun _ _ => ?_) _ _))
def g20_b2 (p18 : (List Int) × (Tb 64)) (x0 : TLandBook) (s78 : Int × (Tb 64) × (List (Int × Bool))) : Option ((Int × (Tb 64) × (List (Int × Bool))) ⊕ (((Tb 64) × (List (Int × Bool))) ⊕ ((List Int) × Int × Int))) :=
  if (decide (s78.1 < (p18.1.length : Int))) = true then ((ix p18.1 s78.1).bind fun y85 => (ix x0.Events y85).bind fun y87 => (ix p18.1 (IntKind.i64.wrap (s78.1 - 1))).bind fun y89 => (ix x0.Events y89).bind fun y91 => (g47 x0 y87.Holder y91.Holder).bind fun y93 => if (!y93) = true then (some (.inr (.inr (p18.1, s78.1, 0)))) else (some (.inl (IntKind.i64.wrap (s78.1 + 1), s78.2.1, (s78.2.2))))) else (some (.inr (.inl (s78.2.1, (s78.2.2)))))
theorem g20_b2_le (p18 : (List Int) × (Tb 64)) (x0 : TLandBook) (s78 : Int × (Tb 64) × (List (Int × Bool))) : LeO (g20_b2 p18 x0 s78) (f20_b2 p18 x0 s78) := by
  unfold g20_b2 f20_b2
  repeat (first | (with_reducible exact LeO.refl _) | (with_reducible refine g47_le _ _ _) | (with_reducible refine LeO.bind ?_ (fun _ => ?_)) | (with_reducible refine LeO.ite ?_ ?_) | (with_reducible refine LeO.elim (fun _ => ?_) (fun _ => ?_) _) | (with_reducible refine LeO.lp (fun _ => ?_) _) | (with_reducible refine LeO.rg (fun _ _ => ?_) _ _))
def g20 (x0 : TLandBook) (x1 : Int) : Option ((List Int) × Int × Int) :=
  (g37 x1 0 5).bind fun y7 => (g35 x0 y7).bind fun y9 => if (y9.2 != 0) = true then (some ([], 0, y9.2)) else ((lpF (g20_b0 x0 x1) ([], 0, y9.1)).bind fun q19 => Sum.elim (fun p18 : (List Int) × (Tb 64) => (lpF (g20_b2 p18 x0) (1, p18.2, ([] : (List (Int × Bool))))).bind fun q80 => Sum.elim (fun p79 : (Tb 64) × (List (Int × Bool)) => some (p18.1, (-1), 0)) (fun v101 : (List Int) × Int × Int => some v101) q80) (fun v102 : (List Int) × Int × Int => some v102) q19)
theorem g20_le (x0 : TLandBook) (x1 : Int) : LeO (g20 x0 x1) (f20 x0 x1) := by
  unfold g20 f20
  repeat (first | (with_reducible exact LeO.refl _) | (with_reducible refine g20_b0_le _ _ _) | (with_reducible refine g20_b2_le _ _ _) | (with_reducible refine g35_le _ _) | (with_reducible refine g37_le _ _ _) | (with_reducible refine LeO.bind ?_ (fun _ => ?_)) | (with_reducible refine LeO.ite ?_ ?_) | (with_reducible refine LeO.elim (fun _ => ?_) (fun _ => ?_) _) | (with_reducible refine LeO.lp (fun _ => ?_) _) | (with_reducible refine LeO.rg (fun _ _ => ?_) _ _))
def g21_b0 (x0 : (List Int)) (x1 : (List Int)) (s4 : Int) : Option (Int ⊕ (Unit ⊕ Bool)) :=
  if (decide (s4 < (x0.length : Int))) = true then ((ix x0 s4).bind fun y11 => (ix x1 s4).bind fun y13 => if (y11 != y13) = true then (some (.inr (.inr false))) else (some (.inl (IntKind.i64.wrap (s4 + 1))))) else (some (.inr (.inl ())))
theorem g21_b0_le (x0 : (List Int)) (x1 : (List Int)) (s4 : Int) : LeO (g21_b0 x0 x1 s4) (f21_b0 x0 x1 s4) := by
  unfold g21_b0 f21_b0
  repeat (first | (with_reducible exact LeO.refl _) | (with_reducible refine LeO.bind ?_ (fun _ => ?_)) | (with_reducible refine LeO.ite ?_ ?_) | (with_reducible refine LeO.elim (fun _ => ?_) (fun _ => ?_) _) | (with_reducible refine LeO.lp (fun _ => ?_) _) | (with_reducible refine LeO.rg (fun _ _ => ?_) _ _))
def g21 (x0 : (List Int)) (x1 : (List Int)) : Option Bool :=
  if ((x0.length : Int) != (x1.length : Int)) = true then (some false) else ((lpF (g21_b0 x0 x1) 0).bind fun q6 => Sum.elim (fun p5 : Unit => some true) (fun v18 : Bool => some v18) q6)
theorem g21_le (x0 : (List Int)) (x1 : (List Int)) : LeO (g21 x0 x1) (f21 x0 x1) := by
  unfold g21 f21
  repeat (first | (with_reducible exact LeO.refl _) | (with_reducible refine g21_b0_le _ _ _) | (with_reducible refine LeO.bind ?_ (fun _ => ?_)) | (with_reducible refine LeO.ite ?_ ?_) | (with_reducible refine LeO.elim (fun _ => ?_) (fun _ => ?_) _) | (with_reducible refine LeO.lp (fun _ => ?_) _) | (with_reducible refine LeO.rg (fun _ _ => ?_) _ _))
def g7 : Option Bool :=
  (g15).bind fun y1 => (g14 y1).bind fun y7 => (g15).bind fun y11 => (g16 y11 2 3).bind fun y17 => (g18).bind fun y24 => (g17 y24).bind fun y30 => (g18).bind fun y34 => (g19 y34).bind fun y40 => (g15).bind fun y44 => (g20 y44 0).bind fun y50 => (g15).bind fun y54 => (g8 y54).bind fun y60 => ((if (y7.2 != 0) = true then (some true) else (if (y17.2 != 0) = true then (some true) else (if (y30.2 != 0) = true then (some true) else (if (y40.2 != 0) = true then (some true) else (if (y50.2.2 != 0) = true then (some true) else (some (y60.2 != 0)))))) : Option Bool)).bind fun q62 => if q62 = true then (some false) else ((((g21 y7.1 [0, 10, 15, 7]).bind fun y75 => if y75 = true then (if (([y17.1.Low, y17.1.High] : List Int) == [(-9), (-5)]) = true then ((g21 y30.1 [1, 2, 4]).bind fun y82 => if y82 = true then ((g21 y40.1 [1]).bind fun y88 => if y88 = true then ((g21 y50.1 [0, 1, 2]).bind fun y94 => if y94 = true then (if (y50.2.1 == (-1)) = true then (some (y60.1 == ([108, 97, 110, 100, 32, 52, 32, 52, 32, 52, 10, 112, 101, 114, 115, 111, 110, 32, 45, 32, 45, 10, 112, 101, 114, 115, 111, 110, 32, 48, 32, 45, 10, 112, 101, 114, 115, 111, 110, 32, 49, 32, 45, 10, 112, 101, 114, 115, 111, 110, 32, 45, 32, 48, 10, 101, 118, 101, 110, 116, 32, 48, 32, 48, 10, 101, 118, 101, 110, 116, 32, 48, 32, 49, 10, 101, 118, 101, 110, 116, 32, 48, 32, 50, 10, 101, 118, 101, 110, 116, 32, 49, 32, 49, 10, 109, 101, 109, 111, 114, 121, 32, 48, 32, 49, 32, 49, 48, 32, 50, 48, 10, 109, 101, 109, 111, 114, 121, 32, 49, 32, 50, 32, 53, 32, 56, 10, 109, 101, 109, 111, 114, 121, 32, 48, 32, 50, 32, 49, 50, 32, 49, 54, 10, 109, 101, 109, 111, 114, 121, 32, 49, 32, 51, 32, 45, 51, 32, 48, 10, 101, 110, 100, 32, 51, 54, 10] : List UInt8))) else (some false)) else (some false)) else (some false)) else (some false)) else (some false)) else (some false) : Option Bool)).bind fun q71 => some q71)
theorem g7_le : LeO (g7) (f7) := by
  unfold g7 f7
  repeat (first | (with_reducible exact LeO.refl _) | (with_reducible refine g14_le _) | (with_reducible refine g15_le ) | (with_reducible refine g16_le _ _ _) | (with_reducible refine g17_le _) | (with_reducible refine g18_le ) | (with_reducible refine g19_le _) | (with_reducible refine g20_le _ _) | (with_reducible refine g21_le _ _) | (with_reducible refine g8_le _) | (with_reducible refine LeO.bind ?_ (fun _ => ?_)) | (with_reducible refine LeO.ite ?_ ?_) | (with_reducible refine LeO.elim (fun _ => ?_) (fun _ => ?_) _) | (with_reducible refine LeO.lp (fun _ => ?_) _) | (with_reducible refine LeO.rg (fun _ _ => ?_) _ _))
theorem known_pure : f7 = some true := g7_le true (by kernel_rfl)
end Go.Proofs.YtcaflmilfhhikaaGreatDoor
