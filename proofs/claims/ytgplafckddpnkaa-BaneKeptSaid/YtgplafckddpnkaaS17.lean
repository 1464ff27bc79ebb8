/-
  The least wait; the statement BaneGuards, in plain Lean.
-/
import Derived.Test.YtgplafckddpnkaaS16
namespace Go.Proofs.Ytgplafckddpnkaa
open Go.RowKit
set_option linter.unusedVariables false

theorem lp_find {ρ : Type} {body : Int → Option (Int ⊕ ρ)} (g : Nat → Bool) (A : Nat → ρ) (B : ρ) (n : Nat)
    (h1 : ∀ k : Nat, k < n → body (k : Int) = some (if g k = true then .inr (A k) else .inl ((k + 1 : Nat) : Int))) (h2 : body (n : Int) = some (.inr B)) :
    lp body 0 = some (match (List.range n).find? g with | some k => A k | none => B) := by
  have key : ∀ (m k : Nat), k + m = n → lp body (k : Int) = some (match (List.range' k m).find? g with | some k => A k | none => B) := by
    intro m
    induction m with
    | zero =>
      intro k hk
      have : k = n := by omega
      subst this
      rw [lp_eq, h2]; rfl
    | succ m ih =>
      intro k hk
      rw [lp_eq, h1 k (by omega), List.range'_succ, List.find?_cons]
      cases hg : g k with
      | true => rfl
      | false =>
        simp only [Bool.false_eq_true, if_false]
        exact ih (k + 1) (by omega)
  have := key n 0 (by omega)
  rw [List.range_eq_range']
  exact this
def waitS (s : TBaneSea) (k : Int) : TBaneSea := ⟨s.Islets, s.Infested, s.Clean, s.Trips, k⟩
theorem wait_sea {s : TBaneSea} {I : Nat} (hs : Sea s I) {k : Int} (h : 0 ≤ k) (h' : k ≤ 40) : Sea (waitS s k) I := ⟨hs.isl, hs.pos, hs.top, hs.inf, hs.cln, hs.num, ⟨h, h'⟩, hs.trip⟩
noncomputable def waitB (s : TBaneSea) (k : Int) : Bool := keptB (waitS s k) (opB [])
theorem opS_zero (i : Nat) : opS 0 i = opB [] i := by
  have := opS_nat 0 i (by decide)
  have e : (((0 : Nat)) : Int) = 0 := rfl
  rw [e] at this
  rw [this]
  simp [opB]
noncomputable def leastW (s : TBaneSea) : Option Nat := (List.range 41).find? fun k => waitB s (k : Int)
theorem f34_eq (s : TBaneSea) (hsh : seaShort s) : f34 s = some (if seaOk s = true then ((match leastW s with | some k => ((k : Int), 0) | none => (0, 5) : Int × Int)) else (0, 2)) := by
  unfold f34
  rw [f79_eq s hsh]
  cases hok : seaOk s with
  | false => rfl
  | true =>
    obtain ⟨I, hs⟩ := sea_of hok
    simp only [Option.bind_some, Bool.not_true, Bool.false_eq_true, if_false, if_true]
    rw [lp_find (body := f34_b0 s) (fun k => waitB s (k : Int)) (fun k => Sum.inr ((k : Int), 0)) (Sum.inl ()) 41 ?_ ?_]
    · unfold leastW
      cases (List.range 41).find? (fun k : Nat => waitB s (k : Int)) <;> rfl
    · intro k hk
      unfold f34_b0
      have c : (k : Int) < 41 := by omega
      have e := f83_eq (waitS s (k : Int)) I (wait_sea hs (by omega) (by omega)) hsh 0
      unfold waitS at e
      simp only [c, decide_true, if_true, e, Option.bind_some, wrap_nat hk (by omega)]
      have e2 : keptB (⟨s.Islets, s.Infested, s.Clean, s.Trips, (k : Int)⟩ : TBaneSea) (opS 0) = waitB s (k : Int) := keptB_congr fun i _ => opS_zero i
      rw [e2]
      cases waitB s (k : Int) <;> rfl
    · rfl
theorem f35_eq (s : TBaneSea) (I : Nat) (hs : Sea s I) (hsh : seaShort s) : f35 s = some ((match leastW s with | some k => (k : Int) | none => -1 : Int)) := by
  unfold f35
  rw [lp_find (body := f35_b0 s) (fun k => waitB s (k : Int)) (fun k => Sum.inr (k : Int)) (Sum.inl ()) 41 ?_ ?_]
  · unfold leastW
    cases (List.range 41).find? (fun k : Nat => waitB s (k : Int)) <;> rfl
  · intro k hk
    unfold f35_b0
    have c : (k : Int) ≤ 40 := by omega
    have e := f84_eq (waitS s (k : Int)) I (wait_sea hs (by omega) (by omega)) hsh [] (by simp)
    unfold waitS at e
    simp only [c, decide_true, if_true, e, Option.bind_some, wrap_nat hk (by omega)]
    have e2 : keptB (⟨s.Islets, s.Infested, s.Clean, s.Trips, (k : Int)⟩ : TBaneSea) (opB []) = waitB s (k : Int) := rfl
    rw [e2]
    cases waitB s (k : Int) <;> rfl
  · rfl
theorem baneGuards (s : TBaneSea) (_ : okTBaneSea s) : f6 s = some true := by
  obtain ⟨a, ha, hws⟩ := f27_eq s
  unfold f6
  rw [ha, known_pure]
  cases a with
  | false => simp
  | true =>
    have hsh := hws rfl
    have h12 := hsh.2.2
    rw [f28_eq s hsh, f33_eq s hsh, f34_eq s hsh]
    cases hok : seaOk s with
    | false => simp
    | true =>
      obtain ⟨I, hs⟩ := sea_of hok
      by_cases h7 : (7 : Int) < (s.Trips.length : Int)
      · simp only [h7, decide_true, Bool.not_true, Bool.false_eq_true, if_false, if_true, Option.bind_some]
      · simp only [h7, decide_false, Bool.not_true, Bool.false_eq_true, if_false, if_true, Option.bind_some]
        rw [f35_eq s I hs hsh, f36_eq s I hs hsh (by omega)]
        simp only [Option.bind_some]
        have hfin : (if (!((match bestS s with | none => ([], false) | some l => (l, true) : List Int × Bool)).2) = true then (((if ((answer (costT s) (bestS s)).2.2 == 5) = true then (if (((answer (costT s) (bestS s)).1.length : Int) == 0) = true then (if ((answer (costT s) (bestS s)).2.1 == 0) = true then (some true) else (some false)) else (some false)) else (some false) : Option Bool)).bind fun q56 => some q56) else (((if ((answer (costT s) (bestS s)).2.2 == 0) = true then ((f23 (answer (costT s) (bestS s)).1 ((match bestS s with | none => ([], false) | some l => (l, true) : List Int × Bool)).1).bind fun y66 => if y66 = true then ((f37 s ((match bestS s with | none => ([], false) | some l => (l, true) : List Int × Bool)).1).bind fun y69 => if ((answer (costT s) (bestS s)).2.1 == y69) = true then (some true) else (some false)) else (some false)) else (some false) : Option Bool)).bind fun q64 => some q64)) = some true := by
          have hb := bestS_spec s
          cases hbest : bestS s with
          | none => rfl
          | some l =>
            rw [hbest] at hb
            have hl := hb.1.1
            have hll := incr_len hl
            simp only [answer, Option.bind_some, Bool.not_true, Bool.false_eq_true, if_false]
            rw [f23_eq l l (by omega), f37_eq s l (by omega) (incr_iff.1 hl).1]
            simp [costT]
        cases hlw : leastW s with
        | none => exact hfin
        | some k =>
          have c1 : ¬ (k : Int) < 0 := by omega
          have c2 : (0 : Int) ≤ (k : Int) := by omega
          simp only [c1, c2, decide_false, decide_true, bne_self_eq_false, Bool.false_eq_true, if_false, if_true, Option.bind_some]
          exact hfin
end Go.Proofs.Ytgplafckddpnkaa
