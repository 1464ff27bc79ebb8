/-
  The statements BaneTests and BaneRivals, in plain Lean.
-/
import Derived.Test.YtgplafckddpnkaaS6
namespace Go.Proofs.Ytgplafckddpnkaa
open Go.RowKit
set_option linter.unusedVariables false

theorem bestW_spec (w : TBaneWeb) (pond : List Int) : match bestW w pond with
    | none => ∀ l, incr l (w.Fish.length : Int) = true → sufW w pond l = false
    | some b => IsBest (fun l => incr l (w.Fish.length : Int) = true ∧ sufW w pond l = true) (costW w) b := bestN_best (costW w) (sufW w pond) w.Fish.length
theorem baneTests (w : TBaneWeb) (x1 x2 : List Int) (_ : okTBaneWeb w) (_ : ∀ y ∈ x1, okI y) (_ : ∀ y ∈ x2, okI y) : f8 w x1 x2 = some true := by
  obtain ⟨a, ha, hws⟩ := f17_eq w
  unfold f8
  rw [ha, known_pure]
  cases a with
  | false => simp
  | true =>
    have hs := hws rfl
    have h12 := hs.1
    rw [len_dec (l := x1) (c := 12) (n := 12) rfl, len_dec (l := x2) (c := 12) (n := 12) rfl]
    by_cases h1 : x1.length ≤ 12
    · by_cases h2 : x2.length ≤ 12
      · simp only [h1, h2, decide_true, Bool.not_true, Bool.false_eq_true, if_false, Option.bind_some]
        rw [f41_eq w x1 x2 hs (by omega) (by omega), f42_eq w x1 hs (by omega), f21_eq w hs, f43_eq x1 _ (by omega) (by omega), f43_eq x2 _ (by omega) (by omega)]
        cases hw : webOk w with
        | false => simp
        | true =>
          cases hi : incr x1 (w.Fish.length : Int) with
          | false => simp
          | true =>
            rw [f45_eq w x1 hs hw (by omega) hi, f44_eq w x1 x2 hs hw (by omega) (incr_iff.1 hi).1 (by omega)]
            have hfin : ((some (match bestW w x1 with | none => ([], false) | some l => (l, true)) : Option (List Int × Bool)).bind fun y61 => if (!y61.2) = true then (((if ((answer (costW w) (bestW w x1)).2.2 == 5) = true then (if (((answer (costW w) (bestW w x1)).1.length : Int) == 0) = true then (if ((answer (costW w) (bestW w x1)).2.1 == 0) = true then ((some true : Option Bool).bind fun y70 => some y70) else (some false)) else (some false)) else (some false) : Option Bool)).bind fun q66 => some q66) else (((if ((answer (costW w) (bestW w x1)).2.2 == 0) = true then ((f23 (answer (costW w) (bestW w x1)).1 y61.1).bind fun y76 => if y76 = true then ((f46 w y61.1).bind fun y79 => if ((answer (costW w) (bestW w x1)).2.1 == y79) = true then ((some true : Option Bool).bind fun y82 => some y82) else (some false)) else (some false)) else (some false) : Option Bool)).bind fun q74 => some q74)) = some true := by
              have hb := bestW_spec w x1
              cases hbest : bestW w x1 with
              | none => rfl
              | some l =>
                rw [hbest] at hb
                have hl := hb.1.1
                have hll := incr_len hl
                simp only [answer, Option.bind_some, Bool.not_true, Bool.false_eq_true, if_false]
                rw [f23_eq l l (by omega), f46_eq w l (by omega) (incr_iff.1 hl).1]
                simp [costW]
            cases hi2 : incr x2 (w.Fish.length : Int) with
            | false =>
              simp only [Bool.and_self, Bool.and_false, if_true, Bool.false_eq_true, if_false, Option.bind_some, Bool.not_true, Bool.not_false, Sum.elim_inl, bne_self_eq_false]
              exact hfin
            | true =>
              simp only [Bool.and_self, Bool.and_false, if_true, Bool.false_eq_true, if_false, Option.bind_some, Bool.not_true, Bool.not_false, Sum.elim_inl, bne_self_eq_false, beq_self_eq_true]
              exact hfin
      · simp [h1, h2]
    · simp [h1]
/-- All kinds. -/
def allN (n : Nat) : List Int := (List.range n).map fun i : Nat => (i : Int)
theorem allN_incr (n : Nat) : incr (allN n) (n : Int) = true := by
  rw [incr_iff]
  refine ⟨fun y hy => ?_, ?_⟩
  · simp [allN] at hy
    obtain ⟨i, h1, rfl⟩ := hy
    omega
  · unfold allN
    rw [List.pairwise_map]
    refine List.pairwise_lt_range.imp ?_
    intro a b h; omega
theorem f10_b0_eq (w : TBaneWeb) (h12 : w.Fish.length ≤ 12) : lp (f10_b0 w) ([], 0) = some (allN w.Fish.length) := by
  refine lp_thru (List.range w.Fish.length) _ (fun k => ((allN w.Fish.length).take k, (k : Int))) ?_ ?_
  · intro k y hy
    have hk : k < w.Fish.length := by have := get_lt hy; simpa using this
    have hg : (allN w.Fish.length)[k]? = some (k : Int) := by simp [allN, hk]
    unfold f10_b0
    rw [if_pos (by simpa using hk)]
    simp only [wrap_nat hk (by omega)]
    rw [app_short _ _ (by simp; omega), take_snoc hg]
    rfl
  · unfold f10_b0
    rw [if_neg (by simp), List.take_of_length_le (by simp [allN])]
theorem baneRivals (w : TBaneWeb) (x1 x2 : List Int) (_ : okTBaneWeb w) (_ : ∀ y ∈ x1, okI y) (_ : ∀ y ∈ x2, okI y) : f10 w x1 x2 = some true := by
  obtain ⟨a, ha, hws⟩ := f17_eq w
  unfold f10
  rw [ha, known_pure]
  cases a with
  | false => simp
  | true =>
    have hs := hws rfl
    have h12 := hs.1
    rw [len_dec (l := x1) (c := 12) (n := 12) rfl, len_dec (l := x2) (c := 12) (n := 12) rfl]
    by_cases h1 : x1.length ≤ 12
    · by_cases h2 : x2.length ≤ 12
      · simp only [h1, h2, decide_true, Bool.not_true, Bool.false_eq_true, if_false, Option.bind_some]
        rw [f41_eq w x1 x2 hs (by omega) (by omega), f42_eq w x1 hs (by omega), f21_eq w hs, f43_eq x1 _ (by omega) (by omega), f43_eq x2 _ (by omega) (by omega)]
        cases hw : webOk w with
        | false => simp
        | true =>
          cases hi : incr x1 (w.Fish.length : Int) with
          | false => simp
          | true =>
            cases hi2 : incr x2 (w.Fish.length : Int) with
            | false => simp
            | true =>
              simp only [Bool.and_self, if_true, Bool.false_eq_true, if_false, Option.bind_some, Bool.not_true, bne_self_eq_false]
              have hb := bestW_spec w x1
              cases hbest : bestW w x1 with
              | none =>
                rw [hbest] at hb
                rw [f10_b0_eq w h12]
                simp only [answer, Option.bind_some]
                rw [f41_eq w x1 _ hs (by omega) (by have := incr_len (allN_incr w.Fish.length); omega), hw, hi, allN_incr, hb x2 hi2, hb _ (allN_incr _)]
                rfl
              | some l =>
                rw [hbest] at hb
                obtain ⟨⟨hl, hsl⟩, hbe⟩ := hb
                have hll := incr_len hl
                simp only [answer, bne_self_eq_false, Bool.false_eq_true, if_false]
                rw [f43_eq l _ (by omega) (by omega), hl, f46_eq w l (by omega) (incr_iff.1 hl).1, f41_eq w x1 l hs (by omega) (by omega), hw, hi, hl, hsl, f46_eq w x2 (by omega) (incr_iff.1 hi2).1, f47_eq x2 l (by omega) (by omega)]
                have h3 : ¬ (12 : Int) < (l.length : Int) := by omega
                have e1 : costL (fun y => (w.Fish.map (·.Cost)).getD y.toNat 0) l = costW w l := rfl
                have e2 : costL (fun y => (w.Fish.map (·.Cost)).getD y.toNat 0) x2 = costW w x2 := rfl
                rw [e1, e2]
                simp only [h3, decide_false, Bool.not_true, Bool.false_eq_true, if_false, Option.bind_some, bne_self_eq_false, Bool.and_self, if_true, beq_self_eq_true]
                cases hsx : sufW w x1 x2 with
                | false => rfl
                | true =>
                  simp only [Bool.not_true, Bool.false_eq_true, if_false]
                  by_cases he : x2 = l
                  · subst he
                    rw [lexlt_irrefl]
                    simp
                  · rcases hbe x2 ⟨hi2, hsx⟩ he with q | ⟨q, q⟩
                    · simp [q]
                    · rename_i q'
                      have q0 : ¬ costW w l < costW w x2 := by omega
                      have q1 : (costW w x2 == costW w l) = true := by rw [beq_iff_eq]; exact q'.symm
                      rcases q with q | ⟨q, q2⟩
                      · have : (l.length : Int) < (x2.length : Int) := by omega
                        simp [q0, q1, q]
                      · have hlx : lexlt x2 l = false := by
                          rcases hx : lexlt x2 l with _ | _
                          · rfl
                          · have := lexlt_trans q2 hx; rw [lexlt_irrefl] at this; cases this
                        have q3 : ¬ (l.length : Int) < (x2.length : Int) := by omega
                        have q4 : ((x2.length : Int) == (l.length : Int)) = true := by rw [beq_iff_eq]; omega
                        simp only [q0, q1, q3, q4, hlx, decide_false, Bool.false_eq_true, if_false, if_true, Bool.not_false, Option.bind_some]
      · simp [h1, h2]
    · simp [h1]
end Go.Proofs.Ytgplafckddpnkaa
