/-
  Two lists are the same.
-/
import Derived.Test.YtcaflmilfhhikaaDoorLk
namespace Go.Proofs.YtcaflmilfhhikaaDoor
open Go.RowKit
set_option linter.unusedVariables false

theorem f20_eq (a b : List Int) (ha : a.length ≤ 1000) : f20 a b = some (a == b) := by
  unfold f20
  by_cases hl : a.length = b.length
  · rw [if_neg (by simp [hl])]
    have h := lp_all (body := f20_b0 a b) a (fun k y => b[k]? == some y) (Sum.inr false : Unit ⊕ Bool) (Sum.inl ()) (fun k => (k : Int)) (fun k y hy => by
      have hk := get_lt hy
      have hb : b[k]? = some (b[k]'(by omega)) := List.getElem?_eq_getElem _
      unfold f20_b0
      rw [if_pos (by simp only [decide_eq_true_eq]; omega), ix_nat, hy, Option.bind_some, ix_nat, hb, Option.bind_some]
      by_cases h : y = b[k]'(by omega)
      · rw [if_neg (by simp [h]), if_pos (by simp [h]), wrap_cnt (by omega)]
      · have h' : ¬ (b[k]'(by omega) = y) := fun e => h e.symm
        rw [if_pos (by simp [h]), if_neg (by simp [h'])]) (by unfold f20_b0; rw [if_neg (by simp)])
    rw [show (0 : Int) = ((0 : Nat) : Int) from rfl, h, Option.bind_some]
    have e : allI (fun k y => b[k]? == some y) 0 a = (a == b) := by
      rw [Bool.eq_iff_iff, allI_iff, beq_iff_eq]
      constructor
      · intro hh
        refine List.ext_getElem? fun i => ?_
        cases hi : a[i]? with
        | none => exact (List.getElem?_eq_none (by have := List.getElem?_eq_none_iff.1 hi; omega)).symm
        | some y => have := hh i y hi; rw [Nat.zero_add, beq_iff_eq] at this; exact this.symm
      · rintro rfl j y hy
        rw [Nat.zero_add, hy]; simp
    rw [e]
    cases (a == b) <;> rfl
  · rw [if_pos (by simp; omega)]
    have : (a == b) = false := by
      rw [beq_eq_false_iff_ne]
      intro e; exact hl (by rw [e])
    rw [this]
theorem f20_same {l : List Int} (h : l.length ≤ 1000) : f20 l l = some true := by rw [f20_eq l l h, beq_self_eq_true]
end Go.Proofs.YtcaflmilfhhikaaDoor
