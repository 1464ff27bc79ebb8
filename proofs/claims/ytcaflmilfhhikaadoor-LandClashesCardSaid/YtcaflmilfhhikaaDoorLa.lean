/-
  LandClashes: the program's clash and what it drops are the document's (plain law).
-/
import Derived.Test.YtcaflmilfhhikaaDoorCp
import Derived.Test.YtcaflmilfhhikaaDoorGn
import Derived.Test.YtcaflmilfhhikaaDoorOp
namespace Go.Proofs.YtcaflmilfhhikaaDoor
open Go.RowKit
set_option linter.unusedVariables false

def shortB (b : TLandBook) : Bool := decide ((b.People.length : Int) ≤ 15) && (decide ((b.Events.length : Int) ≤ 12) && decide ((b.Memories.length : Int) ≤ 15))
theorem f14_eq (b : TLandBook) : f14 b = some (shortB b) := by
  unfold f14 shortB
  by_cases h1 : (b.People.length : Int) ≤ 15 <;> by_cases h2 : (b.Events.length : Int) ≤ 12 <;> simp [h1, h2]
theorem short_parts {b : TLandBook} (h : shortB b = true) : b.People.length ≤ 15 ∧ b.Events.length ≤ 12 ∧ b.Memories.length ≤ 15 := by
  unfold shortB at h
  simp only [Bool.and_eq_true, decide_eq_true_eq] at h
  omega
theorem f20_eq (a b : List Int) (ha : a.length ≤ 1000) : f20 a b = some (a == b) := by
  unfold f20
  by_cases hl : a.length = b.length
  · rw [if_neg (by simp [hl])]
    have h := lp_all (body := f20_b0 a b) a (fun k y => b[k]? == some y) (Sum.inr false : Unit ⊕ Bool) (Sum.inl ()) (fun k => (k : Int)) (fun k y hy => by
      have hk := get_lt hy
      have hb : b[k]? = some (b[k]'(by omega)) := List.getElem?_eq_getElem _
      unfold f20_b0
      rw [if_pos (by simp only [decide_eq_true_eq]; omega), ix_nat, hy, Option.bind_some, ix_nat, hb, Option.bind_some]
      by_cases h : y = b[k]'(by omega)
      · rw [if_neg (by simp [h]), if_pos (by simp [h]), wrap_cnt (by omega)]
      · have h' : ¬ (b[k]'(by omega) = y) := fun e => h e.symm
        rw [if_pos (by simp [h]), if_neg (by simp [h'])]) (by unfold f20_b0; rw [if_neg (by simp)])
    rw [show (0 : Int) = ((0 : Nat) : Int) from rfl, h, Option.bind_some]
    have e : allI (fun k y => b[k]? == some y) 0 a = (a == b) := by
      rw [Bool.eq_iff_iff, allI_iff, beq_iff_eq]
      constructor
      · intro hh
        refine List.ext_getElem? fun i => ?_
        cases hi : a[i]? with
        | none => exact (List.getElem?_eq_none (by have := List.getElem?_eq_none_iff.1 hi; omega)).symm
        | some y => have := hh i y hi; rw [Nat.zero_add, beq_iff_eq] at this; exact this.symm
      · rintro rfl j y hy
        rw [Nat.zero_add, hy]; simp
    rw [e]
    cases (a == b) <;> rfl
  · rw [if_pos (by simp; omega)]
    have : (a == b) = false := by
      rw [beq_eq_false_iff_ne]
      intro e; exact hl (by rw [e])
    rw [this]
theorem first_len {n : Nat} (hn : n ≤ 15) (H : List Int → Bool) : ((firstS n H).getD []).length ≤ 15 := by
  cases hf : firstS n H with
  | none => simp
  | some l =>
    have := incr_len (first_in hf).1
    show l.length ≤ 15
    omega
theorem first_empty {n : Nat} {H : List Int → Bool} (h : H [] = true) : firstS n H = some [] := by
  unfold firstS
  rw [allS_find, List.range_succ_eq_map, List.findSome?_cons]
  have : (setsL n 0).find? H = some [] := by rw [setsL, List.find?_cons, h]
  rw [this]
theorem drop_agree {b : TLandBook} (ok : bookOk b = true) (h : agreeB b = true) : dropL b = [] := by
  unfold dropL
  rw [first_empty (by
    rw [agrS_all] at h
    rw [← h]
    have hl := (book_parts ok).2.2.1
    exact agrS_congr ok fun j hj => by rw [all_bits hl hj]; simp [inL])]
  rfl
theorem bk_le {b : TLandBook} (h : shortB b = true) : b.People.length ≤ 1000 ∧ b.Events.length ≤ 1000 ∧ b.Memories.length ≤ 1000 := by
  have := short_parts h
  omega
theorem landClashes_pure (x0 : TLandBook) : f3 x0 = some true := by
  unfold f3
  rw [f14_eq, Option.bind_some]
  by_cases hs : shortB x0 = true
  · obtain ⟨h1, h2, h3⟩ := bk_le hs
    rw [if_neg (by simp [hs]), f16_eq x0 h1 h2 h3, f17_eq x0 h1 h2 h3, f18_eq x0 h1 h2 h3, known_pure]
    by_cases ok : bookOk x0 = true
    · have hl := (book_parts ok).2.2.1
      have hc : (clashL x0).length ≤ 15 := first_len (by omega) _
      have hd : (dropL x0).length ≤ 15 := first_len (by omega) _
      rw [f19_eq x0 ok]
      by_cases ha : agreeB x0 = true
      · simp only [ok, ha, if_true, Option.bind_some, drop_agree ok ha]
        rfl
      · have ha' : agreeB x0 = false := by simpa using ha
        have e1 : f21 x0 = some (clashL x0) := f21_eq x0 ok
        have e2 : f22 x0 = some (dropL x0) := f22_eq x0 ok
        have q1 := f20_eq (clashL x0) (clashL x0) (by omega)
        have q2 := f20_eq (dropL x0) (dropL x0) (by omega)
        rw [beq_self_eq_true] at q1 q2
        simp only [ok, ha', if_true, Option.bind_some, e1, e2]
        simp [q1, q2]
    · have ok' : bookOk x0 = false := by simpa using ok
      simp only [ok', Option.bind_some]
      rfl
  · have hs' : shortB x0 = false := by simpa using hs
    rw [if_pos (by simp [hs']), known_pure]
    rfl
theorem landClashes (x0 : TLandBook) (k0 : okTLandBook x0) : f3 x0 = some true := landClashes_pure x0
end Go.Proofs.YtcaflmilfhhikaaDoor
