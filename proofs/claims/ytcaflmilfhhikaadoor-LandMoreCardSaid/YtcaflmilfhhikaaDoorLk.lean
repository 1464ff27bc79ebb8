/-
  LandKnown: the bounds of years are the document's (plain law).
-/
import Derived.Test.YtcaflmilfhhikaaDoorRt
import Derived.Test.YtcaflmilfhhikaaDoorGn
import Derived.Test.YtcaflmilfhhikaaDoorOp
namespace Go.Proofs.YtcaflmilfhhikaaDoor
open Go.RowKit
set_option linter.unusedVariables false

def shortB (b : TLandBook) : Bool := decide ((b.People.length : Int) ≤ 15) && (decide ((b.Events.length : Int) ≤ 12) && decide ((b.Memories.length : Int) ≤ 15))
theorem f14_eq (b : TLandBook) : f14 b = some (shortB b) := by
  unfold f14 shortB
  by_cases h1 : (b.People.length : Int) ≤ 15 <;> by_cases h2 : (b.Events.length : Int) ≤ 12 <;> simp [h1, h2]
theorem short_parts {b : TLandBook} (h : shortB b = true) : b.People.length ≤ 15 ∧ b.Events.length ≤ 12 ∧ b.Memories.length ≤ 15 := by
  unfold shortB at h
  simp only [Bool.and_eq_true, decide_eq_true_eq] at h
  omega
theorem bk_le {b : TLandBook} (h : shortB b = true) : b.People.length ≤ 1000 ∧ b.Events.length ≤ 1000 ∧ b.Memories.length ≤ 1000 := by
  have := short_parts h
  omega
/-- The error of a book in which something is looked for. -/
def lookE (b : TLandBook) (fine : Bool) : Int := if (bookOk b && fine) = true then (if agreeB b = true then 0 else 7) else 2
theorem f31_eq (b : TLandBook) (fine : Bool) (h1 : b.People.length ≤ 1000) (h2 : b.Events.length ≤ 1000) (h3 : b.Memories.length ≤ 1000) : f31 b fine = some (lookE b fine) := by
  unfold f31 lookE
  rw [f18_eq b h1 h2 h3]
  by_cases ok : bookOk b = true
  · rw [f19_eq b ok]
    cases fine <;> cases agreeB b <;> simp [ok]
  · have ok' : bookOk b = false := by simpa using ok
    simp [ok']
theorem f42_eq (b : TLandBook) (h1 : b.People.length ≤ 1000) (h2 : b.Events.length ≤ 1000) (h3 : b.Memories.length ≤ 1000) : f42 b = some (if bookOk b = true then 0 else 2) := by
  unfold f42
  rw [f51_eq b h1 h2 h3]
  cases bookOk b <;> rfl
theorem f36_same (l : List TSpan) (hl : l.length ≤ 1000) : f36 l l = some true := by
  unfold f36
  rw [if_neg (by simp)]
  have h := lp_all (body := f36_b0 l l) l (fun _ _ => true) (Sum.inr false : Unit ⊕ Bool) (Sum.inl ()) (fun k => (k : Int)) (fun k y hy => by
    have hk := get_lt hy
    unfold f36_b0
    rw [if_pos (by simp only [decide_eq_true_eq]; omega), ix_nat, hy, Option.bind_some, Option.bind_some, if_neg (by simp), if_pos rfl, wrap_cnt (by omega)]) (by unfold f36_b0; rw [if_neg (by simp)])
  rw [show (0 : Int) = ((0 : Nat) : Int) from rfl, h, Option.bind_some]
  have e : allI (fun _ (_ : TSpan) => true) 0 l = true := (allI_iff _ _ _).2 fun _ _ _ => rfl
  rw [e]
  rfl
theorem inR_nat {x : Int} {n : Nat} (h : inR x 0 ((n : Int) - 1) = true) : ∃ k : Nat, k < n ∧ x = (k : Int) := by
  have := inR_iff.1 h
  exact ⟨x.toNat, by omega, by omega⟩
theorem landKnown_pure (x0 : TLandBook) (x1 x2 : Int) : f10 x0 x1 x2 = some true := by
  unfold f10
  rw [f14_eq, Option.bind_some]
  by_cases hs : shortB x0 = true
  · obtain ⟨h1, h2, h3⟩ := bk_le hs
    rw [if_neg (by simp [hs]), f42_eq x0 h1 h2 h3, f34_eq x0 h1 h2 h3, f43_eq x0 x1 x2 h1 h2 h3, f18_eq x0 h1 h2 h3, f31_eq x0 true h1 h2 h3, f45_eq x0 x1 h2, f45_eq x0 x2 h2, known_pure]
    simp only [Option.bind_some, f31_eq x0 _ h1 h2 h3]
    unfold lookE
    by_cases ok : bookOk x0 = true
    · by_cases ha : agreeB x0 = true
      · have hyl : (yearsL x0).length ≤ 1000 := by simp [yearsL]; omega
        have e44 := f44_eq x0 ok ha
        have e36 := f36_same (yearsL x0) hyl
        by_cases hi : inR x1 0 ((x0.Events.length : Int) - 1) = true
        · by_cases hk : inR x2 0 ((x0.Events.length : Int) - 1) = true
          · obtain ⟨i, hi', rfl⟩ := inR_nat hi
            obtain ⟨k, hk', rfl⟩ := inR_nat hk
            have e46 := f46_eq x0 ok ha hi' hk'
            simp [ok, ha, hi, hk, e44, e36, e46]
          · simp [ok, ha, hi, hk, e44, e36]
        · simp [ok, ha, hi, e44, e36]
      · by_cases hi : inR x1 0 ((x0.Events.length : Int) - 1) = true
        · by_cases hk : inR x2 0 ((x0.Events.length : Int) - 1) = true
          · simp [ok, ha, hi, hk]
          · simp [ok, ha, hi, hk]
        · simp [ok, ha, hi]
    · by_cases hi : inR x1 0 ((x0.Events.length : Int) - 1) = true
      · simp [ok, hi]
      · simp [ok, hi]
  · have hs' : shortB x0 = false := by simpa using hs
    rw [if_pos (by simp [hs']), known_pure]
    rfl
theorem landKnown (x0 : TLandBook) (x1 x2 : Int) (k0 : okTLandBook x0) (k1 : okI x1) (k2 : okI x2) : f10 x0 x1 x2 = some true := landKnown_pure x0 x1 x2
end Go.Proofs.YtcaflmilfhhikaaDoor
