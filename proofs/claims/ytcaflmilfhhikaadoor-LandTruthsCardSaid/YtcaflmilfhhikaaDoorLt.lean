/-
  LandTruths: whether memories are true in years, and the earliest truth (plain law).
-/
import Derived.Test.YtcaflmilfhhikaaDoorTh
import Derived.Test.YtcaflmilfhhikaaDoorLw
namespace Go.Proofs.YtcaflmilfhhikaaDoor
open Go.RowKit
set_option linter.unusedVariables false

theorem landTruths_pure (x0 : TLandBook) (x1 : List Int) : f6 x0 x1 = some true := by
  unfold f6
  rw [f14_eq, Option.bind_some]
  by_cases hs : shortB x0 = true
  · by_cases hy : x1.length ≤ 15
    · obtain ⟨h1, h2, h3⟩ := bk_le hs
      have hd : decide (15 < (x1.length : Int)) = false := decide_eq_false (by omega)
      rw [if_neg (by simp [hs]), hd, f27_eq x0 x1 h1 h2 h3, f28_eq x0 h1 h2 h3, f18_eq x0 h1 h2 h3, f29_eq x0 x1 (by omega), f31_eq x0 true h1 h2 h3, known_pure]
      unfold lookE
      by_cases ok : bookOk x0 = true
      · have hn := (book_parts ok).2.1.2
        by_cases ha : agreeB x0 = true
        · have e32 := f32_eq x0 ok ha
          have e20 := f20_same (l := earlyL x0) (by simp [earlyL]; omega)
          by_cases ht : truthB x0 x1 = true
          · have e30 := f30_eq x0 ok x1 ht
            simp [ok, ha, ht, e30, e32, e20]
          · simp [ok, ha, ht, e32, e20]
        · by_cases ht : truthB x0 x1 = true
          · have e30 := f30_eq x0 ok x1 ht
            simp [ok, ha, ht, e30]
          · simp [ok, ha, ht]
      · by_cases ht : truthB x0 x1 = true
        · simp [ok, ht]
        · simp [ok, ht]
    · have hd : decide (15 < (x1.length : Int)) = true := decide_eq_true (by omega)
      rw [if_neg (by simp [hs]), hd, known_pure]
      rfl
  · have hs' : shortB x0 = false := by simpa using hs
    rw [if_pos (by simp [hs']), known_pure]
    rfl
theorem landTruths (x0 : TLandBook) (x1 : List Int) (k0 : okTLandBook x0) (k1 : ∀ y ∈ x1, okI y) : f6 x0 x1 = some true := landTruths_pure x0 x1
end Go.Proofs.YtcaflmilfhhikaaDoor
