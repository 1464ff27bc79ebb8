/-
  LandLines: lines and heirs are the document's (plain law).
-/
import Derived.Test.YtcaflmilfhhikaaDoorLj
import Derived.Test.YtcaflmilfhhikaaDoorLw
namespace Go.Proofs.YtcaflmilfhhikaaDoor
open Go.RowKit
set_option linter.unusedVariables false

theorem landLines_pure (x0 : TLandBook) (x1 x2 : Int) : f9 x0 x1 x2 = some true := by
  unfold f9
  rw [f14_eq, Option.bind_some]
  by_cases hs : shortB x0 = true
  · obtain ⟨h1, h2, h3⟩ := bk_le hs
    rw [if_neg (by simp [hs]), f35_eq x0 x1 h1 h2 h3, f37_eq x0 x2 h1 h2 h3, f18_eq x0 h1 h2 h3, f38_eq x0 x2 h1, f33_eq, known_pure]
    simp only [Option.bind_some, f31_eq x0 _ h1 h2 h3]
    unfold lookE
    by_cases ok : bookOk x0 = true
    · have hn := (book_parts ok).2.1.2
      have hp := (book_parts ok).1.2
      have tail : ∀ z : Int × Int × Int → Option Bool, True := fun _ => trivial
      have hline : agreeB x0 = true → f40 x0 x1 = some (if chainB x0 (linR x0 x1 x0.Events.length) = true then (castL (linR x0 x1 x0.Events.length), true) else ([], false)) := fun ha => f40_eq x0 ok ha x1
      have hlv : agreeB x0 = true → lineV x0 x1 = if chainB x0 (linR x0 x1 x0.Events.length) = true then (castL (linR x0 x1 x0.Events.length), folB x0 (linR x0 x1 x0.Events.length), 0) else ([], 0, 8) := fun ha => by
        unfold lineV
        rw [lin_iff ok ha]
        by_cases hc : chainB x0 (linR x0 x1 x0.Events.length) = true
        · rw [if_pos hc, if_pos hc]
        · rw [if_neg hc, if_neg hc]
      have hlen := linR_len x0 x1 x0.Events.length
      have hin : ∀ x ∈ linR x0 x1 x0.Events.length, x < x0.Events.length := fun x hx => (mem_linR.1 hx).1
      have e41 := f41_eq ok hin (by omega)
      have e20 := f20_same (l := castL (linR x0 x1 x0.Events.length)) (by rw [cast_len]; omega)
      have hh : inR x2 0 ((x0.People.length : Int) - 1) = true → f39 x0 x2 = some (heirL x0 x2.toNat x0.People.length) := fun hi => by
        obtain ⟨h, hh, rfl⟩ := inR_nat hi
        exact f39_eq x0 ok hh
      have e20h := f20_same (l := heirL x0 x2.toNat x0.People.length) (by have := heir_len x0 x2.toNat x0.People.length; omega)
      by_cases hi : inR x2 0 ((x0.People.length : Int) - 1) = true
      · have e39 := hh hi
        by_cases hst : inR x1 0 5 = true
        · by_cases ha : agreeB x0 = true
          · have e40 := hline ha
            rw [hlv ha]
            by_cases hc : chainB x0 (linR x0 x1 x0.Events.length) = true
            · simp [ok, hi, hst, ha, hc, e39, e20h, e40, e20, e41]
            · simp [ok, hi, hst, ha, hc, e39, e20h, e40]
          · simp [ok, hi, hst, ha, e39, e20h]
        · simp [ok, hi, hst, e39, e20h]
      · by_cases hst : inR x1 0 5 = true
        · by_cases ha : agreeB x0 = true
          · have e40 := hline ha
            rw [hlv ha]
            by_cases hc : chainB x0 (linR x0 x1 x0.Events.length) = true
            · simp [ok, hi, hst, ha, hc, e40, e20, e41]
            · simp [ok, hi, hst, ha, hc, e40]
          · simp [ok, hi, hst, ha]
        · simp [ok, hi, hst]
    · simp [ok]
  · have hs' : shortB x0 = false := by simpa using hs
    rw [if_pos (by simp [hs']), known_pure]
    rfl
theorem landLines (x0 : TLandBook) (x1 x2 : Int) (k0 : okTLandBook x0) (k1 : okI x1) (k2 : okI x2) : f9 x0 x1 x2 = some true := landLines_pure x0 x1 x2
end Go.Proofs.YtcaflmilfhhikaaDoor
