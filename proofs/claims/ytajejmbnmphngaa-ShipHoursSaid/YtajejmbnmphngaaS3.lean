/-
  Ship's hours.
-/
import Derived.Test.YtajejmbnmphngaaS2
import Derived.Test.YtajejmbnmphngaaOp
namespace Go.Proofs.Ytajejmbnmphngaa
open Go.RowKit

theorem wrap0 : IntKind.i64.wrap 0 = 0 := rfl
theorem f16_T {p : TShipPass} (h : passShort p) : f16 p = some true := by rw [f16_eq, decide_eq_true h]
theorem f16_F {p : TShipPass} (h : ¬ passShort p) : f16 p = some false := by rw [f16_eq, decide_eq_false h]
theorem shipHours (p : TShipPass) (d : Int) (c : TShipCall) (_ : okTShipPass p) (_ : okI d) (_ : okTShipCall c) : f12 p d c = some true := by
  unfold f12
  by_cases hs : passShort p
  · simp only [f16_T hs, Option.bind_some, f47_eq p hs, f45_eq p d hs, f48_eq p c hs, f19_eq p hs, f44_eq p d hs, f50_eq p c hs]
    cases hp : passOk p with
    | false => simp [known_pure, wrap0]
    | true =>
      have l1 : ∀ sw, (hoursL p d sw).length ≤ 1073741824 := fun sw => Nat.le_trans (hoursTo_len p d sw 24) (by decide)
      cases hd : dayOk p d with
      | false =>
        cases hc : callOk p c with
        | false => simp [known_pure, wrap0]
        | true =>
          rw [f51_eq (passOk_iff hp) hc]
          unfold nextR
          cases firstC p c <;> simp [known_pure, wrap0]
      | true =>
        cases hc : callOk p c with
        | false => simp [known_pure, f49_eq p d _ hp hd, f39_eq _ _ (l1 _)]
        | true =>
          rw [f51_eq (passOk_iff hp) hc]
          unfold nextR
          cases firstC p c <;> simp [known_pure, f49_eq p d _ hp hd, f39_eq _ _ (l1 _)]
  · simp [f16_F hs, known_pure]
end Go.Proofs.Ytajejmbnmphngaa
