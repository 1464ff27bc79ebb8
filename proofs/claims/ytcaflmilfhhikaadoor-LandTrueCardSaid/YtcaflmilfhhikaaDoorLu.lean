/-
  LandTrue: whatever is true lies within the bounds (plain law).
-/
import Derived.Test.YtcaflmilfhhikaaDoorTh
import Derived.Test.YtcaflmilfhhikaaDoorCl
namespace Go.Proofs.YtcaflmilfhhikaaDoor
open Go.RowKit
set_option linter.unusedVariables false

theorem truth_agrees {b : TLandBook} (ok : bookOk b = true) {ys : List Int} (ht : truthB b ys = true) (h : allT b ys = true) : agreeB b = true := by
  rw [agrS_all, agrS_iff ok]
  exact ⟨_, (truth_all ok ht).1 h⟩
theorem truth_bound {b : TLandBook} (ok : bookOk b = true) {ys : List Int} (ht : truthB b ys = true) (h : allT b ys = true) {i k : Nat} (hi : i < b.Events.length) (hk : k < b.Events.length) :
    yv ys k - yv ys i ≤ tabAll b i k ∧ yv ys k ≤ tabAll b 7 k ∧ -yv ys i ≤ tabAll b i 7 := by
  obtain ⟨_, ⟨_, hn⟩, hl, hm, hF⟩ := book_parts ok
  exact table_bound b _ hn hF ((truth_all ok ht).1 h) hi hk
theorem years_at {b : TLandBook} {e : Nat} (he : e < b.Events.length) : ix (yearsL b) (e : Int) = some ⟨-tabAll b e 7, tabAll b 7 e⟩ := by
  unfold yearsL
  rw [ix_nat, List.getElem?_map, List.getElem?_range he]; rfl
theorem early_at {b : TLandBook} {e : Nat} (he : e < b.Events.length) : ix (earlyL b) (e : Int) = some (-tabAll b e 7) := by
  unfold earlyL
  rw [ix_nat, List.getElem?_map, List.getElem?_range he]; rfl
theorem landTrue_pure (x0 : TLandBook) (x1 : List Int) (x2 x3 : Int) (hl : x1.length ≤ 9223372036854775807) : f11 x0 x1 x2 x3 = some true := by
  unfold f11
  rw [f14_eq, Option.bind_some]
  by_cases hs : shortB x0 = true
  · obtain ⟨h1, h2, h3⟩ := bk_le hs
    rw [if_neg (by simp [hs]), f18_eq x0 h1 h2 h3, f29_eq x0 x1 hl, f45_eq x0 x2 h2, f45_eq x0 x3 h2, f27_eq x0 x1 h1 h2 h3, f34_eq x0 h1 h2 h3, f43_eq x0 x2 x3 h1 h2 h3, f28_eq x0 h1 h2 h3, known_pure]
    by_cases ok : bookOk x0 = true
    · by_cases ht : truthB x0 x1 = true
      · by_cases hi : inR x2 0 ((x0.Events.length : Int) - 1) = true
        · by_cases hk : inR x3 0 ((x0.Events.length : Int) - 1) = true
          · have hn := (book_parts ok).2.1.2
            obtain ⟨i, hi', rfl⟩ := inR_nat hi
            obtain ⟨k, hk', rfl⟩ := inR_nat hk
            by_cases ha : allT x0 x1 = true
            · have hag := truth_agrees ok ht ha
              have hlen := truth_len ht
              have hyl : (yearsL x0).length = x1.length := by simp [yearsL, hlen]
              have hel : (earlyL x0).length = x1.length := by simp [earlyL, hlen]
              have hlp : lp (f11_b0 x1 (yearsL x0, 0) (earlyL x0, 0)) 0 = some (Sum.inl () : Unit ⊕ Bool) := by
                refine lp_thru (body := f11_b0 x1 (yearsL x0, 0) (earlyL x0, 0)) x1 (Sum.inl ()) (fun k => (k : Int)) (fun e y hy => ?_) ?_
                · have he := get_lt hy
                  rw [hlen] at he
                  obtain ⟨q1, q2, q3⟩ := yv_at ht he
                  obtain ⟨_, p2, p3⟩ := truth_bound ok ht ha he he
                  unfold f11_b0
                  rw [if_pos (by simp only [decide_eq_true_eq]; omega), q1, Option.bind_some, years_at he, Option.bind_some, early_at he]
                  have e1 : decide (yv x1 e < -tabAll x0 e 7) = false := decide_eq_false (by omega)
                  have e2 : decide (tabAll x0 7 e < yv x1 e) = false := decide_eq_false (by omega)
                  simp only [e1, e2, Bool.false_eq_true, if_false, Option.bind_some, wrap_cnt (show e ≤ 1000 by omega)]
                · unfold f11_b0
                  rw [if_neg (by simp)]
              obtain ⟨q1, q2, q3⟩ := yv_at ht hi'
              obtain ⟨r1, r2, r3⟩ := yv_at ht hk'
              have b1 := (truth_bound ok ht ha hi' hk').1
              have b2 := (truth_bound ok ht ha hk' hi').1
              have hw : IntKind.i64.wrap (yv x1 k - yv x1 i) = yv x1 k - yv x1 i := wrap_id (by omega) (by omega)
              have c1 : decide (-tabAll x0 k i ≤ yv x1 k - yv x1 i) = true := decide_eq_true (by omega)
              have c2 : decide (yv x1 k - yv x1 i ≤ tabAll x0 i k) = true := decide_eq_true (by omega)
              simp only [Int.toNat_natCast, ok, ht, hi, hk, ha, hag, Bool.and_self, if_true, Bool.not_true, Bool.false_eq_true, if_false, Option.bind_some, hyl, hel, bne_self_eq_false, hlp, Sum.elim_inl, q1, r1, hw, c1, c2]
            · by_cases hag : agreeB x0 = true
              · simp [ok, ht, hi, hk, ha, hag]
              · simp [ok, ht, hi, hk, ha, hag]
          · simp [ok, ht, hi, hk]
        · simp [ok, ht, hi]
      · simp [ok, ht]
    · simp [ok]
  · have hs' : shortB x0 = false := by simpa using hs
    rw [if_pos (by simp [hs']), known_pure]
    rfl
theorem landTrue (x0 : TLandBook) (x1 : List Int) (x2 x3 : Int) (k0 : okTLandBook x0) (k1 : ∀ y ∈ x1, okI y) (k2 : okI x2) (k3 : okI x3) (hl : x1.length ≤ 9223372036854775807) : f11 x0 x1 x2 x3 = some true := landTrue_pure x0 x1 x2 x3 hl
end Go.Proofs.YtcaflmilfhhikaaDoor
