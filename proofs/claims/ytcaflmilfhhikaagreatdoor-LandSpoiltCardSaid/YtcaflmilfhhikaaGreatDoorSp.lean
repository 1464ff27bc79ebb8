/-
  LandSpoilt: a text of which one digit was changed is no book's text (plain law).
-/
import Derived.Test.YtcaflmilfhhikaaGreatDoorLk
namespace Go.Proofs.YtcaflmilfhhikaaGreatDoor
open Go.RowKit Go.Lib
set_option linter.unusedVariables false

theorem fold_shift (e : Nat) : ∀ (s : Tex) (a k : Nat), s.foldl stepD (a + e, k) = ((s.foldl stepD (a, k)).1 + e, (s.foldl stepD (a, k)).2)
  | [], _, _ => rfl
  | c :: r, a, k => by
    rw [List.foldl_cons, List.foldl_cons]
    by_cases hc : isDg c = true
    · have h1 : ∀ q, stepD (q, k) c = (q + (c.toNat - 48) * (1 + k % 9), k + 1) := fun q => by unfold stepD; rw [if_pos hc]
      rw [h1, h1, Nat.add_right_comm, fold_shift e r]
    · have h1 : ∀ q, stepD (q, k) c = (q, k) := fun q => by unfold stepD; rw [if_neg hc]
      rw [h1, h1, fold_shift e r]
/-- One digit more or less: the check is another one. -/
theorem sum_digit (a b : Tex) (c d : UInt8) (hc : isDg c = true) (hd : isDg d = true) (hne : c ≠ d) : sumS (a ++ c :: b) % 97 ≠ sumS (a ++ d :: b) % 97 := by
  have key : ∀ x : UInt8, isDg x = true → sumS (a ++ x :: b) = (b.foldl stepD ((a.foldl stepD (0, 0)).1, (a.foldl stepD (0, 0)).2 + 1)).1 + (x.toNat - 48) * (1 + (a.foldl stepD (0, 0)).2 % 9) := fun x hx => by
    unfold sumS
    rw [List.foldl_append, List.foldl_cons]
    generalize a.foldl stepD (0, 0) = t
    obtain ⟨u, k⟩ := t
    have h1 : stepD (u, k) x = (u + (x.toNat - 48) * (1 + k % 9), k + 1) := by unfold stepD; rw [if_pos hx]
    rw [h1, fold_shift]
  rw [key c hc, key d hd]
  generalize (b.foldl stepD ((a.foldl stepD (0, 0)).1, (a.foldl stepD (0, 0)).2 + 1)).1 = S
  generalize (a.foldl stepD (0, 0)).2 = k
  have h9 : k % 9 < 9 := Nat.mod_lt _ (by decide)
  generalize k % 9 = w at h9
  have hc' := (isDg_iff c).1 hc
  have hd' := (isDg_iff d).1 hd
  have hne' : c.toNat ≠ d.toNat := fun e => hne (UInt8.toNat_inj.1 e)
  obtain ⟨x, hx⟩ : ∃ x, c.toNat - 48 = x := ⟨_, rfl⟩
  obtain ⟨y, hy⟩ : ∃ y, d.toNat - 48 = y := ⟨_, rfl⟩
  rw [hx, hy]
  have hxy : x ≠ y := by omega
  have hx9 : x ≤ 9 := by omega
  have hy9 : y ≤ 9 := by omega
  intro h
  have hw : w = 0 ∨ w = 1 ∨ w = 2 ∨ w = 3 ∨ w = 4 ∨ w = 5 ∨ w = 6 ∨ w = 7 ∨ w = 8 := by omega
  rcases hw with rfl | rfl | rfl | rfl | rfl | rfl | rfl | rfl | rfl <;> omega
theorem two_digits {m n : Nat} (hm : m < 97) (hn : n < 97) (h : decDigits (m / 10) ++ decDigits (m % 10) = decDigits (n / 10) ++ decDigits (n % 10)) : m = n := by
  rw [decDigits_one (show m / 10 < 10 by omega), decDigits_one (show m % 10 < 10 by omega), decDigits_one (show n / 10 < 10 by omega), decDigits_one (show n % 10 < 10 by omega)] at h
  simp only [List.cons_append, List.nil_append, List.cons.injEq, and_true] at h
  obtain ⟨h1, h2⟩ := h
  have e1 := congrArg UInt8.toNat h1
  have e2 := congrArg UInt8.toNat h2
  rw [u8_dg (by omega), u8_dg (by omega)] at e1 e2
  omega
theorem set_split {s : Tex} {j : Nat} {c d : UInt8} (h : s[j]? = some c) : ∃ a b, s = a ++ c :: b ∧ s.set j d = a ++ d :: b ∧ a.length = j := by
  have hj := get_lt h
  refine ⟨s.take j, s.drop (j + 1), ?_, ?_, by simp; omega⟩
  · have hv : s[j] = c := (List.getElem?_eq_some_iff.1 h).2
    rw [← hv, ← List.drop_eq_getElem_cons hj, List.take_append_drop]
  · rw [List.set_eq_take_append_cons_drop, if_pos hj]
/-- A text in which one digit was changed is the text of no book. -/
theorem spoilt {b b' : TLandBook} {j : Nat} {c d : UInt8} (hj : (textT b)[j]? = some c) (hc : isDg c = true) (hd : isDg d = true) (hne : c ≠ d) : textT b' ≠ (textT b).set j d := by
  intro he
  have hlen : (textT b').length = (textT b).length := by rw [he]; simp
  have l1 := chk_len (bodyT b)
  have l2 := chk_len (bodyT b')
  have hb : ∀ q, (textT q).length = (bodyT q).length + 7 := fun q => by have := chk_len (bodyT q); simp [textT, endT]; omega
  have hbl : (bodyT b').length = (bodyT b).length := by have := hb b; have := hb b'; omega
  have ht : ∀ q, textT q = bodyT q ++ ([101, 110, 100, 32] ++ (chk (bodyT q) ++ [10])) := fun q => by simp [textT, endT]
  rw [ht b', ht b] at he
  have hjl := get_lt hj
  rw [ht b] at hj
  by_cases hjb : j < (bodyT b).length
  · rw [List.getElem?_append_left hjb] at hj
    rw [List.set_append_left _ _ hjb] at he
    have e := List.append_inj he (by rw [hbl]; simp)
    obtain ⟨e1, e2⟩ := e
    have e3 := List.append_cancel_left e2
    have e4 := List.append_cancel_right e3
    obtain ⟨x, y, h1, h2, _⟩ := set_split (d := d) hj
    have hs := sum_digit x y c d hc hd hne
    rw [← h1, ← h2, ← e1] at hs
    refine hs (two_digits (Nat.mod_lt _ (by decide)) (Nat.mod_lt _ (by decide)) ?_).symm
    exact e4
  · rw [List.set_append_right _ _ (by omega)] at he
    obtain ⟨e1, e2⟩ := List.append_inj he hbl
    rw [List.getElem?_append_right (by omega)] at hj
    rw [e1] at e2
    have hset := congrArg (fun l : Tex => l[j - (bodyT b).length]?) e2
    have hlt := get_lt hj
    simp only [List.getElem?_set, if_true, hlt, hj] at hset
    exact hne (Option.some.inj hset)
theorem landSpoilt_pure (x0 : TLandBook) (x1 x2 : Int) : f5 x0 x1 x2 = some true := by
  unfold f5
  rw [f6_eq, Option.bind_some, known_pure]
  by_cases hs : shortB x0 = true
  · obtain ⟨h1, h2, h3⟩ := short_parts hs
    rw [if_neg (by simp [hs]), f9_eq x0 (by omega) (by omega) (by omega), Option.bind_some]
    by_cases ok : bookOk x0 = true
    · obtain ⟨p1, p2, p3, pp, sm⟩ := ok_parts ok
      have hlen := textT_len sm
      rw [if_neg (by simp [ok])]
      by_cases hx2 : x2 < 0
      · rw [if_pos (by simpa using hx2)]; rfl
      · rw [if_neg (by simpa using hx2)]
        by_cases hx9 : 9 < x2
        · rw [show decide (9 < x2) = true by simpa using hx9]; rfl
        · rw [show decide (9 < x2) = false by simpa using hx9]
          simp only [Option.bind_some, Bool.false_eq_true, if_false]
          rw [f8_eq (by omega) (by omega) (by omega), if_pos ok, Option.bind_some]
          rw [if_neg (by simp)]
          by_cases ha : x1 < 0
          · rw [if_pos (by simpa using ha)]; rfl
          · rw [if_neg (by simpa using ha)]
            by_cases hb : ((textT x0).length : Int) ≤ x1
            · rw [if_pos (by simpa using hb)]; rfl
            · rw [if_neg (by simpa using hb)]
              obtain ⟨j, rfl⟩ : ∃ j : Nat, x1 = j := ⟨x1.toNat, by omega⟩
              have hj : j < (textT x0).length := by omega
              have hg : (textT x0)[j]? = some (textT x0)[j] := List.getElem?_eq_getElem hj
              generalize (textT x0)[j] = c at hg
              simp only [ix_nat, hg, Option.bind_some]
              by_cases h48 : (c.toNat : Int) < 48
              · rw [if_pos (by simpa using h48)]; rfl
              · rw [if_neg (by simpa using h48)]
                by_cases h57 : 57 < (c.toNat : Int)
                · rw [if_pos (by simpa using h57)]; rfl
                · rw [if_neg (by simpa using h57)]
                  have hc : isDg c = true := (isDg_iff c).2 (by omega)
                  have ew : IntKind.i64.wrap (IntKind.u8.wrap ((c.toNat : Int) - 48)) = (c.toNat : Int) - 48 := by
                    rw [IntKind.wrap_u8, wrap_id] <;> omega
                  rw [ew]
                  by_cases hq : (c.toNat : Int) - 48 = x2
                  · rw [show ((c.toNat : Int) - 48 == x2) = true by simpa using hq]; rfl
                  · rw [show ((c.toNat : Int) - 48 == x2) = false by simpa using hq]
                    obtain ⟨u, rfl⟩ : ∃ u : Nat, x2 = u := ⟨x2.toNat, by omega⟩
                    have hu : u < 10 := by omega
                    have ed : UInt8.ofNat (IntKind.u8.wrap (IntKind.i64.wrap (48 + (u : Int)))).toNat = UInt8.ofNat (48 + u) := by
                      rw [wrap_id (by omega) (by omega), IntKind.wrap_u8]
                      congr 1
                      omega
                    have hdd : isDg (UInt8.ofNat (48 + u)) = true := (isDg_iff _).2 (by rw [u8_dg hu]; omega)
                    have hne : c ≠ UInt8.ofNat (48 + u) := fun e => by
                      have := congrArg UInt8.toNat e
                      rw [u8_dg hu] at this
                      omega
                    have ei : inL (textT x0) (j : Int) = some () := by unfold inL; rw [if_pos ⟨by omega, by simpa using hj⟩]
                    have es : setIx (textT x0) (j : Int) (UInt8.ofNat (48 + u)) = some ((textT x0).set j (UInt8.ofNat (48 + u))) := by unfold setIx; rw [if_pos ⟨by omega, by simpa using hj⟩]; rfl
                    have er : readR ((textT x0).set j (UInt8.ofNat (48 + u))) = (⟨[], [], []⟩, 4) := by
                      unfold readR
                      rw [if_neg (by simp; omega)]
                      cases hp : readP ((textT x0).set j (UInt8.ofNat (48 + u))) with
                      | none => rfl
                      | some b' => exact absurd (readP_text hp).1 (spoilt hg hc hdd hne)
                    rw [ed, ei, es]
                    simp only [Option.bind_some, Bool.false_eq_true, if_false, f10_eq, er, f12_refl (⟨[], [], []⟩ : TLandBook) (by simp) (by simp) (by simp)]
                    simp
    · have ok' : bookOk x0 = false := by simpa using ok
      rw [if_pos (by simp [ok'])]
      rfl
  · have hs' : shortB x0 = false := by simpa using hs
    rw [if_pos (by simp [hs'])]
    rfl
theorem landSpoilt (x0 : TLandBook) (x1 x2 : Int) (k0 : okTLandBook x0) (k1 : okI x1) (k2 : okI x2) : f5 x0 x1 x2 = some true := landSpoilt_pure x0 x1 x2
end Go.Proofs.YtcaflmilfhhikaaGreatDoor
