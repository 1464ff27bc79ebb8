/-
  Plain: the document's text of a book is the program's.
-/
import Derived.Test.YtcaflmilfhhikaaGreatDoorBz
namespace Go.Proofs.YtcaflmilfhhikaaGreatDoor
open Go.RowKit Go.Lib
set_option linter.unusedVariables false

theorem digit_str {i : Nat} (h : i < 10) : strN [IntKind.u8.wrap (IntKind.i64.wrap (48 + (i : Int)))] = [UInt8.ofNat (48 + i)] := by
  rw [wrap_id (by omega) (by omega), IntKind.wrap_u8]
  unfold strN
  simp only [List.map_cons, List.map_nil]
  congr 2
  omega
theorem tmod10 (u : Nat) : ((u : Int)).tmod 10 = ((u % 10 : Nat) : Int) := by rw [Int.tmod_eq_emod_of_nonneg (by omega)]; rfl
theorem tdiv10 (u : Nat) : ((u : Int)).tdiv 10 = ((u / 10 : Nat) : Int) := by rw [Int.tdiv_eq_ediv_of_nonneg (by omega)]; rfl
theorem f30_loop (u : Nat) : ∀ (t : Tex), t.length + u ≤ 1000000 → lp f30_b0 ((u : Int), [UInt8.ofNat (48 + u % 10)] ++ t) = some (decDigits u ++ t) := by
  induction u using Nat.strongRecOn with
  | _ u ih =>
    intro t ht
    rw [lp_eq]
    by_cases h : u < 10
    · have e : f30_b0 ((u : Int), [UInt8.ofNat (48 + u % 10)] ++ t) = some (.inr ([UInt8.ofNat (48 + u % 10)] ++ t)) := by
        unfold f30_b0
        rw [if_neg (by simp; omega)]
      rw [e, decDigits_one h, Nat.mod_eq_of_lt h]
    · have e : f30_b0 ((u : Int), [UInt8.ofNat (48 + u % 10)] ++ t) = some (.inl (((u / 10 : Nat) : Int), [UInt8.ofNat (48 + u / 10 % 10)] ++ ([UInt8.ofNat (48 + u % 10)] ++ t))) := by
        unfold f30_b0
        rw [if_pos (by simp; omega)]
        simp only [tdiv10]
        rw [wrap_id (x := ((u / 10 : Nat) : Int)) (by omega) (by omega), tmod10, digit_str (Nat.mod_lt _ (by decide)), catS_ok (by simp; omega)]
        rfl
      rw [e]
      show lp f30_b0 _ = _
      rw [ih (u / 10) (by omega) _ (by simp; omega)]
      conv => rhs; rw [decDigits, dif_neg h]
      simp
theorem f30_nat (m u : Nat) (hu : u ≤ 100000) : f30 (m + 1) (u : Int) = some (decDigits u) := by
  show f30_F (f30 m) (u : Int) = _
  unfold f30_F
  rw [if_neg (by simp), tmod10, digit_str (Nat.mod_lt _ (by decide))]
  have := f30_loop u [] (by simp; omega)
  rw [List.append_nil, List.append_nil] at this
  rw [this]
  rfl
theorem f30_eq {n : Int} (h : small n) : f30 40 n = some (itoa n) := by
  obtain ⟨h0, h1⟩ := h
  by_cases hn : 0 ≤ n
  · obtain ⟨u, rfl⟩ : ∃ u : Nat, n = u := ⟨n.toNat, by omega⟩
    rw [itoa_nat]
    exact f30_nat 39 u (by omega)
  · obtain ⟨u, rfl⟩ : ∃ u : Nat, n = -(u : Int) := ⟨(-n).toNat, by omega⟩
    show f30_F (f30 39) _ = _
    unfold f30_F
    rw [if_pos (by simp; omega), wrap_id (by omega) (by omega), show (0 : Int) - -(u : Int) = (u : Int) by omega, f30_nat 38 u (by omega), Option.bind_some, itoa_neg u (by omega), catS_ok (by have := dec_len4 (u := u) (by omega); simp; omega)]
    rfl
theorem f31_eq {n : Int} (h : small n) (h1 : -1 ≤ n) : f31 n = some (pw n) := by
  unfold f31 pw
  by_cases hn : n = -1
  · subst hn; rfl
  · rw [if_neg (by simp; omega), f30_eq h, if_neg hn]
    rfl
theorem f32_eq (s : Tex) (hl : s.length ≤ 10000000) : f32 s = some (chk s) := by
  unfold f32
  have h1 : lp (f32_b0 s) (0, 0, 0) = some (sumS s : Int) := by
    refine lp_inv (fun k (t : Nat × Nat) => ((t.1 : Int), (t.2 : Int), (k : Int))) s (fun k t => t.1 ≤ 81 * k ∧ t.2 ≤ k) stepD (fun t => (t.1 : Int)) (fun k t y hy hI => ⟨?_, stepD_le y hI⟩) (fun t _ => ?_) (0, 0) (by simp)
    · have hk := get_lt hy
      have hw1 : IntKind.i64.wrap ((k : Int) + 1) = ((k + 1 : Nat) : Int) := by rw [wrap_id] <;> omega
      unfold f32_b0
      rw [if_pos (by simpa using hk)]
      simp only [ix_nat, hy, Option.bind_some, hw1]
      by_cases hc : isDg y = true
      · have hd := (isDg_iff y).1 hc
        obtain ⟨e1, e2⟩ := step_int hc hI (k := k) (by omega)
        have ec : (y.toNat : Int) - 48 = ((y.toNat - 48 : Nat) : Int) := by omega
        have ew : IntKind.i64.wrap (IntKind.u8.wrap ((y.toNat : Int) - 48)) = ((y.toNat - 48 : Nat) : Int) := by
          rw [IntKind.wrap_u8, ec, wrap_id] <;> omega
        rw [if_pos (by simp; omega), Option.bind_some, if_pos (by simp; omega), ew, Int.add_comm (((t.2 : Int)).tmod 9) 1, e1, e2]
        rfl
      · have e : stepD t y = t := by unfold stepD; rw [if_neg hc]
        rw [e]
        have hd : ¬ (48 ≤ y.toNat ∧ y.toNat ≤ 57) := fun h => hc ((isDg_iff y).2 h)
        by_cases h48 : 48 ≤ y.toNat
        · rw [if_pos (by simp; omega), Option.bind_some, if_neg (by simp; omega)]
          rfl
        · rw [if_neg (by simp; omega), Option.bind_some, if_neg (by simp)]
          rfl
    · unfold f32_b0
      rw [if_neg (by simp)]
  rw [h1, Option.bind_some]
  have hm : sumS s % 97 < 97 := Nat.mod_lt _ (by decide)
  have m1 : ((sumS s : Int)).tmod 97 = ((sumS s % 97 : Nat) : Int) := by rw [Int.tmod_eq_emod_of_nonneg (by omega)]; rfl
  rw [m1, tdiv10, tmod10, wrap_id (by omega) (by omega), f30_nat 39 _ (by omega), Option.bind_some, f30_nat 39 _ (by omega), Option.bind_some, decDigits_one (show sumS s % 97 / 10 < 10 by omega), decDigits_one (show sumS s % 97 % 10 < 10 by omega), catS_ok (by simp)]
  simp only [Option.bind_some, chk]
  rw [decDigits_one (show sumS s % 97 / 10 < 10 by omega), decDigits_one (show sumS s % 97 % 10 < 10 by omega)]
theorem f11_eq {b : TLandBook} (h : Sm b) (hq : ∀ x ∈ b.People, -1 ≤ x.Mother ∧ -1 ≤ x.Adopted) : f11 b = some (textT b) := by
  have hp := h.lp; have he := h.le; have hm := h.lm
  have hb := body_len h
  have sp : small (b.People.length : Int) := ⟨by omega, by omega⟩
  have se : small (b.Events.length : Int) := ⟨by omega, by omega⟩
  have sm : small (b.Memories.length : Int) := ⟨by omega, by omega⟩
  have lp5 := itoa_len5 sp
  have le5 := itoa_len5 se
  have lm5 := itoa_len5 sm
  have hh := headL_len h
  have h1 : lp (f11_b0 b) (headL b ++ [10], 0) = some (headL b ++ [10] ++ b.People.flatMap fun x => pl x ++ [10]) := by
    refine lp_cat (fun k t => (t, (k : Int))) b.People (fun x => pl x ++ [10]) _ (fun x hx => ?_) (by omega) (by simp; omega) (fun k t y hy ht => ?_) (fun t => ?_)
    · have := h.p x hx; have := pl_len this.1 this.2; simp; omega
    · have hk := get_lt hy
      have hs := h.p y (List.mem_of_getElem? hy)
      have hq' := hq y (List.mem_of_getElem? hy)
      have l1 := pw_len hs.1
      have l2 := pw_len hs.2
      unfold f11_b0
      rw [if_pos (by simp; omega)]
      simp only [ix_nat, hy, Option.bind_some]
      rw [catS_ok (by simp; omega), Option.bind_some, f31_eq hs.1 hq'.1, Option.bind_some, catS_ok (by simp; omega), Option.bind_some, catS_ok (by simp; omega), Option.bind_some, f31_eq hs.2 hq'.2, Option.bind_some, catS_ok (by simp; omega), Option.bind_some, catS_ok (by simp; omega), Option.bind_some, wrap_nat hk (by omega)]
      simp [pl, kP]
    · unfold f11_b0; rw [if_neg (by simp)]
  have l1 : (headL b ++ [10] ++ b.People.flatMap fun x => pl x ++ [10]).length ≤ 100000000 := by
    rw [bodyT_eq] at hb
    simp only [List.length_append] at hb ⊢
    omega
  have h2 : lp (f11_b1 b) (headL b ++ [10] ++ b.People.flatMap fun x => pl x ++ [10], 0) = some (headL b ++ [10] ++ (b.People.flatMap fun x => pl x ++ [10]) ++ b.Events.flatMap fun x => el x ++ [10]) := by
    refine lp_cat (fun k t => (t, (k : Int))) b.Events (fun x => el x ++ [10]) _ (fun x hx => ?_) (by omega) l1 (fun k t y hy ht => ?_) (fun t => ?_)
    · have := h.e x hx; have := el_len this.1 this.2; simp; omega
    · have hk := get_lt hy
      have hs := h.e y (List.mem_of_getElem? hy)
      have l1 := itoa_len5 hs.1
      have l2 := itoa_len5 hs.2
      unfold f11_b1
      rw [if_pos (by simp; omega)]
      simp only [ix_nat, hy, Option.bind_some]
      rw [catS_ok (by simp; omega), Option.bind_some, f30_eq hs.1, Option.bind_some, catS_ok (by simp; omega), Option.bind_some, catS_ok (by simp; omega), Option.bind_some, f30_eq hs.2, Option.bind_some, catS_ok (by simp; omega), Option.bind_some, catS_ok (by simp; omega), Option.bind_some, wrap_nat hk (by omega)]
      simp [el, wd, kE]
    · unfold f11_b1; rw [if_neg (by simp)]
  have l2 : (headL b ++ [10] ++ (b.People.flatMap fun x => pl x ++ [10]) ++ b.Events.flatMap fun x => el x ++ [10]).length ≤ 100000000 := by
    rw [bodyT_eq] at hb
    simp only [List.length_append] at hb ⊢
    omega
  have h3 : lp (f11_b2 b) (headL b ++ [10] ++ (b.People.flatMap fun x => pl x ++ [10]) ++ b.Events.flatMap fun x => el x ++ [10], 0) = some (bodyT b) := by
    rw [bodyT_eq]
    refine lp_cat (fun k t => (t, (k : Int))) b.Memories (fun x => ml x ++ [10]) _ (fun x hx => ?_) (by omega) l2 (fun k t y hy ht => ?_) (fun t => ?_)
    · have := ml_len (h.m x hx); simp; omega
    · have hk := get_lt hy
      have hs := h.m y (List.mem_of_getElem? hy)
      have l1 := itoa_len5 hs.1
      have l2 := itoa_len5 hs.2.1
      have l3 := itoa_len5 hs.2.2.1
      have l4 := itoa_len5 hs.2.2.2
      unfold f11_b2
      rw [if_pos (by simp; omega)]
      simp only [ix_nat, hy, Option.bind_some]
      rw [catS_ok (by simp; omega), Option.bind_some, f30_eq hs.1, Option.bind_some, catS_ok (by simp; omega), Option.bind_some, catS_ok (by simp; omega), Option.bind_some, f30_eq hs.2.1, Option.bind_some, catS_ok (by simp; omega), Option.bind_some, catS_ok (by simp; omega), Option.bind_some,
        f30_eq hs.2.2.1, Option.bind_some, catS_ok (by simp; omega), Option.bind_some, catS_ok (by simp; omega), Option.bind_some, f30_eq hs.2.2.2, Option.bind_some, catS_ok (by simp; omega), Option.bind_some, catS_ok (by simp; omega), Option.bind_some, wrap_nat hk (by omega)]
      simp [ml, wd, kM]
    · unfold f11_b2; rw [if_neg (by simp)]
  unfold f11
  rw [f30_eq sp, Option.bind_some, catS_ok (by simp; omega), Option.bind_some, catS_ok (by simp; omega), Option.bind_some, f30_eq se, Option.bind_some, catS_ok (by simp; omega), Option.bind_some, catS_ok (by simp; omega), Option.bind_some, f30_eq sm, Option.bind_some, catS_ok (by simp; omega), Option.bind_some, catS_ok (by simp; omega), Option.bind_some]
  have eh : [108, 97, 110, 100, 32] ++ itoa (b.People.length : Int) ++ [32] ++ itoa (b.Events.length : Int) ++ [32] ++ itoa (b.Memories.length : Int) ++ [10] = headL b ++ [10] := by simp [headL, wd, kL]
  rw [eh, h1, Option.bind_some, h2, Option.bind_some, h3, Option.bind_some, catS_ok (by simp; omega), Option.bind_some, f32_eq _ (by omega), Option.bind_some, catS_ok (by have := chk_len (bodyT b); simp; omega), Option.bind_some, catS_ok (by have := chk_len (bodyT b); simp; omega)]
  simp [textT, endT]
theorem f12_refl (b : TLandBook) (h1 : b.People.length ≤ 10000) (h2 : b.Events.length ≤ 10000) (h3 : b.Memories.length ≤ 10000) : f12 b b = some true := by
  have e0 : lp (f12_b0 b b) 0 = some (.inl ()) := by
    refine lp_thru b.People (Sum.inl () : Unit ⊕ Bool) (fun k => (k : Int)) (fun k y hy => ?_) (by unfold f12_b0; rw [if_neg (by simp)])
    have hk := get_lt hy
    unfold f12_b0
    rw [if_pos (by simp; omega)]
    simp only [ix_nat, hy, Option.bind_some]
    rw [if_neg (by simp), wrap_nat hk (by omega)]
  have e1 : lp (f12_b1 b b) 0 = some (.inl ()) := by
    refine lp_thru b.Events (Sum.inl () : Unit ⊕ Bool) (fun k => (k : Int)) (fun k y hy => ?_) (by unfold f12_b1; rw [if_neg (by simp)])
    have hk := get_lt hy
    unfold f12_b1
    rw [if_pos (by simp; omega)]
    simp only [ix_nat, hy, Option.bind_some]
    rw [if_neg (by simp), wrap_nat hk (by omega)]
  have e2 : lp (f12_b2 b b) 0 = some (.inl ()) := by
    refine lp_thru b.Memories (Sum.inl () : Unit ⊕ Bool) (fun k => (k : Int)) (fun k y hy => ?_) (by unfold f12_b2; rw [if_neg (by simp)])
    have hk := get_lt hy
    unfold f12_b2
    rw [if_pos (by simp; omega)]
    simp only [ix_nat, hy, Option.bind_some]
    rw [if_neg (by simp), wrap_nat hk (by omega)]
  unfold f12
  rw [if_neg (by simp), if_neg (by simp)]
  simp only [e0, e1, e2, Option.bind_some, Sum.elim_inl]
  simp
end Go.Proofs.YtcaflmilfhhikaaGreatDoor
