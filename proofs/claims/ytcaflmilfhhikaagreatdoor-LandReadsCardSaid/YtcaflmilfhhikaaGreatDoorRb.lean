/-
  Plain: the document's text of a book is the program's.
-/
import Derived.Test.YtcaflmilfhhikaaGreatDoorBz
namespace Go.Proofs.YtcaflmilfhhikaaGreatDoor
open Go.RowKit Go.Lib
set_option linter.unusedVariables false

theorem digit_str {i : Nat} (h : i < 10) : strN [IntKind.u8.wrap (IntKind.i64.wrap (48 + (i : Int)))] = [UInt8.ofNat (48 + i)] := by
  rw [wrap_id (by omega) (by omega), IntKind.wrap_u8]
  unfold strN
  simp only [List.map_cons, List.map_nil]
  congr 2
  omega
theorem tmod10 (u : Nat) : ((u : Int)).tmod 10 = ((u % 10 : Nat) : Int) := by rw [Int.tmod_eq_emod_of_nonneg (by omega)]; rfl
theorem tdiv10 (u : Nat) : ((u : Int)).tdiv 10 = ((u / 10 : Nat) : Int) := by rw [Int.tdiv_eq_ediv_of_nonneg (by omega)]; rfl
theorem f30_loop (u : Nat) : ∀ (t : Tex), t.length + u ≤ 1000000 → lp f30_b0 ((u : Int), [UInt8.ofNat (48 + u % 10)] ++ t) = some (decDigits u ++ t) := by
  induction u using Nat.strongRecOn with
  | _ u ih =>
    intro t ht
    rw [lp_eq]
    by_cases h : u < 10
    · have e : f30_b0 ((u : Int), [UInt8.ofNat (48 + u % 10)] ++ t) = some (.inr ([UInt8.ofNat (48 + u % 10)] ++ t)) := by
        unfold f30_b0
        rw [if_neg (by simp; omega)]
      rw [e, decDigits_one h, Nat.mod_eq_of_lt h]
    · have e : f30_b0 ((u : Int), [UInt8.ofNat (48 + u % 10)] ++ t) = some (.inl (((u / 10 : Nat) : Int), [UInt8.ofNat (48 + u / 10 % 10)] ++ ([UInt8.ofNat (48 + u % 10)] ++ t))) := by
        unfold f30_b0
        rw [if_pos (by simp; omega)]
        simp only [tdiv10]
        rw [wrap_id (x := ((u / 10 : Nat) : Int)) (by omega) (by omega), tmod10, digit_str (Nat.mod_lt _ (by decide)), catS_ok (by simp; omega)]
        rfl
      rw [e]
      show lp f30_b0 _ = _
      rw [ih (u / 10) (by omega) _ (by simp; omega)]
      conv => rhs; rw [decDigits, dif_neg h]
      simp
theorem f30_nat (m u : Nat) (hu : u ≤ 100000) : f30 (m + 1) (u : Int) = some (decDigits u) := by
  show f30_F (f30 m) (u : Int) = _
  unfold f30_F
  rw [if_neg (by simp), tmod10, digit_str (Nat.mod_lt _ (by decide))]
  have := f30_loop u [] (by simp; omega)
  rw [List.append_nil, List.append_nil] at this
  rw [this]
  rfl
theorem f32_eq (s : Tex) (hl : s.length ≤ 10000000) : f32 s = some (chk s) := by
  unfold f32
  have h1 : lp (f32_b0 s) (0, 0, 0) = some (sumS s : Int) := by
    refine lp_inv (fun k (t : Nat × Nat) => ((t.1 : Int), (t.2 : Int), (k : Int))) s (fun k t => t.1 ≤ 81 * k ∧ t.2 ≤ k) stepD (fun t => (t.1 : Int)) (fun k t y hy hI => ⟨?_, stepD_le y hI⟩) (fun t _ => ?_) (0, 0) (by simp)
    · have hk := get_lt hy
      have hw1 : IntKind.i64.wrap ((k : Int) + 1) = ((k + 1 : Nat) : Int) := by rw [wrap_id] <;> omega
      unfold f32_b0
      rw [if_pos (by simpa using hk)]
      simp only [ix_nat, hy, Option.bind_some, hw1]
      by_cases hc : isDg y = true
      · have hd := (isDg_iff y).1 hc
        obtain ⟨e1, e2⟩ := step_int hc hI (k := k) (by omega)
        have ec : (y.toNat : Int) - 48 = ((y.toNat - 48 : Nat) : Int) := by omega
        have ew : IntKind.i64.wrap (IntKind.u8.wrap ((y.toNat : Int) - 48)) = ((y.toNat - 48 : Nat) : Int) := by
          rw [IntKind.wrap_u8, ec, wrap_id] <;> omega
        rw [if_pos (by simp; omega), Option.bind_some, if_pos (by simp; omega), ew, Int.add_comm (((t.2 : Int)).tmod 9) 1, e1, e2]
        rfl
      · have e : stepD t y = t := by unfold stepD; rw [if_neg hc]
        rw [e]
        have hd : ¬ (48 ≤ y.toNat ∧ y.toNat ≤ 57) := fun h => hc ((isDg_iff y).2 h)
        by_cases h48 : 48 ≤ y.toNat
        · rw [if_pos (by simp; omega), Option.bind_some, if_neg (by simp; omega)]
          rfl
        · rw [if_neg (by simp; omega), Option.bind_some, if_neg (by simp)]
          rfl
    · unfold f32_b0
      rw [if_neg (by simp)]
  rw [h1, Option.bind_some]
  have hm : sumS s % 97 < 97 := Nat.mod_lt _ (by decide)
  have m1 : ((sumS s : Int)).tmod 97 = ((sumS s % 97 : Nat) : Int) := by rw [Int.tmod_eq_emod_of_nonneg (by omega)]; rfl
  rw [m1, tdiv10, tmod10, wrap_id (by omega) (by omega), f30_nat 39 _ (by omega), Option.bind_some, f30_nat 39 _ (by omega), Option.bind_some, decDigits_one (show sumS s % 97 / 10 < 10 by omega), decDigits_one (show sumS s % 97 % 10 < 10 by omega), catS_ok (by simp)]
  simp only [Option.bind_some, chk]
  rw [decDigits_one (show sumS s % 97 / 10 < 10 by omega), decDigits_one (show sumS s % 97 % 10 < 10 by omega)]
theorem f12_refl (b : TLandBook) (h1 : b.People.length ≤ 10000) (h2 : b.Events.length ≤ 10000) (h3 : b.Memories.length ≤ 10000) : f12 b b = some true := by
  have e0 : lp (f12_b0 b b) 0 = some (.inl ()) := by
    refine lp_thru b.People (Sum.inl () : Unit ⊕ Bool) (fun k => (k : Int)) (fun k y hy => ?_) (by unfold f12_b0; rw [if_neg (by simp)])
    have hk := get_lt hy
    unfold f12_b0
    rw [if_pos (by simp; omega)]
    simp only [ix_nat, hy, Option.bind_some]
    rw [if_neg (by simp), wrap_nat hk (by omega)]
  have e1 : lp (f12_b1 b b) 0 = some (.inl ()) := by
    refine lp_thru b.Events (Sum.inl () : Unit ⊕ Bool) (fun k => (k : Int)) (fun k y hy => ?_) (by unfold f12_b1; rw [if_neg (by simp)])
    have hk := get_lt hy
    unfold f12_b1
    rw [if_pos (by simp; omega)]
    simp only [ix_nat, hy, Option.bind_some]
    rw [if_neg (by simp), wrap_nat hk (by omega)]
  have e2 : lp (f12_b2 b b) 0 = some (.inl ()) := by
    refine lp_thru b.Memories (Sum.inl () : Unit ⊕ Bool) (fun k => (k : Int)) (fun k y hy => ?_) (by unfold f12_b2; rw [if_neg (by simp)])
    have hk := get_lt hy
    unfold f12_b2
    rw [if_pos (by simp; omega)]
    simp only [ix_nat, hy, Option.bind_some]
    rw [if_neg (by simp), wrap_nat hk (by omega)]
  unfold f12
  rw [if_neg (by simp), if_neg (by simp)]
  simp only [e0, e1, e2, Option.bind_some, Sum.elim_inl]
  simp
end Go.Proofs.YtcaflmilfhhikaaGreatDoor
