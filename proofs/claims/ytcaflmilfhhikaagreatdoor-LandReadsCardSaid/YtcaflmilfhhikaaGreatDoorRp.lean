/-
  Plain: what the program reads a text as.
-/
import Derived.Test.YtcaflmilfhhikaaGreatDoorNb
namespace Go.Proofs.YtcaflmilfhhikaaGreatDoor
open Go.RowKit Go.Lib
set_option linter.unusedVariables false

theorem Rel.bindm {α β γ : Type} {m : Option (γ ⊕ Tex)} {o : Option α} {fin : α → γ} {k : γ → Option (β ⊕ Tex)} {h : α → Option β} (hm : Rel m (o.map fin)) (hk : ∀ a, o = some a → Rel (k (fin a)) (h a)) : Rel (m.bind fun y => Sum.elim k (fun v => some (.inr v)) y) (o.bind h) := by
  cases o with
  | some a => rw [show m = some (.inl (fin a)) from hm]; exact hk a rfl
  | none => obtain ⟨x, e⟩ := hm; rw [e]; exact ⟨x, rfl⟩
theorem RelB.bindm {α γ σ ρ : Type} {m : Option (γ ⊕ Tex)} {o : Option α} {fin : α → γ} {k : γ → Option (σ ⊕ (ρ ⊕ Tex))} {h : α → Option (σ ⊕ ρ)} (hm : Rel m (o.map fin)) (hk : ∀ a, o = some a → RelB (k (fin a)) (h a)) : RelB (m.bind fun y => Sum.elim k (fun v => some (.inr (.inr v))) y) (o.bind h) := by
  cases o with
  | some a => rw [show m = some (.inl (fin a)) from hm]; exact hk a rfl
  | none => obtain ⟨x, e⟩ := hm; rw [e]; exact ⟨x, rfl⟩
theorem itN_all {α : Type} {step : Nat → List α → Option (List α)} {Q : α → Prop} (hs : ∀ k t t', step k t = some t' → ∃ x, t' = t ++ [x] ∧ Q x) : ∀ (m k : Nat) (t t' : List α), itN step m k t = some t' → ∃ xs, t' = t ++ xs ∧ xs.length = m ∧ ∀ x ∈ xs, Q x
  | 0, k, t, t', h => ⟨[], by simpa [itN] using h.symm, rfl, by simp⟩
  | m + 1, k, t, t', h => by
    obtain ⟨u, h1, h2⟩ := Option.bind_eq_some_iff.1 h
    obtain ⟨x, rfl, hq⟩ := hs k t u h1
    obtain ⟨xs, rfl, hl, hx⟩ := itN_all hs m (k + 1) _ t' h2
    exact ⟨x :: xs, by simp, by simp [hl], fun y hy => (List.mem_cons.1 hy).elim (fun e => e ▸ hq) (hx y)⟩
theorem itN_list {α : Type} {step : Nat → List α → Option (List α)} : ∀ (xs : List α) (k : Nat) (t : List α), (∀ j x t, xs[j]? = some x → step (k + j) t = some (t ++ [x])) → itN step xs.length k t = some (t ++ xs)
  | [], k, t, _ => by simp [itN]
  | x :: xs, k, t, h => by
    simp only [List.length_cons, itN]
    have h0 := h 0 x t rfl
    rw [Nat.add_zero] at h0
    rw [h0, Option.bind_some, itN_list xs (k + 1) (t ++ [x]) fun j y u hj => by
      have := h (j + 1) y u (by simpa using hj)
      rwa [show k + 1 + j = k + (j + 1) by omega]]
    simp
theorem f59_one (c : UInt8) (l : Tex) (h : l.length ≤ 1000000) : f59 l [c] = some (splL c l) := by
  unfold f59
  simp only
  rw [if_pos (by omega), splL_eq]
theorem splL_hd (c : UInt8) (l : Tex) : ∃ w ws, splL c l = w :: ws := by
  cases h : splL c l with
  | nil => exact absurd h (splL_ne c l)
  | cons w ws => exact ⟨w, ws, rfl⟩
theorem subL_tail {α : Type} (x : α) (xs : List α) : subL (x :: xs) 1 (((x :: xs).length : Nat) : Int) = some xs := by
  unfold subL
  rw [if_pos ⟨by decide, by simp only [List.length_cons]; omega, Int.le_refl _⟩]
  simp
/-! ### The line of a person -/
def perL (l : Tex) : Option TLandPerson := match splL 32 l with
  | [w, a, b] => if w = kP then (pnum a).bind fun x => (pnum b).map fun y => ⟨x, y⟩ else none
  | _ => none
abbrev Mpz := List (Tex × Nat)
theorem b1_rel (a b : Tex) (ha : a.length ≤ 1000000) (hb : b.length ≤ 1000000) (r : TReader) (bx : TLandBook) (mp : Mpz) :
    Rel (lp (f29_b1 [a, b]) (0, Tb.zero 2, r, bx, mp)) (((pnum a).bind fun x => (pnum b).map fun y => tset (tset (Tb.zero 2) 0 x) 1 y).map fun t => (t, r, bx, mp)) := by
  have h := lp_rel (body := f29_b1 [a, b]) (fun k (t : Tb 2) => ((k : Int), t, r, bx, mp)) 2 (fun _ _ => True) (fun k t => (([a, b] : List Tex)[k]?).bind fun w => (pnum w).map fun x => tset t k x) (fun t => (t, r, bx, mp)) (fun k t hk _ => ?_) (fun _ _ _ _ _ _ => trivial) (fun t _ => ?_) 2 0 (Tb.zero 2) rfl trivial
  · refine Rel.of_eq h ?_
    simp [itN]
    cases pnum a <;> cases pnum b <;> rfl
  · unfold f29_b1
    rw [if_pos (by simp; omega)]
    simp only [ix_nat]
    obtain ⟨w, hw, hwl⟩ : ∃ w, ([a, b] : List Tex)[k]? = some w ∧ w.length ≤ 1000000 := by
      rcases (by omega : k = 0 ∨ k = 1) with rfl | rfl
      · exact ⟨a, rfl, ha⟩
      · exact ⟨b, rfl, hb⟩
    rw [hw]
    simp only [Option.bind_some]
    have hw1 : IntKind.i64.wrap ((k : Int) + 1) = ((k + 1 : Nat) : Int) := by rw [wrap_id] <;> omega
    have hin : Rel (if (w == ([45] : List UInt8)) = true then ((ckI (k : Int) 2).bind fun j112 => some (.inl (tset t (0 + j112 * 1) (-1)))) else ((f60 w).bind fun y115 => Sum.elim (fun v117 : Int => (ckI (k : Int) 2).bind fun j119 => (ckI (k : Int) 2).bind fun j122 => (f58 ((tget (tset t (0 + j119 * 1) v117) (0 + j122 * 1)) != (-1)) w).bind fun y124 => Sum.elim (fun v126 : Unit => some (.inl (tset t (0 + j119 * 1) v117))) (fun v127 : List UInt8 => some (.inr v127)) y124) (fun v118 : List UInt8 => some (.inr v118)) y115)) ((pnum w).map fun x => tset t k x) := by
      by_cases h45 : w = [45]
      · rw [if_pos (by simpa using h45), ckI_nat hk]
        unfold pnum
        rw [if_pos h45]
        simp
        rfl
      · rw [if_neg (by simpa using h45)]
        unfold pnum
        rw [if_neg h45]
        refine Rel.of_eq (Rel.bind (f60_rel w hwl) (h := fun n => if n = -1 then none else some (tset t k n)) fun n _ => ?_) ?_
        · rw [ckI_nat hk]
          simp only [Option.bind_some]
          have et : tget (tset t (0 + k * 1) n) (0 + k * 1) = n := by
            obtain ⟨l, hl⟩ := t
            simp [tget, tset, hl, hk]
          rw [et]
          have e0 : 0 + k * 1 = k := by omega
          rw [e0]
          by_cases hn : n = -1
          · subst hn; exact ⟨w, rfl⟩
          · rw [if_neg hn, show (n != -1) = true by simpa using hn]; exact rfl
        · cases num w with
          | none => rfl
          | some n =>
            simp only [Option.bind_some]
            split <;> rfl
    refine RelB.of_eq (RelB.bindm hin (h := fun x => some (.inl (((k + 1 : Nat) : Int), tset t k x, r, bx, mp))) fun x _ => ?_) ?_
    · show some _ = some _
      rw [hw1]
    · cases pnum w <;> rfl
  · unfold f29_b1
    rw [if_neg (by simp)]
theorem per_small {l : Tex} {p : TLandPerson} (h : perL l = some p) : small p.Mother ∧ small p.Adopted := by
  unfold perL at h
  split at h
  · split at h
    · obtain ⟨x, h1, h2⟩ := Option.bind_eq_some_iff.1 h
      obtain ⟨y, h3, rfl⟩ := Option.map_eq_some_iff.1 h2
      exact ⟨pnum_small h1, pnum_small h3⟩
    · cases h
  · cases h
def stP (lines : List Tex) (at_ : Nat) (k : Nat) (t : List TLandPerson) : Option (List TLandPerson) := (lines[at_ + k]?).bind fun l => (perL l).map fun p => t ++ [p]
theorem b0_rel (lines : List Tex) (hl : ∀ l ∈ lines, l.length ≤ 1000000) (n at_ : Nat) (hn : n ≤ 100000) (hat : at_ ≤ 1000000) (es : List TLandEvent) (ms : List TLandMemory) (bx : TLandBook) :
    Rel (lp (f29_b0 (n : Int) lines) ((at_ : Int), 0, ⟨⟨[], es, ms⟩⟩, bx)) ((itN (stP lines at_) n 0 []).map fun t => (((at_ + n : Nat) : Int), (⟨⟨t, es, ms⟩⟩ : TReader), bx)) := by
  refine lp_rel (body := f29_b0 (n : Int) lines) (fun k (t : List TLandPerson) => (((at_ + k : Nat) : Int), (k : Int), (⟨⟨t, es, ms⟩⟩ : TReader), bx)) n (fun k t => t.length = k) (stP lines at_) _ (fun k t hk hI => ?_) (fun k t t' hk hI hst => ?_) (fun t _ => ?_) n 0 [] (by omega) rfl
  · unfold f29_b0 stP
    rw [if_pos (by simp; omega)]
    cases hl0 : lines[at_ + k]? with
    | none =>
      have hge := List.getElem?_eq_none_iff.1 hl0
      have ed : decide ((((at_ + k : Nat) : Int)) < (lines.length : Int)) = false := by simp; omega
      simp only [ed]
      exact ⟨_, rfl⟩
    | some l =>
      have hlt := get_lt hl0
      have hll := hl l (List.mem_of_getElem? hl0)
      have ed : decide ((((at_ + k : Nat) : Int)) < (lines.length : Int)) = true := by simp; omega
      have e58 : ∀ x : Tex, f58 true x = some (.inl ()) := fun _ => rfl
      have e58f : ∀ x : Tex, f58 false x = some (.inr x) := fun _ => rfl
      simp only [ed, e58, Option.bind_some, Sum.elim_inl, ix_nat, hl0, f59_one 32 l hll]
      obtain ⟨w, ws, hs⟩ := splL_hd 32 l
      have hpl : ∀ x ∈ w :: ws, x.length ≤ 1000000 := fun x hx => Nat.le_trans (splL_piece 32 l x (by rw [hs]; exact hx)) hll
      have i0 : ix (w :: ws) 0 = some w := rfl
      unfold perL
      rw [hs]
      simp only [i0, Option.bind_some, subL_tail]
      by_cases hw : w = kP
      · have hw' : (w == ([112, 101, 114, 115, 111, 110] : List UInt8)) = true := by simpa [kP] using hw
        simp only [hw', e58, Option.bind_some, Sum.elim_inl]
        rcases ws with _ | ⟨a, _ | ⟨b, _ | ⟨c, r⟩⟩⟩
        · exact ⟨_, rfl⟩
        · exact ⟨_, rfl⟩
        · have e2 : (((([a, b] : List Tex).length : Nat) : Int) == 2) = true := rfl
          simp only [e2, e58, Option.bind_some, Sum.elim_inl]
          refine RelB.of_eq (RelB.bindm (b1_rel a b (hpl a (by simp)) (hpl b (by simp)) _ bx _) (h := fun tb => some (.inl (((at_ + (k + 1) : Nat) : Int), ((k + 1 : Nat) : Int), (⟨⟨t ++ [⟨tget tb 0, tget tb 1⟩], es, ms⟩⟩ : TReader), bx))) fun tb _ => ?_) ?_
          · have ea : ∀ p : TLandPerson, app t [p] = some (t ++ [p]) := fun p => by unfold app; rw [if_pos (by simp; omega)]
            simp only [ea, Option.bind_some]
            have h1 : IntKind.i64.wrap (((at_ + k : Nat) : Int) + 1) = ((at_ + (k + 1) : Nat) : Int) := by rw [wrap_id] <;> omega
            have h2 : IntKind.i64.wrap ((k : Int) + 1) = ((k + 1 : Nat) : Int) := by rw [wrap_id] <;> omega
            rw [h1, h2]
            exact rfl
          · rw [if_pos hw]
            cases pnum a with
            | none => rfl
            | some x =>
              cases pnum b with
              | none => rfl
              | some y => rfl
        · have e2 : ((((a :: b :: c :: r : List Tex).length : Nat) : Int) == 2) = false := by
            simp only [List.length_cons, beq_eq_false_iff_ne, ne_eq]; omega
          simp only [e2, e58f]
          exact ⟨_, rfl⟩
      · have hw' : (w == ([112, 101, 114, 115, 111, 110] : List UInt8)) = false := by simpa [kP] using hw
        simp only [hw', e58f]
        have : (match w :: ws with
          | [w, a, b] => if w = kP then (pnum a).bind fun x => (pnum b).map fun y => (⟨x, y⟩ : TLandPerson) else none
          | _ => none) = none := by
          split
          · rename_i heq
            injection heq with h1 h2
            subst h1
            rw [if_neg hw]
          · rfl
        rw [this]
        exact ⟨_, rfl⟩
  · unfold stP at hst
    obtain ⟨l, _, h2⟩ := Option.bind_eq_some_iff.1 hst
    obtain ⟨p, _, rfl⟩ := Option.map_eq_some_iff.1 h2
    simp [hI]
  · unfold f29_b0
    rw [if_neg (by simp)]
end Go.Proofs.YtcaflmilfhhikaaGreatDoor
