/-
  Bane's seas: what is as defined, the program's way and the document's; the days' meaning.
-/
import Derived.Test.YtgplafckddpnkaaS4
namespace Go.Proofs.Ytgplafckddpnkaa
open Go.RowKit
set_option linter.unusedVariables false

def tripOk (s : TBaneSea) (t : TBaneTrip) : Bool := inR t.Day 0 400 && (inR t.From 0 (IntKind.i64.wrap (s.Islets - 1)) && (inR t.To 0 (IntKind.i64.wrap (s.Islets - 1)) && (!(t.From == t.To) && inR t.Cost 0 1000000)))
def restOk (s : TBaneSea) : Bool := inR s.Islets 1 8 && (incr s.Infested s.Islets && (incr s.Clean s.Islets && (decide ((s.Trips.length : Int) ≤ 9) && inR s.Wait 0 40)))
def seaOk (s : TBaneSea) : Bool := allI (fun _ t => tripOk s t) 0 s.Trips && restOk s
def seaShort (s : TBaneSea) : Prop := s.Infested.length ≤ 12 ∧ s.Clean.length ≤ 12 ∧ s.Trips.length ≤ 12
theorem f27_eq (s : TBaneSea) : ∃ b, f27 s = some b ∧ (b = true → seaShort s) := by
  unfold f27 seaShort
  by_cases h1 : (s.Infested.length : Int) ≤ 12
  · by_cases h2 : (s.Clean.length : Int) ≤ 12
    · by_cases h3 : (s.Trips.length : Int) ≤ 12
      · exact ⟨true, by simp only [h1, h2, h3, decide_true, if_true, Option.bind_some], fun _ => ⟨by omega, by omega, by omega⟩⟩
      · exact ⟨false, by simp only [h1, h2, h3, decide_true, decide_false, if_true, Option.bind_some], fun h => by cases h⟩
    · exact ⟨false, by simp only [h1, h2, decide_true, decide_false, if_true, Option.bind_some, Bool.false_eq_true, if_false], fun h => by cases h⟩
  · exact ⟨false, by simp only [h1, decide_false, Option.bind_some, Bool.false_eq_true, if_false], fun h => by cases h⟩
theorem f31_eq (s : TBaneSea) (x : Int) : f31 s x = some (inR x 0 (IntKind.i64.wrap (s.Islets - 1))) := by
  unfold f31
  rw [f69_eq]; rfl
theorem incr_of_range {l : List Int} {n : Int} (h1 : inR n 1 8 = true) (hl : l.length ≤ 12) : f86 l n = some (incr l n) ∧ f43 l n = some (incr l n) := by
  have := inR_iff.1 h1
  obtain ⟨m, rfl⟩ : ∃ m : Nat, n = (m : Int) := ⟨n.toNat, by omega⟩
  exact ⟨f86_eq l m (by omega) (by omega), f43_eq l m (by omega) (by omega)⟩
theorem f28_eq (s : TBaneSea) (hs : seaShort s) : f28 s = some (seaOk s) := by
  have h : lp (f28_b0 s) 0 = some (if allI (fun _ t => tripOk s t) 0 s.Trips = true then .inl () else .inr false) := by
    refine lp_all s.Trips _ (Sum.inr false) (Sum.inl ()) (fun k => (k : Int)) ?_ ?_
    · intro k t ht
      have hk := get_lt ht
      have h12 := hs.2.2
      unfold f28_b0
      rw [if_pos (by simpa using hk), ix_nat, ht, wrap_nat hk (by omega)]
      simp only [Option.bind_some, f69_eq, f31_eq]
      unfold tripOk
      cases inR t.Day 0 400 <;> cases inR t.From 0 (IntKind.i64.wrap (s.Islets - 1)) <;> cases inR t.To 0 (IntKind.i64.wrap (s.Islets - 1)) <;> cases (t.From == t.To) <;> cases inR t.Cost 0 1000000 <;> simp
    · unfold f28_b0
      simp
  unfold f28 seaOk restOk
  rw [h]
  cases allI (fun _ t => tripOk s t) 0 s.Trips with
  | false => rfl
  | true =>
    simp only [if_true, Option.bind_some, Sum.elim_inl, f69_eq, Bool.true_and]
    cases hi : inR s.Islets 1 8 with
    | false => rfl
    | true =>
      rw [(incr_of_range hi hs.1).2, (incr_of_range hi hs.2.1).2]
      cases incr s.Infested s.Islets <;> cases incr s.Clean s.Islets <;> cases decide ((s.Trips.length : Int) ≤ 9) <;> cases inR s.Wait 0 40 <;> simp
theorem f104_eq (s : TBaneSea) (t : TBaneTrip) : f104 t s = some (!tripOk s t) := by
  unfold f104 tripOk
  simp only [f66_eq, Option.bind_some]
  cases inR t.Day 0 400 <;> cases inR t.From 0 (IntKind.i64.wrap (s.Islets - 1)) <;> cases inR t.To 0 (IntKind.i64.wrap (s.Islets - 1)) <;> cases (t.From == t.To) <;> cases inR t.Cost 0 1000000 <;> simp
/-- 'slices.ContainsFunc' over trips. -/
theorem f103_eq (l : List TBaneTrip) (g : TBaneTrip → Option Bool) (p : TBaneTrip → Bool) (hg : ∀ t ∈ l, g t = some (p t)) (hl : l.length ≤ 1000) : f103 l g = some (!allI (fun _ t => !p t) 0 l) := by
  have h : lp (f112_b0 l g) 0 = goL (fun k y (_ : Unit) => some (if p y = true then .inr (.inr (k : Int)) else .inl ())) (fun _ => .inl ()) 0 l () := by
    refine lp_goL (fun k _ => (k : Int)) l _ _ ?_ ?_ ()
    · intro k t y hy
      have hk := get_lt hy
      unfold f112_b0
      rw [if_pos (by simpa using hk), ix_nat, hy, wrap_nat hk (by omega)]
      simp only [Option.bind_some, hg y (List.mem_of_getElem? hy)]
      cases p y <;> simp
    · intro t
      unfold f112_b0
      simp
  have h2 : ∀ (l : List TBaneTrip) (k : Nat), ∃ r : Unit ⊕ Int, goL (fun k y (_ : Unit) => some (if p y = true then .inr (.inr (k : Int)) else .inl ())) (fun _ => .inl ()) k l () = some r ∧ (match r with | .inl _ => allI (fun _ t => !p t) k l = true | .inr i => allI (fun _ t => !p t) k l = false ∧ 0 ≤ i) := by
    intro l
    induction l with
    | nil => intro k; exact ⟨_, rfl, rfl⟩
    | cons y l ih =>
      intro k
      cases h : p y with
      | true => exact ⟨.inr k, by simp only [goL, h, if_true], by simp only [allI, h, Bool.not_true, Bool.false_and]; exact ⟨trivial, by omega⟩⟩
      | false =>
        obtain ⟨r, h1, h2⟩ := ih (k + 1)
        refine ⟨r, by simp only [goL, h, Bool.false_eq_true, if_false]; exact h1, ?_⟩
        simp only [allI, h, Bool.not_false, Bool.true_and]
        exact h2
  obtain ⟨r, h3, h4⟩ := h2 l 0
  unfold f103 f112
  rw [h, h3]
  cases r with
  | inl _ => simp only at h4; rw [h4]; rfl
  | inr i => obtain ⟨h4, h5⟩ := h4; rw [h4]; simp [h5]
theorem f79_eq (s : TBaneSea) (hs : seaShort s) : f79 s = some (seaOk s) := by
  unfold f79 seaOk restOk
  rw [f103_eq s.Trips _ (fun t => !tripOk s t) (fun t _ => f104_eq s t) (by have := hs.2.2; omega)]
  simp only [f66_eq, Option.bind_some, Bool.not_not]
  cases hi : inR s.Islets 1 8 with
  | false => simp
  | true =>
    rw [(incr_of_range hi hs.1).1, (incr_of_range hi hs.2.1).1]
    cases allI (fun _ t => tripOk s t) 0 s.Trips <;> cases incr s.Infested s.Islets <;> cases incr s.Clean s.Islets <;> cases decide ((s.Trips.length : Int) ≤ 9) <;> cases inR s.Wait 0 40 <;> simp
/-- What a sea as defined holds. -/
structure Sea (s : TBaneSea) (I : Nat) : Prop where
  isl : s.Islets = (I : Int)
  pos : 1 ≤ I
  top : I ≤ 8
  inf : ∀ x ∈ s.Infested, 0 ≤ x ∧ x < (I : Int)
  cln : ∀ x ∈ s.Clean, 0 ≤ x ∧ x < (I : Int)
  num : s.Trips.length ≤ 9
  wait : 0 ≤ s.Wait ∧ s.Wait ≤ 40
  trip : ∀ t ∈ s.Trips, 0 ≤ t.Day ∧ t.Day ≤ 400 ∧ 0 ≤ t.From ∧ t.From < (I : Int) ∧ 0 ≤ t.To ∧ t.To < (I : Int) ∧ t.From ≠ t.To ∧ 0 ≤ t.Cost ∧ t.Cost ≤ 1000000
theorem sea_of {s : TBaneSea} (h : seaOk s = true) : ∃ I, Sea s I := by
  unfold seaOk restOk at h
  simp only [Bool.and_eq_true, decide_eq_true_eq] at h
  obtain ⟨h1, h2, h3, h4, h5, h6⟩ := h
  have h2' := inR_iff.1 h2
  have h6' := inR_iff.1 h6
  have e : IntKind.i64.wrap (s.Islets - 1) = s.Islets - 1 := by rw [wrap_id] <;> omega
  have hI : s.Islets = ((s.Islets.toNat : Nat) : Int) := by omega
  refine ⟨s.Islets.toNat, hI, by omega, by omega, ?_, ?_, by omega, h6', ?_⟩
  · intro x hx; have := (incr_iff.1 h3).1 x hx; omega
  · intro x hx; have := (incr_iff.1 h4).1 x hx; omega
  · intro t ht
    obtain ⟨i, hi⟩ := List.getElem?_of_mem ht
    have := (allI_iff _ _ _).1 h1 i t hi
    unfold tripOk at this
    simp only [Bool.and_eq_true, Bool.not_eq_true', beq_eq_false_iff_ne, e] at this
    obtain ⟨q1, q2, q3, q4, q5⟩ := this
    have q1 := inR_iff.1 q1
    have q2 := inR_iff.1 q2
    have q3 := inR_iff.1 q3
    have q5 := inR_iff.1 q5
    refine ⟨q1.1, q1.2, q2.1, by omega, q3.1, by omega, q4, q5.1, q5.2⟩
/-! ### What the days mean -/
inductive Gone (s : TBaneSea) (op : Nat → Bool) : Nat → Prop
  | base {i : Nat} {t : TBaneTrip} (ht : s.Trips[i]? = some t) (ho : op i = true) (hf : s.Infested.contains t.From = true) : Gone s op i
  | step {i j : Nat} {t u : TBaneTrip} (ht : s.Trips[i]? = some t) (ho : op i = true) (hj : Gone s op j) (hu : s.Trips[j]? = some u) (hx : u.To = t.From) (hd : u.Day + s.Wait ≤ t.Day) : Gone s op i
theorem Gone.trip {s : TBaneSea} {op : Nat → Bool} {i : Nat} (h : Gone s op i) : ∃ t, s.Trips[i]? = some t := by
  cases h with
  | base ht _ _ => exact ⟨_, ht⟩
  | step ht _ _ _ _ _ => exact ⟨_, ht⟩
def Arr (s : TBaneSea) (op : Nat → Bool) (x d : Int) : Prop := (s.Infested.contains x = true ∧ d = 0) ∨ ∃ i t, Gone s op i ∧ s.Trips[i]? = some t ∧ t.To = x ∧ t.Day = d
/-- v is the day of the first arrival, or, with none, what stands for never. -/
def Right (never : Int) (s : TBaneSea) (op : Nat → Bool) (x v : Int) : Prop := (Arr s op x v ∧ ∀ d, Arr s op x d → v ≤ d) ∨ (v = never ∧ ∀ d, ¬ Arr s op x d)
theorem Right.unique {never : Int} {s : TBaneSea} {op : Nat → Bool} {x v w : Int} (h1 : Right never s op x v) (h2 : Right never s op x w) : v = w := by
  rcases h1 with ⟨a1, a2⟩ | ⟨a1, a2⟩ <;> rcases h2 with ⟨b1, b2⟩ | ⟨b1, b2⟩
  · have := a2 _ b1; have := b2 _ a1; omega
  · exact (b2 _ a1).elim
  · exact (a2 _ b1).elim
  · omega
theorem Arr.day {s : TBaneSea} {I : Nat} (hs : Sea s I) {op : Nat → Bool} {x d : Int} (h : Arr s op x d) : 0 ≤ d ∧ d ≤ 400 := by
  rcases h with ⟨_, h⟩ | ⟨i, t, _, h1, _, h2⟩
  · omega
  · have := hs.trip t (List.mem_of_getElem? h1); omega
/-- The smallest. -/
theorem exists_min (f : Nat → Int) (Q : Nat → Prop) : ∀ n, (∃ i, i < n ∧ Q i) → ∃ i, i < n ∧ Q i ∧ ∀ j, j < n → Q j → f i ≤ f j
  | 0, ⟨i, h, _⟩ => by omega
  | n + 1, ⟨i, h, hq⟩ => by
    rcases Classical.em (∃ i, i < n ∧ Q i) with h1 | h1
    · obtain ⟨k, k1, k2, k3⟩ := exists_min f Q n h1
      rcases Classical.em (Q n ∧ f n < f k) with ⟨h2, h3⟩ | h2
      · refine ⟨n, by omega, h2, fun j hj hqj => ?_⟩
        by_cases e : j = n
        · subst e; exact Int.le_refl _
        · have := k3 j (by omega) hqj; omega
      · refine ⟨k, by omega, k2, fun j hj hqj => ?_⟩
        by_cases e : j = n
        · subst e
          rcases Int.lt_or_le (f j) (f k) with h4 | h4
          · exact absurd ⟨hqj, h4⟩ h2
          · exact h4
        · exact k3 j (by omega) hqj
    · have e : i = n := by
        rcases Nat.lt_or_ge i n with h2 | h2
        · exact absurd ⟨i, h2, hq⟩ h1
        · omega
      subst e
      refine ⟨i, by omega, hq, fun j hj hqj => ?_⟩
      by_cases e : j = i
      · subst e; exact Int.le_refl _
      · exact absurd ⟨j, by omega, hqj⟩ h1
/-- So many different small numbers. -/
theorem nodup_len : ∀ (n : Nat) (l : List Nat), l.Nodup → (∀ x ∈ l, x < n) → l.length ≤ n
  | 0, l, _, h => by
    cases l with
    | nil => simp
    | cons x l => exact absurd (h x (by simp)) (by omega)
  | n + 1, l, hn, h => by
    have h1 := nodup_len n (l.erase n) (hn.erase n) fun x hx => by
      have h2 := h x (List.mem_of_mem_erase hx)
      have h3 : x ≠ n := fun e => by subst e; exact (List.Nodup.not_mem_erase hn) hx
      omega
    by_cases hm : n ∈ l
    · rw [List.length_erase_of_mem hm] at h1; omega
    · rw [List.erase_of_not_mem hm] at h1; omega
end Go.Proofs.Ytgplafckddpnkaa
