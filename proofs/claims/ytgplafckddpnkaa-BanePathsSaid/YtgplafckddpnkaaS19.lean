/-
  Paths: chains of trips, and the first of them in order.
-/
import Derived.Test.YtgplafckddpnkaaS14
namespace Go.Proofs.Ytgplafckddpnkaa
open Go.RowKit
set_option linter.unusedVariables false

/-! ### The first that is something -/
def fs {α : Type} (f : Nat → Option α) : Nat → Option α
  | 0 => none
  | k + 1 => match fs f k with
    | some v => some v
    | none => f k
theorem fs_none {α : Type} {f : Nat → Option α} : ∀ {n : Nat}, fs f n = none → ∀ i, i < n → f i = none
  | 0, _, i, h => by omega
  | n + 1, h, i, hi => by
    unfold fs at h
    cases hf : fs f n with
    | some v => rw [hf] at h; cases h
    | none =>
      rw [hf] at h
      by_cases e : i = n
      · subst e; exact h
      · exact fs_none hf i (by omega)
theorem fs_some {α : Type} {f : Nat → Option α} {v : α} : ∀ {n : Nat}, fs f n = some v → ∃ i, i < n ∧ f i = some v ∧ ∀ j, j < i → f j = none
  | 0, h => by cases h
  | n + 1, h => by
    unfold fs at h
    cases hf : fs f n with
    | some w =>
      rw [hf] at h
      simp only at h
      cases h
      obtain ⟨i, h1, h2, h3⟩ := fs_some hf
      exact ⟨i, by omega, h2, h3⟩
    | none =>
      rw [hf] at h
      exact ⟨n, by omega, h, fun j hj => fs_none hf j hj⟩
theorem fs_next {α : Type} {f : Nat → Option α} {k : Nat} (h : fs f k = none) : fs f (k + 1) = f k := by
  have : fs f (k + 1) = match fs f k with
    | some v => some v
    | none => f k := rfl
  rw [this, h]
theorem fs_mono {α : Type} {f : Nat → Option α} {v : α} {k : Nat} (h : fs f k = some v) : ∀ d, fs f (k + d) = some v
  | 0 => h
  | d + 1 => by
    have e : k + (d + 1) = (k + d) + 1 := by omega
    have : fs f ((k + d) + 1) = match fs f (k + d) with
      | some v => some v
      | none => f (k + d) := rfl
    rw [e, this, fs_mono h d]
/-- Going through open trips, with a way out. -/
theorem rg_out {σ ρ : Type} (bd : (Int × TBaneTrip) → σ → Option (σ ⊕ ρ)) (shut : Int) (trips : List TBaneTrip) (In : Nat → σ → Prop) (Out : Nat → ρ → Prop)
    (h1 : ∀ k t st, trips[k]? = some t → opS shut k = true → In k st → (∃ st', bd ((k : Int), t) st = some (.inl st') ∧ In (k + 1) st') ∨ ∃ q, bd ((k : Int), t) st = some (.inr q) ∧ Out k q)
    (h2 : ∀ k t st, trips[k]? = some t → opS shut k = false → In k st → In (k + 1) st) (s0 : σ) (h0 : In 0 s0) :
    (∃ st', rg bd (openL shut 0 trips) s0 = some (.inl st') ∧ In trips.length st') ∨ ∃ k q, k < trips.length ∧ rg bd (openL shut 0 trips) s0 = some (.inr q) ∧ Out k q := by
  have key : ∀ (l : List TBaneTrip) (k : Nat) (st : σ), trips.drop k = l → k ≤ trips.length → In k st → (∃ st', rg bd (openL shut k l) st = some (.inl st') ∧ In trips.length st') ∨ ∃ k' q, k' < trips.length ∧ rg bd (openL shut k l) st = some (.inr q) ∧ Out k' q := by
    intro l
    induction l with
    | nil =>
      intro k st hd hk hi
      have : k = trips.length := by have := List.drop_eq_nil_iff.1 hd; omega
      subst this
      exact .inl ⟨st, rfl, hi⟩
    | cons t l ih =>
      intro k st hd hk hi
      have hlt : k < trips.length := by
        rcases Nat.lt_or_ge k trips.length with h | h
        · exact h
        · rw [List.drop_eq_nil_of_le h] at hd; cases hd
      rw [List.drop_eq_getElem_cons hlt] at hd
      injection hd with hy hd
      have ht : trips[k]? = some t := by rw [List.getElem?_eq_getElem hlt, hy]
      unfold openL
      by_cases ho : opS shut k = true
      · have ho' : (andI .i64 (((shut).fdiv (2 ^ min k IntKind.i64.bits))) 1 == 0) = true := ho
        rw [if_pos ho']
        unfold rg
        rcases h1 k t st ht ho hi with ⟨st', g1, g2⟩ | ⟨q, g1, g2⟩
        · rw [g1]
          exact ih (k + 1) st' hd hlt g2
        · rw [g1]
          exact .inr ⟨k, q, hlt, rfl, g2⟩
      · have ho' : ¬ (andI .i64 (((shut).fdiv (2 ^ min k IntKind.i64.bits))) 1 == 0) = true := ho
        rw [if_neg ho']
        exact ih (k + 1) st hd hlt (h2 k t st ht (by simpa using ho) hi)
  exact key trips 0 s0 rfl (Nat.zero_le _) h0
/-! ### Chains -/
section
variable {s : TBaneSea} {I : Nat} {op : Nat → Bool}
def tTo (s : TBaneSea) (i : Nat) : Int := (s.Trips.map (·.To)).getD i 0
def tFrom (s : TBaneSea) (i : Nat) : Int := (s.Trips.map (·.From)).getD i 0
def dayT (s : TBaneSea) (i : Nat) : Int := (s.Trips.map (·.Day)).getD i 0
theorem tTo_of {i : Nat} {t : TBaneTrip} (h : s.Trips[i]? = some t) : tTo s i = t.To := by simp [tTo, h]
theorem tFrom_of {i : Nat} {t : TBaneTrip} (h : s.Trips[i]? = some t) : tFrom s i = t.From := by simp [tFrom, h]
theorem dayT_of {i : Nat} {t : TBaneTrip} (h : s.Trips[i]? = some t) : dayT s i = t.Day := by simp [dayT, h]
def lnk (s : TBaneSea) (i j : Nat) : Bool := decide (tFrom s j = tTo s i) && decide (dayT s i + s.Wait ≤ dayT s j)
def chF (s : TBaneSea) (op : Nat → Bool) : Nat → List Nat → Prop
  | _, [] => True
  | i, j :: l => j < s.Trips.length ∧ op j = true ∧ lnk s i j = true ∧ chF s op j l
def lastT : Nat → List Nat → Nat
  | i, [] => i
  | _, j :: l => lastT j l
def goal (s : TBaneSea) (x E : Int) (i : Nat) : Bool := decide (tTo s i = x) && decide (dayT s i = E)
def bestC (s : TBaneSea) (op : Nat → Bool) (x E : Int) : Nat → Nat → Option (List Nat)
  | 0, i => if goal s x E i then some [] else none
  | m + 1, i => fs (fun j => if (op j && lnk s i j) = true then (bestC s op x E m j).map (j :: ·) else none) s.Trips.length
theorem ints_cons (i : Nat) (l : List Nat) : ints (i :: l) = (i : Int) :: ints l := rfl
theorem bestC_some {x E : Int} : ∀ {m i : Nat} {r : List Nat}, bestC s op x E m i = some r → (chF s op i r ∧ r.length = m ∧ goal s x E (lastT i r) = true) ∧ ∀ r', chF s op i r' → r'.length = m → goal s x E (lastT i r') = true → r' ≠ r → lexlt (ints r) (ints r') = true
  | 0, i, r, h => by
    unfold bestC at h
    by_cases hg : goal s x E i = true
    · rw [if_pos hg] at h
      cases h
      refine ⟨⟨trivial, rfl, hg⟩, fun r' _ h1 _ h2 => ?_⟩
      exact absurd (List.eq_nil_of_length_eq_zero h1) h2
    · rw [if_neg hg] at h; cases h
  | m + 1, i, r, h => by
    unfold bestC at h
    obtain ⟨j, h1, h2, h3⟩ := fs_some h
    by_cases hc : (op j && lnk s i j) = true
    · rw [if_pos hc] at h2
      rw [Option.map_eq_some_iff] at h2
      obtain ⟨r2, h2, rfl⟩ := h2
      rw [Bool.and_eq_true] at hc
      obtain ⟨⟨g1, g2, g3⟩, g4⟩ := bestC_some h2
      refine ⟨⟨⟨h1, hc.1, hc.2, g1⟩, by simp [g2], g3⟩, fun r' q1 q2 q3 q4 => ?_⟩
      cases r' with
      | nil => simp at q2
      | cons k r3 =>
        obtain ⟨p1, p2, p3, p4⟩ := q1
        rw [ints_cons, ints_cons, lexlt_cons]
        rcases Nat.lt_trichotomy j k with e | e | e
        · exact .inl (by omega)
        · subst e
          exact .inr ⟨rfl, g4 r3 p4 (by simpa using q2) q3 (fun e => q4 (by rw [e]))⟩
        · have h4 := h3 k e
          have hc' : (op k && lnk s i k) = true := by rw [Bool.and_eq_true]; exact ⟨p2, p3⟩
          rw [if_pos hc', Option.map_eq_none_iff] at h4
          exact (bestC_none h4 r3 p4 (by simpa using q2) q3).elim
    · rw [if_neg hc] at h2; cases h2
where
  bestC_none {x E : Int} : ∀ {m i : Nat}, bestC s op x E m i = none → ∀ r', chF s op i r' → r'.length = m → goal s x E (lastT i r') = true → False
  | 0, i, h, r', _, h1, h2 => by
    unfold bestC at h
    have := List.eq_nil_of_length_eq_zero h1
    subst this
    have h2' : goal s x E i = true := h2
    rw [if_pos h2'] at h
    cases h
  | m + 1, i, h, r', h0, h1, h2 => by
    unfold bestC at h
    cases r' with
    | nil => simp at h1
    | cons k r3 =>
      obtain ⟨p1, p2, p3, p4⟩ := h0
      have h4 := fs_none h k p1
      have hc' : (op k && lnk s i k) = true := by rw [Bool.and_eq_true]; exact ⟨p2, p3⟩
      rw [if_pos hc', Option.map_eq_none_iff] at h4
      exact bestC_none h4 r3 p4 (by simpa using h1) h2
/-! ### The program's search -/
def Sound (s : TBaneSea) (op : Nat → Bool) (x E : Int) (M : List ((Int × Int) × Bool)) : Prop := ∀ i m : Nat, (lookM M ((i : Int), (m : Int))).getD false = true → bestC s op x E m i = none
theorem lookM_upd {M : List ((Int × Int) × Bool)} {a b : Int × Int} {v : Bool} : lookM (updM M a v) b = if b = a then some v else lookM M b := by
  induction M with
  | nil =>
    unfold updM lookM
    by_cases h : b = a
    · subst h; simp
    · have : (b == a) = false := by simpa using h
      simp [this, h, lookM]
  | cons y l ih =>
    obtain ⟨k', v'⟩ := y
    unfold updM
    by_cases h1 : a = k'
    · subst h1
      simp only [beq_self_eq_true, if_true]
      unfold lookM
      by_cases h : b = a
      · subst h; simp
      · have : (b == a) = false := by simpa using h
        simp [this, h]
    · have h1' : (a == k') = false := by simpa using h1
      rw [h1']
      simp only [Bool.false_eq_true, if_false]
      unfold lookM
      by_cases h2 : b = k'
      · subst h2
        have : ¬ b = a := fun e => h1 e.symm
        simp [this]
      · have h2' : (b == k') = false := by simpa using h2
        rw [h2']
        simp only [Bool.false_eq_true, if_false]
        exact ih
theorem subL_pop {p : List Int} {k : Int} : subL (p ++ [k]) 0 (((p ++ [k]).length : Int) - 1) = some p := by
  unfold subL
  rw [if_pos ⟨by omega, by simp, by omega⟩]
  simp
theorem f76_eq (hs : Sea s I) (shut x E : Int) : ∀ (m i : Nat) (M : List ((Int × Int) × Bool)) (p : List Int), i < s.Trips.length → m ≤ 100 → p.length + m ≤ 1000 → Sound s (opS shut) x E M →
    ∃ M', Sound s (opS shut) x E M' ∧ f76 s x E ⟨s, shut⟩ (m + 1) ⟨(i : Int), (m : Int)⟩ M p = some (match bestC s (opS shut) x E m i with | some r => (true, M', p ++ ints r) | none => (false, M', p))
  | m, i, M, p, hi, hm, hp, hM => by
    have ht : s.Trips[i]? = some (s.Trips[i]'hi) := List.getElem?_eq_getElem hi
    obtain ⟨t, htt⟩ : ∃ t, t = s.Trips[i]'hi := ⟨_, rfl⟩
    rw [← htt] at ht
    have hq := hs.trip t (List.mem_of_getElem? ht)
    have hw := hs.wait
    have hun : f76 s x E ⟨s, shut⟩ (m + 1) ⟨(i : Int), (m : Int)⟩ M p = f76_F s x E ⟨s, shut⟩ (f76 s x E ⟨s, shut⟩ m) ⟨(i : Int), (m : Int)⟩ M p := rfl
    rw [hun]
    unfold f76_F
    simp only [ix_nat, ht, Option.bind_some]
    cases m with
    | zero =>
      refine ⟨M, hM, ?_⟩
      have e0 : (((0 : Nat) : Int) == 0) = true := rfl
      simp only [e0, if_true]
      have eg : goal s x E i = (t.To == x && t.Day == E) := by
        unfold goal
        rw [tTo_of ht, dayT_of ht]
        rw [Bool.eq_iff_iff]; simp
      unfold bestC
      rw [eg]
      cases h1 : (t.To == x) with
      | false => simp
      | true =>
        cases h2 : (t.Day == E) with
        | false => simp
        | true => simp [ints]
    | succ m =>
      have e0 : (((m + 1 : Nat) : Int) == 0) = false := by rw [beq_eq_false_iff_ne]; omega
      simp only [e0, Bool.false_eq_true, if_false]
      by_cases hlk : (lookM M ((i : Int), ((m + 1 : Nat) : Int))).getD false = true
      · refine ⟨M, hM, ?_⟩
        rw [if_pos hlk, hM i (m + 1) hlk]
      · rw [if_neg hlk]
        have hwr : IntKind.i64.wrap (((m + 1 : Nat) : Int) - 1) = (m : Int) := by rw [wrap_id] <;> omega
        have hwt : IntKind.i64.wrap (t.Day + s.Wait) = t.Day + s.Wait := by rw [wrap_id] <;> omega
        obtain ⟨f, hf⟩ : ∃ f : Nat → Option (List Nat), f = fun j => if (opS shut j && lnk s i j) = true then (bestC s (opS shut) x E m j).map (j :: ·) else none := ⟨_, rfl⟩
        have hbc : bestC s (opS shut) x E (m + 1) i = fs f s.Trips.length := by rw [hf]; rfl
        have key := rg_out (f76_b0 (f76 s x E ⟨s, shut⟩ (m + 1)) ⟨(i : Int), ((m + 1 : Nat) : Int)⟩ s t) shut s.Trips
          (fun k st => st.1 = false ∧ st.2.1 = p ∧ Sound s (opS shut) x E st.2.2 ∧ fs f k = none)
          (fun k q => ∃ r, fs f (k + 1) = some r ∧ q.1 = true ∧ q.2.1 = p ++ ints r ∧ Sound s (opS shut) x E q.2.2) ?_ ?_ (false, p, M) ⟨rfl, rfl, hM, rfl⟩
        · rcases key with ⟨st', g1, g2, g3, g4, g5⟩ | ⟨k, q, gk, g1, r, g2, g3, g4, g5⟩
          · refine ⟨updM st'.2.2 ((i : Int), ((m + 1 : Nat) : Int)) true, ?_, ?_⟩
            · intro j l hj
              rw [lookM_upd] at hj
              by_cases e : ((j : Int), (l : Int)) = ((i : Int), ((m + 1 : Nat) : Int))
              · have e1 : j = i := by have := congrArg Prod.fst e; simp at this; omega
                have e2 : l = m + 1 := by have := congrArg Prod.snd e; simp at this; omega
                subst e1; subst e2
                rw [hbc, g5]
              · rw [if_neg e] at hj; exact g4 j l hj
            · rw [g1, hbc, g5]
              simp only [Option.bind_some, Sum.elim_inl, g3]
          · refine ⟨q.2.2, g5, ?_⟩
            have : fs f s.Trips.length = some r := by
              obtain ⟨d, hd⟩ : ∃ d, s.Trips.length = (k + 1) + d := ⟨s.Trips.length - (k + 1), by omega⟩
              rw [hd]; exact fs_mono g2 d
            rw [g1, hbc, this]
            simp only [Option.bind_some, Sum.elim_inr, g3, g4]
        · intro k u st hu ho ⟨i1, i2, i3, i4⟩
          have hk := get_lt hu
          obtain ⟨b0, p0, M0⟩ := st
          simp only at i1 i2 i3
          subst i1; subst i2
          have hlb : lnk s i k = (u.From == t.To && !decide (u.Day < t.Day + s.Wait)) := by
            unfold lnk
            rw [tFrom_of hu, tTo_of ht, dayT_of hu, dayT_of ht]
            rw [Bool.eq_iff_iff]
            simp
          unfold f76_b0
          simp only [hwt, hwr]
          by_cases h1 : u.From = t.To
          · by_cases h2 : u.Day < t.Day + s.Wait
            · left
              refine ⟨(false, p0, M0), ?_, rfl, rfl, i3, ?_⟩
              · simp [h1, h2]
              · rw [fs_next i4, hf]
                simp [hlb, h2]
            · have hl1 : lnk s i k = true := by rw [hlb]; simp [h1]; omega
              obtain ⟨M1, j1, j2⟩ := f76_eq hs shut x E m k M0 (p0 ++ [(k : Int)]) hk (by omega) (by simp; omega) i3
              have ea : app p0 [(k : Int)] = some (p0 ++ [(k : Int)]) := app_short _ _ (by simp; omega)
              have hbn : (u.From != t.To) = false := by simp [h1]
              simp only [hbn, Bool.false_eq_true, if_false, h2, decide_false, Option.bind_some, ea, j2]
              cases hbk : bestC s (opS shut) x E m k with
              | some r =>
                right
                refine ⟨(true, p0 ++ [(k : Int)] ++ ints r, M1), by simp, k :: r, ?_, rfl, ?_, j1⟩
                · rw [fs_next i4, hf]
                  simp [ho, hl1, hbk]
                · simp [ints]
              | none =>
                left
                refine ⟨(false, p0, M1), ?_, rfl, rfl, j1, ?_⟩
                · have hwl : IntKind.i64.wrap ((((p0 ++ [(k : Int)]).length : Nat) : Int) - 1) = (((p0 ++ [(k : Int)]).length : Nat) : Int) - 1 := by rw [wrap_id] <;> simp <;> omega
                  simp only [Bool.false_eq_true, if_false, hwl, subL_pop, Option.bind_some, Sum.elim_inl]
                · rw [fs_next i4, hf]
                  simp [hbk]
          · left
            refine ⟨(false, p0, M0), ?_, rfl, rfl, i3, ?_⟩
            · simp [h1]
            · rw [fs_next i4, hf]
              simp [hlb, h1]
        · intro k u st hu ho ⟨i1, i2, i3, i4⟩
          refine ⟨i1, i2, i3, ?_⟩
          rw [fs_next i4, hf]
          simp [ho]
end
end Go.Proofs.Ytgplafckddpnkaa
