/-
  The program's days: trips that are gone, one after the other.
-/
import Derived.Test.YtgplafckddpnkaaS12
namespace Go.Proofs.Ytgplafckddpnkaa
open Go.RowKit
set_option linter.unusedVariables false

def opS (shut : Int) (i : Nat) : Bool := andI .i64 (shut.fdiv (2 ^ min i IntKind.i64.bits)) 1 == 0
theorem opS_nat (m i : Nat) (hm : m < 2 ^ 62) : opS (m : Int) i = !m.testBit i := by
  have h := bitI_nat m i hm
  unfold bitI at h
  unfold opS
  have e : IntKind.i64.bits = 64 := rfl
  rw [e, ← h, fdiv_nat, andI_one]
  rw [Bool.eq_iff_iff]
  generalize m / 2 ^ min i 64 = q
  simp only [beq_iff_eq, Bool.not_eq_true', beq_eq_false_iff_ne]
  omega
theorem rg_open {σ ρ : Type} (bd : (Int × TBaneTrip) → σ → Option (σ ⊕ ρ)) (shut : Int) (trips : List TBaneTrip) (St : Nat → σ)
    (h1 : ∀ k t, trips[k]? = some t → opS shut k = true → bd ((k : Int), t) (St k) = some (.inl (St (k + 1))))
    (h2 : ∀ k t, trips[k]? = some t → opS shut k = false → St (k + 1) = St k) : rg bd (openL shut 0 trips) (St 0) = some (.inl (St trips.length)) := by
  have key : ∀ (l : List TBaneTrip) (k : Nat), trips.drop k = l → k ≤ trips.length → rg bd (openL shut k l) (St k) = some (.inl (St trips.length)) := by
    intro l
    induction l with
    | nil =>
      intro k hd hk
      have : k = trips.length := by have := List.drop_eq_nil_iff.1 hd; omega
      subst this
      rfl
    | cons t l ih =>
      intro k hd hk
      have hlt : k < trips.length := by
        rcases Nat.lt_or_ge k trips.length with h | h
        · exact h
        · rw [List.drop_eq_nil_of_le h] at hd; cases hd
      rw [List.drop_eq_getElem_cons hlt] at hd
      injection hd with hy hd
      have ht : trips[k]? = some t := by rw [List.getElem?_eq_getElem hlt, hy]
      have ih' := ih (k + 1) hd hlt
      unfold openL
      by_cases ho : opS shut k = true
      · have ho' : (andI .i64 (((shut).fdiv (2 ^ min k IntKind.i64.bits))) 1 == 0) = true := ho
        rw [if_pos ho']
        unfold rg
        rw [h1 k t ht ho]
        exact ih'
      · have ho' : ¬ (andI .i64 (((shut).fdiv (2 ^ min k IntKind.i64.bits))) 1 == 0) = true := ho
        rw [if_neg ho']
        rw [← h2 k t ht (by simpa using ho)]
        exact ih'
  exact key trips 0 rfl (Nat.zero_le _)
/-! ### Marks -/
def mk (n : Nat) (f : Nat → Bool) : List Bool := (List.range n).map f
theorem mk_len {n : Nat} {f : Nat → Bool} : (mk n f).length = n := by simp [mk]
theorem mk_get {n i : Nat} {f : Nat → Bool} (h : i < n) : (mk n f)[i]? = some (f i) := by simp [mk, h]
theorem mk_congr {n : Nat} {f g : Nat → Bool} (h : ∀ i, i < n → f i = g i) : mk n f = mk n g := by
  unfold mk
  exact List.map_congr_left fun i hi => h i (List.mem_range.1 hi)
theorem mk_set {n i : Nat} {f g : Nat → Bool} (h : i < n) (hg : ∀ j, j < n → g j = (f j || decide (j = i))) : (mk n f).set i true = mk n g := by
  apply List.ext_getElem?
  intro j
  rw [List.getElem?_set, mk_len]
  by_cases hj : j < n
  · rw [mk_get hj, mk_get hj, hg j hj]
    by_cases e : i = j
    · subst e; simp [hj]
    · have : ¬ j = i := fun h => e h.symm
      rw [if_neg e]; simp [this]
  · have e : (mk n g)[j]? = none := List.getElem?_eq_none (by rw [mk_len]; omega)
    have e2 : (mk n f)[j]? = none := List.getElem?_eq_none (by rw [mk_len]; omega)
    rw [e, e2]
    by_cases e : i = j
    · omega
    · rw [if_neg e]
def newN (f P : Nat → Bool) (k : Nat) : List Nat := (List.range k).filter fun i => !f i && P i
theorem newN_succ (f P : Nat → Bool) (k : Nat) : newN f P (k + 1) = newN f P k ++ if (!f k && P k) = true then [k] else [] := by
  unfold newN
  rw [List.range_succ, List.filter_append]
  congr 1
  cases h : (!f k && P k) <;> simp [h]
def unm (n : Nat) (f : Nat → Bool) : Nat := ((List.range n).filter fun i => !f i).length
theorem unm_new (f P : Nat → Bool) : ∀ n, unm n (fun i => f i || P i) + (newN f P n).length = unm n f
  | 0 => rfl
  | n + 1 => by
    have ih := unm_new f P n
    unfold unm at ih ⊢
    simp only [Bool.not_or] at ih ⊢
    rw [newN_succ, List.range_succ, List.filter_append, List.filter_append]
    simp only [List.length_append]
    cases hf : f n <;> cases hp : P n <;> simp [hf, hp] <;> omega
theorem newN_len (f P : Nat → Bool) (k : Nat) : (newN f P k).length ≤ k := by
  unfold newN
  exact Nat.le_trans (List.length_filter_le _ _) (by simp)
def ints (l : List Nat) : List Int := l.map fun i : Nat => (i : Int)
theorem setIx_at {α : Type} {xs : List α} {k : Nat} {y : α} (h : k < xs.length) : setIx xs (k : Int) y = some (xs.set k y) := by
  unfold setIx
  rw [if_pos ⟨by omega, by simpa using h⟩]
  rfl
theorem pop_eq {β : Type} (L : List Int) (A : Option β) (B : Int → List Int → Option β) :
    (if ((L.length : Int) == 0) = true then A else (ix L 0).bind fun h => (subL L 1 (L.length : Int)).bind fun t => B h t) = match L with | [] => A | h :: t => B h t := by
  cases L with
  | nil => rfl
  | cons h t =>
    have e : ((((h :: t).length : Nat) : Int) == 0) = false := by rw [beq_eq_false_iff_ne]; simp; omega
    rw [e]
    have e2 : ix (h :: t) 0 = some h := rfl
    have e3 : subL (h :: t) 1 (((h :: t).length : Nat) : Int) = some t := by
      unfold subL
      rw [if_pos ⟨by omega, by simp; omega, by omega⟩]
      simp
    rw [e2, e3]
    rfl
/-! ### The loops -/
section
variable {s : TBaneSea} {I : Nat} {shut : Int}
/-- Trips that can be gone to from c. -/
def nextP (s : TBaneSea) (shut : Int) (c : TBaneTrip) (i : Nat) : Bool := match s.Trips[i]? with
  | none => false
  | some t => opS shut i && (t.From == c.To && decide (c.Day + s.Wait ≤ t.Day))
def firstP (s : TBaneSea) (shut : Int) (i : Nat) : Bool := match s.Trips[i]? with
  | none => false
  | some t => opS shut i && s.Infested.contains t.From
theorem f75_b1_eq (hs : Sea s I) (hl : s.Infested.length ≤ 12) : rg (f75_b1 ⟨s, shut⟩) (openL shut 0 s.Trips) (mk s.Trips.length (fun _ => false), ⟨[]⟩) = some (.inl (mk s.Trips.length (firstP s shut), ⟨ints (newN (fun _ => false) (firstP s shut) s.Trips.length)⟩)) := by
  have hn := hs.num
  have h := rg_open (f75_b1 ⟨s, shut⟩) shut s.Trips (fun k => (mk s.Trips.length (fun i => decide (i < k) && firstP s shut i), (⟨ints (newN (fun _ => false) (firstP s shut) k)⟩ : TQueue_int_))) ?_ ?_
  · have e0 : mk s.Trips.length (fun i => decide (i < 0) && firstP s shut i) = mk s.Trips.length (fun _ => false) := mk_congr fun i _ => by simp
    have e1 : mk s.Trips.length (fun i => decide (i < s.Trips.length) && firstP s shut i) = mk s.Trips.length (firstP s shut) := mk_congr fun i hi => by simp [hi]
    simp only [e0, e1] at h
    exact h
  · intro k t ht ho
    have hk := get_lt ht
    have hnl := newN_len (fun _ => false) (firstP s shut) k
    unfold f75_b1
    have eP : firstP s shut k = s.Infested.contains t.From := by unfold firstP; rw [ht]; simp [ho]
    simp only [f74_eq s.Infested _ (by omega), Option.bind_some]
    rw [newN_succ, eP]
    cases hc : s.Infested.contains t.From with
    | true =>
      simp only [if_true, ix_nat, mk_get hk, Option.bind_some, setIx_at (show k < (mk s.Trips.length (fun i => decide (i < k) && firstP s shut i)).length by rw [mk_len]; exact hk)]
      rw [app_short _ _ (by simp [ints]; omega)]
      simp only [Option.bind_some]
      rw [mk_set (g := fun i => decide (i < k + 1) && firstP s shut i) hk fun j hj => by
        by_cases e : j = k
        · subst e; simp [eP]; exact List.contains_iff_mem.1 hc
        · have : (j < k + 1) ↔ j < k := by omega
          simp [e, this]]
      simp [ints]
    | false =>
      simp only [Bool.false_eq_true, if_false]
      rw [mk_congr (f := fun i => decide (i < k) && firstP s shut i) (g := fun i => decide (i < k + 1) && firstP s shut i) fun j hj => by
        by_cases e : j = k
        · subst e; simp [eP]; intro h; rw [List.contains_iff_mem.2 h] at hc; cases hc
        · have : (j < k + 1) ↔ j < k := by omega
          simp [this]]
      simp
  · intro k t ht ho
    have eP : firstP s shut k = false := by unfold firstP; rw [ht]; simp [ho]
    rw [newN_succ, eP]
    rw [mk_congr (f := fun i => decide (i < k) && firstP s shut i) (g := fun i => decide (i < k + 1) && firstP s shut i) fun j hj => by
      by_cases e : j = k
      · subst e; simp [eP]
      · have : (j < k + 1) ↔ j < k := by omega
        simp [this]]
    simp
theorem f75_b3_eq (hs : Sea s I) (c : TBaneTrip) (hc : c ∈ s.Trips) (f : Nat → Bool) (Q : List Int) (hQ : Q.length ≤ 1000) :
    rg (f75_b3 ⟨s, shut⟩ c) (openL shut 0 s.Trips) (mk s.Trips.length f, ⟨Q⟩) = some (.inl (mk s.Trips.length (fun i => f i || nextP s shut c i), ⟨Q ++ ints (newN f (nextP s shut c) s.Trips.length)⟩)) := by
  have hn := hs.num
  have hcq := hs.trip c hc
  have hw := hs.wait
  have hwr : IntKind.i64.wrap (c.Day + s.Wait) = c.Day + s.Wait := by rw [wrap_id] <;> omega
  have h := rg_open (f75_b3 ⟨s, shut⟩ c) shut s.Trips (fun k => (mk s.Trips.length (fun i => f i || (decide (i < k) && nextP s shut c i)), (⟨Q ++ ints (newN f (nextP s shut c) k)⟩ : TQueue_int_))) ?_ ?_
  · have e0 : mk s.Trips.length (fun i => f i || (decide (i < 0) && nextP s shut c i)) = mk s.Trips.length f := mk_congr fun i _ => by simp
    have e1 : mk s.Trips.length (fun i => f i || (decide (i < s.Trips.length) && nextP s shut c i)) = mk s.Trips.length (fun i => f i || nextP s shut c i) := mk_congr fun i hi => by simp [hi]
    have e2 : Q ++ ints (newN f (nextP s shut c) 0) = Q := by simp [newN, ints]
    simp only [e0, e1, e2] at h
    exact h
  · intro k t ht ho
    have hk := get_lt ht
    have hnl := newN_len f (nextP s shut c) k
    have eP : nextP s shut c k = (t.From == c.To && decide (c.Day + s.Wait ≤ t.Day)) := by unfold nextP; rw [ht]; simp [ho]
    have hin : (if (!(f k || (decide (k < k) && nextP s shut c k))) = true then (if (t.From == c.To) = true then (some (decide (c.Day + s.Wait ≤ t.Day))) else (some false)) else (some false) : Option Bool) = some (!f k && nextP s shut c k) := by
      rw [eP]
      cases f k <;> cases (t.From == c.To) <;> simp
    unfold f75_b3
    simp only [ix_nat, mk_get hk, Option.bind_some, hwr, hin]
    rw [newN_succ]
    cases hcc : (!f k && nextP s shut c k) with
    | true =>
      simp only [if_true, setIx_at (show k < (mk s.Trips.length (fun i => f i || (decide (i < k) && nextP s shut c i))).length by rw [mk_len]; exact hk), Option.bind_some]
      rw [app_short _ _ (by simp [ints]; omega)]
      simp only [Option.bind_some]
      rw [mk_set (g := fun i => f i || (decide (i < k + 1) && nextP s shut c i)) hk fun j hj => by
        by_cases e : j = k
        · subst e
          simp only [Bool.and_eq_true] at hcc
          simp [hcc.2]
        · have : (j < k + 1) ↔ j < k := by omega
          simp [e, this]]
      simp [ints]
    | false =>
      simp only [Bool.false_eq_true, if_false]
      rw [mk_congr (f := fun i => f i || (decide (i < k) && nextP s shut c i)) (g := fun i => f i || (decide (i < k + 1) && nextP s shut c i)) fun j hj => by
        by_cases e : j = k
        · subst e
          cases hf : f j
          · rw [hf] at hcc
            simp only [Bool.not_false, Bool.true_and] at hcc
            simp [hcc]
          · simp
        · have : (j < k + 1) ↔ j < k := by omega
          simp [this]]
      simp
  · intro k t ht ho
    have eP : nextP s shut c k = false := by unfold nextP; rw [ht]; simp [ho]
    rw [newN_succ, eP]
    rw [mk_congr (f := fun i => f i || (decide (i < k) && nextP s shut c i)) (g := fun i => f i || (decide (i < k + 1) && nextP s shut c i)) fun j hj => by
      by_cases e : j = k
      · subst e; simp [eP]
      · have : (j < k + 1) ↔ j < k := by omega
        simp [this]]
    simp
/-- What holds before each trip. -/
structure Inv (s : TBaneSea) (I : Nat) (shut : Int) (out : List Int) (f : Nat → Bool) (pend : List Nat) : Prop where
  len : out.length = I
  pnd : ∀ i ∈ pend, f i = true
  gone : ∀ i, f i = true → i < s.Trips.length ∧ Gone s (opS shut) i
  first : ∀ i, firstP s shut i = true → f i = true
  done : ∀ i t, f i = true → s.Trips[i]? = some t → i ∈ pend ∨ ((∀ k, nextP s shut t k = true → f k = true) ∧ 0 ≤ out.getD t.To.toNat 0 ∧ out.getD t.To.toNat 0 ≤ t.Day)
  val : ∀ x, x < I → out.getD x 0 = -1 ∨ ∃ i t, Gone s (opS shut) i ∧ s.Trips[i]? = some t ∧ t.To = (x : Int) ∧ t.Day = out.getD x 0
  size : pend.length + unm s.Trips.length f ≤ s.Trips.length
def enc (s : TBaneSea) (out : List Int) (f : Nat → Bool) : List Nat → List Int × Int × Bool × List Bool × TQueue_int_
  | [] => (out, 0, false, mk s.Trips.length f, ⟨[]⟩)
  | c :: q => (out, (c : Int), true, mk s.Trips.length f, ⟨ints q⟩)
def better (out : List Int) (c : TBaneTrip) : List Int := if (decide (out.getD c.To.toNat 0 < 0) || decide (c.Day < out.getD c.To.toNat 0)) = true then out.set c.To.toNat c.Day else out
theorem b2_step (hs : Sea s I) {out : List Int} {f : Nat → Bool} {c : Nat} {q : List Nat} (hi : Inv s I shut out f (c :: q)) {t : TBaneTrip} (ht : s.Trips[c]? = some t) :
    f75_b2 ⟨s, shut⟩ (enc s out f (c :: q)) = some (.inl (enc s (better out t) (fun i => f i || nextP s shut t i) (q ++ newN f (nextP s shut t) s.Trips.length))) := by
  have hq := hs.trip t (List.mem_of_getElem? ht)
  have hn := hs.num
  have hol := hi.len
  have hsz := hi.size
  have hql : q.length ≤ 1000 := by have : q.length + 1 + unm s.Trips.length f ≤ s.Trips.length := hsz
                                   omega
  have hT : out[t.To.toNat]? = some (out.getD t.To.toNat 0) := getD_get 0 (by omega)
  have hset : setIx out t.To t.Day = some (out.set t.To.toNat t.Day) := by
    unfold setIx
    rw [if_pos ⟨by omega, by omega⟩]
  have hb : ((((ix out t.To).bind fun y97 => if (decide (y97 < 0)) = true then (some true) else (some (decide (t.Day < y97))) : Option Bool)).bind fun q96 => if q96 = true then ((ix out t.To).bind fun y104 => (setIx out t.To t.Day).bind fun y106 => some y106) else (some out) : Option (List Int)) = some (better out t) := by
    rw [ix_int hq.2.2.2.2.1, hT, hset]
    unfold better
    simp only [Option.bind_some]
    by_cases h1 : out.getD t.To.toNat 0 < 0
    · simp only [h1, decide_true, if_true, Option.bind_some, Bool.true_or]
    · simp only [h1, decide_false, Bool.false_eq_true, if_false, Option.bind_some, Bool.false_or]
      split <;> rfl
  unfold f75_b2
  have e1 : (enc s out f (c :: q)).2.2.1 = true := rfl
  have e2 : ix s.Trips (enc s out f (c :: q)).2.1 = some t := by
    have : (enc s out f (c :: q)).2.1 = (c : Int) := rfl
    rw [this, ix_nat, ht]
  have e3 : (enc s out f (c :: q)).1 = out := rfl
  have e4 : (enc s out f (c :: q)).2.2.2.1 = mk s.Trips.length f := rfl
  have e5 : (enc s out f (c :: q)).2.2.2.2 = ⟨ints q⟩ := rfl
  rw [if_pos e1, e2, e3, e4, e5]
  simp only [Option.bind_some]
  rw [hb, f75_b3_eq hs t (List.mem_of_getElem? ht) f (ints q) (by simpa [ints] using hql)]
  simp only [Option.bind_some, Sum.elim_inl]
  have e6 : ints q ++ ints (newN f (nextP s shut t) s.Trips.length) = ints (q ++ newN f (nextP s shut t) s.Trips.length) := by simp [ints]
  rw [e6, pop_eq]
  cases q ++ newN f (nextP s shut t) s.Trips.length with
  | nil => rfl
  | cons a b => rfl
theorem better_get {out : List Int} {c : TBaneTrip} (hc : c.To.toNat < out.length) (x : Nat) : (better out c).getD x 0 = if x = c.To.toNat ∧ (out.getD x 0 < 0 ∨ c.Day < out.getD x 0) then c.Day else out.getD x 0 := by
  unfold better
  by_cases h : (decide (out.getD c.To.toNat 0 < 0) || decide (c.Day < out.getD c.To.toNat 0)) = true
  · rw [if_pos h, getD_set hc]
    rw [Bool.or_eq_true, decide_eq_true_eq, decide_eq_true_eq] at h
    by_cases e : x = c.To.toNat
    · subst e; rw [if_pos rfl, if_pos ⟨rfl, h⟩]
    · rw [if_neg e, if_neg fun h' => e h'.1]
  · rw [if_neg h]
    rw [Bool.or_eq_true, decide_eq_true_eq, decide_eq_true_eq] at h
    rw [if_neg]
    rintro ⟨rfl, h'⟩
    exact h h'
theorem inv_step (hs : Sea s I) {out : List Int} {f : Nat → Bool} {c : Nat} {q : List Nat} (hi : Inv s I shut out f (c :: q)) {t : TBaneTrip} (ht : s.Trips[c]? = some t) :
    Inv s I shut (better out t) (fun i => f i || nextP s shut t i) (q ++ newN f (nextP s shut t) s.Trips.length) := by
  have hq := hs.trip t (List.mem_of_getElem? ht)
  have hol := hi.len
  have hfc := hi.pnd c (by simp)
  have hgc := (hi.gone c hfc).2
  have hbg := fun x => better_get (out := out) (c := t) (by omega) x
  have hnext : ∀ i, nextP s shut t i = true → i < s.Trips.length ∧ Gone s (opS shut) i := by
    intro i hP
    unfold nextP at hP
    cases hu : s.Trips[i]? with
    | none => rw [hu] at hP; cases hP
    | some u =>
      rw [hu] at hP
      simp only [Bool.and_eq_true, beq_iff_eq, decide_eq_true_eq] at hP
      exact ⟨get_lt hu, .step hu hP.1 hgc ht hP.2.1.symm hP.2.2⟩
  refine ⟨?_, ?_, ?_, ?_, ?_, ?_, ?_⟩
  · unfold better; split
    · rw [List.length_set]; exact hol
    · exact hol
  · intro i hi'
    rcases List.mem_append.1 hi' with h | h
    · rw [hi.pnd i (by simp [h])]; rfl
    · unfold newN at h
      simp only [List.mem_filter, Bool.and_eq_true] at h
      rw [h.2.2]; simp
  · intro i h
    rcases Bool.or_eq_true _ _ ▸ h with h | h
    · exact hi.gone i h
    · exact hnext i h
  · intro i h
    simp only [hi.first i h, Bool.true_or]
  · intro i u hf hu
    have hdone : ∀ (hfi : f i = true), i ∈ q ++ newN f (nextP s shut t) s.Trips.length ∨ ((∀ k, nextP s shut u k = true → (f k || nextP s shut t k) = true) ∧ 0 ≤ (better out t).getD u.To.toNat 0 ∧ (better out t).getD u.To.toNat 0 ≤ u.Day) := by
      intro hfi
      rcases hi.done i u hfi hu with h | ⟨h1, h2, h3⟩
      · rcases List.mem_cons.1 h with rfl | h
        · rw [ht] at hu
          cases hu
          refine .inr ⟨fun k hk => by rw [hk]; simp, ?_⟩
          rw [hbg]
          split
          · omega
          · rename_i hne
            constructor
            · rcases Int.lt_or_le (out.getD t.To.toNat 0) 0 with h | h
              · exact absurd ⟨rfl, .inl h⟩ hne
              · exact h
            · rcases Int.lt_or_le t.Day (out.getD t.To.toNat 0) with h | h
              · exact absurd ⟨rfl, .inr h⟩ hne
              · exact h
        · exact .inl (by simp [h])
      · refine .inr ⟨fun k hk => by rw [h1 k hk]; rfl, ?_⟩
        rw [hbg]
        split
        · rename_i hh
          omega
        · exact ⟨h2, h3⟩
    rcases Bool.or_eq_true _ _ ▸ hf with h | h
    · exact hdone h
    · cases hfi : f i with
      | true => exact hdone hfi
      | false =>
        left
        have : i ∈ newN f (nextP s shut t) s.Trips.length := by
          unfold newN
          simp only [List.mem_filter, List.mem_range]
          exact ⟨get_lt hu, by simp [hfi, h]⟩
        simp [this]
  · intro x hx
    rw [hbg]
    split
    · rename_i h
      exact .inr ⟨c, t, hgc, ht, by omega, rfl⟩
    · exact hi.val x hx
  · have h1 := hi.size
    have h2 := unm_new f (nextP s shut t) s.Trips.length
    simp only [List.length_cons, List.length_append] at h1 ⊢
    omega
theorem b2_run (hs : Sea s I) : ∀ (m : Nat) (out : List Int) (f : Nat → Bool) (pend : List Nat), Inv s I shut out f pend → pend.length + unm s.Trips.length f ≤ m →
    ∃ out' f', lp (f75_b2 ⟨s, shut⟩) (enc s out f pend) = some (out', mk s.Trips.length f', ⟨[]⟩) ∧ Inv s I shut out' f' []
  | m, out, f, [], hi, _ => by
    refine ⟨out, f, ?_, hi⟩
    rw [lp_eq]
    unfold f75_b2
    have e1 : (enc s out f []).2.2.1 = false := rfl
    rw [e1]
    rfl
  | 0, out, f, c :: q, hi, hm => by simp at hm
  | m + 1, out, f, c :: q, hi, hm => by
    have hg := hi.gone c (hi.pnd c (by simp))
    obtain ⟨t, ht⟩ := hg.2.trip
    have h2 := unm_new f (nextP s shut t) s.Trips.length
    obtain ⟨out', f', h3, h4⟩ := b2_run hs m _ _ _ (inv_step hs hi ht) (by simp only [List.length_cons, List.length_append] at hm ⊢; omega)
    refine ⟨out', f', ?_, h4⟩
    rw [lp_eq, b2_step hs hi ht]
    exact h3
theorem inv_all (hs : Sea s I) {out : List Int} {f : Nat → Bool} (hi : Inv s I shut out f []) {i : Nat} (h : Gone s (opS shut) i) : f i = true := by
  induction h with
  | @base i t ht ho hf =>
    refine hi.first i ?_
    unfold firstP
    rw [ht]
    simp only [ho, hf, Bool.and_self]
  | @step i j t u ht ho hj hu hx hd ih =>
    rcases hi.done j u ih hu with h | ⟨h, _⟩
    · cases h
    · refine h i ?_
      unfold nextP
      rw [ht]
      have e : (t.From == u.To) = true := by rw [beq_iff_eq]; exact hx.symm
      simp only [ho, e, hd, decide_true, Bool.and_self]
def zeroAt (s : TBaneSea) (out : List Int) (k : Nat) : List Int := out.mapIdx fun i v => if (s.Infested.take k).contains (i : Int) then 0 else v
theorem zero_get {out : List Int} {k x : Nat} (hx : x < out.length) : (zeroAt s out k).getD x 0 = if (s.Infested.take k).contains (x : Int) = true then 0 else out.getD x 0 := by
  unfold zeroAt
  rw [List.getD_eq_getElem?_getD, List.getElem?_mapIdx, List.getD_eq_getElem?_getD, List.getElem?_eq_getElem hx]
  rfl
/-- 'days'. -/
theorem f75_eq (hs : Sea s I) (hsh : seaShort s) : ∃ R, f75 ⟨s, shut⟩ = some R ∧ R.length = I ∧ ∀ x, x < I → Right (-1) s (opS shut) (x : Int) (R.getD x 0) := by
  have hI := hs.isl
  have htop := hs.top
  have hn := hs.num
  have hil := hsh.1
  have e0 : mkS s.Islets (0 : Int) = some (List.replicate I 0) := by
    unfold mkS
    rw [if_pos ⟨by omega, by omega⟩]
    congr 2
    omega
  have e1 : lp (f75_b0 (List.replicate I 0)) (List.replicate I 0, 0) = some (List.replicate I (-1)) := by
    refine lp_thru (List.range I) _ (fun k => (List.replicate k (-1) ++ List.replicate (I - k) 0, (k : Int))) ?_ ?_
    · intro k y hy
      have hk : k < I := by have := get_lt hy; simpa using this
      unfold f75_b0
      have c : (k : Int) < ((List.replicate I (0 : Int)).length : Int) := by simp; omega
      have hll : (List.replicate k (-1 : Int) ++ List.replicate (I - k) 0).length = I := by simp; omega
      simp only [c, decide_true, if_true, ix_nat, getD_get (0 : Int) (show k < (List.replicate k (-1 : Int) ++ List.replicate (I - k) 0).length by omega), Option.bind_some, setIx_at (show k < (List.replicate k (-1 : Int) ++ List.replicate (I - k) 0).length by omega), wrap_nat hk (by omega)]
      congr 3
      apply List.ext_getElem?
      intro j
      rw [List.getElem?_set]
      by_cases e : k = j
      · subst e
        rw [if_pos rfl, if_pos (by omega), List.getElem?_append_left (by simp), List.getElem?_replicate, if_pos (by omega)]
      · rw [if_neg e]
        by_cases h1 : j < k
        · rw [List.getElem?_append_left (by simp; omega), List.getElem?_append_left (by simp; omega), List.getElem?_replicate, List.getElem?_replicate, if_pos h1, if_pos (by omega)]
        · rw [List.getElem?_append_right (by simp; omega), List.getElem?_append_right (by simp; omega), List.getElem?_replicate, List.getElem?_replicate]
          simp only [List.length_replicate]
          by_cases h2 : j < I
          · rw [if_pos (by omega), if_pos (by omega)]
          · rw [if_neg (by omega), if_neg (by omega)]
    · unfold f75_b0
      simp
  have e2 : mkS (s.Trips.length : Int) false = some (mk s.Trips.length fun _ => false) := by
    unfold mkS
    rw [if_pos ⟨by omega, by omega⟩]
    congr 1
    apply List.ext_getElem?
    intro j
    by_cases hj : j < s.Trips.length
    · rw [mk_get hj, List.getElem?_replicate, if_pos (by omega)]
    · rw [List.getElem?_replicate, if_neg (by omega), List.getElem?_eq_none (by rw [mk_len]; omega)]
  have hinv : Inv s I shut (List.replicate I (-1)) (firstP s shut) (newN (fun _ => false) (firstP s shut) s.Trips.length) := by
    have hfp : ∀ i, firstP s shut i = true → i < s.Trips.length ∧ Gone s (opS shut) i := by
      intro i h
      unfold firstP at h
      cases hu : s.Trips[i]? with
      | none => rw [hu] at h; cases h
      | some u =>
        rw [hu] at h
        simp only [Bool.and_eq_true] at h
        exact ⟨get_lt hu, .base hu h.1 h.2⟩
    refine ⟨by simp, ?_, hfp, fun i h => h, ?_, ?_, ?_⟩
    · intro i hi
      unfold newN at hi
      simp only [List.mem_filter, Bool.and_eq_true] at hi
      exact hi.2.2
    · intro i t hf ht
      left
      unfold newN
      simp only [List.mem_filter, List.mem_range]
      exact ⟨get_lt ht, by simp [hf]⟩
    · intro x hx
      left
      rw [List.getD_eq_getElem?_getD, List.getElem?_replicate, if_pos hx]; rfl
    · have h := unm_new (fun _ => false) (firstP s shut) s.Trips.length
      have h' : unm s.Trips.length (fun i => false || firstP s shut i) = unm s.Trips.length (firstP s shut) := by simp
      have h'' : unm s.Trips.length (fun _ => false) = s.Trips.length := by
        have : (List.range s.Trips.length).filter (fun i => !(fun _ : Nat => false) i) = List.range s.Trips.length := List.filter_eq_self.2 (fun _ _ => rfl)
        unfold unm
        rw [this, List.length_range]
      omega
  obtain ⟨out, f, h3, h4⟩ := b2_run hs _ _ _ _ hinv (Nat.le_refl _)
  have hol := h4.len
  have e4 : lp (f75_b4 ⟨s, shut⟩) (out, 0, mk s.Trips.length f, ⟨[]⟩) = some (zeroAt s out s.Infested.length, mk s.Trips.length f, ⟨[]⟩) := by
    have ez : (out, (0 : Int), mk s.Trips.length f, (⟨[]⟩ : TQueue_int_)) = (fun k : Nat => (zeroAt s out k, (k : Int), mk s.Trips.length f, (⟨[]⟩ : TQueue_int_))) 0 := by
      have : zeroAt s out 0 = out := by
        apply List.ext_getElem?
        intro j
        unfold zeroAt
        rw [List.getElem?_mapIdx]
        cases out[j]? <;> simp
      simp only [this]; rfl
    rw [ez]
    refine lp_thru s.Infested _ (fun k => (zeroAt s out k, (k : Int), mk s.Trips.length f, (⟨[]⟩ : TQueue_int_))) ?_ ?_
    · intro k x hx
      have hk := get_lt hx
      have hxr := hs.inf x (List.mem_of_getElem? hx)
      have hzl : (zeroAt s out k).length = I := by simp [zeroAt, hol]
      unfold f75_b4
      have c : (k : Int) < (s.Infested.length : Int) := by omega
      have hset : setIx (zeroAt s out k) x 0 = some ((zeroAt s out k).set x.toNat 0) := by
        unfold setIx
        rw [if_pos ⟨by omega, by omega⟩]
      simp only [c, decide_true, if_true, ix_nat, hx, Option.bind_some, ix_int hxr.1, getD_get 0 (show x.toNat < (zeroAt s out k).length by omega), hset, wrap_nat hk (by omega)]
      congr 3
      apply List.ext_getElem?
      intro j
      rw [List.getElem?_set, hzl]
      by_cases hj : j < I
      · have g1 : (zeroAt s out k)[j]? = some ((zeroAt s out k).getD j 0) := getD_get 0 (by omega)
        have g2 : (zeroAt s out (k + 1))[j]? = some ((zeroAt s out (k + 1)).getD j 0) := getD_get 0 (by simp [zeroAt]; omega)
        rw [g1, g2, zero_get (by omega), zero_get (by omega), take_snoc hx]
        by_cases e : x.toNat = j
        · subst e
          have : ((x.toNat : Nat) : Int) = x := by omega
          rw [if_pos rfl, if_pos hj, this, if_pos (by simp)]
        · rw [if_neg e]
          congr 1
          have : ¬ (j : Int) = x := by omega
          simp [this]
      · rw [List.getElem?_eq_none (show (zeroAt s out k).length ≤ j by omega), List.getElem?_eq_none (show (zeroAt s out (k + 1)).length ≤ j by simp [zeroAt]; omega)]
        by_cases e : x.toNat = j
        · omega
        · rw [if_neg e]
    · unfold f75_b4
      simp
  refine ⟨zeroAt s out s.Infested.length, ?_, by simp [zeroAt, hol], fun x hx => ?_⟩
  · unfold f75
    simp only [e0, e1, e2, f75_b1_eq hs hil, Option.bind_some, Sum.elim_inl]
    rw [pop_eq]
    have henc : ∀ P : List Nat, (match ints P with | [] => some (0, false, ⟨ints P⟩) | h :: t => some (h, true, (⟨t⟩ : TQueue_int_)) : Option (Int × Bool × TQueue_int_)) = some ((enc s (List.replicate I (-1)) (firstP s shut) P).2.1, (enc s (List.replicate I (-1)) (firstP s shut) P).2.2.1, (enc s (List.replicate I (-1)) (firstP s shut) P).2.2.2.2) := by
      intro P
      cases P with
      | nil => rfl
      | cons a b => rfl
    rw [henc]
    simp only [Option.bind_some]
    have henc2 : ∀ P : List Nat, (List.replicate I (-1 : Int), (enc s (List.replicate I (-1)) (firstP s shut) P).2.1, (enc s (List.replicate I (-1)) (firstP s shut) P).2.2.1, mk s.Trips.length (firstP s shut), (enc s (List.replicate I (-1)) (firstP s shut) P).2.2.2.2) = enc s (List.replicate I (-1)) (firstP s shut) P := by
      intro P
      cases P with
      | nil => rfl
      | cons a b => rfl
    rw [henc2, h3]
    simp only [Option.bind_some, e4]
  · rw [zero_get (by omega), List.take_of_length_le (Nat.le_refl _)]
    by_cases hin : s.Infested.contains (x : Int) = true
    · rw [if_pos hin]
      exact .inl ⟨.inl ⟨hin, rfl⟩, fun d hd => (hd.day hs).1⟩
    · rw [if_neg hin]
      have hall : ∀ d, Arr s (opS shut) (x : Int) d → 0 ≤ out.getD x 0 ∧ out.getD x 0 ≤ d := by
        rintro d (⟨h, _⟩ | ⟨i, t, g1, g2, g3, g4⟩)
        · exact absurd h hin
        · rcases h4.done i t (inv_all hs h4 g1) g2 with h | ⟨_, h5, h6⟩
          · cases h
          · have e : t.To.toNat = x := by omega
            rw [e] at h5 h6
            omega
      rcases h4.val x hx with h | ⟨i, t, g1, g2, g3, g4⟩
      · exact .inr ⟨h, fun d hd => by have := hall d hd; omega⟩
      · exact .inl ⟨.inr ⟨i, t, g1, g2, g3, g4⟩, fun d hd => (hall d hd).2⟩
end
end Go.Proofs.Ytgplafckddpnkaa
