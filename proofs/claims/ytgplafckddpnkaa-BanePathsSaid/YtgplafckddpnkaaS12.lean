/-
  The document's days: rounds over all trips.
-/
import Derived.Test.YtgplafckddpnkaaS11
namespace Go.Proofs.Ytgplafckddpnkaa
open Go.RowKit
set_option linter.unusedVariables false

section
variable {s : TBaneSea} {I : Nat} {op : Nat → Bool}
def stepD (s : TBaneSea) (op : Nat → Bool) (k : Nat) (t : TBaneTrip) (D : List Int) : List Int :=
  if op k = true then (if (s.Infested.contains t.From || decide (D.getD t.From.toNat 0 + s.Wait ≤ t.Day)) = true then D.set t.To.toNat (if t.Day < D.getD t.To.toNat 0 then t.Day else D.getD t.To.toNat 0) else D) else D
def Snd (s : TBaneSea) (I : Nat) (op : Nat → Bool) (D : List Int) : Prop := D.length = I ∧ ∀ x, x < I → (Arr s op (x : Int) (D.getD x 0) ∨ D.getD x 0 = 1000000) ∧ (s.Infested.contains (x : Int) = true → D.getD x 0 = 0)
theorem getD_set {D : List Int} {i x : Nat} {v : Int} (hi : i < D.length) : (D.set i v).getD x 0 = if x = i then v else D.getD x 0 := by
  rw [List.getD_eq_getElem?_getD, List.getElem?_set]
  by_cases e : i = x
  · subst e; simp [hi]
  · have : ¬ x = i := fun h => e h.symm
    rw [if_neg e, if_neg this, List.getD_eq_getElem?_getD]
theorem Snd.bound (hs : Sea s I) {D : List Int} (h : Snd s I op D) {x : Nat} (hx : x < I) : 0 ≤ D.getD x 0 ∧ D.getD x 0 ≤ 1000000 := by
  rcases (h.2 x hx).1 with h1 | h1
  · have := h1.day hs; omega
  · omega
theorem step_le (hs : Sea s I) {D : List Int} (hD : D.length = I) {k : Nat} {t : TBaneTrip} (ht : s.Trips[k]? = some t) (x : Nat) : (stepD s op k t D).getD x 0 ≤ D.getD x 0 := by
  have := hs.trip t (List.mem_of_getElem? ht)
  unfold stepD
  split
  · split
    · rw [getD_set (by omega)]
      split
      · rename_i e; subst e; split <;> omega
      · exact Int.le_refl _
    · exact Int.le_refl _
  · exact Int.le_refl _
theorem step_len {D : List Int} {k : Nat} {t : TBaneTrip} : (stepD s op k t D).length = D.length := by
  unfold stepD
  split
  · split
    · simp
    · rfl
  · rfl
theorem step_snd (hs : Sea s I) {D : List Int} (hD : Snd s I op D) {k : Nat} {t : TBaneTrip} (ht : s.Trips[k]? = some t) : Snd s I op (stepD s op k t D) := by
  refine ⟨by rw [step_len]; exact hD.1, fun x hx => ?_⟩
  obtain ⟨t1, t2, t3, t4, t5, t6, t7, _⟩ := hs.trip t (List.mem_of_getElem? ht)
  unfold stepD
  by_cases ho : op k = true
  · rw [if_pos ho]
    by_cases hc : (s.Infested.contains t.From || decide (D.getD t.From.toNat 0 + s.Wait ≤ t.Day)) = true
    · rw [if_pos hc, getD_set (by rw [hD.1]; omega)]
      by_cases e : x = t.To.toNat
      · rw [if_pos e]
        have hx' := hD.2 x hx
        rw [← e]
        by_cases hlt : t.Day < D.getD x 0
        · rw [if_pos hlt]
          have hg : Gone s op k := by
            rw [Bool.or_eq_true, decide_eq_true_eq] at hc
            rcases hc with hc | hc
            · exact .base ht ho hc
            · have hf := (hD.2 t.From.toNat (by omega)).1
              have hw := hs.wait
              rcases hf with hf | hf
              · rw [Int.toNat_of_nonneg t3] at hf
                rcases hf with ⟨hf, _⟩ | ⟨j, u, hj, hu, hx1, hd⟩
                · exact .base ht ho hf
                · exact .step ht ho hj hu hx1 (by omega)
              · omega
          refine ⟨.inl (.inr ⟨k, t, hg, ht, by omega, rfl⟩), fun hi => ?_⟩
          have := hx'.2 hi
          omega
        · rw [if_neg hlt]; exact hx'
      · rw [if_neg e]; exact hD.2 x hx
    · rw [if_neg hc]; exact hD.2 x hx
  · rw [if_neg ho]; exact hD.2 x hx
theorem step_hit (hs : Sea s I) {D : List Int} (hD : D.length = I) {k : Nat} {t : TBaneTrip} (ht : s.Trips[k]? = some t) (ho : op k = true) (hc : s.Infested.contains t.From = true ∨ D.getD t.From.toNat 0 + s.Wait ≤ t.Day) :
    (stepD s op k t D).getD t.To.toNat 0 ≤ t.Day := by
  have := hs.trip t (List.mem_of_getElem? ht)
  have hc' : (s.Infested.contains t.From || decide (D.getD t.From.toNat 0 + s.Wait ≤ t.Day)) = true := by
    rw [Bool.or_eq_true, decide_eq_true_eq]; exact hc
  unfold stepD
  rw [if_pos ho, if_pos hc', getD_set (by omega), if_pos rfl]
  split <;> omega
/-- The first so many trips of a round. -/
def roundD (s : TBaneSea) (op : Nat → Bool) (D : List Int) : Nat → List Int
  | 0 => D
  | k + 1 => match s.Trips[k]? with
    | none => roundD s op D k
    | some t => stepD s op k t (roundD s op D k)
theorem round_len (D : List Int) : ∀ k, (roundD s op D k).length = D.length
  | 0 => rfl
  | k + 1 => by
    unfold roundD
    cases h : s.Trips[k]? with
    | none => exact round_len D k
    | some t => simp only; rw [step_len]; exact round_len D k
theorem round_snd (hs : Sea s I) {D : List Int} (hD : Snd s I op D) : ∀ k, Snd s I op (roundD s op D k)
  | 0 => hD
  | k + 1 => by
    unfold roundD
    cases h : s.Trips[k]? with
    | none => exact round_snd hs hD k
    | some t => exact step_snd hs (round_snd hs hD k) h
theorem round_le (hs : Sea s I) {D : List Int} (hD : D.length = I) (x j : Nat) : ∀ d, (roundD s op D (j + d)).getD x 0 ≤ (roundD s op D j).getD x 0
  | 0 => Int.le_refl _
  | d + 1 => by
    have ih := round_le hs hD x j d
    have e : j + (d + 1) = (j + d) + 1 := by omega
    rw [e]
    have e2 : roundD s op D ((j + d) + 1) = match s.Trips[j + d]? with
      | none => roundD s op D (j + d)
      | some t => stepD s op (j + d) t (roundD s op D (j + d)) := rfl
    rw [e2]
    cases h : s.Trips[j + d]? with
    | none => exact ih
    | some t => exact Int.le_trans (step_le hs (by rw [round_len]; exact hD) h x) ih
theorem round_hit (hs : Sea s I) {D : List Int} (hD : D.length = I) {k : Nat} {t : TBaneTrip} (ht : s.Trips[k]? = some t) (ho : op k = true) (hc : s.Infested.contains t.From = true ∨ D.getD t.From.toNat 0 + s.Wait ≤ t.Day) :
    (roundD s op D s.Trips.length).getD t.To.toNat 0 ≤ t.Day := by
  have hk := get_lt ht
  obtain ⟨d, hd⟩ : ∃ d, s.Trips.length = (k + 1) + d := ⟨s.Trips.length - (k + 1), by omega⟩
  rw [hd]
  refine Int.le_trans (round_le hs hD t.To.toNat (k + 1) d) ?_
  have e2 : roundD s op D (k + 1) = stepD s op k t (roundD s op D k) := by
    have : roundD s op D (k + 1) = match s.Trips[k]? with
      | none => roundD s op D k
      | some t => stepD s op k t (roundD s op D k) := rfl
    rw [this, ht]
  rw [e2]
  refine step_hit hs (by rw [round_len]; exact hD) ht ho ?_
  rcases hc with hc | hc
  · exact .inl hc
  · have := round_le (op := op) hs hD t.From.toNat 0 k
    rw [Nat.zero_add] at this
    have e3 : roundD s op D 0 = D := rfl
    rw [e3] at this
    exact .inr (by omega)
/-- No bane comes sooner than that. -/
def Settled (s : TBaneSea) (op : Nat → Bool) (D : List Int) (x : Nat) : Prop := ∀ d, Arr s op (x : Int) d → D.getD x 0 ≤ d
def tDay (s : TBaneSea) (i : Nat) : Int := (s.Trips.map (·.Day)).getD i 0
theorem tDay_of {i : Nat} {t : TBaneTrip} (h : s.Trips[i]? = some t) : tDay s i = t.Day := by simp [tDay, h]
def Ready (s : TBaneSea) (op : Nat → Bool) (D : List Int) (i : Nat) : Prop := Gone s op i ∧ ∃ t, s.Trips[i]? = some t ∧ op i = true ∧ (s.Infested.contains t.From = true ∨ D.getD t.From.toNat 0 + s.Wait ≤ t.Day) ∧ ¬ Settled s op D t.To.toNat
theorem ready_of (hs : Sea s I) {D : List Int} {i : Nat} (h : Gone s op i) : ∀ t, s.Trips[i]? = some t → Settled s op D t.To.toNat ∨ ∃ j, Ready s op D j ∧ tDay s j ≤ t.Day := by
  induction h with
  | @base i t ht ho hf =>
    intro t' ht'
    rw [ht] at ht'
    cases ht'
    rcases Classical.em (Settled s op D t.To.toNat) with h1 | h1
    · exact .inl h1
    · exact .inr ⟨i, ⟨.base ht ho hf, t, ht, ho, .inl hf, h1⟩, by rw [tDay_of ht]; exact Int.le_refl _⟩
  | @step i j t u ht ho hj hu hx hd ih =>
    intro t' ht'
    rw [ht] at ht'
    cases ht'
    have hw := hs.wait
    have hq := hs.trip u (List.mem_of_getElem? hu)
    rcases ih u hu with h1 | ⟨k, h1, h2⟩
    · rcases Classical.em (Settled s op D t.To.toNat) with h3 | h3
      · exact .inl h3
      · have h4 := h1 u.Day (.inr ⟨j, u, hj, hu, by omega, rfl⟩)
        rw [hx] at h4
        exact .inr ⟨i, ⟨.step ht ho hj hu hx hd, t, ht, ho, .inr (by omega), h3⟩, by rw [tDay_of ht]; exact Int.le_refl _⟩
    · exact .inr ⟨k, h1, by omega⟩
theorem progress (hs : Sea s I) {D : List Int} (hD : Snd s I op D) : (∀ x, x < I → Settled s op D x) ∨ ∃ x, x < I ∧ ¬ Settled s op D x ∧ Settled s op (roundD s op D s.Trips.length) x := by
  rcases Classical.em (∀ x, x < I → Settled s op D x) with h | h
  · exact .inl h
  · right
    have h' : ∃ i, i < s.Trips.length ∧ Ready s op D i := by
      refine Classical.byContradiction fun hno => h fun x hx d hd => ?_
      rcases hd with ⟨h1, h2⟩ | ⟨i, t, h1, h2, h3, h4⟩
      · have := (hD.2 x hx).2 h1; omega
      · have ht := hs.trip t (List.mem_of_getElem? h2)
        rcases ready_of (D := D) hs h1 t h2 with h5 | ⟨j, h5, _⟩
        · exact h5 d (.inr ⟨i, t, h1, h2, by omega, h4⟩) |> fun q => by
            have e : t.To.toNat = x := by omega
            rw [e] at q; exact q
        · obtain ⟨u, hu⟩ := h5.1.trip
          exact absurd ⟨j, get_lt hu, h5⟩ hno
    obtain ⟨i, h1, ⟨h2, t, h3, h4, h5, h6⟩, h7⟩ := exists_min (tDay s) (Ready s op D) _ h'
    have ht := hs.trip t (List.mem_of_getElem? h3)
    refine ⟨t.To.toNat, by omega, h6, fun d hd => ?_⟩
    have hhit := round_hit (op := op) hs hD.1 h3 h4 h5
    rcases hd with ⟨g1, g2⟩ | ⟨j, u, g1, g2, g3, g4⟩
    · have := (hD.2 t.To.toNat (by omega)).2 g1
      exact absurd (fun d' hd' => by have := hd'.day hs; omega) h6
    · have hu := hs.trip u (List.mem_of_getElem? g2)
      have e : u.To.toNat = t.To.toNat := by omega
      rcases ready_of (D := D) hs g1 u g2 with g5 | ⟨k, g5, g6⟩
      · rw [e] at g5; exact absurd g5 h6
      · obtain ⟨v, hv⟩ := g5.1.trip
        have := h7 k (get_lt hv) g5
        rw [tDay_of h3] at this
        omega
def startD (s : TBaneSea) (I : Nat) : List Int := (List.range I).map fun x : Nat => if s.Infested.contains (x : Int) then 0 else 1000000
theorem start_get {x : Nat} (hx : x < I) : (startD s I).getD x 0 = if s.Infested.contains (x : Int) = true then 0 else 1000000 := by simp [startD, hx]
theorem start_snd : Snd s I op (startD s I) := by
  refine ⟨by simp [startD], fun x hx => ?_⟩
  rw [start_get hx]
  by_cases h : s.Infested.contains (x : Int) = true
  · rw [if_pos h]; exact ⟨.inl (.inl ⟨h, rfl⟩), fun _ => rfl⟩
  · rw [if_neg h]; exact ⟨.inr rfl, fun h' => absurd h' h⟩
def rounds (s : TBaneSea) (I : Nat) (op : Nat → Bool) : Nat → List Int
  | 0 => startD s I
  | k + 1 => roundD s op (rounds s I op k) s.Trips.length
theorem rounds_snd (hs : Sea s I) : ∀ k, Snd s I op (rounds s I op k)
  | 0 => start_snd
  | k + 1 => round_snd hs (rounds_snd hs k) _
theorem settled_mono (hs : Sea s I) {D : List Int} (hD : D.length = I) {x : Nat} (h : Settled s op D x) : Settled s op (roundD s op D s.Trips.length) x := fun d hd => by
  have h1 := round_le (op := op) hs hD x 0 s.Trips.length
  rw [Nat.zero_add] at h1
  exact Int.le_trans h1 (h d hd)
theorem rounds_settle (hs : Sea s I) : ∀ k, (∀ x, x < I → Settled s op (rounds s I op k) x) ∨ ∃ S : List Nat, S.Nodup ∧ S.length = k ∧ ∀ x ∈ S, x < I ∧ Settled s op (rounds s I op k) x
  | 0 => .inr ⟨[], by simp, rfl, by simp⟩
  | k + 1 => by
    have hD := rounds_snd (op := op) hs k
    rcases rounds_settle hs k with h | ⟨S, h1, h2, h3⟩
    · exact .inl fun x hx => settled_mono hs hD.1 (h x hx)
    · rcases progress hs hD with h | ⟨x, g1, g2, g3⟩
      · exact .inl fun x hx => settled_mono hs hD.1 (h x hx)
      · refine .inr ⟨x :: S, List.nodup_cons.2 ⟨fun hx => g2 (h3 x hx).2, h1⟩, by simp [h2], fun y hy => ?_⟩
        rcases List.mem_cons.1 hy with rfl | hy
        · exact ⟨g1, g3⟩
        · exact ⟨(h3 y hy).1, settled_mono hs hD.1 (h3 y hy).2⟩
theorem rounds_right (hs : Sea s I) {x : Nat} (hx : x < I) : Right 1000000 s op (x : Int) ((rounds s I op (I + 1)).getD x 0) := by
  have hD := rounds_snd (op := op) hs (I + 1)
  have hset : Settled s op (rounds s I op (I + 1)) x := by
    rcases rounds_settle (op := op) hs (I + 1) with h | ⟨S, h1, h2, h3⟩
    · exact h x hx
    · have := nodup_len I S h1 fun y hy => (h3 y hy).1
      omega
  rcases (hD.2 x hx).1 with h | h
  · exact .inl ⟨h, hset⟩
  · refine .inr ⟨h, fun d hd => ?_⟩
    have h1 := hset d hd
    have h2 := hd.day hs
    omega
end
/-! ### The document's loops -/
def opOf (x1 : List Int) (x2 : List Bool) (i : Nat) : Bool := !x1.contains (i : Int) && x2.getD i false
theorem f57_eq (s : TBaneSea) (I : Nat) (hs : Sea s I) (hsh : seaShort s) (x1 : List Int) (x2 : List Bool) (h1 : x1.length ≤ 1000) (h2 : x2.length = s.Trips.length) :
    f57 s x1 x2 = some (rounds s I (opOf x1 x2) (I + 1)) := by
  have hI := hs.isl
  have htop := hs.top
  have hnum := hs.num
  have hinf := hsh.1
  have e1 : lp (f57_b0 s) ([], 0) = some (startD s I) := by
    refine lp_thru (List.range I) _ (fun k => ((startD s I).take k, (k : Int))) ?_ ?_
    · intro k y hy
      have hk : k < I := by have := get_lt hy; simpa using this
      have hg : (startD s I)[k]? = some (if s.Infested.contains (k : Int) = true then 0 else 1000000) := by simp [startD, hk]
      unfold f57_b0
      have c : (k : Int) < s.Islets := by omega
      simp only [c, decide_true, if_true, f38_eq s.Infested _ (by omega), Option.bind_some, wrap_nat hk (by omega)]
      have ea : ∀ v, app ((startD s I).take k) [v] = some ((startD s I).take k ++ [v]) := fun v => app_short _ _ (by simp [startD]; omega)
      rw [take_snoc hg]
      cases s.Infested.contains (k : Int) <;> simp only [Bool.false_eq_true, if_false, if_true, Option.bind_some, ea]
    · unfold f57_b0
      have c : ¬ (((List.range I).length : Nat) : Int) < s.Islets := by rw [List.length_range]; omega
      simp only [c, decide_false, Bool.false_eq_true, if_false]
      rw [List.length_range, List.take_of_length_le (by simp [startD])]
  have e2 : ∀ D, Snd s I (opOf x1 x2) D → lp (f57_b2 s x1 x2) (D, 0) = some (roundD s (opOf x1 x2) D s.Trips.length) := by
    intro D hD
    refine lp_thru s.Trips _ (fun k => (roundD s (opOf x1 x2) D k, (k : Int))) ?_ ?_
    · intro k t ht
      have hk := get_lt ht
      have hR := round_snd (op := opOf x1 x2) hs hD k
      have hq := hs.trip t (List.mem_of_getElem? ht)
      have hw := hs.wait
      have e3 : roundD s (opOf x1 x2) D (k + 1) = stepD s (opOf x1 x2) k t (roundD s (opOf x1 x2) D k) := by
        have : roundD s (opOf x1 x2) D (k + 1) = match s.Trips[k]? with
          | none => roundD s (opOf x1 x2) D k
          | some t => stepD s (opOf x1 x2) k t (roundD s (opOf x1 x2) D k) := rfl
        rw [this, ht]
      rw [e3]
      generalize roundD s (opOf x1 x2) D k = R at hR
      have hRl := hR.1
      have hb := hR.bound hs (x := t.From.toNat) (by omega)
      unfold f57_b2 stepD
      have c : (k : Int) < (s.Trips.length : Int) := by omega
      have hx2 : x2[k]? = some (x2.getD k false) := getD_get false (by omega)
      have hF : R[t.From.toNat]? = some (R.getD t.From.toNat 0) := getD_get 0 (by omega)
      have hT : R[t.To.toNat]? = some (R.getD t.To.toNat 0) := getD_get 0 (by omega)
      have hset : ∀ v, setIx R t.To v = some (R.set t.To.toNat v) := fun v => by
        unfold setIx
        rw [if_pos ⟨by omega, by omega⟩]
      simp only [c, decide_true, if_true, ix_nat, ht, hx2, Option.bind_some, f38_eq x1 _ h1, f38_eq s.Infested _ (by omega), wrap_nat hk (by omega), ix_int hq.2.2.1, ix_int hq.2.2.2.2.1, hF, hT, hset]
      have hwr : IntKind.i64.wrap (R.getD t.From.toNat 0 + s.Wait) = R.getD t.From.toNat 0 + s.Wait := by rw [wrap_id] <;> omega
      rw [hwr]
      have ho : opOf x1 x2 k = (!x1.contains (k : Int) && x2.getD k false) := rfl
      rw [ho]
      cases x1.contains (k : Int) with
      | true => simp
      | false =>
        cases x2.getD k false with
        | false => simp
        | true =>
          simp only [Bool.false_eq_true, if_false, Option.bind_some, Bool.not_true, Bool.not_false, Bool.and_self, if_true]
          cases s.Infested.contains t.From with
          | true => simp only [if_true, Option.bind_some, Bool.true_or]
          | false =>
            simp only [Bool.false_eq_true, if_false, Option.bind_some, Bool.false_or]
            by_cases hle : R.getD t.From.toNat 0 + s.Wait ≤ t.Day
            · simp only [hle, decide_true, if_true, Option.bind_some]
            · simp only [hle, decide_false, Bool.false_eq_true, if_false, Option.bind_some]
    · unfold f57_b2
      simp
  have e3 : lp (f57_b1 s x1 x2) (startD s I, 0) = some (rounds s I (opOf x1 x2) (I + 1)) := by
    refine lp_thru (List.range (I + 1)) _ (fun k => (rounds s I (opOf x1 x2) k, (k : Int))) ?_ ?_
    · intro k y hy
      have hk : k < I + 1 := by have := get_lt hy; simpa using this
      unfold f57_b1
      have c : (k : Int) ≤ s.Islets := by omega
      simp only [c, decide_true, if_true, e2 _ (rounds_snd hs k), Option.bind_some, wrap_nat hk (by omega)]
      rfl
    · unfold f57_b1
      have c : ¬ (((List.range (I + 1)).length : Nat) : Int) ≤ s.Islets := by rw [List.length_range]; omega
      simp only [c, decide_false, Bool.false_eq_true, if_false]
      rw [List.length_range]
  unfold f57
  rw [e1]
  simp only [Option.bind_some, e3]
theorem f93_eq (s : TBaneSea) (h : s.Trips.length ≤ 1000) : f93 s = some (List.replicate s.Trips.length true) := by
  unfold f93
  have e : lp (f93_b0 s) ([], 0) = some (List.replicate s.Trips.length true) := by
    refine lp_thru s.Trips _ (fun k => (List.replicate k true, (k : Int))) ?_ ?_
    · intro k t ht
      have hk := get_lt ht
      unfold f93_b0
      have c : (k : Int) < (s.Trips.length : Int) := by omega
      simp only [c, decide_true, if_true, wrap_nat hk (by omega)]
      rw [app_short _ _ (by simp; omega)]
      simp [List.replicate_succ']
    · unfold f93_b0
      simp
  rw [e]; rfl
theorem f56_eq (s : TBaneSea) (I : Nat) (hs : Sea s I) (hsh : seaShort s) (x1 : List Int) (h1 : x1.length ≤ 1000) : f56 s x1 = some (rounds s I (opOf x1 (List.replicate s.Trips.length true)) (I + 1)) := by
  unfold f56
  rw [f93_eq s (by have := hs.num; omega)]
  simp only [Option.bind_some]
  rw [f57_eq s I hs hsh x1 _ h1 (by simp)]
  rfl
end Go.Proofs.Ytgplafckddpnkaa
