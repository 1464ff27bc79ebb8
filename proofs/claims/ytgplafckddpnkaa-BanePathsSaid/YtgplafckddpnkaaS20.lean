/-
  Paths: what the program finds is the best; which lists are paths.
-/
import Derived.Test.YtgplafckddpnkaaS19
namespace Go.Proofs.Ytgplafckddpnkaa
open Go.RowKit
set_option linter.unusedVariables false

section
variable {s : TBaneSea} {I : Nat} {op : Nat → Bool}
def pathOk (s : TBaneSea) (op : Nat → Bool) (x : Int) : List Nat → Prop
  | [] => s.Infested.contains x = true
  | i :: r => i < s.Trips.length ∧ op i = true ∧ s.Infested.contains (tFrom s i) = true ∧ chF s op i r ∧ tTo s (lastT i r) = x
def lastD (s : TBaneSea) : List Nat → Int
  | [] => 0
  | i :: r => dayT s (lastT i r)
theorem chain_gone : ∀ {r : List Nat} {i : Nat}, Gone s op i → chF s op i r → Gone s op (lastT i r)
  | [], i, h, _ => h
  | j :: r, i, h, ⟨h1, h2, h3, h4⟩ => by
    obtain ⟨u, hu⟩ := h.trip
    have ht : s.Trips[j]? = some (s.Trips[j]'h1) := List.getElem?_eq_getElem h1
    unfold lnk at h3
    rw [tFrom_of ht, tTo_of hu, dayT_of hu, dayT_of ht, Bool.and_eq_true, decide_eq_true_eq, decide_eq_true_eq] at h3
    exact (chain_gone (i := j) (.step ht h2 h hu h3.1.symm h3.2) h4 : Gone s op (lastT j r))
theorem chF_snoc {j : Nat} (hj : j < s.Trips.length) (ho : op j = true) : ∀ {r : List Nat} {i : Nat}, chF s op i r → lnk s (lastT i r) j = true → chF s op i (r ++ [j]) ∧ lastT i (r ++ [j]) = j
  | [], i, _, h => ⟨⟨hj, ho, h, trivial⟩, rfl⟩
  | k :: r, i, ⟨h1, h2, h3, h4⟩, h => by
    obtain ⟨g1, g2⟩ := chF_snoc hj ho h4 h
    exact ⟨⟨h1, h2, h3, g1⟩, g2⟩
theorem gone_chain {j : Nat} (h : Gone s op j) : ∃ i r, i < s.Trips.length ∧ op i = true ∧ s.Infested.contains (tFrom s i) = true ∧ chF s op i r ∧ lastT i r = j := by
  induction h with
  | @base i t ht ho hf => exact ⟨i, [], get_lt ht, ho, by rw [tFrom_of ht]; exact hf, trivial, rfl⟩
  | @step i j t u ht ho hj hu hx hd ih =>
    obtain ⟨a, r, h1, h2, h3, h4, h5⟩ := ih
    have hl : lnk s (lastT a r) i = true := by
      rw [h5]
      unfold lnk
      rw [tFrom_of ht, tTo_of hu, dayT_of hu, dayT_of ht, Bool.and_eq_true, decide_eq_true_eq, decide_eq_true_eq]
      exact ⟨hx.symm, hd⟩
    obtain ⟨g1, g2⟩ := chF_snoc (get_lt ht) ho h4 hl
    exact ⟨a, r ++ [i], h1, h2, h3, g1, g2⟩
theorem chF_suffix {j : Nat} {q : List Nat} : ∀ {p : List Nat} {i : Nat}, chF s op i (p ++ j :: q) → chF s op j q ∧ lastT i (p ++ j :: q) = lastT j q
  | [], i, ⟨_, _, _, h⟩ => ⟨h, rfl⟩
  | k :: p, i, ⟨_, _, _, h⟩ => chF_suffix (p := p) (i := k) h
theorem chF_cut : ∀ {r : List Nat} {i : Nat}, chF s op i r → ¬ (i :: r).Nodup → ∃ r', chF s op i r' ∧ r'.length < r.length ∧ lastT i r' = lastT i r
  | [], i, _, h => absurd (by simp) h
  | j :: r, i, h0, h => by
    rcases Classical.em (i ∈ j :: r) with hm | hm
    · obtain ⟨p, q, e⟩ := List.append_of_mem hm
      rw [e] at h0 ⊢
      obtain ⟨g1, g2⟩ := chF_suffix h0
      exact ⟨q, g1, by simp; omega, g2.symm⟩
    · obtain ⟨h1, h2, h3, h4⟩ := h0
      have hn : ¬ (j :: r).Nodup := fun hn => h (List.nodup_cons.2 ⟨hm, hn⟩)
      obtain ⟨r', g1, g2, g3⟩ := chF_cut h4 hn
      exact ⟨j :: r', ⟨h1, h2, h3, g1⟩, by simp; omega, g3⟩
theorem chF_lt : ∀ {r : List Nat} {i : Nat}, chF s op i r → ∀ j ∈ r, j < s.Trips.length
  | [], _, _, j, h => by cases h
  | k :: r, i, ⟨h1, _, _, h4⟩, j, h => by
    rcases List.mem_cons.1 h with rfl | h
    · exact h1
    · exact chF_lt h4 j h
theorem least_nat (P : Nat → Prop) : ∀ n, P n → ∃ m, P m ∧ ∀ k, k < m → ¬ P k := by
  intro n
  induction n using Nat.strongRecOn with
  | ind n ih =>
    intro h
    rcases Classical.em (∃ k, k < n ∧ P k) with ⟨k, h1, h2⟩ | h1
    · exact ih k h1 h2
    · exact ⟨n, h, fun k hk hp => h1 ⟨k, hk, hp⟩⟩
theorem path_arr {x : Int} {i : Nat} {r : List Nat} (h : pathOk s op x (i :: r)) : Arr s op x (lastD s (i :: r)) := by
  obtain ⟨h1, h2, h3, h4, h5⟩ := h
  have ht : s.Trips[i]? = some (s.Trips[i]'h1) := List.getElem?_eq_getElem h1
  rw [tFrom_of ht] at h3
  have hg := chain_gone (.base ht h2 h3) h4
  obtain ⟨t, hl⟩ := hg.trip
  exact .inr ⟨_, t, hg, hl, by rw [← tTo_of hl]; exact h5, by rw [← dayT_of hl]; rfl⟩
/-- There is a short one. -/
theorem short_path {x E : Int} (hx : ¬ s.Infested.contains x = true) (hE : Arr s op x E) : ∃ i r, pathOk s op x (i :: r) ∧ lastD s (i :: r) = E ∧ r.length < s.Trips.length := by
  have h0 : ∃ m, ∃ i r, pathOk s op x (i :: r) ∧ lastD s (i :: r) = E ∧ r.length = m := by
    rcases hE with ⟨h, _⟩ | ⟨j, t, h1, h2, h3, h4⟩
    · exact absurd h hx
    · obtain ⟨i, r, g1, g2, g3, g4, g5⟩ := gone_chain h1
      exact ⟨r.length, i, r, ⟨g1, g2, g3, g4, by rw [g5, tTo_of h2]; exact h3⟩, by show dayT s (lastT i r) = E; rw [g5, dayT_of h2]; exact h4, rfl⟩
  obtain ⟨m0, h0⟩ := h0
  obtain ⟨m, ⟨i, r, ⟨g1, g2, g3, g4, g5⟩, g6, g7⟩, hmin⟩ := least_nat (fun m => ∃ i r, pathOk s op x (i :: r) ∧ lastD s (i :: r) = E ∧ r.length = m) m0 h0
  refine ⟨i, r, ⟨g1, g2, g3, g4, g5⟩, g6, ?_⟩
  have hnd : (i :: r).Nodup := Classical.byContradiction fun hn => by
    obtain ⟨r', q1, q2, q3⟩ := chF_cut g4 hn
    exact hmin r'.length (by omega) ⟨i, r', ⟨g1, g2, g3, q1, by rw [q3]; exact g5⟩, by show dayT s (lastT i r') = E; rw [q3]; exact g6, rfl⟩
  have := nodup_len s.Trips.length (i :: r) hnd fun j hj => by
    rcases List.mem_cons.1 hj with rfl | hj
    · exact g1
    · exact chF_lt g4 j hj
  simp only [List.length_cons] at this
  omega
/-! ### What the program finds -/
def rootF (s : TBaneSea) (op : Nat → Bool) (x E : Int) (m i : Nat) : Option (List Nat) := if (op i && s.Infested.contains (tFrom s i)) = true then (bestC s op x E m i).map (i :: ·) else none
def levF (s : TBaneSea) (op : Nat → Bool) (x E : Int) (m : Nat) : Option (List Nat) := fs (rootF s op x E m) s.Trips.length
theorem root_some {x E : Int} {m i : Nat} {l : List Nat} (h : rootF s op x E m i = some l) : ∃ r, l = i :: r ∧ op i = true ∧ s.Infested.contains (tFrom s i) = true ∧ bestC s op x E m i = some r := by
  unfold rootF at h
  by_cases hc : (op i && s.Infested.contains (tFrom s i)) = true
  · rw [if_pos hc, Option.map_eq_some_iff] at h
    obtain ⟨r, h1, h2⟩ := h
    rw [Bool.and_eq_true] at hc
    exact ⟨r, h2.symm, hc.1, hc.2, h1⟩
  · rw [if_neg hc] at h; cases h
theorem root_none {x E : Int} {m i : Nat} (h : rootF s op x E m i = none) {r : List Nat} (hp : pathOk s op x (i :: r)) (hE : lastD s (i :: r) = E) (hl : r.length = m) : False := by
  obtain ⟨h1, h2, h3, h4, h5⟩ := hp
  unfold rootF at h
  have hc : (op i && s.Infested.contains (tFrom s i)) = true := by rw [Bool.and_eq_true]; exact ⟨h2, h3⟩
  rw [if_pos hc, Option.map_eq_none_iff] at h
  refine bestC_some.bestC_none h r h4 hl ?_
  unfold goal
  rw [Bool.and_eq_true, decide_eq_true_eq, decide_eq_true_eq]
  exact ⟨h5, hE⟩
theorem lev_best {x E : Int} {l : List Nat} (h : fs (levF s op x E) s.Trips.length = some l) : pathOk s op x l ∧ lastD s l = E ∧ ∀ l', l' ≠ [] → pathOk s op x l' → lastD s l' = E → l' ≠ l → ordB (ints l) (ints l') := by
  obtain ⟨m, h1, h2, h3⟩ := fs_some h
  obtain ⟨i, g1, g2, g3⟩ := fs_some h2
  obtain ⟨r, rfl, q1, q2, q3⟩ := root_some g2
  obtain ⟨⟨b1, b2, b3⟩, b4⟩ := bestC_some q3
  unfold goal at b3
  rw [Bool.and_eq_true, decide_eq_true_eq, decide_eq_true_eq] at b3
  refine ⟨⟨g1, q1, q2, b1, b3.1⟩, b3.2, fun l' hne hp hE hd => ?_⟩
  cases l' with
  | nil => exact absurd rfl hne
  | cons i' r' =>
    have hp' := hp
    obtain ⟨p1, p2, p3, p4, p5⟩ := hp'
    unfold ordB
    have e1 : (ints (i :: r)).length = m + 1 := by simp [ints, b2]
    have e2 : (ints (i' :: r')).length = r'.length + 1 := by simp [ints]
    rw [e1, e2]
    rcases Nat.lt_trichotomy m r'.length with e | e | e
    · exact .inl (by omega)
    · refine .inr ⟨by omega, ?_⟩
      rw [ints_cons, ints_cons, lexlt_cons]
      rcases Nat.lt_trichotomy i i' with k | k | k
      · exact .inl (by omega)
      · subst k
        refine .inr ⟨rfl, b4 r' p4 e.symm ?_ (fun k => hd (by rw [k]))⟩
        unfold goal
        rw [Bool.and_eq_true, decide_eq_true_eq, decide_eq_true_eq]
        exact ⟨p5, hE⟩
      · exact (root_none (g3 i' k) hp hE e.symm).elim
    · exact (root_none (fs_none (h3 r'.length e) i' p1) hp hE rfl).elim
theorem f29_loop (hs : Sea s I) (hsh : seaShort s) (shut x E : Int) {l : List Nat} (hl : fs (levF s (opS shut) x E) s.Trips.length = some l) : ∀ (d m : Nat) (path : List Int) (M : List ((Int × Int) × Bool)), m + d = s.Trips.length → Sound s (opS shut) x E M → fs (levF s (opS shut) x E) m = none →
    ∃ M', lp (f29_b0 s x (⟨s, shut⟩, true) E) ((m : Int), path, M) = some (ints l, M')
  | 0, m, path, M, hd, hM, hm => by
    have : m = s.Trips.length := by omega
    subst this
    rw [hm] at hl; cases hl
  | d + 1, m, path, M, hd, hM, hm => by
    have hn := hs.num
    have hil := hsh.1
    have key := rg_out (f29_b1 ((m : Int), path, M) s x (⟨s, shut⟩, true) E) shut s.Trips
      (fun k st => Sound s (opS shut) x E st.2 ∧ fs (rootF s (opS shut) x E m) k = none)
      (fun k q => ∃ l, fs (rootF s (opS shut) x E m) (k + 1) = some l ∧ q.1 = ints l) ?_ ?_ (path, M) ⟨hM, rfl⟩
    · rw [lp_eq]
      unfold f29_b0
      have c : (m : Int) < (s.Trips.length : Int) := by omega
      simp only [c, decide_true, if_true, wrap_nat (show m < s.Trips.length by omega) (show s.Trips.length ≤ 1073741824 by omega)]
      rcases key with ⟨st', g1, g2, g3⟩ | ⟨k, q, gk, g1, l', g2, g3⟩
      · rw [g1]
        simp only [Option.bind_some, Sum.elim_inl]
        exact f29_loop hs hsh shut x E hl d (m + 1) st'.1 st'.2 (by omega) g2 (by rw [fs_next hm]; exact g3)
      · rw [g1]
        simp only [Option.bind_some, Sum.elim_inr]
        refine ⟨q.2, ?_⟩
        have e1 : levF s (opS shut) x E m = some l' := by
          obtain ⟨d', hd'⟩ : ∃ d', s.Trips.length = (k + 1) + d' := ⟨s.Trips.length - (k + 1), by omega⟩
          unfold levF
          rw [hd']; exact fs_mono g2 d'
        have e2 : fs (levF s (opS shut) x E) s.Trips.length = some l' := by
          obtain ⟨d', hd'⟩ : ∃ d', s.Trips.length = (m + 1) + d' := ⟨s.Trips.length - (m + 1), by omega⟩
          rw [hd']; exact fs_mono (by rw [fs_next hm]; exact e1) d'
        rw [hl] at e2
        cases e2
        rw [g3]
    · intro k u st hu ho ⟨i1, i2⟩
      have hk := get_lt hu
      unfold f29_b1
      simp only [f74_eq s.Infested _ (show s.Infested.length ≤ 1073741824 by omega), Option.bind_some]
      have htn : ((m : Int)).toNat + 1 = m + 1 := by simp
      rw [htn]
      cases hc : s.Infested.contains u.From with
      | false =>
        left
        refine ⟨(st.1, st.2), by simp, i1, ?_⟩
        rw [fs_next i2]
        unfold rootF
        rw [tFrom_of hu, hc]
        simp
      | true =>
        obtain ⟨M1, j1, j2⟩ := f76_eq hs shut x E m k st.2 [(k : Int)] hk (by omega) (by simp; omega) i1
        simp only [Bool.not_true, Bool.false_eq_true, if_false, j2]
        have hroot : rootF s (opS shut) x E m k = (bestC s (opS shut) x E m k).map (k :: ·) := by
          unfold rootF
          rw [tFrom_of hu, hc, ho]
          rfl
        cases hb : bestC s (opS shut) x E m k with
        | some r =>
          right
          refine ⟨([(k : Int)] ++ ints r, M1), by simp, k :: r, ?_, by simp [ints]⟩
          rw [fs_next i2, hroot, hb]; rfl
        | none =>
          left
          refine ⟨([(k : Int)], M1), by simp, j1, ?_⟩
          rw [fs_next i2, hroot, hb]; rfl
    · intro k u st hu ho ⟨i1, i2⟩
      refine ⟨i1, ?_⟩
      rw [fs_next i2]
      unfold rootF
      rw [ho]
      simp
/-! ### Which lists are paths -/
theorem lp_allB {α σ ρ : Type} {body : σ → Option (σ ⊕ ρ)} (xs : List α) (p : Nat → α → Bool) (b r : ρ) (enc : Nat → σ)
    (h1 : ∀ k y, xs[k]? = some y → (∀ j z, j < k → xs[j]? = some z → p j z = true) → body (enc k) = some (if p k y = true then .inl (enc (k + 1)) else .inr b)) (h2 : body (enc xs.length) = some (.inr r)) :
    lp body (enc 0) = some (if allI p 0 xs = true then r else b) := by
  have key : ∀ (ys : List α) (k : Nat), xs.drop k = ys → k ≤ xs.length → (∀ j z, j < k → xs[j]? = some z → p j z = true) → lp body (enc k) = some (if allI p k ys = true then r else b) := by
    intro ys
    induction ys with
    | nil =>
      intro k hd hk hb
      have : k = xs.length := by have := List.drop_eq_nil_iff.1 hd; omega
      subst this
      rw [lp_eq, h2]; rfl
    | cons y ys ih =>
      intro k hd hk hb
      have hlt : k < xs.length := by
        rcases Nat.lt_or_ge k xs.length with h | h
        · exact h
        · rw [List.drop_eq_nil_of_le h] at hd; cases hd
      rw [List.drop_eq_getElem_cons hlt] at hd
      injection hd with hy hd
      have hxy : xs[k]? = some y := by rw [List.getElem?_eq_getElem hlt, hy]
      rw [lp_eq, h1 k y hxy hb]
      cases hp : p k y with
      | true =>
        simp only [if_true, allI, hp, Bool.true_and]
        exact ih (k + 1) hd hlt fun j z hj hz => by
          by_cases e : j = k
          · subst e; rw [hxy] at hz; cases hz; exact hp
          · exact hb j z (by omega) hz
      | false => simp [allI, hp]
  exact key xs 0 rfl (Nat.zero_le _) fun j _ hj _ => by omega
def stepOk (s : TBaneSea) (x1 l : List Int) (k : Nat) (y : Int) : Bool := inR y 0 ((s.Trips.length : Int) - 1) && (!x1.contains y && (if k = 0 then s.Infested.contains (tFrom s y.toNat) else lnk s (l.getD (k - 1) 0).toNat y.toNat))
theorem f51_b0_eq (hs : Sea s I) (hsh : seaShort s) (x1 l : List Int) (h1 : x1.length ≤ 1000) (hl : l.length ≤ 1000) : lp (f51_b0 s x1 l) 0 = some (if allI (stepOk s x1 l) 0 l = true then .inl () else .inr false) := by
  have hn := hs.num
  have hil := hsh.1
  have hw := hs.wait
  refine lp_allB l _ (Sum.inr false) (Sum.inl ()) (fun k => (k : Int)) ?_ ?_
  · intro k y hy hb
    have hk := get_lt hy
    unfold f51_b0
    have c : (k : Int) < (l.length : Int) := by omega
    simp only [c, decide_true, if_true, ix_nat, hy, Option.bind_some, pred_any (show s.Trips.length ≤ 1073741824 by omega), f69_eq, f38_eq x1 _ h1, wrap_nat hk (by omega)]
    unfold stepOk
    cases hr : inR y 0 ((s.Trips.length : Int) - 1) with
    | false => simp
    | true =>
      have hr' := inR_iff.1 hr
      cases hx : x1.contains y with
      | true => simp
      | false =>
        have ht : s.Trips[y.toNat]? = some (s.Trips[y.toNat]'(by omega)) := List.getElem?_eq_getElem (by omega)
        obtain ⟨t, htt⟩ : ∃ t, t = s.Trips[y.toNat]'(by omega) := ⟨_, rfl⟩
        rw [← htt] at ht
        simp only [Bool.not_true, Bool.false_eq_true, if_false, Option.bind_some, ix_int hr'.1, ht, Bool.not_false, Bool.true_and]
        by_cases hk0 : k = 0
        · subst hk0
          have c0 : (((0 : Nat) : Int) == 0) = true := rfl
          have c1 : ¬ (0 : Int) < ((0 : Nat) : Int) := by omega
          simp only [c0, if_true, f38_eq s.Infested _ (show s.Infested.length ≤ 1000 by omega), Option.bind_some, c1, decide_false, Bool.false_eq_true, if_false]
          rw [tFrom_of ht]
          cases s.Infested.contains t.From <;> simp
        · have c0 : ((k : Int) == 0) = false := by rw [beq_eq_false_iff_ne]; omega
          have c1 : (0 : Int) < (k : Int) := by omega
          have hp : l[k - 1]? = some (l.getD (k - 1) 0) := getD_get 0 (by omega)
          have hpo := hb (k - 1) _ (by omega) hp
          unfold stepOk at hpo
          rw [Bool.and_eq_true] at hpo
          have hpr := inR_iff.1 hpo.1
          have hu : s.Trips[(l.getD (k - 1) 0).toNat]? = some (s.Trips[(l.getD (k - 1) 0).toNat]'(by omega)) := List.getElem?_eq_getElem (by omega)
          obtain ⟨u, huu⟩ : ∃ u, u = s.Trips[(l.getD (k - 1) 0).toNat]'(by omega) := ⟨_, rfl⟩
          rw [← huu] at hu
          have hq := hs.trip u (List.mem_of_getElem? hu)
          have hwr : IntKind.i64.wrap (u.Day + s.Wait) = u.Day + s.Wait := by rw [wrap_id] <;> omega
          simp only [c0, Bool.false_eq_true, if_false, Option.bind_some, c1, decide_true, if_true, pred_pos (show 0 < k by omega) (show k ≤ 1073741824 by omega), ix_nat, hp, ix_int hpr.1, hu, hwr, hk0]
          unfold lnk
          rw [tFrom_of ht, tTo_of hu, dayT_of hu, dayT_of ht]
          by_cases h2 : t.From = u.To
          · by_cases h3 : t.Day < u.Day + s.Wait
            · have : ¬ u.Day + s.Wait ≤ t.Day := by omega
              simp [h2, h3, this]
            · have : u.Day + s.Wait ≤ t.Day := by omega
              simp [h2, h3, this]
          · simp [h2]
  · unfold f51_b0
    simp
theorem ints_nat {l : List Int} (h : ∀ y ∈ l, 0 ≤ y) : ints (l.map Int.toNat) = l := by
  unfold ints
  rw [List.map_map]
  have : l.map ((fun i : Nat => (i : Int)) ∘ Int.toNat) = l.map id := List.map_congr_left fun y hy => by simp; have := h y hy; omega
  rw [this, List.map_id]
theorem chF_iff (x1 : List Int) : ∀ (rest : List Int) (y : Int), (∀ k z, rest[k]? = some z → 0 ≤ z ∧ z < (s.Trips.length : Int) ∧ x1.contains z = false ∧ lnk s ((y :: rest).getD k 0).toNat z.toNat = true) ↔ (∀ z ∈ rest, 0 ≤ z) ∧ chF s (opB x1) y.toNat (rest.map Int.toNat)
  | [], y => by simp [chF]
  | z :: rest, y => by
    have ih := chF_iff x1 rest z
    constructor
    · intro h
      obtain ⟨h1, h2, h3, h4⟩ := h 0 z rfl
      obtain ⟨g1, g2⟩ := ih.1 fun k w hw => h (k + 1) w (by simpa using hw)
      refine ⟨fun w hw => ?_, by omega, ?_, h4, g2⟩
      · rcases List.mem_cons.1 hw with rfl | hw
        · exact h1
        · exact g1 w hw
      · unfold opB
        rw [Int.toNat_of_nonneg h1, h3]; rfl
    · rintro ⟨h0, h1, h2, h3, h4⟩ k w hw
      have hz := h0 z (by simp)
      cases k with
      | zero =>
        simp at hw
        subst hw
        refine ⟨hz, by omega, ?_, h3⟩
        unfold opB at h2
        rw [Int.toNat_of_nonneg hz] at h2
        simpa using h2
      | succ k =>
        simp at hw
        have := ih.2 ⟨fun w hw => h0 w (by simp [hw]), h4⟩ k w hw
        simpa using this
theorem lastT_map : ∀ (rest : List Int) (y : Int), lastT y.toNat (rest.map Int.toNat) = ((y :: rest).getD rest.length 0).toNat
  | [], y => rfl
  | z :: rest, y => by
    have := lastT_map rest z
    simp only [List.map_cons, lastT]
    rw [this]
    simp
/-- 'f51': which lists are paths. -/
theorem f51_eq (hs : Sea s I) (hsh : seaShort s) (x1 l : List Int) (x : Int) (h1 : x1.length ≤ 1000) (hl : l.length ≤ 1000) : ∃ b, f51 s x1 l x = some b ∧ (b = true ↔ ∃ ln : List Nat, l = ints ln ∧ pathOk s (opB x1) x ln) := by
  have hil := hsh.1
  have hn := hs.num
  unfold f51
  cases l with
  | nil =>
    have e : ((([] : List Int).length : Int) == 0) = true := rfl
    rw [e, f38_eq s.Infested _ (by omega)]
    refine ⟨s.Infested.contains x, rfl, fun h => ⟨[], rfl, h⟩, ?_⟩
    rintro ⟨ln, e, h⟩
    cases ln with
    | nil => exact h
    | cons a b => simp [ints] at e
  | cons y rest =>
    have e : ((((y :: rest).length : Nat) : Int) == 0) = false := by rw [beq_eq_false_iff_ne]; simp; omega
    rw [e]
    simp only [Bool.false_eq_true, if_false]
    rw [f51_b0_eq hs hsh x1 _ h1 hl]
    have hiff : allI (stepOk s x1 (y :: rest)) 0 (y :: rest) = true ↔ (0 ≤ y ∧ y < (s.Trips.length : Int) ∧ x1.contains y = false ∧ s.Infested.contains (tFrom s y.toNat) = true) ∧ (∀ z ∈ rest, 0 ≤ z) ∧ chF s (opB x1) y.toNat (rest.map Int.toNat) := by
      rw [← chF_iff, allI_iff]
      constructor
      · intro h
        constructor
        · have h0 := h 0 y rfl
          unfold stepOk at h0
          simp only [Nat.add_zero, if_true, Bool.and_eq_true, Bool.not_eq_true'] at h0
          have := inR_iff.1 h0.1
          exact ⟨by omega, by omega, h0.2.1, h0.2.2⟩
        · intro k z hz
          have h0 := h (k + 1) z (by simpa using hz)
          unfold stepOk at h0
          have hk : ¬ (0 + (k + 1) = 0) := by omega
          rw [if_neg hk] at h0
          simp only [Bool.and_eq_true, Bool.not_eq_true'] at h0
          have := inR_iff.1 h0.1
          have e2 : 0 + (k + 1) - 1 = k := by omega
          rw [e2] at h0
          exact ⟨by omega, by omega, h0.2.1, h0.2.2⟩
      · rintro ⟨⟨g1, g2, g3, g4⟩, h⟩ k z hz
        unfold stepOk
        cases k with
        | zero =>
          simp at hz
          subst hz
          simp only [Nat.add_zero, if_true, Bool.and_eq_true, Bool.not_eq_true']
          exact ⟨inR_iff.2 ⟨by omega, by omega⟩, g3, g4⟩
        | succ k =>
          obtain ⟨q1, q2, q3, q4⟩ := h k z (by simpa using hz)
          have hk : ¬ (0 + (k + 1) = 0) := by omega
          rw [if_neg hk]
          simp only [Bool.and_eq_true, Bool.not_eq_true']
          have e2 : 0 + (k + 1) - 1 = k := by omega
          rw [e2]
          exact ⟨inR_iff.2 ⟨by omega, by omega⟩, q3, q4⟩
    by_cases ha : allI (stepOk s x1 (y :: rest)) 0 (y :: rest) = true
    · rw [if_pos ha]
      obtain ⟨⟨g1, g2, g3, g4⟩, g5, g6⟩ := hiff.1 ha
      have hlen : ((y :: rest).length : Int) - 1 = (rest.length : Int) := by simp
      have hwr : IntKind.i64.wrap (((y :: rest).length : Int) - 1) = ((rest.length : Nat) : Int) := by
        rw [hlen, wrap_id] <;> simp only [List.length_cons] at hl <;> omega
      have hlast : (y :: rest)[rest.length]? = some ((y :: rest).getD rest.length 0) := getD_get 0 (by simp)
      obtain ⟨z, hz⟩ : ∃ z, z = (y :: rest).getD rest.length 0 := ⟨_, rfl⟩
      rw [← hz] at hlast
      have hzr : 0 ≤ z ∧ z < (s.Trips.length : Int) := by
        have h0 := (allI_iff _ _ _).1 ha _ _ hlast
        unfold stepOk at h0
        rw [Bool.and_eq_true] at h0
        have := inR_iff.1 h0.1
        omega
      have ht : s.Trips[z.toNat]? = some (s.Trips[z.toNat]'(by omega)) := List.getElem?_eq_getElem (by omega)
      refine ⟨decide (tTo s z.toNat = x), ?_, ?_⟩
      · simp only [Option.bind_some, Sum.elim_inl, hwr, ix_nat, hlast, ix_int hzr.1, ht]
        rw [tTo_of ht]
        congr 1
      · rw [decide_eq_true_eq]
        have hlt := lastT_map rest y
        rw [← hz] at hlt
        have hall : ∀ w ∈ y :: rest, 0 ≤ w := fun w hw => by
          rcases List.mem_cons.1 hw with rfl | hw
          · exact g1
          · exact g5 w hw
        constructor
        · intro h
          refine ⟨(y :: rest).map Int.toNat, (ints_nat hall).symm, by omega, ?_, g4, g6, by rw [hlt]; exact h⟩
          unfold opB
          rw [Int.toNat_of_nonneg g1, g3]; rfl
        · rintro ⟨ln, e1, e2⟩
          have : ln = (y :: rest).map Int.toNat := by rw [e1]; simp [ints, Function.comp_def]
          subst this
          obtain ⟨_, _, _, _, h5⟩ := e2
          rw [hlt] at h5
          exact h5
    · rw [if_neg ha]
      refine ⟨false, rfl, (fun h => by cases h), ?_⟩
      rintro ⟨ln, e1, e2⟩
      refine absurd (hiff.2 ?_) ha
      have hall : ∀ w ∈ y :: rest, 0 ≤ w := fun w hw => by
        rw [e1] at hw
        simp only [ints, List.mem_map] at hw
        obtain ⟨i, _, rfl⟩ := hw
        omega
      have : ln = (y :: rest).map Int.toNat := by rw [e1]; simp [ints, Function.comp_def]
      subst this
      obtain ⟨q1, q2, q3, q4, q5⟩ := e2
      have hy := hall y (by simp)
      refine ⟨⟨hy, by omega, ?_, q3⟩, fun z hz => hall z (by simp [hz]), q4⟩
      unfold opB at q2
      rw [Int.toNat_of_nonneg hy] at q2
      simpa using q2
end
end Go.Proofs.Ytgplafckddpnkaa
