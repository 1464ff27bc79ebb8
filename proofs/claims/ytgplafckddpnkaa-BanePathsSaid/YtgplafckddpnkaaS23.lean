/-
  The statement BanePaths, in plain Lean.
-/
import Derived.Test.YtgplafckddpnkaaS22
namespace Go.Proofs.Ytgplafckddpnkaa
open Go.RowKit
set_option linter.unusedVariables false

section
variable {s : TBaneSea} {I : Nat}
noncomputable def pathB (s : TBaneSea) (op : Nat → Bool) (x : Int) (l : List Nat) : Bool := @decide (pathOk s op x l) (Classical.propDecidable _)
theorem pathB_iff {op : Nat → Bool} {x : Int} {l : List Nat} : pathB s op x l = true ↔ pathOk s op x l := by
  unfold pathB
  exact @decide_eq_true_iff _ (Classical.propDecidable _)
theorem f51L_eq (hs : Sea s I) (hsh : seaShort s) (x1 : List Int) (l : List Nat) (x : Int) (h1 : x1.length ≤ 1000) (hl : l.length ≤ 1000) : f51 s x1 (ints l) x = some (pathB s (opB x1) x l) := by
  obtain ⟨b, h2, h3⟩ := f51_eq hs hsh x1 (ints l) x h1 (by simpa [ints] using hl)
  rw [h2]
  congr 1
  rw [Bool.eq_iff_iff, pathB_iff, h3]
  exact ⟨fun ⟨ln, e, h⟩ => by rw [ints_inj e]; exact h, fun h => ⟨l, rfl, h⟩⟩
def frB (s : TBaneSea) (p : List Nat) (j : Nat) : Bool := allI (fun _ y => !(tFrom s y.toNat == tTo s j)) 0 (ints (p ++ [j]))
theorem frB_iff {p : List Nat} {j : Nat} : frB s p j = true ↔ Fresh s p j := by
  unfold frB Fresh
  rw [allI_iff]
  constructor
  · intro h m hm
    obtain ⟨k, hk⟩ := List.getElem?_of_mem hm
    have := h k (m : Int) (by unfold ints; rw [List.getElem?_map, hk]; rfl)
    simpa using this
  · intro h k y hy
    have hm : y ∈ ints (p ++ [j]) := List.mem_of_getElem? hy
    simp only [ints, List.mem_map] at hm
    obtain ⟨m, hm, rfl⟩ := hm
    have := h m hm
    simpa using this
theorem f102_eq (p : List Nat) (j : Nat) (hp : ∀ m ∈ p ++ [j], m < s.Trips.length) (hl : p.length ≤ 100) : f102 s (ints (p ++ [j])) = some (!frB s p j) := by
  have hlen : (ints (p ++ [j])).length = p.length + 1 := by simp [ints]
  have hwr : IntKind.i64.wrap (((ints (p ++ [j])).length : Int) - 1) = ((p.length : Nat) : Int) := by rw [hlen, wrap_id] <;> omega
  have hlast : (ints (p ++ [j]))[p.length]? = some (j : Int) := by simp [ints]
  have hjn := hp j (by simp)
  have ht : s.Trips[j]? = some (s.Trips[j]'hjn) := List.getElem?_eq_getElem hjn
  obtain ⟨t, htt⟩ : ∃ t, t = s.Trips[j]'hjn := ⟨_, rfl⟩
  rw [← htt] at ht
  have h : lp (f102_b0 s (ints (p ++ [j])) t) 0 = some (if frB s p j = true then .inl () else .inr true) := by
    unfold frB
    refine lp_all (ints (p ++ [j])) _ (Sum.inr true) (Sum.inl ()) (fun k => (k : Int)) ?_ ?_
    · intro k y hy
      have hk := get_lt hy
      have hm : y ∈ ints (p ++ [j]) := List.mem_of_getElem? hy
      simp only [ints, List.mem_map] at hm
      obtain ⟨m, hm, rfl⟩ := hm
      have hmn := hp m hm
      have hu : s.Trips[m]? = some (s.Trips[m]'hmn) := List.getElem?_eq_getElem hmn
      unfold f102_b0
      have c : (k : Int) < ((ints (p ++ [j])).length : Int) := by omega
      simp only [c, decide_true, if_true, ix_nat, hy, Option.bind_some, hu, wrap_nat hk (by omega), Int.toNat_natCast, tFrom_of hu, tTo_of ht]
      by_cases e : (s.Trips[m]'hmn).From = t.To <;> simp [e]
    · unfold f102_b0
      simp
  unfold f102
  rw [hwr]
  simp only [ix_nat, hlast, Option.bind_some, ht, h]
  cases frB s p j <;> rfl
theorem extD_succ (op : Nat → Bool) (k : Nat) (p : List Nat) : extD s op (k + 1) p = extD s op k p ++ if okExt s op p k = true then [p ++ [k]] else [] := by
  unfold extD
  rw [List.range_succ, List.filter_append, List.map_append]
  congr 1
  cases h : okExt s op p k <;> simp only [List.filter_cons, h, List.filter_nil] <;> simp
theorem okExt_B {op : Nat → Bool} {p : List Nat} {j : Nat} : okExt s op p j = (pathB s op (tTo s j) (p ++ [j]) && frB s p j) := by
  rw [Bool.eq_iff_iff, okExt_iff, Bool.and_eq_true, pathB_iff, frB_iff]
theorem f78_b2_eq (hs : Sea s I) (hsh : seaShort s) (x1 : List Int) (h1 : x1.length ≤ 1000) (C : List (List Int)) (k i : Nat) (p : List Nat) (A : List (List Int)) (hC : C[i]? = some (ints p)) (hpl : p.length ≤ 100) (hpn : ∀ m ∈ p, m < s.Trips.length) (hA : A.length ≤ 10000000) :
    lp (f78_b2 (C, (k : Int)) (A, (i : Int)) s x1) (A, 0) = some (A ++ (extD s (opB x1) s.Trips.length p).map ints) := by
  have hn := hs.num
  have hel : ∀ j, (extD s (opB x1) j p).length ≤ j := fun j => by
    unfold extD
    rw [List.length_map]
    exact Nat.le_trans (List.length_filter_le _ _) (by simp)
  have h := lp_thru (body := f78_b2 (C, (k : Int)) (A, (i : Int)) s x1) s.Trips (A ++ (extD s (opB x1) s.Trips.length p).map ints) (fun j => (A ++ (extD s (opB x1) j p).map ints, (j : Int))) ?_ ?_
  · have e0 : A ++ (extD s (opB x1) 0 p).map ints = A := by simp [extD]
    simp only [e0] at h
    exact h
  · intro j t ht
    have hj := get_lt ht
    have hjl := hel j
    have hpil : (ints p).length = p.length := by simp [ints]
    unfold f78_b2
    have c : (j : Int) < (s.Trips.length : Int) := by omega
    have ea : app (ints p) [(j : Int)] = some (ints (p ++ [j])) := by
      rw [app_short _ _ (by simp [hpil]; omega), ints_app]; rfl
    have ea0 : app [] (ints p) = some (ints p) := by rw [app_short _ _ (by simp [hpil]; omega)]; rfl
    have hall : ∀ m ∈ p ++ [j], m < s.Trips.length := fun m hm => by
      rcases List.mem_append.1 hm with hm | hm
      · exact hpn m hm
      · simp at hm; subst hm; exact hj
    simp only [c, decide_true, if_true, ix_nat, hC, Option.bind_some, ea0, ea, ht, f51L_eq hs hsh x1 (p ++ [j]) t.To h1 (by simp; omega), f102_eq p j hall hpl, wrap_nat hj (by omega), Bool.not_not]
    rw [extD_succ, okExt_B, tTo_of ht]
    have ea2 : app (A ++ (extD s (opB x1) j p).map ints) [ints (p ++ [j])] = some (A ++ (extD s (opB x1) j p).map ints ++ [ints (p ++ [j])]) := app_short _ _ (by simp; omega)
    cases pathB s (opB x1) t.To (p ++ [j]) with
    | false => simp
    | true =>
      cases frB s p j with
      | false => simp
      | true =>
        simp only [Bool.and_self, if_true, Option.bind_some, ea2]
        simp
  · unfold f78_b2
    simp
theorem f78_b1_eq (hs : Sea s I) (hsh : seaShort s) (hn : s.Trips.length ≤ 7) (x1 : List Int) (h1 : x1.length ≤ 1000) (k : Nat) (hk : k ≤ 6) : lp (f78_b1 ((docL s (opB x1) k).map ints, (k : Int)) s x1) ([], 0) = some ((docL s (opB x1) (k + 1)).map ints) := by
  have pw : s.Trips.length ^ (k + 1) ≤ 1000000 := Nat.le_trans (Nat.pow_le_pow_left hn _) (Nat.le_trans (Nat.pow_le_pow_right (by decide) (show k + 1 ≤ 7 by omega)) (by decide))
  have pw0 : s.Trips.length ^ k ≤ 1000000 := Nat.le_trans (Nat.pow_le_pow_left hn _) (Nat.le_trans (Nat.pow_le_pow_right (by decide) (show k ≤ 7 by omega)) (by decide))
  have hsz := docL_size (s := s) (op := opB x1) k
  have fl : ∀ (L : List (List Nat)), (L.flatMap (extD s (opB x1) s.Trips.length)).length ≤ L.length * s.Trips.length := by
    intro L
    induction L with
    | nil => simp
    | cons p L ih =>
      rw [List.flatMap_cons, List.length_append, List.length_cons, Nat.add_mul, Nat.one_mul]
      have : (extD s (opB x1) s.Trips.length p).length ≤ s.Trips.length := by
        unfold extD
        rw [List.length_map]
        exact Nat.le_trans (List.length_filter_le _ _) (by simp)
      omega
  have hfl : ∀ i, ((((docL s (opB x1) k).take i).flatMap (extD s (opB x1) s.Trips.length)).map ints).length ≤ 10000000 := fun i => by
    rw [List.length_map]
    have g1 := fl ((docL s (opB x1) k).take i)
    have g2 : ((docL s (opB x1) k).take i).length * s.Trips.length ≤ s.Trips.length ^ k * s.Trips.length := Nat.mul_le_mul_right _ (by rw [List.length_take]; omega)
    rw [show s.Trips.length ^ k * s.Trips.length = s.Trips.length ^ (k + 1) from (Nat.pow_succ _ _).symm] at g2
    omega
  refine lp_thru (docL s (opB x1) k) _ (fun i => ((((docL s (opB x1) k).take i).flatMap (extD s (opB x1) s.Trips.length)).map ints, (i : Int))) ?_ ?_
  · intro i p hp
    have hi := get_lt hp
    have hm := List.mem_of_getElem? hp
    obtain ⟨g1, g2⟩ := docL_len hm
    unfold f78_b1
    have c : (i : Int) < (((docL s (opB x1) k).map ints).length : Int) := by rw [List.length_map]; omega
    simp only [c, decide_true, if_true, wrap_nat hi (by omega)]
    rw [f78_b2_eq hs hsh x1 h1 _ k i p _ (by simp [hp]) (by omega) g2 (hfl i)]
    simp only [Option.bind_some]
    rw [take_snoc hp, List.flatMap_append]
    simp
  · unfold f78_b1
    simp [docL]
theorem f78_eq (hs : Sea s I) (hsh : seaShort s) (hn : s.Trips.length ≤ 7) (x1 : List Int) (h1 : x1.length ≤ 1000) (K : Nat) (hK : K ≤ 7) : f78 s x1 (K : Int) = some ((docL s (opB x1) K).map ints) := by
  unfold f78
  have h : lp (f78_b0 s x1 (K : Int)) ([[]], 0) = some ((docL s (opB x1) K).map ints) := by
    refine lp_thru (List.range K) _ (fun k => ((docL s (opB x1) k).map ints, (k : Int))) ?_ ?_
    · intro k y hy
      have hk : k < K := by have := get_lt hy; simpa using this
      unfold f78_b0
      have c : (k : Int) < (K : Int) := by omega
      simp only [c, decide_true, if_true, f78_b1_eq hs hsh hn x1 h1 k (by omega), Option.bind_some, wrap_nat hk (by omega)]
    · unfold f78_b0
      simp
  rw [h]; rfl
noncomputable def cand (s : TBaneSea) (op : Nat → Bool) (x v : Int) (l : List Nat) : Bool := pathB s op x l && decide (lastD s l = v)
theorem f32_b1_eq (hs : Sea s I) (hsh : seaShort s) (x1 : List Int) (h1 : x1.length ≤ 1000) (x v : Int) (L : List (List Nat)) (hL : L.length ≤ 10000000) (hl : ∀ l ∈ L, l.length ≤ 100) :
    lp (f32_b1 s x1 x v (L.map ints)) 0 = some (match L.find? (cand s (opB x1) x v) with | some l => .inr (ints l, true) | none => .inl ()) := by
  have key : ∀ (l : List (List Nat)) (k : Nat), L.drop k = l → k ≤ L.length → lp (f32_b1 s x1 x v (L.map ints)) (k : Int) = some (match l.find? (cand s (opB x1) x v) with | some l => .inr (ints l, true) | none => .inl ()) := by
    intro l
    induction l with
    | nil =>
      intro k hd hk
      have : k = L.length := by have := List.drop_eq_nil_iff.1 hd; omega
      subst this
      rw [lp_eq]
      unfold f32_b1
      simp
    | cons p l ih =>
      intro k hd hk
      have hlt : k < L.length := by
        rcases Nat.lt_or_ge k L.length with h | h
        · exact h
        · rw [List.drop_eq_nil_of_le h] at hd; cases hd
      rw [List.drop_eq_getElem_cons hlt] at hd
      injection hd with hy hd
      have hp : L[k]? = some p := by rw [List.getElem?_eq_getElem hlt, hy]
      have hpl := hl p (List.mem_of_getElem? hp)
      have ih' := ih (k + 1) hd hlt
      rw [lp_eq]
      unfold f32_b1
      have c : (k : Int) < ((L.map ints).length : Int) := by rw [List.length_map]; omega
      have hpi : (L.map ints)[k]? = some (ints p) := by simp [hp]
      simp only [c, decide_true, if_true, ix_nat, hpi, Option.bind_some, f51L_eq hs hsh x1 p x h1 (by omega), wrap_nat hlt (by omega), List.find?_cons]
      unfold cand at ih' ⊢
      cases hb : pathB s (opB x1) x p with
      | false =>
        simp only [Bool.false_eq_true, if_false, Option.bind_some, Bool.false_and]
        exact ih'
      | true =>
        rw [f52_eq (pathB_iff.1 hb) (by omega)]
        simp only [if_true, Option.bind_some, Bool.true_and]
        by_cases hv : lastD s p = v
        · simp [hv]
        · have : (lastD s p == v) = false := by simpa using hv
          simp only [this, hv, decide_false, Bool.false_eq_true, if_false]
          exact ih'
  exact key L 0 rfl (Nat.zero_le _)
/-- The document's path. -/
theorem f32_eq (hs : Sea s I) (hsh : seaShort s) (hn : s.Trips.length ≤ 7) (x1 : List Int) (h1 : x1.length ≤ 1000) (x v : Int) (hx : 0 ≤ x ∧ x < (I : Int)) (hv : Right (-1) s (opB x1) x v) :
    (v = -1 → f32 s x1 x = some ([], false)) ∧ (∀ l, pathOk s (opB x1) x l → lastD s l = v → (∀ l', pathOk s (opB x1) x l' → l' ≠ l → v < lastD s l' ∨ (v = lastD s l' ∧ ordB (ints l) (ints l'))) → f32 s x1 x = some (ints l, true)) := by
  have hI := hs.isl
  have htop := hs.top
  have hlen := (rounds_snd (op := opOf x1 (List.replicate s.Trips.length true)) hs (I + 1)).1
  have ex : ((x.toNat : Nat) : Int) = x := by omega
  have hD : Right 1000000 s (opB x1) x ((rounds s I (opOf x1 (List.replicate s.Trips.length true)) (I + 1)).getD x.toNat 0) := by
    have := (rounds_right (op := opOf x1 (List.replicate s.Trips.length true)) hs (show x.toNat < I by omega)).congr (op := opB x1) fun i hi => by unfold opOf opB; rw [rep_true hi]; simp
    rw [ex] at this
    exact this
  have hDx : (rounds s I (opOf x1 (List.replicate s.Trips.length true)) (I + 1))[x.toNat]? = some ((rounds s I (opOf x1 (List.replicate s.Trips.length true)) (I + 1)).getD x.toNat 0) := getD_get 0 (by omega)
  have hpre : ∀ d, d = (rounds s I (opOf x1 (List.replicate s.Trips.length true)) (I + 1)).getD x.toNat 0 → f32 s x1 x = (if (d == 1000000) = true then (some ([], false)) else ((lp (f32_b0 s x1 x d) 0).bind fun q17 => Sum.elim (fun p16 : Unit => some ([], false)) (fun v55 : (List Int) × Bool => some v55) q17)) := by
    intro d hd
    unfold f32
    rw [f56_eq s I hs hsh x1 h1]
    simp only [Option.bind_some, ix_int hx.1, hDx]
    rw [hd]
  generalize (rounds s I (opOf x1 (List.replicate s.Trips.length true)) (I + 1)).getD x.toNat 0 = d at hD hpre
  have hpre := hpre d rfl
  have hconv := hD.conv hs
  have hcv := Right.unique hconv hv
  constructor
  · intro hv1
    by_cases hd : (d == 1000000) = true
    · rw [hpre, if_pos hd]
    · rw [if_neg hd] at hcv
      rcases hD with ⟨g1, _⟩ | ⟨g1, _⟩
      · have := (g1.day hs).1; omega
      · exact absurd (by rw [g1]; rfl) hd
  · intro l hp hld hb
    have hdv : d ≠ 1000000 ∧ d = v := by
      by_cases hd : (d == 1000000) = true
      · rw [if_pos hd] at hcv
        rcases hv with ⟨g1, _⟩ | ⟨_, g2⟩
        · have := (g1.day hs).1; omega
        · exfalso
          cases l with
          | nil => exact g2 0 (.inl ⟨hp, rfl⟩)
          | cons i r => exact g2 _ (path_arr hp)
      · rw [if_neg hd] at hcv
        exact ⟨by simpa using hd, hcv⟩
    have hbest := best_in hs hp hld hb l.length (Nat.le_refl _)
    rw [List.take_length] at hbest
    obtain ⟨hin, hnd⟩ := hbest
    -- so many islets
    have hlI : l.length < I := by
      cases hl0 : l with
      | nil => simp; have := hs.pos; omega
      | cons i0 r0 =>
        have hne : l ≠ [] := by rw [hl0]; simp
        have hlast := List.dropLast_concat_getLast hne
        obtain ⟨k, hk⟩ : ∃ k, l.length = k + 1 := ⟨l.length - 1, by rw [hl0]; simp⟩
        have hin2 := hin
        rw [hk] at hin2
        simp only [docL, List.mem_flatMap] at hin2
        obtain ⟨p, _, hpl⟩ := hin2
        obtain ⟨j, hjn, hoke, hlj⟩ := mem_extD.1 hpl
        have hfr := (okExt_iff.1 hoke).2
        have hlt := (docL_len hin).2
        have key := nodup_len I ((tTo s j).toNat :: l.map fun m => (tFrom s m).toNat) (List.nodup_cons.2 ⟨fun hm => by
          obtain ⟨m, hm, e⟩ := List.mem_map.1 hm
          have h6 := hfr m (by rw [← hlj]; exact hm)
          have hmn := hlt m hm
          have t1 : s.Trips[m]? = some (s.Trips[m]'hmn) := List.getElem?_eq_getElem hmn
          have t2 : s.Trips[j]? = some (s.Trips[j]'hjn) := List.getElem?_eq_getElem hjn
          have r1 := hs.trip _ (List.mem_of_getElem? t1)
          have r2 := hs.trip _ (List.mem_of_getElem? t2)
          rw [tFrom_of t1, tTo_of t2] at h6 e
          omega, hnd⟩) (fun y hy => by
          rcases List.mem_cons.1 hy with rfl | hy
          · have t2 : s.Trips[j]? = some (s.Trips[j]'hjn) := List.getElem?_eq_getElem hjn
            have r2 := hs.trip _ (List.mem_of_getElem? t2)
            rw [tTo_of t2]; omega
          · obtain ⟨m, hm, rfl⟩ := List.mem_map.1 hy
            have hmn := hlt m hm
            have t1 : s.Trips[m]? = some (s.Trips[m]'hmn) := List.getElem?_eq_getElem hmn
            have r1 := hs.trip _ (List.mem_of_getElem? t1)
            rw [tFrom_of t1]; omega)
        simp only [List.length_cons, List.length_map] at key
        rw [← hl0]
        omega
    have hcl : cand s (opB x1) x v l = true := by
      unfold cand
      rw [Bool.and_eq_true, decide_eq_true_eq]
      exact ⟨pathB_iff.2 hp, hld⟩
    have hcand : ∀ c, cand s (opB x1) x v c = true → c = l ∨ ordB (ints l) (ints c) := by
      intro c hc
      unfold cand at hc
      rw [Bool.and_eq_true, decide_eq_true_eq] at hc
      rcases Classical.em (c = l) with e | e
      · exact .inl e
      · rcases hb c (pathB_iff.1 hc.1) e with h | ⟨_, h⟩
        · omega
        · exact .inr h
    have hil : ∀ q : List Nat, (ints q).length = q.length := fun q => by simp [ints]
    have hnone : ∀ k, k < l.length → (docL s (opB x1) k).find? (cand s (opB x1) x v) = none := by
      intro k hk
      rw [List.find?_eq_none]
      intro c hc hcc
      have hcl' := (docL_len hc).1
      rcases hcand c hcc with e | h | ⟨h, _⟩
      · subst e; omega
      · rw [hil, hil] at h; omega
      · rw [hil, hil] at h; omega
    have hsome : (docL s (opB x1) l.length).find? (cand s (opB x1) x v) = some l := by
      cases hf : (docL s (opB x1) l.length).find? (cand s (opB x1) x v) with
      | none => exact absurd hcl (by have := List.find?_eq_none.1 hf l hin; simpa using this)
      | some c =>
        rw [List.find?_eq_some_iff_append] at hf
        obtain ⟨hcc, A, B, hAB, hA⟩ := hf
        have hcm : c ∈ docL s (opB x1) l.length := by rw [hAB]; simp
        rcases hcand c hcc with e | h
        · rw [e]
        · exfalso
          have hcl' := (docL_len hcm).1
          have hlx : lexlt (ints l) (ints c) = true := by
            rcases h with h | ⟨_, h⟩
            · rw [hil, hil] at h; omega
            · exact h
          have hin' := hin
          rw [hAB] at hin'
          have hne : l ≠ c := fun e => by rw [e, lexlt_irrefl] at hlx; cases hlx
          rcases List.mem_append.1 hin' with h1' | h1'
          · have := hA l h1'; rw [hcl] at this; cases this
          · rcases List.mem_cons.1 h1' with h1' | h1'
            · exact hne h1'
            · have hso := docL_sorted (s := s) (op := opB x1) l.length
              rw [hAB, List.pairwise_append] at hso
              have := (List.pairwise_cons.1 hso.2.1).1 l h1'
              have := lexlt_trans hlx this
              rw [lexlt_irrefl] at this; cases this
    have hsz : ∀ k, k ≤ l.length → (docL s (opB x1) k).length ≤ 10000000 := fun k hk => by
      have g := docL_size (s := s) (op := opB x1) k
      have pw : s.Trips.length ^ k ≤ 1000000 := Nat.le_trans (Nat.pow_le_pow_left hn _) (Nat.le_trans (Nat.pow_le_pow_right (by decide) (show k ≤ 7 by omega)) (by decide))
      omega
    have hloop : ∀ (e k : Nat), k + e = l.length → lp (f32_b0 s x1 x v) (k : Int) = some (.inr (ints l, true)) := by
      intro e
      induction e with
      | zero =>
        intro k hk
        have : k = l.length := by omega
        subst this
        rw [lp_eq]
        unfold f32_b0
        have c : ((l.length : Nat) : Int) < s.Islets := by omega
        simp only [c, decide_true, if_true, f78_eq hs hsh hn x1 h1 l.length (by omega), Option.bind_some]
        rw [f32_b1_eq hs hsh x1 h1 x v _ (hsz _ (Nat.le_refl _)) (fun q hq => by have := (docL_len hq).1; omega), hsome]
        rfl
      | succ e ih =>
        intro k hk
        rw [lp_eq]
        unfold f32_b0
        have c : (k : Int) < s.Islets := by omega
        simp only [c, decide_true, if_true, f78_eq hs hsh hn x1 h1 k (by omega), Option.bind_some]
        rw [f32_b1_eq hs hsh x1 h1 x v _ (hsz _ (by omega)) (fun q hq => by have := (docL_len hq).1; omega), hnone k (by omega)]
        simp only [Option.bind_some, Sum.elim_inl, wrap_nat (show k < l.length by omega) (by omega)]
        exact ih (k + 1) (by omega)
    have hd0 : (d == 1000000) = false := by simpa using hdv.1
    rw [hpre, hd0, hdv.2]
    have h0 := hloop l.length 0 (by omega)
    have e0 : ((0 : Nat) : Int) = 0 := rfl
    rw [e0] at h0
    simp only [Bool.false_eq_true, if_false, h0, Option.bind_some, Sum.elim_inr]
end
theorem banePaths (s : TBaneSea) (x1 : List Int) (x2 : Int) (_ : okTBaneSea s) (_ : ∀ y ∈ x1, okI y) (_ : okI x2) : f5 s x1 x2 = some true := by
  obtain ⟨a, ha, hws⟩ := f27_eq s
  unfold f5
  rw [ha, known_pure]
  cases a with
  | false => simp
  | true =>
    have hsh := hws rfl
    have h12 := hsh.2.2
    rw [len_dec (l := x1) (c := 12) (n := 12) rfl, f28_eq s hsh]
    by_cases h1 : x1.length ≤ 12
    · simp only [h1, decide_true, Bool.not_true, Bool.false_eq_true, if_false, Option.bind_some]
      rw [f30_eq s x1 hsh (by omega), f31_eq]
      cases hok : seaOk s with
      | false =>
        have h29 : f29 s x1 x2 = some ([], 2) := by
          unfold f29
          rw [f73_eq s x1 hsh (by omega), hok]
          rfl
        rw [h29]
        simp
      | true =>
        by_cases h7 : (7 : Int) < (s.Trips.length : Int)
        · simp only [h7, decide_true, if_true, Option.bind_some]
        · simp only [h7, decide_false, if_true, Option.bind_some, Bool.false_eq_true, if_false]
          obtain ⟨I, hs⟩ := sea_of hok
          have hI := hs.isl
          have htop := hs.top
          have hwr : IntKind.i64.wrap (s.Islets - 1) = (I : Int) - 1 := by rw [hI, wrap_id] <;> omega
          cases hi : incr x1 (s.Trips.length : Int) with
          | false =>
            have h29 : f29 s x1 x2 = some ([], 2) := by
              unfold f29
              rw [f73_eq s x1 hsh (by omega), hok, hi]
              rfl
            rw [h29]
            simp
          | true =>
            cases hx : inR x2 0 (IntKind.i64.wrap (s.Islets - 1)) with
            | false =>
              have h29 : f29 s x1 x2 = some ([], 2) := by
                unfold f29
                rw [f73_eq s x1 hsh (by omega), hok, hi]
                simp only [Bool.and_self, if_true, Option.bind_some, Bool.not_true, Bool.false_eq_true, if_false, f66_eq, hx, Bool.not_false]
              rw [h29]
              simp
            | true =>
              rw [hwr] at hx
              have hx' := inR_iff.1 hx
              obtain ⟨R, r1, r2, r3⟩ := (f39_eq s x1 hsh (by omega)).2 hok hi I hs
              have hRx := r3 x2.toNat (by omega)
              have ex : ((x2.toNat : Nat) : Int) = x2 := by omega
              rw [ex] at hRx
              obtain ⟨d1, d2⟩ := f32_eq hs hsh (by omega) x1 (by omega) x2 _ ⟨by omega, by omega⟩ hRx
              simp only [Bool.and_self, if_true, Option.bind_some, bne_self_eq_false, Bool.false_eq_true, if_false, Bool.not_true]
              rcases f29_eq hs hsh x1 x2 _ hok hi (by omega) ⟨by omega, by omega⟩ hRx with ⟨l, p1, p2, p3, p4, p5⟩ | ⟨p1, p2, p3⟩
              · rw [p1, d2 l p2 p3 p5]
                have hll : (ints l).length = l.length := by simp [ints]
                simp only [Option.bind_some, Bool.not_true, Bool.false_eq_true, if_false]
                rw [f23_eq _ _ (by omega)]
                simp
              · rw [p1, d1 p2]
                simp
    · simp [h1]
end Go.Proofs.Ytgplafckddpnkaa
