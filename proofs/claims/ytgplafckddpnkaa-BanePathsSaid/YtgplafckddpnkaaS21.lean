/-
  The statement BaneCarried, in plain Lean.
-/
import Derived.Test.YtgplafckddpnkaaS20
namespace Go.Proofs.Ytgplafckddpnkaa
open Go.RowKit
set_option linter.unusedVariables false

section
variable {s : TBaneSea} {I : Nat} {op : Nat → Bool}
theorem lastT_lt : ∀ {r : List Nat} {i : Nat}, i < s.Trips.length → chF s op i r → lastT i r < s.Trips.length
  | [], _, h, _ => h
  | j :: r, _, _, ⟨h1, _, _, h4⟩ => (lastT_lt (r := r) (i := j) h1 h4 : lastT j r < s.Trips.length)
theorem ints_last : ∀ (r : List Nat) (i : Nat), (ints (i :: r))[r.length]? = some ((lastT i r : Nat) : Int)
  | [], _ => rfl
  | j :: r, i => by
    have := ints_last r j
    rw [ints_cons, List.length_cons, List.getElem?_cons_succ]
    exact this
theorem f52_eq {x : Int} {l : List Nat} (h : pathOk s op x l) (hl : l.length ≤ 1000) : f52 s (ints l) = some (lastD s l) := by
  unfold f52
  cases l with
  | nil => rfl
  | cons i r =>
    obtain ⟨h1, h2, h3, h4, h5⟩ := h
    have hlt := lastT_lt h1 h4
    have e : (((ints (i :: r)).length : Int) == 0) = false := by rw [beq_eq_false_iff_ne]; simp [ints]; omega
    have hwr : IntKind.i64.wrap (((ints (i :: r)).length : Int) - 1) = ((r.length : Nat) : Int) := by
      have : ((ints (i :: r)).length : Int) = (r.length : Int) + 1 := by simp [ints]
      rw [this, wrap_id] <;> simp only [List.length_cons] at hl <;> omega
    have ht : s.Trips[lastT i r]? = some (s.Trips[lastT i r]'hlt) := List.getElem?_eq_getElem hlt
    rw [e, hwr]
    simp only [Bool.false_eq_true, if_false, ix_nat, ints_last, Option.bind_some, ht]
    show some _ = some (dayT s (lastT i r))
    rw [dayT_of ht]
theorem lev_len {x E : Int} {l : List Nat} (h : fs (levF s op x E) s.Trips.length = some l) : l.length ≤ s.Trips.length ∧ l ≠ [] := by
  obtain ⟨m, h1, h2, _⟩ := fs_some h
  obtain ⟨i, _, g2, _⟩ := fs_some h2
  obtain ⟨r, rfl, _, _, q3⟩ := root_some g2
  obtain ⟨⟨_, b2, _⟩, _⟩ := bestC_some q3
  exact ⟨by simp [b2]; omega, by simp⟩
theorem lev_exists {x E : Int} (hx : ¬ s.Infested.contains x = true) (hE : Arr s op x E) : ∃ l, fs (levF s op x E) s.Trips.length = some l := by
  obtain ⟨i, r, h1, h2, h3⟩ := short_path hx hE
  cases h : fs (levF s op x E) s.Trips.length with
  | some l => exact ⟨l, rfl⟩
  | none =>
    have hm := fs_none h r.length h3
    exact (root_none (fs_none hm i h1.1) h1 h2 rfl).elim
/-- 'bane.Path'. -/
theorem f29_eq (hs : Sea s I) (hsh : seaShort s) (x1 : List Int) (x v : Int) (hok : seaOk s = true) (hi : incr x1 (s.Trips.length : Int) = true) (h1 : x1.length ≤ 1000) (hx : 0 ≤ x ∧ x < (I : Int)) (hv : Right (-1) s (opB x1) x v) :
    (∃ l, f29 s x1 x = some (ints l, 0) ∧ pathOk s (opB x1) x l ∧ lastD s l = v ∧ l.length ≤ s.Trips.length ∧ ∀ l', pathOk s (opB x1) x l' → l' ≠ l → v < lastD s l' ∨ (v = lastD s l' ∧ ordB (ints l) (ints l'))) ∨
    (f29 s x1 x = some ([], 5) ∧ v = -1 ∧ ∀ l', ¬ pathOk s (opB x1) x l') := by
  have hI := hs.isl
  have htop := hs.top
  have hn := hs.num
  have hil := hsh.1
  have hwr : IntKind.i64.wrap (s.Islets - 1) = (I : Int) - 1 := by rw [hI, wrap_id] <;> omega
  have hxr : inR x 0 ((I : Int) - 1) = true := inR_iff.2 ⟨by omega, by omega⟩
  have hop : opS ((bitsN x1 : Nat) : Int) = opB x1 := funext fun i => opS_bits (by omega) (incr_iff.1 hi).1 i
  have hge : ∀ l', l' ≠ [] → pathOk s (opB x1) x l' → Arr s (opB x1) x (lastD s l') := fun l' hne hp => by
    cases l' with
    | nil => exact absurd rfl hne
    | cons i r => exact path_arr hp
  by_cases hin : s.Infested.contains x = true
  · left
    have hv0 : v = 0 := by
      have h0 : Arr s (opB x1) x 0 := .inl ⟨hin, rfl⟩
      rcases hv with ⟨g1, g2⟩ | ⟨_, g2⟩
      · have := g2 0 h0; have := (g1.day hs).1; omega
      · exact (g2 0 h0).elim
    refine ⟨[], ?_, hin, hv0.symm, by simp, fun l' hp hne => ?_⟩
    · unfold f29
      rw [f73_eq s x1 hsh h1, hok, hi]
      simp only [Bool.and_self, if_true, Option.bind_some, Bool.not_true, Bool.false_eq_true, if_false, f66_eq, hwr, hxr, f74_eq s.Infested x (show s.Infested.length ≤ 1073741824 by omega), hin]
      rfl
    · have hd := ((hge l' hne hp).day hs).1
      rcases Int.lt_or_le v (lastD s l') with h | h
      · exact .inl h
      · refine .inr ⟨by omega, .inl ?_⟩
        cases l' with
        | nil => exact absurd rfl hne
        | cons i r => simp [ints]
  · obtain ⟨R, r1, r2, r3⟩ := f75_eq (shut := ((bitsN x1 : Nat) : Int)) hs hsh
    have ex : ((x.toNat : Nat) : Int) = x := by omega
    have hRx := r3 x.toNat (by omega)
    rw [ex, hop] at hRx
    have hRv : R.getD x.toNat 0 = v := Right.unique hRx hv
    have hR : R[x.toNat]? = some v := by rw [← hRv]; exact getD_get 0 (by omega)
    have hin' : s.Infested.contains x = false := by simpa using hin
    have hpre : f29 s x1 x = (if (decide (v < 0)) = true then (some ([], 5)) else ((lp (f29_b0 s x (⟨s, ((bitsN x1 : Nat) : Int)⟩, true) v) (0, [], ([] : (List ((Int × Int) × Bool))))).bind fun q63 => some (q63.1, 0))) := by
      unfold f29
      rw [f73_eq s x1 hsh h1, hok, hi]
      simp only [Bool.and_self, if_true, Option.bind_some, Bool.not_true, Bool.false_eq_true, if_false, f66_eq, hwr, hxr, f74_eq s.Infested x (show s.Infested.length ≤ 1073741824 by omega), hin', r1, ix_int hx.1, hR]
    rw [hpre]
    rcases hv with ⟨g1, g2⟩ | ⟨g1, g2⟩
    · left
      have hv0 := (g1.day hs).1
      have c : ¬ v < 0 := by omega
      obtain ⟨l, hl⟩ := lev_exists hin g1
      rw [← hop] at hl
      obtain ⟨M', hM⟩ := f29_loop hs hsh ((bitsN x1 : Nat) : Int) x v hl s.Trips.length 0 [] [] (by omega) (fun i m h => by simp [lookM] at h) rfl
      obtain ⟨b1, b2, b3⟩ := lev_best hl
      obtain ⟨b4, b5⟩ := lev_len hl
      rw [hop] at b1 b3
      have e0 : ((0 : Nat) : Int) = 0 := rfl
      rw [e0] at hM
      refine ⟨l, ?_, b1, b2, b4, fun l' hp hne => ?_⟩
      · simp only [c, decide_false, Bool.false_eq_true, if_false, hM, Option.bind_some]
      · have hne' : l' ≠ [] := fun e => by subst e; exact hin hp
        have hle := g2 _ (hge l' hne' hp)
        rcases Int.lt_or_le v (lastD s l') with h | h
        · exact .inl h
        · exact .inr ⟨by omega, b3 l' hne' hp (by omega) hne⟩
    · right
      have c : v < 0 := by omega
      refine ⟨by simp only [c, decide_true, if_true], g1, fun l' hp => ?_⟩
      cases l' with
      | nil => exact hin hp
      | cons i r => exact g2 _ (path_arr hp)
end
theorem ints_inj {a b : List Nat} (h : ints a = ints b) : a = b := by
  have : (ints a).map Int.toNat = (ints b).map Int.toNat := by rw [h]
  simpa [ints, Function.comp_def] using this
theorem baneCarried (s : TBaneSea) (x1 : List Int) (x2 : List Bool) (x3 : Int) (x4 : List Int) (_ : okTBaneSea s) (_ : ∀ y ∈ x1, okI y) (_ : ∀ y ∈ x2, True) (_ : okI x3) (_ : ∀ y ∈ x4, okI y) : f12 s x1 x2 x3 x4 = some true := by
  obtain ⟨a, ha, hws⟩ := f27_eq s
  unfold f12
  rw [ha, known_pure]
  cases a with
  | false => simp
  | true =>
    have hsh := hws rfl
    have h12 := hsh.2.2
    rw [len_dec (l := x1) (c := 12) (n := 12) rfl, len_dec (l := x4) (c := 12) (n := 12) rfl]
    by_cases h1 : x1.length ≤ 12
    · by_cases h4 : x4.length ≤ 12
      · simp only [h1, h4, decide_true, Bool.not_true, Bool.false_eq_true, if_false, Option.bind_some]
        rw [f30_eq s x1 hsh (by omega), lens_beq, f31_eq]
        cases hoki : (seaOk s && incr x1 (s.Trips.length : Int)) with
        | false => simp
        | true =>
          rw [Bool.and_eq_true] at hoki
          obtain ⟨hok, hi⟩ := hoki
          obtain ⟨I, hs⟩ := sea_of hok
          have hI := hs.isl
          have htop := hs.top
          have hn := hs.num
          by_cases hl : x2.length = s.Trips.length
          · cases hx3 : inR x3 0 (IntKind.i64.wrap (s.Islets - 1)) with
            | false => simp [hl]
            | true =>
              have hwr : IntKind.i64.wrap (s.Islets - 1) = (I : Int) - 1 := by rw [hI, wrap_id] <;> omega
              rw [hwr] at hx3
              have hx3' := inR_iff.1 hx3
              obtain ⟨R, r1, r2, r3⟩ := (f39_eq s x1 hsh (by omega)).2 hok hi I hs
              obtain ⟨S, s1, s2, s3⟩ := (f50_eq s x1 x2 hsh (by omega)).2.2 hok hi hl I hs
              have hR : R[x3.toNat]? = some (R.getD x3.toNat 0) := getD_get 0 (by omega)
              have hRx := r3 x3.toNat (by omega)
              have ex : ((x3.toNat : Nat) : Int) = x3 := by omega
              rw [ex] at hRx
              obtain ⟨v, hv⟩ : ∃ v, v = R.getD x3.toNat 0 := ⟨_, rfl⟩
              rw [← hv] at hR hRx
              have e1 : ((R.length : Int) != s.Islets) = false := by
                have : ((R.length : Nat) : Int) = s.Islets := by omega
                simp [this]
              have e2 : ((S.length : Int) != s.Islets) = false := by
                have : ((S.length : Nat) : Int) = s.Islets := by omega
                simp [this]
              have hlater : ∀ k, k < R.length → 0 ≤ S.getD k 0 → 0 ≤ R.getD k 0 ∧ R.getD k 0 ≤ S.getD k 0 := by
                intro k hk h0
                rcases s3 k (by omega) with ⟨g1, _⟩ | ⟨g1, _⟩
                · have g2 : Arr s (opB x1) (k : Int) (S.getD k 0) := g1.mono (s := s) (s' := s) (op := opB x1) (op' := opOf x1 x2) (fun _ _ h => h) rfl (Int.le_refl _) fun i _ ho => by
                    unfold opOf at ho
                    rw [Bool.and_eq_true] at ho
                    exact ho.1
                  rcases r3 k (by omega) with ⟨g3, g4⟩ | ⟨_, g4⟩
                  · have := g4 _ g2
                    have := (g3.day hs).1
                    omega
                  · exact (g4 _ g2).elim
                · omega
              have hloop : lp (f12_b0 s (R, 0) (S, 0)) 0 = some (.inl ()) := by
                refine lp_thru (List.range I) (Sum.inl ()) (fun k => (k : Int)) ?_ ?_
                · intro k y hy
                  have hk : k < I := by have := get_lt hy; simpa using this
                  unfold f12_b0
                  have c1 : (k : Int) < s.Islets := by omega
                  simp only [c1, decide_true, if_true, ix_nat, getD_get 0 (show k < S.length by omega), getD_get 0 (show k < R.length by omega), Option.bind_some, wrap_nat hk (by omega)]
                  by_cases h5 : 0 ≤ S.getD k 0
                  · have h6 := hlater k (by omega) h5
                    have c3 : ¬ R.getD k 0 < 0 := by omega
                    have c4 : ¬ S.getD k 0 < R.getD k 0 := by omega
                    simp only [h5, c3, c4, decide_true, decide_false, if_true, Bool.false_eq_true, if_false, Option.bind_some]
                  · simp only [h5, decide_false, Bool.false_eq_true, if_false, Option.bind_some]
                · unfold f12_b0
                  have c1 : ¬ (((List.range I).length : Nat) : Int) < s.Islets := by rw [List.length_range]; omega
                  simp only [c1, decide_false, Bool.false_eq_true, if_false]
              obtain ⟨b4, t1, t2⟩ := f51_eq hs hsh x1 x4 x3 (by omega) (by omega)
              rw [r1, s1]
              simp only [hl, decide_true, Bool.not_true, if_true, Option.bind_some, bne_self_eq_false, Bool.false_eq_true, if_false, e1, e2, hloop, Sum.elim_inl, t1, ix_int hx3'.1, hR]
              rcases f29_eq hs hsh x1 x3 v hok hi (by omega) ⟨by omega, by omega⟩ hRx with ⟨l, p1, p2, p3, p4, p5⟩ | ⟨p1, p2, p3⟩
              · rw [p1]
                simp only [Option.bind_some, bne_self_eq_false, Bool.false_eq_true, if_false]
                have hll : (ints l).length = l.length := by simp [ints]
                obtain ⟨b5, u1, u2⟩ := f51_eq hs hsh x1 (ints l) x3 (by omega) (by omega)
                have hb5 : b5 = true := u2.2 ⟨l, rfl, p2⟩
                have c1 : ¬ (s.Trips.length : Int) < ((ints l).length : Int) := by omega
                rw [u1, hb5, f52_eq p2 (by omega), p3]
                simp only [c1, decide_false, Bool.false_eq_true, if_false, Option.bind_some, Bool.not_true, bne_self_eq_false]
                cases b4 with
                | false => rfl
                | true =>
                  obtain ⟨l4, rfl, q2⟩ := t2.1 rfl
                  have hl4 : l4.length ≤ 12 := by simpa [ints] using h4
                  rw [f52_eq q2 (by omega), f47_eq _ _ (by omega) (by omega)]
                  simp only [Bool.not_true, Bool.false_eq_true, if_false, Option.bind_some]
                  by_cases he : l4 = l
                  · subst he
                    rw [p3, lexlt_irrefl]
                    simp
                  · rcases p5 l4 q2 he with q | ⟨q, q'⟩
                    · simp [q]
                    · have q0 : ¬ v < lastD s l4 := by omega
                      have q1 : (lastD s l4 == v) = true := by rw [beq_iff_eq]; omega
                      rcases q' with q3 | ⟨q3, q4⟩
                      · have : ((ints l).length : Int) < ((ints l4).length : Int) := by omega
                        simp only [q0, q1, this, decide_false, decide_true, Bool.false_eq_true, if_false, if_true, Option.bind_some]
                      · have hlx : lexlt (ints l4) (ints l) = false := by
                          rcases hx : lexlt (ints l4) (ints l) with _ | _
                          · rfl
                          · have := lexlt_trans q4 hx; rw [lexlt_irrefl] at this; cases this
                        have q5 : ¬ ((ints l).length : Int) < ((ints l4).length : Int) := by omega
                        have q6 : (((ints l4).length : Int) == ((ints l).length : Int)) = true := by rw [beq_iff_eq]; omega
                        simp only [q0, q1, q5, q6, hlx, decide_false, Bool.false_eq_true, if_false, if_true, Bool.not_false, Option.bind_some]
              · rw [p1, p2]
                have hb4 : b4 = false := by
                  cases b4 with
                  | false => rfl
                  | true =>
                    obtain ⟨l4, _, q2⟩ := t2.1 rfl
                    exact (p3 l4 q2).elim
                rw [hb4]
                rfl
          · simp [hl]
      · simp [h1, h4]
    · simp [h1]
end Go.Proofs.Ytgplafckddpnkaa
