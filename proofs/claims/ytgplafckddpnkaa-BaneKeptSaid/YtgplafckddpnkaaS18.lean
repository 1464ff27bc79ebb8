/-
  The statement BaneKept, in plain Lean.
-/
import Derived.Test.YtgplafckddpnkaaS17
namespace Go.Proofs.Ytgplafckddpnkaa
open Go.RowKit
set_option linter.unusedVariables false

theorem Kept.mono {s s' : TBaneSea} {op op' : Nat → Bool} (hc : s'.Clean = s.Clean) (h : ∀ x d, Arr s' op' x d → Arr s op x d) (hk : Kept s op) : Kept s' op' := fun x hx d hd => hk x (hc ▸ hx) d (h x d hd)
theorem wait_mono {s : TBaneSea} {a b : Int} (h : a ≤ b) (ha : waitB s a = true) : waitB s b = true := by
  unfold waitB at *
  rw [keptB_iff] at *
  exact Kept.mono (s := waitS s a) (s' := waitS s b) (op := opB []) (op' := opB []) rfl (fun x d hd => hd.mono (s := waitS s a) (s' := waitS s b) (op := opB []) (op' := opB []) (fun _ _ h => h) rfl h (fun _ _ h => h)) ha
theorem f53_eq (s : TBaneSea) (I : Nat) (hs : Sea s I) (hok : seaOk s = true) (hsh : seaShort s) (l : List Int) (hl : l.length ≤ 1000) (hi : incr l (s.Trips.length : Int) = true) : f53 s l = some (keptB s (opB l), true) := by
  obtain ⟨R, h1, h2, h3⟩ := (f39_eq s l hsh hl).2 hok hi I hs
  have hI := hs.isl
  have hc := hsh.2.1
  have e0 : (((R, (0 : Int)).1.length : Int) != s.Islets) = false := by
    have : ((R.length : Nat) : Int) = s.Islets := by omega
    simp [this]
  unfold f53
  rw [h1]
  simp only [Option.bind_some, bne_self_eq_false, Bool.false_eq_true, if_false]
  have e1 : ((R.length : Int) != s.Islets) = false := e0
  rw [e1]
  simp only [Bool.false_eq_true, if_false]
  have h : lp (f53_b0 s (R, 0)) 0 = some (if allI (fun _ x => R.getD x.toNat 0 == -1) 0 s.Clean = true then .inl () else .inr (false, true)) := by
    refine lp_all s.Clean _ (Sum.inr (false, true)) (Sum.inl ()) (fun k => (k : Int)) ?_ ?_
    · intro k x hx
      have hk := get_lt hx
      have hr := hs.cln x (List.mem_of_getElem? hx)
      unfold f53_b0
      rw [if_pos (by simpa using hk), ix_nat, hx, wrap_nat hk (by omega)]
      simp only [Option.bind_some, ix_int hr.1, getD_get 0 (show x.toNat < R.length by omega)]
      have e : (R.getD x.toNat 0 != -1) = !(R.getD x.toNat 0 == -1) := rfl
      rw [e]
      cases (R.getD x.toNat 0 == -1) <;> simp
    · unfold f53_b0
      simp
  rw [h, ← kept_all hs h3 (fun v => v == -1) (fun v => by rw [beq_iff_eq]) (by omega)]
  cases allI (fun _ (x : Int) => R.getD x.toNat 0 == -1) 0 s.Clean <;> rfl
theorem seaOk_wait {s : TBaneSea} (h : seaOk s = true) {k : Int} (h0 : 0 ≤ k) (h1 : k ≤ 40) : seaOk (waitS s k) = true := by
  unfold seaOk restOk at h ⊢
  simp only [Bool.and_eq_true] at h ⊢
  exact ⟨h.1, h.2.1, h.2.2.1, h.2.2.2.1, h.2.2.2.2.1, inR_iff.2 ⟨h0, h1⟩⟩
theorem least_spec (s : TBaneSea) : match leastW s with
    | some k => k < 41 ∧ waitB s (k : Int) = true ∧ ∀ j : Nat, j < k → waitB s (j : Int) = false
    | none => ∀ j : Nat, j < 41 → waitB s (j : Int) = false := by
  unfold leastW
  cases h : (List.range 41).find? (fun k : Nat => waitB s (k : Int)) with
  | none =>
    intro j hj
    have := List.find?_eq_none.1 h j (List.mem_range.2 hj)
    simpa using this
  | some k =>
    have hm := List.mem_range.1 (List.mem_of_find?_eq_some h)
    refine ⟨hm, List.find?_some (p := fun k : Nat => waitB s (k : Int)) h, fun j hj => ?_⟩
    rw [List.find?_eq_some_iff_append] at h
    obtain ⟨_, p, q, e, hp⟩ := h
    have hkp : (List.range 41)[p.length]? = some k := by rw [e]; simp
    have hpk : p.length = k := by
      have hlt := get_lt hkp
      rw [List.getElem?_eq_getElem hlt] at hkp
      simpa using hkp
    have hjp : p[j]? = some j := by
      have : (List.range 41)[j]? = some j := by rw [List.getElem?_range (by omega)]
      rw [e, List.getElem?_append_left (by omega)] at this
      exact this
    have := hp j (List.mem_of_getElem? hjp)
    simpa using this
theorem baneKept (s : TBaneSea) (x1 : List Bool) (x2 : List Int) (x3 : Int) (_ : okTBaneSea s) (_ : ∀ y ∈ x1, True) (_ : ∀ y ∈ x2, okI y) (_ : okI x3) : f13 s x1 x2 x3 = some true := by
  obtain ⟨a, ha, hws⟩ := f27_eq s
  unfold f13
  rw [ha, known_pure]
  cases a with
  | false => simp
  | true =>
    have hsh := hws rfl
    have h12 := hsh.2.2
    rw [len_dec (l := x2) (c := 12) (n := 12) rfl]
    by_cases h2 : x2.length ≤ 12
    · simp only [h2, decide_true, Bool.not_true, Bool.false_eq_true, if_false, Option.bind_some]
      rw [f30_eq s x2 hsh (by omega), lens_beq]
      cases hoki : (seaOk s && incr x2 (s.Trips.length : Int)) with
      | false => simp
      | true =>
        rw [Bool.and_eq_true] at hoki
        obtain ⟨hok, hi⟩ := hoki
        obtain ⟨I, hs⟩ := sea_of hok
        have hI := hs.isl
        by_cases hl : x1.length = s.Trips.length
        · by_cases h3 : x3 < 0
          · simp [hl, h3]
          · by_cases h4 : 40 < x3
            · simp [hl, h3, h4]
            · simp only [hl, h3, h4, decide_true, decide_false, Bool.not_true, if_true, Option.bind_some, bne_self_eq_false, Bool.false_eq_true, if_false]
              have hwx := f53_eq (waitS s x3) I (wait_sea hs (by omega) (by omega)) (seaOk_wait hok (by omega) (by omega)) hsh [] (by simp) rfl
              have ew : keptB (waitS s x3) (opB []) = waitB s x3 := rfl
              rw [ew] at hwx
              unfold waitS at hwx
              rw [f33_eq s hsh, hok, f53_eq s I hs hok hsh x2 (by omega) hi, hwx, f34_eq s hsh, hok]
              simp only [if_true, Option.bind_some, Bool.not_true, Bool.false_eq_true, if_false]
              have hle := least_spec s
              have hk0 : keptB s (opB x2) = keptL s x2 := rfl
              rw [hk0]
              -- the rest
              have hfin : (if ((answer (costT s) (bestS s)).2.2 != 0) = true then (((if ((answer (costT s) (bestS s)).2.2 == 5) = true then (if (!keptL s x2) = true then (some true) else (some false)) else (some false) : Option Bool)).bind fun q69 => some q69) else (((if (decide (12 < ((answer (costT s) (bestS s)).1.length : Int))) = true then (some true) else ((f43 (answer (costT s) (bestS s)).1 (s.Trips.length : Int)).bind fun y78 => if (!y78) = true then (some true) else ((f37 s (answer (costT s) (bestS s)).1).bind fun y81 => some ((answer (costT s) (bestS s)).2.1 != y81))) : Option Bool)).bind fun q76 => if q76 = true then (some false) else ((f50 s (answer (costT s) (bestS s)).1 x1).bind fun y86 => ((if (y86.2 != 0) = true then (some true) else (some ((y86.1.length : Int) != s.Islets)) : Option Bool)).bind fun q90 => if q90 = true then (some false) else ((lp (f13_b0 s y86) 0).bind fun q97 => Sum.elim (fun p96 : Unit => (f37 s x2).bind fun y109 => ((if (!keptL s x2) = true then (some true) else (if (decide ((answer (costT s) (bestS s)).2.1 < y109)) = true then (some true) else (if (y109 == (answer (costT s) (bestS s)).2.1) = true then (if (decide (((answer (costT s) (bestS s)).1.length : Int) < (x2.length : Int))) = true then (some true) else (if ((x2.length : Int) == ((answer (costT s) (bestS s)).1.length : Int)) = true then ((f47 x2 (answer (costT s) (bestS s)).1).bind fun y123 => if (!y123) = true then (some true) else (some false)) else (some false))) else (some false))) : Option Bool)).bind fun q111 => some q111) (fun v130 : Bool => some v130) q97)))) = some true := by
                have hb := bestS_spec s
                cases hbest : bestS s with
                | none =>
                  rw [hbest] at hb
                  rw [hb x2 hi]
                  rfl
                | some l =>
                  rw [hbest] at hb
                  obtain ⟨⟨hil, hsl⟩, hbe⟩ := hb
                  have hll := incr_len hil
                  obtain ⟨R, r1, r2, r3⟩ := (f50_eq s l x1 hsh (by omega)).2.2 hok hil hl I hs
                  have hkept : Kept s (opOf l x1) := by
                    have : Kept s (opB l) := keptB_iff.1 hsl
                    exact this.mono rfl fun x d hd => hd.mono (s := s) (s' := s) (op := opB l) (op' := opOf l x1) (fun _ _ h => h) rfl (Int.le_refl _) fun i _ ho => by
                      unfold opOf at ho
                      rw [Bool.and_eq_true] at ho
                      exact ho.1
                  have hc12 := hsh.2.1
                  have hlp : lp (f13_b0 s (R, 0)) 0 = some (.inl ()) := by
                    refine lp_thru s.Clean (Sum.inl ()) (fun k => (k : Int)) ?_ ?_
                    · intro k x hx
                      have hk := get_lt hx
                      have hr := hs.cln x (List.mem_of_getElem? hx)
                      have e : ((x.toNat : Nat) : Int) = x := by omega
                      have hv := r3 x.toNat (by omega)
                      rw [e] at hv
                      have hv2 : R.getD x.toNat 0 = -1 := by
                        rcases hv with ⟨g, _⟩ | ⟨g, _⟩
                        · exact (hkept x (List.mem_of_getElem? hx) _ g).elim
                        · exact g
                      unfold f13_b0
                      rw [if_pos (by simpa using hk), ix_nat, hx, wrap_nat hk (by omega)]
                      simp only [Option.bind_some, ix_int hr.1, getD_get 0 (show x.toNat < R.length by omega), hv2, bne_self_eq_false, Bool.false_eq_true, if_false]
                    · unfold f13_b0
                      simp
                  have e1 : ((R.length : Int) != s.Islets) = false := by
                    have : ((R.length : Nat) : Int) = s.Islets := by omega
                    simp [this]
                  have g3 : ¬ (12 : Int) < (l.length : Int) := by omega
                  have e3 : costL (fun y => (s.Trips.map (·.Cost)).getD y.toNat 0) l = costT s l := rfl
                  have e4 : costL (fun y => (s.Trips.map (·.Cost)).getD y.toNat 0) x2 = costT s x2 := rfl
                  simp only [answer, bne_self_eq_false, Bool.false_eq_true, if_false]
                  rw [f43_eq l _ (by omega) (by omega), hil, f37_eq s l (by omega) (incr_iff.1 hil).1, r1, f37_eq s x2 (by omega) (incr_iff.1 hi).1, f47_eq x2 l (by omega) (by omega), e3, e4]
                  simp only [g3, decide_false, Bool.not_true, Bool.false_eq_true, if_false, Option.bind_some, bne_self_eq_false, e1, hlp, Sum.elim_inl]
                  cases hsx : keptL s x2 with
                  | false => rfl
                  | true =>
                    simp only [Bool.not_true, Bool.false_eq_true, if_false]
                    by_cases he : x2 = l
                    · subst he
                      rw [lexlt_irrefl]
                      simp
                    · rcases hbe x2 ⟨hi, hsx⟩ he with q | ⟨q, q⟩
                      · simp [q]
                      · rename_i q'
                        have q0 : ¬ costT s l < costT s x2 := by omega
                        have q1 : (costT s x2 == costT s l) = true := by rw [beq_iff_eq]; exact q'.symm
                        rcases q with q | ⟨q, q2⟩
                        · have : (l.length : Int) < (x2.length : Int) := by omega
                          simp [q0, q1, q]
                        · have hlx : lexlt x2 l = false := by
                            rcases hx : lexlt x2 l with _ | _
                            · rfl
                            · have := lexlt_trans q2 hx; rw [lexlt_irrefl] at this; cases this
                          have q3 : ¬ (l.length : Int) < (x2.length : Int) := by omega
                          have q4 : ((x2.length : Int) == (l.length : Int)) = true := by rw [beq_iff_eq]; omega
                          simp only [q0, q1, q3, q4, hlx, decide_false, Bool.false_eq_true, if_false, if_true, Bool.not_false, Option.bind_some]
              cases hlw : leastW s with
              | none =>
                rw [hlw] at hle
                have hwf : waitB s x3 = false := by
                  have := hle x3.toNat (by omega)
                  rwa [Int.toNat_of_nonneg (by omega)] at this
                rw [hwf]
                exact hfin
              | some k =>
                rw [hlw] at hle
                obtain ⟨hk41, hkt, hkf⟩ := hle
                have hwv : waitB s x3 = decide ((k : Int) ≤ x3) := by
                  by_cases hk : (k : Int) ≤ x3
                  · rw [wait_mono hk hkt]; simp [hk]
                  · have := hkf x3.toNat (by omega)
                    rw [Int.toNat_of_nonneg (by omega)] at this
                    rw [this]; simp [hk]
                rw [hwv]
                simp only [bne_self_eq_false, beq_self_eq_true, Bool.not_true, Bool.false_eq_true, if_false, if_true, Option.bind_some]
                by_cases hk0' : (0 : Int) < (k : Int)
                · have hwr : IntKind.i64.wrap ((k : Int) - 1) = ((k - 1 : Nat) : Int) := by rw [wrap_id] <;> omega
                  have hwk := f53_eq (waitS s ((k - 1 : Nat) : Int)) I (wait_sea hs (by omega) (by omega)) (seaOk_wait hok (by omega) (by omega)) hsh [] (by simp) rfl
                  have ew' : keptB (waitS s ((k - 1 : Nat) : Int)) (opB []) = waitB s ((k - 1 : Nat) : Int) := rfl
                  rw [ew', hkf (k - 1) (by omega)] at hwk
                  unfold waitS at hwk
                  rw [hwr, hwk]
                  simp only [hk0', decide_true, if_true, Option.bind_some, Bool.not_true, Bool.false_eq_true, if_false, Sum.elim_inl]
                  exact hfin
                · simp only [hk0', decide_false, Option.bind_some, Bool.false_eq_true, if_false, Sum.elim_inl]
                  exact hfin
        · simp [hl]
    · simp [h2]
end Go.Proofs.Ytgplafckddpnkaa
