/-
  The statement BaneSpreads, in plain Lean.
-/
import Derived.Test.YtgplafckddpnkaaS13
namespace Go.Proofs.Ytgplafckddpnkaa
open Go.RowKit
set_option linter.unusedVariables false

theorem Gone.mono {s s' : TBaneSea} {op op' : Nat → Bool} (ht : ∀ (i : Nat) t, s'.Trips[i]? = some t → s.Trips[i]? = some t) (hi : s'.Infested = s.Infested) (hw : s.Wait ≤ s'.Wait) (ho : ∀ i, i < s'.Trips.length → op' i = true → op i = true) {i : Nat} (h : Gone s' op' i) : Gone s op i := by
  induction h with
  | base h1 h2 h3 => exact .base (ht _ _ h1) (ho _ (get_lt h1) h2) (by rw [← hi]; exact h3)
  | step h1 h2 _ h4 h5 h6 ih => exact .step (ht _ _ h1) (ho _ (get_lt h1) h2) ih (ht _ _ h4) h5 (by omega)
theorem Arr.mono {s s' : TBaneSea} {op op' : Nat → Bool} (ht : ∀ (i : Nat) t, s'.Trips[i]? = some t → s.Trips[i]? = some t) (hi : s'.Infested = s.Infested) (hw : s.Wait ≤ s'.Wait) (ho : ∀ i, i < s'.Trips.length → op' i = true → op i = true) {x d : Int} (h : Arr s' op' x d) : Arr s op x d := by
  rcases h with ⟨h1, h2⟩ | ⟨i, t, h1, h2, h3, h4⟩
  · exact .inl ⟨by rw [← hi]; exact h1, h2⟩
  · exact .inr ⟨i, t, h1.mono ht hi hw ho, ht i t h2, h3, h4⟩
theorem Arr.congr {s : TBaneSea} {op op' : Nat → Bool} (ho : ∀ i, i < s.Trips.length → op' i = op i) {x d : Int} : Arr s op' x d ↔ Arr s op x d :=
  ⟨fun h => h.mono (fun _ _ h => h) rfl (Int.le_refl _) fun i hi h => by rw [← ho i hi]; exact h, fun h => h.mono (fun _ _ h => h) rfl (Int.le_refl _) fun i hi h => by rw [ho i hi]; exact h⟩
theorem Right.congr {n : Int} {s : TBaneSea} {op op' : Nat → Bool} (ho : ∀ i, i < s.Trips.length → op' i = op i) {x v : Int} (h : Right n s op' x v) : Right n s op x v := by
  rcases h with ⟨h1, h2⟩ | ⟨h1, h2⟩
  · exact .inl ⟨(Arr.congr ho).1 h1, fun d hd => h2 d ((Arr.congr ho).2 hd)⟩
  · exact .inr ⟨h1, fun d hd => h2 d ((Arr.congr ho).2 hd)⟩
theorem Right.conv {s : TBaneSea} {I : Nat} (hs : Sea s I) {op : Nat → Bool} {x v : Int} (h : Right 1000000 s op x v) : Right (-1) s op x (if (v == 1000000) = true then -1 else v) := by
  rcases h with ⟨h1, h2⟩ | ⟨h1, h2⟩
  · have := h1.day hs
    have e : (v == 1000000) = false := by rw [beq_eq_false_iff_ne]; omega
    rw [e]
    exact .inl ⟨h1, h2⟩
  · subst h1
    exact .inr ⟨rfl, h2⟩
def opB (x1 : List Int) (i : Nat) : Bool := !x1.contains (i : Int)
theorem pow62 {n m : Nat} (hn : n ≤ 20) (h : m < 2 ^ n) : m < 2 ^ 62 := by
  have h1 := pow_small hn
  have : (1048576 : Nat) < 2 ^ 62 := by decide
  omega
theorem opS_bits {l : List Int} {n : Nat} (hn : n ≤ 20) (h : ∀ y ∈ l, 0 ≤ y ∧ y < (n : Int)) (i : Nat) : opS ((bitsN l : Nat) : Int) i = opB l i := by
  rw [opS_nat _ _ (pow62 hn (bits_lt h)), bits_mem fun y hy => (h y hy).1]
  rfl
theorem f30_eq (s : TBaneSea) (x1 : List Int) (hsh : seaShort s) (h1 : x1.length ≤ 1000) : f30 s x1 = some (if (seaOk s && incr x1 (s.Trips.length : Int)) = true then 0 else 2) := by
  unfold f30
  have h12 := hsh.2.2
  rw [f28_eq s hsh, f43_eq x1 _ h1 (by omega)]
  cases seaOk s <;> cases incr x1 (s.Trips.length : Int) <;> simp
theorem f73_eq (s : TBaneSea) (x1 : List Int) (hsh : seaShort s) (h1 : x1.length ≤ 1000) : f73 s x1 = some (if (seaOk s && incr x1 (s.Trips.length : Int)) = true then (⟨s, ((bitsN x1 : Nat) : Int)⟩, true) else (⟨⟨0, [], [], [], 0⟩, 0⟩, false)) := by
  unfold f73
  have h12 := hsh.2.2
  rw [f79_eq s hsh, f86_eq x1 _ h1 (by omega)]
  cases seaOk s with
  | false => simp
  | true =>
    cases hi : incr x1 (s.Trips.length : Int) with
    | false => simp
    | true =>
      simp only [Option.bind_some, Bool.not_true, Bool.false_eq_true, if_false, Bool.and_self, if_true]
      rw [f87_eq x1 _ h1 (by omega) (incr_iff.1 hi).1]
      rfl
/-- 'bane.Spread'. -/
theorem f39_eq (s : TBaneSea) (x1 : List Int) (hsh : seaShort s) (h1 : x1.length ≤ 1000) :
    ((seaOk s && incr x1 (s.Trips.length : Int)) = false → f39 s x1 = some ([], 2)) ∧
    (seaOk s = true → incr x1 (s.Trips.length : Int) = true → ∀ I, Sea s I → ∃ R, f39 s x1 = some (R, 0) ∧ R.length = I ∧ ∀ x, x < I → Right (-1) s (opB x1) (x : Int) (R.getD x 0)) := by
  have h12 := hsh.2.2
  constructor
  · intro h
    unfold f39
    rw [f73_eq s x1 hsh h1, h]
    rfl
  · intro hok hi I hs
    obtain ⟨R, h2, h3, h4⟩ := f75_eq (shut := ((bitsN x1 : Nat) : Int)) hs hsh
    refine ⟨R, ?_, h3, fun x hx => (h4 x hx).congr fun i _ => (opS_bits (by omega) (incr_iff.1 hi).1 i).symm ▸ rfl⟩
    unfold f39
    rw [f73_eq s x1 hsh h1, hok, hi]
    simp only [Bool.and_self, if_true, Option.bind_some, Bool.not_true, Bool.false_eq_true, if_false, h2]
/-- The bits of what doesn't go. -/
def shutN (m : Nat) (x2 : List Bool) : Nat → Nat
  | 0 => m
  | k + 1 => if x2.getD k false = true then shutN m x2 k else shutN m x2 k ||| 2 ^ k
theorem shutN_lt {m n : Nat} {x2 : List Bool} (hm : m < 2 ^ n) : ∀ k, k ≤ n → shutN m x2 k < 2 ^ n
  | 0, _ => hm
  | k + 1, h => by
    unfold shutN
    split
    · exact shutN_lt hm k (by omega)
    · exact Nat.or_lt_two_pow (shutN_lt hm k (by omega)) (Nat.pow_lt_pow_right (by decide) (by omega))
theorem shutN_bit (m : Nat) (x2 : List Bool) (i : Nat) : ∀ k, (shutN m x2 k).testBit i = (m.testBit i || (decide (i < k) && !x2.getD i false))
  | 0 => by simp [shutN]
  | k + 1 => by
    have ih := shutN_bit m x2 i k
    have e : shutN m x2 (k + 1) = if x2.getD k false = true then shutN m x2 k else shutN m x2 k ||| 2 ^ k := rfl
    rw [e]
    by_cases h : x2.getD k false = true
    · rw [if_pos h, ih]
      by_cases hk : i = k
      · subst hk; rw [h]; simp
      · have : (i < k + 1) ↔ i < k := by omega
        simp only [this]
    · rw [if_neg h, Nat.testBit_or, ih, Nat.testBit_two_pow]
      by_cases hk : i = k
      · subst hk
        have : x2.getD i false = false := by simpa using h
        rw [this]; simp
      · have h2 : (i < k + 1) ↔ i < k := by omega
        have h3 : ¬ k = i := fun h => hk h.symm
        simp only [h2, h3, decide_false, Bool.or_false]
/-- 'bane.Carried'. -/
theorem f50_eq (s : TBaneSea) (x1 : List Int) (x2 : List Bool) (hsh : seaShort s) (h1 : x1.length ≤ 1000) :
    ((seaOk s && incr x1 (s.Trips.length : Int)) = false → f50 s x1 x2 = some ([], 2)) ∧ (x2.length ≠ s.Trips.length → f50 s x1 x2 = some ([], 2)) ∧
    (seaOk s = true → incr x1 (s.Trips.length : Int) = true → x2.length = s.Trips.length → ∀ I, Sea s I → ∃ R, f50 s x1 x2 = some (R, 0) ∧ R.length = I ∧ ∀ x, x < I → Right (-1) s (opOf x1 x2) (x : Int) (R.getD x 0)) := by
  have h12 := hsh.2.2
  refine ⟨?_, ?_, ?_⟩
  · intro h
    unfold f50
    rw [f73_eq s x1 hsh h1, h]
    rfl
  · intro h
    unfold f50
    rw [f73_eq s x1 hsh h1, lens_beq]
    cases (seaOk s && incr x1 (s.Trips.length : Int)) <;> simp [h]
  · intro hok hi hl I hs
    have hr := (incr_iff.1 hi).1
    have hb := bits_lt hr
    have hloop : lp (f50_b0 x2) (0, ⟨s, ((bitsN x1 : Nat) : Int)⟩) = some ⟨s, ((shutN (bitsN x1) x2 s.Trips.length : Nat) : Int)⟩ := by
      rw [← hl]
      refine lp_thru x2 _ (fun k => ((k : Int), (⟨s, ((shutN (bitsN x1) x2 k : Nat) : Int)⟩ : TSea))) ?_ ?_
      · intro k y hy
        have hk := get_lt hy
        unfold f50_b0
        have c : (k : Int) < (x2.length : Int) := by omega
        have ey : x2.getD k false = y := by rw [List.getD_eq_getElem?_getD, hy]; rfl
        have hlt := shutN_lt (x2 := x2) hb k (by omega)
        have hlt2 : 2 ^ k < 2 ^ s.Trips.length := Nat.pow_lt_pow_right (by decide) (by omega)
        have e : shutN (bitsN x1) x2 (k + 1) = if x2.getD k false = true then shutN (bitsN x1) x2 k else shutN (bitsN x1) x2 k ||| 2 ^ k := rfl
        rw [e, ey]
        simp only [c, decide_true, if_true, ix_nat, hy, Option.bind_some, wrap_nat hk (by omega)]
        cases y with
        | true => simp
        | false =>
          simp only [Bool.not_false, if_true, Bool.false_eq_true, if_false, shl_nat k (by omega), Option.bind_some]
          rw [orI_nat _ _ (pow62 (show s.Trips.length ≤ 20 by omega) hlt) (pow62 (show s.Trips.length ≤ 20 by omega) hlt2)]
      · unfold f50_b0
        simp
    obtain ⟨R, h2, h3, h4⟩ := f75_eq (shut := ((shutN (bitsN x1) x2 s.Trips.length : Nat) : Int)) hs hsh
    refine ⟨R, ?_, h3, fun x hx => (h4 x hx).congr fun i hi' => ?_⟩
    · unfold f50
      rw [f73_eq s x1 hsh h1, hok, hi, lens_beq]
      simp only [Bool.and_self, if_true, Option.bind_some, Bool.not_true, Bool.false_eq_true, if_false, hl, decide_true, hloop, h2]
    · rw [opS_nat _ _ (pow62 (show s.Trips.length ≤ 20 by omega) (shutN_lt hb _ (Nat.le_refl _))), shutN_bit, bits_mem fun y hy => (hr y hy).1]
      unfold opOf
      simp [hi']
def convL (l : List Int) : List Int := l.map fun y => if (y == 1000000) = true then -1 else y
theorem f55_eq (l : List Int) (hl : l.length ≤ 1000) : f55 l = some (convL l) := by
  unfold f55
  have h : lp (f55_b0 l) ([], 0) = some (convL l) := by
    refine lp_thru l _ (fun k => ((convL l).take k, (k : Int))) ?_ ?_
    · intro k y hy
      have hk := get_lt hy
      have hg : (convL l)[k]? = some (if (y == 1000000) = true then -1 else y) := by simp [convL, hy]
      unfold f55_b0
      have c : (k : Int) < (l.length : Int) := by omega
      have ea : ∀ v, app ((convL l).take k) [v] = some ((convL l).take k ++ [v]) := fun v => app_short _ _ (by simp [convL]; omega)
      rw [take_snoc hg]
      simp only [c, decide_true, if_true, ix_nat, hy, Option.bind_some, wrap_nat hk (by omega)]
      cases (y == 1000000) <;> simp only [Bool.false_eq_true, if_false, if_true, Option.bind_some, ea]
    · unfold f55_b0
      rw [if_neg (by simp), List.take_of_length_le (by simp [convL])]
  rw [h]; rfl
/-- The program's days are the document's. -/
theorem days_same {s : TBaneSea} {I : Nat} (hs : Sea s I) {op op' : Nat → Bool} (ho : ∀ i, i < s.Trips.length → op' i = op i) {R : List Int} (h1 : R.length = I) (h2 : ∀ x, x < I → Right (-1) s op (x : Int) (R.getD x 0)) : R = convL (rounds s I op' (I + 1)) := by
  have hl := (rounds_snd (op := op') hs (I + 1)).1
  have hl2 : (convL (rounds s I op' (I + 1))).length = I := by simp [convL, hl]
  apply List.ext_getElem?
  intro x
  by_cases hx : x < I
  · have g1 : R[x]? = some (R.getD x 0) := getD_get 0 (by omega)
    have g2 : (rounds s I op' (I + 1))[x]? = some ((rounds s I op' (I + 1)).getD x 0) := getD_get 0 (by omega)
    have g3 : (convL (rounds s I op' (I + 1)))[x]? = some (if (((rounds s I op' (I + 1)).getD x 0) == 1000000) = true then -1 else (rounds s I op' (I + 1)).getD x 0) := by
      unfold convL
      rw [List.getElem?_map, g2]; rfl
    rw [g1, g3]
    congr 1
    exact Right.unique (h2 x hx) (((rounds_right (op := op') hs hx).conv hs).congr ho)
  · rw [List.getElem?_eq_none (by omega), List.getElem?_eq_none (by omega)]
theorem rep_true {n i : Nat} (h : i < n) : (List.replicate n true).getD i false = true := by
  rw [List.getD_eq_getElem?_getD, List.getElem?_replicate, if_pos h]; rfl
theorem baneSpreads (s : TBaneSea) (x1 : List Int) (x2 : List Bool) (_ : okTBaneSea s) (_ : ∀ y ∈ x1, okI y) (_ : ∀ y ∈ x2, True) : f14 s x1 x2 = some true := by
  obtain ⟨a, ha, hws⟩ := f27_eq s
  unfold f14
  rw [ha, known_pure]
  cases a with
  | false => simp
  | true =>
    have hsh := hws rfl
    have h12 := hsh.2.2
    rw [len_dec (l := x1) (c := 12) (n := 12) rfl]
    have e2 : decide ((12 : Int) < (x2.length : Int)) = !decide (x2.length ≤ 12) := by rw [Bool.eq_iff_iff]; simp; omega
    rw [e2]
    by_cases h1 : x1.length ≤ 12
    · by_cases h2 : x2.length ≤ 12
      · simp only [h1, h2, decide_true, Bool.not_true, Bool.false_eq_true, if_false, Option.bind_some]
        obtain ⟨p1, p2⟩ := f39_eq s x1 hsh (by omega)
        obtain ⟨c1, c2, c3⟩ := f50_eq s x1 x2 hsh (by omega)
        unfold f54
        rw [f79_eq s hsh, f28_eq s hsh, f30_eq s x1 hsh (by omega)]
        cases hok : seaOk s with
        | false =>
          rw [p1 (by rw [hok]; rfl), c1 (by rw [hok]; rfl)]
          simp
          decide
        | true =>
          cases hi : incr x1 (s.Trips.length : Int) with
          | false =>
            rw [p1 (by rw [hi, Bool.and_false]), c1 (by rw [hi, Bool.and_false])]
            simp
            decide
          | true =>
            obtain ⟨I, hs⟩ := sea_of hok
            have htop := hs.top
            obtain ⟨R, r1, r2, r3⟩ := p2 hok hi I hs
            have hl := (rounds_snd (op := opOf x1 (List.replicate s.Trips.length true)) hs (I + 1)).1
            have hR := days_same hs (op' := opOf x1 (List.replicate s.Trips.length true)) (fun i hi' => by unfold opOf opB; rw [rep_true hi']; simp) r2 r3
            rw [r1, f56_eq s I hs hsh x1 (by omega)]
            simp only [Option.bind_some]
            rw [f55_eq _ (by omega)]
            simp only [Option.bind_some]
            rw [f23_eq _ _ (by omega), lens_beq]
            by_cases hx2 : x2.length = s.Trips.length
            · obtain ⟨S, s1, s2, s3⟩ := c3 hok hi hx2 I hs
              have hl' := (rounds_snd (op := opOf x1 x2) hs (I + 1)).1
              have hS := days_same hs (op' := opOf x1 x2) (fun i _ => rfl) s2 s3
              rw [s1, f57_eq s I hs hsh x1 x2 (by omega) hx2]
              simp only [Option.bind_some]
              rw [f55_eq _ (by omega)]
              simp only [Option.bind_some]
              rw [f23_eq _ _ (by omega)]
              simp [hx2, ← hR, ← hS]
            · rw [c2 hx2]
              simp [hx2, ← hR]
      · simp [h1, h2]
    · simp [h1]
end Go.Proofs.Ytgplafckddpnkaa
