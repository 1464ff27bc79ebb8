/-
  Guards: the program's best and the document's; the statement BaneGuards, in plain Lean.
-/
import Derived.Test.YtgplafckddpnkaaS14
namespace Go.Proofs.Ytgplafckddpnkaa
open Go.RowKit
set_option linter.unusedVariables false

/-! ### What is kept -/
def Kept (s : TBaneSea) (op : Nat → Bool) : Prop := ∀ x ∈ s.Clean, ∀ d, ¬ Arr s op x d
noncomputable def keptB (s : TBaneSea) (op : Nat → Bool) : Bool := @decide (Kept s op) (Classical.propDecidable _)
theorem keptB_iff {s : TBaneSea} {op : Nat → Bool} : keptB s op = true ↔ Kept s op := by
  unfold keptB
  exact @decide_eq_true_iff _ (Classical.propDecidable _)
theorem keptB_congr {s : TBaneSea} {op op' : Nat → Bool} (ho : ∀ i, i < s.Trips.length → op' i = op i) : keptB s op' = keptB s op := by
  rw [Bool.eq_iff_iff, keptB_iff, keptB_iff]
  exact ⟨fun h x hx d hd => h x hx d ((Arr.congr ho).2 hd), fun h x hx d hd => h x hx d ((Arr.congr ho).1 hd)⟩
theorem f107_eq (l : List Int) (g : Int → Option Bool) (p : Int → Bool) (hg : ∀ t ∈ l, g t = some (p t)) (hl : l.length ≤ 1000) : f107 l g = some (!allI (fun _ t => !p t) 0 l) := by
  have h : lp (f116_b0 l g) 0 = goL (fun k y (_ : Unit) => some (if p y = true then .inr (.inr (k : Int)) else .inl ())) (fun _ => .inl ()) 0 l () := by
    refine lp_goL (fun k _ => (k : Int)) l _ _ ?_ ?_ ()
    · intro k t y hy
      have hk := get_lt hy
      unfold f116_b0
      rw [if_pos (by simpa using hk), ix_nat, hy, wrap_nat hk (by omega)]
      simp only [Option.bind_some, hg y (List.mem_of_getElem? hy)]
      cases p y <;> simp
    · intro t
      unfold f116_b0
      simp
  have h2 : ∀ (l : List Int) (k : Nat), ∃ r : Unit ⊕ Int, goL (fun k y (_ : Unit) => some (if p y = true then .inr (.inr (k : Int)) else .inl ())) (fun _ => .inl ()) k l () = some r ∧ (match r with | .inl _ => allI (fun _ t => !p t) k l = true | .inr i => allI (fun _ t => !p t) k l = false ∧ 0 ≤ i) := by
    intro l
    induction l with
    | nil => intro k; exact ⟨_, rfl, rfl⟩
    | cons y l ih =>
      intro k
      cases h : p y with
      | true => exact ⟨.inr k, by simp only [goL, h, if_true], by simp only [allI, h, Bool.not_true, Bool.false_and]; exact ⟨trivial, by omega⟩⟩
      | false =>
        obtain ⟨r, h1, h2⟩ := ih (k + 1)
        refine ⟨r, by simp only [goL, h, Bool.false_eq_true, if_false]; exact h1, ?_⟩
        simp only [allI, h, Bool.not_false, Bool.true_and]
        exact h2
  obtain ⟨r, h3, h4⟩ := h2 l 0
  unfold f107 f116
  rw [h, h3]
  cases r with
  | inl _ => simp only at h4; rw [h4]; rfl
  | inr i => obtain ⟨h4, h5⟩ := h4; rw [h4]; simp [h5]
theorem kept_all {never : Int} {s : TBaneSea} {I : Nat} (hs : Sea s I) {op : Nat → Bool} {R : List Int} (h : ∀ x, x < I → Right never s op (x : Int) (R.getD x 0)) (q : Int → Bool) (hq : ∀ v, q v = true ↔ v = never) (hn : never < 0 ∨ 400 < never) : allI (fun _ x => q (R.getD x.toNat 0)) 0 s.Clean = keptB s op := by
  rw [Bool.eq_iff_iff, keptB_iff, allI_iff]
  constructor
  · intro h1 x hx d hd
    obtain ⟨j, hj⟩ := List.getElem?_of_mem hx
    have hr := hs.cln x hx
    have h2 := (hq _).1 (h1 j x hj)
    have e : ((x.toNat : Nat) : Int) = x := by omega
    have h3 := h x.toNat (by omega)
    rw [e] at h3
    rcases h3 with ⟨g1, _⟩ | ⟨_, g2⟩
    · have := g1.day hs; omega
    · exact g2 d hd
  · intro h1 j x hj
    have hx := List.mem_of_getElem? hj
    have hr := hs.cln x hx
    have e : ((x.toNat : Nat) : Int) = x := by omega
    have h3 := h x.toNat (by omega)
    rw [e] at h3
    rcases h3 with ⟨g1, _⟩ | ⟨g1, _⟩
    · exact (h1 x hx _ g1).elim
    · exact (hq _).2 g1
theorem f83_eq (s : TBaneSea) (I : Nat) (hs : Sea s I) (hsh : seaShort s) (shut : Int) : f83 ⟨s, shut⟩ = some (keptB s (opS shut)) := by
  obtain ⟨R, h1, h2, h3⟩ := f75_eq (shut := shut) hs hsh
  have hc := hsh.2.1
  unfold f83
  rw [h1]
  simp only [Option.bind_some]
  rw [f107_eq s.Clean _ (fun x => decide (0 ≤ R.getD x.toNat 0)) (fun x hx => by
    have hr := hs.cln x hx
    unfold f108
    rw [ix_int hr.1, getD_get 0 (show x.toNat < R.length by omega)]
    rfl) (by omega)]
  simp only [Option.bind_some, Bool.not_not]
  have h4 : ∀ x ∈ s.Clean, 0 ≤ R.getD x.toNat 0 ∨ R.getD x.toNat 0 = -1 := fun x hx => by
    have hr := hs.cln x hx
    rcases h3 x.toNat (by omega) with ⟨g1, _⟩ | ⟨g1, _⟩
    · exact .inl (g1.day hs).1
    · exact .inr g1
  rw [← kept_all hs h3 (fun v => v == -1) (fun v => by rw [beq_iff_eq]) (by omega)]
  have hcg := allI_congr (p := fun _ (x : Int) => !decide (0 ≤ R.getD x.toNat 0)) (q := fun _ (x : Int) => R.getD x.toNat 0 == -1) s.Clean 0 (fun j x hx => by
    rcases h4 x (List.mem_of_getElem? hx) with h | h
    · have e : (R.getD x.toNat 0 == -1) = false := by rw [beq_eq_false_iff_ne]; omega
      simp only [h, e, decide_true, Bool.not_true]
    · simp only [h]; rfl)
  rw [hcg]
theorem f84_eq (s : TBaneSea) (I : Nat) (hs : Sea s I) (hsh : seaShort s) (l : List Int) (hl : l.length ≤ 1000) : f84 s l = some (keptB s (opB l)) := by
  have hc := hsh.2.1
  have hD : ∀ x, x < I → Right 1000000 s (opB l) (x : Int) ((rounds s I (opOf l (List.replicate s.Trips.length true)) (I + 1)).getD x 0) := fun x hx => (rounds_right hs hx).congr fun i hi => by unfold opOf opB; rw [rep_true hi]; simp
  have hlen := (rounds_snd (op := opOf l (List.replicate s.Trips.length true)) hs (I + 1)).1
  unfold f84
  rw [f56_eq s I hs hsh l hl]
  simp only [Option.bind_some]
  generalize rounds s I (opOf l (List.replicate s.Trips.length true)) (I + 1) = D at hD hlen
  rw [← kept_all hs hD (fun v => v == 1000000) (fun v => by rw [beq_iff_eq]) (by omega)]
  have h : lp (f84_b0 s D) 0 = some (if allI (fun _ x => D.getD x.toNat 0 == 1000000) 0 s.Clean = true then .inl () else .inr false) := by
    refine lp_all s.Clean _ (Sum.inr false) (Sum.inl ()) (fun k => (k : Int)) ?_ ?_
    · intro k x hx
      have hk := get_lt hx
      have hr := hs.cln x (List.mem_of_getElem? hx)
      unfold f84_b0
      rw [if_pos (by simpa using hk), ix_nat, hx, wrap_nat hk (by omega)]
      simp only [Option.bind_some, ix_int hr.1, getD_get 0 (show x.toNat < D.length by omega)]
      have e : (D.getD x.toNat 0 != 1000000) = !(D.getD x.toNat 0 == 1000000) := rfl
      rw [e]
      cases (D.getD x.toNat 0 == 1000000) <;> simp
    · unfold f84_b0
      simp
  rw [h]
  cases allI (fun _ (x : Int) => D.getD x.toNat 0 == 1000000) 0 s.Clean <;> rfl
/-! ### The program's best -/
theorem f80_b1_eq (s : TBaneSea) (l : List Int) (B Z : TChoice) (hl : l.length ≤ 1000) (h : ∀ y ∈ l, 0 ≤ y ∧ y < (s.Trips.length : Int)) :
    lp (f80_b1 s.Trips (fun z0 => f81 z0) l) (0, (⟨0, l⟩ : TChoice), B, Z) = some ((⟨costL (fun y => (s.Trips.map (·.Cost)).getD y.toNat 0) l, l⟩ : TChoice), B, Z) := by
  refine lp_thru l _ (fun k => ((k : Int), (⟨plus 0 ((l.map fun y => (s.Trips.map (·.Cost)).getD y.toNat 0).take k), l⟩ : TChoice), B, Z)) ?_ ?_
  · intro k y hy
    have hk := get_lt hy
    obtain ⟨h1, h2⟩ := h y (List.mem_of_getElem? hy)
    have hf : s.Trips[y.toNat]? = some (s.Trips[y.toNat]'(by omega)) := List.getElem?_eq_getElem (by omega)
    have hc : (l.map fun y => (s.Trips.map (·.Cost)).getD y.toNat 0)[k]? = some (s.Trips[y.toNat]'(by omega)).Cost := by simp [hy, hf]
    unfold f80_b1
    rw [if_pos (by simpa using hk), ix_nat, hy]
    simp only [Option.bind_some, ix_int h1, hf, f81, wrap_nat hk (by omega)]
    rw [take_snoc hc, plus_snoc]
    rfl
  · unfold f80_b1
    rw [if_neg (by simp), List.take_of_length_le (by simp)]
    rfl
theorem f80_eq (s : TBaneSea) (x2 : Int → Option Bool) (holds : Nat → Bool) (hn : s.Trips.length ≤ 20) (hx : ∀ m : Nat, m < 2 ^ s.Trips.length → x2 (m : Int) = some (holds m)) :
    f80 s.Trips (fun z0 => f81 z0) x2 = some ((chosen (costL (fun y => (s.Trips.map (·.Cost)).getD y.toNat 0)) (bestN (costL (fun y => (s.Trips.map (·.Cost)).getD y.toNat 0)) holds s.Trips.length (2 ^ s.Trips.length))).2, (chosen (costL (fun y => (s.Trips.map (·.Cost)).getD y.toNat 0)) (bestN (costL (fun y => (s.Trips.map (·.Cost)).getD y.toNat 0)) holds s.Trips.length (2 ^ s.Trips.length))).1) := by
  obtain ⟨n, hnn⟩ : ∃ n, n = s.Trips.length := ⟨_, rfl⟩
  obtain ⟨cost, hcost⟩ : ∃ c, c = costL (fun y => (s.Trips.map (·.Cost)).getD y.toNat 0) := ⟨_, rfl⟩
  have hp := pow_small hn
  unfold f80
  rw [← hnn] at hn hp hx
  rw [← hcost, ← hnn]
  rw [shl_nat n (by omega)]
  simp only [Option.bind_some]
  have h : lp (f80_b0 s.Trips (fun z0 => f81 z0) x2 ((2 ^ n : Nat) : Int)) (false, 0, (⟨0, []⟩ : TChoice), (⟨0, []⟩ : TChoice)) = some ((chosen cost (bestN cost holds n (2 ^ n))).1, (chosen cost (bestN cost holds n (2 ^ n))).2, (⟨0, []⟩ : TChoice)) := by
    refine lp_thru (List.range (2 ^ n)) _ (fun k => ((chosen cost (bestN cost holds n k)).1, (k : Int), (chosen cost (bestN cost holds n k)).2, (⟨0, []⟩ : TChoice))) ?_ ?_
    · intro k y hy
      have hk : k < 2 ^ n := by have := get_lt hy; simpa using this
      have hk62 : (k : Nat) < 2 ^ 62 := by have : (1048576 : Nat) < 2 ^ 62 := by decide
                                           omega
      have c : (k : Int) < ((2 ^ n : Nat) : Int) := by omega
      have hll : (lst k n).length ≤ 1000 := by have := lst_len k n; omega
      unfold f80_b0
      rw [← hnn]
      simp only [c, decide_true, if_true, f105_eq k n hk62 (by omega), Option.bind_some, wrap_nat hk (show 2 ^ n ≤ 1073741824 by omega)]
      rw [f80_b1_eq s (lst k n) _ _ hll (by rw [← hnn]; exact (incr_iff.1 (lst_incr k n)).1), ← hcost]
      simp only [Option.bind_some, hx k hk]
      cases hb : bestN cost holds n k with
      | none =>
        simp only [chosen, bestN, hb, Bool.not_false, if_true, Option.bind_some]
        cases holds k <;> simp
      | some b =>
        obtain ⟨j, _, rfl⟩ := bestN_in cost holds n k b hb
        have hjl : (lst j n).length ≤ 1000 := by have := lst_len j n; omega
        simp only [chosen, bestN, hb, Bool.not_true, Bool.false_eq_true, if_false]
        rw [f106_eq cost _ _ hll hjl]
        simp only [Option.bind_some]
        cases befB cost (lst k n) (lst j n) <;> cases holds k <;> simp
    · unfold f80_b0
      simp
  rw [h]
  rfl
theorem f37_eq (s : TBaneSea) (l : List Int) (hl : l.length ≤ 1000) (h : ∀ y ∈ l, 0 ≤ y ∧ y < (s.Trips.length : Int)) : f37 s l = some (costL (fun y => (s.Trips.map (·.Cost)).getD y.toNat 0) l) := by
  unfold f37
  have h : lp (f37_b0 s l) (0, 0) = some (costL (fun y => (s.Trips.map (·.Cost)).getD y.toNat 0) l) := by
    refine lp_thru l _ (fun k => (plus 0 ((l.map fun y => (s.Trips.map (·.Cost)).getD y.toNat 0).take k), (k : Int))) ?_ ?_
    · intro k y hy
      have hk := get_lt hy
      obtain ⟨h1, h2⟩ := h y (List.mem_of_getElem? hy)
      have hf : s.Trips[y.toNat]? = some (s.Trips[y.toNat]'(by omega)) := List.getElem?_eq_getElem (by omega)
      have hc : (l.map fun y => (s.Trips.map (·.Cost)).getD y.toNat 0)[k]? = some (s.Trips[y.toNat]'(by omega)).Cost := by simp [hy, hf]
      unfold f37_b0
      rw [if_pos (by simpa using hk), ix_nat, hy]
      simp only [Option.bind_some, ix_int h1, hf, wrap_nat hk (by omega)]
      rw [take_snoc hc, plus_snoc]
      rfl
    · unfold f37_b0
      rw [if_neg (by simp), List.take_of_length_le (by simp)]
      rfl
  rw [h]; rfl
def costT (s : TBaneSea) (l : List Int) : Int := costL (fun y => (s.Trips.map (·.Cost)).getD y.toNat 0) l
noncomputable def keptL (s : TBaneSea) (l : List Int) : Bool := keptB s (opB l)
theorem f84L_eq (s : TBaneSea) (I : Nat) (hs : Sea s I) (hsh : seaShort s) (l : List Int) (hl : l.length ≤ 1000) : f84 s l = some (keptL s l) := f84_eq s I hs hsh l hl
noncomputable def bestS (s : TBaneSea) : Option (List Int) := bestN (costT s) (fun m => keptL s (lst m s.Trips.length)) s.Trips.length (2 ^ s.Trips.length)
theorem bestS_spec (s : TBaneSea) : match bestS s with
    | none => ∀ l, incr l (s.Trips.length : Int) = true → keptL s l = false
    | some b => IsBest (fun l => incr l (s.Trips.length : Int) = true ∧ keptL s l = true) (costT s) b := bestN_best (costT s) (keptL s) s.Trips.length
theorem kept_lst (s : TBaneSea) (m : Nat) (hn : s.Trips.length ≤ 20) (hm : m < 2 ^ s.Trips.length) : keptB s (opS (m : Int)) = keptL s (lst m s.Trips.length) :=
  keptB_congr fun i hi => by
    rw [opS_nat _ _ (pow62 hn hm)]
    unfold opB
    rw [lst_has hi]
/-- 'bane.Guards'. -/
theorem f33_eq (s : TBaneSea) (hsh : seaShort s) : f33 s = some (if seaOk s = true then answer (costT s) (bestS s) else ([], 0, 2)) := by
  have h12 := hsh.2.2
  unfold f33
  rw [f79_eq s hsh]
  cases hok : seaOk s with
  | false => rfl
  | true =>
    obtain ⟨I, hs⟩ := sea_of hok
    simp only [Option.bind_some, Bool.not_true, Bool.false_eq_true, if_false, if_true]
    rw [f80_eq s _ (fun m => keptL s (lst m s.Trips.length)) (by omega) fun m hm => by
      unfold f82
      rw [f83_eq s I hs hsh, kept_lst s m (by omega) hm]
      rfl]
    have e : bestN (costL (fun y => (s.Trips.map (·.Cost)).getD y.toNat 0)) (fun m => keptL s (lst m s.Trips.length)) s.Trips.length (2 ^ s.Trips.length) = bestS s := rfl
    rw [e]
    cases bestS s with
    | none => rfl
    | some l => rfl
/-- The document's best. -/
theorem f36_eq (s : TBaneSea) (I : Nat) (hs : Sea s I) (hsh : seaShort s) (h7 : s.Trips.length ≤ 7) :
    f36 s = some (match bestS s with | none => ([], false) | some l => (l, true)) := by
  have hb : bestS s = (allS s.Trips.length (s.Trips.length + 1)).foldl (refStep (costT s) (keptL s)) none := best_same (costT s) (keptL s) s.Trips.length
  rw [hb]
  obtain ⟨n, hn⟩ : ∃ n, n = s.Trips.length := ⟨_, rfl⟩
  obtain ⟨enc, henc⟩ : ∃ enc : Option (List Int) → List Int × Bool, enc = fun o => match o with | none => ([], false) | some l => (l, true) := ⟨_, rfl⟩
  have hres : ∀ o : Option (List Int), (match o with | none => ([], false) | some l => (l, true) : List Int × Bool) = enc o := fun o => by rw [henc]
  rw [hres, ← hn]
  have inner : ∀ (k : Nat) (acc : Option (List Int)), k ≤ n → (∀ l, acc = some l → incr l (n : Int) = true) → lp (f36_b1 s (setsL n k)) ((enc acc).1, (enc acc).2, 0) = some (enc ((setsL n k).foldl (refStep (costT s) (keptL s)) acc)) ∧ (∀ l, (setsL n k).foldl (refStep (costT s) (keptL s)) acc = some l → incr l (n : Int) = true) := by
    intro k acc hk hacc
    have hlen := Nat.le_trans (sets_len n k) (pow_le_big (n := n) (k := k) (by omega) (by omega))
    have hinv : ∀ (E : List (List Int)) (acc : Option (List Int)), (∀ l ∈ E, incr l (n : Int) = true) → (∀ l, acc = some l → incr l (n : Int) = true) → ∀ l, E.foldl (refStep (costT s) (keptL s)) acc = some l → incr l (n : Int) = true := by
      intro E
      induction E with
      | nil => intro acc _ h2; exact h2
      | cons x E ih =>
        intro acc h1 h2 l hl
        rw [List.foldl_cons] at hl
        refine ih _ (fun l hl => h1 l (by simp [hl])) ?_ l hl
        intro l' hl'
        rcases refStep_or (costT s) (keptL s) acc x with hc | hc
        · rw [hc] at hl'; cases hl'; exact h1 _ (by simp)
        · rw [hc] at hl'; exact h2 l' hl'
    have hall : ∀ l ∈ setsL n k, incr l (n : Int) = true := fun l hl => (mem_sets.1 hl).1
    refine ⟨?_, hinv _ acc hall hacc⟩
    refine lp_thru (setsL n k) _ (fun i => ((enc (((setsL n k).take i).foldl (refStep (costT s) (keptL s)) acc)).1, (enc (((setsL n k).take i).foldl (refStep (costT s) (keptL s)) acc)).2, (i : Int))) ?_ ?_
    · intro i p hp'
      have hi := get_lt hp'
      have hm := hall p (List.mem_of_getElem? hp')
      have hpl' : p.length ≤ 1000 := by have := incr_len hm; omega
      have hbest := hinv ((setsL n k).take i) acc (fun l hl => hall l (List.mem_of_mem_take hl)) hacc
      rw [take_snoc hp', List.foldl_append, List.foldl_cons, List.foldl_nil]
      generalize ((setsL n k).take i).foldl (refStep (costT s) (keptL s)) acc = B at hbest
      unfold f36_b1
      have c : (i : Int) < ((setsL n k).length : Int) := by omega
      simp only [c, decide_true, if_true, ix_nat, hp', Option.bind_some, wrap_nat hi (by omega)]
      rw [f84L_eq s I hs hsh p hpl']
      simp only [Option.bind_some]
      unfold refStep
      rw [henc]
      have hcp := f37_eq s p hpl' (by rw [← hn]; exact (incr_iff.1 hm).1)
      cases hsu : keptL s p with
      | false => cases B <;> simp
      | true =>
        cases B with
        | none => simp
        | some b =>
          have hbi := hbest b rfl
          have hcb := f37_eq s b (by have := incr_len hbi; omega) (by rw [← hn]; exact (incr_iff.1 hbi).1)
          simp only [Bool.not_true, Bool.false_eq_true, if_false, if_true, hcp, hcb, Option.bind_some, Bool.true_and]
          unfold costT
          by_cases hc : costL (fun y => (s.Trips.map (·.Cost)).getD y.toNat 0) p < costL (fun y => (s.Trips.map (·.Cost)).getD y.toNat 0) b
          · simp only [hc, decide_true, if_true, Option.bind_some]
          · simp only [hc, decide_false, Bool.false_eq_true, if_false, Option.bind_some]
    · unfold f36_b1
      simp
  have outer : ∀ k, k ≤ n + 1 → (∀ l, (allS n k).foldl (refStep (costT s) (keptL s)) none = some l → incr l (n : Int) = true) := by
    intro k
    induction k with
    | zero => intro _ l hl; simp [allS] at hl
    | succ k ih =>
      intro hk
      rw [allS, List.foldl_append]
      exact (inner k _ (by omega) (ih (by omega))).2
  unfold f36
  have h : lp (f36_b0 s) ([], false, 0) = some (enc ((allS n (n + 1)).foldl (refStep (costT s) (keptL s)) none)) := by
    have e0 : (([], false, 0) : List Int × Bool × Int) = (fun k : Nat => ((enc ((allS n k).foldl (refStep (costT s) (keptL s)) none)).1, (enc ((allS n k).foldl (refStep (costT s) (keptL s)) none)).2, (k : Int))) 0 := by rw [henc]; rfl
    rw [e0]
    refine lp_thru (List.range (n + 1)) _ (fun k => ((enc ((allS n k).foldl (refStep (costT s) (keptL s)) none)).1, (enc ((allS n k).foldl (refStep (costT s) (keptL s)) none)).2, (k : Int))) ?_ ?_
    · intro k y hy
      have hk : k < n + 1 := by have := get_lt hy; simpa using this
      unfold f36_b0
      rw [← hn]
      have c : (k : Int) ≤ (n : Int) := by omega
      simp only [c, decide_true, if_true, f85_eq n k (by omega) (by omega), Option.bind_some, wrap_nat hk (by omega)]
      rw [(inner k _ (by omega) (outer k (by omega))).1]
      simp only [Option.bind_some]
      rw [allS, List.foldl_append]
    · unfold f36_b0
      rw [← hn]
      have c : ¬ (((List.range (n + 1)).length : Nat) : Int) ≤ (n : Int) := by rw [List.length_range]; omega
      simp only [c, decide_false, Bool.false_eq_true, if_false]
      rw [List.length_range]
  rw [h]
  rfl
end Go.Proofs.Ytgplafckddpnkaa
