/-
  Ship's loads: the best one, and no better one.
-/
import Derived.Test.YtajejmbnmphngaaS10
namespace Go.Proofs.Ytajejmbnmphngaa
open Go.RowKit
set_option linter.unusedSimpArgs false
set_option linter.unusedVariables false

/-- Does no kind want, at the worst? -/
def lastsB (s : TShipStore) (n : Nat) (l : List Int) : Bool := (List.range s.Stock.length).all fun k => decide (kwOf s l (endT s n true) n k < 0)
def sufL (s : TShipStore) (n : Nat) (l : List Int) : Bool := loadOk s l && lastsB s n l
def bestL (s : TShipStore) (n : Nat) : Option (List Int) := bestN (costL s) (fun m => sufL s n (lst m s.Lots.length)) s.Lots.length (2 ^ s.Lots.length)
theorem suffices_eq {s : TShipStore} (hs : StoreOk s) {n : Nat} (hn : n ≤ 300) {load : List Int} (hl : load.length ≤ 10) (hi : incr load (s.Lots.length : Int) = true) :
    f76 ⟨s, load, endT s n true⟩ (n : Int) ((List.range s.Stock.length).map fun k : Nat => (k : Int)) = some (lastsB s n load) := by
  have ht := endT_ok hs hn true
  exact f76_eq hs ht hn hl hi (us := (endT s n true).Uses) (fun i hi => by
    obtain ⟨v1, v2, v3⟩ := use_of hs ht hi
    exact ⟨_, v1, v2, by omega⟩) (List.range s.Stock.length) (fun k hk => List.mem_range.1 hk)
theorem costL_snoc (s : TShipStore) (l : List Int) (x : Int) : costL s (l ++ [x]) = costL s l + lotC s x := by simp [costL]
theorem f35_b2_eq {s : TShipStore} (hs : StoreOk s) {m : Nat} (hm : m < 2 ^ 62) (fd : Bool) (o out : TChoice) :
    lp (f35_b2 (fd, (m : Int), o) s) (0, (⟨0, []⟩ : TChoice), out) = some ((⟨costL s (lst m s.Lots.length), lst m s.Lots.length⟩ : TChoice), out) := by
  have hnl := hs.nl
  have h := lp_thru (body := f35_b2 (fd, (m : Int), o) s) s.Lots ((⟨costL s (lst m s.Lots.length), lst m s.Lots.length⟩ : TChoice), out) (fun k => ((k : Int), (⟨costL s (lst m k), lst m k⟩ : TChoice), out)) (fun k y hy => by
    have hk := get_lt hy
    have hc : lotC s (k : Int) = y.Cost := by unfold lotC; rw [Int.toNat_natCast, hy]; rfl
    have hcb := hs.cost y (List.mem_of_getElem? hy)
    have hb := sum_w hs (lst m k) (lotC s) 1000000 (by decide) (lotC_b hs)
    have hlk := lst_len m k
    unfold f35_b2
    rw [if_pos (by simpa using hk)]
    simp only
    rw [ix_nat, hy, Option.bind_some, shr_nat, Option.bind_some]
    have e : (andI .i64 ((m : Int).fdiv (2 ^ min k 64)) 1 == 1) = m.testBit k := bitI_nat m k hm
    rw [e, wrap_nat hk (by omega), lst_succ]
    cases m.testBit k with
    | false => simp
    | true =>
      simp only [if_true]
      have hcl : costL s (lst m k) = ((lst m k).map (lotC s)).sum := rfl
      rw [app_short _ _ (by simp; omega), Option.bind_some, costL_snoc, hc, wrap_id (by omega) (by omega)]
      rfl) (by
    unfold f35_b2
    rw [if_neg (by simp)])
  rw [show ((0 : Int), (⟨0, []⟩ : TChoice), out) = (fun k : Nat => ((k : Int), (⟨costL s (lst m k), lst m k⟩ : TChoice), out)) 0 by simp [costL, lst], h]
theorem f35_b0_eq (s : TShipStore) (hl : s.Stock.length ≤ 8) : lp (f35_b0 s) ([], 0) = some ((List.range s.Stock.length).map fun k : Nat => (k : Int)) := by
  have h := lp_thru (body := f35_b0 s) s.Stock ((List.range s.Stock.length).map fun k : Nat => (k : Int)) (fun k => ((List.range k).map fun k : Nat => (k : Int), (k : Int))) (fun k y hy => by
    have hk := get_lt hy
    unfold f35_b0
    rw [if_pos (by simpa using hk), app_short _ _ (by simp; omega), Option.bind_some, wrap_nat hk (by omega), range_snoc]) (by
    unfold f35_b0
    rw [if_neg (by simp)])
  exact h
def answer (cost : List Int → Int) (o : Option (List Int)) : List Int × Int × Int := match o with
  | none => ([], 0, 5)
  | some l => (l, cost l, 0)
theorem f35_eq (s : TShipStore) (d : Int) (hss : StoreShort s) : f35 s d = some (if (storeOk s && daysOk d) = true then answer (costL s) (bestL s d.toNat) else ([], 0, 2)) := by
  unfold f35
  rw [f68_eq s hss]
  cases h1 : storeOk s with
  | false => rfl
  | true =>
    have hs := storeOk_iff h1
    simp only [Option.bind_some, Bool.not_true, Bool.false_eq_true, if_false, f70_eq]
    cases h3 : daysOk d with
    | false => rfl
    | true =>
      obtain ⟨e, hn⟩ := day_nat h3
      obtain ⟨n, hnd⟩ : ∃ n, n = d.toNat := ⟨_, rfl⟩
      rw [← hnd] at e hn ⊢
      subst e
      have hnl := hs.nl
      simp only [Option.bind_some, Bool.not_true, Bool.false_eq_true, if_false, if_true, Bool.and_self]
      rw [f35_b0_eq s hss.stock, Option.bind_some, shl_nat _ (by omega), Option.bind_some]
      have hp := pow_small (n := s.Lots.length) (by omega)
      have h : lp (f35_b1 ((List.range s.Stock.length).map fun k : Nat => (k : Int)) s (n : Int) ((2 ^ s.Lots.length : Nat) : Int)) (false, 0, (⟨0, []⟩ : TChoice)) = some (chosen (costL s) (bestL s n)) := by
        refine lp_thru (List.range (2 ^ s.Lots.length)) _ (fun k => ((chosen (costL s) (bestN (costL s) (fun m => sufL s n (lst m s.Lots.length)) s.Lots.length k)).1, (k : Int), (chosen (costL s) (bestN (costL s) (fun m => sufL s n (lst m s.Lots.length)) s.Lots.length k)).2)) ?_ ?_
        · intro k y hy
          have hk : k < 2 ^ s.Lots.length := by have := get_lt hy; simpa using this
          have hk62 : (k : Nat) < 2 ^ 62 := by
            have : (1048576 : Nat) < 2 ^ 62 := by decide
            omega
          have hll := lst_len k s.Lots.length
          unfold f35_b1
          rw [if_pos (by simp only [decide_eq_true_eq]; omega)]
          simp only
          rw [f35_b2_eq hs hk62, Option.bind_some, f69_eq s _ hs (by simp only; omega), Option.bind_some, wrap_nat hk (show 2 ^ s.Lots.length ≤ 1073741824 by omega)]
          have e74 : f74 (⟨s.Stock, s.Use, (⟨s.Gap.Low, s.Gap.High⟩ : TSpan), s.Lots, s.Hold⟩ : TShipStore) (lst k s.Lots.length) (n : Int) = some ⟨s, lst k s.Lots.length, endT s n true⟩ := f74_eq s _ n hs hss hn
          simp only
          rw [e74, Option.bind_some]
          have hi := lst_incr k s.Lots.length
          rw [suffices_eq hs hn (by omega) hi, Option.bind_some]
          have hsu : sufL s n (lst k s.Lots.length) = (loadOk s (lst k s.Lots.length) && lastsB s n (lst k s.Lots.length)) := rfl
          simp only [bestN]
          cases hb : bestN (costL s) (fun m => sufL s n (lst m s.Lots.length)) s.Lots.length k with
          | none =>
            simp only [chosen, hb, hsu]
            cases loadOk s (lst k s.Lots.length) <;> cases lastsB s n (lst k s.Lots.length) <;> simp
          | some b =>
            obtain ⟨j, _, rfl⟩ := bestN_in _ _ _ k b hb
            have hjl := lst_len j s.Lots.length
            simp only [chosen, hb, hsu, f77_eq (costL s) (lst k s.Lots.length) (lst j s.Lots.length) (by omega) (by omega)]
            cases loadOk s (lst k s.Lots.length) <;> cases befB (costL s) (lst k s.Lots.length) (lst j s.Lots.length) <;> cases lastsB s n (lst k s.Lots.length) <;> simp
        · unfold f35_b1
          rw [if_neg (by simp)]
          simp [bestL]
      rw [h]
      cases bestL s n <;> simp [chosen, answer]
/-! ### The document's way -/
theorem lasts_may (s : TShipStore) (load : List Int) (n m : Nat) : ((mayL s load n m).all fun y => !decide (0 ≤ y.May)) = (List.range m).all fun k => decide (kwOf s load (endT s n true) n k < 0) := by
  unfold mayL
  rw [List.all_map]
  congr 1
  funext k
  simp only [Function.comp]
  rw [Bool.eq_iff_iff]; simp
theorem f79_eq (s : TShipStore) (load : List Int) (n : Nat) (hs : StoreOk s) (hss : StoreShort s) (hl : load.length ≤ 10) (hi : incr load (s.Lots.length : Int) = true) (hn : n ≤ 300) : f79 s load (n : Int) = some (lastsB s n load) := by
  have hns := hs.ns
  unfold f79
  rw [f57_eq s load n hs hss hl hi hn, Option.bind_some, all_lp (mayL s load n s.Stock.length) (fun y => !decide (0 ≤ y.May)) (Sum.inr false) (Sum.inl ()) (by rw [may_len]; omega) (fun k y hy => by
    unfold f79_b0
    rw [if_pos (by simpa using get_lt hy), ix_nat, hy, Option.bind_some]
    by_cases h : 0 ≤ y.May <;> simp [h]) (by unfold f79_b0; simp), lasts_may]
  unfold lastsB
  cases (List.range s.Stock.length).all fun k => decide (kwOf s load (endT s n true) n k < 0) <;> rfl
theorem f38_eq (s : TShipStore) (n : Nat) (hs : StoreOk s) (hss : StoreShort s) (hn : n ≤ 300) : f38 s (n : Int) = some (match bestL s n with | none => ([], false) | some l => (l, true)) := by
  have hb : bestL s n = (allS s.Lots.length (s.Lots.length + 1)).foldl (refStep (costL s) (sufL s n)) none := best_same (costL s) (sufL s n) s.Lots.length
  rw [hb]
  have hnl := hs.nl
  obtain ⟨L, hL⟩ : ∃ L, L = s.Lots.length := ⟨_, rfl⟩
  obtain ⟨enc, henc⟩ : ∃ enc : Option (List Int) → List Int × Bool, enc = fun o => match o with | none => ([], false) | some l => (l, true) := ⟨_, rfl⟩
  have hres : ∀ o : Option (List Int), (match o with | none => ([], false) | some l => (l, true) : List Int × Bool) = enc o := fun o => by rw [henc]
  rw [hres, ← hL]
  have inner : ∀ (k : Nat) (acc : Option (List Int)), k ≤ L → (∀ l, acc = some l → incr l (L : Int) = true) → lp (f38_b1 s (n : Int) (setsL L k)) ((enc acc).1, (enc acc).2, 0) = some (enc ((setsL L k).foldl (refStep (costL s) (sufL s n)) acc)) ∧ (∀ l, (setsL L k).foldl (refStep (costL s) (sufL s n)) acc = some l → incr l (L : Int) = true) := by
    intro k acc hk hacc
    have hlen := Nat.le_trans (sets_len L k) (pow_le_big (n := L) (k := k) (by omega) (by omega))
    have hinv : ∀ (E : List (List Int)) (acc : Option (List Int)), (∀ l ∈ E, incr l (L : Int) = true) → (∀ l, acc = some l → incr l (L : Int) = true) → ∀ l, E.foldl (refStep (costL s) (sufL s n)) acc = some l → incr l (L : Int) = true := by
      intro E
      induction E with
      | nil => intro acc _ h2; exact h2
      | cons x E ih =>
        intro acc h1 h2 l hl
        rw [List.foldl_cons] at hl
        refine ih _ (fun l hl => h1 l (by simp [hl])) ?_ l hl
        intro l' hl'
        rcases refStep_or (costL s) (sufL s n) acc x with hc | hc
        · rw [hc] at hl'; cases hl'; exact h1 _ (by simp)
        · rw [hc] at hl'; exact h2 l' hl'
    have hall : ∀ l ∈ setsL L k, incr l (L : Int) = true := fun l hl => (mem_sets.1 hl).1
    refine ⟨?_, hinv _ acc hall hacc⟩
    refine lp_thru (setsL L k) _ (fun i => ((enc (((setsL L k).take i).foldl (refStep (costL s) (sufL s n)) acc)).1, (enc (((setsL L k).take i).foldl (refStep (costL s) (sufL s n)) acc)).2, (i : Int))) ?_ ?_
    · intro i p hp'
      have hi := get_lt hp'
      have hm := hall p (List.mem_of_getElem? hp')
      have hpl' := incr_len hm
      have hbest := hinv ((setsL L k).take i) acc (fun l hl => hall l (List.mem_of_mem_take hl)) hacc
      rw [take_snoc hp', List.foldl_append, List.foldl_cons, List.foldl_nil]
      generalize ((setsL L k).take i).foldl (refStep (costL s) (sufL s n)) acc = B at hbest
      have hm' := hm
      rw [hL] at hm'
      unfold f38_b1
      have c : (i : Int) < ((setsL L k).length : Int) := by omega
      simp only [c, decide_true, if_true, ix_nat, hp', Option.bind_some, wrap_nat hi (by omega)]
      rw [f42_eq s p hs (by omega), f79_eq s p n hs hss (by omega) hm' hn, f40_eq s p hs (by omega) hm']
      simp only [Option.bind_some]
      have hsu : sufL s n p = (loadOk s p && lastsB s n p) := rfl
      unfold refStep
      rw [henc, hsu]
      cases loadOk s p with
      | false => cases B <;> simp
      | true =>
        cases B with
        | none => cases lastsB s n p <;> simp
        | some b =>
          have hbi := hbest b rfl
          have hbl := incr_len hbi
          rw [hL] at hbi
          simp only
          rw [f40_eq s b hs (by omega) hbi]
          by_cases hcc : costL s p < costL s b
          · cases lastsB s n p <;> simp [hcc]
          · cases lastsB s n p <;> simp [hcc]
    · unfold f38_b1
      rw [if_neg (by simp), List.take_length]
  have outer : ∀ k, k ≤ L + 1 → (∀ l, (allS L k).foldl (refStep (costL s) (sufL s n)) none = some l → incr l (L : Int) = true) := by
    intro k
    induction k with
    | zero => intro _ l hl; simp [allS] at hl
    | succ k ih =>
      intro hk
      rw [allS, List.foldl_append]
      exact (inner k _ (by omega) (ih (by omega))).2
  unfold f38
  have h : lp (f38_b0 s (n : Int)) ([], false, 0) = some (enc ((allS L (L + 1)).foldl (refStep (costL s) (sufL s n)) none)) := by
    have e0 : (([], false, 0) : List Int × Bool × Int) = (fun k : Nat => ((enc ((allS L k).foldl (refStep (costL s) (sufL s n)) none)).1, (enc ((allS L k).foldl (refStep (costL s) (sufL s n)) none)).2, (k : Int))) 0 := by rw [henc]; rfl
    rw [e0]
    refine lp_thru (List.range (L + 1)) _ (fun k => ((enc ((allS L k).foldl (refStep (costL s) (sufL s n)) none)).1, (enc ((allS L k).foldl (refStep (costL s) (sufL s n)) none)).2, (k : Int))) ?_ ?_
    · intro k y hy
      have hk : k < L + 1 := by have := get_lt hy; simpa using this
      unfold f38_b0
      rw [← hL]
      have c : (k : Int) ≤ (L : Int) := by omega
      simp only [c, decide_true, if_true, f78_eq L k (by omega) (by omega), Option.bind_some, wrap_nat hk (by omega)]
      rw [(inner k _ (by omega) (outer k (by omega))).1]
      simp only [Option.bind_some]
      rw [allS, List.foldl_append]
    · unfold f38_b0
      rw [← hL]
      have c : ¬ (((List.range (L + 1)).length : Nat) : Int) ≤ (L : Int) := by rw [List.length_range]; omega
      simp only [c, decide_false, Bool.false_eq_true, if_false]
      rw [List.length_range]
  rw [h]
  rfl
theorem bestL_spec (s : TShipStore) (n : Nat) : match bestL s n with
    | none => ∀ l, incr l (s.Lots.length : Int) = true → sufL s n l = false
    | some b => IsBest (fun l => incr l (s.Lots.length : Int) = true ∧ sufL s n l = true) (costL s) b := bestN_best (costL s) (sufL s n) s.Lots.length
theorem shipCargoes (s : TShipStore) (d : Int) (_ : okTShipStore s) (_ : okI d) : f9 s d = some true := by
  obtain ⟨a, ha, has⟩ := f24_eq s
  unfold f9
  rw [ha]
  cases a with
  | false => simp [known_pure]
  | true =>
    have hss := has rfl
    simp only [Option.bind_some, Bool.not_true, Bool.false_eq_true, if_false, f35_eq s d hss, f36_eq s hss, f37_eq]
    cases h1 : storeOk s with
    | false => simp [known_pure]
    | true =>
      have hs := storeOk_iff h1
      cases h3 : daysOk d with
      | false => simp [known_pure]
      | true =>
        obtain ⟨e, hn⟩ := day_nat h3
        obtain ⟨n, hnd⟩ : ∃ n, n = d.toNat := ⟨_, rfl⟩
        rw [← hnd] at e hn ⊢
        subst e
        simp only [Bool.not_true, Bool.false_eq_true, if_false, if_true, Bool.and_self, Option.bind_some, f38_eq s n hs hss hn]
        have hb := bestL_spec s n
        cases hbl : bestL s n with
        | none => simp [answer, known_pure]
        | some l =>
          rw [hbl] at hb
          have hi := hb.1.1
          have hll := incr_len hi
          have hnl := hs.nl
          simp [answer, known_pure, f39_eq l l (by omega), f40_eq s l hs (by omega) hi]
end Go.Proofs.Ytajejmbnmphngaa
