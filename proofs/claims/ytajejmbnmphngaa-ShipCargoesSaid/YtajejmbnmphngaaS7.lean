/-
  Ship: what the program and the document tell of stores; the first day of want in closed form.
-/
import Derived.Test.YtajejmbnmphngaaS6
import Derived.Test.YtajejmbnmphngaaS3
namespace Go.Proofs.Ytajejmbnmphngaa
open Go.RowKit
set_option linter.unusedSimpArgs false
set_option linter.unusedVariables false

def kwOf (s : TShipStore) (load : List Int) (t : TShipTruth) (n k : Nat) : Int := kw (t.Uses.getD k 0) (goodsL t load k) (s.Stock.getD k 0) (cm t.Gaps) n
def kxOf (s : TShipStore) (load : List Int) (t : TShipTruth) (n k : Nat) : Int := kx (t.Uses.getD k 0) (goodsL t load k) (s.Stock.getD k 0) (cm t.Gaps) n
theorem use_of {s : TShipStore} {days : Int} {t : TShipTruth} (hs : StoreOk s) (ht : TruthOk s days t) {k : Nat} (hk : k < s.Stock.length) : t.Uses[k]? = some (t.Uses.getD k 0) ∧ 0 ≤ t.Uses.getD k 0 ∧ t.Uses.getD k 0 ≤ 1000 := by
  have hus : t.Uses[k]? = some (t.Uses.getD k 0) := by rw [List.getD_eq_getElem?_getD, List.getElem?_eq_getElem (by have := ht.nu; omega)]; rfl
  have h1 := ht.uses k _ hus
  have h2 := hs.use _ (List.mem_of_getElem? (use_get hs hk))
  exact ⟨hus, by omega, by omega⟩
theorem incr_of {s : TShipStore} {load : List Int} (h : loadOk s load = true) : incr load (s.Lots.length : Int) = true := by
  unfold loadOk at h
  rw [Bool.and_eq_true] at h; exact h.1
theorem kind_eq {s : TShipStore} {t : TShipTruth} (hs : StoreOk s) {n : Nat} (ht : TruthOk s (n : Int) t) (hn : n ≤ 300) {load : List Int} (hl : load.length ≤ 10) (hi : incr load (s.Lots.length : Int) = true) {k : Nat} (hk : k < s.Stock.length) :
    f72 ⟨s, load, t⟩ (k : Int) (n : Int) = some (kwOf s load t n k, kxOf s load t n k) := by
  obtain ⟨h1, h2, h3⟩ := use_of hs ht hk
  exact f72_eq hs ht hn hl hi hk (us := t.Uses) h1 ⟨h2, by omega⟩
theorem kept_eq {s : TShipStore} {t : TShipTruth} (hs : StoreOk s) {n : Nat} (ht : TruthOk s (n : Int) t) (hn : n ≤ 300) {load : List Int} (hl : load.length ≤ 10) (hi : incr load (s.Lots.length : Int) = true) {k : Nat} (hk : k < s.Stock.length) :
    f29 s load (n : Int) t (k : Int) 1000 = some (kwOf s load t n k, kxOf s load t n k) := by
  rw [f29_eq hs ht hn hl hi hk (by decide)]
  have e : (t.Uses.getD k 0 * 1000 + 999) / 1000 = t.Uses.getD k 0 := by omega
  rw [e]; rfl
def wantsL (s : TShipStore) (load : List Int) (t : TShipTruth) (n : Nat) (m : Nat) : List Int := (List.range m).map (kwOf s load t n)
def leftsL (s : TShipStore) (load : List Int) (t : TShipTruth) (n : Nat) (m : Nat) : List Int := (List.range m).map (kxOf s load t n)
theorem range_snoc {α : Type} (f : Nat → α) (k : Nat) : (List.range (k + 1)).map f = (List.range k).map f ++ [f k] := by rw [List.range_succ]; simp
theorem day_nat {d : Int} (h : daysOk d = true) : d = ((d.toNat : Nat) : Int) ∧ d.toNat ≤ 300 := by
  unfold daysOk at h
  rw [inR_iff] at h
  omega
theorem f26_eq (s : TShipStore) (load : List Int) (d : Int) (t : TShipTruth) (hss : StoreShort s) (hl : load.length ≤ 10) (hts : TruthShort t) :
    f26 s load d t = some (if (storeOk s && (loadOk s load && (daysOk d && truthOk s d t))) = true then (wantsL s load t d.toNat s.Stock.length, leftsL s load t d.toNat s.Stock.length, 0) else ([], [], 2)) := by
  unfold f26
  rw [f68_eq s hss]
  cases h1 : storeOk s with
  | false => rfl
  | true =>
    have hs := storeOk_iff h1
    simp only [Option.bind_some, Bool.not_true, Bool.false_eq_true, if_false, f69_eq s load hs hl, f70_eq, f71_eq s d t hs hts]
    cases h2 : loadOk s load with
    | false => rfl
    | true =>
      cases h3 : daysOk d with
      | false => rfl
      | true =>
        cases h4 : truthOk s d t with
        | false => rfl
        | true =>
          obtain ⟨e, hn⟩ := day_nat h3
          obtain ⟨n, hnd⟩ : ∃ n, n = d.toNat := ⟨_, rfl⟩
          rw [← hnd] at e hn ⊢
          subst e
          have ht := truthOk_iff.1 h4
          have hns := hs.ns
          have h := lp_thru (body := f26_b0 s load (n : Int) t) s.Stock (wantsL s load t n s.Stock.length, leftsL s load t n s.Stock.length) (fun k => (wantsL s load t n k, leftsL s load t n k, (k : Int))) (fun k y hy => by
            have hk := get_lt hy
            have l1 : (wantsL s load t n k).length = k := by simp [wantsL]
            have l2 : (leftsL s load t n k).length = k := by simp [leftsL]
            unfold f26_b0
            rw [if_pos (by simpa using hk)]
            simp only
            rw [kind_eq hs ht hn hl (incr_of h2) hk, Option.bind_some, app_short _ _ (by simp; omega), Option.bind_some, app_short _ _ (by simp; omega), Option.bind_some, wrap_nat hk (by omega)]
            unfold wantsL leftsL
            rw [range_snoc, range_snoc]) (by
            unfold f26_b0
            rw [if_neg (by simp)])
          simp only [Bool.not_true, Bool.false_eq_true, if_false, if_true, Option.bind_some, Bool.and_self]
          rw [show (([], [], (0 : Int)) : List Int × List Int × Int) = (fun k : Nat => (wantsL s load t n k, leftsL s load t n k, (k : Int))) 0 from rfl, h]; rfl
theorem f27_eq (s : TShipStore) (load : List Int) (d : Int) (hss : StoreShort s) (hl : load.length ≤ 10) : f27 s load d = some (storeOk s && (loadOk s load && daysOk d)) := by
  unfold f27
  rw [f36_eq s hss]
  cases h1 : storeOk s with
  | false => rfl
  | true =>
    simp only [Option.bind_some, if_true, f42_eq s load (storeOk_iff h1) hl, f37_eq]
    cases loadOk s load <;> rfl
def mayL (s : TShipStore) (load : List Int) (n m : Nat) : List TShipWant := (List.range m).map fun k => ⟨kwOf s load (endT s n true) n k, kwOf s load (endT s n false) n k⟩
theorem f30_eq (s : TShipStore) (load : List Int) (d : Int) (hss : StoreShort s) (hl : load.length ≤ 10) :
    f30 s load d = some (if (storeOk s && (loadOk s load && daysOk d)) = true then (mayL s load d.toNat s.Stock.length, 0) else ([], 2)) := by
  unfold f30
  rw [f68_eq s hss]
  cases h1 : storeOk s with
  | false => rfl
  | true =>
    have hs := storeOk_iff h1
    simp only [Option.bind_some, Bool.not_true, Bool.false_eq_true, if_false, f69_eq s load hs hl, f70_eq]
    cases h2 : loadOk s load with
    | false => rfl
    | true =>
      cases h3 : daysOk d with
      | false => rfl
      | true =>
        obtain ⟨e, hn⟩ := day_nat h3
        obtain ⟨n, hnd⟩ : ∃ n, n = d.toNat := ⟨_, rfl⟩
        rw [← hnd] at e hn ⊢
        subst e
        have hns := hs.ns
        have h := lp_thru (body := f30_b0 s (n : Int) ⟨s, load, endT s n true⟩ ⟨s, load, endT s n false⟩) s.Stock (mayL s load n s.Stock.length) (fun k => (mayL s load n k, (k : Int))) (fun k y hy => by
          have hk := get_lt hy
          have l1 : (mayL s load n k).length = k := by simp [mayL]
          unfold f30_b0
          rw [if_pos (by simpa using hk)]
          simp only
          rw [kind_eq hs (endT_ok hs hn true) hn hl (incr_of h2) hk, Option.bind_some, kind_eq hs (endT_ok hs hn false) hn hl (incr_of h2) hk, Option.bind_some, app_short _ _ (by simp; omega), Option.bind_some, wrap_nat hk (by omega)]
          unfold mayL
          rw [range_snoc]) (by
          unfold f30_b0
          rw [if_neg (by simp)])
        simp only [Bool.not_true, Bool.false_eq_true, if_false, if_true, Option.bind_some, Bool.and_self, f74_eq s load n hs hss hn, f75_eq s load n hs hss hn]
        rw [show (([], (0 : Int)) : List TShipWant × Int) = (fun k : Nat => (mayL s load n k, (k : Int))) 0 from rfl, h]; rfl
theorem f57_eq (s : TShipStore) (load : List Int) (n : Nat) (hs : StoreOk s) (hss : StoreShort s) (hl : load.length ≤ 10) (hi : incr load (s.Lots.length : Int) = true) (hn : n ≤ 300) : f57 s load (n : Int) = some (mayL s load n s.Stock.length) := by
  have hns := hs.ns
  have h := lp_thru (body := f57_b0 s load (n : Int)) s.Stock (mayL s load n s.Stock.length) (fun k => (mayL s load n k, (k : Int))) (fun k y hy => by
    have hk := get_lt hy
    have l1 : (mayL s load n k).length = k := by simp [mayL]
    unfold f57_b0
    rw [if_pos (by simpa using hk)]
    simp only
    rw [f31_eq s n true hs hss hn, Option.bind_some, kept_eq hs (endT_ok hs hn true) hn hl hi hk, Option.bind_some, f31_eq s n false hs hss hn, Option.bind_some, kept_eq hs (endT_ok hs hn false) hn hl hi hk, Option.bind_some, app_short _ _ (by simp; omega), Option.bind_some, wrap_nat hk (by omega)]
    unfold mayL
    rw [range_snoc]) (by
    unfold f57_b0
    rw [if_neg (by simp)])
  unfold f57
  rw [show (([], (0 : Int)) : List TShipWant × Int) = (fun k : Nat => (mayL s load n k, (k : Int))) 0 from rfl, h]; rfl
instance decWant : DecidableEq TShipWant := fun a b =>
  if h : a.May = b.May ∧ a.Must = b.Must then isTrue (by cases a; cases b; simp at h; rw [h.1, h.2]) else isFalse (fun e => h (by rw [e]; exact ⟨rfl, rfl⟩))
theorem f56_eq (a b : List TShipWant) (ha : a.length ≤ 1073741824) : f56 a b = some (decide (a = b)) := by
  unfold f56
  by_cases hl : a.length = b.length
  · have e0 : ((a.length : Int) != (b.length : Int)) = false := by simp [hl]
    rw [e0]
    have h := lp_all (body := f56_b0 a b) a (fun k y => decide (y = b.getD k ⟨0, 0⟩)) (Sum.inr false) (Sum.inl ()) (fun k => (k : Int)) (fun k y hy => by
      have hk := get_lt hy
      have hb : b[k]? = some (b.getD k ⟨0, 0⟩) := by
        rw [List.getD_eq_getElem?_getD, List.getElem?_eq_getElem (by omega)]; rfl
      unfold f56_b0
      rw [if_pos (by simpa using hk), ix_nat, ix_nat, hy, hb, wrap_nat hk ha]
      simp only [Option.bind_some]
      have e : (([y.May, y.Must] : List Int) == [(b.getD k ⟨0, 0⟩).May, (b.getD k ⟨0, 0⟩).Must]) = decide (y = b.getD k ⟨0, 0⟩) := by
        obtain ⟨z, hz⟩ : ∃ z, z = b.getD k ⟨0, 0⟩ := ⟨_, rfl⟩
        rw [← hz]
        obtain ⟨p, q⟩ := y
        obtain ⟨p', q'⟩ := z
        rw [Bool.eq_iff_iff]; simp
      rw [e]
      cases decide (y = b.getD k ⟨0, 0⟩) <;> rfl) (by unfold f56_b0; simp)
    rw [show (0 : Int) = ((0 : Nat) : Int) from rfl, h]
    have e : allI (fun k y => decide (y = b.getD k ⟨0, 0⟩)) 0 a = decide (a = b) := by
      rw [Bool.eq_iff_iff, allI_iff, decide_eq_true_eq]
      constructor
      · intro h
        refine List.ext_getElem hl fun i h1 h2 => ?_
        have := h i a[i] (List.getElem?_eq_getElem h1)
        rw [Nat.zero_add, decide_eq_true_eq, List.getD_eq_getElem?_getD, List.getElem?_eq_getElem h2] at this
        exact this
      · rintro rfl j y hy
        rw [Nat.zero_add, decide_eq_true_eq, List.getD_eq_getElem?_getD, hy]; rfl
    rw [e]
    by_cases h : a = b <;> simp [h]
  · have e0 : ((a.length : Int) != (b.length : Int)) = true := by simp; omega
    rw [if_pos e0]
    have : a ≠ b := fun h => hl (by rw [h])
    simp [this]
/-! ### The first day of want in closed form -/
def need (use g stock : Int) (N : Nat → Nat) (e : Nat) : Prop := stock + g * (N (e + 1) : Int) < use * ((e : Int) + 1)
theorem kw_none {use g stock : Int} {c : Nat → Bool} {N : Nat → Nat} (h0 : N 0 = 0) (hN : ∀ d, N (d + 1) = N d + if c d = true then 1 else 0) : ∀ d : Nat, (∀ e, e < d → ¬ need use g stock N e) → kw use g stock c d = -1 ∧ kx use g stock c d = stock + g * (N d : Int) - use * (d : Int)
  | 0, _ => by simp [kw, kx, h0]
  | d + 1, h => by
    obtain ⟨h1, h2⟩ := kw_none h0 hN d fun e he => h e (by omega)
    have h3 := h d (by omega)
    unfold need at h3
    have e1 : use * ((d : Int) + 1) = use * (d : Int) + use := by rw [Int.mul_add]; simp
    have e3 : use * ((d + 1 : Nat) : Int) = use * (d : Int) + use := by rw [Int.natCast_add, Int.mul_add]; simp
    have e2 : g * (N (d + 1) : Int) = g * (N d : Int) + (if c d = true then g else 0) := by
      rw [hN d]
      by_cases hc : c d = true
      · simp [hc, Int.mul_add]
      · simp [hc]
    simp only [kw, kx, h1, h2]
    rw [if_neg (by omega), if_neg (by omega)]
    exact ⟨rfl, by omega⟩
theorem kw_first {use g stock : Int} {c : Nat → Bool} {N : Nat → Nat} (h0 : N 0 = 0) (hN : ∀ d, N (d + 1) = N d + if c d = true then 1 else 0) {e : Nat} (he : need use g stock N e) (hf : ∀ e', e' < e → ¬ need use g stock N e') : ∀ d : Nat, e < d → kw use g stock c d = (e : Int)
  | 0, h => by omega
  | d + 1, h => by
    simp only [kw]
    rcases Nat.lt_or_ge e d with h1 | h1
    · have := kw_first h0 hN he hf d h1
      rw [if_neg (by omega), this]
    · have : e = d := by omega
      subst this
      obtain ⟨h2, h3⟩ := kw_none h0 hN e hf
      unfold need at he
      have e1 : use * ((e : Int) + 1) = use * (e : Int) + use := by rw [Int.mul_add]; simp
      have e2 : g * (N (e + 1) : Int) = g * (N e : Int) + (if c e = true then g else 0) := by
        rw [hN e]
        by_cases hc : c e = true
        · simp [hc, Int.mul_add]
        · simp [hc]
      rw [h2, h3, if_pos (by omega)]
theorem least {p : Nat → Prop} : ∀ n : Nat, (∀ e, e < n → ¬ p e) ∨ ∃ e, e < n ∧ p e ∧ ∀ e', e' < e → ¬ p e'
  | 0 => .inl fun e h => by omega
  | n + 1 => by
    rcases least (p := p) n with h | ⟨e, h1, h2, h3⟩
    · rcases Classical.em (p n) with hp | hp
      · exact .inr ⟨n, by omega, hp, h⟩
      · refine .inl fun e he => ?_
        rcases Nat.lt_or_ge e n with h4 | h4
        · exact h e h4
        · have : e = n := by omega
          subst this; exact hp
    · exact .inr ⟨e, by omega, h2, h3⟩
/-- What is no worse is wanting no earlier. -/
theorem kw_le {u1 g1 s1 u2 g2 s2 : Int} {c1 c2 : Nat → Bool} {N1 N2 : Nat → Nat} (h10 : N1 0 = 0) (h20 : N2 0 = 0) (hN1 : ∀ d, N1 (d + 1) = N1 d + if c1 d = true then 1 else 0) (hN2 : ∀ d, N2 (d + 1) = N2 d + if c2 d = true then 1 else 0)
    (n : Nat) (h : ∀ e, e < n → need u2 g2 s2 N2 e → need u1 g1 s1 N1 e) : (0 ≤ kw u2 g2 s2 c2 n → 0 ≤ kw u1 g1 s1 c1 n ∧ kw u1 g1 s1 c1 n ≤ kw u2 g2 s2 c2 n) := by
  intro h2
  rcases least (p := need u2 g2 s2 N2) n with h3 | ⟨e, q1, q2, q3⟩
  · rw [(kw_none h20 hN2 n h3).1] at h2; omega
  · rw [kw_first h20 hN2 q2 q3 n q1]
    rcases least (p := need u1 g1 s1 N1) n with h3 | ⟨e', r1, r2, r3⟩
    · exact absurd (h e q1 q2) (h3 e q1)
    · rw [kw_first h10 hN1 r2 r3 n r1]
      refine ⟨by omega, ?_⟩
      rcases Nat.lt_or_ge e e' with h4 | h4
      · exact absurd (h e q1 q2) (r3 e h4)
      · omega
theorem kw_b {use g stock : Int} {c : Nat → Bool} : ∀ d : Nat, -1 ≤ kw use g stock c d ∧ kw use g stock c d < (d : Int)
  | 0 => by simp [kw]
  | d + 1 => by
    have := kw_b (use := use) (g := g) (stock := stock) (c := c) d
    simp only [kw]
    split <;> omega
theorem sh_N {gaps : List Int} (hg : ∀ g ∈ gaps, 1 ≤ g) (d : Nat) : sh gaps (d + 1) = sh gaps d + if cm gaps d = true then 1 else 0 := by
  rw [cm_sh hg d]
  simp only [sh]
  by_cases h : nxf gaps (sh gaps d) = (d : Int)
  · rw [if_pos h, h]; simp
  · rw [if_neg h]
    have : ((d : Int) == nxf gaps (sh gaps d)) = false := by simpa using fun e => h e.symm
    rw [this]; simp
theorem sumTo_le {g1 g2 : List Int} (h : ∀ (i : Nat) (x y : Int), g1[i]? = some x → g2[i]? = some y → y ≤ x) : ∀ i, i ≤ g1.length → i ≤ g2.length → sumTo g2 i ≤ sumTo g1 i
  | 0, _, _ => by simp [sumTo]
  | i + 1, h1, h2 => by
    have e1 := List.getElem?_eq_getElem (show i < g1.length by omega)
    have e2 := List.getElem?_eq_getElem (show i < g2.length by omega)
    rw [sumTo_succ e1, sumTo_succ e2]
    have := sumTo_le h i (by omega) (by omega)
    have := h i _ _ e1 e2
    omega
theorem sh_le {g1 g2 : List Int} (h1 : ∀ g ∈ g1, 1 ≤ g) (h2 : ∀ g ∈ g2, 1 ≤ g) (h : ∀ (i : Nat) (x y : Int), g1[i]? = some x → g2[i]? = some y → y ≤ x) {n : Nat} (hs : (n : Int) ≤ g2.sum) {d : Nat} (hd : d ≤ n) : sh g1 d ≤ sh g2 d := by
  rcases Nat.lt_or_ge (sh g2 d) (sh g1 d) with hlt | hge
  · exfalso
    obtain ⟨a1, a2, a3⟩ := sh_inv h1 d
    obtain ⟨b1, b2, b3⟩ := sh_inv h2 d
    have h3 := a2 (sh g2 d) hlt
    rcases Nat.lt_or_ge (sh g2 d) g2.length with h4 | h4
    · have h5 := b3 h4
      have h6 := sumTo_le h (sh g2 d + 1) (by omega) (by omega)
      omega
    · have e : sh g2 d = g2.length := by omega
      have h6 := sumTo_le h g2.length (by omega) (Nat.le_refl _)
      have h7 : sumTo g2 g2.length = g2.sum := by unfold sumTo; rw [List.take_length]
      have h8 := sumTo_lt h1 (i := g2.length) (j := g2.length + 1) (by omega) (by omega)
      rw [e] at h3
      omega
  · exact hge
/-- A store in a truth that is no worse. -/
theorem want_le {u1 g1 s1 u2 g2 s2 : Int} {a1 a2 : List Int} (ha1 : ∀ g ∈ a1, 1 ≤ g) (ha2 : ∀ g ∈ a2, 1 ≤ g) (ha : ∀ (i : Nat) (x y : Int), a1[i]? = some x → a2[i]? = some y → y ≤ x) {n : Nat} (hsum : (n : Int) ≤ a2.sum) (hu : u2 ≤ u1) (hg0 : 0 ≤ g1) (hg : g1 ≤ g2) (hst : s1 ≤ s2) :
    0 ≤ kw u2 g2 s2 (cm a2) n → 0 ≤ kw u1 g1 s1 (cm a1) n ∧ kw u1 g1 s1 (cm a1) n ≤ kw u2 g2 s2 (cm a2) n := by
  refine kw_le (N1 := sh a1) (N2 := sh a2) rfl rfl (sh_N ha1) (sh_N ha2) n fun e he h2 => ?_
  unfold need at *
  have h3 := sh_le ha1 ha2 ha hsum (d := e + 1) (by omega)
  have h4 : g1 * (sh a1 (e + 1) : Int) ≤ g2 * (sh a2 (e + 1) : Int) := by
    have q1 : g1 * (sh a1 (e + 1) : Int) ≤ g1 * (sh a2 (e + 1) : Int) := Int.mul_le_mul_of_nonneg_left (by omega) hg0
    have q2 : g1 * (sh a2 (e + 1) : Int) ≤ g2 * (sh a2 (e + 1) : Int) := Int.mul_le_mul_of_nonneg_right hg (by omega)
    omega
  have h5 : u2 * ((e : Int) + 1) ≤ u1 * ((e : Int) + 1) := Int.mul_le_mul_of_nonneg_right hu (by omega)
  omega
theorem sum_le {l : List Int} {f h : Int → Int} (hh : ∀ x ∈ l, f x ≤ h x) : (l.map f).sum ≤ (l.map h).sum := by
  induction l with
  | nil => simp
  | cons x l ih =>
    have := ih fun y hy => hh y (by simp [hy])
    have := hh x (by simp)
    simp only [List.map_cons, List.sum_cons]
    omega
theorem gAt_of {t : TShipTruth} {k : Nat} {n : Int} {r : List Int} {x : Int} (h1 : t.Goods[n.toNat]? = some r) (h2 : r[k]? = some x) : gAt t k n = x := by
  unfold gAt
  have e : t.Goods.getD n.toNat [] = r := by rw [List.getD_eq_getElem?_getD, h1]; rfl
  rw [e, List.getD_eq_getElem?_getD, h2]; rfl
theorem gAt_span {s : TShipStore} {days : Int} {t : TShipTruth} (hs : StoreOk s) (ht : TruthOk s days t) {k : Nat} (hk : k < s.Stock.length) {x : Int} (h0 : 0 ≤ x) (h1 : x < (s.Lots.length : Int)) : (goodAt s x.toNat k).Low ≤ gAt t k x ∧ gAt t k x ≤ (goodAt s x.toNat k).High := by
  have hlt : x.toNat < t.Goods.length := by have := ht.ng; omega
  have e := List.getElem?_eq_getElem hlt
  have hr := ht.nr _ (List.getElem_mem hlt)
  have e2 := List.getElem?_eq_getElem (show k < (t.Goods[x.toNat]).length by omega)
  rw [gAt_of e e2]
  exact ht.rows _ _ e _ _ e2
theorem gAt_end {s : TShipStore} (hs : StoreOk s) (n : Nat) (w : Bool) {k : Nat} (hk : k < s.Stock.length) {x : Int} (h0 : 0 ≤ x) (h1 : x < (s.Lots.length : Int)) : gAt (endT s n w) k x = if w = true then (goodAt s x.toNat k).Low else (goodAt s x.toNat k).High := by
  obtain ⟨l, q1, q2, q3, q4⟩ := good_get hs (i := x.toNat) (k := k) (by omega) hk
  refine gAt_of (r := l.Goods.map fun g => if w = true then g.Low else g.High) ?_ ?_
  · unfold endT mkT
    simp only [List.getElem?_map, q1, Option.map_some]
  · simp only [List.getElem?_map, q3, Option.map_some]
theorem end_uses {s : TShipStore} (hs : StoreOk s) (n : Nat) (w : Bool) {k : Nat} (hk : k < s.Stock.length) : (endT s n w).Uses.getD k 0 = if w = true then (s.Use.getD k ⟨0, 0⟩).High else (s.Use.getD k ⟨0, 0⟩).Low := by
  unfold endT mkT
  simp only [List.getD_eq_getElem?_getD, List.getElem?_map]
  have := use_get hs hk
  rw [List.getD_eq_getElem?_getD] at this
  rw [this]; rfl
theorem end_gaps (s : TShipStore) (n : Nat) (w : Bool) : ∀ x ∈ (endT s n w).Gaps, x = if w = true then s.Gap.High else s.Gap.Low := fun x hx => by
  unfold endT mkT at hx
  simp only [List.mem_replicate] at hx
  exact hx.2
/-- Between the ends. -/
theorem between {s : TShipStore} {t : TShipTruth} (hs : StoreOk s) {n : Nat} (ht : TruthOk s (n : Int) t) (hn : n ≤ 300) {load : List Int} (hi : incr load (s.Lots.length : Int) = true) {k : Nat} (hk : k < s.Stock.length) :
    (0 ≤ kwOf s load t n k → 0 ≤ kwOf s load (endT s n true) n k ∧ kwOf s load (endT s n true) n k ≤ kwOf s load t n k) ∧
    (0 ≤ kwOf s load (endT s n false) n k → 0 ≤ kwOf s load t n k ∧ kwOf s load t n k ≤ kwOf s load (endT s n false) n k) := by
  have hin := (incr_iff.1 hi).1
  have hgap := hs.gap
  obtain ⟨u1, u2, u3⟩ := use_of hs ht hk
  have hub := ht.uses k _ u1
  have ga : ∀ x ∈ t.Gaps, 1 ≤ x := fun x hx => by have := ht.gaps x hx; omega
  have gw : ∀ w, ∀ x ∈ (endT s n w).Gaps, 1 ≤ x := fun w x hx => by rw [end_gaps s n w x hx]; split <;> omega
  constructor
  · refine want_le (gw true) ga (fun i x y hx hy => ?_) ht.sum ?_ (goodsL_b hs (endT_ok hs hn true) load k).1 (sum_le fun x hx => ?_) (Int.le_refl _)
    · have h1 := end_gaps s n true x (List.mem_of_getElem? hx)
      have h2 := ht.gaps y (List.mem_of_getElem? hy)
      simp only [if_true] at h1
      omega
    · rw [end_uses hs n true hk]; simp only [if_true]; omega
    · have hx' := hin x hx
      rw [gAt_end hs n true hk hx'.1 hx'.2]
      exact (gAt_span hs ht hk hx'.1 hx'.2).1
  · refine want_le ga (gw false) (fun i x y hx hy => ?_) (endT_ok hs hn false).sum ?_ (goodsL_b hs ht load k).1 (sum_le fun x hx => ?_) (Int.le_refl _)
    · have h1 := end_gaps s n false y (List.mem_of_getElem? hy)
      have h2 := ht.gaps x (List.mem_of_getElem? hx)
      simp only [Bool.false_eq_true, if_false] at h1
      omega
    · rw [end_uses hs n false hk]; simp only [Bool.false_eq_true, if_false]; omega
    · have hx' := hin x hx
      rw [gAt_end hs n false hk hx'.1 hx'.2]
      exact (gAt_span hs ht hk hx'.1 hx'.2).2
end Go.Proofs.Ytajejmbnmphngaa
