/-
  LandReads: the document's reading of a text is the program's (plain law).
-/
import Derived.Test.YtcaflmilfhhikaaGreatDoorRz
namespace Go.Proofs.YtcaflmilfhhikaaGreatDoor
open Go.RowKit Go.Lib
set_option linter.unusedVariables false

/-- A loop that ends with a book that is none. -/
def RelT {α : Type} (m : Option (α ⊕ (TLandBook × Bool))) (o : Option α) : Prop := match o with
  | some a => m = some (.inl a)
  | none => ∃ b, m = some (.inr (b, false))
def RelF (m : Option (TLandBook × Bool)) (o : Option TLandBook) : Prop := match o with
  | some b => m = some (b, true)
  | none => ∃ b, m = some (b, false)
theorem RelF.bindm {α γ : Type} {m : Option (γ ⊕ (TLandBook × Bool))} {o : Option α} {fin : α → γ} {k : γ → Option (TLandBook × Bool)} {h : α → Option TLandBook} (hm : RelT m (o.map fin)) (hk : ∀ a, o = some a → RelF (k (fin a)) (h a)) : RelF (m.bind fun y => Sum.elim k (fun v => some v) y) (o.bind h) := by
  cases o with
  | some a => rw [show m = some (.inl (fin a)) from hm]; exact hk a rfl
  | none => obtain ⟨x, e⟩ := hm; rw [e]; exact ⟨x, rfl⟩
theorem lp_relT {τ σ ρ : Type} {body : σ → Option (σ ⊕ (ρ ⊕ (TLandBook × Bool)))} (enc : Nat → τ → σ) (n : Nat) (I : Nat → τ → Prop) (step : Nat → τ → Option τ) (fin : τ → ρ)
    (h1 : ∀ k t, k < n → I k t → step k t = none → ∃ b, body (enc k t) = some (.inr (.inr (b, false)))) (h3 : ∀ k t t', k < n → I k t → step k t = some t' → body (enc k t) = some (.inl (enc (k + 1) t')) ∧ I (k + 1) t') (h2 : ∀ t, I n t → body (enc n t) = some (.inr (.inl (fin t)))) :
    ∀ m k t, k + m = n → I k t → RelT (lp body (enc k t)) ((itN step m k t).map fin)
  | 0, k, t, hk, hI => by
    have : k = n := by omega
    subst this
    rw [lp_eq, h2 t hI]
    rfl
  | m + 1, k, t, hk, hI => by
    rw [lp_eq]
    simp only [itN]
    cases hs : step k t with
    | none =>
      obtain ⟨x, e⟩ := h1 k t (by omega) hI hs
      rw [e]
      exact ⟨x, rfl⟩
    | some t' =>
      obtain ⟨e, hI'⟩ := h3 k t t' (by omega) hI hs
      rw [e]
      exact lp_relT enc n I step fin h1 h3 h2 m (k + 1) t' (by omega) hI'
theorem c0_rel (lines : List Tex) (hl : ∀ l ∈ lines, l.length ≤ 1000000) (ns : List Int) (is : Bool) (n at_ : Nat) (h0 : ns[0]? = some (n : Int)) (hn : n ≤ 100000) (hat : at_ + n < lines.length) (hat' : at_ ≤ 1000000) (es : List TLandEvent) (ms : List TLandMemory) (bx : TLandBook) :
    RelT (lp (f13_b0 lines (ns, is)) ((at_ : Int), 0, ⟨[], es, ms⟩, bx)) ((itN (stP lines at_) n 0 []).map fun t => (((at_ + n : Nat) : Int), (⟨t, es, ms⟩ : TLandBook), bx)) := by
  have hix : ix ns 0 = some (n : Int) := h0
  refine lp_relT (body := f13_b0 lines (ns, is)) (fun k (t : List TLandPerson) => (((at_ + k : Nat) : Int), (k : Int), (⟨t, es, ms⟩ : TLandBook), bx)) n (fun k t => t.length = k) (stP lines at_) _ (fun k t hk hI hst => ?_) (fun k t t' hk hI hst => ?_) (fun t _ => ?_) n 0 [] (by omega) rfl
  · obtain ⟨l, hl0⟩ : ∃ l, lines[at_ + k]? = some l := ⟨_, List.getElem?_eq_getElem (by omega)⟩
    have hll := hl l (List.mem_of_getElem? hl0)
    unfold stP at hst
    rw [hl0, Option.bind_some] at hst
    have hper : perL l = none := by
      cases hp : perL l with
      | none => rfl
      | some p => rw [hp] at hst; cases hst
    have e34 : f34 l ([112, 101, 114, 115, 111, 110] : List UInt8) 2 = some ([], false) := by
      have := f34_eq kP 2 l hll (by decide)
      rw [nums_per, hper] at this
      exact this
    unfold f13_b0
    simp only [hix, Option.bind_some]
    rw [if_pos (by simpa using hk)]
    simp only [ix_nat, hl0, Option.bind_some, e34]
    exact ⟨_, rfl⟩
  · unfold stP at hst
    obtain ⟨l, hl0, h2⟩ := Option.bind_eq_some_iff.1 hst
    obtain ⟨p, hper, rfl⟩ := Option.map_eq_some_iff.1 h2
    have hll := hl l (List.mem_of_getElem? hl0)
    refine ⟨?_, by simp [hI]⟩
    have e34 : f34 l ([112, 101, 114, 115, 111, 110] : List UInt8) 2 = some ([p.Mother, p.Adopted], true) := by
      have := f34_eq kP 2 l hll (by decide)
      rw [nums_per, hper] at this
      exact this
    have ea : ∀ q : TLandPerson, app t [q] = some (t ++ [q]) := fun q => by unfold app; rw [if_pos (by simp; omega)]
    have h1 : IntKind.i64.wrap (((at_ + k : Nat) : Int) + 1) = ((at_ + (k + 1) : Nat) : Int) := by rw [wrap_id] <;> omega
    have h2 : IntKind.i64.wrap ((k : Int) + 1) = ((k + 1 : Nat) : Int) := by rw [wrap_id] <;> omega
    have j0 : ix ([p.Mother, p.Adopted] : List Int) 0 = some p.Mother := rfl
    have j1 : ix ([p.Mother, p.Adopted] : List Int) 1 = some p.Adopted := rfl
    unfold f13_b0
    simp only [hix, Option.bind_some]
    rw [if_pos (by simpa using hk)]
    simp only [ix_nat, hl0, Option.bind_some, e34, Bool.not_true, Bool.false_eq_true, if_false, j0, j1, ea, h1, h2]
  · unfold f13_b0
    simp only [hix, Option.bind_some]
    rw [if_neg (by simp)]
theorem c1_rel (lines : List Tex) (hl : ∀ l ∈ lines, l.length ≤ 1000000) (ns : List Int) (is : Bool) (n at_ : Nat) (h0 : ns[1]? = some (n : Int)) (hn : n ≤ 100000) (hat : at_ + n < lines.length) (hat' : at_ ≤ 1000000) (ps : List TLandPerson) (ms : List TLandMemory) (bx : TLandBook) :
    RelT (lp (f13_b1 lines (ns, is)) ((at_ : Int), 0, ⟨ps, [], ms⟩, bx)) ((itN (stE lines at_) n 0 []).map fun t => (((at_ + n : Nat) : Int), (⟨ps, t, ms⟩ : TLandBook), bx)) := by
  have hix : ix ns 1 = some (n : Int) := h0
  refine lp_relT (body := f13_b1 lines (ns, is)) (fun k (t : List TLandEvent) => (((at_ + k : Nat) : Int), (k : Int), (⟨ps, t, ms⟩ : TLandBook), bx)) n (fun k t => t.length = k) (stE lines at_) _ (fun k t hk hI hst => ?_) (fun k t t' hk hI hst => ?_) (fun t _ => ?_) n 0 [] (by omega) rfl
  · obtain ⟨l, hl0⟩ : ∃ l, lines[at_ + k]? = some l := ⟨_, List.getElem?_eq_getElem (by omega)⟩
    have hll := hl l (List.mem_of_getElem? hl0)
    unfold stE at hst
    rw [hl0, Option.bind_some] at hst
    have hper : eveL l = none := by
      cases hp : eveL l with
      | none => rfl
      | some p => rw [hp] at hst; cases hst
    have e34 : f34 l ([101, 118, 101, 110, 116] : List UInt8) 2 = some ([], false) := by
      have := f34_eq kE 2 l hll (by decide)
      rw [nums_eve, hper] at this
      exact this
    unfold f13_b1
    simp only [hix, Option.bind_some]
    rw [if_pos (by simpa using hk)]
    simp only [ix_nat, hl0, Option.bind_some, e34]
    exact ⟨_, rfl⟩
  · unfold stE at hst
    obtain ⟨l, hl0, h2⟩ := Option.bind_eq_some_iff.1 hst
    obtain ⟨p, hper, rfl⟩ := Option.map_eq_some_iff.1 h2
    have hll := hl l (List.mem_of_getElem? hl0)
    refine ⟨?_, by simp [hI]⟩
    have e34 : f34 l ([101, 118, 101, 110, 116] : List UInt8) 2 = some ([p.Strip, p.Holder], true) := by
      have := f34_eq kE 2 l hll (by decide)
      rw [nums_eve, hper] at this
      exact this
    have ea : ∀ q : TLandEvent, app t [q] = some (t ++ [q]) := fun q => by unfold app; rw [if_pos (by simp; omega)]
    have h1 : IntKind.i64.wrap (((at_ + k : Nat) : Int) + 1) = ((at_ + (k + 1) : Nat) : Int) := by rw [wrap_id] <;> omega
    have h2 : IntKind.i64.wrap ((k : Int) + 1) = ((k + 1 : Nat) : Int) := by rw [wrap_id] <;> omega
    have j0 : ix ([p.Strip, p.Holder] : List Int) 0 = some p.Strip := rfl
    have j1 : ix ([p.Strip, p.Holder] : List Int) 1 = some p.Holder := rfl
    unfold f13_b1
    simp only [hix, Option.bind_some]
    rw [if_pos (by simpa using hk)]
    simp only [ix_nat, hl0, Option.bind_some, e34, Bool.not_true, Bool.false_eq_true, if_false, j0, j1, ea, h1, h2]
  · unfold f13_b1
    simp only [hix, Option.bind_some]
    rw [if_neg (by simp)]
theorem c2_rel (lines : List Tex) (hl : ∀ l ∈ lines, l.length ≤ 1000000) (ns : List Int) (is : Bool) (n at_ : Nat) (h0 : ns[2]? = some (n : Int)) (hn : n ≤ 100000) (hat : at_ + n < lines.length) (hat' : at_ ≤ 1000000) (ps : List TLandPerson) (es : List TLandEvent) (bx : TLandBook) :
    RelT (lp (f13_b2 lines (ns, is)) ((at_ : Int), 0, ⟨ps, es, []⟩, bx)) ((itN (stM lines at_) n 0 []).map fun t => (((at_ + n : Nat) : Int), (⟨ps, es, t⟩ : TLandBook), bx)) := by
  have hix : ix ns 2 = some (n : Int) := h0
  refine lp_relT (body := f13_b2 lines (ns, is)) (fun k (t : List TLandMemory) => (((at_ + k : Nat) : Int), (k : Int), (⟨ps, es, t⟩ : TLandBook), bx)) n (fun k t => t.length = k) (stM lines at_) _ (fun k t hk hI hst => ?_) (fun k t t' hk hI hst => ?_) (fun t _ => ?_) n 0 [] (by omega) rfl
  · obtain ⟨l, hl0⟩ : ∃ l, lines[at_ + k]? = some l := ⟨_, List.getElem?_eq_getElem (by omega)⟩
    have hll := hl l (List.mem_of_getElem? hl0)
    unfold stM at hst
    rw [hl0, Option.bind_some] at hst
    have hper : memL l = none := by
      cases hp : memL l with
      | none => rfl
      | some p => rw [hp] at hst; cases hst
    have e34 : f34 l ([109, 101, 109, 111, 114, 121] : List UInt8) 4 = some ([], false) := by
      have := f34_eq kM 4 l hll (by decide)
      rw [nums_mem, hper] at this
      exact this
    unfold f13_b2
    simp only [hix, Option.bind_some]
    rw [if_pos (by simpa using hk)]
    simp only [ix_nat, hl0, Option.bind_some, e34]
    exact ⟨_, rfl⟩
  · unfold stM at hst
    obtain ⟨l, hl0, h2⟩ := Option.bind_eq_some_iff.1 hst
    obtain ⟨p, hper, rfl⟩ := Option.map_eq_some_iff.1 h2
    have hll := hl l (List.mem_of_getElem? hl0)
    refine ⟨?_, by simp [hI]⟩
    have e34 : f34 l ([109, 101, 109, 111, 114, 121] : List UInt8) 4 = some ([p.From, p.To, p.Years.Low, p.Years.High], true) := by
      have := f34_eq kM 4 l hll (by decide)
      rw [nums_mem, hper] at this
      exact this
    have ea : ∀ q : TLandMemory, app t [q] = some (t ++ [q]) := fun q => by unfold app; rw [if_pos (by simp; omega)]
    have h1 : IntKind.i64.wrap (((at_ + k : Nat) : Int) + 1) = ((at_ + (k + 1) : Nat) : Int) := by rw [wrap_id] <;> omega
    have h2 : IntKind.i64.wrap ((k : Int) + 1) = ((k + 1 : Nat) : Int) := by rw [wrap_id] <;> omega
    have j0 : ix ([p.From, p.To, p.Years.Low, p.Years.High] : List Int) 0 = some p.From := rfl
    have j1 : ix ([p.From, p.To, p.Years.Low, p.Years.High] : List Int) 1 = some p.To := rfl
    have j2 : ix ([p.From, p.To, p.Years.Low, p.Years.High] : List Int) 2 = some p.Years.Low := rfl
    have j3 : ix ([p.From, p.To, p.Years.Low, p.Years.High] : List Int) 3 = some p.Years.High := rfl
    unfold f13_b2
    simp only [hix, Option.bind_some]
    rw [if_pos (by simpa using hk)]
    simp only [ix_nat, hl0, Option.bind_some, e34, Bool.not_true, Bool.false_eq_true, if_false, j0, j1, j2, j3, ea, h1, h2]
  · unfold f13_b2
    simp only [hix, Option.bind_some]
    rw [if_neg (by simp)]
/-! ### The whole -/
def endO (s : Tex) (lines : List Tex) (at_ : Nat) : Bool := (lines.getD (at_ + 1) [] == []) && (decide ((lines.getD at_ []).length + 1 < s.length) && (lines.getD at_ [] == [101, 110, 100, 32] ++ chk (s.take (s.length - (lines.getD at_ []).length - 1))))
def readQ (s : Tex) : Option TLandBook :=
  (headO ((splL 10 s).headD [])).bind fun h =>
  (if 0 ≤ h.1 ∧ 0 ≤ h.2.1 ∧ 0 ≤ h.2.2 ∧ (splL 10 s).length = h.1.toNat + h.2.1.toNat + h.2.2.toNat + 3 then some () else none).bind fun _ =>
  (itN (stP (splL 10 s) 1) h.1.toNat 0 []).bind fun ps => (itN (stE (splL 10 s) (1 + h.1.toNat)) h.2.1.toNat 0 []).bind fun es => (itN (stM (splL 10 s) (1 + h.1.toNat + h.2.1.toNat)) h.2.2.toNat 0 []).bind fun ms =>
  if endO s (splL 10 s) (1 + h.1.toNat + h.2.1.toNat + h.2.2.toNat) = true then some ⟨ps, es, ms⟩ else none
theorem head_small {x : Tex} {h : Int × Int × Int} (e : headO x = some h) : small h.1 ∧ small h.2.1 ∧ small h.2.2 := by
  unfold headO at e
  split at e
  · split at e
    · obtain ⟨p, h1, e⟩ := Option.bind_eq_some_iff.1 e
      obtain ⟨q, h2, e⟩ := Option.bind_eq_some_iff.1 e
      obtain ⟨r, h3, rfl⟩ := Option.map_eq_some_iff.1 e
      exact ⟨num_small h1, num_small h2, num_small h3⟩
    · cases e
  · cases e
theorem f13_rel (s : Tex) (hs : s.length ≤ 90000) : RelF (f13 s) (readQ s) := by
  have hln := splL_len 10 s
  have hpc : ∀ l ∈ splL 10 s, l.length ≤ 1000000 := fun l hl => by have := splL_piece 10 _ l hl; omega
  have hpc9 : ∀ l ∈ splL 10 s, l.length ≤ 90000 := fun l hl => by have := splL_piece 10 _ l hl; omega
  obtain ⟨l0, lr, hl⟩ := splL_hd 10 s
  unfold f13 readQ
  rw [show f33 s 10 = some (splL 10 s) from f33_eq 10 s (by omega), Option.bind_some]
  rw [hl] at hln hpc hpc9 ⊢
  have i0 : ix (l0 :: lr) 0 = some l0 := rfl
  have hd0 : (l0 :: lr).headD [] = l0 := rfl
  have e34 : f34 l0 ([108, 97, 110, 100] : List UInt8) 3 = some ((numsO kL 3 l0).elim ([], false) fun ns => (ns, true)) := f34_eq kL 3 l0 (hpc l0 (by simp)) (by decide)
  rw [i0, Option.bind_some, e34, Option.bind_some, hd0, nums_head]
  cases hh : headO l0 with
  | none => exact ⟨_, rfl⟩
  | some h =>
    obtain ⟨p, e, m⟩ := h
    obtain ⟨hp, he, hm⟩ := head_small hh
    simp only at hp he hm
    obtain ⟨hp0, hp1⟩ := hp
    obtain ⟨he0, he1⟩ := he
    obtain ⟨hm0, hm1⟩ := hm
    simp only [Option.map_some, Option.elim_some, Option.bind_some, Bool.not_true, Bool.false_eq_true, if_false]
    have j0 : ix ([p, e, m] : List Int) 0 = some p := rfl
    have j1 : ix ([p, e, m] : List Int) 1 = some e := rfl
    have j2 : ix ([p, e, m] : List Int) 2 = some m := rfl
    simp only [j0, j1, j2, Option.bind_some]
    have hw : IntKind.i64.wrap (IntKind.i64.wrap (IntKind.i64.wrap (p + e) + m) + 3) = p + e + m + 3 := by
      rw [wrap_id (x := p + e) (by omega) (by omega), wrap_id (x := p + e + m) (by omega) (by omega), wrap_id (by omega) (by omega)]
    rw [hw]
    by_cases hc : 0 ≤ p ∧ 0 ≤ e ∧ 0 ≤ m ∧ (l0 :: lr).length = p.toNat + e.toNat + m.toNat + 3
    · obtain ⟨c1, c2, c3, c4⟩ := hc
      rw [if_pos (⟨c1, c2, c3, c4⟩ : 0 ≤ p ∧ 0 ≤ e ∧ 0 ≤ m ∧ (l0 :: lr).length = p.toNat + e.toNat + m.toNat + 3), Option.bind_some]
      have d1 : decide (p < 0) = false := by simp; omega
      have d2 : decide (e < 0) = false := by simp; omega
      have d3 : decide (m < 0) = false := by simp; omega
      have d4 : (((l0 :: lr).length : Int) != p + e + m + 3) = false := by rw [c4]; simp; omega
      simp only [d1, d2, d3, d4, Bool.false_eq_true, if_false, Option.bind_some]
      have ep : ((p.toNat : Nat) : Int) = p := by omega
      have ee : ((e.toNat : Nat) : Int) = e := by omega
      have em : ((m.toNat : Nat) : Int) = m := by omega
      refine RelF.bindm (c0_rel (l0 :: lr) hpc [p, e, m] true p.toNat 1 (by rw [ep]; rfl) (by omega) (by omega) (by decide) [] [] (⟨[], [], []⟩ : TLandBook)) fun ps hps => ?_
      refine RelF.bindm (c1_rel (l0 :: lr) hpc [p, e, m] true e.toNat (1 + p.toNat) (by rw [ee]; rfl) (by omega) (by omega) (by omega) ps [] (⟨[], [], []⟩ : TLandBook)) fun es hes => ?_
      refine RelF.bindm (c2_rel (l0 :: lr) hpc [p, e, m] true m.toNat (1 + p.toNat + e.toNat) (by rw [em]; rfl) (by omega) (by omega) (by omega) ps es (⟨[], [], []⟩ : TLandBook)) fun ms hms => ?_
      obtain ⟨a, ha⟩ : ∃ a, 1 + p.toNat + e.toNat + m.toNat = a := ⟨_, rfl⟩
      have hal : a + 1 < (l0 :: lr).length := by rw [c4]; omega
      rw [ha]
      obtain ⟨x, hx⟩ : ∃ x, (l0 :: lr)[a]? = some x := ⟨_, List.getElem?_eq_getElem (by omega)⟩
      obtain ⟨y, hy⟩ : ∃ y, (l0 :: lr)[a + 1]? = some y := ⟨_, List.getElem?_eq_getElem hal⟩
      have gx : (l0 :: lr).getD a [] = x := by rw [List.getD_eq_getElem?_getD, hx]; rfl
      have gy : (l0 :: lr).getD (a + 1) [] = y := by rw [List.getD_eq_getElem?_getD, hy]; rfl
      have hxl := hpc9 x (List.mem_of_getElem? hx)
      have hw1 : IntKind.i64.wrap ((a : Int) + 1) = ((a + 1 : Nat) : Int) := by
        have : a ≤ 100000 := by omega
        rw [wrap_id] <;> omega
      have hw2 : IntKind.i64.wrap (IntKind.i64.wrap ((s.length : Int) - (x.length : Int)) - 1) = (s.length : Int) - (x.length : Int) - 1 := by
        rw [wrap_id (x := (s.length : Int) - (x.length : Int)) (by omega) (by omega), wrap_id (by omega) (by omega)]
      unfold endO
      rw [gx, gy]
      simp only [hw1, ix_nat, hx, hy, Option.bind_some, hw2]
      by_cases h1 : y = []
      · rw [if_pos (by simpa using h1), show (y == []) = true by simpa using h1, Bool.true_and]
        by_cases h2 : x.length + 1 < s.length
        · rw [if_pos (by simp; omega), show decide (x.length + 1 < s.length) = true by simpa using h2, Bool.true_and]
          have es : subL s 0 ((s.length : Int) - (x.length : Int) - 1) = some (s.take (s.length - x.length - 1)) := by
            unfold subL
            rw [if_pos ⟨by omega, by omega, by omega⟩]
            congr 1
            have : ((s.length : Int) - (x.length : Int) - 1).toNat = s.length - x.length - 1 := by omega
            rw [this]
            simp
          have hcl := chk_len (s.take (s.length - x.length - 1))
          rw [es, Option.bind_some, f32_eq _ (by simp; omega), Option.bind_some, catS_ok (by simp; omega), Option.bind_some]
          by_cases h3 : x = [101, 110, 100, 32] ++ chk (s.take (s.length - x.length - 1))
          · rw [if_pos (by simpa using h3), show (x == [101, 110, 100, 32] ++ chk (s.take (s.length - x.length - 1))) = true by simpa using h3]
            exact rfl
          · rw [if_neg (by simpa using h3), show (x == [101, 110, 100, 32] ++ chk (s.take (s.length - x.length - 1))) = false by simpa using h3]
            exact ⟨_, rfl⟩
        · rw [if_neg (by simp; omega), show decide (x.length + 1 < s.length) = false by simpa using h2]
          exact ⟨_, rfl⟩
      · rw [if_neg (by simpa using h1), show (y == []) = false by simpa using h1]
        exact ⟨_, rfl⟩
    · rw [if_neg hc]
      have : ((if (decide (p < 0)) = true then (some true) else (if (decide (e < 0)) = true then (some true) else (if (decide (m < 0)) = true then (some true) else (some (((l0 :: lr).length : Int) != p + e + m + 3)))) : Option Bool)) = some true := by
        by_cases c1 : p < 0
        · rw [if_pos (by simpa using c1)]
        · rw [if_neg (by simpa using c1)]
          by_cases c2 : e < 0
          · rw [if_pos (by simpa using c2)]
          · rw [if_neg (by simpa using c2)]
            by_cases c3 : m < 0
            · rw [if_pos (by simpa using c3)]
            · rw [if_neg (by simpa using c3)]
              have : ¬ ((l0 :: lr).length : Int) = p + e + m + 3 := fun h4 => hc ⟨by omega, by omega, by omega, by omega⟩
              congr 1
              simpa using this
      rw [this, Option.bind_some, if_pos rfl]
      exact ⟨_, rfl⟩
end Go.Proofs.YtcaflmilfhhikaaGreatDoor
