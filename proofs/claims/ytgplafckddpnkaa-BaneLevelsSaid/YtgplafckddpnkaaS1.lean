/-
  Bane's webs: what is as defined, the program's way and the document's; levels in truth.
-/
import Derived.Test.YtgplafckddpnkaaPu
import Derived.Test.YtgplafckddpnkaaGn
namespace Go.Proofs.Ytgplafckddpnkaa
open Go.RowKit

def inR (x a b : Int) : Bool := decide (a ≤ x) && decide (x ≤ b)
theorem inR_iff {x a b : Int} : inR x a b = true ↔ a ≤ x ∧ x ≤ b := by simp [inR]
theorem f66_eq (x a b : Int) : f66 x a b = some (inR x a b) := by
  unfold f66 inR
  by_cases h : a ≤ x <;> simp [h]
theorem f69_eq (x a b : Int) : f69 x a b = some (inR x a b) := f66_eq x a b
def spanOk (s : TSpan) (m : Int) : Bool := decide (0 ≤ s.Low) && (decide (s.Low ≤ s.High) && decide (s.High ≤ m))
theorem f95_eq (s : TSpan) (m : Int) : f95 s m = some (spanOk s m) := by
  unfold f95 spanOk
  by_cases h : 0 ≤ s.Low <;> by_cases h' : s.Low ≤ s.High <;> simp [h, h']
theorem f70_eq (s : TSpan) (m : Int) : f70 s m = some (spanOk s m) := f95_eq s m
/-- 'slices.Index', 'slices.Contains'. -/
theorem f74_eq (xs : List Int) (x : Int) (hl : xs.length ≤ 1073741824) : f74 xs x = some (xs.contains x) := by
  have h : lp (f99_b0 xs x) 0 = goL (fun k y (_ : Unit) => some (if (x == y) = true then .inr (.inr (k : Int)) else .inl ())) (fun _ => .inl ()) 0 xs () := by
    refine lp_goL (fun k _ => (k : Int)) xs _ _ ?_ ?_ ()
    · intro k t y hy
      have hk := get_lt hy
      unfold f99_b0
      rw [if_pos (by simpa using hk), ix_nat, hy, wrap_nat hk hl]
      by_cases h : x = y <;> simp [h]
    · intro t
      unfold f99_b0
      simp
  have h2 : ∀ (ys : List Int) (k : Nat), ∃ r : Unit ⊕ Int, goL (fun k y (_ : Unit) => some (if (x == y) = true then .inr (.inr (k : Int)) else .inl ())) (fun _ => .inl ()) k ys () = some r ∧ (match r with | .inl _ => ys.contains x = false | .inr i => ys.contains x = true ∧ 0 ≤ i) := by
    intro ys
    induction ys with
    | nil => intro k; exact ⟨_, rfl, rfl⟩
    | cons y ys ih =>
      intro k
      by_cases hxy : (x == y) = true
      · exact ⟨.inr k, by simp only [goL, hxy, if_true], by rw [List.contains_cons, hxy]; simp⟩
      · obtain ⟨r, h1, h2⟩ := ih (k + 1)
        refine ⟨r, by simp only [goL, hxy]; exact h1, ?_⟩
        have e : (y :: ys).contains x = ys.contains x := by
          have hxy' : (x == y) = false := by simpa using hxy
          rw [List.contains_cons, hxy', Bool.false_or]
        rw [e]; exact h2
  obtain ⟨r, h1, h3⟩ := h2 xs 0
  unfold f74 f99
  rw [h, h1]
  cases r with
  | inl _ => simp at h3 ⊢; simpa using h3
  | inr i => obtain ⟨h4, h5⟩ := h3; simp [h5]; simpa using h4
/-- Bites that are as defined, those of kind i. -/
def biteOk (i : Nat) (bs : List TBaneBite) (k : Nat) (b : TBaneBite) : Bool := inR b.Prey 0 ((i : Int) - 1) && (!((bs.take k).map (·.Prey)).contains b.Prey && spanOk b.Share 1000)
def fishOk (i : Nat) (f : TBaneFish) : Bool := spanOk f.Base 1000000 && (decide (f.Bites.length ≤ 6) && (inR f.Pass 0 1000000 && (inR f.Cost 0 1000000 && allI (biteOk i f.Bites) 0 f.Bites)))
def webOk (w : TBaneWeb) : Bool := allI fishOk 0 w.Fish && (inR (w.Fish.length : Int) 1 7 && inR w.Limit 0 1000000)
/-- Lists that are short enough. -/
def webShort (w : TBaneWeb) : Prop := w.Fish.length ≤ 12 ∧ ∀ f ∈ w.Fish, f.Bites.length ≤ 10
theorem app_short {α : Type} (xs ys : List α) (h : xs.length + ys.length ≤ 1073741824) : app xs ys = some (xs ++ ys) := by simp [app, h]
theorem pred_nat {i n : Nat} (h : i < n) (hn : n ≤ 1073741824) : IntKind.i64.wrap ((i : Int) - 1) = (i : Int) - 1 := by rw [wrap_id] <;> omega
theorem f65_eq (w : TBaneWeb) (hs : webShort w) : f65 w = some (webOk w) := by
  have inner : ∀ (i : Nat) (f : TBaneFish), i < 12 → f.Bites.length ≤ 10 → lp (f65_b1 (i : Int) f) ([], 0) = some (if allI (biteOk i f.Bites) 0 f.Bites = true then .inl () else .inr false) := by
    intro i f hi hf
    rw [← goL_all (biteOk i f.Bites) (Sum.inr false) (fun _ => Sum.inl ()) f.Bites 0]
    refine lp_goL (fun k _ => ((f.Bites.take k).map (·.Prey), (k : Int))) f.Bites _ _ ?_ ?_ ()
    · intro k t b hb
      have hk := get_lt hb
      have ht : ((f.Bites.take k).map (·.Prey)).length ≤ 10 := by simp; omega
      unfold f65_b1
      rw [if_pos (by simpa using hk), ix_nat, hb, wrap_nat hk (by omega)]
      simp only [Option.bind_some, pred_nat hi (by omega), f66_eq, f74_eq _ _ (Nat.le_trans ht (by omega)), f95_eq]
      have hsnoc : (f.Bites.take (k + 1)).map (·.Prey) = (f.Bites.take k).map (·.Prey) ++ [b.Prey] := by
        rw [List.take_add_one, hb]; simp
      rw [app_short _ _ (by simp; omega), ← hsnoc]
      unfold biteOk
      cases inR b.Prey 0 ((i : Int) - 1) <;> cases ((f.Bites.take k).map (·.Prey)).contains b.Prey <;> cases spanOk b.Share 1000 <;> simp
    · intro t
      unfold f65_b1
      simp
  have outer : lp (f65_b0 w) 0 = some (if allI fishOk 0 w.Fish = true then .inl () else .inr false) := by
    rw [← goL_all fishOk (Sum.inr false) (fun _ => Sum.inl ()) w.Fish 0]
    refine lp_goL (fun k _ => (k : Int)) w.Fish _ _ ?_ ?_ ()
    · intro k t f hf
      have hk := get_lt hf
      have hk12 := hs.1
      unfold f65_b0
      rw [if_pos (by simpa using hk), ix_nat, hf, wrap_nat hk (by omega)]
      simp only [Option.bind_some, f66_eq, f95_eq, inner k f (by omega) (hs.2 f (List.mem_of_getElem? hf))]
      unfold fishOk
      have e6 : decide ((6 : Int) < (f.Bites.length : Int)) = !decide (f.Bites.length ≤ 6) := by
        rw [Bool.eq_iff_iff]; simp; omega
      rw [e6]
      cases spanOk f.Base 1000000 <;> cases decide (f.Bites.length ≤ 6) <;> cases inR f.Pass 0 1000000 <;> cases inR f.Cost 0 1000000 <;> cases allI (biteOk k f.Bites) 0 f.Bites <;> simp
    · intro t
      unfold f65_b0
      simp
  unfold f65
  rw [outer]
  unfold webOk
  simp only [f66_eq]
  cases allI fishOk 0 w.Fish <;> cases inR (w.Fish.length : Int) 1 7 <;> cases inR w.Limit 0 1000000 <;> simp
/-! ### The document's way of telling which webs are as defined -/
theorem f21_eq (w : TBaneWeb) (hs : webShort w) : f21 w = some (webOk w) := by
  have dup : ∀ (f : TBaneFish) (k : Nat) (b : TBaneBite), f.Bites.length ≤ 10 → f.Bites[k]? = some b → lp (f21_b2 (k : Int) f) 0 = some (if ((f.Bites.take k).map (·.Prey)).contains b.Prey = true then .inr false else .inl ()) := by
    intro f k b hf hb
    have hk := get_lt hb
    have h := lp_goL (body := f21_b2 (k : Int) f) (fun j _ => (j : Int)) (f.Bites.take k) (fun j c (_ : Unit) => some (if (!(c.Prey == b.Prey)) = true then .inl () else .inr (Sum.inr false))) (fun _ => Sum.inl ()) ?_ ?_ ()
    · rw [show (0 : Int) = ((0 : Nat) : Int) from rfl, h, goL_all (fun _ (c : TBaneBite) => !(c.Prey == b.Prey))]
      congr 1
      have e : allI (fun _ (c : TBaneBite) => !(c.Prey == b.Prey)) 0 (f.Bites.take k) = !((f.Bites.take k).map (·.Prey)).contains b.Prey := by
        have : ∀ (l : List TBaneBite) (j : Nat), allI (fun _ (c : TBaneBite) => !(c.Prey == b.Prey)) j l = !(l.map (·.Prey)).contains b.Prey := by
          intro l
          induction l with
          | nil => intro j; rfl
          | cons c l ih =>
            intro j
            rw [allI, ih, List.map_cons, List.contains_cons, Bool.not_or]
            congr 2
            rw [Bool.eq_iff_iff, beq_iff_eq, beq_iff_eq]; exact eq_comm
        exact this _ _
      rw [e]
      cases ((f.Bites.take k).map (·.Prey)).contains b.Prey <;> simp
    · intro j t c hc
      have hj := get_lt hc
      rw [List.length_take] at hj
      have hc' : f.Bites[j]? = some c := by
        rw [List.getElem?_take] at hc
        split at hc
        · exact hc
        · cases hc
      unfold f21_b2
      rw [if_pos (by simp; omega), ix_nat, ix_nat, hc', hb, wrap_nat (n := k) (by omega) (by omega)]
      by_cases h : c.Prey = b.Prey <;> simp [h]
    · intro t
      unfold f21_b2
      have : (f.Bites.take k).length = k := by rw [List.length_take]; omega
      simp [this]
  have inner : ∀ (i : Nat) (f : TBaneFish), i < 12 → f.Bites.length ≤ 10 → lp (f21_b1 (i : Int) f) 0 = some (if allI (biteOk i f.Bites) 0 f.Bites = true then .inl () else .inr false) := by
    intro i f hi hf
    rw [← goL_all (biteOk i f.Bites) (Sum.inr false) (fun _ => Sum.inl ()) f.Bites 0]
    refine lp_goL (fun k _ => (k : Int)) f.Bites _ _ ?_ ?_ ()
    · intro k t b hb
      have hk := get_lt hb
      unfold f21_b1
      rw [if_pos (by simpa using hk), ix_nat, hb, wrap_nat hk (by omega)]
      simp only [Option.bind_some, pred_nat hi (by omega), f69_eq, f70_eq, dup f k b hf hb]
      unfold biteOk
      cases inR b.Prey 0 ((i : Int) - 1) <;> cases ((f.Bites.take k).map (·.Prey)).contains b.Prey <;> cases spanOk b.Share 1000 <;> simp
    · intro t
      unfold f21_b1
      simp
  have outer : lp (f21_b0 w) 0 = some (if allI fishOk 0 w.Fish = true then .inl () else .inr false) := by
    rw [← goL_all fishOk (Sum.inr false) (fun _ => Sum.inl ()) w.Fish 0]
    refine lp_goL (fun k _ => (k : Int)) w.Fish _ _ ?_ ?_ ()
    · intro k t f hf
      have hk := get_lt hf
      have hk12 := hs.1
      unfold f21_b0
      rw [if_pos (by simpa using hk), ix_nat, hf, wrap_nat hk (by omega)]
      simp only [Option.bind_some, f69_eq, f70_eq, inner k f (by omega) (hs.2 f (List.mem_of_getElem? hf))]
      unfold fishOk
      have e6 : decide ((6 : Int) < (f.Bites.length : Int)) = !decide (f.Bites.length ≤ 6) := by
        rw [Bool.eq_iff_iff]; simp; omega
      rw [e6]
      cases spanOk f.Base 1000000 <;> cases decide (f.Bites.length ≤ 6) <;> cases inR f.Pass 0 1000000 <;> cases inR f.Cost 0 1000000 <;> cases allI (biteOk k f.Bites) 0 f.Bites <;> simp
    · intro t
      unfold f21_b0
      simp
  unfold f21
  rw [outer]
  unfold webOk
  simp only [f69_eq]
  cases allI fishOk 0 w.Fish <;> cases inR (w.Fish.length : Int) 1 7 <;> cases inR w.Limit 0 1000000 <;> simp

/-! ### Which inputs are short -/
theorem f17_eq (w : TBaneWeb) : ∃ b, f17 w = some b ∧ (b = true → webShort w) := by
  have h := lp_goL (body := f17_b0 w) (fun k _ => (k : Int)) (w.Fish.take 15) (fun _ f (_ : Unit) => some (if decide (f.Bites.length ≤ 10) = true then .inl () else .inr (Sum.inr false))) (fun _ => Sum.inl ()) ?_ ?_ ()
  · rw [goL_all (fun _ (f : TBaneFish) => decide (f.Bites.length ≤ 10))] at h
    unfold f17
    rw [show (0 : Int) = ((0 : Nat) : Int) from rfl, h]
    by_cases ha : allI (fun _ (f : TBaneFish) => decide (f.Bites.length ≤ 10)) 0 (w.Fish.take 15) = true
    · refine ⟨decide (((w.Fish.length : Nat) : Int) ≤ 12), by simp [ha], fun hd => ?_⟩
      have hl : w.Fish.length ≤ 12 := by have := of_decide_eq_true hd; omega
      refine ⟨hl, fun f hf => ?_⟩
      obtain ⟨j, hj⟩ := List.getElem?_of_mem hf
      have hjl := get_lt hj
      rw [allI_iff] at ha
      simpa using ha j f (by rw [List.getElem?_take, if_pos (by omega)]; exact hj)
    · exact ⟨false, by simp [ha], fun h => by cases h⟩
  · intro k t f hf
    have hk := get_lt hf
    rw [List.length_take] at hk
    have hf' : w.Fish[k]? = some f := by
      rw [List.getElem?_take] at hf
      split at hf
      · exact hf
      · cases hf
    unfold f17_b0
    have h1 : decide ((k : Int) < (w.Fish.length : Int)) = true := by simp; omega
    have h2 : decide ((k : Int) < 15) = true := by simp; omega
    rw [h1, h2]
    simp only [if_true, Option.bind_some, ix_nat, hf', wrap_nat (n := 15) (show k < 15 by omega) (by omega)]
    by_cases h : f.Bites.length ≤ 10
    · have : ¬ (10 : Int) < (f.Bites.length : Int) := by omega
      simp [h, this]
    · have : (10 : Int) < (f.Bites.length : Int) := by omega
      simp [h, this]
  · intro t
    unfold f17_b0
    rw [List.length_take]
    by_cases h1 : ((min 15 w.Fish.length : Nat) : Int) < (w.Fish.length : Int)
    · have h2 : ¬ ((min 15 w.Fish.length : Nat) : Int) < 15 := by omega
      simp only [h1, h2, decide_true, decide_false, if_true, Option.bind_some]
      simp
    · simp only [h1, decide_false]
      simp
def truthShort (t : TBaneTruth) : Prop := t.Bases.length ≤ 12 ∧ t.Shares.length ≤ 12 ∧ ∀ l ∈ t.Shares, l.length ≤ 10
theorem f18_eq (x : TBaneTruth) : ∃ b, f18 x = some b ∧ (b = true → truthShort x) := by
  have h := lp_goL (body := f18_b0 x) (fun k _ => (k : Int)) (x.Shares.take 15) (fun _ f (_ : Unit) => some (if decide (f.length ≤ 10) = true then .inl () else .inr (Sum.inr false))) (fun _ => Sum.inl ()) ?_ ?_ ()
  · rw [goL_all (fun _ (f : List Int) => decide (f.length ≤ 10))] at h
    unfold f18
    rw [show (0 : Int) = ((0 : Nat) : Int) from rfl, h]
    by_cases ha : allI (fun _ (f : List Int) => decide (f.length ≤ 10)) 0 (x.Shares.take 15) = true
    · refine ⟨decide (x.Bases.length ≤ 12) && decide (x.Shares.length ≤ 12), ?_, fun hd => ?_⟩
      · have e1 : decide ((x.Bases.length : Int) ≤ 12) = decide (x.Bases.length ≤ 12) := by rw [Bool.eq_iff_iff]; simp; omega
        have e2 : decide ((x.Shares.length : Int) ≤ 12) = decide (x.Shares.length ≤ 12) := by rw [Bool.eq_iff_iff]; simp; omega
        simp only [ha, if_true, Option.bind_some, Sum.elim_inl, e1, e2]
        cases decide (x.Bases.length ≤ 12) <;> simp
      · simp only [Bool.and_eq_true, decide_eq_true_eq] at hd
        refine ⟨hd.1, hd.2, fun f hf => ?_⟩
        obtain ⟨j, hj⟩ := List.getElem?_of_mem hf
        have hjl := get_lt hj
        rw [allI_iff] at ha
        simpa using ha j f (by rw [List.getElem?_take, if_pos (by omega)]; exact hj)
    · exact ⟨false, by simp [ha], fun h => by cases h⟩
  · intro k t f hf
    have hk := get_lt hf
    rw [List.length_take] at hk
    have hf' : x.Shares[k]? = some f := by
      rw [List.getElem?_take] at hf
      split at hf
      · exact hf
      · cases hf
    unfold f18_b0
    have h1 : decide ((k : Int) < (x.Shares.length : Int)) = true := by simp; omega
    have h2 : decide ((k : Int) < 15) = true := by simp; omega
    rw [h1, h2]
    simp only [if_true, Option.bind_some, ix_nat, hf', wrap_nat (n := 15) (show k < 15 by omega) (by omega)]
    by_cases h : f.length ≤ 10
    · have : ¬ (10 : Int) < (f.length : Int) := by omega
      simp [h, this]
    · have : (10 : Int) < (f.length : Int) := by omega
      simp [h, this]
  · intro t
    unfold f18_b0
    rw [List.length_take]
    by_cases h1 : ((min 15 x.Shares.length : Nat) : Int) < (x.Shares.length : Int)
    · have h2 : ¬ ((min 15 x.Shares.length : Nat) : Int) < 15 := by omega
      simp only [h1, h2, decide_true, decide_false, if_true, Option.bind_some]
      simp
    · simp only [h1, decide_false]
      simp
/-- 'ref.Same'. -/
theorem f23_eq (a b : List Int) (hl : a.length ≤ 1073741824) : f23 a b = some (decide (a = b)) := by
  unfold f23
  by_cases hlen : a.length = b.length
  · have h := lp_goL (body := f23_b0 a b) (fun k _ => (k : Int)) a (fun k x (_ : Unit) => some (if decide (b[k]? = some x) = true then .inl () else .inr (Sum.inr false))) (fun _ => Sum.inl ()) ?_ ?_ ()
    · rw [goL_all (fun k x => decide (b[k]? = some x))] at h
      rw [if_neg (by simp [hlen]), show (0 : Int) = ((0 : Nat) : Int) from rfl, h]
      have e : allI (fun k x => decide (b[k]? = some x)) 0 a = decide (a = b) := by
        rw [Bool.eq_iff_iff, allI_iff, decide_eq_true_eq]
        constructor
        · intro h
          refine List.ext_getElem? fun j => ?_
          cases hj : a[j]? with
          | some y => have := h j y hj; simp at this; exact this.symm
          | none => rw [List.getElem?_eq_none]; rw [← hlen]; exact List.getElem?_eq_none_iff.1 hj
        · rintro rfl j y hy; simpa using hy
      rw [e]
      by_cases hab : a = b <;> simp [hab]
    · intro k t x hx
      have hk := get_lt hx
      unfold f23_b0
      have hb : b[k]? = some (b[k]'(by omega)) := List.getElem?_eq_getElem (by omega)
      rw [if_pos (by simpa using hk), ix_nat, hx, ix_nat, hb, wrap_nat hk hl]
      by_cases h : x = b[k]'(by omega)
      · simp [h]
      · have : ¬ b[k]'(by omega) = x := fun e => h e.symm
        simp [h, this]
    · intro t
      unfold f23_b0
      simp
  · have hne : ¬ a = b := fun e => hlen (by rw [e])
    rw [if_pos (by simp; omega)]
    simp [hne]
end Go.Proofs.Ytgplafckddpnkaa
