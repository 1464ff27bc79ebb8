/-
  Which books are as defined: the program's way.
-/
import Derived.Test.YtcaflmilfhhikaaDoorVa
namespace Go.Proofs.YtcaflmilfhhikaaDoor
open Go.RowKit
set_option linter.unusedVariables false

def inR (x a b : Int) : Bool := decide (a ≤ x) && decide (x ≤ b)
theorem inR_iff {x a b : Int} : inR x a b = true ↔ a ≤ x ∧ x ≤ b := by simp [inR]
theorem f66_eq (x a b : Int) : f66 x a b = some (inR x a b) := by
  unfold f66 inR
  by_cases h : a ≤ x <;> simp [h]
theorem f60_eq (x a b : Int) : f60 x a b = some (inR x a b) := by
  unfold f60 inR
  by_cases h : a ≤ x <;> simp [h]
theorem idx94 (l : List TLandEvent) (x1 : TLandEvent → Option Bool) (g : TLandEvent → Bool) (hl : l.length ≤ 1000) (hg : ∀ y ∈ l, x1 y = some (g y)) : ∀ (r : List TLandEvent) (k : Nat), l.drop k = r → ∃ j : Int, 0 ≤ j ∧ lp (f94_b0 l x1) (k : Int) = some (if r.any g = true then .inr j else .inl ())
  | [], k, hd => by
    refine ⟨0, Int.le_refl _, ?_⟩
    have hk : l.length ≤ k := by have := List.drop_eq_nil_iff.1 hd; exact this
    rw [lp_eq]
    have e : f94_b0 l x1 (k : Int) = some (.inr (.inl ())) := by
      unfold f94_b0
      rw [if_neg (by simp only [decide_eq_true_eq]; omega)]
    rw [e]; rfl
  | y :: r, k, hd => by
    have hq : l[k]? = some y := by
      have := congrArg (fun z => z[0]?) hd
      simpa using this
    have hlt := (List.getElem?_eq_some_iff.1 hq).1
    have hd' : l.drop (k + 1) = r := by
      have := congrArg List.tail hd
      simpa using this
    have hx : ix l (k : Int) = some y := by simp [ix, hq]
    have hq1 : IntKind.i64.wrap ((k : Int) + 1) = ((k + 1 : Nat) : Int) := by
      rw [IntKind.wrap_i64]; omega
    have hy := hg y (List.mem_of_getElem? hq)
    rw [lp_eq]
    cases hgy : g y with
    | true =>
      refine ⟨k, by omega, ?_⟩
      have e : f94_b0 l x1 (k : Int) = some (.inr (.inr (k : Int))) := by
        unfold f94_b0
        rw [if_pos (by simp only [decide_eq_true_eq]; omega)]
        simp [hx, hy, hgy]
      rw [e]; simp [hgy]
    | false =>
      obtain ⟨j, h0, h1⟩ := idx94 l x1 g hl hg r (k + 1) hd'
      refine ⟨j, h0, ?_⟩
      have e : f94_b0 l x1 (k : Int) = some (.inl ((k + 1 : Nat) : Int)) := by
        unfold f94_b0
        rw [if_pos (by simp only [decide_eq_true_eq]; omega)]
        simp only [hx, hy, hgy, Option.bind_some, Bool.false_eq_true, if_false, hq1]
      rw [e]
      simp only [List.any_cons, hgy, Bool.false_or]
      exact h1
theorem f76_eq (l : List TLandEvent) (x1 : TLandEvent → Option Bool) (g : TLandEvent → Bool) (hl : l.length ≤ 1000) (hg : ∀ y ∈ l, x1 y = some (g y)) : f76 l x1 = some (l.any g) := by
  obtain ⟨j, h0, h1⟩ := idx94 l x1 g hl hg l 0 rfl
  unfold f76 f94
  rw [show (0 : Int) = ((0 : Nat) : Int) from rfl, h1]
  cases l.any g with
  | true => simp; omega
  | false => simp
theorem idx83 (l : List TLandMemory) (x1 : TLandMemory → Option Bool) (g : TLandMemory → Bool) (hl : l.length ≤ 1000) (hg : ∀ y ∈ l, x1 y = some (g y)) : ∀ (r : List TLandMemory) (k : Nat), l.drop k = r → ∃ j : Int, 0 ≤ j ∧ lp (f83_b0 l x1) (k : Int) = some (if r.any g = true then .inr j else .inl ())
  | [], k, hd => by
    refine ⟨0, Int.le_refl _, ?_⟩
    have hk : l.length ≤ k := by have := List.drop_eq_nil_iff.1 hd; exact this
    rw [lp_eq]
    have e : f83_b0 l x1 (k : Int) = some (.inr (.inl ())) := by
      unfold f83_b0
      rw [if_neg (by simp only [decide_eq_true_eq]; omega)]
    rw [e]; rfl
  | y :: r, k, hd => by
    have hq : l[k]? = some y := by
      have := congrArg (fun z => z[0]?) hd
      simpa using this
    have hlt := (List.getElem?_eq_some_iff.1 hq).1
    have hd' : l.drop (k + 1) = r := by
      have := congrArg List.tail hd
      simpa using this
    have hx : ix l (k : Int) = some y := by simp [ix, hq]
    have hq1 : IntKind.i64.wrap ((k : Int) + 1) = ((k + 1 : Nat) : Int) := by
      rw [IntKind.wrap_i64]; omega
    have hy := hg y (List.mem_of_getElem? hq)
    rw [lp_eq]
    cases hgy : g y with
    | true =>
      refine ⟨k, by omega, ?_⟩
      have e : f83_b0 l x1 (k : Int) = some (.inr (.inr (k : Int))) := by
        unfold f83_b0
        rw [if_pos (by simp only [decide_eq_true_eq]; omega)]
        simp [hx, hy, hgy]
      rw [e]; simp [hgy]
    | false =>
      obtain ⟨j, h0, h1⟩ := idx83 l x1 g hl hg r (k + 1) hd'
      refine ⟨j, h0, ?_⟩
      have e : f83_b0 l x1 (k : Int) = some (.inl ((k + 1 : Nat) : Int)) := by
        unfold f83_b0
        rw [if_pos (by simp only [decide_eq_true_eq]; omega)]
        simp only [hx, hy, hgy, Option.bind_some, Bool.false_eq_true, if_false, hq1]
      rw [e]
      simp only [List.any_cons, hgy, Bool.false_or]
      exact h1
theorem f67_eq (l : List TLandMemory) (x1 : TLandMemory → Option Bool) (g : TLandMemory → Bool) (hl : l.length ≤ 1000) (hg : ∀ y ∈ l, x1 y = some (g y)) : f67 l x1 = some (l.any g) := by
  obtain ⟨j, h0, h1⟩ := idx83 l x1 g hl hg l 0 rfl
  unfold f67 f83
  rw [show (0 : Int) = ((0 : Nat) : Int) from rfl, h1]
  cases l.any g with
  | true => simp; omega
  | false => simp
def personOk (k : Nat) (q : TLandPerson) : Bool := inR q.Mother (-1) ((k : Int) - 1) && inR q.Adopted (-1) ((k : Int) - 1)
def eventOk (b : TLandBook) (e : TLandEvent) : Bool := inR e.Strip 0 5 && inR e.Holder 0 ((b.People.length : Int) - 1)
def memOk (b : TLandBook) (m : TLandMemory) : Bool := inR m.From 0 ((b.Events.length : Int) - 1) && (inR m.To 0 ((b.Events.length : Int) - 1) && (!(m.From == m.To) && (decide (-1000 ≤ m.Years.Low) && (decide (m.Years.Low ≤ m.Years.High) && decide (m.Years.High ≤ 1000)))))
theorem f77_eq (b : TLandBook) (e : TLandEvent) (hp : b.People.length ≤ 1000) : f77 e b = some (!eventOk b e) := by
  have hw : IntKind.i64.wrap ((b.People.length : Int) - 1) = (b.People.length : Int) - 1 := by
    rw [IntKind.wrap_i64]; omega
  unfold f77 eventOk
  simp only [f66_eq, hw, Option.bind_some]
  cases inR e.Strip 0 5 <;> simp
theorem f78_eq (b : TLandBook) (m : TLandMemory) (hp : b.Events.length ≤ 1000) : f78 m b = some (!memOk b m) := by
  have hw : IntKind.i64.wrap ((b.Events.length : Int) - 1) = (b.Events.length : Int) - 1 := by
    rw [IntKind.wrap_i64]; omega
  have n1 : decide (-1000 ≤ m.Years.Low) = !decide (m.Years.Low < -1000) := by
    rw [Bool.eq_iff_iff]; simp
  have n2 : decide (m.Years.Low ≤ m.Years.High) = !decide (m.Years.High < m.Years.Low) := by
    rw [Bool.eq_iff_iff]; simp
  have n3 : decide (m.Years.High ≤ 1000) = !decide (1000 < m.Years.High) := by
    rw [Bool.eq_iff_iff]; simp
  unfold f78 memOk
  simp only [f66_eq, hw, Option.bind_some, n1, n2, n3]
  cases inR m.From 0 ((b.Events.length : Int) - 1) <;> cases inR m.To 0 ((b.Events.length : Int) - 1) <;> cases (m.From == m.To) <;> cases decide (m.Years.Low < -1000) <;> cases decide (m.Years.High < m.Years.Low) <;> cases decide (1000 < m.Years.High) <;> rfl
theorem any_not {α : Type} (l : List α) (g : α → Bool) : (l.any fun y => !g y) = !l.all g := by
  induction l with
  | nil => rfl
  | cons y l ih => simp only [List.any_cons, List.all_cons, ih, Bool.not_and]
def bookOk (b : TLandBook) : Bool := allI personOk 0 b.People && (inR (b.People.length : Int) 1 10 && (inR (b.Events.length : Int) 1 7 && (decide ((b.Memories.length : Int) ≤ 10) && (b.Events.all (eventOk b) && b.Memories.all (memOk b)))))
theorem f51_eq (b : TLandBook) (h1 : b.People.length ≤ 1000) (h2 : b.Events.length ≤ 1000) (h3 : b.Memories.length ≤ 1000) : f51 b = some (bookOk b) := by
  have hp : lp (f51_b0 b) 0 = some (if allI personOk 0 b.People = true then .inl () else .inr false) := by
    refine lp_all b.People personOk (Sum.inr false) (Sum.inl ()) (fun k => (k : Int)) (fun k q hq => ?_) (by unfold f51_b0; simp)
    have hk := get_lt hq
    have hx : ix b.People (k : Int) = some q := by simp [ix, hq]
    have hw : IntKind.i64.wrap ((k : Int) - 1) = (k : Int) - 1 := by
      rw [IntKind.wrap_i64]; omega
    have hq1 : IntKind.i64.wrap ((k : Int) + 1) = ((k + 1 : Nat) : Int) := by
      rw [IntKind.wrap_i64]; omega
    unfold f51_b0 personOk
    rw [if_pos (by simpa using hk)]
    simp only [hx, Option.bind_some, f66_eq, hw, hq1]
    cases inR q.Mother (-1) ((k : Int) - 1) <;> cases inR q.Adopted (-1) ((k : Int) - 1) <;> rfl
  unfold f51 bookOk
  rw [hp]
  have e1 := f76_eq b.Events (fun z0 => f77 z0 b) (fun e => !eventOk b e) h2 (fun e _ => f77_eq b e h1)
  have e2 := f67_eq b.Memories (fun z0 => f78 z0 b) (fun m => !memOk b m) h3 (fun m _ => f78_eq b m h2)
  rw [any_not] at e1 e2
  cases allI personOk 0 b.People with
  | false => rfl
  | true =>
    simp only [if_true, Option.bind_some, Sum.elim_inl, f66_eq, e1, e2, Bool.true_and]
    cases inR (b.People.length : Int) 1 10 <;> cases inR (b.Events.length : Int) 1 7 <;> cases decide ((b.Memories.length : Int) ≤ 10) <;> cases b.Events.all (eventOk b) <;> cases b.Memories.all (memOk b) <;> rfl
theorem book_parts {b : TLandBook} (h : bookOk b = true) : (1 ≤ b.People.length ∧ b.People.length ≤ 10) ∧ (1 ≤ b.Events.length ∧ b.Events.length ≤ 7) ∧ b.Memories.length ≤ 10 ∧ (∀ m ∈ b.Memories, MemOk m) ∧ ∀ m ∈ b.Memories, m.From.toNat < b.Events.length ∧ m.To.toNat < b.Events.length := by
  unfold bookOk at h
  simp only [Bool.and_eq_true, inR_iff, decide_eq_true_eq, List.all_eq_true] at h
  obtain ⟨_, hp, he, hm, _, hall⟩ := h
  have key : ∀ m ∈ b.Memories, (0 ≤ m.From ∧ m.From ≤ (b.Events.length : Int) - 1) ∧ (0 ≤ m.To ∧ m.To ≤ (b.Events.length : Int) - 1) ∧ -1000 ≤ m.Years.Low ∧ m.Years.Low ≤ m.Years.High ∧ m.Years.High ≤ 1000 := fun m hm' => by
    have := hall m hm'
    unfold memOk at this
    simp only [Bool.and_eq_true, inR_iff, decide_eq_true_eq] at this
    exact ⟨this.1, this.2.1, this.2.2.2.1, this.2.2.2.2.1, this.2.2.2.2.2⟩
  refine ⟨by omega, by omega, by omega, fun m hm' => ?_, fun m hm' => ?_⟩
  · obtain ⟨q1, q2, q3, q4, q5⟩ := key m hm'
    unfold MemOk
    omega
  · obtain ⟨q1, q2, _⟩ := key m hm'
    omega
/-- The closest table of all memories. -/
def tabAll (b : TLandBook) : Tab := passT (placesL b.Events.length) (firstT b (bitI ((2 ^ b.Memories.length - 1 : Nat) : Int)))
def agreeB (b : TLandBook) : Bool := diagB (placesL b.Events.length) (tabAll b)
theorem f69_eq (b : TLandBook) (fine : Bool) (h1 : b.People.length ≤ 1000) (h2 : b.Events.length ≤ 1000) (h3 : b.Memories.length ≤ 1000) : ∃ t', f69 b fine = some (if (bookOk b && fine) = true then (if agreeB b = true then (t', 0) else (Tb.zero 64, 7)) else (Tb.zero 64, 2)) ∧ (bookOk b = true → tabOf t' = tabAll b) := by
  cases hb : bookOk b with
  | false =>
    refine ⟨Tb.zero 64, ?_, fun h => by cases h⟩
    unfold f69
    rw [f51_eq b h1 h2 h3, hb]; rfl
  | true =>
    obtain ⟨_, he, hm, hok, _⟩ := book_parts hb
    obtain ⟨t', e1, e2⟩ := f79_all b he.2 hm hok
    refine ⟨t', ?_, fun _ => e2⟩
    unfold f69
    rw [f51_eq b h1 h2 h3, hb, f54_eq b hm]
    cases fine with
    | false => rfl
    | true =>
      simp only [Option.bind_some, Bool.not_true, Bool.false_eq_true, if_false, e1, Bool.and_self, if_true]
      have ha : agreeB b = diagB (placesL b.Events.length) (passT (placesL b.Events.length) (firstT b (bitI ((2 ^ b.Memories.length - 1 : Nat) : Int)))) := rfl
      rw [ha]
      cases diagB (placesL b.Events.length) (passT (placesL b.Events.length) (firstT b (bitI ((2 ^ b.Memories.length - 1 : Nat) : Int)))) <;> rfl
end Go.Proofs.YtcaflmilfhhikaaDoor
