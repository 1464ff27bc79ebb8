/-
  Which books are as defined: the program's way.
-/
import Derived.Test.YtcaflmilfhhikaaGreatDoorRy
namespace Go.Proofs.YtcaflmilfhhikaaGreatDoor
open Go.RowKit
set_option linter.unusedVariables false

def inR (x a b : Int) : Bool := decide (a ≤ x) && decide (x ≤ b)
theorem inR_iff {x a b : Int} : inR x a b = true ↔ a ≤ x ∧ x ≤ b := by simp [inR]
theorem f37_eq (x a b : Int) : f37 x a b = some (inR x a b) := by
  unfold f37 inR
  by_cases h : a ≤ x <;> simp [h]
theorem f24_eq (x a b : Int) : f24 x a b = some (inR x a b) := by
  unfold f24 inR
  by_cases h : a ≤ x <;> simp [h]
theorem idxz94 (l : List TLandEvent) (x1 : TLandEvent → Option Bool) (g : TLandEvent → Bool) (hl : l.length ≤ 1000) (hg : ∀ y ∈ l, x1 y = some (g y)) : ∀ (r : List TLandEvent) (k : Nat), l.drop k = r → ∃ j : Int, 0 ≤ j ∧ lp (f71_b0 l x1) (k : Int) = some (if r.any g = true then .inr j else .inl ())
  | [], k, hd => by
    refine ⟨0, Int.le_refl _, ?_⟩
    have hk : l.length ≤ k := by have := List.drop_eq_nil_iff.1 hd; exact this
    rw [lp_eq]
    have e : f71_b0 l x1 (k : Int) = some (.inr (.inl ())) := by
      unfold f71_b0
      rw [if_neg (by simp only [decide_eq_true_eq]; omega)]
    rw [e]; rfl
  | y :: r, k, hd => by
    have hq : l[k]? = some y := by
      have := congrArg (fun z => z[0]?) hd
      simpa using this
    have hlt := (List.getElem?_eq_some_iff.1 hq).1
    have hd' : l.drop (k + 1) = r := by
      have := congrArg List.tail hd
      simpa using this
    have hx : ix l (k : Int) = some y := by simp [ix, hq]
    have hq1 : IntKind.i64.wrap ((k : Int) + 1) = ((k + 1 : Nat) : Int) := by
      rw [IntKind.wrap_i64]; omega
    have hy := hg y (List.mem_of_getElem? hq)
    rw [lp_eq]
    cases hgy : g y with
    | true =>
      refine ⟨k, by omega, ?_⟩
      have e : f71_b0 l x1 (k : Int) = some (.inr (.inr (k : Int))) := by
        unfold f71_b0
        rw [if_pos (by simp only [decide_eq_true_eq]; omega)]
        simp [hx, hy, hgy]
      rw [e]; simp [hgy]
    | false =>
      obtain ⟨j, h0, h1⟩ := idxz94 l x1 g hl hg r (k + 1) hd'
      refine ⟨j, h0, ?_⟩
      have e : f71_b0 l x1 (k : Int) = some (.inl ((k + 1 : Nat) : Int)) := by
        unfold f71_b0
        rw [if_pos (by simp only [decide_eq_true_eq]; omega)]
        simp only [hx, hy, hgy, Option.bind_some, Bool.false_eq_true, if_false, hq1]
      rw [e]
      simp only [List.any_cons, hgy, Bool.false_or]
      exact h1
theorem f48_eq (l : List TLandEvent) (x1 : TLandEvent → Option Bool) (g : TLandEvent → Bool) (hl : l.length ≤ 1000) (hg : ∀ y ∈ l, x1 y = some (g y)) : f48 l x1 = some (l.any g) := by
  obtain ⟨j, h0, h1⟩ := idxz94 l x1 g hl hg l 0 rfl
  unfold f48 f71
  rw [show (0 : Int) = ((0 : Nat) : Int) from rfl, h1]
  cases l.any g with
  | true => simp; omega
  | false => simp
theorem idxz83 (l : List TLandMemory) (x1 : TLandMemory → Option Bool) (g : TLandMemory → Bool) (hl : l.length ≤ 1000) (hg : ∀ y ∈ l, x1 y = some (g y)) : ∀ (r : List TLandMemory) (k : Nat), l.drop k = r → ∃ j : Int, 0 ≤ j ∧ lp (f72_b0 l x1) (k : Int) = some (if r.any g = true then .inr j else .inl ())
  | [], k, hd => by
    refine ⟨0, Int.le_refl _, ?_⟩
    have hk : l.length ≤ k := by have := List.drop_eq_nil_iff.1 hd; exact this
    rw [lp_eq]
    have e : f72_b0 l x1 (k : Int) = some (.inr (.inl ())) := by
      unfold f72_b0
      rw [if_neg (by simp only [decide_eq_true_eq]; omega)]
    rw [e]; rfl
  | y :: r, k, hd => by
    have hq : l[k]? = some y := by
      have := congrArg (fun z => z[0]?) hd
      simpa using this
    have hlt := (List.getElem?_eq_some_iff.1 hq).1
    have hd' : l.drop (k + 1) = r := by
      have := congrArg List.tail hd
      simpa using this
    have hx : ix l (k : Int) = some y := by simp [ix, hq]
    have hq1 : IntKind.i64.wrap ((k : Int) + 1) = ((k + 1 : Nat) : Int) := by
      rw [IntKind.wrap_i64]; omega
    have hy := hg y (List.mem_of_getElem? hq)
    rw [lp_eq]
    cases hgy : g y with
    | true =>
      refine ⟨k, by omega, ?_⟩
      have e : f72_b0 l x1 (k : Int) = some (.inr (.inr (k : Int))) := by
        unfold f72_b0
        rw [if_pos (by simp only [decide_eq_true_eq]; omega)]
        simp [hx, hy, hgy]
      rw [e]; simp [hgy]
    | false =>
      obtain ⟨j, h0, h1⟩ := idxz83 l x1 g hl hg r (k + 1) hd'
      refine ⟨j, h0, ?_⟩
      have e : f72_b0 l x1 (k : Int) = some (.inl ((k + 1 : Nat) : Int)) := by
        unfold f72_b0
        rw [if_pos (by simp only [decide_eq_true_eq]; omega)]
        simp only [hx, hy, hgy, Option.bind_some, Bool.false_eq_true, if_false, hq1]
      rw [e]
      simp only [List.any_cons, hgy, Bool.false_or]
      exact h1
theorem f50_eq (l : List TLandMemory) (x1 : TLandMemory → Option Bool) (g : TLandMemory → Bool) (hl : l.length ≤ 1000) (hg : ∀ y ∈ l, x1 y = some (g y)) : f50 l x1 = some (l.any g) := by
  obtain ⟨j, h0, h1⟩ := idxz83 l x1 g hl hg l 0 rfl
  unfold f50 f72
  rw [show (0 : Int) = ((0 : Nat) : Int) from rfl, h1]
  cases l.any g with
  | true => simp; omega
  | false => simp
def personOk (k : Nat) (q : TLandPerson) : Bool := inR q.Mother (-1) ((k : Int) - 1) && inR q.Adopted (-1) ((k : Int) - 1)
def eventOk (b : TLandBook) (e : TLandEvent) : Bool := inR e.Strip 0 5 && inR e.Holder 0 ((b.People.length : Int) - 1)
def memOk (b : TLandBook) (m : TLandMemory) : Bool := inR m.From 0 ((b.Events.length : Int) - 1) && (inR m.To 0 ((b.Events.length : Int) - 1) && (!(m.From == m.To) && (decide (-1000 ≤ m.Years.Low) && (decide (m.Years.Low ≤ m.Years.High) && decide (m.Years.High ≤ 1000)))))
theorem f49_eq (b : TLandBook) (e : TLandEvent) (hp : b.People.length ≤ 1000) : f49 e b = some (!eventOk b e) := by
  have hw : IntKind.i64.wrap ((b.People.length : Int) - 1) = (b.People.length : Int) - 1 := by
    rw [IntKind.wrap_i64]; omega
  unfold f49 eventOk
  simp only [f37_eq, hw, Option.bind_some]
  cases inR e.Strip 0 5 <;> simp
theorem f51_eq (b : TLandBook) (m : TLandMemory) (hp : b.Events.length ≤ 1000) : f51 m b = some (!memOk b m) := by
  have hw : IntKind.i64.wrap ((b.Events.length : Int) - 1) = (b.Events.length : Int) - 1 := by
    rw [IntKind.wrap_i64]; omega
  have n1 : decide (-1000 ≤ m.Years.Low) = !decide (m.Years.Low < -1000) := by
    rw [Bool.eq_iff_iff]; simp
  have n2 : decide (m.Years.Low ≤ m.Years.High) = !decide (m.Years.High < m.Years.Low) := by
    rw [Bool.eq_iff_iff]; simp
  have n3 : decide (m.Years.High ≤ 1000) = !decide (1000 < m.Years.High) := by
    rw [Bool.eq_iff_iff]; simp
  unfold f51 memOk
  simp only [f37_eq, hw, Option.bind_some, n1, n2, n3]
  cases inR m.From 0 ((b.Events.length : Int) - 1) <;> cases inR m.To 0 ((b.Events.length : Int) - 1) <;> cases (m.From == m.To) <;> cases decide (m.Years.Low < -1000) <;> cases decide (m.Years.High < m.Years.Low) <;> cases decide (1000 < m.Years.High) <;> rfl
theorem any_not {α : Type} (l : List α) (g : α → Bool) : (l.any fun y => !g y) = !l.all g := by
  induction l with
  | nil => rfl
  | cons y l ih => simp only [List.any_cons, List.all_cons, ih, Bool.not_and]
def bookOk (b : TLandBook) : Bool := allI personOk 0 b.People && (inR (b.People.length : Int) 1 10 && (inR (b.Events.length : Int) 1 7 && (decide ((b.Memories.length : Int) ≤ 10) && (b.Events.all (eventOk b) && b.Memories.all (memOk b)))))
theorem f22_eq (b : TLandBook) (h1 : b.People.length ≤ 1000) (h2 : b.Events.length ≤ 1000) (h3 : b.Memories.length ≤ 1000) : f22 b = some (bookOk b) := by
  have hp : lp (f22_b0 b) 0 = some (if allI personOk 0 b.People = true then .inl () else .inr false) := by
    refine lp_all b.People personOk (Sum.inr false) (Sum.inl ()) (fun k => (k : Int)) (fun k q hq => ?_) (by unfold f22_b0; simp)
    have hk := get_lt hq
    have hx : ix b.People (k : Int) = some q := by simp [ix, hq]
    have hw : IntKind.i64.wrap ((k : Int) - 1) = (k : Int) - 1 := by
      rw [IntKind.wrap_i64]; omega
    have hq1 : IntKind.i64.wrap ((k : Int) + 1) = ((k + 1 : Nat) : Int) := by
      rw [IntKind.wrap_i64]; omega
    unfold f22_b0 personOk
    rw [if_pos (by simpa using hk)]
    simp only [hx, Option.bind_some, f37_eq, hw, hq1]
    cases inR q.Mother (-1) ((k : Int) - 1) <;> cases inR q.Adopted (-1) ((k : Int) - 1) <;> rfl
  unfold f22 bookOk
  rw [hp]
  have e1 := f48_eq b.Events (fun z0 => f49 z0 b) (fun e => !eventOk b e) h2 (fun e _ => f49_eq b e h1)
  have e2 := f50_eq b.Memories (fun z0 => f51 z0 b) (fun m => !memOk b m) h3 (fun m _ => f51_eq b m h2)
  rw [any_not] at e1 e2
  cases allI personOk 0 b.People with
  | false => rfl
  | true =>
    simp only [if_true, Option.bind_some, Sum.elim_inl, f37_eq, e1, e2, Bool.true_and]
    cases inR (b.People.length : Int) 1 10 <;> cases inR (b.Events.length : Int) 1 7 <;> cases decide ((b.Memories.length : Int) ≤ 10) <;> cases b.Events.all (eventOk b) <;> cases b.Memories.all (memOk b) <;> rfl
theorem f25_eq (n : Int) : f25 n = some (inR n 0 5) := by
  unfold f25
  rw [f24_eq]; rfl
theorem f26_eq (b : TLandBook) (n : Int) (h : b.People.length ≤ 1000) : f26 b n = some (inR n 0 ((b.People.length : Int) - 1)) := by
  have hw : IntKind.i64.wrap ((b.People.length : Int) - 1) = (b.People.length : Int) - 1 := by
    rw [IntKind.wrap_i64]; omega
  unfold f26
  rw [hw, f24_eq]; rfl
theorem f27_eq (b : TLandBook) (n : Int) (h : b.Events.length ≤ 1000) : f27 b n = some (inR n 0 ((b.Events.length : Int) - 1)) := by
  have hw : IntKind.i64.wrap ((b.Events.length : Int) - 1) = (b.Events.length : Int) - 1 := by
    rw [IntKind.wrap_i64]; omega
  unfold f27
  rw [hw, f24_eq]; rfl
theorem allI_all {α : Type} (g : α → Bool) : ∀ (l : List α) (k : Nat), allI (fun _ y => g y) k l = l.all g
  | [], _ => rfl
  | y :: l, k => by simp only [allI, List.all_cons, allI_all g l]
theorem f9_eq (b : TLandBook) (h1 : b.People.length ≤ 1000) (h2 : b.Events.length ≤ 1000) (h3 : b.Memories.length ≤ 1000) : f9 b = some (bookOk b) := by
  have hp : lp (f9_b0 b) 0 = some (if allI personOk 0 b.People = true then .inl () else .inr false) := by
    refine lp_all b.People personOk (Sum.inr false) (Sum.inl ()) (fun k => (k : Int)) (fun k q hq => ?_) (by unfold f9_b0; simp)
    have hk := get_lt hq
    have hx : ix b.People (k : Int) = some q := by simp [ix, hq]
    have hw : IntKind.i64.wrap ((k : Int) - 1) = (k : Int) - 1 := by
      rw [IntKind.wrap_i64]; omega
    have hq1 : IntKind.i64.wrap ((k : Int) + 1) = ((k + 1 : Nat) : Int) := by
      rw [IntKind.wrap_i64]; omega
    unfold f9_b0 personOk
    rw [if_pos (by simpa using hk)]
    simp only [hx, Option.bind_some, f24_eq, hw, hq1]
    cases inR q.Mother (-1) ((k : Int) - 1) <;> cases inR q.Adopted (-1) ((k : Int) - 1) <;> rfl
  have he : lp (f9_b1 b) 0 = some (if allI (fun _ e => eventOk b e) 0 b.Events = true then .inl () else .inr false) := by
    refine lp_all b.Events (fun _ e => eventOk b e) (Sum.inr false) (Sum.inl ()) (fun k => (k : Int)) (fun k q hq => ?_) (by unfold f9_b1; simp)
    have hk := get_lt hq
    have hx : ix b.Events (k : Int) = some q := by simp [ix, hq]
    have hq1 : IntKind.i64.wrap ((k : Int) + 1) = ((k + 1 : Nat) : Int) := by
      rw [IntKind.wrap_i64]; omega
    unfold f9_b1 eventOk
    rw [if_pos (by simpa using hk)]
    simp only [hx, Option.bind_some, f25_eq, f26_eq b _ h1, hq1]
    cases inR q.Strip 0 5 <;> cases inR q.Holder 0 ((b.People.length : Int) - 1) <;> rfl
  have hm : lp (f9_b2 b) 0 = some (if allI (fun _ m => memOk b m) 0 b.Memories = true then .inl () else .inr false) := by
    refine lp_all b.Memories (fun _ m => memOk b m) (Sum.inr false) (Sum.inl ()) (fun k => (k : Int)) (fun k m hq => ?_) (by unfold f9_b2; simp)
    have hk := get_lt hq
    have hx : ix b.Memories (k : Int) = some m := by simp [ix, hq]
    have hq1 : IntKind.i64.wrap ((k : Int) + 1) = ((k + 1 : Nat) : Int) := by
      rw [IntKind.wrap_i64]; omega
    have n1 : decide (-1000 ≤ m.Years.Low) = !decide (m.Years.Low < -1000) := by
      rw [Bool.eq_iff_iff]; simp
    have n2 : decide (m.Years.Low ≤ m.Years.High) = !decide (m.Years.High < m.Years.Low) := by
      rw [Bool.eq_iff_iff]; simp
    have n3 : decide (m.Years.High ≤ 1000) = !decide (1000 < m.Years.High) := by
      rw [Bool.eq_iff_iff]; simp
    unfold f9_b2 memOk
    rw [if_pos (by simpa using hk)]
    simp only [hx, Option.bind_some, f27_eq b _ h2, hq1, n1, n2, n3]
    cases inR m.From 0 ((b.Events.length : Int) - 1) <;> cases inR m.To 0 ((b.Events.length : Int) - 1) <;> cases (m.From == m.To) <;> cases decide (m.Years.Low < -1000) <;> cases decide (m.Years.High < m.Years.Low) <;> cases decide (1000 < m.Years.High) <;> rfl
  rw [allI_all] at he hm
  unfold f9 bookOk
  rw [hp]
  cases allI personOk 0 b.People with
  | false => rfl
  | true =>
    simp only [if_true, Option.bind_some, Sum.elim_inl, he, Bool.true_and]
    cases hev : b.Events.all (eventOk b) with
    | false => simp
    | true =>
      simp only [if_true, Option.bind_some, Sum.elim_inl, hm]
      cases hme : b.Memories.all (memOk b) with
      | false => simp
      | true =>
        simp only [if_true, Option.bind_some, Sum.elim_inl, f24_eq]
        cases inR (b.People.length : Int) 1 10 <;> cases inR (b.Events.length : Int) 1 7 <;> cases decide ((b.Memories.length : Int) ≤ 10) <;> rfl

/-- The numbers of a book that is as defined. -/
theorem ok_parts {b : TLandBook} (h : bookOk b = true) : b.People.length ≤ 10 ∧ b.Events.length ≤ 7 ∧ b.Memories.length ≤ 10 ∧ (∀ x ∈ b.People, (-1 ≤ x.Mother ∧ x.Mother ≤ 10) ∧ -1 ≤ x.Adopted ∧ x.Adopted ≤ 10) ∧ Sm b := by
  unfold bookOk at h
  simp only [Bool.and_eq_true, decide_eq_true_eq, inR_iff, List.all_eq_true] at h
  obtain ⟨h1, h2, h3, h4, h5, h6⟩ := h
  have hp : ∀ x ∈ b.People, (-1 ≤ x.Mother ∧ x.Mother ≤ 10) ∧ -1 ≤ x.Adopted ∧ x.Adopted ≤ 10 := fun x hx => by
    obtain ⟨k, hk⟩ := List.getElem?_of_mem hx
    have hlt := get_lt hk
    have := (allI_iff _ _ _).1 h1 k x hk
    unfold personOk at this
    simp only [Bool.and_eq_true, inR_iff] at this
    omega
  refine ⟨by omega, by omega, by omega, hp, fun x hx => ?_, fun x hx => ?_, fun x hx => ?_, by omega, by omega, by omega⟩
  · have := hp x hx; exact ⟨⟨by omega, by omega⟩, ⟨by omega, by omega⟩⟩
  · have := h5 x hx
    unfold eventOk at this
    simp only [Bool.and_eq_true, inR_iff] at this
    exact ⟨⟨by omega, by omega⟩, ⟨by omega, by omega⟩⟩
  · have := h6 x hx
    unfold memOk at this
    simp only [Bool.and_eq_true, inR_iff, decide_eq_true_eq] at this
    exact ⟨⟨by omega, by omega⟩, ⟨by omega, by omega⟩, ⟨by omega, by omega⟩, ⟨by omega, by omega⟩⟩
end Go.Proofs.YtcaflmilfhhikaaGreatDoor
