/-
  Which books are as defined: the document's way.
-/
import Derived.Test.YtcaflmilfhhikaaDoorBk
namespace Go.Proofs.YtcaflmilfhhikaaDoor
open Go.RowKit
set_option linter.unusedVariables false

theorem f33_eq (n : Int) : f33 n = some (inR n 0 5) := by
  unfold f33
  rw [f60_eq]; rfl
theorem f38_eq (b : TLandBook) (n : Int) (h : b.People.length ≤ 1000) : f38 b n = some (inR n 0 ((b.People.length : Int) - 1)) := by
  have hw : IntKind.i64.wrap ((b.People.length : Int) - 1) = (b.People.length : Int) - 1 := by
    rw [IntKind.wrap_i64]; omega
  unfold f38
  rw [hw, f60_eq]; rfl
theorem f45_eq (b : TLandBook) (n : Int) (h : b.Events.length ≤ 1000) : f45 b n = some (inR n 0 ((b.Events.length : Int) - 1)) := by
  have hw : IntKind.i64.wrap ((b.Events.length : Int) - 1) = (b.Events.length : Int) - 1 := by
    rw [IntKind.wrap_i64]; omega
  unfold f45
  rw [hw, f60_eq]; rfl
theorem allI_all {α : Type} (g : α → Bool) : ∀ (l : List α) (k : Nat), allI (fun _ y => g y) k l = l.all g
  | [], _ => rfl
  | y :: l, k => by simp only [allI, List.all_cons, allI_all g l]
theorem f18_eq (b : TLandBook) (h1 : b.People.length ≤ 1000) (h2 : b.Events.length ≤ 1000) (h3 : b.Memories.length ≤ 1000) : f18 b = some (bookOk b) := by
  have hp : lp (f18_b0 b) 0 = some (if allI personOk 0 b.People = true then .inl () else .inr false) := by
    refine lp_all b.People personOk (Sum.inr false) (Sum.inl ()) (fun k => (k : Int)) (fun k q hq => ?_) (by unfold f18_b0; simp)
    have hk := get_lt hq
    have hx : ix b.People (k : Int) = some q := by simp [ix, hq]
    have hw : IntKind.i64.wrap ((k : Int) - 1) = (k : Int) - 1 := by
      rw [IntKind.wrap_i64]; omega
    have hq1 : IntKind.i64.wrap ((k : Int) + 1) = ((k + 1 : Nat) : Int) := by
      rw [IntKind.wrap_i64]; omega
    unfold f18_b0 personOk
    rw [if_pos (by simpa using hk)]
    simp only [hx, Option.bind_some, f60_eq, hw, hq1]
    cases inR q.Mother (-1) ((k : Int) - 1) <;> cases inR q.Adopted (-1) ((k : Int) - 1) <;> rfl
  have he : lp (f18_b1 b) 0 = some (if allI (fun _ e => eventOk b e) 0 b.Events = true then .inl () else .inr false) := by
    refine lp_all b.Events (fun _ e => eventOk b e) (Sum.inr false) (Sum.inl ()) (fun k => (k : Int)) (fun k q hq => ?_) (by unfold f18_b1; simp)
    have hk := get_lt hq
    have hx : ix b.Events (k : Int) = some q := by simp [ix, hq]
    have hq1 : IntKind.i64.wrap ((k : Int) + 1) = ((k + 1 : Nat) : Int) := by
      rw [IntKind.wrap_i64]; omega
    unfold f18_b1 eventOk
    rw [if_pos (by simpa using hk)]
    simp only [hx, Option.bind_some, f33_eq, f38_eq b _ h1, hq1]
    cases inR q.Strip 0 5 <;> cases inR q.Holder 0 ((b.People.length : Int) - 1) <;> rfl
  have hm : lp (f18_b2 b) 0 = some (if allI (fun _ m => memOk b m) 0 b.Memories = true then .inl () else .inr false) := by
    refine lp_all b.Memories (fun _ m => memOk b m) (Sum.inr false) (Sum.inl ()) (fun k => (k : Int)) (fun k m hq => ?_) (by unfold f18_b2; simp)
    have hk := get_lt hq
    have hx : ix b.Memories (k : Int) = some m := by simp [ix, hq]
    have hq1 : IntKind.i64.wrap ((k : Int) + 1) = ((k + 1 : Nat) : Int) := by
      rw [IntKind.wrap_i64]; omega
    have n1 : decide (-1000 ≤ m.Years.Low) = !decide (m.Years.Low < -1000) := by
      rw [Bool.eq_iff_iff]; simp
    have n2 : decide (m.Years.Low ≤ m.Years.High) = !decide (m.Years.High < m.Years.Low) := by
      rw [Bool.eq_iff_iff]; simp
    have n3 : decide (m.Years.High ≤ 1000) = !decide (1000 < m.Years.High) := by
      rw [Bool.eq_iff_iff]; simp
    unfold f18_b2 memOk
    rw [if_pos (by simpa using hk)]
    simp only [hx, Option.bind_some, f45_eq b _ h2, hq1, n1, n2, n3]
    cases inR m.From 0 ((b.Events.length : Int) - 1) <;> cases inR m.To 0 ((b.Events.length : Int) - 1) <;> cases (m.From == m.To) <;> cases decide (m.Years.Low < -1000) <;> cases decide (m.Years.High < m.Years.Low) <;> cases decide (1000 < m.Years.High) <;> rfl
  rw [allI_all] at he hm
  unfold f18 bookOk
  rw [hp]
  cases allI personOk 0 b.People with
  | false => rfl
  | true =>
    simp only [if_true, Option.bind_some, Sum.elim_inl, he, Bool.true_and]
    cases hev : b.Events.all (eventOk b) with
    | false => simp
    | true =>
      simp only [if_true, Option.bind_some, Sum.elim_inl, hm]
      cases hme : b.Memories.all (memOk b) with
      | false => simp
      | true =>
        simp only [if_true, Option.bind_some, Sum.elim_inl, f60_eq]
        cases inR (b.People.length : Int) 1 10 <;> cases inR (b.Events.length : Int) 1 7 <;> cases decide ((b.Memories.length : Int) ≤ 10) <;> rfl
end Go.Proofs.YtcaflmilfhhikaaDoor
