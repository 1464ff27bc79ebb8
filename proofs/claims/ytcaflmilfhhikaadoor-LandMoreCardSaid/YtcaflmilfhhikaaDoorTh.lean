/-
  Truths: years that are proposed, and memories that are true in them.
-/
import Derived.Test.YtcaflmilfhhikaaDoorLk
namespace Go.Proofs.YtcaflmilfhhikaaDoor
open Go.RowKit
set_option linter.unusedVariables false

def truthB (b : TLandBook) (ys : List Int) : Bool := ys.all (fun y => inR y 0 1000) && (ys.length == b.Events.length)
def yv (ys : List Int) : Nat → Int := fun e => ys.getD e 0
def memB (ys : List Int) (m : TLandMemory) : Bool := inR (yv ys m.To.toNat - yv ys m.From.toNat) m.Years.Low m.Years.High
def allT (b : TLandBook) (ys : List Int) : Bool := b.Memories.all (memB ys)
theorem memB_iff {ys : List Int} {m : TLandMemory} : memB ys m = true ↔ MemT (yv ys) m := by unfold memB MemT; rw [inR_iff]
theorem truth_parts {b : TLandBook} {ys : List Int} (h : truthB b ys = true) : (∀ y ∈ ys, 0 ≤ y ∧ y ≤ 1000) ∧ ys.length = b.Events.length := by
  unfold truthB at h
  simp only [Bool.and_eq_true, List.all_eq_true, beq_iff_eq] at h
  exact ⟨fun y hy => inR_iff.1 (h.1 y hy), h.2⟩
theorem yv_at {b : TLandBook} {ys : List Int} (h : truthB b ys = true) {e : Nat} (he : e < b.Events.length) : ix ys (e : Int) = some (yv ys e) ∧ 0 ≤ yv ys e ∧ yv ys e ≤ 1000 := by
  obtain ⟨h1, h2⟩ := truth_parts h
  have hl : e < ys.length := by omega
  have hv : yv ys e = ys[e] := by unfold yv; simp [hl]
  rw [hv]
  exact ⟨by rw [ix_nat, List.getElem?_eq_getElem hl], h1 _ (List.getElem_mem hl)⟩
theorem truth_all {b : TLandBook} (ok : bookOk b = true) {ys : List Int} (h : truthB b ys = true) : allT b ys = true ↔ TruthS b (bitI ((2 ^ b.Memories.length - 1 : Nat) : Int)) (yv ys) := by
  have hl := (book_parts ok).2.2.1
  unfold allT
  rw [List.all_eq_true]
  constructor
  · intro h2
    exact ⟨fun e he => (yv_at h he).2, fun j m hj _ => memB_iff.1 (h2 m (List.mem_of_getElem? hj))⟩
  · rintro ⟨_, h2⟩ m hm
    obtain ⟨j, hj⟩ := List.getElem?_of_mem hm
    exact memB_iff.2 (h2 j m hj (all_bits hl (get_lt hj)))
theorem f29_eq (b : TLandBook) (ys : List Int) (hl : ys.length ≤ 9223372036854775807) : f29 b ys = some (truthB b ys) := by
  unfold f29
  have h := lp_all (body := f29_b0 ys) ys (fun _ y => inR y 0 1000) (Sum.inr false : Unit ⊕ Bool) (Sum.inl ()) (fun k => (k : Int)) (fun k y hy => by
    have hk := get_lt hy
    unfold f29_b0
    rw [if_pos (by simp only [decide_eq_true_eq]; omega), ix_nat, hy, Option.bind_some, f60_eq, Option.bind_some, wrap_id (by omega) (by omega)]
    cases inR y 0 1000 <;> rfl) (by unfold f29_b0; rw [if_neg (by simp)])
  rw [show (0 : Int) = ((0 : Nat) : Int) from rfl, h, Option.bind_some, allI_all]
  unfold truthB
  cases ys.all (fun y => inR y 0 1000) with
  | true =>
    simp only [if_true, Sum.elim_inl, Bool.true_and]
    congr 1
    rw [Bool.eq_iff_iff]; simp only [beq_iff_eq]; omega
  | false => rfl
theorem f65_eq (z : Int) : f65 z = some (!inR z 0 1000) := by unfold f65; rw [f66_eq]; rfl
theorem idx82 (l : List Int) (g : Int → Bool) (hl : l.length ≤ 1000) (x1 : Int → Option Bool) (hg : ∀ y ∈ l, x1 y = some (g y)) : f64 l x1 = some (l.any g) := by
  have key : ∀ (r : List Int) (k : Nat), l.drop k = r → ∃ j : Int, 0 ≤ j ∧ lp (f82_b0 l x1) (k : Int) = some (if r.any g = true then .inr j else .inl ()) := by
    intro r
    induction r with
    | nil =>
      intro k hd
      refine ⟨0, Int.le_refl _, ?_⟩
      have hk : l.length ≤ k := by have := List.drop_eq_nil_iff.1 hd; exact this
      rw [lp_eq]
      have e : f82_b0 l x1 (k : Int) = some (.inr (.inl ())) := by
        unfold f82_b0
        rw [if_neg (by simp only [decide_eq_true_eq]; omega)]
      rw [e]; rfl
    | cons y r ih =>
      intro k hd
      have hq : l[k]? = some y := by
        have := congrArg (fun z => z[0]?) hd
        simpa using this
      have hlt := (List.getElem?_eq_some_iff.1 hq).1
      have hd' : l.drop (k + 1) = r := by
        have := congrArg List.tail hd
        simpa using this
      have hx : ix l (k : Int) = some y := by simp [ix, hq]
      have hy := hg y (List.mem_of_getElem? hq)
      rw [lp_eq]
      cases hgy : g y with
      | true =>
        refine ⟨k, by omega, ?_⟩
        have e : f82_b0 l x1 (k : Int) = some (.inr (.inr (k : Int))) := by
          unfold f82_b0
          rw [if_pos (by simp only [decide_eq_true_eq]; omega)]
          simp [hx, hy, hgy]
        rw [e]; simp [hgy]
      | false =>
        obtain ⟨j, h0, h1⟩ := ih (k + 1) hd'
        refine ⟨j, h0, ?_⟩
        have e : f82_b0 l x1 (k : Int) = some (.inl ((k + 1 : Nat) : Int)) := by
          unfold f82_b0
          rw [if_pos (by simp only [decide_eq_true_eq]; omega)]
          simp only [hx, hy, hgy, Option.bind_some, Bool.false_eq_true, if_false, wrap_cnt (show k ≤ 1000 by omega)]
        rw [e]
        simp only [List.any_cons, hgy, Bool.false_or]
        exact h1
  obtain ⟨j, h0, h1⟩ := key l 0 rfl
  unfold f64 f82
  rw [show (0 : Int) = ((0 : Nat) : Int) from rfl, h1]
  cases l.any g with
  | true => simp; omega
  | false => simp
theorem mem_ix {b : TLandBook} (ok : bookOk b = true) {ys : List Int} (h : truthB b ys = true) {m : TLandMemory} (hm : m ∈ b.Memories) : ix ys m.To = some (yv ys m.To.toNat) ∧ ix ys m.From = some (yv ys m.From.toNat) ∧ IntKind.i64.wrap (yv ys m.To.toNat - yv ys m.From.toNat) = yv ys m.To.toNat - yv ys m.From.toNat := by
  obtain ⟨_, _, _, hmm, hF⟩ := book_parts ok
  obtain ⟨⟨f1, f2⟩, ⟨g1, g2⟩, _⟩ := hmm m hm
  obtain ⟨c1, c2⟩ := hF m hm
  obtain ⟨a1, a2, a3⟩ := yv_at h c2
  obtain ⟨b1, b2, b3⟩ := yv_at h c1
  rw [Int.toNat_of_nonneg g1] at a1
  rw [Int.toNat_of_nonneg f1] at b1
  exact ⟨a1, b1, wrap_id (by omega) (by omega)⟩
theorem f71_eq {b : TLandBook} (ok : bookOk b = true) {ys : List Int} (h : truthB b ys = true) {m : TLandMemory} (hm : m ∈ b.Memories) : f71 m ys = some (memB ys m) := by
  obtain ⟨a1, a2, a3⟩ := mem_ix ok h hm
  unfold f71
  rw [a1, Option.bind_some, a2, Option.bind_some, a3, f60_eq]; rfl
theorem f68_eq {b : TLandBook} (ok : bookOk b = true) {ys : List Int} (h : truthB b ys = true) {m : TLandMemory} (hm : m ∈ b.Memories) : f68 m ys = some (!memB ys m) := by
  obtain ⟨a1, a2, a3⟩ := mem_ix ok h hm
  unfold f68
  rw [a1, Option.bind_some, a2, Option.bind_some, a3, f66_eq]; rfl
theorem f30_eq (b : TLandBook) (ok : bookOk b = true) (ys : List Int) (h : truthB b ys = true) : f30 b ys = some (allT b ys) := by
  have hl := (book_parts ok).2.2.1
  unfold f30
  have hh := lp_all (body := f30_b0 b ys) b.Memories (fun _ m => memB ys m) (Sum.inr false : Unit ⊕ Bool) (Sum.inl ()) (fun k => (k : Int)) (fun k y hy => by
    have hk := get_lt hy
    unfold f30_b0
    rw [if_pos (by simp only [decide_eq_true_eq]; omega), ix_nat, hy, Option.bind_some, f71_eq ok h (List.mem_of_getElem? hy), Option.bind_some, wrap_cnt (by omega)]
    cases memB ys y <;> rfl) (by unfold f30_b0; rw [if_neg (by simp)])
  rw [show (0 : Int) = ((0 : Nat) : Int) from rfl, hh, Option.bind_some, allI_all]
  unfold allT
  cases b.Memories.all (memB ys) <;> rfl
theorem f27_eq (b : TLandBook) (ys : List Int) (h1 : b.People.length ≤ 1000) (h2 : b.Events.length ≤ 1000) (h3 : b.Memories.length ≤ 1000) : f27 b ys = some (if (bookOk b && truthB b ys) = true then (allT b ys, 0) else (false, 2)) := by
  unfold f27
  rw [f51_eq b h1 h2 h3, Option.bind_some]
  by_cases ok : bookOk b = true
  · have hn := (book_parts ok).2.1.2
    have hl := (book_parts ok).2.2.1
    by_cases he : ys.length = b.Events.length
    · have e64 : f64 ys (fun z => f65 z) = some (ys.any fun y => !inR y 0 1000) := idx82 ys _ (by omega) _ fun y _ => f65_eq y
      have ea : (ys.any fun y => !inR y 0 1000) = !ys.all fun y => inR y 0 1000 := any_not ys _
      by_cases ht : truthB b ys = true
      · have e67 : f67 b.Memories (fun z => f68 z ys) = some (b.Memories.any fun m => !memB ys m) := f67_eq b.Memories _ _ (by omega) fun m hm => f68_eq ok ht hm
        have ht' : ys.all (fun y => inR y 0 1000) = true := by unfold truthB at ht; simp only [Bool.and_eq_true] at ht; exact ht.1
        have eb : (b.Memories.any fun m => !memB ys m) = !allT b ys := any_not b.Memories _
        simp [ok, ht, he, e64, ea, ht', e67, eb]
      · have ht' : ys.all (fun y => inR y 0 1000) = false := by
          unfold truthB at ht
          rw [he, beq_self_eq_true, Bool.and_true] at ht
          simpa using ht
        simp [ok, ht, he, e64, ea, ht']
    · have ht : truthB b ys = false := by unfold truthB; simp [he]
      have hne : ((ys.length : Int) != (b.Events.length : Int)) = true := by simp; omega
      simp [ok, ht, hne]
  · have ok' : bookOk b = false := by simpa using ok
    simp [ok']
theorem truth_len {b : TLandBook} {ys : List Int} (h : truthB b ys = true) : ys.length = b.Events.length := (truth_parts h).2
end Go.Proofs.YtcaflmilfhhikaaDoor
