/-
  Stores into elements of rows of the call's own; slices that are made; drawn regions with several effects open at once.
-/
import Derived.Test.YtcaflmilfhhikaaGreatDoorBaseF
namespace Go.Proofs.YtcaflmilfhhikaaGreatDoor
open Go.RowKit

/-- A store into a list, where there is such an element. -/
def setIx {α : Type} (xs : List α) (i : Int) (y : α) : Option (List α) := if 0 ≤ i ∧ i.toNat < xs.length then some (xs.set i.toNat y) else none
theorem splice_at {cells vs : List Value} {off j : Nat} (hfit : off + vs.length ≤ cells.length) : (splice cells off vs)[j]? = if off ≤ j ∧ j < off + vs.length then vs[j - off]? else cells[j]? := by
  unfold splice
  rw [List.append_assoc, List.getElem?_append, List.getElem?_append, List.getElem?_take, List.getElem?_drop, List.length_take]
  have hm : min off cells.length = off := by omega
  rw [hm]
  by_cases h1 : j < off
  · rw [if_pos h1, if_pos h1, if_neg (by omega)]
  · rw [if_neg h1]
    by_cases h2 : j - off < vs.length
    · rw [if_pos h2, if_pos (by omega)]
    · rw [if_neg h2, if_neg (by omega)]
      congr 1
      omega
theorem splice_length {cells vs : List Value} {off : Nat} (hfit : off + vs.length ≤ cells.length) : (splice cells off vs).length = cells.length := by
  unfold splice
  simp only [List.length_append, List.length_take, List.length_drop]
  omega
theorem Rd.set {α : Type} {R : Gm → List Value → α → Prop} {sz : Nat} {G : Gm} {cells vs cs : List Value} {xs : List α} {i k : Nat} {y : α} (h : Rd R sz G cells xs) (hi : i < xs.length) (hl : cs.length = sz)
    (hc : ∀ j u, cs[j]? = some u → cells[i * sz + j]? = some u) (hk : k + vs.length ≤ sz) (hR : R G (splice cs k vs) y) : Rd R sz G (splice cells (i * sz + k) vs) (xs.set i y) := by
  have hle : i * sz + sz ≤ cells.length := by
    rw [h.1, ← Nat.succ_mul]; exact Nat.mul_le_mul_right _ hi
  have hfit : i * sz + k + vs.length ≤ cells.length := by omega
  refine ⟨by rw [splice_length hfit, h.1, List.length_set], fun q x hx => ?_⟩
  by_cases hq : q = i
  · subst hq
    rw [List.getElem?_set_self hi] at hx
    cases hx
    refine ⟨splice cs k vs, by rw [splice_length (by omega)]; exact hl, fun j u hj => ?_, hR⟩
    rw [splice_at (by omega)] at hj
    rw [splice_at hfit]
    by_cases hjk : k ≤ j ∧ j < k + vs.length
    · rw [if_pos hjk] at hj
      rw [if_pos (by omega)]
      rw [show q * sz + j - (q * sz + k) = j - k by omega]
      exact hj
    · rw [if_neg hjk] at hj
      rw [if_neg (by omega)]
      exact hc j u hj
  · rw [List.getElem?_set_ne (fun e => hq e.symm)] at hx
    obtain ⟨cs', p1, p2, p3⟩ := h.2 q x hx
    refine ⟨cs', p1, fun j u hj => ?_, p3⟩
    rw [splice_at hfit]
    have hjs : j < sz := by rw [← p1]; exact (List.getElem?_eq_some_iff.1 hj).1
    rw [if_neg ?_]
    · exact p2 j u hj
    · rintro ⟨a1, a2⟩
      rcases Nat.lt_or_gt_of_ne hq with hlt | hgt
      · have : q * sz + sz ≤ i * sz := by rw [← Nat.succ_mul]; exact Nat.mul_le_mul_right _ hlt
        omega
      · have : i * sz + sz ≤ q * sz := by rw [← Nat.succ_mul]; exact Nat.mul_le_mul_right _ hgt
        omega
section
variable {κ : Ctx} {p : List PanicEntry → Fr → World → Prop} {P : Program} {N : Nat} {F : Fr} {w : World} {K : Fr → World → Prop} {d : Nat} {ty : TypeId} {pos : String} {af : Array Edge} {gd : Option (Nat × Bool)} {G G0 : Gm} {w0 : World} {B : Nat} {L : List Row}
end
end Go.Proofs.YtcaflmilfhhikaaGreatDoor
