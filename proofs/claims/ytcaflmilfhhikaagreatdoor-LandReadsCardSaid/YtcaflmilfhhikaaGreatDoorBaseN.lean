/-
  Rows of rows of numbers of the call's own: a slice of slices into whose elements is stored.
-/
import Derived.Test.YtcaflmilfhhikaaGreatDoorBaseM
namespace Go.Proofs.YtcaflmilfhhikaaGreatDoor
open Go.RowKit
set_option linter.unusedVariables false

/-- A row among rows: where it lies, its capacity, its numbers. -/
abbrev NI := Option Addr × Nat × List Int
theorem rd_int {G : Gm} {cells : List Value} {ys : List Int} (h : Rd RInt 1 G cells ys) : cells = cellsI ys := by
  refine List.ext_getElem? fun i => ?_
  cases hx : ys[i]? with
  | none =>
    have : ys.length ≤ i := List.getElem?_eq_none_iff.1 hx
    rw [List.getElem?_eq_none (by rw [h.1]; omega), List.getElem?_eq_none (by rw [cellsI_len]; omega)]
  | some x =>
    obtain ⟨cs, h1, h2, h3⟩ := h.2 i x hx
    have h3 : cs = [.int .i64 x] := h3
    subst h3
    have := h2 0 _ rfl
    simp only [Nat.mul_one, Nat.add_zero] at this
    rw [this]
    simp [cellsI, hx]
theorem int_rd {G : Gm} (ys : List Int) : Rd RInt 1 G (cellsI ys) ys := by
  refine ⟨by simp [cellsI_len], fun i x hx => ⟨[.int .i64 x], rfl, fun j u hj => ?_, rfl⟩⟩
  cases j with
  | zero => simp at hj; subst hj; simp [cellsI, hx]
  | succ j => simp at hj
section
variable {G G0 : Gm} {w w0 : World} {B : Nat} {L1 : List Row} {eo ei m cap : Nat} {ad : Option Addr} {I : List NI}
variable {κ : Ctx} {p : List PanicEntry → Fr → World → Prop} {P : Program} {N : Nat} {F : Fr} {K : Fr → World → Prop} {d : Nat} {ty : TypeId} {pos : String} {af : Array Edge} {gd : Option (Nat × Bool)}
end
end Go.Proofs.YtcaflmilfhhikaaGreatDoor
