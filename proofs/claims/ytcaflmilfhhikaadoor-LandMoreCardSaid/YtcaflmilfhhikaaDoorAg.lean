/-
  Whether memories agree, by the program's table.
-/
import Derived.Test.YtcaflmilfhhikaaDoorRt
namespace Go.Proofs.YtcaflmilfhhikaaDoor
open Go.RowKit
set_option linter.unusedVariables false

theorem app_short {α : Type} (xs ys : List α) (h : xs.length + ys.length ≤ 1073741824) : app xs ys = some (xs ++ ys) := by simp [app, h]
theorem pred_pos {k : Nat} (h0 : 0 < k) (hn : k ≤ 1073741824) : IntKind.i64.wrap ((k : Int) - 1) = ((k - 1 : Nat) : Int) := by rw [wrap_id] <;> omega
theorem take_snoc {α : Type} {l : List α} {k : Nat} {y : α} (h : l[k]? = some y) : l.take (k + 1) = l.take k ++ [y] := by rw [List.take_add_one, h]; rfl
/-- Whether a set of memories agrees, by the program's table. -/
noncomputable def agrS (b : TLandBook) (hb : Nat → Bool) : Bool := diagB (placesL b.Events.length) (passT (placesL b.Events.length) (firstT b hb))
theorem agrS_all (b : TLandBook) : agreeB b = agrS b (bitI ((2 ^ b.Memories.length - 1 : Nat) : Int)) := rfl
theorem agrS_iff {b : TLandBook} (h : bookOk b = true) (hb : Nat → Bool) : agrS b hb = true ↔ ∃ ys, TruthS b hb ys := by
  obtain ⟨_, ⟨_, hn⟩, hl, hm, hF⟩ := book_parts h
  exact agree_iff b hb hn hF
theorem truth_congr {b : TLandBook} {hb hb' : Nat → Bool} (h : ∀ j, j < b.Memories.length → hb j = hb' j) {ys : Nat → Int} (ht : TruthS b hb ys) : TruthS b hb' ys :=
  ⟨ht.1, fun j m hj hbj => ht.2 j m hj (by rw [h j (get_lt hj)]; exact hbj)⟩
theorem agrS_congr {b : TLandBook} (ok : bookOk b = true) {hb hb' : Nat → Bool} (h : ∀ j, j < b.Memories.length → hb j = hb' j) : agrS b hb = agrS b hb' := by
  rw [Bool.eq_iff_iff, agrS_iff ok, agrS_iff ok]
  exact ⟨fun ⟨ys, hy⟩ => ⟨ys, truth_congr h hy⟩, fun ⟨ys, hy⟩ => ⟨ys, truth_congr (fun j hj => (h j hj).symm) hy⟩⟩
end Go.Proofs.YtcaflmilfhhikaaDoor
