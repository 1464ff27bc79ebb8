/-
  Sets of memories: their bits.
-/
import Derived.Test.YtcaflmilfhhikaaDoorTr
import Derived.Test.YtcaflmilfhhikaaDoorSt
namespace Go.Proofs.YtcaflmilfhhikaaDoor
open Go.RowKit
set_option linter.unusedVariables false

theorem f81_eq (s : Int) (k : Nat) : f81 s (k : Int) = some (bitI s k) := by
  unfold f81
  rw [shr_nat]; rfl
theorem two_pow_le {n : Nat} (hn : n ≤ 10) : 1 ≤ 2 ^ n ∧ 2 ^ n ≤ 1024 := by
  have : n = 0 ∨ n = 1 ∨ n = 2 ∨ n = 3 ∨ n = 4 ∨ n = 5 ∨ n = 6 ∨ n = 7 ∨ n = 8 ∨ n = 9 ∨ n = 10 := by omega
  rcases this with e | e | e | e | e | e | e | e | e | e | e <;> rw [e] <;> decide
/-- All memories. -/
theorem f54_eq (x0 : TLandBook) (hl : x0.Memories.length ≤ 10) : f54 x0 = some ((2 ^ x0.Memories.length - 1 : Nat) : Int) := by
  obtain ⟨h1, h2⟩ := two_pow_le hl
  unfold f54
  rw [shl_nat _ (by omega)]
  simp only [Option.bind_some]
  congr 1
  generalize 2 ^ x0.Memories.length = q at *
  rw [IntKind.wrap_i64]; omega
theorem all_bits {n k : Nat} (hn : n ≤ 10) (hk : k < n) : bitI ((2 ^ n - 1 : Nat) : Int) k = true := by
  obtain ⟨h1, h2⟩ := two_pow_le hn
  rw [bitI_nat _ _ (by omega), Nat.testBit_two_pow_sub_one]
  simpa using hk
/-- What the program's table of all memories is. -/
theorem f79_all (x0 : TLandBook) (hn : x0.Events.length ≤ 7) (hl : x0.Memories.length ≤ 10) (hm : ∀ m ∈ x0.Memories, MemOk m) :
    ∃ t', f79 x0 ((2 ^ x0.Memories.length - 1 : Nat) : Int) = some (if diagB (placesL x0.Events.length) (passT (placesL x0.Events.length) (firstT x0 (bitI ((2 ^ x0.Memories.length - 1 : Nat) : Int)))) = true then (t', true) else (Tb.zero 64, false)) ∧ tabOf t' = passT (placesL x0.Events.length) (firstT x0 (bitI ((2 ^ x0.Memories.length - 1 : Nat) : Int))) :=
  f79_eq x0 _ hn (by omega) hm _ (fun k _ => f81_eq _ k)
end Go.Proofs.YtcaflmilfhhikaaDoor
