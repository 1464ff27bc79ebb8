/-
  What is handed to the laws, read as data of Lean's (printed by a program of ours).
-/
import Derived.Test.YtajejmbnmphngaaRd
import Derived.Test.YtajejmbnmphngaaBaseK
import Derived.Test.YtajejmbnmphngaaChecked
namespace Go.Proofs.Ytajejmbnmphngaa
open Go.RowKit
set_option linter.unusedVariables false
open Go.ChangeShapes Go.WideShapes Go.ChangeAt
theorem own_knob : ownKnob Try.prog.godebug = none := by kernel_rfl
theorem laid_out : laidOutB Try.prog = true := by kernel_rfl
theorem ce111 : Try.prog.cellsOf 111 = 3 := by kernel_rfl
theorem ce22 : Try.prog.cellsOf 22 = 1 := by kernel_rfl
theorem ce25 : Try.prog.cellsOf 25 = 2 := by kernel_rfl
theorem ce27 : Try.prog.cellsOf 27 = 6 := by kernel_rfl
theorem ce3 : Try.prog.cellsOf 3 = 1 := by kernel_rfl
theorem ce42 : Try.prog.cellsOf 42 = 6 := by kernel_rfl
theorem ce45 : Try.prog.cellsOf 45 = 3 := by kernel_rfl
theorem ce82 : Try.prog.cellsOf 82 = 2 := by kernel_rfl
theorem fe111_0 : fieldB Try.prog 111 0 = some (23, 0, 1) := by kernel_rfl
theorem fe111_1 : fieldB Try.prog 111 1 = some (3, 1, 1) := by kernel_rfl
theorem fe111_2 : fieldB Try.prog 111 2 = some (3, 2, 1) := by kernel_rfl
theorem fe25_0 : fieldB Try.prog 25 0 = some (3, 0, 1) := by kernel_rfl
theorem fe25_1 : fieldB Try.prog 25 1 = some (3, 1, 1) := by kernel_rfl
theorem fe27_0 : fieldB Try.prog 27 0 = some (22, 0, 1) := by kernel_rfl
theorem fe27_1 : fieldB Try.prog 27 1 = some (3, 1, 1) := by kernel_rfl
theorem fe27_2 : fieldB Try.prog 27 2 = some (3, 2, 1) := by kernel_rfl
theorem fe27_3 : fieldB Try.prog 27 3 = some (23, 3, 1) := by kernel_rfl
theorem fe27_4 : fieldB Try.prog 27 4 = some (25, 4, 2) := by kernel_rfl
theorem fe42_0 : fieldB Try.prog 42 0 = some (22, 0, 1) := by kernel_rfl
theorem fe42_1 : fieldB Try.prog 42 1 = some (23, 1, 1) := by kernel_rfl
theorem fe42_2 : fieldB Try.prog 42 2 = some (25, 2, 2) := by kernel_rfl
theorem fe42_3 : fieldB Try.prog 42 3 = some (40, 4, 1) := by kernel_rfl
theorem fe42_4 : fieldB Try.prog 42 4 = some (3, 5, 1) := by kernel_rfl
theorem fe45_0 : fieldB Try.prog 45 0 = some (22, 0, 1) := by kernel_rfl
theorem fe45_1 : fieldB Try.prog 45 1 = some (22, 1, 1) := by kernel_rfl
theorem fe45_2 : fieldB Try.prog 45 2 = some (43, 2, 1) := by kernel_rfl
theorem fe82_0 : fieldB Try.prog 82 0 = some (3, 0, 1) := by kernel_rfl
theorem fe82_1 : fieldB Try.prog 82 1 = some (3, 1, 1) := by kernel_rfl
theorem uf25 : Try.prog.underlying 25 = some (.struct (Try.prog.fieldsOf 25)) := by kernel_rfl
theorem uf27 : Try.prog.underlying 27 = some (.struct (Try.prog.fieldsOf 27)) := by kernel_rfl
theorem uf42 : Try.prog.underlying 42 = some (.struct (Try.prog.fieldsOf 42)) := by kernel_rfl
theorem uf45 : Try.prog.underlying 45 = some (.struct (Try.prog.fieldsOf 45)) := by kernel_rfl
theorem uf82 : Try.prog.underlying 82 = some (.struct (Try.prog.fieldsOf 82)) := by kernel_rfl
theorem un22 : Try.prog.underlying 22 = some (.slice 3) := by kernel_rfl
theorem un23 : Try.prog.underlying 23 = some (.slice 25) := by kernel_rfl
theorem un3 : Try.prog.underlying 3 = some (.int .i64) := by kernel_rfl
theorem un30 : Try.prog.underlying 30 = some (.slice 82) := by kernel_rfl
theorem un40 : Try.prog.underlying 40 = some (.slice 111) := by kernel_rfl
theorem un43 : Try.prog.underlying 43 = some (.slice 22) := by kernel_rfl
theorem un4b : Try.prog.underlying 4 = some .bool := by kernel_rfl
def okTSpan (x : TSpan) : Prop := okI x.Low ∧ okI x.High
theorem opens_TSpan {W : World} : Opens Try.prog W 25 RTSpan okTSpan := by
  intro H enc base fuel spare held cs x h
  obtain ⟨hl, n0, y0, h0⟩ := field_of fe25_0 h
  obtain ⟨v0, r0, k0⟩ := (opens_int un3) enc _ _ _ _ _ _ h0
  obtain ⟨hl, n1, y1, h1⟩ := field_of fe25_1 h
  obtain ⟨v1, r1, k1⟩ := (opens_int un3) enc _ _ _ _ _ _ h1
  rw [ce25] at hl
  rcases cs with _ | ⟨c0, _ | ⟨c1, _ | ⟨c2, cs⟩⟩⟩ <;> simp at hl
  have r0 : [c0] = _ := r0
  cases r0
  have r1 : [c1] = _ := r1
  cases r1
  exact ⟨⟨v0, v1⟩, rfl, ⟨k0, k1⟩⟩
def okTShipPass (x : TShipPass) : Prop := (fun xs => ∀ y ∈ xs, okI y) x.Tides ∧ okI x.Depth ∧ okI x.Draft ∧ (fun xs => ∀ y ∈ xs, okTSpan y) x.Swell ∧ okTSpan x.Light
theorem opens_TShipPass {W : World} : Opens Try.prog W 27 RTShipPass okTShipPass := by
  intro H enc base fuel spare held cs x h
  obtain ⟨hl, n0, y0, h0⟩ := field_of fe27_0 h
  obtain ⟨v0, r0, k0⟩ := (opens_slice un22 ce3 (by decide) (opens_int un3)) enc _ _ _ _ _ _ h0
  obtain ⟨hl, n1, y1, h1⟩ := field_of fe27_1 h
  obtain ⟨v1, r1, k1⟩ := (opens_int un3) enc _ _ _ _ _ _ h1
  obtain ⟨hl, n2, y2, h2⟩ := field_of fe27_2 h
  obtain ⟨v2, r2, k2⟩ := (opens_int un3) enc _ _ _ _ _ _ h2
  obtain ⟨hl, n3, y3, h3⟩ := field_of fe27_3 h
  obtain ⟨v3, r3, k3⟩ := (opens_slice un23 ce25 (by decide) opens_TSpan) enc _ _ _ _ _ _ h3
  obtain ⟨hl, n4, y4, h4⟩ := field_of fe27_4 h
  obtain ⟨v4, r4, k4⟩ := opens_TSpan enc _ _ _ _ _ _ h4
  rw [ce27] at hl
  rcases cs with _ | ⟨c0, _ | ⟨c1, _ | ⟨c2, _ | ⟨c3, _ | ⟨c4, _ | ⟨c5, _ | ⟨c6, cs⟩⟩⟩⟩⟩⟩⟩ <;> simp at hl
  obtain ⟨a0_0, n0_0, c0_0, e0, s0_0⟩ := r0
  have e0 : [c0] = _ := e0
  cases e0
  have r1 : [c1] = _ := r1
  cases r1
  have r2 : [c2] = _ := r2
  cases r2
  obtain ⟨a3_0, n3_0, c3_0, e3, s3_0⟩ := r3
  have e3 : [c3] = _ := e3
  cases e3
  have r4 : [c4, c5] = _ := r4
  cases r4
  exact ⟨⟨v0, v1, v2, v3, v4⟩, ⟨a0_0, n0_0, c0_0, a3_0, n3_0, c3_0, rfl, s0_0, s3_0⟩, ⟨k0, k1, k2, k3, k4⟩⟩
def okTShipCall (x : TShipCall) : Prop := okI x.Day ∧ okI x.Hour
theorem opens_TShipCall {W : World} : Opens Try.prog W 82 RTShipCall okTShipCall := by
  intro H enc base fuel spare held cs x h
  obtain ⟨hl, n0, y0, h0⟩ := field_of fe82_0 h
  obtain ⟨v0, r0, k0⟩ := (opens_int un3) enc _ _ _ _ _ _ h0
  obtain ⟨hl, n1, y1, h1⟩ := field_of fe82_1 h
  obtain ⟨v1, r1, k1⟩ := (opens_int un3) enc _ _ _ _ _ _ h1
  rw [ce82] at hl
  rcases cs with _ | ⟨c0, _ | ⟨c1, _ | ⟨c2, cs⟩⟩⟩ <;> simp at hl
  have r0 : [c0] = _ := r0
  cases r0
  have r1 : [c1] = _ := r1
  cases r1
  exact ⟨⟨v0, v1⟩, rfl, ⟨k0, k1⟩⟩
def okTShipLot (x : TShipLot) : Prop := (fun xs => ∀ y ∈ xs, okTSpan y) x.Goods ∧ okI x.Weight ∧ okI x.Cost
theorem opens_TShipLot {W : World} : Opens Try.prog W 111 RTShipLot okTShipLot := by
  intro H enc base fuel spare held cs x h
  obtain ⟨hl, n0, y0, h0⟩ := field_of fe111_0 h
  obtain ⟨v0, r0, k0⟩ := (opens_slice un23 ce25 (by decide) opens_TSpan) enc _ _ _ _ _ _ h0
  obtain ⟨hl, n1, y1, h1⟩ := field_of fe111_1 h
  obtain ⟨v1, r1, k1⟩ := (opens_int un3) enc _ _ _ _ _ _ h1
  obtain ⟨hl, n2, y2, h2⟩ := field_of fe111_2 h
  obtain ⟨v2, r2, k2⟩ := (opens_int un3) enc _ _ _ _ _ _ h2
  rw [ce111] at hl
  rcases cs with _ | ⟨c0, _ | ⟨c1, _ | ⟨c2, _ | ⟨c3, cs⟩⟩⟩⟩ <;> simp at hl
  obtain ⟨a0_0, n0_0, c0_0, e0, s0_0⟩ := r0
  have e0 : [c0] = _ := e0
  cases e0
  have r1 : [c1] = _ := r1
  cases r1
  have r2 : [c2] = _ := r2
  cases r2
  exact ⟨⟨v0, v1, v2⟩, ⟨a0_0, n0_0, c0_0, rfl, s0_0⟩, ⟨k0, k1, k2⟩⟩
def okTShipStore (x : TShipStore) : Prop := (fun xs => ∀ y ∈ xs, okI y) x.Stock ∧ (fun xs => ∀ y ∈ xs, okTSpan y) x.Use ∧ okTSpan x.Gap ∧ (fun xs => ∀ y ∈ xs, okTShipLot y) x.Lots ∧ okI x.Hold
theorem opens_TShipStore {W : World} : Opens Try.prog W 42 RTShipStore okTShipStore := by
  intro H enc base fuel spare held cs x h
  obtain ⟨hl, n0, y0, h0⟩ := field_of fe42_0 h
  obtain ⟨v0, r0, k0⟩ := (opens_slice un22 ce3 (by decide) (opens_int un3)) enc _ _ _ _ _ _ h0
  obtain ⟨hl, n1, y1, h1⟩ := field_of fe42_1 h
  obtain ⟨v1, r1, k1⟩ := (opens_slice un23 ce25 (by decide) opens_TSpan) enc _ _ _ _ _ _ h1
  obtain ⟨hl, n2, y2, h2⟩ := field_of fe42_2 h
  obtain ⟨v2, r2, k2⟩ := opens_TSpan enc _ _ _ _ _ _ h2
  obtain ⟨hl, n3, y3, h3⟩ := field_of fe42_3 h
  obtain ⟨v3, r3, k3⟩ := (opens_slice un40 ce111 (by decide) opens_TShipLot) enc _ _ _ _ _ _ h3
  obtain ⟨hl, n4, y4, h4⟩ := field_of fe42_4 h
  obtain ⟨v4, r4, k4⟩ := (opens_int un3) enc _ _ _ _ _ _ h4
  rw [ce42] at hl
  rcases cs with _ | ⟨c0, _ | ⟨c1, _ | ⟨c2, _ | ⟨c3, _ | ⟨c4, _ | ⟨c5, _ | ⟨c6, cs⟩⟩⟩⟩⟩⟩⟩ <;> simp at hl
  obtain ⟨a0_0, n0_0, c0_0, e0, s0_0⟩ := r0
  have e0 : [c0] = _ := e0
  cases e0
  obtain ⟨a1_0, n1_0, c1_0, e1, s1_0⟩ := r1
  have e1 : [c1] = _ := e1
  cases e1
  have r2 : [c2, c3] = _ := r2
  cases r2
  obtain ⟨a3_0, n3_0, c3_0, e3, s3_0⟩ := r3
  have e3 : [c4] = _ := e3
  cases e3
  have r4 : [c5] = _ := r4
  cases r4
  exact ⟨⟨v0, v1, v2, v3, v4⟩, ⟨a0_0, n0_0, c0_0, a1_0, n1_0, c1_0, a3_0, n3_0, c3_0, rfl, s0_0, s1_0, s3_0⟩, ⟨k0, k1, k2, k3, k4⟩⟩
def okTShipTruth (x : TShipTruth) : Prop := (fun xs => ∀ y ∈ xs, okI y) x.Uses ∧ (fun xs => ∀ y ∈ xs, okI y) x.Gaps ∧ (fun xs => ∀ y ∈ xs, (fun xs => ∀ y ∈ xs, okI y) y) x.Goods
theorem opens_TShipTruth {W : World} : Opens Try.prog W 45 RTShipTruth okTShipTruth := by
  intro H enc base fuel spare held cs x h
  obtain ⟨hl, n0, y0, h0⟩ := field_of fe45_0 h
  obtain ⟨v0, r0, k0⟩ := (opens_slice un22 ce3 (by decide) (opens_int un3)) enc _ _ _ _ _ _ h0
  obtain ⟨hl, n1, y1, h1⟩ := field_of fe45_1 h
  obtain ⟨v1, r1, k1⟩ := (opens_slice un22 ce3 (by decide) (opens_int un3)) enc _ _ _ _ _ _ h1
  obtain ⟨hl, n2, y2, h2⟩ := field_of fe45_2 h
  obtain ⟨v2, r2, k2⟩ := (opens_slice un43 ce22 (by decide) (opens_slice un22 ce3 (by decide) (opens_int un3))) enc _ _ _ _ _ _ h2
  rw [ce45] at hl
  rcases cs with _ | ⟨c0, _ | ⟨c1, _ | ⟨c2, _ | ⟨c3, cs⟩⟩⟩⟩ <;> simp at hl
  obtain ⟨a0_0, n0_0, c0_0, e0, s0_0⟩ := r0
  have e0 : [c0] = _ := e0
  cases e0
  obtain ⟨a1_0, n1_0, c1_0, e1, s1_0⟩ := r1
  have e1 : [c1] = _ := e1
  cases e1
  obtain ⟨a2_0, n2_0, c2_0, e2, s2_0⟩ := r2
  have e2 : [c2] = _ := e2
  cases e2
  exact ⟨⟨v0, v1, v2⟩, ⟨a0_0, n0_0, c0_0, a1_0, n1_0, c1_0, a2_0, n2_0, c2_0, rfl, s0_0, s1_0, s2_0⟩, ⟨k0, k1, k2⟩⟩
end Go.Proofs.Ytajejmbnmphngaa
