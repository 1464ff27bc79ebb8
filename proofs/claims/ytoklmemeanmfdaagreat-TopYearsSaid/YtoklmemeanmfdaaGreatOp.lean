/-
  What is handed to the laws, read as data of Lean's (printed by a program of ours).
-/
import Derived.Test.YtoklmemeanmfdaaGreatRd
import Derived.Test.YtoklmemeanmfdaaGreatBsC
import Derived.Test.YtoklmemeanmfdaaGreatChecked
namespace Go.Proofs.YtoklmemeanmfdaaGreat
open Go.RowKit
set_option linter.unusedVariables false
open Go.ChangeShapes Go.WideShapes Go.ChangeAt
theorem own_knob : ownKnob Tryz.prog.godebug = none := by kernel_rfl
theorem laid_out : laidOutB Tryz.prog = true := by kernel_rfl
theorem ce25 : Tryz.prog.cellsOf 25 = 2 := by kernel_rfl
theorem ce27 : Tryz.prog.cellsOf 27 = 6 := by kernel_rfl
theorem ce3 : Tryz.prog.cellsOf 3 = 1 := by kernel_rfl
theorem fe25_0 : fieldB Tryz.prog 25 0 = some (3, 0, 1) := by kernel_rfl
theorem fe25_1 : fieldB Tryz.prog 25 1 = some (3, 1, 1) := by kernel_rfl
theorem fe27_0 : fieldB Tryz.prog 27 0 = some (22, 0, 1) := by kernel_rfl
theorem fe27_1 : fieldB Tryz.prog 27 1 = some (3, 1, 1) := by kernel_rfl
theorem fe27_2 : fieldB Tryz.prog 27 2 = some (3, 2, 1) := by kernel_rfl
theorem fe27_3 : fieldB Tryz.prog 27 3 = some (23, 3, 1) := by kernel_rfl
theorem fe27_4 : fieldB Tryz.prog 27 4 = some (25, 4, 2) := by kernel_rfl
theorem uf25 : Tryz.prog.underlying 25 = some (.struct (Tryz.prog.fieldsOf 25)) := by kernel_rfl
theorem uf27 : Tryz.prog.underlying 27 = some (.struct (Tryz.prog.fieldsOf 27)) := by kernel_rfl
theorem un22 : Tryz.prog.underlying 22 = some (.slice 3) := by kernel_rfl
theorem un23 : Tryz.prog.underlying 23 = some (.slice 25) := by kernel_rfl
theorem un3 : Tryz.prog.underlying 3 = some (.int .i64) := by kernel_rfl
theorem un4b : Tryz.prog.underlying 4 = some .bool := by kernel_rfl
def okTSpan (x : TSpan) : Prop := okI x.Low ∧ okI x.High
theorem opens_TSpan {W : World} : Opens Tryz.prog W 25 RTSpan okTSpan := by
  intro H enc base fuel spare held cs x h
  obtain ⟨hl, n0, y0, h0⟩ := field_of fe25_0 h
  obtain ⟨v0, r0, k0⟩ := (opens_int un3) enc _ _ _ _ _ _ h0
  obtain ⟨hl, n1, y1, h1⟩ := field_of fe25_1 h
  obtain ⟨v1, r1, k1⟩ := (opens_int un3) enc _ _ _ _ _ _ h1
  rw [ce25] at hl
  rcases cs with _ | ⟨c0, _ | ⟨c1, _ | ⟨c2, cs⟩⟩⟩ <;> simp at hl
  have r0 : [c0] = _ := r0
  cases r0
  have r1 : [c1] = _ := r1
  cases r1
  exact ⟨⟨v0, v1⟩, rfl, ⟨k0, k1⟩⟩
def okTShipPass (x : TShipPass) : Prop := (fun xs => ∀ y ∈ xs, okI y) x.Tides ∧ okI x.Depth ∧ okI x.Draft ∧ (fun xs => ∀ y ∈ xs, okTSpan y) x.Swell ∧ okTSpan x.Light
theorem opens_TShipPass {W : World} : Opens Tryz.prog W 27 RTShipPass okTShipPass := by
  intro H enc base fuel spare held cs x h
  obtain ⟨hl, n0, y0, h0⟩ := field_of fe27_0 h
  obtain ⟨v0, r0, k0⟩ := (opens_slice un22 ce3 (by decide) (opens_int un3)) enc _ _ _ _ _ _ h0
  obtain ⟨hl, n1, y1, h1⟩ := field_of fe27_1 h
  obtain ⟨v1, r1, k1⟩ := (opens_int un3) enc _ _ _ _ _ _ h1
  obtain ⟨hl, n2, y2, h2⟩ := field_of fe27_2 h
  obtain ⟨v2, r2, k2⟩ := (opens_int un3) enc _ _ _ _ _ _ h2
  obtain ⟨hl, n3, y3, h3⟩ := field_of fe27_3 h
  obtain ⟨v3, r3, k3⟩ := (opens_slice un23 ce25 (by decide) opens_TSpan) enc _ _ _ _ _ _ h3
  obtain ⟨hl, n4, y4, h4⟩ := field_of fe27_4 h
  obtain ⟨v4, r4, k4⟩ := opens_TSpan enc _ _ _ _ _ _ h4
  rw [ce27] at hl
  rcases cs with _ | ⟨c0, _ | ⟨c1, _ | ⟨c2, _ | ⟨c3, _ | ⟨c4, _ | ⟨c5, _ | ⟨c6, cs⟩⟩⟩⟩⟩⟩⟩ <;> simp at hl
  obtain ⟨a0_0, n0_0, c0_0, e0, s0_0⟩ := r0
  have e0 : [c0] = _ := e0
  cases e0
  have r1 : [c1] = _ := r1
  cases r1
  have r2 : [c2] = _ := r2
  cases r2
  obtain ⟨a3_0, n3_0, c3_0, e3, s3_0⟩ := r3
  have e3 : [c3] = _ := e3
  cases e3
  have r4 : [c4, c5] = _ := r4
  cases r4
  exact ⟨⟨v0, v1, v2, v3, v4⟩, ⟨a0_0, n0_0, c0_0, a3_0, n3_0, c3_0, rfl, s0_0, s3_0⟩, ⟨k0, k1, k2, k3, k4⟩⟩
end Go.Proofs.YtoklmemeanmfdaaGreat
