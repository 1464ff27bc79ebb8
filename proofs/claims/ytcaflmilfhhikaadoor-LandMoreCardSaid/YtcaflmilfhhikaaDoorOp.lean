/-
  What is handed to the laws, read as data of Lean's (printed by a program of ours).
-/
import Derived.Test.YtcaflmilfhhikaaDoorRd
import Derived.Test.YtcaflmilfhhikaaDoorBaseK
import Derived.Test.YtcaflmilfhhikaaDoorChecked
namespace Go.Proofs.YtcaflmilfhhikaaDoor
open Go.RowKit
set_option linter.unusedVariables false
open Go.ChangeShapes Go.WideShapes Go.ChangeAt
theorem own_knob : ownKnob Tryd.prog.godebug = none := by kernel_rfl
theorem laid_out : laidOutB Tryd.prog = true := by kernel_rfl
theorem ce26 : Tryd.prog.cellsOf 26 = 3 := by kernel_rfl
theorem ce3 : Tryd.prog.cellsOf 3 = 1 := by kernel_rfl
theorem ce44 : Tryd.prog.cellsOf 44 = 2 := by kernel_rfl
theorem ce46 : Tryd.prog.cellsOf 46 = 4 := by kernel_rfl
theorem ce69 : Tryd.prog.cellsOf 69 = 2 := by kernel_rfl
theorem ce85 : Tryd.prog.cellsOf 85 = 2 := by kernel_rfl
theorem fe26_0 : fieldB Tryd.prog 26 0 = some (22, 0, 1) := by kernel_rfl
theorem fe26_1 : fieldB Tryd.prog 26 1 = some (23, 1, 1) := by kernel_rfl
theorem fe26_2 : fieldB Tryd.prog 26 2 = some (24, 2, 1) := by kernel_rfl
theorem fe44_0 : fieldB Tryd.prog 44 0 = some (3, 0, 1) := by kernel_rfl
theorem fe44_1 : fieldB Tryd.prog 44 1 = some (3, 1, 1) := by kernel_rfl
theorem fe46_0 : fieldB Tryd.prog 46 0 = some (3, 0, 1) := by kernel_rfl
theorem fe46_1 : fieldB Tryd.prog 46 1 = some (3, 1, 1) := by kernel_rfl
theorem fe46_2 : fieldB Tryd.prog 46 2 = some (44, 2, 2) := by kernel_rfl
theorem fe69_0 : fieldB Tryd.prog 69 0 = some (3, 0, 1) := by kernel_rfl
theorem fe69_1 : fieldB Tryd.prog 69 1 = some (3, 1, 1) := by kernel_rfl
theorem fe85_0 : fieldB Tryd.prog 85 0 = some (3, 0, 1) := by kernel_rfl
theorem fe85_1 : fieldB Tryd.prog 85 1 = some (3, 1, 1) := by kernel_rfl
theorem uf26 : Tryd.prog.underlying 26 = some (.struct (Tryd.prog.fieldsOf 26)) := by kernel_rfl
theorem un22 : Tryd.prog.underlying 22 = some (.slice 85) := by kernel_rfl
theorem un23 : Tryd.prog.underlying 23 = some (.slice 69) := by kernel_rfl
theorem un24 : Tryd.prog.underlying 24 = some (.slice 46) := by kernel_rfl
theorem un29 : Tryd.prog.underlying 29 = some (.slice 3) := by kernel_rfl
theorem un3 : Tryd.prog.underlying 3 = some (.int .i64) := by kernel_rfl
theorem un4b : Tryd.prog.underlying 4 = some .bool := by kernel_rfl
def okTLandPerson (x : TLandPerson) : Prop := okI x.Mother ∧ okI x.Adopted
theorem opens_TLandPerson {W : World} : Opens Tryd.prog W 85 RTLandPerson okTLandPerson := by
  intro H enc base fuel spare held cs x h
  obtain ⟨hl, n0, y0, h0⟩ := field_of fe85_0 h
  obtain ⟨v0, r0, k0⟩ := (opens_int un3) enc _ _ _ _ _ _ h0
  obtain ⟨hl, n1, y1, h1⟩ := field_of fe85_1 h
  obtain ⟨v1, r1, k1⟩ := (opens_int un3) enc _ _ _ _ _ _ h1
  rw [ce85] at hl
  rcases cs with _ | ⟨c0, _ | ⟨c1, _ | ⟨c2, cs⟩⟩⟩ <;> simp at hl
  have r0 : [c0] = _ := r0
  cases r0
  have r1 : [c1] = _ := r1
  cases r1
  exact ⟨⟨v0, v1⟩, rfl, ⟨k0, k1⟩⟩
def okTLandEvent (x : TLandEvent) : Prop := okI x.Strip ∧ okI x.Holder
theorem opens_TLandEvent {W : World} : Opens Tryd.prog W 69 RTLandEvent okTLandEvent := by
  intro H enc base fuel spare held cs x h
  obtain ⟨hl, n0, y0, h0⟩ := field_of fe69_0 h
  obtain ⟨v0, r0, k0⟩ := (opens_int un3) enc _ _ _ _ _ _ h0
  obtain ⟨hl, n1, y1, h1⟩ := field_of fe69_1 h
  obtain ⟨v1, r1, k1⟩ := (opens_int un3) enc _ _ _ _ _ _ h1
  rw [ce69] at hl
  rcases cs with _ | ⟨c0, _ | ⟨c1, _ | ⟨c2, cs⟩⟩⟩ <;> simp at hl
  have r0 : [c0] = _ := r0
  cases r0
  have r1 : [c1] = _ := r1
  cases r1
  exact ⟨⟨v0, v1⟩, rfl, ⟨k0, k1⟩⟩
def okTSpan (x : TSpan) : Prop := okI x.Low ∧ okI x.High
theorem opens_TSpan {W : World} : Opens Tryd.prog W 44 RTSpan okTSpan := by
  intro H enc base fuel spare held cs x h
  obtain ⟨hl, n0, y0, h0⟩ := field_of fe44_0 h
  obtain ⟨v0, r0, k0⟩ := (opens_int un3) enc _ _ _ _ _ _ h0
  obtain ⟨hl, n1, y1, h1⟩ := field_of fe44_1 h
  obtain ⟨v1, r1, k1⟩ := (opens_int un3) enc _ _ _ _ _ _ h1
  rw [ce44] at hl
  rcases cs with _ | ⟨c0, _ | ⟨c1, _ | ⟨c2, cs⟩⟩⟩ <;> simp at hl
  have r0 : [c0] = _ := r0
  cases r0
  have r1 : [c1] = _ := r1
  cases r1
  exact ⟨⟨v0, v1⟩, rfl, ⟨k0, k1⟩⟩
def okTLandMemory (x : TLandMemory) : Prop := okI x.From ∧ okI x.To ∧ okTSpan x.Years
theorem opens_TLandMemory {W : World} : Opens Tryd.prog W 46 RTLandMemory okTLandMemory := by
  intro H enc base fuel spare held cs x h
  obtain ⟨hl, n0, y0, h0⟩ := field_of fe46_0 h
  obtain ⟨v0, r0, k0⟩ := (opens_int un3) enc _ _ _ _ _ _ h0
  obtain ⟨hl, n1, y1, h1⟩ := field_of fe46_1 h
  obtain ⟨v1, r1, k1⟩ := (opens_int un3) enc _ _ _ _ _ _ h1
  obtain ⟨hl, n2, y2, h2⟩ := field_of fe46_2 h
  obtain ⟨v2, r2, k2⟩ := opens_TSpan enc _ _ _ _ _ _ h2
  rw [ce46] at hl
  rcases cs with _ | ⟨c0, _ | ⟨c1, _ | ⟨c2, _ | ⟨c3, _ | ⟨c4, cs⟩⟩⟩⟩⟩ <;> simp at hl
  have r0 : [c0] = _ := r0
  cases r0
  have r1 : [c1] = _ := r1
  cases r1
  have r2 : [c2, c3] = _ := r2
  cases r2
  exact ⟨⟨v0, v1, v2⟩, rfl, ⟨k0, k1, k2⟩⟩
def okTLandBook (x : TLandBook) : Prop := (fun xs => ∀ y ∈ xs, okTLandPerson y) x.People ∧ (fun xs => ∀ y ∈ xs, okTLandEvent y) x.Events ∧ (fun xs => ∀ y ∈ xs, okTLandMemory y) x.Memories
theorem opens_TLandBook {W : World} : Opens Tryd.prog W 26 RTLandBook okTLandBook := by
  intro H enc base fuel spare held cs x h
  obtain ⟨hl, n0, y0, h0⟩ := field_of fe26_0 h
  obtain ⟨v0, r0, k0⟩ := (opens_slice un22 ce85 (by decide) opens_TLandPerson) enc _ _ _ _ _ _ h0
  obtain ⟨hl, n1, y1, h1⟩ := field_of fe26_1 h
  obtain ⟨v1, r1, k1⟩ := (opens_slice un23 ce69 (by decide) opens_TLandEvent) enc _ _ _ _ _ _ h1
  obtain ⟨hl, n2, y2, h2⟩ := field_of fe26_2 h
  obtain ⟨v2, r2, k2⟩ := (opens_slice un24 ce46 (by decide) opens_TLandMemory) enc _ _ _ _ _ _ h2
  rw [ce26] at hl
  rcases cs with _ | ⟨c0, _ | ⟨c1, _ | ⟨c2, _ | ⟨c3, cs⟩⟩⟩⟩ <;> simp at hl
  obtain ⟨a0_0, n0_0, c0_0, e0, s0_0⟩ := r0
  have e0 : [c0] = _ := e0
  cases e0
  obtain ⟨a1_0, n1_0, c1_0, e1, s1_0⟩ := r1
  have e1 : [c1] = _ := e1
  cases e1
  obtain ⟨a2_0, n2_0, c2_0, e2, s2_0⟩ := r2
  have e2 : [c2] = _ := e2
  cases e2
  exact ⟨⟨v0, v1, v2⟩, ⟨a0_0, n0_0, c0_0, a1_0, n1_0, c1_0, a2_0, n2_0, c2_0, rfl, s0_0, s1_0, s2_0⟩, ⟨k0, k1, k2⟩⟩
end Go.Proofs.YtcaflmilfhhikaaDoor
