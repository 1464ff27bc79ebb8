/-
  What is handed to the laws, read as data of Lean's (printed by a program of ours).
-/
import Derived.Test.YtcaflmilfhhikaaGreatDoorRd
import Derived.Test.YtcaflmilfhhikaaGreatDoorBaseK
import Derived.Test.YtcaflmilfhhikaaGreatDoorChecked
namespace Go.Proofs.YtcaflmilfhhikaaGreatDoor
open Go.RowKit
set_option linter.unusedVariables false
open Go.ChangeShapes Go.WideShapes Go.ChangeAt
theorem own_knob : ownKnob Tryz.prog.godebug = none := by kernel_rfl
theorem laid_out : laidOutB Tryz.prog = true := by kernel_rfl
theorem ce26 : Tryz.prog.cellsOf 26 = 3 := by kernel_rfl
theorem ce46 : Tryz.prog.cellsOf 46 = 2 := by kernel_rfl
theorem ce54 : Tryz.prog.cellsOf 54 = 2 := by kernel_rfl
theorem ce57 : Tryz.prog.cellsOf 57 = 2 := by kernel_rfl
theorem ce60 : Tryz.prog.cellsOf 60 = 4 := by kernel_rfl
theorem fe26_0 : fieldB Tryz.prog 26 0 = some (22, 0, 1) := by kernel_rfl
theorem fe26_1 : fieldB Tryz.prog 26 1 = some (23, 1, 1) := by kernel_rfl
theorem fe26_2 : fieldB Tryz.prog 26 2 = some (24, 2, 1) := by kernel_rfl
theorem fe46_0 : fieldB Tryz.prog 46 0 = some (3, 0, 1) := by kernel_rfl
theorem fe46_1 : fieldB Tryz.prog 46 1 = some (3, 1, 1) := by kernel_rfl
theorem fe54_0 : fieldB Tryz.prog 54 0 = some (3, 0, 1) := by kernel_rfl
theorem fe54_1 : fieldB Tryz.prog 54 1 = some (3, 1, 1) := by kernel_rfl
theorem fe57_0 : fieldB Tryz.prog 57 0 = some (3, 0, 1) := by kernel_rfl
theorem fe57_1 : fieldB Tryz.prog 57 1 = some (3, 1, 1) := by kernel_rfl
theorem fe60_0 : fieldB Tryz.prog 60 0 = some (3, 0, 1) := by kernel_rfl
theorem fe60_1 : fieldB Tryz.prog 60 1 = some (3, 1, 1) := by kernel_rfl
theorem fe60_2 : fieldB Tryz.prog 60 2 = some (46, 2, 2) := by kernel_rfl
theorem uf26 : Tryz.prog.underlying 26 = some (.struct (Tryz.prog.fieldsOf 26)) := by kernel_rfl
theorem un22 : Tryz.prog.underlying 22 = some (.slice 54) := by kernel_rfl
theorem un23 : Tryz.prog.underlying 23 = some (.slice 57) := by kernel_rfl
theorem un24 : Tryz.prog.underlying 24 = some (.slice 60) := by kernel_rfl
theorem un3 : Tryz.prog.underlying 3 = some (.int .i64) := by kernel_rfl
theorem un4b : Tryz.prog.underlying 4 = some .bool := by kernel_rfl
theorem un9 : Tryz.prog.underlying 9 = some .string := by kernel_rfl
def okTLandPerson (x : TLandPerson) : Prop := okI x.Mother ∧ okI x.Adopted
theorem opens_TLandPerson {W : World} : Opens Tryz.prog W 54 RTLandPerson okTLandPerson := by
  intro H enc base fuel spare held cs x h
  obtain ⟨hl, n0, y0, h0⟩ := field_of fe54_0 h
  obtain ⟨v0, r0, k0⟩ := (opens_int un3) enc _ _ _ _ _ _ h0
  obtain ⟨hl, n1, y1, h1⟩ := field_of fe54_1 h
  obtain ⟨v1, r1, k1⟩ := (opens_int un3) enc _ _ _ _ _ _ h1
  rw [ce54] at hl
  rcases cs with _ | ⟨c0, _ | ⟨c1, _ | ⟨c2, cs⟩⟩⟩ <;> simp at hl
  have r0 : [c0] = _ := r0
  cases r0
  have r1 : [c1] = _ := r1
  cases r1
  exact ⟨⟨v0, v1⟩, rfl, ⟨k0, k1⟩⟩
def okTLandEvent (x : TLandEvent) : Prop := okI x.Strip ∧ okI x.Holder
theorem opens_TLandEvent {W : World} : Opens Tryz.prog W 57 RTLandEvent okTLandEvent := by
  intro H enc base fuel spare held cs x h
  obtain ⟨hl, n0, y0, h0⟩ := field_of fe57_0 h
  obtain ⟨v0, r0, k0⟩ := (opens_int un3) enc _ _ _ _ _ _ h0
  obtain ⟨hl, n1, y1, h1⟩ := field_of fe57_1 h
  obtain ⟨v1, r1, k1⟩ := (opens_int un3) enc _ _ _ _ _ _ h1
  rw [ce57] at hl
  rcases cs with _ | ⟨c0, _ | ⟨c1, _ | ⟨c2, cs⟩⟩⟩ <;> simp at hl
  have r0 : [c0] = _ := r0
  cases r0
  have r1 : [c1] = _ := r1
  cases r1
  exact ⟨⟨v0, v1⟩, rfl, ⟨k0, k1⟩⟩
def okTSpan (x : TSpan) : Prop := okI x.Low ∧ okI x.High
theorem opens_TSpan {W : World} : Opens Tryz.prog W 46 RTSpan okTSpan := by
  intro H enc base fuel spare held cs x h
  obtain ⟨hl, n0, y0, h0⟩ := field_of fe46_0 h
  obtain ⟨v0, r0, k0⟩ := (opens_int un3) enc _ _ _ _ _ _ h0
  obtain ⟨hl, n1, y1, h1⟩ := field_of fe46_1 h
  obtain ⟨v1, r1, k1⟩ := (opens_int un3) enc _ _ _ _ _ _ h1
  rw [ce46] at hl
  rcases cs with _ | ⟨c0, _ | ⟨c1, _ | ⟨c2, cs⟩⟩⟩ <;> simp at hl
  have r0 : [c0] = _ := r0
  cases r0
  have r1 : [c1] = _ := r1
  cases r1
  exact ⟨⟨v0, v1⟩, rfl, ⟨k0, k1⟩⟩
def okTLandMemory (x : TLandMemory) : Prop := okI x.From ∧ okI x.To ∧ okTSpan x.Years
theorem opens_TLandMemory {W : World} : Opens Tryz.prog W 60 RTLandMemory okTLandMemory := by
  intro H enc base fuel spare held cs x h
  obtain ⟨hl, n0, y0, h0⟩ := field_of fe60_0 h
  obtain ⟨v0, r0, k0⟩ := (opens_int un3) enc _ _ _ _ _ _ h0
  obtain ⟨hl, n1, y1, h1⟩ := field_of fe60_1 h
  obtain ⟨v1, r1, k1⟩ := (opens_int un3) enc _ _ _ _ _ _ h1
  obtain ⟨hl, n2, y2, h2⟩ := field_of fe60_2 h
  obtain ⟨v2, r2, k2⟩ := opens_TSpan enc _ _ _ _ _ _ h2
  rw [ce60] at hl
  rcases cs with _ | ⟨c0, _ | ⟨c1, _ | ⟨c2, _ | ⟨c3, _ | ⟨c4, cs⟩⟩⟩⟩⟩ <;> simp at hl
  have r0 : [c0] = _ := r0
  cases r0
  have r1 : [c1] = _ := r1
  cases r1
  have r2 : [c2, c3] = _ := r2
  cases r2
  exact ⟨⟨v0, v1, v2⟩, rfl, ⟨k0, k1, k2⟩⟩
def okTLandBook (x : TLandBook) : Prop := (fun xs => ∀ y ∈ xs, okTLandPerson y) x.People ∧ (fun xs => ∀ y ∈ xs, okTLandEvent y) x.Events ∧ (fun xs => ∀ y ∈ xs, okTLandMemory y) x.Memories
theorem opens_TLandBook {W : World} : Opens Tryz.prog W 26 RTLandBook okTLandBook := by
  intro H enc base fuel spare held cs x h
  obtain ⟨hl, n0, y0, h0⟩ := field_of fe26_0 h
  obtain ⟨v0, r0, k0⟩ := (opens_slice un22 ce54 (by decide) opens_TLandPerson) enc _ _ _ _ _ _ h0
  obtain ⟨hl, n1, y1, h1⟩ := field_of fe26_1 h
  obtain ⟨v1, r1, k1⟩ := (opens_slice un23 ce57 (by decide) opens_TLandEvent) enc _ _ _ _ _ _ h1
  obtain ⟨hl, n2, y2, h2⟩ := field_of fe26_2 h
  obtain ⟨v2, r2, k2⟩ := (opens_slice un24 ce60 (by decide) opens_TLandMemory) enc _ _ _ _ _ _ h2
  rw [ce26] at hl
  rcases cs with _ | ⟨c0, _ | ⟨c1, _ | ⟨c2, _ | ⟨c3, cs⟩⟩⟩⟩ <;> simp at hl
  obtain ⟨a0_0, n0_0, c0_0, e0, s0_0⟩ := r0
  have e0 : [c0] = _ := e0
  cases e0
  obtain ⟨a1_0, n1_0, c1_0, e1, s1_0⟩ := r1
  have e1 : [c1] = _ := e1
  cases e1
  obtain ⟨a2_0, n2_0, c2_0, e2, s2_0⟩ := r2
  have e2 : [c2] = _ := e2
  cases e2
  exact ⟨⟨v0, v1, v2⟩, ⟨a0_0, n0_0, c0_0, a1_0, n1_0, c1_0, a2_0, n2_0, c2_0, rfl, s0_0, s1_0, s2_0⟩, ⟨k0, k1, k2⟩⟩
end Go.Proofs.YtcaflmilfhhikaaGreatDoor
