/-
 What is handed to the laws, read as data of Lean's (printed by a program of ours).
-/
import Derived.Test.YtdgkjgljkgjjiaaGreatDoorRd
import Derived.Test.YtdgkjgljkgjjiaaGreatDoorBsC
import Derived.Test.YtdgkjgljkgjjiaaGreatDoorChecked
namespace Go.Proofs.YtdgkjgljkgjjiaaGreatDoor
open Go.RowKit
set_option linter.unusedVariables false
open Go.ChangeShapes Go.WideShapes Go.ChangeAt
theorem own_knob : ownKnob Tryz.prog.godebug = none := by kernel_rfl
theorem laid_out : laidOutB Tryz.prog = true := by kernel_rfl
theorem ce110 : Tryz.prog.cellsOf 110 = 3 := by kernel_rfl
theorem ce189 : Tryz.prog.cellsOf 189 = 6 := by kernel_rfl
theorem ce192 : Tryz.prog.cellsOf 192 = 2 := by kernel_rfl
theorem ce194 : Tryz.prog.cellsOf 194 = 2 := by kernel_rfl
theorem ce197 : Tryz.prog.cellsOf 197 = 4 := by kernel_rfl
theorem ce199 : Tryz.prog.cellsOf 199 = 12 := by kernel_rfl
theorem ce204 : Tryz.prog.cellsOf 204 = 3 := by kernel_rfl
theorem ce23 : Tryz.prog.cellsOf 23 = 2 := by kernel_rfl
theorem ce27 : Tryz.prog.cellsOf 27 = 16 := by kernel_rfl
theorem ce3 : Tryz.prog.cellsOf 3 = 1 := by kernel_rfl
theorem ce32 : Tryz.prog.cellsOf 32 = 3 := by kernel_rfl
theorem ce35 : Tryz.prog.cellsOf 35 = 3 := by kernel_rfl
theorem ce38 : Tryz.prog.cellsOf 38 = 5 := by kernel_rfl
theorem ce4 : Tryz.prog.cellsOf 4 = 1 := by kernel_rfl
theorem ce42 : Tryz.prog.cellsOf 42 = 6 := by kernel_rfl
theorem ce45 : Tryz.prog.cellsOf 45 = 11 := by kernel_rfl
theorem ce47 : Tryz.prog.cellsOf 47 = 5 := by kernel_rfl
theorem ce49 : Tryz.prog.cellsOf 49 = 51 := by kernel_rfl
theorem ce82 : Tryz.prog.cellsOf 82 = 4 := by kernel_rfl
theorem fe110_0 : fieldB Tryz.prog 110 0 = some (39, 0, 1) := by kernel_rfl
theorem fe110_1 : fieldB Tryz.prog 110 1 = some (3, 1, 1) := by kernel_rfl
theorem fe110_2 : fieldB Tryz.prog 110 2 = some (3, 2, 1) := by kernel_rfl
theorem fe189_0 : fieldB Tryz.prog 189 0 = some (23, 0, 2) := by kernel_rfl
theorem fe189_1 : fieldB Tryz.prog 189 1 = some (23, 2, 2) := by kernel_rfl
theorem fe189_2 : fieldB Tryz.prog 189 2 = some (23, 4, 2) := by kernel_rfl
theorem fe192_0 : fieldB Tryz.prog 192 0 = some (3, 0, 1) := by kernel_rfl
theorem fe192_1 : fieldB Tryz.prog 192 1 = some (3, 1, 1) := by kernel_rfl
theorem fe194_0 : fieldB Tryz.prog 194 0 = some (3, 0, 1) := by kernel_rfl
theorem fe194_1 : fieldB Tryz.prog 194 1 = some (3, 1, 1) := by kernel_rfl
theorem fe197_0 : fieldB Tryz.prog 197 0 = some (3, 0, 1) := by kernel_rfl
theorem fe197_1 : fieldB Tryz.prog 197 1 = some (3, 1, 1) := by kernel_rfl
theorem fe197_2 : fieldB Tryz.prog 197 2 = some (23, 2, 2) := by kernel_rfl
theorem fe199_0 : fieldB Tryz.prog 199 0 = some (3, 0, 1) := by kernel_rfl
theorem fe199_1 : fieldB Tryz.prog 199 1 = some (3, 1, 1) := by kernel_rfl
theorem fe199_2 : fieldB Tryz.prog 199 2 = some (23, 2, 2) := by kernel_rfl
theorem fe199_3 : fieldB Tryz.prog 199 3 = some (3, 4, 1) := by kernel_rfl
theorem fe199_4 : fieldB Tryz.prog 199 4 = some (3, 5, 1) := by kernel_rfl
theorem fe199_5 : fieldB Tryz.prog 199 5 = some (23, 6, 2) := by kernel_rfl
theorem fe199_6 : fieldB Tryz.prog 199 6 = some (23, 8, 2) := by kernel_rfl
theorem fe199_7 : fieldB Tryz.prog 199 7 = some (3, 10, 1) := by kernel_rfl
theorem fe199_8 : fieldB Tryz.prog 199 8 = some (3, 11, 1) := by kernel_rfl
theorem fe204_0 : fieldB Tryz.prog 204 0 = some (3, 0, 1) := by kernel_rfl
theorem fe204_1 : fieldB Tryz.prog 204 1 = some (3, 1, 1) := by kernel_rfl
theorem fe204_2 : fieldB Tryz.prog 204 2 = some (4, 2, 1) := by kernel_rfl
theorem fe23_0 : fieldB Tryz.prog 23 0 = some (3, 0, 1) := by kernel_rfl
theorem fe23_1 : fieldB Tryz.prog 23 1 = some (3, 1, 1) := by kernel_rfl
theorem fe27_0 : fieldB Tryz.prog 27 0 = some (3, 0, 1) := by kernel_rfl
theorem fe27_1 : fieldB Tryz.prog 27 1 = some (23, 1, 2) := by kernel_rfl
theorem fe27_10 : fieldB Tryz.prog 27 10 = some (25, 13, 1) := by kernel_rfl
theorem fe27_11 : fieldB Tryz.prog 27 11 = some (3, 14, 1) := by kernel_rfl
theorem fe27_12 : fieldB Tryz.prog 27 12 = some (3, 15, 1) := by kernel_rfl
theorem fe27_2 : fieldB Tryz.prog 27 2 = some (3, 3, 1) := by kernel_rfl
theorem fe27_3 : fieldB Tryz.prog 27 3 = some (3, 4, 1) := by kernel_rfl
theorem fe27_4 : fieldB Tryz.prog 27 4 = some (23, 5, 2) := by kernel_rfl
theorem fe27_5 : fieldB Tryz.prog 27 5 = some (23, 7, 2) := by kernel_rfl
theorem fe27_6 : fieldB Tryz.prog 27 6 = some (3, 9, 1) := by kernel_rfl
theorem fe27_7 : fieldB Tryz.prog 27 7 = some (3, 10, 1) := by kernel_rfl
theorem fe27_8 : fieldB Tryz.prog 27 8 = some (3, 11, 1) := by kernel_rfl
theorem fe27_9 : fieldB Tryz.prog 27 9 = some (24, 12, 1) := by kernel_rfl
theorem fe32_0 : fieldB Tryz.prog 32 0 = some (28, 0, 1) := by kernel_rfl
theorem fe32_1 : fieldB Tryz.prog 32 1 = some (29, 1, 1) := by kernel_rfl
theorem fe32_2 : fieldB Tryz.prog 32 2 = some (30, 2, 1) := by kernel_rfl
theorem fe35_0 : fieldB Tryz.prog 35 0 = some (33, 0, 1) := by kernel_rfl
theorem fe35_1 : fieldB Tryz.prog 35 1 = some (3, 1, 1) := by kernel_rfl
theorem fe35_2 : fieldB Tryz.prog 35 2 = some (3, 2, 1) := by kernel_rfl
theorem fe38_0 : fieldB Tryz.prog 38 0 = some (3, 0, 1) := by kernel_rfl
theorem fe38_1 : fieldB Tryz.prog 38 1 = some (24, 1, 1) := by kernel_rfl
theorem fe38_2 : fieldB Tryz.prog 38 2 = some (24, 2, 1) := by kernel_rfl
theorem fe38_3 : fieldB Tryz.prog 38 3 = some (36, 3, 1) := by kernel_rfl
theorem fe38_4 : fieldB Tryz.prog 38 4 = some (3, 4, 1) := by kernel_rfl
theorem fe42_0 : fieldB Tryz.prog 42 0 = some (24, 0, 1) := by kernel_rfl
theorem fe42_1 : fieldB Tryz.prog 42 1 = some (39, 1, 1) := by kernel_rfl
theorem fe42_2 : fieldB Tryz.prog 42 2 = some (23, 2, 2) := by kernel_rfl
theorem fe42_3 : fieldB Tryz.prog 42 3 = some (40, 4, 1) := by kernel_rfl
theorem fe42_4 : fieldB Tryz.prog 42 4 = some (3, 5, 1) := by kernel_rfl
theorem fe45_0 : fieldB Tryz.prog 45 0 = some (3, 0, 1) := by kernel_rfl
theorem fe45_1 : fieldB Tryz.prog 45 1 = some (3, 1, 1) := by kernel_rfl
theorem fe45_10 : fieldB Tryz.prog 45 10 = some (3, 10, 1) := by kernel_rfl
theorem fe45_2 : fieldB Tryz.prog 45 2 = some (3, 2, 1) := by kernel_rfl
theorem fe45_3 : fieldB Tryz.prog 45 3 = some (3, 3, 1) := by kernel_rfl
theorem fe45_4 : fieldB Tryz.prog 45 4 = some (3, 4, 1) := by kernel_rfl
theorem fe45_5 : fieldB Tryz.prog 45 5 = some (43, 5, 1) := by kernel_rfl
theorem fe45_6 : fieldB Tryz.prog 45 6 = some (3, 6, 1) := by kernel_rfl
theorem fe45_7 : fieldB Tryz.prog 45 7 = some (3, 7, 1) := by kernel_rfl
theorem fe45_8 : fieldB Tryz.prog 45 8 = some (3, 8, 1) := by kernel_rfl
theorem fe45_9 : fieldB Tryz.prog 45 9 = some (3, 9, 1) := by kernel_rfl
theorem fe47_0 : fieldB Tryz.prog 47 0 = some (3, 0, 1) := by kernel_rfl
theorem fe47_1 : fieldB Tryz.prog 47 1 = some (24, 1, 1) := by kernel_rfl
theorem fe47_2 : fieldB Tryz.prog 47 2 = some (24, 2, 1) := by kernel_rfl
theorem fe47_3 : fieldB Tryz.prog 47 3 = some (24, 3, 1) := by kernel_rfl
theorem fe47_4 : fieldB Tryz.prog 47 4 = some (3, 4, 1) := by kernel_rfl
theorem fe49_0 : fieldB Tryz.prog 49 0 = some (27, 0, 16) := by kernel_rfl
theorem fe49_1 : fieldB Tryz.prog 49 1 = some (3, 16, 1) := by kernel_rfl
theorem fe49_2 : fieldB Tryz.prog 49 2 = some (32, 17, 3) := by kernel_rfl
theorem fe49_3 : fieldB Tryz.prog 49 3 = some (35, 20, 3) := by kernel_rfl
theorem fe49_4 : fieldB Tryz.prog 49 4 = some (38, 23, 5) := by kernel_rfl
theorem fe49_5 : fieldB Tryz.prog 49 5 = some (42, 28, 6) := by kernel_rfl
theorem fe49_6 : fieldB Tryz.prog 49 6 = some (45, 34, 11) := by kernel_rfl
theorem fe49_7 : fieldB Tryz.prog 49 7 = some (47, 45, 5) := by kernel_rfl
theorem fe49_8 : fieldB Tryz.prog 49 8 = some (3, 50, 1) := by kernel_rfl
theorem fe82_0 : fieldB Tryz.prog 82 0 = some (3, 0, 1) := by kernel_rfl
theorem fe82_1 : fieldB Tryz.prog 82 1 = some (3, 1, 1) := by kernel_rfl
theorem fe82_2 : fieldB Tryz.prog 82 2 = some (3, 2, 1) := by kernel_rfl
theorem fe82_3 : fieldB Tryz.prog 82 3 = some (3, 3, 1) := by kernel_rfl
theorem uf49 : Tryz.prog.underlying 49 = some (.struct (Tryz.prog.fieldsOf 49)) := by kernel_rfl
theorem un24 : Tryz.prog.underlying 24 = some (.slice 3) := by kernel_rfl
theorem un25 : Tryz.prog.underlying 25 = some (.slice 189) := by kernel_rfl
theorem un28 : Tryz.prog.underlying 28 = some (.slice 192) := by kernel_rfl
theorem un29 : Tryz.prog.underlying 29 = some (.slice 194) := by kernel_rfl
theorem un3 : Tryz.prog.underlying 3 = some (.int .i64) := by kernel_rfl
theorem un30 : Tryz.prog.underlying 30 = some (.slice 197) := by kernel_rfl
theorem un33 : Tryz.prog.underlying 33 = some (.slice 199) := by kernel_rfl
theorem un36 : Tryz.prog.underlying 36 = some (.slice 82) := by kernel_rfl
theorem un39 : Tryz.prog.underlying 39 = some (.slice 23) := by kernel_rfl
theorem un4 : Tryz.prog.underlying 4 = some .bool := by kernel_rfl
theorem un40 : Tryz.prog.underlying 40 = some (.slice 110) := by kernel_rfl
theorem un43 : Tryz.prog.underlying 43 = some (.slice 204) := by kernel_rfl
theorem un4b : Tryz.prog.underlying 4 = some .bool := by kernel_rfl
theorem un50 : Tryz.prog.underlying 50 = some (.slice 4) := by kernel_rfl
def okTSpan (x : TSpan) : Prop := okI x.Low ∧ okI x.High
theorem opens_TSpan {W : World} : Opens Tryz.prog W 23 RTSpan okTSpan := by
 intro H enc base fuel spare held cs x h
 obtain ⟨hl, n0, y0, h0⟩ := field_of fe23_0 h
 obtain ⟨v0, r0, k0⟩ := (opens_int un3) enc _ _ _ _ _ _ h0
 obtain ⟨hl, n1, y1, h1⟩ := field_of fe23_1 h
 obtain ⟨v1, r1, k1⟩ := (opens_int un3) enc _ _ _ _ _ _ h1
 rw [ce23] at hl
 rcases cs with _ | ⟨c0, _ | ⟨c1, _ | ⟨c2, cs⟩⟩⟩ <;> simp at hl
 have r0 : [c0] = _ := r0
 cases r0
 have r1 : [c1] = _ := r1
 cases r1
 exact ⟨⟨v0, v1⟩, rfl, ⟨k0, k1⟩⟩
def okTLensMonth (x : TLensMonth) : Prop := okTSpan x.Wet ∧ okTSpan x.Dry ∧ okTSpan x.Need
theorem opens_TLensMonth {W : World} : Opens Tryz.prog W 189 RTLensMonth okTLensMonth := by
 intro H enc base fuel spare held cs x h
 obtain ⟨hl, n0, y0, h0⟩ := field_of fe189_0 h
 obtain ⟨v0, r0, k0⟩ := opens_TSpan enc _ _ _ _ _ _ h0
 obtain ⟨hl, n1, y1, h1⟩ := field_of fe189_1 h
 obtain ⟨v1, r1, k1⟩ := opens_TSpan enc _ _ _ _ _ _ h1
 obtain ⟨hl, n2, y2, h2⟩ := field_of fe189_2 h
 obtain ⟨v2, r2, k2⟩ := opens_TSpan enc _ _ _ _ _ _ h2
 rw [ce189] at hl
 rcases cs with _ | ⟨c0, _ | ⟨c1, _ | ⟨c2, _ | ⟨c3, _ | ⟨c4, _ | ⟨c5, _ | ⟨c6, cs⟩⟩⟩⟩⟩⟩⟩ <;> simp at hl
 have r0 : [c0, c1] = _ := r0
 cases r0
 have r1 : [c2, c3] = _ := r1
 cases r1
 have r2 : [c4, c5] = _ := r2
 cases r2
 exact ⟨⟨v0, v1, v2⟩, rfl, ⟨k0, k1, k2⟩⟩
def okTLensIslet (x : TLensIslet) : Prop := okI x.Cap ∧ okTSpan x.Start ∧ okI x.Roof ∧ okI x.Sand ∧ okTSpan x.Soak ∧ okTSpan x.Leak ∧ okI x.Pump ∧ okI x.Keep ∧ okI x.Size ∧ (fun xs => ∀ y ∈ xs, okI y) x.Wells ∧ (fun xs => ∀ y ∈ xs, okTLensMonth y) x.Months ∧ okI x.Most ∧ okI x.Row
theorem opens_TLensIslet {W : World} : Opens Tryz.prog W 27 RTLensIslet okTLensIslet := by
 intro H enc base fuel spare held cs x h
 obtain ⟨hl, n0, y0, h0⟩ := field_of fe27_0 h
 obtain ⟨v0, r0, k0⟩ := (opens_int un3) enc _ _ _ _ _ _ h0
 obtain ⟨hl, n1, y1, h1⟩ := field_of fe27_1 h
 obtain ⟨v1, r1, k1⟩ := opens_TSpan enc _ _ _ _ _ _ h1
 obtain ⟨hl, n2, y2, h2⟩ := field_of fe27_2 h
 obtain ⟨v2, r2, k2⟩ := (opens_int un3) enc _ _ _ _ _ _ h2
 obtain ⟨hl, n3, y3, h3⟩ := field_of fe27_3 h
 obtain ⟨v3, r3, k3⟩ := (opens_int un3) enc _ _ _ _ _ _ h3
 obtain ⟨hl, n4, y4, h4⟩ := field_of fe27_4 h
 obtain ⟨v4, r4, k4⟩ := opens_TSpan enc _ _ _ _ _ _ h4
 obtain ⟨hl, n5, y5, h5⟩ := field_of fe27_5 h
 obtain ⟨v5, r5, k5⟩ := opens_TSpan enc _ _ _ _ _ _ h5
 obtain ⟨hl, n6, y6, h6⟩ := field_of fe27_6 h
 obtain ⟨v6, r6, k6⟩ := (opens_int un3) enc _ _ _ _ _ _ h6
 obtain ⟨hl, n7, y7, h7⟩ := field_of fe27_7 h
 obtain ⟨v7, r7, k7⟩ := (opens_int un3) enc _ _ _ _ _ _ h7
 obtain ⟨hl, n8, y8, h8⟩ := field_of fe27_8 h
 obtain ⟨v8, r8, k8⟩ := (opens_int un3) enc _ _ _ _ _ _ h8
 obtain ⟨hl, n9, y9, h9⟩ := field_of fe27_9 h
 obtain ⟨v9, r9, k9⟩ := (opens_slice un24 ce3 (by decide) (opens_int un3)) enc _ _ _ _ _ _ h9
 obtain ⟨hl, n10, y10, h10⟩ := field_of fe27_10 h
 obtain ⟨v10, r10, k10⟩ := (opens_slice un25 ce189 (by decide) opens_TLensMonth) enc _ _ _ _ _ _ h10
 obtain ⟨hl, n11, y11, h11⟩ := field_of fe27_11 h
 obtain ⟨v11, r11, k11⟩ := (opens_int un3) enc _ _ _ _ _ _ h11
 obtain ⟨hl, n12, y12, h12⟩ := field_of fe27_12 h
 obtain ⟨v12, r12, k12⟩ := (opens_int un3) enc _ _ _ _ _ _ h12
 rw [ce27] at hl
 rcases cs with _ | ⟨c0, _ | ⟨c1, _ | ⟨c2, _ | ⟨c3, _ | ⟨c4, _ | ⟨c5, _ | ⟨c6, _ | ⟨c7, _ | ⟨c8, _ | ⟨c9, _ | ⟨c10, _ | ⟨c11, _ | ⟨c12, _ | ⟨c13, _ | ⟨c14, _ | ⟨c15, _ | ⟨c16, cs⟩⟩⟩⟩⟩⟩⟩⟩⟩⟩⟩⟩⟩⟩⟩⟩⟩ <;> simp at hl
 have r0 : [c0] = _ := r0
 cases r0
 have r1 : [c1, c2] = _ := r1
 cases r1
 have r2 : [c3] = _ := r2
 cases r2
 have r3 : [c4] = _ := r3
 cases r3
 have r4 : [c5, c6] = _ := r4
 cases r4
 have r5 : [c7, c8] = _ := r5
 cases r5
 have r6 : [c9] = _ := r6
 cases r6
 have r7 : [c10] = _ := r7
 cases r7
 have r8 : [c11] = _ := r8
 cases r8
 obtain ⟨a9_0, n9_0, c9_0, e9, s9_0⟩ := r9
 have e9 : [c12] = _ := e9
 cases e9
 obtain ⟨a10_0, n10_0, c10_0, e10, s10_0⟩ := r10
 have e10 : [c13] = _ := e10
 cases e10
 have r11 : [c14] = _ := r11
 cases r11
 have r12 : [c15] = _ := r12
 cases r12
 exact ⟨⟨v0, v1, v2, v3, v4, v5, v6, v7, v8, v9, v10, v11, v12⟩, ⟨a9_0, n9_0, c9_0, a10_0, n10_0, c10_0, rfl, s9_0, s10_0⟩, ⟨k0, k1, k2, k3, k4, k5, k6, k7, k8, k9, k10, k11, k12⟩⟩
def okTLandPerson (x : TLandPerson) : Prop := okI x.Mother ∧ okI x.Adopted
theorem opens_TLandPerson {W : World} : Opens Tryz.prog W 192 RTLandPerson okTLandPerson := by
 intro H enc base fuel spare held cs x h
 obtain ⟨hl, n0, y0, h0⟩ := field_of fe192_0 h
 obtain ⟨v0, r0, k0⟩ := (opens_int un3) enc _ _ _ _ _ _ h0
 obtain ⟨hl, n1, y1, h1⟩ := field_of fe192_1 h
 obtain ⟨v1, r1, k1⟩ := (opens_int un3) enc _ _ _ _ _ _ h1
 rw [ce192] at hl
 rcases cs with _ | ⟨c0, _ | ⟨c1, _ | ⟨c2, cs⟩⟩⟩ <;> simp at hl
 have r0 : [c0] = _ := r0
 cases r0
 have r1 : [c1] = _ := r1
 cases r1
 exact ⟨⟨v0, v1⟩, rfl, ⟨k0, k1⟩⟩
def okTLandEvent (x : TLandEvent) : Prop := okI x.Strip ∧ okI x.Holder
theorem opens_TLandEvent {W : World} : Opens Tryz.prog W 194 RTLandEvent okTLandEvent := by
 intro H enc base fuel spare held cs x h
 obtain ⟨hl, n0, y0, h0⟩ := field_of fe194_0 h
 obtain ⟨v0, r0, k0⟩ := (opens_int un3) enc _ _ _ _ _ _ h0
 obtain ⟨hl, n1, y1, h1⟩ := field_of fe194_1 h
 obtain ⟨v1, r1, k1⟩ := (opens_int un3) enc _ _ _ _ _ _ h1
 rw [ce194] at hl
 rcases cs with _ | ⟨c0, _ | ⟨c1, _ | ⟨c2, cs⟩⟩⟩ <;> simp at hl
 have r0 : [c0] = _ := r0
 cases r0
 have r1 : [c1] = _ := r1
 cases r1
 exact ⟨⟨v0, v1⟩, rfl, ⟨k0, k1⟩⟩
def okTLandMemory (x : TLandMemory) : Prop := okI x.From ∧ okI x.To ∧ okTSpan x.Years
theorem opens_TLandMemory {W : World} : Opens Tryz.prog W 197 RTLandMemory okTLandMemory := by
 intro H enc base fuel spare held cs x h
 obtain ⟨hl, n0, y0, h0⟩ := field_of fe197_0 h
 obtain ⟨v0, r0, k0⟩ := (opens_int un3) enc _ _ _ _ _ _ h0
 obtain ⟨hl, n1, y1, h1⟩ := field_of fe197_1 h
 obtain ⟨v1, r1, k1⟩ := (opens_int un3) enc _ _ _ _ _ _ h1
 obtain ⟨hl, n2, y2, h2⟩ := field_of fe197_2 h
 obtain ⟨v2, r2, k2⟩ := opens_TSpan enc _ _ _ _ _ _ h2
 rw [ce197] at hl
 rcases cs with _ | ⟨c0, _ | ⟨c1, _ | ⟨c2, _ | ⟨c3, _ | ⟨c4, cs⟩⟩⟩⟩⟩ <;> simp at hl
 have r0 : [c0] = _ := r0
 cases r0
 have r1 : [c1] = _ := r1
 cases r1
 have r2 : [c2, c3] = _ := r2
 cases r2
 exact ⟨⟨v0, v1, v2⟩, rfl, ⟨k0, k1, k2⟩⟩
def okTLandBook (x : TLandBook) : Prop := (fun xs => ∀ y ∈ xs, okTLandPerson y) x.People ∧ (fun xs => ∀ y ∈ xs, okTLandEvent y) x.Events ∧ (fun xs => ∀ y ∈ xs, okTLandMemory y) x.Memories
theorem opens_TLandBook {W : World} : Opens Tryz.prog W 32 RTLandBook okTLandBook := by
 intro H enc base fuel spare held cs x h
 obtain ⟨hl, n0, y0, h0⟩ := field_of fe32_0 h
 obtain ⟨v0, r0, k0⟩ := (opens_slice un28 ce192 (by decide) opens_TLandPerson) enc _ _ _ _ _ _ h0
 obtain ⟨hl, n1, y1, h1⟩ := field_of fe32_1 h
 obtain ⟨v1, r1, k1⟩ := (opens_slice un29 ce194 (by decide) opens_TLandEvent) enc _ _ _ _ _ _ h1
 obtain ⟨hl, n2, y2, h2⟩ := field_of fe32_2 h
 obtain ⟨v2, r2, k2⟩ := (opens_slice un30 ce197 (by decide) opens_TLandMemory) enc _ _ _ _ _ _ h2
 rw [ce32] at hl
 rcases cs with _ | ⟨c0, _ | ⟨c1, _ | ⟨c2, _ | ⟨c3, cs⟩⟩⟩⟩ <;> simp at hl
 obtain ⟨a0_0, n0_0, c0_0, e0, s0_0⟩ := r0
 have e0 : [c0] = _ := e0
 cases e0
 obtain ⟨a1_0, n1_0, c1_0, e1, s1_0⟩ := r1
 have e1 : [c1] = _ := e1
 cases e1
 obtain ⟨a2_0, n2_0, c2_0, e2, s2_0⟩ := r2
 have e2 : [c2] = _ := e2
 cases e2
 exact ⟨⟨v0, v1, v2⟩, ⟨a0_0, n0_0, c0_0, a1_0, n1_0, c1_0, a2_0, n2_0, c2_0, rfl, s0_0, s1_0, s2_0⟩, ⟨k0, k1, k2⟩⟩
def okTReefPlace (x : TReefPlace) : Prop := okI x.Count ∧ okI x.Room ∧ okTSpan x.Grow ∧ okI x.Drift ∧ okI x.Into ∧ okTSpan x.Open ∧ okTSpan x.Shut ∧ okI x.Goal ∧ okI x.Worth
theorem opens_TReefPlace {W : World} : Opens Tryz.prog W 199 RTReefPlace okTReefPlace := by
 intro H enc base fuel spare held cs x h
 obtain ⟨hl, n0, y0, h0⟩ := field_of fe199_0 h
 obtain ⟨v0, r0, k0⟩ := (opens_int un3) enc _ _ _ _ _ _ h0
 obtain ⟨hl, n1, y1, h1⟩ := field_of fe199_1 h
 obtain ⟨v1, r1, k1⟩ := (opens_int un3) enc _ _ _ _ _ _ h1
 obtain ⟨hl, n2, y2, h2⟩ := field_of fe199_2 h
 obtain ⟨v2, r2, k2⟩ := opens_TSpan enc _ _ _ _ _ _ h2
 obtain ⟨hl, n3, y3, h3⟩ := field_of fe199_3 h
 obtain ⟨v3, r3, k3⟩ := (opens_int un3) enc _ _ _ _ _ _ h3
 obtain ⟨hl, n4, y4, h4⟩ := field_of fe199_4 h
 obtain ⟨v4, r4, k4⟩ := (opens_int un3) enc _ _ _ _ _ _ h4
 obtain ⟨hl, n5, y5, h5⟩ := field_of fe199_5 h
 obtain ⟨v5, r5, k5⟩ := opens_TSpan enc _ _ _ _ _ _ h5
 obtain ⟨hl, n6, y6, h6⟩ := field_of fe199_6 h
 obtain ⟨v6, r6, k6⟩ := opens_TSpan enc _ _ _ _ _ _ h6
 obtain ⟨hl, n7, y7, h7⟩ := field_of fe199_7 h
 obtain ⟨v7, r7, k7⟩ := (opens_int un3) enc _ _ _ _ _ _ h7
 obtain ⟨hl, n8, y8, h8⟩ := field_of fe199_8 h
 obtain ⟨v8, r8, k8⟩ := (opens_int un3) enc _ _ _ _ _ _ h8
 rw [ce199] at hl
 rcases cs with _ | ⟨c0, _ | ⟨c1, _ | ⟨c2, _ | ⟨c3, _ | ⟨c4, _ | ⟨c5, _ | ⟨c6, _ | ⟨c7, _ | ⟨c8, _ | ⟨c9, _ | ⟨c10, _ | ⟨c11, _ | ⟨c12, cs⟩⟩⟩⟩⟩⟩⟩⟩⟩⟩⟩⟩⟩ <;> simp at hl
 have r0 : [c0] = _ := r0
 cases r0
 have r1 : [c1] = _ := r1
 cases r1
 have r2 : [c2, c3] = _ := r2
 cases r2
 have r3 : [c4] = _ := r3
 cases r3
 have r4 : [c5] = _ := r4
 cases r4
 have r5 : [c6, c7] = _ := r5
 cases r5
 have r6 : [c8, c9] = _ := r6
 cases r6
 have r7 : [c10] = _ := r7
 cases r7
 have r8 : [c11] = _ := r8
 cases r8
 exact ⟨⟨v0, v1, v2, v3, v4, v5, v6, v7, v8⟩, rfl, ⟨k0, k1, k2, k3, k4, k5, k6, k7, k8⟩⟩
def okTReef (x : TReef) : Prop := (fun xs => ∀ y ∈ xs, okTReefPlace y) x.Places ∧ okI x.Miss ∧ okI x.Seasons
theorem opens_TReef {W : World} : Opens Tryz.prog W 35 RTReef okTReef := by
 intro H enc base fuel spare held cs x h
 obtain ⟨hl, n0, y0, h0⟩ := field_of fe35_0 h
 obtain ⟨v0, r0, k0⟩ := (opens_slice un33 ce199 (by decide) opens_TReefPlace) enc _ _ _ _ _ _ h0
 obtain ⟨hl, n1, y1, h1⟩ := field_of fe35_1 h
 obtain ⟨v1, r1, k1⟩ := (opens_int un3) enc _ _ _ _ _ _ h1
 obtain ⟨hl, n2, y2, h2⟩ := field_of fe35_2 h
 obtain ⟨v2, r2, k2⟩ := (opens_int un3) enc _ _ _ _ _ _ h2
 rw [ce35] at hl
 rcases cs with _ | ⟨c0, _ | ⟨c1, _ | ⟨c2, _ | ⟨c3, cs⟩⟩⟩⟩ <;> simp at hl
 obtain ⟨a0_0, n0_0, c0_0, e0, s0_0⟩ := r0
 have e0 : [c0] = _ := e0
 cases e0
 have r1 : [c1] = _ := r1
 cases r1
 have r2 : [c2] = _ := r2
 cases r2
 exact ⟨⟨v0, v1, v2⟩, ⟨a0_0, n0_0, c0_0, rfl, s0_0⟩, ⟨k0, k1, k2⟩⟩
def okTBaneTrip (x : TBaneTrip) : Prop := okI x.Day ∧ okI x.From ∧ okI x.To ∧ okI x.Cost
theorem opens_TBaneTrip {W : World} : Opens Tryz.prog W 82 RTBaneTrip okTBaneTrip := by
 intro H enc base fuel spare held cs x h
 obtain ⟨hl, n0, y0, h0⟩ := field_of fe82_0 h
 obtain ⟨v0, r0, k0⟩ := (opens_int un3) enc _ _ _ _ _ _ h0
 obtain ⟨hl, n1, y1, h1⟩ := field_of fe82_1 h
 obtain ⟨v1, r1, k1⟩ := (opens_int un3) enc _ _ _ _ _ _ h1
 obtain ⟨hl, n2, y2, h2⟩ := field_of fe82_2 h
 obtain ⟨v2, r2, k2⟩ := (opens_int un3) enc _ _ _ _ _ _ h2
 obtain ⟨hl, n3, y3, h3⟩ := field_of fe82_3 h
 obtain ⟨v3, r3, k3⟩ := (opens_int un3) enc _ _ _ _ _ _ h3
 rw [ce82] at hl
 rcases cs with _ | ⟨c0, _ | ⟨c1, _ | ⟨c2, _ | ⟨c3, _ | ⟨c4, cs⟩⟩⟩⟩⟩ <;> simp at hl
 have r0 : [c0] = _ := r0
 cases r0
 have r1 : [c1] = _ := r1
 cases r1
 have r2 : [c2] = _ := r2
 cases r2
 have r3 : [c3] = _ := r3
 cases r3
 exact ⟨⟨v0, v1, v2, v3⟩, rfl, ⟨k0, k1, k2, k3⟩⟩
def okTBaneSea (x : TBaneSea) : Prop := okI x.Islets ∧ (fun xs => ∀ y ∈ xs, okI y) x.Infested ∧ (fun xs => ∀ y ∈ xs, okI y) x.Clean ∧ (fun xs => ∀ y ∈ xs, okTBaneTrip y) x.Trips ∧ okI x.Wait
theorem opens_TBaneSea {W : World} : Opens Tryz.prog W 38 RTBaneSea okTBaneSea := by
 intro H enc base fuel spare held cs x h
 obtain ⟨hl, n0, y0, h0⟩ := field_of fe38_0 h
 obtain ⟨v0, r0, k0⟩ := (opens_int un3) enc _ _ _ _ _ _ h0
 obtain ⟨hl, n1, y1, h1⟩ := field_of fe38_1 h
 obtain ⟨v1, r1, k1⟩ := (opens_slice un24 ce3 (by decide) (opens_int un3)) enc _ _ _ _ _ _ h1
 obtain ⟨hl, n2, y2, h2⟩ := field_of fe38_2 h
 obtain ⟨v2, r2, k2⟩ := (opens_slice un24 ce3 (by decide) (opens_int un3)) enc _ _ _ _ _ _ h2
 obtain ⟨hl, n3, y3, h3⟩ := field_of fe38_3 h
 obtain ⟨v3, r3, k3⟩ := (opens_slice un36 ce82 (by decide) opens_TBaneTrip) enc _ _ _ _ _ _ h3
 obtain ⟨hl, n4, y4, h4⟩ := field_of fe38_4 h
 obtain ⟨v4, r4, k4⟩ := (opens_int un3) enc _ _ _ _ _ _ h4
 rw [ce38] at hl
 rcases cs with _ | ⟨c0, _ | ⟨c1, _ | ⟨c2, _ | ⟨c3, _ | ⟨c4, _ | ⟨c5, cs⟩⟩⟩⟩⟩⟩ <;> simp at hl
 have r0 : [c0] = _ := r0
 cases r0
 obtain ⟨a1_0, n1_0, c1_0, e1, s1_0⟩ := r1
 have e1 : [c1] = _ := e1
 cases e1
 obtain ⟨a2_0, n2_0, c2_0, e2, s2_0⟩ := r2
 have e2 : [c2] = _ := e2
 cases e2
 obtain ⟨a3_0, n3_0, c3_0, e3, s3_0⟩ := r3
 have e3 : [c3] = _ := e3
 cases e3
 have r4 : [c4] = _ := r4
 cases r4
 exact ⟨⟨v0, v1, v2, v3, v4⟩, ⟨a1_0, n1_0, c1_0, a2_0, n2_0, c2_0, a3_0, n3_0, c3_0, rfl, s1_0, s2_0, s3_0⟩, ⟨k0, k1, k2, k3, k4⟩⟩
def okTShipLot (x : TShipLot) : Prop := (fun xs => ∀ y ∈ xs, okTSpan y) x.Goods ∧ okI x.Weight ∧ okI x.Cost
theorem opens_TShipLot {W : World} : Opens Tryz.prog W 110 RTShipLot okTShipLot := by
 intro H enc base fuel spare held cs x h
 obtain ⟨hl, n0, y0, h0⟩ := field_of fe110_0 h
 obtain ⟨v0, r0, k0⟩ := (opens_slice un39 ce23 (by decide) opens_TSpan) enc _ _ _ _ _ _ h0
 obtain ⟨hl, n1, y1, h1⟩ := field_of fe110_1 h
 obtain ⟨v1, r1, k1⟩ := (opens_int un3) enc _ _ _ _ _ _ h1
 obtain ⟨hl, n2, y2, h2⟩ := field_of fe110_2 h
 obtain ⟨v2, r2, k2⟩ := (opens_int un3) enc _ _ _ _ _ _ h2
 rw [ce110] at hl
 rcases cs with _ | ⟨c0, _ | ⟨c1, _ | ⟨c2, _ | ⟨c3, cs⟩⟩⟩⟩ <;> simp at hl
 obtain ⟨a0_0, n0_0, c0_0, e0, s0_0⟩ := r0
 have e0 : [c0] = _ := e0
 cases e0
 have r1 : [c1] = _ := r1
 cases r1
 have r2 : [c2] = _ := r2
 cases r2
 exact ⟨⟨v0, v1, v2⟩, ⟨a0_0, n0_0, c0_0, rfl, s0_0⟩, ⟨k0, k1, k2⟩⟩
def okTShipStore (x : TShipStore) : Prop := (fun xs => ∀ y ∈ xs, okI y) x.Stock ∧ (fun xs => ∀ y ∈ xs, okTSpan y) x.Use ∧ okTSpan x.Gap ∧ (fun xs => ∀ y ∈ xs, okTShipLot y) x.Lots ∧ okI x.Hold
theorem opens_TShipStore {W : World} : Opens Tryz.prog W 42 RTShipStore okTShipStore := by
 intro H enc base fuel spare held cs x h
 obtain ⟨hl, n0, y0, h0⟩ := field_of fe42_0 h
 obtain ⟨v0, r0, k0⟩ := (opens_slice un24 ce3 (by decide) (opens_int un3)) enc _ _ _ _ _ _ h0
 obtain ⟨hl, n1, y1, h1⟩ := field_of fe42_1 h
 obtain ⟨v1, r1, k1⟩ := (opens_slice un39 ce23 (by decide) opens_TSpan) enc _ _ _ _ _ _ h1
 obtain ⟨hl, n2, y2, h2⟩ := field_of fe42_2 h
 obtain ⟨v2, r2, k2⟩ := opens_TSpan enc _ _ _ _ _ _ h2
 obtain ⟨hl, n3, y3, h3⟩ := field_of fe42_3 h
 obtain ⟨v3, r3, k3⟩ := (opens_slice un40 ce110 (by decide) opens_TShipLot) enc _ _ _ _ _ _ h3
 obtain ⟨hl, n4, y4, h4⟩ := field_of fe42_4 h
 obtain ⟨v4, r4, k4⟩ := (opens_int un3) enc _ _ _ _ _ _ h4
 rw [ce42] at hl
 rcases cs with _ | ⟨c0, _ | ⟨c1, _ | ⟨c2, _ | ⟨c3, _ | ⟨c4, _ | ⟨c5, _ | ⟨c6, cs⟩⟩⟩⟩⟩⟩⟩ <;> simp at hl
 obtain ⟨a0_0, n0_0, c0_0, e0, s0_0⟩ := r0
 have e0 : [c0] = _ := e0
 cases e0
 obtain ⟨a1_0, n1_0, c1_0, e1, s1_0⟩ := r1
 have e1 : [c1] = _ := e1
 cases e1
 have r2 : [c2, c3] = _ := r2
 cases r2
 obtain ⟨a3_0, n3_0, c3_0, e3, s3_0⟩ := r3
 have e3 : [c4] = _ := e3
 cases e3
 have r4 : [c5] = _ := r4
 cases r4
 exact ⟨⟨v0, v1, v2, v3, v4⟩, ⟨a0_0, n0_0, c0_0, a1_0, n1_0, c1_0, a3_0, n3_0, c3_0, rfl, s0_0, s1_0, s3_0⟩, ⟨k0, k1, k2, k3, k4⟩⟩
def okTCellLoad (x : TCellLoad) : Prop := okI x.Need ∧ okI x.Keep ∧ (fun _ => True) x.Must
theorem opens_TCellLoad {W : World} : Opens Tryz.prog W 204 RTCellLoad okTCellLoad := by
 intro H enc base fuel spare held cs x h
 obtain ⟨hl, n0, y0, h0⟩ := field_of fe204_0 h
 obtain ⟨v0, r0, k0⟩ := (opens_int un3) enc _ _ _ _ _ _ h0
 obtain ⟨hl, n1, y1, h1⟩ := field_of fe204_1 h
 obtain ⟨v1, r1, k1⟩ := (opens_int un3) enc _ _ _ _ _ _ h1
 obtain ⟨hl, n2, y2, h2⟩ := field_of fe204_2 h
 obtain ⟨v2, r2, k2⟩ := (opens_bool un4) enc _ _ _ _ _ _ h2
 rw [ce204] at hl
 rcases cs with _ | ⟨c0, _ | ⟨c1, _ | ⟨c2, _ | ⟨c3, cs⟩⟩⟩⟩ <;> simp at hl
 have r0 : [c0] = _ := r0
 cases r0
 have r1 : [c1] = _ := r1
 cases r1
 have r2 : [c2] = _ := r2
 cases r2
 exact ⟨⟨v0, v1, v2⟩, rfl, ⟨k0, k1, k2⟩⟩
def okTCellSystem (x : TCellSystem) : Prop := okI x.Sunny ∧ okI x.Cloudy ∧ okI x.Size ∧ okI x.Fade ∧ okI x.Start ∧ (fun xs => ∀ y ∈ xs, okTCellLoad y) x.Loads ∧ okI x.Days ∧ okI x.Window ∧ okI x.Most ∧ okI x.Panel ∧ okI x.Battery
theorem opens_TCellSystem {W : World} : Opens Tryz.prog W 45 RTCellSystem okTCellSystem := by
 intro H enc base fuel spare held cs x h
 obtain ⟨hl, n0, y0, h0⟩ := field_of fe45_0 h
 obtain ⟨v0, r0, k0⟩ := (opens_int un3) enc _ _ _ _ _ _ h0
 obtain ⟨hl, n1, y1, h1⟩ := field_of fe45_1 h
 obtain ⟨v1, r1, k1⟩ := (opens_int un3) enc _ _ _ _ _ _ h1
 obtain ⟨hl, n2, y2, h2⟩ := field_of fe45_2 h
 obtain ⟨v2, r2, k2⟩ := (opens_int un3) enc _ _ _ _ _ _ h2
 obtain ⟨hl, n3, y3, h3⟩ := field_of fe45_3 h
 obtain ⟨v3, r3, k3⟩ := (opens_int un3) enc _ _ _ _ _ _ h3
 obtain ⟨hl, n4, y4, h4⟩ := field_of fe45_4 h
 obtain ⟨v4, r4, k4⟩ := (opens_int un3) enc _ _ _ _ _ _ h4
 obtain ⟨hl, n5, y5, h5⟩ := field_of fe45_5 h
 obtain ⟨v5, r5, k5⟩ := (opens_slice un43 ce204 (by decide) opens_TCellLoad) enc _ _ _ _ _ _ h5
 obtain ⟨hl, n6, y6, h6⟩ := field_of fe45_6 h
 obtain ⟨v6, r6, k6⟩ := (opens_int un3) enc _ _ _ _ _ _ h6
 obtain ⟨hl, n7, y7, h7⟩ := field_of fe45_7 h
 obtain ⟨v7, r7, k7⟩ := (opens_int un3) enc _ _ _ _ _ _ h7
 obtain ⟨hl, n8, y8, h8⟩ := field_of fe45_8 h
 obtain ⟨v8, r8, k8⟩ := (opens_int un3) enc _ _ _ _ _ _ h8
 obtain ⟨hl, n9, y9, h9⟩ := field_of fe45_9 h
 obtain ⟨v9, r9, k9⟩ := (opens_int un3) enc _ _ _ _ _ _ h9
 obtain ⟨hl, n10, y10, h10⟩ := field_of fe45_10 h
 obtain ⟨v10, r10, k10⟩ := (opens_int un3) enc _ _ _ _ _ _ h10
 rw [ce45] at hl
 rcases cs with _ | ⟨c0, _ | ⟨c1, _ | ⟨c2, _ | ⟨c3, _ | ⟨c4, _ | ⟨c5, _ | ⟨c6, _ | ⟨c7, _ | ⟨c8, _ | ⟨c9, _ | ⟨c10, _ | ⟨c11, cs⟩⟩⟩⟩⟩⟩⟩⟩⟩⟩⟩⟩ <;> simp at hl
 have r0 : [c0] = _ := r0
 cases r0
 have r1 : [c1] = _ := r1
 cases r1
 have r2 : [c2] = _ := r2
 cases r2
 have r3 : [c3] = _ := r3
 cases r3
 have r4 : [c4] = _ := r4
 cases r4
 obtain ⟨a5_0, n5_0, c5_0, e5, s5_0⟩ := r5
 have e5 : [c5] = _ := e5
 cases e5
 have r6 : [c6] = _ := r6
 cases r6
 have r7 : [c7] = _ := r7
 cases r7
 have r8 : [c8] = _ := r8
 cases r8
 have r9 : [c9] = _ := r9
 cases r9
 have r10 : [c10] = _ := r10
 cases r10
 exact ⟨⟨v0, v1, v2, v3, v4, v5, v6, v7, v8, v9, v10⟩, ⟨a5_0, n5_0, c5_0, rfl, s5_0⟩, ⟨k0, k1, k2, k3, k4, k5, k6, k7, k8, k9, k10⟩⟩
def okTFleetSea (x : TFleetSea) : Prop := okI x.Cells ∧ (fun xs => ∀ y ∈ xs, okI y) x.Roads ∧ (fun xs => ∀ y ∈ xs, okI y) x.Zones ∧ (fun xs => ∀ y ∈ xs, okI y) x.Berths ∧ okI x.Days
theorem opens_TFleetSea {W : World} : Opens Tryz.prog W 47 RTFleetSea okTFleetSea := by
 intro H enc base fuel spare held cs x h
 obtain ⟨hl, n0, y0, h0⟩ := field_of fe47_0 h
 obtain ⟨v0, r0, k0⟩ := (opens_int un3) enc _ _ _ _ _ _ h0
 obtain ⟨hl, n1, y1, h1⟩ := field_of fe47_1 h
 obtain ⟨v1, r1, k1⟩ := (opens_slice un24 ce3 (by decide) (opens_int un3)) enc _ _ _ _ _ _ h1
 obtain ⟨hl, n2, y2, h2⟩ := field_of fe47_2 h
 obtain ⟨v2, r2, k2⟩ := (opens_slice un24 ce3 (by decide) (opens_int un3)) enc _ _ _ _ _ _ h2
 obtain ⟨hl, n3, y3, h3⟩ := field_of fe47_3 h
 obtain ⟨v3, r3, k3⟩ := (opens_slice un24 ce3 (by decide) (opens_int un3)) enc _ _ _ _ _ _ h3
 obtain ⟨hl, n4, y4, h4⟩ := field_of fe47_4 h
 obtain ⟨v4, r4, k4⟩ := (opens_int un3) enc _ _ _ _ _ _ h4
 rw [ce47] at hl
 rcases cs with _ | ⟨c0, _ | ⟨c1, _ | ⟨c2, _ | ⟨c3, _ | ⟨c4, _ | ⟨c5, cs⟩⟩⟩⟩⟩⟩ <;> simp at hl
 have r0 : [c0] = _ := r0
 cases r0
 obtain ⟨a1_0, n1_0, c1_0, e1, s1_0⟩ := r1
 have e1 : [c1] = _ := e1
 cases e1
 obtain ⟨a2_0, n2_0, c2_0, e2, s2_0⟩ := r2
 have e2 : [c2] = _ := e2
 cases e2
 obtain ⟨a3_0, n3_0, c3_0, e3, s3_0⟩ := r3
 have e3 : [c3] = _ := e3
 cases e3
 have r4 : [c4] = _ := r4
 cases r4
 exact ⟨⟨v0, v1, v2, v3, v4⟩, ⟨a1_0, n1_0, c1_0, a2_0, n2_0, c2_0, a3_0, n3_0, c3_0, rfl, s1_0, s2_0, s3_0⟩, ⟨k0, k1, k2, k3, k4⟩⟩
def okTCouncilAtoll (x : TCouncilAtoll) : Prop := okTLensIslet x.Islet ∧ okI x.Tank ∧ okTLandBook x.Book ∧ okTReef x.Reef ∧ okTBaneSea x.Sea ∧ okTShipStore x.Store ∧ okTCellSystem x.System ∧ okTFleetSea x.Fishing ∧ okI x.Money
theorem opens_TCouncilAtoll {W : World} : Opens Tryz.prog W 49 RTCouncilAtoll okTCouncilAtoll := by
 intro H enc base fuel spare held cs x h
 obtain ⟨hl, n0, y0, h0⟩ := field_of fe49_0 h
 obtain ⟨v0, r0, k0⟩ := opens_TLensIslet enc _ _ _ _ _ _ h0
 obtain ⟨hl, n1, y1, h1⟩ := field_of fe49_1 h
 obtain ⟨v1, r1, k1⟩ := (opens_int un3) enc _ _ _ _ _ _ h1
 obtain ⟨hl, n2, y2, h2⟩ := field_of fe49_2 h
 obtain ⟨v2, r2, k2⟩ := opens_TLandBook enc _ _ _ _ _ _ h2
 obtain ⟨hl, n3, y3, h3⟩ := field_of fe49_3 h
 obtain ⟨v3, r3, k3⟩ := opens_TReef enc _ _ _ _ _ _ h3
 obtain ⟨hl, n4, y4, h4⟩ := field_of fe49_4 h
 obtain ⟨v4, r4, k4⟩ := opens_TBaneSea enc _ _ _ _ _ _ h4
 obtain ⟨hl, n5, y5, h5⟩ := field_of fe49_5 h
 obtain ⟨v5, r5, k5⟩ := opens_TShipStore enc _ _ _ _ _ _ h5
 obtain ⟨hl, n6, y6, h6⟩ := field_of fe49_6 h
 obtain ⟨v6, r6, k6⟩ := opens_TCellSystem enc _ _ _ _ _ _ h6
 obtain ⟨hl, n7, y7, h7⟩ := field_of fe49_7 h
 obtain ⟨v7, r7, k7⟩ := opens_TFleetSea enc _ _ _ _ _ _ h7
 obtain ⟨hl, n8, y8, h8⟩ := field_of fe49_8 h
 obtain ⟨v8, r8, k8⟩ := (opens_int un3) enc _ _ _ _ _ _ h8
 rw [ce49] at hl
 rcases cs with _ | ⟨c0, _ | ⟨c1, _ | ⟨c2, _ | ⟨c3, _ | ⟨c4, _ | ⟨c5, _ | ⟨c6, _ | ⟨c7, _ | ⟨c8, _ | ⟨c9, _ | ⟨c10, _ | ⟨c11, _ | ⟨c12, _ | ⟨c13, _ | ⟨c14, _ | ⟨c15, _ | ⟨c16, _ | ⟨c17, _ | ⟨c18, _ | ⟨c19, _ | ⟨c20, _ | ⟨c21, _ | ⟨c22, _ | ⟨c23, _ | ⟨c24, _ | ⟨c25, _ | ⟨c26, _ | ⟨c27, _ | ⟨c28, _ | ⟨c29, _ | ⟨c30, _ | ⟨c31, _ | ⟨c32, _ | ⟨c33, _ | ⟨c34, _ | ⟨c35, _ | ⟨c36, _ | ⟨c37, _ | ⟨c38, _ | ⟨c39, _ | ⟨c40, _ | ⟨c41, _ | ⟨c42, _ | ⟨c43, _ | ⟨c44, _ | ⟨c45, _ | ⟨c46, _ | ⟨c47, _ | ⟨c48, _ | ⟨c49, _ | ⟨c50, _ | ⟨c51, cs⟩⟩⟩⟩⟩⟩⟩⟩⟩⟩⟩⟩⟩⟩⟩⟩⟩⟩⟩⟩⟩⟩⟩⟩⟩⟩⟩⟩⟩⟩⟩⟩⟩⟩⟩⟩⟩⟩⟩⟩⟩⟩⟩⟩⟩⟩⟩⟩⟩⟩⟩⟩ <;> simp at hl
 obtain ⟨a0_0, n0_0, c0_0, a0_1, n0_1, c0_1, e0, s0_0, s0_1⟩ := r0
 have e0 : [c0, c1, c2, c3, c4, c5, c6, c7, c8, c9, c10, c11, c12, c13, c14, c15] = _ := e0
 cases e0
 have r1 : [c16] = _ := r1
 cases r1
 obtain ⟨a2_0, n2_0, c2_0, a2_1, n2_1, c2_1, a2_2, n2_2, c2_2, e2, s2_0, s2_1, s2_2⟩ := r2
 have e2 : [c17, c18, c19] = _ := e2
 cases e2
 obtain ⟨a3_0, n3_0, c3_0, e3, s3_0⟩ := r3
 have e3 : [c20, c21, c22] = _ := e3
 cases e3
 obtain ⟨a4_0, n4_0, c4_0, a4_1, n4_1, c4_1, a4_2, n4_2, c4_2, e4, s4_0, s4_1, s4_2⟩ := r4
 have e4 : [c23, c24, c25, c26, c27] = _ := e4
 cases e4
 obtain ⟨a5_0, n5_0, c5_0, a5_1, n5_1, c5_1, a5_2, n5_2, c5_2, e5, s5_0, s5_1, s5_2⟩ := r5
 have e5 : [c28, c29, c30, c31, c32, c33] = _ := e5
 cases e5
 obtain ⟨a6_0, n6_0, c6_0, e6, s6_0⟩ := r6
 have e6 : [c34, c35, c36, c37, c38, c39, c40, c41, c42, c43, c44] = _ := e6
 cases e6
 obtain ⟨a7_0, n7_0, c7_0, a7_1, n7_1, c7_1, a7_2, n7_2, c7_2, e7, s7_0, s7_1, s7_2⟩ := r7
 have e7 : [c45, c46, c47, c48, c49] = _ := e7
 cases e7
 have r8 : [c50] = _ := r8
 cases r8
 exact ⟨⟨v0, v1, v2, v3, v4, v5, v6, v7, v8⟩, ⟨a0_0, n0_0, c0_0, a0_1, n0_1, c0_1, a2_0, n2_0, c2_0, a2_1, n2_1, c2_1, a2_2, n2_2, c2_2, a3_0, n3_0, c3_0, a4_0, n4_0, c4_0, a4_1, n4_1, c4_1, a4_2, n4_2, c4_2, a5_0, n5_0, c5_0, a5_1, n5_1, c5_1, a5_2, n5_2, c5_2, a6_0, n6_0, c6_0, a7_0, n7_0, c7_0, a7_1, n7_1, c7_1, a7_2, n7_2, c7_2, rfl, s0_0, s0_1, s2_0, s2_1, s2_2, s3_0, s4_0, s4_1, s4_2, s5_0, s5_1, s5_2, s6_0, s7_0, s7_1, s7_2⟩, ⟨k0, k1, k2, k3, k4, k5, k6, k7, k8⟩⟩
end Go.Proofs.YtdgkjgljkgjjiaaGreatDoor
