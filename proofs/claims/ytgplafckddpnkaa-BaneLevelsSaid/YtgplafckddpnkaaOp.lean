/-
  What is handed to the laws, read as data of Lean's (printed by a program of ours).
-/
import Derived.Test.YtgplafckddpnkaaRd
import Derived.Test.YtgplafckddpnkaaBaseK
import Derived.Test.YtgplafckddpnkaaChecked
namespace Go.Proofs.Ytgplafckddpnkaa
open Go.RowKit
set_option linter.unusedVariables false
open Go.ChangeShapes Go.WideShapes Go.ChangeAt
theorem own_knob : ownKnob Try.prog.godebug = none := by kernel_rfl
theorem laid_out : laidOutB Try.prog = true := by kernel_rfl
theorem ce109 : Try.prog.cellsOf 109 = 4 := by kernel_rfl
theorem ce24 : Try.prog.cellsOf 24 = 2 := by kernel_rfl
theorem ce25 : Try.prog.cellsOf 25 = 1 := by kernel_rfl
theorem ce28 : Try.prog.cellsOf 28 = 2 := by kernel_rfl
theorem ce3 : Try.prog.cellsOf 3 = 1 := by kernel_rfl
theorem ce4 : Try.prog.cellsOf 4 = 1 := by kernel_rfl
theorem ce43 : Try.prog.cellsOf 43 = 2 := by kernel_rfl
theorem ce46 : Try.prog.cellsOf 46 = 5 := by kernel_rfl
theorem ce72 : Try.prog.cellsOf 72 = 5 := by kernel_rfl
theorem ce77 : Try.prog.cellsOf 77 = 3 := by kernel_rfl
theorem fe109_0 : fieldB Try.prog 109 0 = some (3, 0, 1) := by kernel_rfl
theorem fe109_1 : fieldB Try.prog 109 1 = some (3, 1, 1) := by kernel_rfl
theorem fe109_2 : fieldB Try.prog 109 2 = some (3, 2, 1) := by kernel_rfl
theorem fe109_3 : fieldB Try.prog 109 3 = some (3, 3, 1) := by kernel_rfl
theorem fe24_0 : fieldB Try.prog 24 0 = some (22, 0, 1) := by kernel_rfl
theorem fe24_1 : fieldB Try.prog 24 1 = some (3, 1, 1) := by kernel_rfl
theorem fe28_0 : fieldB Try.prog 28 0 = some (25, 0, 1) := by kernel_rfl
theorem fe28_1 : fieldB Try.prog 28 1 = some (26, 1, 1) := by kernel_rfl
theorem fe43_0 : fieldB Try.prog 43 0 = some (3, 0, 1) := by kernel_rfl
theorem fe43_1 : fieldB Try.prog 43 1 = some (3, 1, 1) := by kernel_rfl
theorem fe46_0 : fieldB Try.prog 46 0 = some (3, 0, 1) := by kernel_rfl
theorem fe46_1 : fieldB Try.prog 46 1 = some (25, 1, 1) := by kernel_rfl
theorem fe46_2 : fieldB Try.prog 46 2 = some (25, 2, 1) := by kernel_rfl
theorem fe46_3 : fieldB Try.prog 46 3 = some (44, 3, 1) := by kernel_rfl
theorem fe46_4 : fieldB Try.prog 46 4 = some (3, 4, 1) := by kernel_rfl
theorem fe72_0 : fieldB Try.prog 72 0 = some (43, 0, 2) := by kernel_rfl
theorem fe72_1 : fieldB Try.prog 72 1 = some (70, 2, 1) := by kernel_rfl
theorem fe72_2 : fieldB Try.prog 72 2 = some (3, 3, 1) := by kernel_rfl
theorem fe72_3 : fieldB Try.prog 72 3 = some (3, 4, 1) := by kernel_rfl
theorem fe77_0 : fieldB Try.prog 77 0 = some (3, 0, 1) := by kernel_rfl
theorem fe77_1 : fieldB Try.prog 77 1 = some (43, 1, 2) := by kernel_rfl
theorem uf24 : Try.prog.underlying 24 = some (.struct (Try.prog.fieldsOf 24)) := by kernel_rfl
theorem uf28 : Try.prog.underlying 28 = some (.struct (Try.prog.fieldsOf 28)) := by kernel_rfl
theorem uf46 : Try.prog.underlying 46 = some (.struct (Try.prog.fieldsOf 46)) := by kernel_rfl
theorem un22 : Try.prog.underlying 22 = some (.slice 72) := by kernel_rfl
theorem un25 : Try.prog.underlying 25 = some (.slice 3) := by kernel_rfl
theorem un26 : Try.prog.underlying 26 = some (.slice 25) := by kernel_rfl
theorem un3 : Try.prog.underlying 3 = some (.int .i64) := by kernel_rfl
theorem un4 : Try.prog.underlying 4 = some .bool := by kernel_rfl
theorem un44 : Try.prog.underlying 44 = some (.slice 109) := by kernel_rfl
theorem un4b : Try.prog.underlying 4 = some .bool := by kernel_rfl
theorem un70 : Try.prog.underlying 70 = some (.slice 77) := by kernel_rfl
theorem un79 : Try.prog.underlying 79 = some (.slice 4) := by kernel_rfl
def okTSpan (x : TSpan) : Prop := okI x.Low ∧ okI x.High
theorem opens_TSpan {W : World} : Opens Try.prog W 43 RTSpan okTSpan := by
  intro H enc base fuel spare held cs x h
  obtain ⟨hl, n0, y0, h0⟩ := field_of fe43_0 h
  obtain ⟨v0, r0, k0⟩ := (opens_int un3) enc _ _ _ _ _ _ h0
  obtain ⟨hl, n1, y1, h1⟩ := field_of fe43_1 h
  obtain ⟨v1, r1, k1⟩ := (opens_int un3) enc _ _ _ _ _ _ h1
  rw [ce43] at hl
  rcases cs with _ | ⟨c0, _ | ⟨c1, _ | ⟨c2, cs⟩⟩⟩ <;> simp at hl
  have r0 : [c0] = _ := r0
  cases r0
  have r1 : [c1] = _ := r1
  cases r1
  exact ⟨⟨v0, v1⟩, rfl, ⟨k0, k1⟩⟩
def okTBaneBite (x : TBaneBite) : Prop := okI x.Prey ∧ okTSpan x.Share
theorem opens_TBaneBite {W : World} : Opens Try.prog W 77 RTBaneBite okTBaneBite := by
  intro H enc base fuel spare held cs x h
  obtain ⟨hl, n0, y0, h0⟩ := field_of fe77_0 h
  obtain ⟨v0, r0, k0⟩ := (opens_int un3) enc _ _ _ _ _ _ h0
  obtain ⟨hl, n1, y1, h1⟩ := field_of fe77_1 h
  obtain ⟨v1, r1, k1⟩ := opens_TSpan enc _ _ _ _ _ _ h1
  rw [ce77] at hl
  rcases cs with _ | ⟨c0, _ | ⟨c1, _ | ⟨c2, _ | ⟨c3, cs⟩⟩⟩⟩ <;> simp at hl
  have r0 : [c0] = _ := r0
  cases r0
  have r1 : [c1, c2] = _ := r1
  cases r1
  exact ⟨⟨v0, v1⟩, rfl, ⟨k0, k1⟩⟩
def okTBaneFish (x : TBaneFish) : Prop := okTSpan x.Base ∧ (fun xs => ∀ y ∈ xs, okTBaneBite y) x.Bites ∧ okI x.Pass ∧ okI x.Cost
theorem opens_TBaneFish {W : World} : Opens Try.prog W 72 RTBaneFish okTBaneFish := by
  intro H enc base fuel spare held cs x h
  obtain ⟨hl, n0, y0, h0⟩ := field_of fe72_0 h
  obtain ⟨v0, r0, k0⟩ := opens_TSpan enc _ _ _ _ _ _ h0
  obtain ⟨hl, n1, y1, h1⟩ := field_of fe72_1 h
  obtain ⟨v1, r1, k1⟩ := (opens_slice un70 ce77 (by decide) opens_TBaneBite) enc _ _ _ _ _ _ h1
  obtain ⟨hl, n2, y2, h2⟩ := field_of fe72_2 h
  obtain ⟨v2, r2, k2⟩ := (opens_int un3) enc _ _ _ _ _ _ h2
  obtain ⟨hl, n3, y3, h3⟩ := field_of fe72_3 h
  obtain ⟨v3, r3, k3⟩ := (opens_int un3) enc _ _ _ _ _ _ h3
  rw [ce72] at hl
  rcases cs with _ | ⟨c0, _ | ⟨c1, _ | ⟨c2, _ | ⟨c3, _ | ⟨c4, _ | ⟨c5, cs⟩⟩⟩⟩⟩⟩ <;> simp at hl
  have r0 : [c0, c1] = _ := r0
  cases r0
  obtain ⟨a1_0, n1_0, c1_0, e1, s1_0⟩ := r1
  have e1 : [c2] = _ := e1
  cases e1
  have r2 : [c3] = _ := r2
  cases r2
  have r3 : [c4] = _ := r3
  cases r3
  exact ⟨⟨v0, v1, v2, v3⟩, ⟨a1_0, n1_0, c1_0, rfl, s1_0⟩, ⟨k0, k1, k2, k3⟩⟩
def okTBaneWeb (x : TBaneWeb) : Prop := (fun xs => ∀ y ∈ xs, okTBaneFish y) x.Fish ∧ okI x.Limit
theorem opens_TBaneWeb {W : World} : Opens Try.prog W 24 RTBaneWeb okTBaneWeb := by
  intro H enc base fuel spare held cs x h
  obtain ⟨hl, n0, y0, h0⟩ := field_of fe24_0 h
  obtain ⟨v0, r0, k0⟩ := (opens_slice un22 ce72 (by decide) opens_TBaneFish) enc _ _ _ _ _ _ h0
  obtain ⟨hl, n1, y1, h1⟩ := field_of fe24_1 h
  obtain ⟨v1, r1, k1⟩ := (opens_int un3) enc _ _ _ _ _ _ h1
  rw [ce24] at hl
  rcases cs with _ | ⟨c0, _ | ⟨c1, _ | ⟨c2, cs⟩⟩⟩ <;> simp at hl
  obtain ⟨a0_0, n0_0, c0_0, e0, s0_0⟩ := r0
  have e0 : [c0] = _ := e0
  cases e0
  have r1 : [c1] = _ := r1
  cases r1
  exact ⟨⟨v0, v1⟩, ⟨a0_0, n0_0, c0_0, rfl, s0_0⟩, ⟨k0, k1⟩⟩
def okTBaneTruth (x : TBaneTruth) : Prop := (fun xs => ∀ y ∈ xs, okI y) x.Bases ∧ (fun xs => ∀ y ∈ xs, (fun xs => ∀ y ∈ xs, okI y) y) x.Shares
theorem opens_TBaneTruth {W : World} : Opens Try.prog W 28 RTBaneTruth okTBaneTruth := by
  intro H enc base fuel spare held cs x h
  obtain ⟨hl, n0, y0, h0⟩ := field_of fe28_0 h
  obtain ⟨v0, r0, k0⟩ := (opens_slice un25 ce3 (by decide) (opens_int un3)) enc _ _ _ _ _ _ h0
  obtain ⟨hl, n1, y1, h1⟩ := field_of fe28_1 h
  obtain ⟨v1, r1, k1⟩ := (opens_slice un26 ce25 (by decide) (opens_slice un25 ce3 (by decide) (opens_int un3))) enc _ _ _ _ _ _ h1
  rw [ce28] at hl
  rcases cs with _ | ⟨c0, _ | ⟨c1, _ | ⟨c2, cs⟩⟩⟩ <;> simp at hl
  obtain ⟨a0_0, n0_0, c0_0, e0, s0_0⟩ := r0
  have e0 : [c0] = _ := e0
  cases e0
  obtain ⟨a1_0, n1_0, c1_0, e1, s1_0⟩ := r1
  have e1 : [c1] = _ := e1
  cases e1
  exact ⟨⟨v0, v1⟩, ⟨a0_0, n0_0, c0_0, a1_0, n1_0, c1_0, rfl, s0_0, s1_0⟩, ⟨k0, k1⟩⟩
def okTBaneTrip (x : TBaneTrip) : Prop := okI x.Day ∧ okI x.From ∧ okI x.To ∧ okI x.Cost
theorem opens_TBaneTrip {W : World} : Opens Try.prog W 109 RTBaneTrip okTBaneTrip := by
  intro H enc base fuel spare held cs x h
  obtain ⟨hl, n0, y0, h0⟩ := field_of fe109_0 h
  obtain ⟨v0, r0, k0⟩ := (opens_int un3) enc _ _ _ _ _ _ h0
  obtain ⟨hl, n1, y1, h1⟩ := field_of fe109_1 h
  obtain ⟨v1, r1, k1⟩ := (opens_int un3) enc _ _ _ _ _ _ h1
  obtain ⟨hl, n2, y2, h2⟩ := field_of fe109_2 h
  obtain ⟨v2, r2, k2⟩ := (opens_int un3) enc _ _ _ _ _ _ h2
  obtain ⟨hl, n3, y3, h3⟩ := field_of fe109_3 h
  obtain ⟨v3, r3, k3⟩ := (opens_int un3) enc _ _ _ _ _ _ h3
  rw [ce109] at hl
  rcases cs with _ | ⟨c0, _ | ⟨c1, _ | ⟨c2, _ | ⟨c3, _ | ⟨c4, cs⟩⟩⟩⟩⟩ <;> simp at hl
  have r0 : [c0] = _ := r0
  cases r0
  have r1 : [c1] = _ := r1
  cases r1
  have r2 : [c2] = _ := r2
  cases r2
  have r3 : [c3] = _ := r3
  cases r3
  exact ⟨⟨v0, v1, v2, v3⟩, rfl, ⟨k0, k1, k2, k3⟩⟩
def okTBaneSea (x : TBaneSea) : Prop := okI x.Islets ∧ (fun xs => ∀ y ∈ xs, okI y) x.Infested ∧ (fun xs => ∀ y ∈ xs, okI y) x.Clean ∧ (fun xs => ∀ y ∈ xs, okTBaneTrip y) x.Trips ∧ okI x.Wait
theorem opens_TBaneSea {W : World} : Opens Try.prog W 46 RTBaneSea okTBaneSea := by
  intro H enc base fuel spare held cs x h
  obtain ⟨hl, n0, y0, h0⟩ := field_of fe46_0 h
  obtain ⟨v0, r0, k0⟩ := (opens_int un3) enc _ _ _ _ _ _ h0
  obtain ⟨hl, n1, y1, h1⟩ := field_of fe46_1 h
  obtain ⟨v1, r1, k1⟩ := (opens_slice un25 ce3 (by decide) (opens_int un3)) enc _ _ _ _ _ _ h1
  obtain ⟨hl, n2, y2, h2⟩ := field_of fe46_2 h
  obtain ⟨v2, r2, k2⟩ := (opens_slice un25 ce3 (by decide) (opens_int un3)) enc _ _ _ _ _ _ h2
  obtain ⟨hl, n3, y3, h3⟩ := field_of fe46_3 h
  obtain ⟨v3, r3, k3⟩ := (opens_slice un44 ce109 (by decide) opens_TBaneTrip) enc _ _ _ _ _ _ h3
  obtain ⟨hl, n4, y4, h4⟩ := field_of fe46_4 h
  obtain ⟨v4, r4, k4⟩ := (opens_int un3) enc _ _ _ _ _ _ h4
  rw [ce46] at hl
  rcases cs with _ | ⟨c0, _ | ⟨c1, _ | ⟨c2, _ | ⟨c3, _ | ⟨c4, _ | ⟨c5, cs⟩⟩⟩⟩⟩⟩ <;> simp at hl
  have r0 : [c0] = _ := r0
  cases r0
  obtain ⟨a1_0, n1_0, c1_0, e1, s1_0⟩ := r1
  have e1 : [c1] = _ := e1
  cases e1
  obtain ⟨a2_0, n2_0, c2_0, e2, s2_0⟩ := r2
  have e2 : [c2] = _ := e2
  cases e2
  obtain ⟨a3_0, n3_0, c3_0, e3, s3_0⟩ := r3
  have e3 : [c3] = _ := e3
  cases e3
  have r4 : [c4] = _ := r4
  cases r4
  exact ⟨⟨v0, v1, v2, v3, v4⟩, ⟨a1_0, n1_0, c1_0, a2_0, n2_0, c2_0, a3_0, n3_0, c3_0, rfl, s1_0, s2_0, s3_0⟩, ⟨k0, k1, k2, k3, k4⟩⟩
end Go.Proofs.Ytgplafckddpnkaa
