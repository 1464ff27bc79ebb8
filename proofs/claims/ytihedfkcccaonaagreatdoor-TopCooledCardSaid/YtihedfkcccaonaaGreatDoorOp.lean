/-
 What is handed to the laws, read as data of Lean's (printed by a program of ours).
-/
import Derived.Test.YtihedfkcccaonaaGreatDoorWx
import Derived.Test.YtihedfkcccaonaaGreatDoorBsC
import Derived.Test.YtihedfkcccaonaaGreatDoorChecked
namespace Go.Proofs.YtihedfkcccaonaaGreatDoor
open Go.RowKit
open Go.ChangeShapes Go.WideShapes Go.ChangeAt
theorem zof : ownKnob Tryz.prog.godebug = none := by kernel_rfl
theorem zoC : laidOutB Tryz.prog = true := by kernel_rfl
theorem ztK : Tryz.prog.cellsOf 115 = 3 := by kernel_rfl
theorem ztJ : Tryz.prog.cellsOf 117 = 3 := by kernel_rfl
theorem ztI : Tryz.prog.cellsOf 156 = 4 := by kernel_rfl
theorem ztH : Tryz.prog.cellsOf 192 = 6 := by kernel_rfl
theorem ztG : Tryz.prog.cellsOf 195 = 2 := by kernel_rfl
theorem ztF : Tryz.prog.cellsOf 197 = 2 := by kernel_rfl
theorem ztE : Tryz.prog.cellsOf 200 = 4 := by kernel_rfl
theorem ztD : Tryz.prog.cellsOf 202 = 12 := by kernel_rfl
theorem zwH : Tryz.prog.cellsOf 23 = 2 := by kernel_rfl
theorem zAw : Tryz.prog.cellsOf 27 = 16 := by kernel_rfl
theorem ce3 : Tryz.prog.cellsOf 3 = 1 := by kernel_rfl
theorem zAv : Tryz.prog.cellsOf 32 = 3 := by kernel_rfl
theorem zAu : Tryz.prog.cellsOf 35 = 3 := by kernel_rfl
theorem zAt : Tryz.prog.cellsOf 38 = 5 := by kernel_rfl
theorem zAs : Tryz.prog.cellsOf 42 = 6 := by kernel_rfl
theorem zAr : Tryz.prog.cellsOf 45 = 11 := by kernel_rfl
theorem zAq : Tryz.prog.cellsOf 47 = 5 := by kernel_rfl
theorem zAp : Tryz.prog.cellsOf 49 = 51 := by kernel_rfl
theorem zsd : zI Tryz.prog 115 0 = some (3, 0, 1) := by kernel_rfl
theorem zsc : zI Tryz.prog 115 1 = some (3, 1, 1) := by kernel_rfl
theorem zsb : zI Tryz.prog 115 2 = some (4, 2, 1) := by kernel_rfl
theorem zsa : zI Tryz.prog 117 0 = some (39, 0, 1) := by kernel_rfl
theorem zr9 : zI Tryz.prog 117 1 = some (3, 1, 1) := by kernel_rfl
theorem zr8 : zI Tryz.prog 117 2 = some (3, 2, 1) := by kernel_rfl
theorem zr7 : zI Tryz.prog 156 0 = some (3, 0, 1) := by kernel_rfl
theorem zr6 : zI Tryz.prog 156 1 = some (3, 1, 1) := by kernel_rfl
theorem zr5 : zI Tryz.prog 156 2 = some (3, 2, 1) := by kernel_rfl
theorem zr4 : zI Tryz.prog 156 3 = some (3, 3, 1) := by kernel_rfl
theorem zr3 : zI Tryz.prog 192 0 = some (23, 0, 2) := by kernel_rfl
theorem zr2 : zI Tryz.prog 192 1 = some (23, 2, 2) := by kernel_rfl
theorem zr1 : zI Tryz.prog 192 2 = some (23, 4, 2) := by kernel_rfl
theorem zr0 : zI Tryz.prog 195 0 = some (3, 0, 1) := by kernel_rfl
theorem zrZ : zI Tryz.prog 195 1 = some (3, 1, 1) := by kernel_rfl
theorem zrY : zI Tryz.prog 197 0 = some (3, 0, 1) := by kernel_rfl
theorem zrX : zI Tryz.prog 197 1 = some (3, 1, 1) := by kernel_rfl
theorem zrW : zI Tryz.prog 200 0 = some (3, 0, 1) := by kernel_rfl
theorem zrV : zI Tryz.prog 200 1 = some (3, 1, 1) := by kernel_rfl
theorem zrU : zI Tryz.prog 200 2 = some (23, 2, 2) := by kernel_rfl
theorem zrT : zI Tryz.prog 202 0 = some (3, 0, 1) := by kernel_rfl
theorem zrS : zI Tryz.prog 202 1 = some (3, 1, 1) := by kernel_rfl
theorem zrR : zI Tryz.prog 202 2 = some (23, 2, 2) := by kernel_rfl
theorem zrQ : zI Tryz.prog 202 3 = some (3, 4, 1) := by kernel_rfl
theorem zrP : zI Tryz.prog 202 4 = some (3, 5, 1) := by kernel_rfl
theorem zrO : zI Tryz.prog 202 5 = some (23, 6, 2) := by kernel_rfl
theorem zrN : zI Tryz.prog 202 6 = some (23, 8, 2) := by kernel_rfl
theorem zrM : zI Tryz.prog 202 7 = some (3, 10, 1) := by kernel_rfl
theorem zrL : zI Tryz.prog 202 8 = some (3, 11, 1) := by kernel_rfl
theorem zvN : zI Tryz.prog 23 0 = some (3, 0, 1) := by kernel_rfl
theorem zvM : zI Tryz.prog 23 1 = some (3, 1, 1) := by kernel_rfl
theorem zvL : zI Tryz.prog 27 0 = some (3, 0, 1) := by kernel_rfl
theorem zvK : zI Tryz.prog 27 1 = some (23, 1, 2) := by kernel_rfl
theorem zrK : zI Tryz.prog 27 10 = some (25, 13, 1) := by kernel_rfl
theorem zrJ : zI Tryz.prog 27 11 = some (3, 14, 1) := by kernel_rfl
theorem zrI : zI Tryz.prog 27 12 = some (3, 15, 1) := by kernel_rfl
theorem zvJ : zI Tryz.prog 27 2 = some (3, 3, 1) := by kernel_rfl
theorem zvI : zI Tryz.prog 27 3 = some (3, 4, 1) := by kernel_rfl
theorem zvH : zI Tryz.prog 27 4 = some (23, 5, 2) := by kernel_rfl
theorem zvG : zI Tryz.prog 27 5 = some (23, 7, 2) := by kernel_rfl
theorem zvF : zI Tryz.prog 27 6 = some (3, 9, 1) := by kernel_rfl
theorem zvE : zI Tryz.prog 27 7 = some (3, 10, 1) := by kernel_rfl
theorem zvD : zI Tryz.prog 27 8 = some (3, 11, 1) := by kernel_rfl
theorem zvC : zI Tryz.prog 27 9 = some (24, 12, 1) := by kernel_rfl
theorem zvB : zI Tryz.prog 32 0 = some (28, 0, 1) := by kernel_rfl
theorem zvA : zI Tryz.prog 32 1 = some (29, 1, 1) := by kernel_rfl
theorem zvz : zI Tryz.prog 32 2 = some (30, 2, 1) := by kernel_rfl
theorem zvy : zI Tryz.prog 35 0 = some (33, 0, 1) := by kernel_rfl
theorem zvx : zI Tryz.prog 35 1 = some (3, 1, 1) := by kernel_rfl
theorem zvw : zI Tryz.prog 35 2 = some (3, 2, 1) := by kernel_rfl
theorem zvv : zI Tryz.prog 38 0 = some (3, 0, 1) := by kernel_rfl
theorem zvu : zI Tryz.prog 38 1 = some (24, 1, 1) := by kernel_rfl
theorem zvt : zI Tryz.prog 38 2 = some (24, 2, 1) := by kernel_rfl
theorem zvs : zI Tryz.prog 38 3 = some (36, 3, 1) := by kernel_rfl
theorem zvr : zI Tryz.prog 38 4 = some (3, 4, 1) := by kernel_rfl
theorem zvq : zI Tryz.prog 42 0 = some (24, 0, 1) := by kernel_rfl
theorem zvp : zI Tryz.prog 42 1 = some (39, 1, 1) := by kernel_rfl
theorem zvo : zI Tryz.prog 42 2 = some (23, 2, 2) := by kernel_rfl
theorem zvn : zI Tryz.prog 42 3 = some (40, 4, 1) := by kernel_rfl
theorem zvm : zI Tryz.prog 42 4 = some (3, 5, 1) := by kernel_rfl
theorem zvl : zI Tryz.prog 45 0 = some (3, 0, 1) := by kernel_rfl
theorem zvk : zI Tryz.prog 45 1 = some (3, 1, 1) := by kernel_rfl
theorem zrH : zI Tryz.prog 45 10 = some (3, 10, 1) := by kernel_rfl
theorem zvj : zI Tryz.prog 45 2 = some (3, 2, 1) := by kernel_rfl
theorem zvi : zI Tryz.prog 45 3 = some (3, 3, 1) := by kernel_rfl
theorem zvh : zI Tryz.prog 45 4 = some (3, 4, 1) := by kernel_rfl
theorem zvg : zI Tryz.prog 45 5 = some (43, 5, 1) := by kernel_rfl
theorem zvf : zI Tryz.prog 45 6 = some (3, 6, 1) := by kernel_rfl
theorem zve : zI Tryz.prog 45 7 = some (3, 7, 1) := by kernel_rfl
theorem zvd : zI Tryz.prog 45 8 = some (3, 8, 1) := by kernel_rfl
theorem zvc : zI Tryz.prog 45 9 = some (3, 9, 1) := by kernel_rfl
theorem zvb : zI Tryz.prog 47 0 = some (3, 0, 1) := by kernel_rfl
theorem zva : zI Tryz.prog 47 1 = some (24, 1, 1) := by kernel_rfl
theorem zu9 : zI Tryz.prog 47 2 = some (24, 2, 1) := by kernel_rfl
theorem zu8 : zI Tryz.prog 47 3 = some (24, 3, 1) := by kernel_rfl
theorem zu7 : zI Tryz.prog 47 4 = some (3, 4, 1) := by kernel_rfl
theorem zu6 : zI Tryz.prog 49 0 = some (27, 0, 16) := by kernel_rfl
theorem zu5 : zI Tryz.prog 49 1 = some (3, 16, 1) := by kernel_rfl
theorem zu4 : zI Tryz.prog 49 2 = some (32, 17, 3) := by kernel_rfl
theorem zu3 : zI Tryz.prog 49 3 = some (35, 20, 3) := by kernel_rfl
theorem zu2 : zI Tryz.prog 49 4 = some (38, 23, 5) := by kernel_rfl
theorem zu1 : zI Tryz.prog 49 5 = some (42, 28, 6) := by kernel_rfl
theorem zu0 : zI Tryz.prog 49 6 = some (45, 34, 11) := by kernel_rfl
theorem zuZ : zI Tryz.prog 49 7 = some (47, 45, 5) := by kernel_rfl
theorem zuY : zI Tryz.prog 49 8 = some (3, 50, 1) := by kernel_rfl
theorem zzj : Tryz.prog.underlying 49 = some (.struct (Tryz.prog.fieldsOf 49)) := by kernel_rfl
theorem zjC : Tryz.prog.underlying 24 = some (.slice 3) := by kernel_rfl
theorem zzi : Tryz.prog.underlying 25 = some (.slice 192) := by kernel_rfl
theorem zzh : Tryz.prog.underlying 28 = some (.slice 195) := by kernel_rfl
theorem zzg : Tryz.prog.underlying 29 = some (.slice 197) := by kernel_rfl
theorem un3 : Tryz.prog.underlying 3 = some (.int .i64) := by kernel_rfl
theorem zzf : Tryz.prog.underlying 30 = some (.slice 200) := by kernel_rfl
theorem zze : Tryz.prog.underlying 33 = some (.slice 202) := by kernel_rfl
theorem zzd : Tryz.prog.underlying 36 = some (.slice 156) := by kernel_rfl
theorem zw3 : Tryz.prog.underlying 39 = some (.slice 23) := by kernel_rfl
theorem un4 : Tryz.prog.underlying 4 = some .bool := by kernel_rfl
theorem zzc : Tryz.prog.underlying 40 = some (.slice 117) := by kernel_rfl
theorem zzb : Tryz.prog.underlying 43 = some (.slice 115) := by kernel_rfl
theorem zw1 : Tryz.prog.underlying 4 = some .bool := by kernel_rfl
theorem un9 : Tryz.prog.underlying 9 = some .string := by kernel_rfl
def yX (x : jb) : Prop := okI x.Low ∧ okI x.High
theorem qS {W : World} : xR Tryz.prog W 23 xY yX := by
 intro H enc base fuel spare held cs x h
 obtain ⟨hl, n0, y0, h0⟩ := zt zvN h
 obtain ⟨v0, r0, k0⟩ := (zB un3) enc _ _ _ _ _ _ h0
 obtain ⟨hl, n1, y1, h1⟩ := zt zvM h
 obtain ⟨v1, r1, k1⟩ := (zB un3) enc _ _ _ _ _ _ h1
 rw [zwH] at hl
 rcases cs with _ | ⟨c0, _ | ⟨c1, _ | ⟨c2, cs⟩⟩⟩ <;> simp at hl
 have r0 : [c0] = _ := r0
 cases r0
 have r1 : [c1] = _ := r1
 cases r1
 exact ⟨⟨v0, v1⟩, rfl, ⟨k0, k1⟩⟩
def vN (x : xz) : Prop := yX x.Wet ∧ yX x.Dry ∧ yX x.Need
theorem zda {W : World} : xR Tryz.prog W 192 qL vN := by
 intro H enc base fuel spare held cs x h
 obtain ⟨hl, n0, y0, h0⟩ := zt zr3 h
 obtain ⟨v0, r0, k0⟩ := qS enc _ _ _ _ _ _ h0
 obtain ⟨hl, n1, y1, h1⟩ := zt zr2 h
 obtain ⟨v1, r1, k1⟩ := qS enc _ _ _ _ _ _ h1
 obtain ⟨hl, n2, y2, h2⟩ := zt zr1 h
 obtain ⟨v2, r2, k2⟩ := qS enc _ _ _ _ _ _ h2
 rw [ztH] at hl
 rcases cs with _ | ⟨c0, _ | ⟨c1, _ | ⟨c2, _ | ⟨c3, _ | ⟨c4, _ | ⟨c5, _ | ⟨c6, cs⟩⟩⟩⟩⟩⟩⟩ <;> simp at hl
 have r0 : [c0, c1] = _ := r0
 cases r0
 have r1 : [c2, c3] = _ := r1
 cases r1
 have r2 : [c4, c5] = _ := r2
 cases r2
 exact ⟨⟨v0, v1, v2⟩, rfl, ⟨k0, k1, k2⟩⟩
def zcu (x : zb2) : Prop := okI x.Cap ∧ yX x.Start ∧ okI x.Roof ∧ okI x.Sand ∧ yX x.Soak ∧ yX x.Leak ∧ okI x.Pump ∧ okI x.Keep ∧ okI x.Size ∧ (fun xs => ∀ y ∈ xs, okI y) x.Wells ∧ (fun xs => ∀ y ∈ xs, vN y) x.Months ∧ okI x.Most ∧ okI x.Row
theorem zdb {W : World} : xR Tryz.prog W 27 zjt zcu := by
 intro H enc base fuel spare held cs x h
 obtain ⟨hl, n0, y0, h0⟩ := zt zvL h
 obtain ⟨v0, r0, k0⟩ := (zB un3) enc _ _ _ _ _ _ h0
 obtain ⟨hl, n1, y1, h1⟩ := zt zvK h
 obtain ⟨v1, r1, k1⟩ := qS enc _ _ _ _ _ _ h1
 obtain ⟨hl, n2, y2, h2⟩ := zt zvJ h
 obtain ⟨v2, r2, k2⟩ := (zB un3) enc _ _ _ _ _ _ h2
 obtain ⟨hl, n3, y3, h3⟩ := zt zvI h
 obtain ⟨v3, r3, k3⟩ := (zB un3) enc _ _ _ _ _ _ h3
 obtain ⟨hl, n4, y4, h4⟩ := zt zvH h
 obtain ⟨v4, r4, k4⟩ := qS enc _ _ _ _ _ _ h4
 obtain ⟨hl, n5, y5, h5⟩ := zt zvG h
 obtain ⟨v5, r5, k5⟩ := qS enc _ _ _ _ _ _ h5
 obtain ⟨hl, n6, y6, h6⟩ := zt zvF h
 obtain ⟨v6, r6, k6⟩ := (zB un3) enc _ _ _ _ _ _ h6
 obtain ⟨hl, n7, y7, h7⟩ := zt zvE h
 obtain ⟨v7, r7, k7⟩ := (zB un3) enc _ _ _ _ _ _ h7
 obtain ⟨hl, n8, y8, h8⟩ := zt zvD h
 obtain ⟨v8, r8, k8⟩ := (zB un3) enc _ _ _ _ _ _ h8
 obtain ⟨hl, n9, y9, h9⟩ := zt zvC h
 obtain ⟨v9, r9, k9⟩ := (qy zjC ce3 (by decide) (zB un3)) enc _ _ _ _ _ _ h9
 obtain ⟨hl, n10, y10, h10⟩ := zt zrK h
 obtain ⟨v10, r10, k10⟩ := (qy zzi ztH (by decide) zda) enc _ _ _ _ _ _ h10
 obtain ⟨hl, n11, y11, h11⟩ := zt zrJ h
 obtain ⟨v11, r11, k11⟩ := (zB un3) enc _ _ _ _ _ _ h11
 obtain ⟨hl, n12, y12, h12⟩ := zt zrI h
 obtain ⟨v12, r12, k12⟩ := (zB un3) enc _ _ _ _ _ _ h12
 rw [zAw] at hl
 rcases cs with _ | ⟨c0, _ | ⟨c1, _ | ⟨c2, _ | ⟨c3, _ | ⟨c4, _ | ⟨c5, _ | ⟨c6, _ | ⟨c7, _ | ⟨c8, _ | ⟨c9, _ | ⟨c10, _ | ⟨c11, _ | ⟨c12, _ | ⟨c13, _ | ⟨c14, _ | ⟨c15, _ | ⟨c16, cs⟩⟩⟩⟩⟩⟩⟩⟩⟩⟩⟩⟩⟩⟩⟩⟩⟩ <;> simp at hl
 have r0 : [c0] = _ := r0
 cases r0
 have r1 : [c1, c2] = _ := r1
 cases r1
 have r2 : [c3] = _ := r2
 cases r2
 have r3 : [c4] = _ := r3
 cases r3
 have r4 : [c5, c6] = _ := r4
 cases r4
 have r5 : [c7, c8] = _ := r5
 cases r5
 have r6 : [c9] = _ := r6
 cases r6
 have r7 : [c10] = _ := r7
 cases r7
 have r8 : [c11] = _ := r8
 cases r8
 obtain ⟨a9_0, n9_0, c9_0, e9, s9_0⟩ := r9
 have e9 : [c12] = _ := e9
 cases e9
 obtain ⟨a10_0, n10_0, c10_0, e10, s10_0⟩ := r10
 have e10 : [c13] = _ := e10
 cases e10
 have r11 : [c14] = _ := r11
 cases r11
 have r12 : [c15] = _ := r12
 cases r12
 exact ⟨⟨v0, v1, v2, v3, v4, v5, v6, v7, v8, v9, v10, v11, v12⟩, ⟨a9_0, n9_0, c9_0, a10_0, n10_0, c10_0, rfl, s9_0, s10_0⟩, ⟨k0, k1, k2, k3, k4, k5, k6, k7, k8, k9, k10, k11, k12⟩⟩
def vg (x : yT) : Prop := okI x.Mother ∧ okI x.Adopted
theorem zco {W : World} : xR Tryz.prog W 195 qB vg := by
 intro H enc base fuel spare held cs x h
 obtain ⟨hl, n0, y0, h0⟩ := zt zr0 h
 obtain ⟨v0, r0, k0⟩ := (zB un3) enc _ _ _ _ _ _ h0
 obtain ⟨hl, n1, y1, h1⟩ := zt zrZ h
 obtain ⟨v1, r1, k1⟩ := (zB un3) enc _ _ _ _ _ _ h1
 rw [ztG] at hl
 rcases cs with _ | ⟨c0, _ | ⟨c1, _ | ⟨c2, cs⟩⟩⟩ <;> simp at hl
 have r0 : [c0] = _ := r0
 cases r0
 have r1 : [c1] = _ := r1
 cases r1
 exact ⟨⟨v0, v1⟩, rfl, ⟨k0, k1⟩⟩
def vO (x : xA) : Prop := okI x.Strip ∧ okI x.Holder
theorem zdc {W : World} : xR Tryz.prog W 197 qM vO := by
 intro H enc base fuel spare held cs x h
 obtain ⟨hl, n0, y0, h0⟩ := zt zrY h
 obtain ⟨v0, r0, k0⟩ := (zB un3) enc _ _ _ _ _ _ h0
 obtain ⟨hl, n1, y1, h1⟩ := zt zrX h
 obtain ⟨v1, r1, k1⟩ := (zB un3) enc _ _ _ _ _ _ h1
 rw [ztF] at hl
 rcases cs with _ | ⟨c0, _ | ⟨c1, _ | ⟨c2, cs⟩⟩⟩ <;> simp at hl
 have r0 : [c0] = _ := r0
 cases r0
 have r1 : [c1] = _ := r1
 cases r1
 exact ⟨⟨v0, v1⟩, rfl, ⟨k0, k1⟩⟩
def vh (x : yU) : Prop := okI x.From ∧ okI x.To ∧ yX x.Years
theorem zcp {W : World} : xR Tryz.prog W 200 qC vh := by
 intro H enc base fuel spare held cs x h
 obtain ⟨hl, n0, y0, h0⟩ := zt zrW h
 obtain ⟨v0, r0, k0⟩ := (zB un3) enc _ _ _ _ _ _ h0
 obtain ⟨hl, n1, y1, h1⟩ := zt zrV h
 obtain ⟨v1, r1, k1⟩ := (zB un3) enc _ _ _ _ _ _ h1
 obtain ⟨hl, n2, y2, h2⟩ := zt zrU h
 obtain ⟨v2, r2, k2⟩ := qS enc _ _ _ _ _ _ h2
 rw [ztE] at hl
 rcases cs with _ | ⟨c0, _ | ⟨c1, _ | ⟨c2, _ | ⟨c3, _ | ⟨c4, cs⟩⟩⟩⟩⟩ <;> simp at hl
 have r0 : [c0] = _ := r0
 cases r0
 have r1 : [c1] = _ := r1
 cases r1
 have r2 : [c2, c3] = _ := r2
 cases r2
 exact ⟨⟨v0, v1, v2⟩, rfl, ⟨k0, k1, k2⟩⟩
def zdG (x : zdt) : Prop := (fun xs => ∀ y ∈ xs, vg y) x.People ∧ (fun xs => ∀ y ∈ xs, vO y) x.Events ∧ (fun xs => ∀ y ∈ xs, vh y) x.Memories
theorem zdS {W : World} : xR Tryz.prog W 32 zkG zdG := by
 intro H enc base fuel spare held cs x h
 obtain ⟨hl, n0, y0, h0⟩ := zt zvB h
 obtain ⟨v0, r0, k0⟩ := (qy zzh ztG (by decide) zco) enc _ _ _ _ _ _ h0
 obtain ⟨hl, n1, y1, h1⟩ := zt zvA h
 obtain ⟨v1, r1, k1⟩ := (qy zzg ztF (by decide) zdc) enc _ _ _ _ _ _ h1
 obtain ⟨hl, n2, y2, h2⟩ := zt zvz h
 obtain ⟨v2, r2, k2⟩ := (qy zzf ztE (by decide) zcp) enc _ _ _ _ _ _ h2
 rw [zAv] at hl
 rcases cs with _ | ⟨c0, _ | ⟨c1, _ | ⟨c2, _ | ⟨c3, cs⟩⟩⟩⟩ <;> simp at hl
 obtain ⟨a0_0, n0_0, c0_0, e0, s0_0⟩ := r0
 have e0 : [c0] = _ := e0
 cases e0
 obtain ⟨a1_0, n1_0, c1_0, e1, s1_0⟩ := r1
 have e1 : [c1] = _ := e1
 cases e1
 obtain ⟨a2_0, n2_0, c2_0, e2, s2_0⟩ := r2
 have e2 : [c2] = _ := e2
 cases e2
 exact ⟨⟨v0, v1, v2⟩, ⟨a0_0, n0_0, c0_0, a1_0, n1_0, c1_0, a2_0, n2_0, c2_0, rfl, s0_0, s1_0, s2_0⟩, ⟨k0, k1, k2⟩⟩
def vM (x : xy) : Prop := okI x.Count ∧ okI x.Room ∧ yX x.Grow ∧ okI x.Drift ∧ okI x.Into ∧ yX x.Open ∧ yX x.Shut ∧ okI x.Goal ∧ okI x.Worth
theorem zc9 {W : World} : xR Tryz.prog W 202 qK vM := by
 intro H enc base fuel spare held cs x h
 obtain ⟨hl, n0, y0, h0⟩ := zt zrT h
 obtain ⟨v0, r0, k0⟩ := (zB un3) enc _ _ _ _ _ _ h0
 obtain ⟨hl, n1, y1, h1⟩ := zt zrS h
 obtain ⟨v1, r1, k1⟩ := (zB un3) enc _ _ _ _ _ _ h1
 obtain ⟨hl, n2, y2, h2⟩ := zt zrR h
 obtain ⟨v2, r2, k2⟩ := qS enc _ _ _ _ _ _ h2
 obtain ⟨hl, n3, y3, h3⟩ := zt zrQ h
 obtain ⟨v3, r3, k3⟩ := (zB un3) enc _ _ _ _ _ _ h3
 obtain ⟨hl, n4, y4, h4⟩ := zt zrP h
 obtain ⟨v4, r4, k4⟩ := (zB un3) enc _ _ _ _ _ _ h4
 obtain ⟨hl, n5, y5, h5⟩ := zt zrO h
 obtain ⟨v5, r5, k5⟩ := qS enc _ _ _ _ _ _ h5
 obtain ⟨hl, n6, y6, h6⟩ := zt zrN h
 obtain ⟨v6, r6, k6⟩ := qS enc _ _ _ _ _ _ h6
 obtain ⟨hl, n7, y7, h7⟩ := zt zrM h
 obtain ⟨v7, r7, k7⟩ := (zB un3) enc _ _ _ _ _ _ h7
 obtain ⟨hl, n8, y8, h8⟩ := zt zrL h
 obtain ⟨v8, r8, k8⟩ := (zB un3) enc _ _ _ _ _ _ h8
 rw [ztD] at hl
 rcases cs with _ | ⟨c0, _ | ⟨c1, _ | ⟨c2, _ | ⟨c3, _ | ⟨c4, _ | ⟨c5, _ | ⟨c6, _ | ⟨c7, _ | ⟨c8, _ | ⟨c9, _ | ⟨c10, _ | ⟨c11, _ | ⟨c12, cs⟩⟩⟩⟩⟩⟩⟩⟩⟩⟩⟩⟩⟩ <;> simp at hl
 have r0 : [c0] = _ := r0
 cases r0
 have r1 : [c1] = _ := r1
 cases r1
 have r2 : [c2, c3] = _ := r2
 cases r2
 have r3 : [c4] = _ := r3
 cases r3
 have r4 : [c5] = _ := r4
 cases r4
 have r5 : [c6, c7] = _ := r5
 cases r5
 have r6 : [c8, c9] = _ := r6
 cases r6
 have r7 : [c10] = _ := r7
 cases r7
 have r8 : [c11] = _ := r8
 cases r8
 exact ⟨⟨v0, v1, v2, v3, v4, v5, v6, v7, v8⟩, rfl, ⟨k0, k1, k2, k3, k4, k5, k6, k7, k8⟩⟩
def zlc (x : zqH) : Prop := (fun xs => ∀ y ∈ xs, vM y) x.Places ∧ okI x.Miss ∧ okI x.Seasons
theorem zii {W : World} : xR Tryz.prog W 35 zwU zlc := by
 intro H enc base fuel spare held cs x h
 obtain ⟨hl, n0, y0, h0⟩ := zt zvy h
 obtain ⟨v0, r0, k0⟩ := (qy zze ztD (by decide) zc9) enc _ _ _ _ _ _ h0
 obtain ⟨hl, n1, y1, h1⟩ := zt zvx h
 obtain ⟨v1, r1, k1⟩ := (zB un3) enc _ _ _ _ _ _ h1
 obtain ⟨hl, n2, y2, h2⟩ := zt zvw h
 obtain ⟨v2, r2, k2⟩ := (zB un3) enc _ _ _ _ _ _ h2
 rw [zAu] at hl
 rcases cs with _ | ⟨c0, _ | ⟨c1, _ | ⟨c2, _ | ⟨c3, cs⟩⟩⟩⟩ <;> simp at hl
 obtain ⟨a0_0, n0_0, c0_0, e0, s0_0⟩ := r0
 have e0 : [c0] = _ := e0
 cases e0
 have r1 : [c1] = _ := r1
 cases r1
 have r2 : [c2] = _ := r2
 cases r2
 exact ⟨⟨v0, v1, v2⟩, ⟨a0_0, n0_0, c0_0, rfl, s0_0⟩, ⟨k0, k1, k2⟩⟩
def zaC (x : jc) : Prop := okI x.Day ∧ okI x.From ∧ okI x.To ∧ okI x.Cost
theorem zdV {W : World} : xR Tryz.prog W 156 yb zaC := by
 intro H enc base fuel spare held cs x h
 obtain ⟨hl, n0, y0, h0⟩ := zt zr7 h
 obtain ⟨v0, r0, k0⟩ := (zB un3) enc _ _ _ _ _ _ h0
 obtain ⟨hl, n1, y1, h1⟩ := zt zr6 h
 obtain ⟨v1, r1, k1⟩ := (zB un3) enc _ _ _ _ _ _ h1
 obtain ⟨hl, n2, y2, h2⟩ := zt zr5 h
 obtain ⟨v2, r2, k2⟩ := (zB un3) enc _ _ _ _ _ _ h2
 obtain ⟨hl, n3, y3, h3⟩ := zt zr4 h
 obtain ⟨v3, r3, k3⟩ := (zB un3) enc _ _ _ _ _ _ h3
 rw [ztI] at hl
 rcases cs with _ | ⟨c0, _ | ⟨c1, _ | ⟨c2, _ | ⟨c3, _ | ⟨c4, cs⟩⟩⟩⟩⟩ <;> simp at hl
 have r0 : [c0] = _ := r0
 cases r0
 have r1 : [c1] = _ := r1
 cases r1
 have r2 : [c2] = _ := r2
 cases r2
 have r3 : [c3] = _ := r3
 cases r3
 exact ⟨⟨v0, v1, v2, v3⟩, rfl, ⟨k0, k1, k2, k3⟩⟩
def zeJ (x : zfE) : Prop := okI x.Islets ∧ (fun xs => ∀ y ∈ xs, okI y) x.Infested ∧ (fun xs => ∀ y ∈ xs, okI y) x.Clean ∧ (fun xs => ∀ y ∈ xs, zaC y) x.Trips ∧ okI x.Wait
theorem zeH {W : World} : xR Tryz.prog W 38 znm zeJ := by
 intro H enc base fuel spare held cs x h
 obtain ⟨hl, n0, y0, h0⟩ := zt zvv h
 obtain ⟨v0, r0, k0⟩ := (zB un3) enc _ _ _ _ _ _ h0
 obtain ⟨hl, n1, y1, h1⟩ := zt zvu h
 obtain ⟨v1, r1, k1⟩ := (qy zjC ce3 (by decide) (zB un3)) enc _ _ _ _ _ _ h1
 obtain ⟨hl, n2, y2, h2⟩ := zt zvt h
 obtain ⟨v2, r2, k2⟩ := (qy zjC ce3 (by decide) (zB un3)) enc _ _ _ _ _ _ h2
 obtain ⟨hl, n3, y3, h3⟩ := zt zvs h
 obtain ⟨v3, r3, k3⟩ := (qy zzd ztI (by decide) zdV) enc _ _ _ _ _ _ h3
 obtain ⟨hl, n4, y4, h4⟩ := zt zvr h
 obtain ⟨v4, r4, k4⟩ := (zB un3) enc _ _ _ _ _ _ h4
 rw [zAt] at hl
 rcases cs with _ | ⟨c0, _ | ⟨c1, _ | ⟨c2, _ | ⟨c3, _ | ⟨c4, _ | ⟨c5, cs⟩⟩⟩⟩⟩⟩ <;> simp at hl
 have r0 : [c0] = _ := r0
 cases r0
 obtain ⟨a1_0, n1_0, c1_0, e1, s1_0⟩ := r1
 have e1 : [c1] = _ := e1
 cases e1
 obtain ⟨a2_0, n2_0, c2_0, e2, s2_0⟩ := r2
 have e2 : [c2] = _ := e2
 cases e2
 obtain ⟨a3_0, n3_0, c3_0, e3, s3_0⟩ := r3
 have e3 : [c3] = _ := e3
 cases e3
 have r4 : [c4] = _ := r4
 cases r4
 exact ⟨⟨v0, v1, v2, v3, v4⟩, ⟨a1_0, n1_0, c1_0, a2_0, n2_0, c2_0, a3_0, n3_0, c3_0, rfl, s1_0, s2_0, s3_0⟩, ⟨k0, k1, k2, k3, k4⟩⟩
def zbM (x : zcV) : Prop := (fun xs => ∀ y ∈ xs, yX y) x.Goods ∧ okI x.Weight ∧ okI x.Cost
theorem zeG {W : World} : xR Tryz.prog W 117 yF zbM := by
 intro H enc base fuel spare held cs x h
 obtain ⟨hl, n0, y0, h0⟩ := zt zsa h
 obtain ⟨v0, r0, k0⟩ := (qy zw3 zwH (by decide) qS) enc _ _ _ _ _ _ h0
 obtain ⟨hl, n1, y1, h1⟩ := zt zr9 h
 obtain ⟨v1, r1, k1⟩ := (zB un3) enc _ _ _ _ _ _ h1
 obtain ⟨hl, n2, y2, h2⟩ := zt zr8 h
 obtain ⟨v2, r2, k2⟩ := (zB un3) enc _ _ _ _ _ _ h2
 rw [ztJ] at hl
 rcases cs with _ | ⟨c0, _ | ⟨c1, _ | ⟨c2, _ | ⟨c3, cs⟩⟩⟩⟩ <;> simp at hl
 obtain ⟨a0_0, n0_0, c0_0, e0, s0_0⟩ := r0
 have e0 : [c0] = _ := e0
 cases e0
 have r1 : [c1] = _ := r1
 cases r1
 have r2 : [c2] = _ := r2
 cases r2
 exact ⟨⟨v0, v1, v2⟩, ⟨a0_0, n0_0, c0_0, rfl, s0_0⟩, ⟨k0, k1, k2⟩⟩
def zct (x : zb1) : Prop := (fun xs => ∀ y ∈ xs, okI y) x.Stock ∧ (fun xs => ∀ y ∈ xs, yX y) x.Use ∧ yX x.Gap ∧ (fun xs => ∀ y ∈ xs, zbM y) x.Lots ∧ okI x.Hold
theorem zc8 {W : World} : xR Tryz.prog W 42 zjs zct := by
 intro H enc base fuel spare held cs x h
 obtain ⟨hl, n0, y0, h0⟩ := zt zvq h
 obtain ⟨v0, r0, k0⟩ := (qy zjC ce3 (by decide) (zB un3)) enc _ _ _ _ _ _ h0
 obtain ⟨hl, n1, y1, h1⟩ := zt zvp h
 obtain ⟨v1, r1, k1⟩ := (qy zw3 zwH (by decide) qS) enc _ _ _ _ _ _ h1
 obtain ⟨hl, n2, y2, h2⟩ := zt zvo h
 obtain ⟨v2, r2, k2⟩ := qS enc _ _ _ _ _ _ h2
 obtain ⟨hl, n3, y3, h3⟩ := zt zvn h
 obtain ⟨v3, r3, k3⟩ := (qy zzc ztJ (by decide) zeG) enc _ _ _ _ _ _ h3
 obtain ⟨hl, n4, y4, h4⟩ := zt zvm h
 obtain ⟨v4, r4, k4⟩ := (zB un3) enc _ _ _ _ _ _ h4
 rw [zAs] at hl
 rcases cs with _ | ⟨c0, _ | ⟨c1, _ | ⟨c2, _ | ⟨c3, _ | ⟨c4, _ | ⟨c5, _ | ⟨c6, cs⟩⟩⟩⟩⟩⟩⟩ <;> simp at hl
 obtain ⟨a0_0, n0_0, c0_0, e0, s0_0⟩ := r0
 have e0 : [c0] = _ := e0
 cases e0
 obtain ⟨a1_0, n1_0, c1_0, e1, s1_0⟩ := r1
 have e1 : [c1] = _ := e1
 cases e1
 have r2 : [c2, c3] = _ := r2
 cases r2
 obtain ⟨a3_0, n3_0, c3_0, e3, s3_0⟩ := r3
 have e3 : [c4] = _ := e3
 cases e3
 have r4 : [c5] = _ := r4
 cases r4
 exact ⟨⟨v0, v1, v2, v3, v4⟩, ⟨a0_0, n0_0, c0_0, a1_0, n1_0, c1_0, a3_0, n3_0, c3_0, rfl, s0_0, s1_0, s3_0⟩, ⟨k0, k1, k2, k3, k4⟩⟩
def zaB (x : zE) : Prop := okI x.Need ∧ okI x.Keep ∧ (fun _ => True) x.Must
theorem zdU {W : World} : xR Tryz.prog W 115 zO zaB := by
 intro H enc base fuel spare held cs x h
 obtain ⟨hl, n0, y0, h0⟩ := zt zsd h
 obtain ⟨v0, r0, k0⟩ := (zB un3) enc _ _ _ _ _ _ h0
 obtain ⟨hl, n1, y1, h1⟩ := zt zsc h
 obtain ⟨v1, r1, k1⟩ := (zB un3) enc _ _ _ _ _ _ h1
 obtain ⟨hl, n2, y2, h2⟩ := zt zsb h
 obtain ⟨v2, r2, k2⟩ := (zjZ un4) enc _ _ _ _ _ _ h2
 rw [ztK] at hl
 rcases cs with _ | ⟨c0, _ | ⟨c1, _ | ⟨c2, _ | ⟨c3, cs⟩⟩⟩⟩ <;> simp at hl
 have r0 : [c0] = _ := r0
 cases r0
 have r1 : [c1] = _ := r1
 cases r1
 have r2 : [c2] = _ := r2
 cases r2
 exact ⟨⟨v0, v1, v2⟩, rfl, ⟨k0, k1, k2⟩⟩
def zbA (x : zn) : Prop := okI x.Sunny ∧ okI x.Cloudy ∧ okI x.Size ∧ okI x.Fade ∧ okI x.Start ∧ (fun xs => ∀ y ∈ xs, zaB y) x.Loads ∧ okI x.Days ∧ okI x.Window ∧ okI x.Most ∧ okI x.Panel ∧ okI x.Battery
theorem zcq {W : World} : xR Tryz.prog W 45 zhT zbA := by
 intro H enc base fuel spare held cs x h
 obtain ⟨hl, n0, y0, h0⟩ := zt zvl h
 obtain ⟨v0, r0, k0⟩ := (zB un3) enc _ _ _ _ _ _ h0
 obtain ⟨hl, n1, y1, h1⟩ := zt zvk h
 obtain ⟨v1, r1, k1⟩ := (zB un3) enc _ _ _ _ _ _ h1
 obtain ⟨hl, n2, y2, h2⟩ := zt zvj h
 obtain ⟨v2, r2, k2⟩ := (zB un3) enc _ _ _ _ _ _ h2
 obtain ⟨hl, n3, y3, h3⟩ := zt zvi h
 obtain ⟨v3, r3, k3⟩ := (zB un3) enc _ _ _ _ _ _ h3
 obtain ⟨hl, n4, y4, h4⟩ := zt zvh h
 obtain ⟨v4, r4, k4⟩ := (zB un3) enc _ _ _ _ _ _ h4
 obtain ⟨hl, n5, y5, h5⟩ := zt zvg h
 obtain ⟨v5, r5, k5⟩ := (qy zzb ztK (by decide) zdU) enc _ _ _ _ _ _ h5
 obtain ⟨hl, n6, y6, h6⟩ := zt zvf h
 obtain ⟨v6, r6, k6⟩ := (zB un3) enc _ _ _ _ _ _ h6
 obtain ⟨hl, n7, y7, h7⟩ := zt zve h
 obtain ⟨v7, r7, k7⟩ := (zB un3) enc _ _ _ _ _ _ h7
 obtain ⟨hl, n8, y8, h8⟩ := zt zvd h
 obtain ⟨v8, r8, k8⟩ := (zB un3) enc _ _ _ _ _ _ h8
 obtain ⟨hl, n9, y9, h9⟩ := zt zvc h
 obtain ⟨v9, r9, k9⟩ := (zB un3) enc _ _ _ _ _ _ h9
 obtain ⟨hl, n10, y10, h10⟩ := zt zrH h
 obtain ⟨v10, r10, k10⟩ := (zB un3) enc _ _ _ _ _ _ h10
 rw [zAr] at hl
 rcases cs with _ | ⟨c0, _ | ⟨c1, _ | ⟨c2, _ | ⟨c3, _ | ⟨c4, _ | ⟨c5, _ | ⟨c6, _ | ⟨c7, _ | ⟨c8, _ | ⟨c9, _ | ⟨c10, _ | ⟨c11, cs⟩⟩⟩⟩⟩⟩⟩⟩⟩⟩⟩⟩ <;> simp at hl
 have r0 : [c0] = _ := r0
 cases r0
 have r1 : [c1] = _ := r1
 cases r1
 have r2 : [c2] = _ := r2
 cases r2
 have r3 : [c3] = _ := r3
 cases r3
 have r4 : [c4] = _ := r4
 cases r4
 obtain ⟨a5_0, n5_0, c5_0, e5, s5_0⟩ := r5
 have e5 : [c5] = _ := e5
 cases e5
 have r6 : [c6] = _ := r6
 cases r6
 have r7 : [c7] = _ := r7
 cases r7
 have r8 : [c8] = _ := r8
 cases r8
 have r9 : [c9] = _ := r9
 cases r9
 have r10 : [c10] = _ := r10
 cases r10
 exact ⟨⟨v0, v1, v2, v3, v4, v5, v6, v7, v8, v9, v10⟩, ⟨a5_0, n5_0, c5_0, rfl, s5_0⟩, ⟨k0, k1, k2, k3, k4, k5, k6, k7, k8, k9, k10⟩⟩
def zdH (x : zdu) : Prop := okI x.Cells ∧ (fun xs => ∀ y ∈ xs, okI y) x.Roads ∧ (fun xs => ∀ y ∈ xs, okI y) x.Zones ∧ (fun xs => ∀ y ∈ xs, okI y) x.Berths ∧ okI x.Days
theorem zdT {W : World} : xR Tryz.prog W 47 zkH zdH := by
 intro H enc base fuel spare held cs x h
 obtain ⟨hl, n0, y0, h0⟩ := zt zvb h
 obtain ⟨v0, r0, k0⟩ := (zB un3) enc _ _ _ _ _ _ h0
 obtain ⟨hl, n1, y1, h1⟩ := zt zva h
 obtain ⟨v1, r1, k1⟩ := (qy zjC ce3 (by decide) (zB un3)) enc _ _ _ _ _ _ h1
 obtain ⟨hl, n2, y2, h2⟩ := zt zu9 h
 obtain ⟨v2, r2, k2⟩ := (qy zjC ce3 (by decide) (zB un3)) enc _ _ _ _ _ _ h2
 obtain ⟨hl, n3, y3, h3⟩ := zt zu8 h
 obtain ⟨v3, r3, k3⟩ := (qy zjC ce3 (by decide) (zB un3)) enc _ _ _ _ _ _ h3
 obtain ⟨hl, n4, y4, h4⟩ := zt zu7 h
 obtain ⟨v4, r4, k4⟩ := (zB un3) enc _ _ _ _ _ _ h4
 rw [zAq] at hl
 rcases cs with _ | ⟨c0, _ | ⟨c1, _ | ⟨c2, _ | ⟨c3, _ | ⟨c4, _ | ⟨c5, cs⟩⟩⟩⟩⟩⟩ <;> simp at hl
 have r0 : [c0] = _ := r0
 cases r0
 obtain ⟨a1_0, n1_0, c1_0, e1, s1_0⟩ := r1
 have e1 : [c1] = _ := e1
 cases e1
 obtain ⟨a2_0, n2_0, c2_0, e2, s2_0⟩ := r2
 have e2 : [c2] = _ := e2
 cases e2
 obtain ⟨a3_0, n3_0, c3_0, e3, s3_0⟩ := r3
 have e3 : [c3] = _ := e3
 cases e3
 have r4 : [c4] = _ := r4
 cases r4
 exact ⟨⟨v0, v1, v2, v3, v4⟩, ⟨a1_0, n1_0, c1_0, a2_0, n2_0, c2_0, a3_0, n3_0, c3_0, rfl, s1_0, s2_0, s3_0⟩, ⟨k0, k1, k2, k3, k4⟩⟩
def qP (x : zC) : Prop := zcu x.Islet ∧ okI x.Tank ∧ zdG x.Book ∧ zlc x.Reef ∧ zeJ x.Sea ∧ zct x.Store ∧ zbA x.System ∧ zdH x.Fishing ∧ okI x.Money
theorem zbr {W : World} : xR Tryz.prog W 49 qc qP := by
 intro H enc base fuel spare held cs x h
 obtain ⟨hl, n0, y0, h0⟩ := zt zu6 h
 obtain ⟨v0, r0, k0⟩ := zdb enc _ _ _ _ _ _ h0
 obtain ⟨hl, n1, y1, h1⟩ := zt zu5 h
 obtain ⟨v1, r1, k1⟩ := (zB un3) enc _ _ _ _ _ _ h1
 obtain ⟨hl, n2, y2, h2⟩ := zt zu4 h
 obtain ⟨v2, r2, k2⟩ := zdS enc _ _ _ _ _ _ h2
 obtain ⟨hl, n3, y3, h3⟩ := zt zu3 h
 obtain ⟨v3, r3, k3⟩ := zii enc _ _ _ _ _ _ h3
 obtain ⟨hl, n4, y4, h4⟩ := zt zu2 h
 obtain ⟨v4, r4, k4⟩ := zeH enc _ _ _ _ _ _ h4
 obtain ⟨hl, n5, y5, h5⟩ := zt zu1 h
 obtain ⟨v5, r5, k5⟩ := zc8 enc _ _ _ _ _ _ h5
 obtain ⟨hl, n6, y6, h6⟩ := zt zu0 h
 obtain ⟨v6, r6, k6⟩ := zcq enc _ _ _ _ _ _ h6
 obtain ⟨hl, n7, y7, h7⟩ := zt zuZ h
 obtain ⟨v7, r7, k7⟩ := zdT enc _ _ _ _ _ _ h7
 obtain ⟨hl, n8, y8, h8⟩ := zt zuY h
 obtain ⟨v8, r8, k8⟩ := (zB un3) enc _ _ _ _ _ _ h8
 rw [zAp] at hl
 rcases cs with _ | ⟨c0, _ | ⟨c1, _ | ⟨c2, _ | ⟨c3, _ | ⟨c4, _ | ⟨c5, _ | ⟨c6, _ | ⟨c7, _ | ⟨c8, _ | ⟨c9, _ | ⟨c10, _ | ⟨c11, _ | ⟨c12, _ | ⟨c13, _ | ⟨c14, _ | ⟨c15, _ | ⟨c16, _ | ⟨c17, _ | ⟨c18, _ | ⟨c19, _ | ⟨c20, _ | ⟨c21, _ | ⟨c22, _ | ⟨c23, _ | ⟨c24, _ | ⟨c25, _ | ⟨c26, _ | ⟨c27, _ | ⟨c28, _ | ⟨c29, _ | ⟨c30, _ | ⟨c31, _ | ⟨c32, _ | ⟨c33, _ | ⟨c34, _ | ⟨c35, _ | ⟨c36, _ | ⟨c37, _ | ⟨c38, _ | ⟨c39, _ | ⟨c40, _ | ⟨c41, _ | ⟨c42, _ | ⟨c43, _ | ⟨c44, _ | ⟨c45, _ | ⟨c46, _ | ⟨c47, _ | ⟨c48, _ | ⟨c49, _ | ⟨c50, _ | ⟨c51, cs⟩⟩⟩⟩⟩⟩⟩⟩⟩⟩⟩⟩⟩⟩⟩⟩⟩⟩⟩⟩⟩⟩⟩⟩⟩⟩⟩⟩⟩⟩⟩⟩⟩⟩⟩⟩⟩⟩⟩⟩⟩⟩⟩⟩⟩⟩⟩⟩⟩⟩⟩⟩ <;> simp at hl
 obtain ⟨a0_0, n0_0, c0_0, a0_1, n0_1, c0_1, e0, s0_0, s0_1⟩ := r0
 have e0 : [c0, c1, c2, c3, c4, c5, c6, c7, c8, c9, c10, c11, c12, c13, c14, c15] = _ := e0
 cases e0
 have r1 : [c16] = _ := r1
 cases r1
 obtain ⟨a2_0, n2_0, c2_0, a2_1, n2_1, c2_1, a2_2, n2_2, c2_2, e2, s2_0, s2_1, s2_2⟩ := r2
 have e2 : [c17, c18, c19] = _ := e2
 cases e2
 obtain ⟨a3_0, n3_0, c3_0, e3, s3_0⟩ := r3
 have e3 : [c20, c21, c22] = _ := e3
 cases e3
 obtain ⟨a4_0, n4_0, c4_0, a4_1, n4_1, c4_1, a4_2, n4_2, c4_2, e4, s4_0, s4_1, s4_2⟩ := r4
 have e4 : [c23, c24, c25, c26, c27] = _ := e4
 cases e4
 obtain ⟨a5_0, n5_0, c5_0, a5_1, n5_1, c5_1, a5_2, n5_2, c5_2, e5, s5_0, s5_1, s5_2⟩ := r5
 have e5 : [c28, c29, c30, c31, c32, c33] = _ := e5
 cases e5
 obtain ⟨a6_0, n6_0, c6_0, e6, s6_0⟩ := r6
 have e6 : [c34, c35, c36, c37, c38, c39, c40, c41, c42, c43, c44] = _ := e6
 cases e6
 obtain ⟨a7_0, n7_0, c7_0, a7_1, n7_1, c7_1, a7_2, n7_2, c7_2, e7, s7_0, s7_1, s7_2⟩ := r7
 have e7 : [c45, c46, c47, c48, c49] = _ := e7
 cases e7
 have r8 : [c50] = _ := r8
 cases r8
 exact ⟨⟨v0, v1, v2, v3, v4, v5, v6, v7, v8⟩, ⟨a0_0, n0_0, c0_0, a0_1, n0_1, c0_1, a2_0, n2_0, c2_0, a2_1, n2_1, c2_1, a2_2, n2_2, c2_2, a3_0, n3_0, c3_0, a4_0, n4_0, c4_0, a4_1, n4_1, c4_1, a4_2, n4_2, c4_2, a5_0, n5_0, c5_0, a5_1, n5_1, c5_1, a5_2, n5_2, c5_2, a6_0, n6_0, c6_0, a7_0, n7_0, c7_0, a7_1, n7_1, c7_1, a7_2, n7_2, c7_2, rfl, s0_0, s0_1, s2_0, s2_1, s2_2, s3_0, s4_0, s4_1, s4_2, s5_0, s5_1, s5_2, s6_0, s7_0, s7_1, s7_2⟩, ⟨k0, k1, k2, k3, k4, k5, k6, k7, k8⟩⟩
end Go.Proofs.YtihedfkcccaonaaGreatDoor
