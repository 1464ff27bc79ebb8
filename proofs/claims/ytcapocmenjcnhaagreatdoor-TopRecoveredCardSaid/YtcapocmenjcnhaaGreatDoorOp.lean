/-
 What is handed to the laws, read as data of Lean's (printed by a program of ours).
-/
import Derived.Test.YtcapocmenjcnhaaGreatDoorFr
import Derived.Test.YtcapocmenjcnhaaGreatDoorBsC
import Derived.Test.YtcapocmenjcnhaaGreatDoorChecked
set_option linter.unusedVariables false
set_option linter.unusedSimpArgs false
namespace Go.Proofs.YtcapocmenjcnhaaGreatDoor
open Go.RowKit
open Go.ChangeShapes Go.WideShapes Go.ChangeAt
theorem zs2 : ownKnob Tryz.prog.godebug = none := by kernel_rfl
theorem zta : laidOutB Tryz.prog = true := by kernel_rfl
theorem zoG : Tryz.prog.cellsOf 108 = 3 := by kernel_rfl
theorem zoF : Tryz.prog.cellsOf 142 = 4 := by kernel_rfl
theorem zoE : Tryz.prog.cellsOf 193 = 6 := by kernel_rfl
theorem zoD : Tryz.prog.cellsOf 196 = 2 := by kernel_rfl
theorem zoC : Tryz.prog.cellsOf 198 = 2 := by kernel_rfl
theorem zoB : Tryz.prog.cellsOf 201 = 4 := by kernel_rfl
theorem zoA : Tryz.prog.cellsOf 207 = 3 := by kernel_rfl
theorem zpc : Tryz.prog.cellsOf 23 = 2 := by kernel_rfl
theorem zpN : Tryz.prog.cellsOf 24 = 1 := by kernel_rfl
theorem zAF : Tryz.prog.cellsOf 27 = 16 := by kernel_rfl
theorem ce3 : Tryz.prog.cellsOf 3 = 1 := by kernel_rfl
theorem zAE : Tryz.prog.cellsOf 32 = 3 := by kernel_rfl
theorem zAD : Tryz.prog.cellsOf 35 = 3 := by kernel_rfl
theorem zAC : Tryz.prog.cellsOf 38 = 5 := by kernel_rfl
theorem zAB : Tryz.prog.cellsOf 42 = 6 := by kernel_rfl
theorem zAA : Tryz.prog.cellsOf 45 = 11 := by kernel_rfl
theorem zAz : Tryz.prog.cellsOf 47 = 5 := by kernel_rfl
theorem zAy : Tryz.prog.cellsOf 49 = 51 := by kernel_rfl
theorem zAx : Tryz.prog.cellsOf 52 = 3 := by kernel_rfl
theorem zpM : Tryz.prog.cellsOf 70 = 12 := by kernel_rfl
theorem zuK : zL Tryz.prog 108 0 = some (39, 0, 1) := by kernel_rfl
theorem zuJ : zL Tryz.prog 108 1 = some (3, 1, 1) := by kernel_rfl
theorem zuI : zL Tryz.prog 108 2 = some (3, 2, 1) := by kernel_rfl
theorem zuH : zL Tryz.prog 142 0 = some (3, 0, 1) := by kernel_rfl
theorem zuG : zL Tryz.prog 142 1 = some (3, 1, 1) := by kernel_rfl
theorem zuF : zL Tryz.prog 142 2 = some (3, 2, 1) := by kernel_rfl
theorem zuE : zL Tryz.prog 142 3 = some (3, 3, 1) := by kernel_rfl
theorem zuD : zL Tryz.prog 193 0 = some (23, 0, 2) := by kernel_rfl
theorem zuC : zL Tryz.prog 193 1 = some (23, 2, 2) := by kernel_rfl
theorem zuB : zL Tryz.prog 193 2 = some (23, 4, 2) := by kernel_rfl
theorem zuA : zL Tryz.prog 196 0 = some (3, 0, 1) := by kernel_rfl
theorem zuz : zL Tryz.prog 196 1 = some (3, 1, 1) := by kernel_rfl
theorem zuy : zL Tryz.prog 198 0 = some (3, 0, 1) := by kernel_rfl
theorem zux : zL Tryz.prog 198 1 = some (3, 1, 1) := by kernel_rfl
theorem zuw : zL Tryz.prog 201 0 = some (3, 0, 1) := by kernel_rfl
theorem zuv : zL Tryz.prog 201 1 = some (3, 1, 1) := by kernel_rfl
theorem zuu : zL Tryz.prog 201 2 = some (23, 2, 2) := by kernel_rfl
theorem zut : zL Tryz.prog 207 0 = some (3, 0, 1) := by kernel_rfl
theorem zus : zL Tryz.prog 207 1 = some (3, 1, 1) := by kernel_rfl
theorem zur : zL Tryz.prog 207 2 = some (4, 2, 1) := by kernel_rfl
theorem zw6 : zL Tryz.prog 23 0 = some (3, 0, 1) := by kernel_rfl
theorem zw5 : zL Tryz.prog 23 1 = some (3, 1, 1) := by kernel_rfl
theorem zw4 : zL Tryz.prog 27 0 = some (3, 0, 1) := by kernel_rfl
theorem zw3 : zL Tryz.prog 27 1 = some (23, 1, 2) := by kernel_rfl
theorem zuq : zL Tryz.prog 27 10 = some (25, 13, 1) := by kernel_rfl
theorem zup : zL Tryz.prog 27 11 = some (3, 14, 1) := by kernel_rfl
theorem zuo : zL Tryz.prog 27 12 = some (3, 15, 1) := by kernel_rfl
theorem zw2 : zL Tryz.prog 27 2 = some (3, 3, 1) := by kernel_rfl
theorem zw1 : zL Tryz.prog 27 3 = some (3, 4, 1) := by kernel_rfl
theorem zw0 : zL Tryz.prog 27 4 = some (23, 5, 2) := by kernel_rfl
theorem zwZ : zL Tryz.prog 27 5 = some (23, 7, 2) := by kernel_rfl
theorem zwY : zL Tryz.prog 27 6 = some (3, 9, 1) := by kernel_rfl
theorem zwX : zL Tryz.prog 27 7 = some (3, 10, 1) := by kernel_rfl
theorem zwW : zL Tryz.prog 27 8 = some (3, 11, 1) := by kernel_rfl
theorem zwV : zL Tryz.prog 27 9 = some (24, 12, 1) := by kernel_rfl
theorem zwU : zL Tryz.prog 32 0 = some (28, 0, 1) := by kernel_rfl
theorem zwT : zL Tryz.prog 32 1 = some (29, 1, 1) := by kernel_rfl
theorem zwS : zL Tryz.prog 32 2 = some (30, 2, 1) := by kernel_rfl
theorem zwR : zL Tryz.prog 35 0 = some (33, 0, 1) := by kernel_rfl
theorem zwQ : zL Tryz.prog 35 1 = some (3, 1, 1) := by kernel_rfl
theorem zwP : zL Tryz.prog 35 2 = some (3, 2, 1) := by kernel_rfl
theorem zwO : zL Tryz.prog 38 0 = some (3, 0, 1) := by kernel_rfl
theorem zwN : zL Tryz.prog 38 1 = some (24, 1, 1) := by kernel_rfl
theorem zwM : zL Tryz.prog 38 2 = some (24, 2, 1) := by kernel_rfl
theorem zwL : zL Tryz.prog 38 3 = some (36, 3, 1) := by kernel_rfl
theorem zwK : zL Tryz.prog 38 4 = some (3, 4, 1) := by kernel_rfl
theorem zwJ : zL Tryz.prog 42 0 = some (24, 0, 1) := by kernel_rfl
theorem zwI : zL Tryz.prog 42 1 = some (39, 1, 1) := by kernel_rfl
theorem zwH : zL Tryz.prog 42 2 = some (23, 2, 2) := by kernel_rfl
theorem zwG : zL Tryz.prog 42 3 = some (40, 4, 1) := by kernel_rfl
theorem zwF : zL Tryz.prog 42 4 = some (3, 5, 1) := by kernel_rfl
theorem zwE : zL Tryz.prog 45 0 = some (3, 0, 1) := by kernel_rfl
theorem zwD : zL Tryz.prog 45 1 = some (3, 1, 1) := by kernel_rfl
theorem zun : zL Tryz.prog 45 10 = some (3, 10, 1) := by kernel_rfl
theorem zwC : zL Tryz.prog 45 2 = some (3, 2, 1) := by kernel_rfl
theorem zwB : zL Tryz.prog 45 3 = some (3, 3, 1) := by kernel_rfl
theorem zwA : zL Tryz.prog 45 4 = some (3, 4, 1) := by kernel_rfl
theorem zwz : zL Tryz.prog 45 5 = some (43, 5, 1) := by kernel_rfl
theorem zwy : zL Tryz.prog 45 6 = some (3, 6, 1) := by kernel_rfl
theorem zwx : zL Tryz.prog 45 7 = some (3, 7, 1) := by kernel_rfl
theorem zww : zL Tryz.prog 45 8 = some (3, 8, 1) := by kernel_rfl
theorem zwv : zL Tryz.prog 45 9 = some (3, 9, 1) := by kernel_rfl
theorem zwu : zL Tryz.prog 47 0 = some (3, 0, 1) := by kernel_rfl
theorem zwt : zL Tryz.prog 47 1 = some (24, 1, 1) := by kernel_rfl
theorem zws : zL Tryz.prog 47 2 = some (24, 2, 1) := by kernel_rfl
theorem zwr : zL Tryz.prog 47 3 = some (24, 3, 1) := by kernel_rfl
theorem zwq : zL Tryz.prog 47 4 = some (3, 4, 1) := by kernel_rfl
theorem zwp : zL Tryz.prog 49 0 = some (27, 0, 16) := by kernel_rfl
theorem zwo : zL Tryz.prog 49 1 = some (3, 16, 1) := by kernel_rfl
theorem zwn : zL Tryz.prog 49 2 = some (32, 17, 3) := by kernel_rfl
theorem zwm : zL Tryz.prog 49 3 = some (35, 20, 3) := by kernel_rfl
theorem zwl : zL Tryz.prog 49 4 = some (38, 23, 5) := by kernel_rfl
theorem zwk : zL Tryz.prog 49 5 = some (42, 28, 6) := by kernel_rfl
theorem zwj : zL Tryz.prog 49 6 = some (45, 34, 11) := by kernel_rfl
theorem zwi : zL Tryz.prog 49 7 = some (47, 45, 5) := by kernel_rfl
theorem zwh : zL Tryz.prog 49 8 = some (3, 50, 1) := by kernel_rfl
theorem zwg : zL Tryz.prog 52 0 = some (24, 0, 1) := by kernel_rfl
theorem zwf : zL Tryz.prog 52 1 = some (50, 1, 1) := by kernel_rfl
theorem zwe : zL Tryz.prog 52 2 = some (50, 2, 1) := by kernel_rfl
theorem zwd : zL Tryz.prog 70 0 = some (3, 0, 1) := by kernel_rfl
theorem zwc : zL Tryz.prog 70 1 = some (3, 1, 1) := by kernel_rfl
theorem zwb : zL Tryz.prog 70 2 = some (23, 2, 2) := by kernel_rfl
theorem zwa : zL Tryz.prog 70 3 = some (3, 4, 1) := by kernel_rfl
theorem zv9 : zL Tryz.prog 70 4 = some (3, 5, 1) := by kernel_rfl
theorem zv8 : zL Tryz.prog 70 5 = some (23, 6, 2) := by kernel_rfl
theorem zv7 : zL Tryz.prog 70 6 = some (23, 8, 2) := by kernel_rfl
theorem zv6 : zL Tryz.prog 70 7 = some (3, 10, 1) := by kernel_rfl
theorem zv5 : zL Tryz.prog 70 8 = some (3, 11, 1) := by kernel_rfl
theorem zzs : Tryz.prog.underlying 49 = some (.struct (Tryz.prog.fieldsOf 49)) := by kernel_rfl
theorem zzr : Tryz.prog.underlying 52 = some (.struct (Tryz.prog.fieldsOf 52)) := by kernel_rfl
theorem zee : Tryz.prog.underlying 24 = some (.slice 3) := by kernel_rfl
theorem zzq : Tryz.prog.underlying 25 = some (.slice 193) := by kernel_rfl
theorem zzp : Tryz.prog.underlying 28 = some (.slice 196) := by kernel_rfl
theorem zzo : Tryz.prog.underlying 29 = some (.slice 198) := by kernel_rfl
theorem un3 : Tryz.prog.underlying 3 = some (.int .i64) := by kernel_rfl
theorem zzn : Tryz.prog.underlying 30 = some (.slice 201) := by kernel_rfl
theorem zzm : Tryz.prog.underlying 33 = some (.slice 70) := by kernel_rfl
theorem zzl : Tryz.prog.underlying 36 = some (.slice 142) := by kernel_rfl
theorem zpq : Tryz.prog.underlying 39 = some (.slice 23) := by kernel_rfl
theorem un4 : Tryz.prog.underlying 4 = some .bool := by kernel_rfl
theorem zzk : Tryz.prog.underlying 40 = some (.slice 108) := by kernel_rfl
theorem zzj : Tryz.prog.underlying 43 = some (.slice 207) := by kernel_rfl
theorem zpp : Tryz.prog.underlying 4 = some .bool := by kernel_rfl
theorem zpo : Tryz.prog.underlying 50 = some (.slice 24) := by kernel_rfl
def xp (x : qy) : Prop := okI x.Low ∧ okI x.High
theorem ye {W : World} : ja Tryz.prog W 23 yM xp := by
 intro H enc base fuel spare held cs x h
 obtain ⟨hl, n0, y0, h0⟩ := zy zw6 h
 obtain ⟨v0, r0, k0⟩ := (zG un3) enc _ _ _ _ _ _ h0
 obtain ⟨hl, n1, y1, h1⟩ := zy zw5 h
 obtain ⟨v1, r1, k1⟩ := (zG un3) enc _ _ _ _ _ _ h1
 rw [zpc] at hl
 rcases cs with _ | ⟨c0, _ | ⟨c1, _ | ⟨c2, cs⟩⟩⟩ <;> simp at hl
 have r0 : [c0] = _ := r0
 cases r0
 have r1 : [c1] = _ := r1
 cases r1
 exact ⟨⟨v0, v1⟩, rfl, ⟨k0, k1⟩⟩
def zaj (x : xS) : Prop := xp x.Wet ∧ xp x.Dry ∧ xp x.Need
theorem zqd {W : World} : ja Tryz.prog W 193 qV zaj := by
 intro H enc base fuel spare held cs x h
 obtain ⟨hl, n0, y0, h0⟩ := zy zuD h
 obtain ⟨v0, r0, k0⟩ := ye enc _ _ _ _ _ _ h0
 obtain ⟨hl, n1, y1, h1⟩ := zy zuC h
 obtain ⟨v1, r1, k1⟩ := ye enc _ _ _ _ _ _ h1
 obtain ⟨hl, n2, y2, h2⟩ := zy zuB h
 obtain ⟨v2, r2, k2⟩ := ye enc _ _ _ _ _ _ h2
 rw [zoE] at hl
 rcases cs with _ | ⟨c0, _ | ⟨c1, _ | ⟨c2, _ | ⟨c3, _ | ⟨c4, _ | ⟨c5, _ | ⟨c6, cs⟩⟩⟩⟩⟩⟩⟩ <;> simp at hl
 have r0 : [c0, c1] = _ := r0
 cases r0
 have r1 : [c2, c3] = _ := r1
 cases r1
 have r2 : [c4, c5] = _ := r2
 cases r2
 exact ⟨⟨v0, v1, v2⟩, rfl, ⟨k0, k1, k2⟩⟩
def zcN (x : zcr) : Prop := okI x.Cap ∧ xp x.Start ∧ okI x.Roof ∧ okI x.Sand ∧ xp x.Soak ∧ xp x.Leak ∧ okI x.Pump ∧ okI x.Keep ∧ okI x.Size ∧ (fun xs => ∀ y ∈ xs, okI y) x.Wells ∧ (fun xs => ∀ y ∈ xs, zaj y) x.Months ∧ okI x.Most ∧ okI x.Row
theorem zqe {W : World} : ja Tryz.prog W 27 zra zcN := by
 intro H enc base fuel spare held cs x h
 obtain ⟨hl, n0, y0, h0⟩ := zy zw4 h
 obtain ⟨v0, r0, k0⟩ := (zG un3) enc _ _ _ _ _ _ h0
 obtain ⟨hl, n1, y1, h1⟩ := zy zw3 h
 obtain ⟨v1, r1, k1⟩ := ye enc _ _ _ _ _ _ h1
 obtain ⟨hl, n2, y2, h2⟩ := zy zw2 h
 obtain ⟨v2, r2, k2⟩ := (zG un3) enc _ _ _ _ _ _ h2
 obtain ⟨hl, n3, y3, h3⟩ := zy zw1 h
 obtain ⟨v3, r3, k3⟩ := (zG un3) enc _ _ _ _ _ _ h3
 obtain ⟨hl, n4, y4, h4⟩ := zy zw0 h
 obtain ⟨v4, r4, k4⟩ := ye enc _ _ _ _ _ _ h4
 obtain ⟨hl, n5, y5, h5⟩ := zy zwZ h
 obtain ⟨v5, r5, k5⟩ := ye enc _ _ _ _ _ _ h5
 obtain ⟨hl, n6, y6, h6⟩ := zy zwY h
 obtain ⟨v6, r6, k6⟩ := (zG un3) enc _ _ _ _ _ _ h6
 obtain ⟨hl, n7, y7, h7⟩ := zy zwX h
 obtain ⟨v7, r7, k7⟩ := (zG un3) enc _ _ _ _ _ _ h7
 obtain ⟨hl, n8, y8, h8⟩ := zy zwW h
 obtain ⟨v8, r8, k8⟩ := (zG un3) enc _ _ _ _ _ _ h8
 obtain ⟨hl, n9, y9, h9⟩ := zy zwV h
 obtain ⟨v9, r9, k9⟩ := (qe zee ce3 (by decide) (zG un3)) enc _ _ _ _ _ _ h9
 obtain ⟨hl, n10, y10, h10⟩ := zy zuq h
 obtain ⟨v10, r10, k10⟩ := (qe zzq zoE (by decide) zqd) enc _ _ _ _ _ _ h10
 obtain ⟨hl, n11, y11, h11⟩ := zy zup h
 obtain ⟨v11, r11, k11⟩ := (zG un3) enc _ _ _ _ _ _ h11
 obtain ⟨hl, n12, y12, h12⟩ := zy zuo h
 obtain ⟨v12, r12, k12⟩ := (zG un3) enc _ _ _ _ _ _ h12
 rw [zAF] at hl
 rcases cs with _ | ⟨c0, _ | ⟨c1, _ | ⟨c2, _ | ⟨c3, _ | ⟨c4, _ | ⟨c5, _ | ⟨c6, _ | ⟨c7, _ | ⟨c8, _ | ⟨c9, _ | ⟨c10, _ | ⟨c11, _ | ⟨c12, _ | ⟨c13, _ | ⟨c14, _ | ⟨c15, _ | ⟨c16, cs⟩⟩⟩⟩⟩⟩⟩⟩⟩⟩⟩⟩⟩⟩⟩⟩⟩ <;> simp at hl
 have r0 : [c0] = _ := r0
 cases r0
 have r1 : [c1, c2] = _ := r1
 cases r1
 have r2 : [c3] = _ := r2
 cases r2
 have r3 : [c4] = _ := r3
 cases r3
 have r4 : [c5, c6] = _ := r4
 cases r4
 have r5 : [c7, c8] = _ := r5
 cases r5
 have r6 : [c9] = _ := r6
 cases r6
 have r7 : [c10] = _ := r7
 cases r7
 have r8 : [c11] = _ := r8
 cases r8
 obtain ⟨a9_0, n9_0, c9_0, e9, s9_0⟩ := r9
 have e9 : [c12] = _ := e9
 cases e9
 obtain ⟨a10_0, n10_0, c10_0, e10, s10_0⟩ := r10
 have e10 : [c13] = _ := e10
 cases e10
 have r11 : [c14] = _ := r11
 cases r11
 have r12 : [c15] = _ := r12
 cases r12
 exact ⟨⟨v0, v1, v2, v3, v4, v5, v6, v7, v8, v9, v10, v11, v12⟩, ⟨a9_0, n9_0, c9_0, a10_0, n10_0, c10_0, rfl, s9_0, s10_0⟩, ⟨k0, k1, k2, k3, k4, k5, k6, k7, k8, k9, k10, k11, k12⟩⟩
def vB (x : xm) : Prop := okI x.Mother ∧ okI x.Adopted
theorem zp5 {W : World} : ja Tryz.prog W 196 qG vB := by
 intro H enc base fuel spare held cs x h
 obtain ⟨hl, n0, y0, h0⟩ := zy zuA h
 obtain ⟨v0, r0, k0⟩ := (zG un3) enc _ _ _ _ _ _ h0
 obtain ⟨hl, n1, y1, h1⟩ := zy zuz h
 obtain ⟨v1, r1, k1⟩ := (zG un3) enc _ _ _ _ _ _ h1
 rw [zoD] at hl
 rcases cs with _ | ⟨c0, _ | ⟨c1, _ | ⟨c2, cs⟩⟩⟩ <;> simp at hl
 have r0 : [c0] = _ := r0
 cases r0
 have r1 : [c1] = _ := r1
 cases r1
 exact ⟨⟨v0, v1⟩, rfl, ⟨k0, k1⟩⟩
def zak (x : xT) : Prop := okI x.Strip ∧ okI x.Holder
theorem zqf {W : World} : ja Tryz.prog W 198 qW zak := by
 intro H enc base fuel spare held cs x h
 obtain ⟨hl, n0, y0, h0⟩ := zy zuy h
 obtain ⟨v0, r0, k0⟩ := (zG un3) enc _ _ _ _ _ _ h0
 obtain ⟨hl, n1, y1, h1⟩ := zy zux h
 obtain ⟨v1, r1, k1⟩ := (zG un3) enc _ _ _ _ _ _ h1
 rw [zoC] at hl
 rcases cs with _ | ⟨c0, _ | ⟨c1, _ | ⟨c2, cs⟩⟩⟩ <;> simp at hl
 have r0 : [c0] = _ := r0
 cases r0
 have r1 : [c1] = _ := r1
 cases r1
 exact ⟨⟨v0, v1⟩, rfl, ⟨k0, k1⟩⟩
def vC (x : xn) : Prop := okI x.From ∧ okI x.To ∧ xp x.Years
theorem zp6 {W : World} : ja Tryz.prog W 201 qH vC := by
 intro H enc base fuel spare held cs x h
 obtain ⟨hl, n0, y0, h0⟩ := zy zuw h
 obtain ⟨v0, r0, k0⟩ := (zG un3) enc _ _ _ _ _ _ h0
 obtain ⟨hl, n1, y1, h1⟩ := zy zuv h
 obtain ⟨v1, r1, k1⟩ := (zG un3) enc _ _ _ _ _ _ h1
 obtain ⟨hl, n2, y2, h2⟩ := zy zuu h
 obtain ⟨v2, r2, k2⟩ := ye enc _ _ _ _ _ _ h2
 rw [zoB] at hl
 rcases cs with _ | ⟨c0, _ | ⟨c1, _ | ⟨c2, _ | ⟨c3, _ | ⟨c4, cs⟩⟩⟩⟩⟩ <;> simp at hl
 have r0 : [c0] = _ := r0
 cases r0
 have r1 : [c1] = _ := r1
 cases r1
 have r2 : [c2, c3] = _ := r2
 cases r2
 exact ⟨⟨v0, v1, v2⟩, rfl, ⟨k0, k1, k2⟩⟩
def zd2 (x : zdU) : Prop := (fun xs => ∀ y ∈ xs, vB y) x.People ∧ (fun xs => ∀ y ∈ xs, zak y) x.Events ∧ (fun xs => ∀ y ∈ xs, vC y) x.Memories
theorem zqj {W : World} : ja Tryz.prog W 32 zrM zd2 := by
 intro H enc base fuel spare held cs x h
 obtain ⟨hl, n0, y0, h0⟩ := zy zwU h
 obtain ⟨v0, r0, k0⟩ := (qe zzp zoD (by decide) zp5) enc _ _ _ _ _ _ h0
 obtain ⟨hl, n1, y1, h1⟩ := zy zwT h
 obtain ⟨v1, r1, k1⟩ := (qe zzo zoC (by decide) zqf) enc _ _ _ _ _ _ h1
 obtain ⟨hl, n2, y2, h2⟩ := zy zwS h
 obtain ⟨v2, r2, k2⟩ := (qe zzn zoB (by decide) zp6) enc _ _ _ _ _ _ h2
 rw [zAE] at hl
 rcases cs with _ | ⟨c0, _ | ⟨c1, _ | ⟨c2, _ | ⟨c3, cs⟩⟩⟩⟩ <;> simp at hl
 obtain ⟨a0_0, n0_0, c0_0, e0, s0_0⟩ := r0
 have e0 : [c0] = _ := e0
 cases e0
 obtain ⟨a1_0, n1_0, c1_0, e1, s1_0⟩ := r1
 have e1 : [c1] = _ := e1
 cases e1
 obtain ⟨a2_0, n2_0, c2_0, e2, s2_0⟩ := r2
 have e2 : [c2] = _ := e2
 cases e2
 exact ⟨⟨v0, v1, v2⟩, ⟨a0_0, n0_0, c0_0, a1_0, n1_0, c1_0, a2_0, n2_0, c2_0, rfl, s0_0, s1_0, s2_0⟩, ⟨k0, k1, k2⟩⟩
def zai (x : zr) : Prop := okI x.Count ∧ okI x.Room ∧ xp x.Grow ∧ okI x.Drift ∧ okI x.Into ∧ xp x.Open ∧ xp x.Shut ∧ okI x.Goal ∧ okI x.Worth
theorem zqc {W : World} : ja Tryz.prog W 70 zE zai := by
 intro H enc base fuel spare held cs x h
 obtain ⟨hl, n0, y0, h0⟩ := zy zwd h
 obtain ⟨v0, r0, k0⟩ := (zG un3) enc _ _ _ _ _ _ h0
 obtain ⟨hl, n1, y1, h1⟩ := zy zwc h
 obtain ⟨v1, r1, k1⟩ := (zG un3) enc _ _ _ _ _ _ h1
 obtain ⟨hl, n2, y2, h2⟩ := zy zwb h
 obtain ⟨v2, r2, k2⟩ := ye enc _ _ _ _ _ _ h2
 obtain ⟨hl, n3, y3, h3⟩ := zy zwa h
 obtain ⟨v3, r3, k3⟩ := (zG un3) enc _ _ _ _ _ _ h3
 obtain ⟨hl, n4, y4, h4⟩ := zy zv9 h
 obtain ⟨v4, r4, k4⟩ := (zG un3) enc _ _ _ _ _ _ h4
 obtain ⟨hl, n5, y5, h5⟩ := zy zv8 h
 obtain ⟨v5, r5, k5⟩ := ye enc _ _ _ _ _ _ h5
 obtain ⟨hl, n6, y6, h6⟩ := zy zv7 h
 obtain ⟨v6, r6, k6⟩ := ye enc _ _ _ _ _ _ h6
 obtain ⟨hl, n7, y7, h7⟩ := zy zv6 h
 obtain ⟨v7, r7, k7⟩ := (zG un3) enc _ _ _ _ _ _ h7
 obtain ⟨hl, n8, y8, h8⟩ := zy zv5 h
 obtain ⟨v8, r8, k8⟩ := (zG un3) enc _ _ _ _ _ _ h8
 rw [zpM] at hl
 rcases cs with _ | ⟨c0, _ | ⟨c1, _ | ⟨c2, _ | ⟨c3, _ | ⟨c4, _ | ⟨c5, _ | ⟨c6, _ | ⟨c7, _ | ⟨c8, _ | ⟨c9, _ | ⟨c10, _ | ⟨c11, _ | ⟨c12, cs⟩⟩⟩⟩⟩⟩⟩⟩⟩⟩⟩⟩⟩ <;> simp at hl
 have r0 : [c0] = _ := r0
 cases r0
 have r1 : [c1] = _ := r1
 cases r1
 have r2 : [c2, c3] = _ := r2
 cases r2
 have r3 : [c4] = _ := r3
 cases r3
 have r4 : [c5] = _ := r4
 cases r4
 have r5 : [c6, c7] = _ := r5
 cases r5
 have r6 : [c8, c9] = _ := r6
 cases r6
 have r7 : [c10] = _ := r7
 cases r7
 have r8 : [c11] = _ := r8
 cases r8
 exact ⟨⟨v0, v1, v2, v3, v4, v5, v6, v7, v8⟩, rfl, ⟨k0, k1, k2, k3, k4, k5, k6, k7, k8⟩⟩
def zkr (x : qz) : Prop := (fun xs => ∀ y ∈ xs, zai y) x.Places ∧ okI x.Miss ∧ okI x.Seasons
theorem zqZ {W : World} : ja Tryz.prog W 35 zxY zkr := by
 intro H enc base fuel spare held cs x h
 obtain ⟨hl, n0, y0, h0⟩ := zy zwR h
 obtain ⟨v0, r0, k0⟩ := (qe zzm zpM (by decide) zqc) enc _ _ _ _ _ _ h0
 obtain ⟨hl, n1, y1, h1⟩ := zy zwQ h
 obtain ⟨v1, r1, k1⟩ := (zG un3) enc _ _ _ _ _ _ h1
 obtain ⟨hl, n2, y2, h2⟩ := zy zwP h
 obtain ⟨v2, r2, k2⟩ := (zG un3) enc _ _ _ _ _ _ h2
 rw [zAD] at hl
 rcases cs with _ | ⟨c0, _ | ⟨c1, _ | ⟨c2, _ | ⟨c3, cs⟩⟩⟩⟩ <;> simp at hl
 obtain ⟨a0_0, n0_0, c0_0, e0, s0_0⟩ := r0
 have e0 : [c0] = _ := e0
 cases e0
 have r1 : [c1] = _ := r1
 cases r1
 have r2 : [c2] = _ := r2
 cases r2
 exact ⟨⟨v0, v1, v2⟩, ⟨a0_0, n0_0, c0_0, rfl, s0_0⟩, ⟨k0, k1, k2⟩⟩
def zaV (x : jx) : Prop := okI x.Day ∧ okI x.From ∧ okI x.To ∧ okI x.Cost
theorem zqm {W : World} : ja Tryz.prog W 142 yo zaV := by
 intro H enc base fuel spare held cs x h
 obtain ⟨hl, n0, y0, h0⟩ := zy zuH h
 obtain ⟨v0, r0, k0⟩ := (zG un3) enc _ _ _ _ _ _ h0
 obtain ⟨hl, n1, y1, h1⟩ := zy zuG h
 obtain ⟨v1, r1, k1⟩ := (zG un3) enc _ _ _ _ _ _ h1
 obtain ⟨hl, n2, y2, h2⟩ := zy zuF h
 obtain ⟨v2, r2, k2⟩ := (zG un3) enc _ _ _ _ _ _ h2
 obtain ⟨hl, n3, y3, h3⟩ := zy zuE h
 obtain ⟨v3, r3, k3⟩ := (zG un3) enc _ _ _ _ _ _ h3
 rw [zoF] at hl
 rcases cs with _ | ⟨c0, _ | ⟨c1, _ | ⟨c2, _ | ⟨c3, _ | ⟨c4, cs⟩⟩⟩⟩⟩ <;> simp at hl
 have r0 : [c0] = _ := r0
 cases r0
 have r1 : [c1] = _ := r1
 cases r1
 have r2 : [c2] = _ := r2
 cases r2
 have r3 : [c3] = _ := r3
 cases r3
 exact ⟨⟨v0, v1, v2, v3⟩, rfl, ⟨k0, k1, k2, k3⟩⟩
def ze0 (x : zf1) : Prop := okI x.Islets ∧ (fun xs => ∀ y ∈ xs, okI y) x.Infested ∧ (fun xs => ∀ y ∈ xs, okI y) x.Clean ∧ (fun xs => ∀ y ∈ xs, zaV y) x.Trips ∧ okI x.Wait
theorem zqs {W : World} : ja Tryz.prog W 38 zsI ze0 := by
 intro H enc base fuel spare held cs x h
 obtain ⟨hl, n0, y0, h0⟩ := zy zwO h
 obtain ⟨v0, r0, k0⟩ := (zG un3) enc _ _ _ _ _ _ h0
 obtain ⟨hl, n1, y1, h1⟩ := zy zwN h
 obtain ⟨v1, r1, k1⟩ := (qe zee ce3 (by decide) (zG un3)) enc _ _ _ _ _ _ h1
 obtain ⟨hl, n2, y2, h2⟩ := zy zwM h
 obtain ⟨v2, r2, k2⟩ := (qe zee ce3 (by decide) (zG un3)) enc _ _ _ _ _ _ h2
 obtain ⟨hl, n3, y3, h3⟩ := zy zwL h
 obtain ⟨v3, r3, k3⟩ := (qe zzl zoF (by decide) zqm) enc _ _ _ _ _ _ h3
 obtain ⟨hl, n4, y4, h4⟩ := zy zwK h
 obtain ⟨v4, r4, k4⟩ := (zG un3) enc _ _ _ _ _ _ h4
 rw [zAC] at hl
 rcases cs with _ | ⟨c0, _ | ⟨c1, _ | ⟨c2, _ | ⟨c3, _ | ⟨c4, _ | ⟨c5, cs⟩⟩⟩⟩⟩⟩ <;> simp at hl
 have r0 : [c0] = _ := r0
 cases r0
 obtain ⟨a1_0, n1_0, c1_0, e1, s1_0⟩ := r1
 have e1 : [c1] = _ := e1
 cases e1
 obtain ⟨a2_0, n2_0, c2_0, e2, s2_0⟩ := r2
 have e2 : [c2] = _ := e2
 cases e2
 obtain ⟨a3_0, n3_0, c3_0, e3, s3_0⟩ := r3
 have e3 : [c3] = _ := e3
 cases e3
 have r4 : [c4] = _ := r4
 cases r4
 exact ⟨⟨v0, v1, v2, v3, v4⟩, ⟨a1_0, n1_0, c1_0, a2_0, n2_0, c2_0, a3_0, n3_0, c3_0, rfl, s1_0, s2_0, s3_0⟩, ⟨k0, k1, k2, k3, k4⟩⟩
def zb8 (x : zdg) : Prop := (fun xs => ∀ y ∈ xs, xp y) x.Goods ∧ okI x.Weight ∧ okI x.Cost
theorem zqr {W : World} : ja Tryz.prog W 108 yR zb8 := by
 intro H enc base fuel spare held cs x h
 obtain ⟨hl, n0, y0, h0⟩ := zy zuK h
 obtain ⟨v0, r0, k0⟩ := (qe zpq zpc (by decide) ye) enc _ _ _ _ _ _ h0
 obtain ⟨hl, n1, y1, h1⟩ := zy zuJ h
 obtain ⟨v1, r1, k1⟩ := (zG un3) enc _ _ _ _ _ _ h1
 obtain ⟨hl, n2, y2, h2⟩ := zy zuI h
 obtain ⟨v2, r2, k2⟩ := (zG un3) enc _ _ _ _ _ _ h2
 rw [zoG] at hl
 rcases cs with _ | ⟨c0, _ | ⟨c1, _ | ⟨c2, _ | ⟨c3, cs⟩⟩⟩⟩ <;> simp at hl
 obtain ⟨a0_0, n0_0, c0_0, e0, s0_0⟩ := r0
 have e0 : [c0] = _ := e0
 cases e0
 have r1 : [c1] = _ := r1
 cases r1
 have r2 : [c2] = _ := r2
 cases r2
 exact ⟨⟨v0, v1, v2⟩, ⟨a0_0, n0_0, c0_0, rfl, s0_0⟩, ⟨k0, k1, k2⟩⟩
def zcM (x : zcq) : Prop := (fun xs => ∀ y ∈ xs, okI y) x.Stock ∧ (fun xs => ∀ y ∈ xs, xp y) x.Use ∧ xp x.Gap ∧ (fun xs => ∀ y ∈ xs, zb8 y) x.Lots ∧ okI x.Hold
theorem zqa {W : World} : ja Tryz.prog W 42 zq8 zcM := by
 intro H enc base fuel spare held cs x h
 obtain ⟨hl, n0, y0, h0⟩ := zy zwJ h
 obtain ⟨v0, r0, k0⟩ := (qe zee ce3 (by decide) (zG un3)) enc _ _ _ _ _ _ h0
 obtain ⟨hl, n1, y1, h1⟩ := zy zwI h
 obtain ⟨v1, r1, k1⟩ := (qe zpq zpc (by decide) ye) enc _ _ _ _ _ _ h1
 obtain ⟨hl, n2, y2, h2⟩ := zy zwH h
 obtain ⟨v2, r2, k2⟩ := ye enc _ _ _ _ _ _ h2
 obtain ⟨hl, n3, y3, h3⟩ := zy zwG h
 obtain ⟨v3, r3, k3⟩ := (qe zzk zoG (by decide) zqr) enc _ _ _ _ _ _ h3
 obtain ⟨hl, n4, y4, h4⟩ := zy zwF h
 obtain ⟨v4, r4, k4⟩ := (zG un3) enc _ _ _ _ _ _ h4
 rw [zAB] at hl
 rcases cs with _ | ⟨c0, _ | ⟨c1, _ | ⟨c2, _ | ⟨c3, _ | ⟨c4, _ | ⟨c5, _ | ⟨c6, cs⟩⟩⟩⟩⟩⟩⟩ <;> simp at hl
 obtain ⟨a0_0, n0_0, c0_0, e0, s0_0⟩ := r0
 have e0 : [c0] = _ := e0
 cases e0
 obtain ⟨a1_0, n1_0, c1_0, e1, s1_0⟩ := r1
 have e1 : [c1] = _ := e1
 cases e1
 have r2 : [c2, c3] = _ := r2
 cases r2
 obtain ⟨a3_0, n3_0, c3_0, e3, s3_0⟩ := r3
 have e3 : [c4] = _ := e3
 cases e3
 have r4 : [c5] = _ := r4
 cases r4
 exact ⟨⟨v0, v1, v2, v3, v4⟩, ⟨a0_0, n0_0, c0_0, a1_0, n1_0, c1_0, a3_0, n3_0, c3_0, rfl, s0_0, s1_0, s3_0⟩, ⟨k0, k1, k2, k3, k4⟩⟩
def zaU (x : jw) : Prop := okI x.Need ∧ okI x.Keep ∧ (fun _ => True) x.Must
theorem zql {W : World} : ja Tryz.prog W 207 yn zaU := by
 intro H enc base fuel spare held cs x h
 obtain ⟨hl, n0, y0, h0⟩ := zy zut h
 obtain ⟨v0, r0, k0⟩ := (zG un3) enc _ _ _ _ _ _ h0
 obtain ⟨hl, n1, y1, h1⟩ := zy zus h
 obtain ⟨v1, r1, k1⟩ := (zG un3) enc _ _ _ _ _ _ h1
 obtain ⟨hl, n2, y2, h2⟩ := zy zur h
 obtain ⟨v2, r2, k2⟩ := (zru un4) enc _ _ _ _ _ _ h2
 rw [zoA] at hl
 rcases cs with _ | ⟨c0, _ | ⟨c1, _ | ⟨c2, _ | ⟨c3, cs⟩⟩⟩⟩ <;> simp at hl
 have r0 : [c0] = _ := r0
 cases r0
 have r1 : [c1] = _ := r1
 cases r1
 have r2 : [c2] = _ := r2
 cases r2
 exact ⟨⟨v0, v1, v2⟩, rfl, ⟨k0, k1, k2⟩⟩
def zbT (x : zbg) : Prop := okI x.Sunny ∧ okI x.Cloudy ∧ okI x.Size ∧ okI x.Fade ∧ okI x.Start ∧ (fun xs => ∀ y ∈ xs, zaU y) x.Loads ∧ okI x.Days ∧ okI x.Window ∧ okI x.Most ∧ okI x.Panel ∧ okI x.Battery
theorem zp7 {W : World} : ja Tryz.prog W 45 zqO zbT := by
 intro H enc base fuel spare held cs x h
 obtain ⟨hl, n0, y0, h0⟩ := zy zwE h
 obtain ⟨v0, r0, k0⟩ := (zG un3) enc _ _ _ _ _ _ h0
 obtain ⟨hl, n1, y1, h1⟩ := zy zwD h
 obtain ⟨v1, r1, k1⟩ := (zG un3) enc _ _ _ _ _ _ h1
 obtain ⟨hl, n2, y2, h2⟩ := zy zwC h
 obtain ⟨v2, r2, k2⟩ := (zG un3) enc _ _ _ _ _ _ h2
 obtain ⟨hl, n3, y3, h3⟩ := zy zwB h
 obtain ⟨v3, r3, k3⟩ := (zG un3) enc _ _ _ _ _ _ h3
 obtain ⟨hl, n4, y4, h4⟩ := zy zwA h
 obtain ⟨v4, r4, k4⟩ := (zG un3) enc _ _ _ _ _ _ h4
 obtain ⟨hl, n5, y5, h5⟩ := zy zwz h
 obtain ⟨v5, r5, k5⟩ := (qe zzj zoA (by decide) zql) enc _ _ _ _ _ _ h5
 obtain ⟨hl, n6, y6, h6⟩ := zy zwy h
 obtain ⟨v6, r6, k6⟩ := (zG un3) enc _ _ _ _ _ _ h6
 obtain ⟨hl, n7, y7, h7⟩ := zy zwx h
 obtain ⟨v7, r7, k7⟩ := (zG un3) enc _ _ _ _ _ _ h7
 obtain ⟨hl, n8, y8, h8⟩ := zy zww h
 obtain ⟨v8, r8, k8⟩ := (zG un3) enc _ _ _ _ _ _ h8
 obtain ⟨hl, n9, y9, h9⟩ := zy zwv h
 obtain ⟨v9, r9, k9⟩ := (zG un3) enc _ _ _ _ _ _ h9
 obtain ⟨hl, n10, y10, h10⟩ := zy zun h
 obtain ⟨v10, r10, k10⟩ := (zG un3) enc _ _ _ _ _ _ h10
 rw [zAA] at hl
 rcases cs with _ | ⟨c0, _ | ⟨c1, _ | ⟨c2, _ | ⟨c3, _ | ⟨c4, _ | ⟨c5, _ | ⟨c6, _ | ⟨c7, _ | ⟨c8, _ | ⟨c9, _ | ⟨c10, _ | ⟨c11, cs⟩⟩⟩⟩⟩⟩⟩⟩⟩⟩⟩⟩ <;> simp at hl
 have r0 : [c0] = _ := r0
 cases r0
 have r1 : [c1] = _ := r1
 cases r1
 have r2 : [c2] = _ := r2
 cases r2
 have r3 : [c3] = _ := r3
 cases r3
 have r4 : [c4] = _ := r4
 cases r4
 obtain ⟨a5_0, n5_0, c5_0, e5, s5_0⟩ := r5
 have e5 : [c5] = _ := e5
 cases e5
 have r6 : [c6] = _ := r6
 cases r6
 have r7 : [c7] = _ := r7
 cases r7
 have r8 : [c8] = _ := r8
 cases r8
 have r9 : [c9] = _ := r9
 cases r9
 have r10 : [c10] = _ := r10
 cases r10
 exact ⟨⟨v0, v1, v2, v3, v4, v5, v6, v7, v8, v9, v10⟩, ⟨a5_0, n5_0, c5_0, rfl, s5_0⟩, ⟨k0, k1, k2, k3, k4, k5, k6, k7, k8, k9, k10⟩⟩
def zd3 (x : zdV) : Prop := okI x.Cells ∧ (fun xs => ∀ y ∈ xs, okI y) x.Roads ∧ (fun xs => ∀ y ∈ xs, okI y) x.Zones ∧ (fun xs => ∀ y ∈ xs, okI y) x.Berths ∧ okI x.Days
theorem zqk {W : World} : ja Tryz.prog W 47 zrN zd3 := by
 intro H enc base fuel spare held cs x h
 obtain ⟨hl, n0, y0, h0⟩ := zy zwu h
 obtain ⟨v0, r0, k0⟩ := (zG un3) enc _ _ _ _ _ _ h0
 obtain ⟨hl, n1, y1, h1⟩ := zy zwt h
 obtain ⟨v1, r1, k1⟩ := (qe zee ce3 (by decide) (zG un3)) enc _ _ _ _ _ _ h1
 obtain ⟨hl, n2, y2, h2⟩ := zy zws h
 obtain ⟨v2, r2, k2⟩ := (qe zee ce3 (by decide) (zG un3)) enc _ _ _ _ _ _ h2
 obtain ⟨hl, n3, y3, h3⟩ := zy zwr h
 obtain ⟨v3, r3, k3⟩ := (qe zee ce3 (by decide) (zG un3)) enc _ _ _ _ _ _ h3
 obtain ⟨hl, n4, y4, h4⟩ := zy zwq h
 obtain ⟨v4, r4, k4⟩ := (zG un3) enc _ _ _ _ _ _ h4
 rw [zAz] at hl
 rcases cs with _ | ⟨c0, _ | ⟨c1, _ | ⟨c2, _ | ⟨c3, _ | ⟨c4, _ | ⟨c5, cs⟩⟩⟩⟩⟩⟩ <;> simp at hl
 have r0 : [c0] = _ := r0
 cases r0
 obtain ⟨a1_0, n1_0, c1_0, e1, s1_0⟩ := r1
 have e1 : [c1] = _ := e1
 cases e1
 obtain ⟨a2_0, n2_0, c2_0, e2, s2_0⟩ := r2
 have e2 : [c2] = _ := e2
 cases e2
 obtain ⟨a3_0, n3_0, c3_0, e3, s3_0⟩ := r3
 have e3 : [c3] = _ := e3
 cases e3
 have r4 : [c4] = _ := r4
 cases r4
 exact ⟨⟨v0, v1, v2, v3, v4⟩, ⟨a1_0, n1_0, c1_0, a2_0, n2_0, c2_0, a3_0, n3_0, c3_0, rfl, s1_0, s2_0, s3_0⟩, ⟨k0, k1, k2, k3, k4⟩⟩
def q9 (x : zJ) : Prop := zcN x.Islet ∧ okI x.Tank ∧ zd2 x.Book ∧ zkr x.Reef ∧ ze0 x.Sea ∧ zcM x.Store ∧ zbT x.System ∧ zd3 x.Fishing ∧ okI x.Money
theorem zp4 {W : World} : ja Tryz.prog W 49 qh q9 := by
 intro H enc base fuel spare held cs x h
 obtain ⟨hl, n0, y0, h0⟩ := zy zwp h
 obtain ⟨v0, r0, k0⟩ := zqe enc _ _ _ _ _ _ h0
 obtain ⟨hl, n1, y1, h1⟩ := zy zwo h
 obtain ⟨v1, r1, k1⟩ := (zG un3) enc _ _ _ _ _ _ h1
 obtain ⟨hl, n2, y2, h2⟩ := zy zwn h
 obtain ⟨v2, r2, k2⟩ := zqj enc _ _ _ _ _ _ h2
 obtain ⟨hl, n3, y3, h3⟩ := zy zwm h
 obtain ⟨v3, r3, k3⟩ := zqZ enc _ _ _ _ _ _ h3
 obtain ⟨hl, n4, y4, h4⟩ := zy zwl h
 obtain ⟨v4, r4, k4⟩ := zqs enc _ _ _ _ _ _ h4
 obtain ⟨hl, n5, y5, h5⟩ := zy zwk h
 obtain ⟨v5, r5, k5⟩ := zqa enc _ _ _ _ _ _ h5
 obtain ⟨hl, n6, y6, h6⟩ := zy zwj h
 obtain ⟨v6, r6, k6⟩ := zp7 enc _ _ _ _ _ _ h6
 obtain ⟨hl, n7, y7, h7⟩ := zy zwi h
 obtain ⟨v7, r7, k7⟩ := zqk enc _ _ _ _ _ _ h7
 obtain ⟨hl, n8, y8, h8⟩ := zy zwh h
 obtain ⟨v8, r8, k8⟩ := (zG un3) enc _ _ _ _ _ _ h8
 rw [zAy] at hl
 rcases cs with _ | ⟨c0, _ | ⟨c1, _ | ⟨c2, _ | ⟨c3, _ | ⟨c4, _ | ⟨c5, _ | ⟨c6, _ | ⟨c7, _ | ⟨c8, _ | ⟨c9, _ | ⟨c10, _ | ⟨c11, _ | ⟨c12, _ | ⟨c13, _ | ⟨c14, _ | ⟨c15, _ | ⟨c16, _ | ⟨c17, _ | ⟨c18, _ | ⟨c19, _ | ⟨c20, _ | ⟨c21, _ | ⟨c22, _ | ⟨c23, _ | ⟨c24, _ | ⟨c25, _ | ⟨c26, _ | ⟨c27, _ | ⟨c28, _ | ⟨c29, _ | ⟨c30, _ | ⟨c31, _ | ⟨c32, _ | ⟨c33, _ | ⟨c34, _ | ⟨c35, _ | ⟨c36, _ | ⟨c37, _ | ⟨c38, _ | ⟨c39, _ | ⟨c40, _ | ⟨c41, _ | ⟨c42, _ | ⟨c43, _ | ⟨c44, _ | ⟨c45, _ | ⟨c46, _ | ⟨c47, _ | ⟨c48, _ | ⟨c49, _ | ⟨c50, _ | ⟨c51, cs⟩⟩⟩⟩⟩⟩⟩⟩⟩⟩⟩⟩⟩⟩⟩⟩⟩⟩⟩⟩⟩⟩⟩⟩⟩⟩⟩⟩⟩⟩⟩⟩⟩⟩⟩⟩⟩⟩⟩⟩⟩⟩⟩⟩⟩⟩⟩⟩⟩⟩⟩⟩ <;> simp at hl
 obtain ⟨a0_0, n0_0, c0_0, a0_1, n0_1, c0_1, e0, s0_0, s0_1⟩ := r0
 have e0 : [c0, c1, c2, c3, c4, c5, c6, c7, c8, c9, c10, c11, c12, c13, c14, c15] = _ := e0
 cases e0
 have r1 : [c16] = _ := r1
 cases r1
 obtain ⟨a2_0, n2_0, c2_0, a2_1, n2_1, c2_1, a2_2, n2_2, c2_2, e2, s2_0, s2_1, s2_2⟩ := r2
 have e2 : [c17, c18, c19] = _ := e2
 cases e2
 obtain ⟨a3_0, n3_0, c3_0, e3, s3_0⟩ := r3
 have e3 : [c20, c21, c22] = _ := e3
 cases e3
 obtain ⟨a4_0, n4_0, c4_0, a4_1, n4_1, c4_1, a4_2, n4_2, c4_2, e4, s4_0, s4_1, s4_2⟩ := r4
 have e4 : [c23, c24, c25, c26, c27] = _ := e4
 cases e4
 obtain ⟨a5_0, n5_0, c5_0, a5_1, n5_1, c5_1, a5_2, n5_2, c5_2, e5, s5_0, s5_1, s5_2⟩ := r5
 have e5 : [c28, c29, c30, c31, c32, c33] = _ := e5
 cases e5
 obtain ⟨a6_0, n6_0, c6_0, e6, s6_0⟩ := r6
 have e6 : [c34, c35, c36, c37, c38, c39, c40, c41, c42, c43, c44] = _ := e6
 cases e6
 obtain ⟨a7_0, n7_0, c7_0, a7_1, n7_1, c7_1, a7_2, n7_2, c7_2, e7, s7_0, s7_1, s7_2⟩ := r7
 have e7 : [c45, c46, c47, c48, c49] = _ := e7
 cases e7
 have r8 : [c50] = _ := r8
 cases r8
 exact ⟨⟨v0, v1, v2, v3, v4, v5, v6, v7, v8⟩, ⟨a0_0, n0_0, c0_0, a0_1, n0_1, c0_1, a2_0, n2_0, c2_0, a2_1, n2_1, c2_1, a2_2, n2_2, c2_2, a3_0, n3_0, c3_0, a4_0, n4_0, c4_0, a4_1, n4_1, c4_1, a4_2, n4_2, c4_2, a5_0, n5_0, c5_0, a5_1, n5_1, c5_1, a5_2, n5_2, c5_2, a6_0, n6_0, c6_0, a7_0, n7_0, c7_0, a7_1, n7_1, c7_1, a7_2, n7_2, c7_2, rfl, s0_0, s0_1, s2_0, s2_1, s2_2, s3_0, s4_0, s4_1, s4_2, s5_0, s5_1, s5_2, s6_0, s7_0, s7_1, s7_2⟩, ⟨k0, k1, k2, k3, k4, k5, k6, k7, k8⟩⟩
def zqI (x : qT) : Prop := (fun xs => ∀ y ∈ xs, okI y) x.Starts ∧ (fun xs => ∀ y ∈ xs, (fun xs => ∀ y ∈ xs, okI y) y) x.Grows ∧ (fun xs => ∀ y ∈ xs, (fun xs => ∀ y ∈ xs, okI y) y) x.Takes
theorem zqb {W : World} : ja Tryz.prog W 52 zq9 zqI := by
 intro H enc base fuel spare held cs x h
 obtain ⟨hl, n0, y0, h0⟩ := zy zwg h
 obtain ⟨v0, r0, k0⟩ := (qe zee ce3 (by decide) (zG un3)) enc _ _ _ _ _ _ h0
 obtain ⟨hl, n1, y1, h1⟩ := zy zwf h
 obtain ⟨v1, r1, k1⟩ := (qe zpo zpN (by decide) (qe zee ce3 (by decide) (zG un3))) enc _ _ _ _ _ _ h1
 obtain ⟨hl, n2, y2, h2⟩ := zy zwe h
 obtain ⟨v2, r2, k2⟩ := (qe zpo zpN (by decide) (qe zee ce3 (by decide) (zG un3))) enc _ _ _ _ _ _ h2
 rw [zAx] at hl
 rcases cs with _ | ⟨c0, _ | ⟨c1, _ | ⟨c2, _ | ⟨c3, cs⟩⟩⟩⟩ <;> simp at hl
 obtain ⟨a0_0, n0_0, c0_0, e0, s0_0⟩ := r0
 have e0 : [c0] = _ := e0
 cases e0
 obtain ⟨a1_0, n1_0, c1_0, e1, s1_0⟩ := r1
 have e1 : [c1] = _ := e1
 cases e1
 obtain ⟨a2_0, n2_0, c2_0, e2, s2_0⟩ := r2
 have e2 : [c2] = _ := e2
 cases e2
 exact ⟨⟨v0, v1, v2⟩, ⟨a0_0, n0_0, c0_0, a1_0, n1_0, c1_0, a2_0, n2_0, c2_0, rfl, s0_0, s1_0, s2_0⟩, ⟨k0, k1, k2⟩⟩
end Go.Proofs.YtcapocmenjcnhaaGreatDoor
