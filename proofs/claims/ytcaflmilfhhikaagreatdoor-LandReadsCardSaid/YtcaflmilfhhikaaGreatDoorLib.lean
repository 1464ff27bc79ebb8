/-
  The library's contracts at this program: strconv.Itoa, strconv.Atoi, slices.Insert, strings.CutSuffix, strings.TrimPrefix, strings.Split at one byte.
-/
import Derived.Test.YtcaflmilfhhikaaGreatDoorBaseU
import Derived.Test.YtcaflmilfhhikaaGreatDoorProg
import Derived.Shelf.Strconv.Itoa3
import Derived.Shelf.Strconv.AtoiAll
import Derived.Shelf.Strings.Prefix
import Derived.Shelf.Strings.Split
import Derived.Shelf.Small.Wraps
import Derived.Lib.AppendIntMem
import Derived.Lib.AtoiErrMem
namespace Go.Proofs.YtcaflmilfhhikaaGreatDoor
open Go.RowKit Go.Shelf
set_option linter.unusedVariables false
set_option maxRecDepth 20000
section
variable {P : Program} {ρ : Ren}
set_option maxHeartbeats 1000000 in
theorem split_one (L : Lays.n146 P ρ) (hi9 : (P.info? (ρ.t 9)).map (fun i => (i.zero, i.size, i.bytes)) = some (some (.string ByteArray.empty), 1, 16)) (s : ByteArray) (b : UInt8) (w : World) (hs : s.size < 4294967281) :
    Calls P (ρ.f 146) #[.string s, .string ⟨#[b]⟩] w fun e w' =>
      e = .returned (.slice (some ⟨w.heap.size, 0, none⟩) (Lib.countB s ⟨#[b]⟩ + 1) (Lib.countB s ⟨#[b]⟩ + 1)) ∧ w' = w.alloc (.cells ((Lib.splitB ⟨#[b]⟩ 0 (Lib.countB s ⟨#[b]⟩) s).map Value.string).toArray (ρ.t 9)) := by
  have h1 : 1 ≤ (⟨#[b]⟩ : ByteArray).size := Nat.le_refl 1
  have hle := Lib.countB_le ⟨#[b]⟩ h1 s.size s (Nat.le_refl _)
  have hlen := Lib.splitB_all ⟨#[b]⟩ h1 0 _ s rfl
  have hI : ∀ (x : ByteArray) (c : Array Value), x.size ≤ s.size → Calls P (ρ.f 143) #[.string x, .string ⟨#[b]⟩] (w.alloc (.cells c (ρ.t 9))) fun e w' => e = .returned (.int .i64 (Lib.indexB x ⟨#[b]⟩)) ∧ w' = w.alloc (.cells c (ρ.t 9)) := fun x c _ =>
    (Any.strings_Index_one { L with } x b _).mono fun e w' ⟨he, hw⟩ => ⟨by rw [he, ← Lib.index_one], hw⟩
  have hC : Calls P (ρ.f 138) #[.string s, .string ⟨#[b]⟩] w fun e w' => e = .returned (.int .i64 (Lib.countB s ⟨#[b]⟩)) ∧ w' = w :=
    (Any.strings_Count_one { L with } s b w).mono fun e w' ⟨he, hw⟩ => ⟨by
      rw [he]
      show _ = Ending.returned (Value.int .i64 ((Lib.count s.data.toList [b] : Nat) : Int))
      rw [Lib.count_one]
      rfl, hw⟩
  have c := Any.strings_genSplit_core { L with } hi9 s ⟨#[b]⟩ 0 (-1) (Lib.countB s ⟨#[b]⟩ + 1) w hs h1 (Nat.zero_le _) hI hC (by decide) (by decide) (by rw [if_pos (by decide)]; omega)
  rw [Nat.add_sub_cancel, hlen] at c
  have e2 : Lib.cellsOf (Lib.splitB ⟨#[b]⟩ 0 (Lib.countB s ⟨#[b]⟩) s) (Lib.countB s ⟨#[b]⟩ + 1) = ((Lib.splitB ⟨#[b]⟩ 0 (Lib.countB s ⟨#[b]⟩) s).map Value.string).toArray := by rw [← hlen]; exact Lib.cellsOf_full _
  rw [e2] at c
  have t3 := L.t3; have t9 := L.t9; have t31 := L.t31
  have a3 := L.a3; have a9 := L.a9; have a31 := L.a31
  have z3 := L.z3; have v3 := L.v3; have z9 := L.z9; have v9 := L.v9; have z31 := L.z31; have v31 := L.v31
  have e221 : ∀ args w, (callFunc (ρ.f 221) args).run P w = .ok (.enter (ρ.f 221) args) w := enters_of L.f221 (by kernel_rfl) rfl
  go_enter L.f146, Body.n146_ntmps ρ
  go_wp2_with (go_at_fn (ρ.f 221); refine c.mono ?_; rintro e w' ⟨rfl, hw⟩; rw [hw])
  go_ret
  exact ⟨rfl, rfl⟩
end
def laysLaysM171_ren : Go.Shelf.Ren := ⟨fun x => match x with | 171 => 74 | 243 => 85 | 246 => 94 | 283 => 105 | 284 => 106 | 285 => 107 | 286 => 108 | 129 => 118 | 317 => 117 | 318 => 119 | 319 => 120 | 320 => 121 | 337 => 126 | 338 => 127 | n => n, fun x => match x with | 3 => 3 | 9 => 9 | 2 => 2 | 4 => 4 | 171 => 149 | 0 => 0 | 53 => 150 | 37 => 39 | 5 => 5 | 173 => 153 | 212 => 163 | 51 => 164 | 20 => 20 | 213 => 165 | 46 => 156 | 232 => 178 | 233 => 179 | n => n, fun x => match x with | 17 => 3 | 18 => 6 | 19 => 7 | n => n⟩
theorem laysLaysM171 : LaysM.n171 Tryz.prog laysLaysM171_ren :=
  { mixed := by kernel_rfl, f129 := Tryz.func118.trans (congrArg some (by kernel_rfl)), f171 := Tryz.func74.trans (congrArg some (by kernel_rfl)), f243 := Tryz.func85.trans (congrArg some (by kernel_rfl)), f246 := Tryz.func94.trans (congrArg some (by kernel_rfl)), f283 := Tryz.func105.trans (congrArg some (by kernel_rfl)), f284 := Tryz.func106.trans (congrArg some (by kernel_rfl)), f285 := Tryz.func107.trans (congrArg some (by kernel_rfl)), f286 := Tryz.func108.trans (congrArg some (by kernel_rfl)), f317 := Tryz.func117.trans (congrArg some (by kernel_rfl)), f318 := Tryz.func119.trans (congrArg some (by kernel_rfl)), f319 := Tryz.func120.trans (congrArg some (by kernel_rfl)), f320 := Tryz.func121.trans (congrArg some (by kernel_rfl)), f337 := Tryz.func126.trans (congrArg some (by kernel_rfl)), f338 := Tryz.func127.trans (congrArg some (by kernel_rfl)), t0 := Tryz.underlying0, a0 := Tryz.isAgg0, z0 := Tryz.sizeOf0, v0 := Tryz.zeroValue0, t2 := Tryz.underlying2, a2 := Tryz.isAgg2, z2 := Tryz.sizeOf2, v2 := Tryz.zeroValue2, t3 := Tryz.underlying3, a3 := Tryz.isAgg3, z3 := Tryz.sizeOf3, v3 := Tryz.zeroValue3, t4 := Tryz.underlying4, a4 := Tryz.isAgg4, z4 := Tryz.sizeOf4, v4 := Tryz.zeroValue4, t5 := Tryz.underlying5, a5 := Tryz.isAgg5, z5 := Tryz.sizeOf5, v5 := Tryz.zeroValue5, t9 := Tryz.underlying9, a9 := Tryz.isAgg9, z9 := Tryz.sizeOf9, v9 := Tryz.zeroValue9, t20 := Tryz.underlying20, a20 := Tryz.isAgg20, z20 := Tryz.sizeOf20, v20 := Tryz.zeroValue20, t37 := Tryz.underlying39, a37 := Tryz.isAgg39, z37 := Tryz.sizeOf39, v37 := Tryz.zeroValue39, t46 := Tryz.underlying156, a46 := Tryz.isAgg156, z46 := Tryz.sizeOf156, v46 := Tryz.zeroValue156, t51 := Tryz.underlying164, a51 := Tryz.isAgg164, z51 := Tryz.sizeOf164, v51 := Tryz.zeroValue164, t53 := Tryz.underlying150, a53 := Tryz.isAgg150, z53 := Tryz.sizeOf150, v53 := Tryz.zeroValue150, t171 := Tryz.underlying149, a171 := Tryz.isAgg149, z171 := Tryz.sizeOf149, v171 := Tryz.zeroValue149, t173 := Tryz.underlying153, a173 := Tryz.isAgg153, z173 := Tryz.sizeOf153, v173 := Tryz.zeroValue153, t212 := Tryz.underlying163, a212 := Tryz.isAgg163, z212 := Tryz.sizeOf163, v212 := Tryz.zeroValue163, t213 := Tryz.underlying165, a213 := Tryz.isAgg165, z213 := Tryz.sizeOf165, t232 := Tryz.underlying178, a232 := Tryz.isAgg178, z232 := Tryz.sizeOf178, v232 := Tryz.zeroValue178, t233 := Tryz.underlying179, a233 := Tryz.isAgg179, z233 := Tryz.sizeOf179, v233 := Tryz.zeroValue179, g17 := by kernel_rfl, g18 := by kernel_rfl, g19 := by kernel_rfl, i0 := by kernel_rfl, i2 := by kernel_rfl, i3 := by kernel_rfl, i4 := by kernel_rfl, i5 := by kernel_rfl, i9 := by kernel_rfl, i20 := by kernel_rfl, i37 := by kernel_rfl, i46 := by kernel_rfl, i51 := by kernel_rfl, i53 := by kernel_rfl, i171 := by kernel_rfl, i173 := by kernel_rfl, i212 := by kernel_rfl, i232 := by kernel_rfl, i233 := by kernel_rfl, m17 := by kernel_rfl, m18 := by kernel_rfl, m19 := by kernel_rfl }
def laysLays221_ren : Go.Shelf.Ren := ⟨fun x => match x with | 21 => 46 | 27 => 66 | 28 => 67 | 35 => 83 | 39 => 93 | n => n, fun x => match x with | 22 => 41 | 3 => 3 | 4 => 4 | 0 => 0 | n => n, fun x => x⟩
theorem laysLays221 : Lays2.n21 Tryz.prog laysLays221_ren :=
  { mixed := by kernel_rfl, f21 := Tryz.func46.trans (congrArg some (by kernel_rfl)), f27 := Tryz.func66.trans (congrArg some (by kernel_rfl)), f28 := Tryz.func67.trans (congrArg some (by kernel_rfl)), f35 := Tryz.func83.trans (congrArg some (by kernel_rfl)), f39 := Tryz.func93.trans (congrArg some (by kernel_rfl)), t0 := Tryz.underlying0, a0 := Tryz.isAgg0, z0 := Tryz.sizeOf0, v0 := Tryz.zeroValue0, t3 := Tryz.underlying3, a3 := Tryz.isAgg3, z3 := Tryz.sizeOf3, v3 := Tryz.zeroValue3, t4 := Tryz.underlying4, a4 := Tryz.isAgg4, z4 := Tryz.sizeOf4, v4 := Tryz.zeroValue4, t22 := Tryz.underlying41, a22 := Tryz.isAgg41, z22 := Tryz.sizeOf41, v22 := Tryz.zeroValue41, i3 := by kernel_rfl }
def laysLays104_ren : Go.Shelf.Ren := ⟨fun x => match x with | 104 => 57 | 211 => 75 | 207 => 86 | n => n, fun x => match x with | 9 => 9 | 4 => 4 | 24 => 101 | 3 => 3 | n => n, fun x => x⟩
theorem laysLays104 : Lays.n104 Tryz.prog laysLays104_ren :=
  { mixed := by kernel_rfl, f104 := Tryz.func57.trans (congrArg some (by kernel_rfl)), f207 := Tryz.func86.trans (congrArg some (by kernel_rfl)), f211 := Tryz.func75.trans (congrArg some (by kernel_rfl)), t3 := Tryz.underlying3, a3 := Tryz.isAgg3, z3 := Tryz.sizeOf3, v3 := Tryz.zeroValue3, t4 := Tryz.underlying4, a4 := Tryz.isAgg4, z4 := Tryz.sizeOf4, v4 := Tryz.zeroValue4, t9 := Tryz.underlying9, a9 := Tryz.isAgg9, z9 := Tryz.sizeOf9, v9 := Tryz.zeroValue9, t24 := Tryz.underlying101, a24 := Tryz.isAgg101, z24 := Tryz.sizeOf101, v24 := Tryz.zeroValue101 }
def laysLays101_ren : Go.Shelf.Ren := ⟨fun x => match x with | 101 => 77 | 208 => 90 | 206 => 99 | n => n, fun x => match x with | 9 => 9 | 4 => 4 | 3 => 3 | n => n, fun x => x⟩
theorem laysLays101 : Lays.n101 Tryz.prog laysLays101_ren :=
  { mixed := by kernel_rfl, f101 := Tryz.func77.trans (congrArg some (by kernel_rfl)), f206 := Tryz.func99.trans (congrArg some (by kernel_rfl)), f208 := Tryz.func90.trans (congrArg some (by kernel_rfl)), t3 := Tryz.underlying3, a3 := Tryz.isAgg3, z3 := Tryz.sizeOf3, v3 := Tryz.zeroValue3, t4 := Tryz.underlying4, a4 := Tryz.isAgg4, z4 := Tryz.sizeOf4, v4 := Tryz.zeroValue4, t9 := Tryz.underlying9, a9 := Tryz.isAgg9, z9 := Tryz.sizeOf9, v9 := Tryz.zeroValue9 }
def laysLays146_ren : Go.Shelf.Ren := ⟨fun x => match x with | 146 => 59 | 221 => 76 | 268 => 87 | 138 => 88 | 143 => 89 | 195 => 95 | 197 => 96 | 218 => 97 | 219 => 98 | 260 => 109 | 217 => 110 | 225 => 111 | 224 => 112 | 267 => 113 | 266 => 122 | 314 => 123 | n => n, fun x => match x with | 9 => 9 | 31 => 66 | 3 => 3 | 4 => 4 | 0 => 0 | 105 => 140 | 21 => 21 | 5 => 5 | 46 => 156 | 119 => 167 | 139 => 170 | 138 => 169 | 146 => 171 | 51 => 164 | n => n, fun x => match x with | 1 => 0 | 3 => 4 | 4 => 5 | n => n⟩
theorem laysLays146 : Lays.n146 Tryz.prog laysLays146_ren :=
  { mixed := by kernel_rfl, f138 := Tryz.func88.trans (congrArg some (by kernel_rfl)), f143 := Tryz.func89.trans (congrArg some (by kernel_rfl)), f146 := Tryz.func59.trans (congrArg some (by kernel_rfl)), f195 := Tryz.func95.trans (congrArg some (by kernel_rfl)), f197 := Tryz.func96.trans (congrArg some (by kernel_rfl)), f217 := Tryz.func110.trans (congrArg some (by kernel_rfl)), f218 := Tryz.func97.trans (congrArg some (by kernel_rfl)), f219 := Tryz.func98.trans (congrArg some (by kernel_rfl)), f221 := Tryz.func76.trans (congrArg some (by kernel_rfl)), f224 := Tryz.func112.trans (congrArg some (by kernel_rfl)), f225 := Tryz.func111.trans (congrArg some (by kernel_rfl)), f260 := Tryz.func109.trans (congrArg some (by kernel_rfl)), f266 := Tryz.func122.trans (congrArg some (by kernel_rfl)), f267 := Tryz.func113.trans (congrArg some (by kernel_rfl)), f268 := Tryz.func87.trans (congrArg some (by kernel_rfl)), f314 := Tryz.func123.trans (congrArg some (by kernel_rfl)), t0 := Tryz.underlying0, a0 := Tryz.isAgg0, z0 := Tryz.sizeOf0, v0 := Tryz.zeroValue0, t3 := Tryz.underlying3, a3 := Tryz.isAgg3, z3 := Tryz.sizeOf3, v3 := Tryz.zeroValue3, t4 := Tryz.underlying4, a4 := Tryz.isAgg4, z4 := Tryz.sizeOf4, v4 := Tryz.zeroValue4, t5 := Tryz.underlying5, a5 := Tryz.isAgg5, z5 := Tryz.sizeOf5, v5 := Tryz.zeroValue5, t9 := Tryz.underlying9, a9 := Tryz.isAgg9, z9 := Tryz.sizeOf9, v9 := Tryz.zeroValue9, t21 := Tryz.underlying21, a21 := Tryz.isAgg21, z21 := Tryz.sizeOf21, v21 := Tryz.zeroValue21, t31 := Tryz.underlying66, a31 := Tryz.isAgg66, z31 := Tryz.sizeOf66, v31 := Tryz.zeroValue66, t46 := Tryz.underlying156, a46 := Tryz.isAgg156, z46 := Tryz.sizeOf156, v46 := Tryz.zeroValue156, t51 := Tryz.underlying164, a51 := Tryz.isAgg164, z51 := Tryz.sizeOf164, v51 := Tryz.zeroValue164, t105 := Tryz.underlying140, a105 := Tryz.isAgg140, z105 := Tryz.sizeOf140, v105 := Tryz.zeroValue140, t119 := Tryz.underlying167, a119 := Tryz.isAgg167, z119 := Tryz.sizeOf167, t138 := Tryz.underlying169, a138 := Tryz.isAgg169, z138 := Tryz.sizeOf169, v138 := Tryz.zeroValue169, t139 := Tryz.underlying170, a139 := Tryz.isAgg170, z139 := Tryz.sizeOf170, v139 := Tryz.zeroValue170, t146 := Tryz.underlying171, a146 := Tryz.isAgg171, z146 := Tryz.sizeOf171, v146 := Tryz.zeroValue171, g1 := by kernel_rfl, g3 := by kernel_rfl, g4 := by kernel_rfl }
def laysLaysC172_ren : Go.Shelf.Ren := ⟨fun x => match x with | 172 => 78 | 244 => 91 | 245 => 92 | 247 => 100 | 279 => 101 | 280 => 102 | 281 => 103 | 282 => 104 | 287 => 114 | 316 => 115 | 171 => 74 | 205 => 116 | 321 => 124 | 322 => 125 | 243 => 85 | 246 => 94 | 283 => 105 | 284 => 106 | 285 => 107 | 286 => 108 | 129 => 118 | 317 => 117 | 318 => 119 | 319 => 120 | 320 => 121 | 337 => 126 | 338 => 127 | n => n, fun x => match x with | 9 => 9 | 3 => 3 | 75 => 95 | 76 => 96 | 4 => 4 | 5 => 5 | 167 => 143 | 37 => 39 | 0 => 0 | 85 => 144 | 2 => 2 | 168 => 146 | 53 => 150 | 175 => 157 | 46 => 156 | 210 => 160 | 127 => 127 | 145 => 176 | 143 => 174 | 21 => 21 | 171 => 149 | 173 => 153 | 212 => 163 | 51 => 164 | 20 => 20 | 213 => 165 | 232 => 178 | 233 => 179 | 80 => 100 | n => n, fun x => match x with | 15 => 1 | 16 => 2 | 17 => 3 | 18 => 6 | 19 => 7 | n => n⟩
theorem laysLaysC172 : LaysC.n172 Tryz.prog laysLaysC172_ren :=
  { mixed := by kernel_rfl, f129 := Tryz.func118.trans (congrArg some (by kernel_rfl)), f171 := Tryz.func74.trans (congrArg some (by kernel_rfl)), f172 := Tryz.func78.trans (congrArg some (by kernel_rfl)), f205 := Tryz.func116.trans (congrArg some (by kernel_rfl)), f243 := Tryz.func85.trans (congrArg some (by kernel_rfl)), f244 := Tryz.func91.trans (congrArg some (by kernel_rfl)), f245 := Tryz.func92.trans (congrArg some (by kernel_rfl)), f246 := Tryz.func94.trans (congrArg some (by kernel_rfl)), f247 := Tryz.func100.trans (congrArg some (by kernel_rfl)), f279 := Tryz.func101.trans (congrArg some (by kernel_rfl)), f280 := Tryz.func102.trans (congrArg some (by kernel_rfl)), f281 := Tryz.func103.trans (congrArg some (by kernel_rfl)), f282 := Tryz.func104.trans (congrArg some (by kernel_rfl)), f283 := Tryz.func105.trans (congrArg some (by kernel_rfl)), f284 := Tryz.func106.trans (congrArg some (by kernel_rfl)), f285 := Tryz.func107.trans (congrArg some (by kernel_rfl)), f286 := Tryz.func108.trans (congrArg some (by kernel_rfl)), f287 := Tryz.func114.trans (congrArg some (by kernel_rfl)), f316 := Tryz.func115.trans (congrArg some (by kernel_rfl)), f317 := Tryz.func117.trans (congrArg some (by kernel_rfl)), f318 := Tryz.func119.trans (congrArg some (by kernel_rfl)), f319 := Tryz.func120.trans (congrArg some (by kernel_rfl)), f320 := Tryz.func121.trans (congrArg some (by kernel_rfl)), f321 := Tryz.func124.trans (congrArg some (by kernel_rfl)), f322 := Tryz.func125.trans (congrArg some (by kernel_rfl)), f337 := Tryz.func126.trans (congrArg some (by kernel_rfl)), f338 := Tryz.func127.trans (congrArg some (by kernel_rfl)), t0 := Tryz.underlying0, a0 := Tryz.isAgg0, z0 := Tryz.sizeOf0, v0 := Tryz.zeroValue0, t2 := Tryz.underlying2, a2 := Tryz.isAgg2, z2 := Tryz.sizeOf2, v2 := Tryz.zeroValue2, t3 := Tryz.underlying3, a3 := Tryz.isAgg3, z3 := Tryz.sizeOf3, v3 := Tryz.zeroValue3, t4 := Tryz.underlying4, a4 := Tryz.isAgg4, z4 := Tryz.sizeOf4, v4 := Tryz.zeroValue4, t5 := Tryz.underlying5, a5 := Tryz.isAgg5, z5 := Tryz.sizeOf5, v5 := Tryz.zeroValue5, t9 := Tryz.underlying9, a9 := Tryz.isAgg9, z9 := Tryz.sizeOf9, v9 := Tryz.zeroValue9, t20 := Tryz.underlying20, a20 := Tryz.isAgg20, z20 := Tryz.sizeOf20, v20 := Tryz.zeroValue20, t21 := Tryz.underlying21, a21 := Tryz.isAgg21, z21 := Tryz.sizeOf21, v21 := Tryz.zeroValue21, t37 := Tryz.underlying39, a37 := Tryz.isAgg39, z37 := Tryz.sizeOf39, v37 := Tryz.zeroValue39, t46 := Tryz.underlying156, a46 := Tryz.isAgg156, z46 := Tryz.sizeOf156, v46 := Tryz.zeroValue156, t51 := Tryz.underlying164, a51 := Tryz.isAgg164, z51 := Tryz.sizeOf164, v51 := Tryz.zeroValue164, t53 := Tryz.underlying150, a53 := Tryz.isAgg150, z53 := Tryz.sizeOf150, v53 := Tryz.zeroValue150, t75 := Tryz.underlying95, a75 := Tryz.isAgg95, z75 := Tryz.sizeOf95, v75 := Tryz.zeroValue95, t76 := Tryz.underlying96, a76 := Tryz.isAgg96, z76 := Tryz.sizeOf96, v76 := Tryz.zeroValue96, t85 := Tryz.underlying144, a85 := Tryz.isAgg144, z85 := Tryz.sizeOf144, v85 := Tryz.zeroValue144, t127 := Tryz.underlying127, a127 := Tryz.isAgg127, z127 := Tryz.sizeOf127, v127 := Tryz.zeroValue127, t143 := Tryz.underlying174, a143 := Tryz.isAgg174, z143 := Tryz.sizeOf174, v143 := Tryz.zeroValue174, t145 := Tryz.underlying176, a145 := Tryz.isAgg176, z145 := Tryz.sizeOf176, v145 := Tryz.zeroValue176, t167 := Tryz.underlying143, a167 := Tryz.isAgg143, z167 := Tryz.sizeOf143, v167 := Tryz.zeroValue143, t168 := Tryz.underlying146, a168 := Tryz.isAgg146, z168 := Tryz.sizeOf146, v168 := Tryz.zeroValue146, t171 := Tryz.underlying149, a171 := Tryz.isAgg149, z171 := Tryz.sizeOf149, v171 := Tryz.zeroValue149, t173 := Tryz.underlying153, a173 := Tryz.isAgg153, z173 := Tryz.sizeOf153, v173 := Tryz.zeroValue153, t175 := Tryz.underlying157, a175 := Tryz.isAgg157, z175 := Tryz.sizeOf157, v175 := Tryz.zeroValue157, t210 := Tryz.underlying160, a210 := Tryz.isAgg160, z210 := Tryz.sizeOf160, v210 := Tryz.zeroValue160, t212 := Tryz.underlying163, a212 := Tryz.isAgg163, z212 := Tryz.sizeOf163, v212 := Tryz.zeroValue163, t213 := Tryz.underlying165, a213 := Tryz.isAgg165, z213 := Tryz.sizeOf165, t232 := Tryz.underlying178, a232 := Tryz.isAgg178, z232 := Tryz.sizeOf178, v232 := Tryz.zeroValue178, t233 := Tryz.underlying179, a233 := Tryz.isAgg179, z233 := Tryz.sizeOf179, v233 := Tryz.zeroValue179, g15 := by kernel_rfl, g16 := by kernel_rfl, g17 := by kernel_rfl, g18 := by kernel_rfl, g19 := by kernel_rfl, t80 := Tryz.underlying100, a80 := Tryz.isAgg100, z80 := Tryz.sizeOf100, v80 := Tryz.zeroValue100, i0 := by kernel_rfl, i2 := by kernel_rfl, i3 := by kernel_rfl, i4 := by kernel_rfl, i5 := by kernel_rfl, i9 := by kernel_rfl, i20 := by kernel_rfl, i21 := by kernel_rfl, i37 := by kernel_rfl, i46 := by kernel_rfl, i51 := by kernel_rfl, i53 := by kernel_rfl, i75 := by kernel_rfl, i76 := by kernel_rfl, i80 := by kernel_rfl, i85 := by kernel_rfl, i127 := by kernel_rfl, i143 := by kernel_rfl, i145 := by kernel_rfl, i167 := by kernel_rfl, i168 := by kernel_rfl, i171 := by kernel_rfl, i173 := by kernel_rfl, i175 := by kernel_rfl, i210 := by kernel_rfl, i212 := by kernel_rfl, i232 := by kernel_rfl, i233 := by kernel_rfl, m15 := by kernel_rfl, m16 := by kernel_rfl, m17 := by kernel_rfl, m18 := by kernel_rfl, m19 := by kernel_rfl, c0 := by kernel_rfl, c2 := by kernel_rfl, c3 := by kernel_rfl, c4 := by kernel_rfl, c5 := by kernel_rfl, c9 := by kernel_rfl, c20 := by kernel_rfl, c21 := by kernel_rfl, c37 := by kernel_rfl, c46 := by kernel_rfl, c51 := by kernel_rfl, c53 := by kernel_rfl, c75 := by kernel_rfl, c76 := by kernel_rfl, c80 := by kernel_rfl, c85 := by kernel_rfl, c127 := by kernel_rfl, c143 := by kernel_rfl, c145 := by kernel_rfl, c167 := by kernel_rfl, c168 := by kernel_rfl, c171 := by kernel_rfl, c173 := by kernel_rfl, c175 := by kernel_rfl, c210 := by kernel_rfl, c212 := by kernel_rfl, c213 := by kernel_rfl, c232 := by kernel_rfl, c233 := by kernel_rfl }
theorem f74_ok {G : Gm} {w : World} {n : Int} {s : List UInt8} (hS : Sat G w) (hT : TabG Tryz.prog G) (H : itoaF n = some s) : Calls Tryz.prog 74 #[.int .i64 n] w (RetV w (.string ⟨s.toArray⟩)) := by
  obtain ⟨⟨h0, h1⟩, rfl⟩ := itoaF_some H
  refine (Any.strconv_Itoa laysLaysM171 n h0 h1 w (hT.is hS)).mono ?_
  rintro e w' ⟨rfl, k, os, rfl⟩
  exact ⟨rfl, Lib.below_grow _ w (Nat.le_refl _) k os⟩
theorem f46_ok {B : Nat} {G0 : Gm} {w0 : World} {Gc : Gm} {wc : World} {Lq : List Row} {a : Option Addr} {n c e' vb : Nat} {cells : List Value} {xs zs : List Int} {i x : Int}
    (hS : Since B G0 w0 Gc wc) (hO : Owns Gc wc B (⟨3, 1, n, .slice a n c, cells⟩ :: ⟨e', 1, 1, .slice (some ⟨vb, 0, none⟩) 1 1, [.int .i64 x]⟩ :: Lq)) (hn : n = xs.length) (hrd : Rd RInt 1 Gc cells xs) (H : insL xs i x = some zs) :
    Calls Tryz.prog 46 #[.slice a n c, .int .i64 i, .slice (some ⟨vb, 0, none⟩) 1 1] wc (RetO B G0 w0 Gc wc (fun G L r => ∃ a' c' cells', r = .slice a' zs.length c' ∧ L = ⟨3, 1, zs.length, .slice a' zs.length c', cells'⟩ :: ⟨e', 1, 1, .slice (some ⟨vb, 0, none⟩) 1 1, [.int .i64 x]⟩ :: Lq ∧ Rd RInt 1 G cells' zs)) :=
  ins_ok laysLays221 hS hO hn hrd H
/-- What the library's variables hold: the table of powers, the two errors. -/
def ErrG (G : Gm) (g : Nat) : Prop := ∃ cs e fz te pe, G g = some (.cells cs e fz) ∧ cs[0]? = some (.iface te pe)
theorem ErrG.mono {G G' : Gm} {g : Nat} (h : ErrG G g) (hle : Gle G G') : ErrG G' g := let ⟨cs, e, fz, te, pe, h1, h2⟩ := h; ⟨cs, e, fz, te, pe, hle _ _ h1, h2⟩
theorem ErrG.cell {G : Gm} {w : World} {g : Nat} (h : ErrG G g) (hS : Sat G w) : ∃ te pe, w.cell? ⟨g, 0, none⟩ = some (.iface te pe) := by
  obtain ⟨cs, e, fz, te, pe, h1, h2⟩ := h
  refine ⟨te, pe, ?_⟩
  unfold World.cell?
  rw [hS _ _ h1]
  simpa using h2
structure TabZ (P : Program) (G : Gm) : Prop where
  tab : TabG P G
  esyn : ErrG G (laysLaysC172_ren.g 15)
  eran : ErrG G (laysLaysC172_ren.g 16)
theorem TabZ.mono {P : Program} {G G' : Gm} (h : TabZ P G) (hle : Gle G G') : TabZ P G' := ⟨h.tab.mono hle, h.esyn.mono hle, h.eran.mono hle⟩
/-- What strconv.Atoi says. -/
def atoiV (s : List UInt8) : Int × Bool := match Lib.atoiAll s with
  | .ok v => (v, true)
  | .range => (Lib.atoiSat s, false)
  | _ => (0, false)
def f78 (s : List UInt8) : Option (Int × Bool) := if s.length ≤ 281474976710656 then some (atoiV s) else none
theorem f78_ok {G : Gm} {w : World} {x0 : List UInt8} {r : Int × Bool} (hS : Sat G w) (hT : TabZ Tryz.prog G) (H : f78 x0 = some r) : Calls Tryz.prog 78 #[.string ⟨x0.toArray⟩] w fun e w' => ∃ u, e = .returned (.tuple #[.int .i64 r.1, u]) ∧ ErrV r.2 u ∧ Below w.heap.size w w' := by
  unfold f78 at H
  split at H
  · rename_i hl
    have H := Option.some.inj H
    subst H
    unfold atoiV
    have hsz : (⟨x0.toArray⟩ : ByteArray).size = x0.length := rfl
    cases h : Lib.atoiAll x0
    · rename_i v
      refine (Any.strconv_Atoi_ok laysLaysC172 ⟨x0.toArray⟩ (by rw [hsz]; omega) v h w).mono ?_
      rintro e w' ⟨rfl, hw⟩
      refine ⟨_, rfl, rfl, ?_⟩
      rcases hw with rfl | ⟨t, rfl⟩
      · exact Below.refl _ _
      · exact Lib.bytesWorld_below _ _ _
    · obtain ⟨te, pe, hc⟩ := hT.esyn.cell hS
      refine (Any.strconv_Atoi_syntax laysLaysC172 ⟨x0.toArray⟩ (by rw [hsz]; omega) h _ w hc (.inr ⟨_, _, rfl⟩)).mono ?_
      rintro e w' ⟨n, rfl, _, _, hb⟩
      exact ⟨_, rfl, ⟨_, _, rfl⟩, hb⟩
    · obtain ⟨te, pe, hc⟩ := hT.eran.cell hS
      refine (Any.strconv_Atoi_range laysLaysC172 ⟨x0.toArray⟩ (by rw [hsz]; omega) h _ w hc (.inr ⟨_, _, rfl⟩)).mono ?_
      rintro e w' ⟨n, rfl, _, _, hb⟩
      exact ⟨_, rfl, ⟨_, _, rfl⟩, hb⟩
  · cases H
def f77 (x0 x1 : List UInt8) : Option (List UInt8) := some (Lib.trimPrefix x0 x1)
theorem f77_ok {G0 : Gm} {w0 : World} (hS0 : Sat G0 w0) {x0 x1 r : List UInt8} (H : f77 x0 x1 = some r) : Calls Tryz.prog 77 #[.string ⟨x0.toArray⟩, .string ⟨x1.toArray⟩] w0 (RetV w0 (.string ⟨r.toArray⟩)) := by
  have H := Option.some.inj H
  subst H
  refine (Any.strings_TrimPrefix laysLays101 ⟨x0.toArray⟩ ⟨x1.toArray⟩ w0).mono ?_
  rintro e w' ⟨rfl, rfl⟩
  exact ⟨rfl, Below.refl _ _⟩
def f57 (x0 x1 : List UInt8) : Option (List UInt8 × Bool) := if x0.length < 4294967281 then some (Lib.trimSuffix x0 x1, Lib.hasSuffix x0 x1) else none
theorem f57_ok {G0 : Gm} {w0 : World} (hS0 : Sat G0 w0) {x0 x1 : List UInt8} {r : List UInt8 × Bool} (H : f57 x0 x1 = some r) : Calls Tryz.prog 57 #[.string ⟨x0.toArray⟩, .string ⟨x1.toArray⟩] w0 (RetV w0 (.tuple #[.string ⟨r.1.toArray⟩, .bool r.2])) := by
  unfold f57 at H
  split at H
  · rename_i hl
    have H := Option.some.inj H
    subst H
    have hsz : (⟨x0.toArray⟩ : ByteArray).size = x0.length := rfl
    refine (Any.strings_CutSuffix laysLays104 ⟨x0.toArray⟩ ⟨x1.toArray⟩ w0 (by rw [hsz]; omega)).mono ?_
    rintro e w' ⟨rfl, rfl⟩
    exact ⟨rfl, Below.refl _ _⟩
  · cases H
def f59 (x0 x1 : List UInt8) : Option (List (List UInt8)) := match x1 with
  | [c] => if x0.length < 4294967281 then some (Lib.split x0 [c]) else none
  | _ => none
theorem rd_strs (G : Gm) : ∀ (l : List ByteArray), Rd RStr 1 G (l.map Value.string) (l.map (·.data.toList))
  | [] => Rd.nil RStr 1 G
  | x :: l => Rd.cons (c := [.string x]) rfl rfl (rd_strs G l)
theorem f59_ok {G0 : Gm} {w0 : World} (hS0 : Sat G0 w0) {x0 x1 : List UInt8} {r : List (List UInt8)} (H : f59 x0 x1 = some r) : Calls Tryz.prog 59 #[.string ⟨x0.toArray⟩, .string ⟨x1.toArray⟩] w0 (RetG G0 w0 (fun G v => ∃ (ra0 : Option Addr) (rn0 rc0 : Nat), v = .slice ra0 rn0 rc0 ∧ RSl RStr 1 G ra0 rn0 rc0 r)) := by
  unfold f59 at H
  split at H
  · rename_i b
    split at H
    · rename_i hl
      have H := Option.some.inj H
      subst H
      refine (split_one laysLays146 (by kernel_rfl) ⟨x0.toArray⟩ b w0 hl).mono ?_
      rintro e w' ⟨rfl, rfl⟩
      have hk := Lib.splitB_all ⟨#[b]⟩ (Nat.le_refl 1) 0 _ ⟨x0.toArray⟩ rfl
      have hd := Lib.splitB_data ⟨#[b]⟩ 0 (Lib.countB ⟨x0.toArray⟩ ⟨#[b]⟩) ⟨x0.toArray⟩
      have e1 : Lib.split x0 [b] = (Lib.splitB ⟨#[b]⟩ 0 (Lib.countB ⟨x0.toArray⟩ ⟨#[b]⟩) ⟨x0.toArray⟩).map (·.data.toList) := hd.symm
      have hle := Lib.countB_le ⟨#[b]⟩ (Nat.le_refl 1) _ ⟨x0.toArray⟩ (Nat.le_refl _)
      have hsz : (⟨x0.toArray⟩ : ByteArray).size = x0.length := rfl
      have hmx : maxLen = 9223372036854775807 := rfl
      refine ⟨_, _, rfl, Grow.alloc hS0 _ rfl, _, _, _, rfl, ?_⟩
      rw [e1]
      exact RSl.of_rd (Cells.of_block (e := 9) (fz := (0, 0)) (by unfold ins; simp; rfl)) (rd_strs _ _) (by rw [List.length_map, hk]) (by omega)
    · cases H
  · cases H
end Go.Proofs.YtcaflmilfhhikaaGreatDoor
