/-
  motulaw: the statement TopCooled holds: whatever the input, the law returns true, and its arguments stay as they were. No conditions but that the tables of the library are as its text lays them.
-/
import Derived.Test.YtihedfkcccaonaaGreatDoorRows
import Derived.Test.YtihedfkcccaonaaGreatDoorCards
import Derived.Test.YtihedfkcccaonaaGreatDoorTie
import Derived.Test.YtihedfkcccaonaaGreatDoorOp
import Derived.Test.YtihedfkcccaonaaGreatDoorLd
import Derived.Test.YtihedfkcccaonaaGreatDoorHx
import Derived.Test.YtihedfkcccaonaaGreatDoorJf
namespace Go.Proofs.YtihedfkcccaonaaGreatDoor
open Go.RowKit
open Go.ChangeShapes Go.WideShapes Go.ChangeAt
set_option maxRecDepth 100000 in
theorem topCooled_lifted (os : Os) (started : os.Started) (H : Type) (enc : TypeId × Value → H) :
    ReturnsInHanded {} Tryz.checked os 3 .any (fun w args => (Rows.topCooledSpec.pre enc Tryz.prog Tryz.f3 [] false w args ∧ laidMetH Tryz.prog zeV w) ∧ sizedMet enc Tryz.prog Tryz.f3 (OpenSpec.ofChange Rows.topCooledSpec) false w args) (Rows.topCooledSpec.post enc Tryz.prog Tryz.f3 false true false false) := by
  refine returnsInHanded_of_change_and (C := Tryz.checked) (X := (fun w _ => laidMetH Tryz.prog zeV w)) (fun _ _ _ hh h => h.of_heap hh) zof started (by kernel_rfl) Tryz.func3
    (ChangeSpec.witness_shaped (enc := enc) (C := Tryz.checked) (os := os) (X := (fun w _ => laidMetH Tryz.prog zeV w)) false (World.laidAll Tryz.prog os zeV) #[.agg #[.int .i64 0, .int .i64 0, .int .i64 0, .int .i64 0, .int .i64 0, .int .i64 0, .int .i64 0, .int .i64 0, .int .i64 0, .int .i64 0, .int .i64 0, .int .i64 0, .slice none 0 0, .slice none 0 0, .int .i64 0, .int .i64 0, .int .i64 0, .slice none 0 0, .slice none 0 0, .slice none 0 0, .slice none 0 0, .int .i64 0, .int .i64 0, .int .i64 0, .slice none 0 0, .slice none 0 0, .slice none 0 0, .int .i64 0, .slice none 0 0, .slice none 0 0, .int .i64 0, .int .i64 0, .slice none 0 0, .int .i64 0, .int .i64 0, .int .i64 0, .int .i64 0, .int .i64 0, .int .i64 0, .slice none 0 0, .int .i64 0, .int .i64 0, .int .i64 0, .int .i64 0, .int .i64 0, .int .i64 0, .slice none 0 0, .slice none 0 0, .slice none 0 0, .int .i64 0, .int .i64 0], .string ⟨#[]⟩, .int .i64 0, .int .i64 0] 8 (World.laidAll_os _ _ _) (World.shaped_of_ZipB (by kernel_rfl) (by kernel_rfl)) (by kernel_rfl) (by kernel_rfl) (by kernel_rfl) (zp1 os _)) ?_
  intro W base args ds gs before hval0 hW hcnd _ hL _
  have hval : ∀ (j : Nat) t v, Tryz.f3.params[j]? = some t → args[j]? = some v → Value.okWide Tryz.prog W .any base t v := hval0
  have hW' := hW
  obtain ⟨p, q, hA0, hV, rfl, hfz, hnd⟩ := hW
  have hA : DataW.TrodAll enc Tryz.prog W 0 (fun _ => true) true Tryz.f3.params.toList args.toList ds p := hA0
  have hA1 := hA
  rw [Tryz.params3] at hA1 hval
  obtain ⟨v0, vs0, d0, ds0, p0, q0, hargs, rfl, rfl, h0, hr0⟩ := trodAll_cons hA1
  obtain ⟨v1, vs1, d1, ds1, p1, q1, rfl, rfl, rfl, h1, hr1⟩ := trodAll_cons hr0
  obtain ⟨v2, vs2, d2, ds2, p2, q2, rfl, rfl, rfl, h2, hr2⟩ := trodAll_cons hr1
  obtain ⟨v3, vs3, d3, ds3, p3, q3, rfl, rfl, rfl, h3, hr3⟩ := trodAll_cons hr2
  obtain ⟨rfl, rfl, rfl⟩ := trodAll_nil hr3
  obtain rfl : args = #[v0, v1, v2, v3] := Array.ext' hargs
  obtain ⟨rfl, rfl⟩ := trodVars_none hV
  obtain ⟨cs0, rfl, _⟩ := okWide_struct (fs := Tryz.prog.fieldsOf 49) zzj (hval 0 49 v0 rfl rfl)
  obtain ⟨fu0, hf0⟩ := h0
  obtain ⟨x0, r0, k0⟩ := zbr enc _ _ _ _ _ _ hf0
  obtain ⟨t1, rfl⟩ := okWide_string un9 (hval 1 9 v1 rfl rfl)
  obtain ⟨x1, rfl⟩ : ∃ x : List UInt8, t1 = ⟨x.toArray⟩ := ⟨t1.data.toList, by cases t1; simp⟩
  have k1 : True := trivial
  obtain ⟨x2, rfl⟩ := okWide_int un3 (hval 2 3 v2 rfl rfl)
  obtain ⟨fu2, hf2⟩ := h2
  obtain ⟨_, ee2, k2⟩ := (zB un3) enc _ _ _ _ _ _ hf2
  have ee2 : [Value.int .i64 x2] = _ := ee2
  cases ee2
  obtain ⟨x3, rfl⟩ := okWide_int un3 (hval 3 3 v3 rfl rfl)
  obtain ⟨fu3, hf3⟩ := h3
  obtain ⟨_, ee3, k3⟩ := (zB un3) enc _ _ _ _ _ _ hf3
  have ee3 : [Value.int .i64 x3] = _ := ee3
  cases ee3
  simp only [List.append_nil] at hW'
  have hlt := fun x hx => hW'.lt x hx
  obtain ⟨el, fz, hT⟩ := zqV hL
  refine (zx4 (zui W) r0 k0 (y := x1) (p := x2) (q := x3) (el := el) (fz := fz) hT).mono fun e W' hR => ?_
  obtain ⟨rfl, hb⟩ := hR
  exact ⟨_, rfl, zfQ (pv := []) hW' (fun _ _ _ => trodAll_mk1 (shut_bool zw1 true)) (fun sp hsp => zh3 (T := []) zoC hb sp _ _ _ _ (fun t ht => by
      have : t = 49 ∨ t = 9 ∨ t = 3 ∨ t = 3 := by simpa [Tryz.params3] using ht
      rcases this with rfl | rfl | rfl | rfl <;> exact ⟨by kernel_rfl, of_decide_eq_true (by kernel_rfl)⟩) hA (by simpa using hlt) (by simpa using hsp)) (fun _ _ => rfl) (by simp) hb (ok_one (by kernel_rfl) rfl (okWide_bool_mk zw1 true))⟩
theorem zoo : Tryz.prog.funcs.toList.any Func.goes = false := by kernel_rfl
theorem zrB (f : FuncId) : Tryz.prog.goes f = false := by
 have h : ∀ fn ∈ Tryz.prog.funcs, Func.goes fn = false := by
  intro fn hm
  have h1 := List.any_eq_false.1 zoo fn (Array.mem_toList_iff.2 hm)
  simpa using h1
 unfold Program.goes
 rw [Bool.or_eq_false_iff]
 constructor
 ·rw [List.any_eq_false]
  intro g _
  cases hg : Tryz.prog.funcs[g]? with
  | none => simp
  | some fn =>
   rw [Option.any_some, h fn (Array.mem_of_getElem? hg)]
   simp
 ·have h2 : Tryz.prog.funcs.any Func.goes = false := by
   rw [← Array.any_toList]
   exact zoo
  rw [h2, Bool.and_false]
theorem zrA : false = Rows.topCooledRow.goesBy Tryz.prog := by
 show false = (Program.goesFrom Tryz.prog "motu/motutop.TopCooled" || false)
 rw [Bool.or_false]
 unfold Program.goesFrom
 cases Tryz.prog.funcNamed "motu/motutop.TopCooled" with
 | none => rfl
 | some f => rw [Option.any_some, zrB f]
theorem topCooled_said : Rows.TopCooledSaid :=
  OpenClaim.holds_of_wide 3 Tryz.f3 rfl rfl rfl rfl rfl rfl rfl ⟨rfl, rfl, rfl, rfl, rfl⟩ rfl rfl rfl rfl rfl (by kernel_rfl) Tryz.func3 zuQ
    (of_decide_eq_true (by kernel_rfl)) (by unfold Func.isWrapper; first | (rw [if_pos (by decide +kernel)]; kernel_rfl) | (rw [if_neg (by decide +kernel)]; exact ⟨rfl, rfl⟩))
    (fun os started H enc _ => topCooled_lifted os started H enc)
theorem topCooled_holds : Rows.TopCooledCardSaid :=
  Claim7.holds_tied_plain_at .later [] [.data, .data, .data, .data, .pinned] true (true, "3159557a7a36e9d49366c31ecf90eaa8cb414f1e5dcd936cd42953ea27172a4e") true
    topCooled_said (fun _ h => by cases h) (by kernel_rfl) (fun _ h => by cases h) topCooled_row_tie rfl ⟨rfl, rfl⟩ (by kernel_rfl) rfl
    (fun f fn hf hfn => by
      obtain rfl : f = 3 := Option.some.inj ((show Tryz.prog.funcNamed "motu/motutop.TopCooled" = some 3 by kernel_rfl).symm.trans hf) |>.symm
      obtain rfl : fn = Tryz.f3 := (Option.some.inj (Tryz.func3.symm.trans hfn)).symm
      have h3 : Tryz.prog.wantsStandIn 3 = false := by kernel_rfl
      have h9 : Tryz.prog.wantsStandIn 9 = false := by kernel_rfl
      have h49 : Tryz.prog.wantsStandIn 49 = false := by kernel_rfl
      exact ⟨by kernel_rfl, fun j t ht => by
        have hm := Array.mem_of_getElem? ht
        have ht : t = 49 ∨ t = 9 ∨ t = 3 ∨ t = 3 := by simpa [Tryz.params3] using hm
        rcases ht with rfl | rfl | rfl | rfl
        · exact h49
        · exact h9
        · exact h3
        · exact h3
        ⟩)
    zrA
end Go.Proofs.YtihedfkcccaonaaGreatDoor