/-
  motulaw: the statement TopRecovered holds: whatever the input, the law returns true, and its arguments stay as they were. No conditions but that the tables of the library are as its text lays them.
-/
import Derived.Test.YtcapocmenjcnhaaGreatDoorRows
import Derived.Test.YtcapocmenjcnhaaGreatDoorCards
import Derived.Test.YtcapocmenjcnhaaGreatDoorTie
import Derived.Test.YtcapocmenjcnhaaGreatDoorOp
import Derived.Test.YtcapocmenjcnhaaGreatDoorLd
import Derived.Test.YtcapocmenjcnhaaGreatDoorHx
import Derived.Test.YtcapocmenjcnhaaGreatDoorJf
set_option linter.unusedVariables false
set_option linter.unusedSimpArgs false
namespace Go.Proofs.YtcapocmenjcnhaaGreatDoor
open Go.RowKit
open Go.ChangeShapes Go.WideShapes Go.ChangeAt
set_option maxRecDepth 100000 in
theorem topRecovered_lifted (os : Os) (started : os.Started) (H : Type) (enc : TypeId × Value → H) :
    ReturnsInHanded {} Tryz.checked os 3 .any (fun w args => (Rows.topRecoveredSpec.pre enc Tryz.prog Tryz.f3 [] false w args ∧ laidMetH Tryz.prog zfc w) ∧ sizedMet enc Tryz.prog Tryz.f3 (OpenSpec.ofChange Rows.topRecoveredSpec) false w args) (Rows.topRecoveredSpec.post enc Tryz.prog Tryz.f3 false true false false) := by
  refine returnsInHanded_of_change_and (C := Tryz.checked) (X := (fun w _ => laidMetH Tryz.prog zfc w)) (fun _ _ _ hh h => h.of_heap hh) zs2 started (by kernel_rfl) Tryz.func3
    (ChangeSpec.witness_shaped (enc := enc) (C := Tryz.checked) (os := os) (X := (fun w _ => laidMetH Tryz.prog zfc w)) false (World.laidAll Tryz.prog os zfc) #[.agg #[.int .i64 0, .int .i64 0, .int .i64 0, .int .i64 0, .int .i64 0, .int .i64 0, .int .i64 0, .int .i64 0, .int .i64 0, .int .i64 0, .int .i64 0, .int .i64 0, .slice none 0 0, .slice none 0 0, .int .i64 0, .int .i64 0, .int .i64 0, .slice none 0 0, .slice none 0 0, .slice none 0 0, .slice none 0 0, .int .i64 0, .int .i64 0, .int .i64 0, .slice none 0 0, .slice none 0 0, .slice none 0 0, .int .i64 0, .slice none 0 0, .slice none 0 0, .int .i64 0, .int .i64 0, .slice none 0 0, .int .i64 0, .int .i64 0, .int .i64 0, .int .i64 0, .int .i64 0, .int .i64 0, .slice none 0 0, .int .i64 0, .int .i64 0, .int .i64 0, .int .i64 0, .int .i64 0, .int .i64 0, .slice none 0 0, .slice none 0 0, .slice none 0 0, .int .i64 0, .int .i64 0], .slice none 0 0, .agg #[.slice none 0 0, .slice none 0 0, .slice none 0 0]] 8 (World.laidAll_os _ _ _) (World.shaped_of_ZipB (by kernel_rfl) (by kernel_rfl)) (by kernel_rfl) (by kernel_rfl) (by kernel_rfl) (ztv os _)) ?_
  intro W base args ds gs before hval0 hW hcnd _ hL _
  have hval : ∀ (j : Nat) t v, Tryz.f3.params[j]? = some t → args[j]? = some v → Value.okWide Tryz.prog W .any base t v := hval0
  have hW' := hW
  obtain ⟨p, q, hA0, hV, rfl, hfz, hnd⟩ := hW
  have hA : DataW.TrodAll enc Tryz.prog W 0 (fun _ => true) true Tryz.f3.params.toList args.toList ds p := hA0
  have hA1 := hA
  rw [Tryz.params3] at hA1 hval
  obtain ⟨v0, vs0, d0, ds0, p0, q0, hargs, rfl, rfl, h0, hr0⟩ := trodAll_cons hA1
  obtain ⟨v1, vs1, d1, ds1, p1, q1, rfl, rfl, rfl, h1, hr1⟩ := trodAll_cons hr0
  obtain ⟨v2, vs2, d2, ds2, p2, q2, rfl, rfl, rfl, h2, hr2⟩ := trodAll_cons hr1
  obtain ⟨rfl, rfl, rfl⟩ := trodAll_nil hr2
  obtain rfl : args = #[v0, v1, v2] := Array.ext' hargs
  obtain ⟨rfl, rfl⟩ := trodVars_none hV
  obtain ⟨cs0, rfl, _⟩ := okWide_struct (fs := Tryz.prog.fieldsOf 49) zzs (hval 0 49 v0 rfl rfl)
  obtain ⟨fu0, hf0⟩ := h0
  obtain ⟨x0, r0, k0⟩ := zp4 enc _ _ _ _ _ _ hf0
  obtain ⟨aa1, ln1, cp1, rfl⟩ := okWide_slice zee (hval 1 24 v1 rfl rfl)
  obtain ⟨fu1, hf1⟩ := h1
  obtain ⟨x1, r1, k1⟩ := (qe zee ce3 (by decide) (zG un3)) enc _ _ _ _ _ _ hf1
  obtain ⟨a1_0, n1_0, c1_0, e1, s1_0⟩ := r1
  have e1 : [Value.slice aa1 ln1 cp1] = _ := e1
  cases e1
  obtain ⟨cs2, rfl, _⟩ := okWide_struct (fs := Tryz.prog.fieldsOf 52) zzr (hval 2 52 v2 rfl rfl)
  obtain ⟨fu2, hf2⟩ := h2
  obtain ⟨x2, r2, k2⟩ := zqb enc _ _ _ _ _ _ hf2
  obtain ⟨a2_0, n2_0, c2_0, a2_1, n2_1, c2_1, a2_2, n2_2, c2_2, e2, s2_0, s2_1, s2_2⟩ := r2
  have e2 : cs2.toList = _ := e2
  have e2 := Array.ext' (ys := List.toArray _) e2
  subst e2
  simp only [List.append_nil] at hW'
  have hlt := fun x hx => hW'.lt x hx
  obtain ⟨el, fz, hT⟩ := ztP hL
  refine (zyH (zvM W) r0 k0 s1_0 (t := x2) s2_0 s2_1 s2_2 (el := el) (fz := fz) hT).mono fun e W' hR => ?_
  obtain ⟨rfl, hb⟩ := hR
  exact ⟨_, rfl, zqx (pv := []) hW' (fun _ _ _ => trodAll_mk1 (shut_bool zpp true)) (fun sp hsp => zh2 (T := []) zta hb sp _ _ _ _ (fun t ht => by
      have : t = 49 ∨ t = 24 ∨ t = 52 := by simpa [Tryz.params3] using ht
      rcases this with rfl | rfl | rfl <;> exact ⟨by kernel_rfl, of_decide_eq_true (by kernel_rfl)⟩) hA (by simpa using hlt) (by simpa using hsp)) (fun _ _ => rfl) (by simp) hb (ok_one (by kernel_rfl) rfl (okWide_bool_mk zpp true))⟩
theorem zl7 : Tryz.prog.funcs.toList.any Func.goes = false := by kernel_rfl
theorem zug (f : FuncId) : Tryz.prog.goes f = false := by
 have h : ∀ fn ∈ Tryz.prog.funcs, Func.goes fn = false := by
  intro fn hm
  have h1 := List.any_eq_false.1 zl7 fn (Array.mem_toList_iff.2 hm)
  simpa using h1
 unfold Program.goes
 rw [Bool.or_eq_false_iff]
 constructor
 ·rw [List.any_eq_false]
  intro g _
  cases hg : Tryz.prog.funcs[g]? with
  | none => simp
  | some fn =>
   rw [Option.any_some, h fn (Array.mem_of_getElem? hg)]
   simp
 ·have h2 : Tryz.prog.funcs.any Func.goes = false := by
   rw [← Array.any_toList]
   exact zl7
  rw [h2, Bool.and_false]
theorem zuf : false = Rows.topRecoveredRow.goesBy Tryz.prog := by
 show false = (Program.goesFrom Tryz.prog "motu/motutop.TopRecovered" || false)
 rw [Bool.or_false]
 unfold Program.goesFrom
 cases Tryz.prog.funcNamed "motu/motutop.TopRecovered" with
 | none => rfl
 | some f => rw [Option.any_some, zug f]
theorem topRecovered_said : Rows.TopRecoveredSaid :=
  OpenClaim.holds_of_wide 3 Tryz.f3 rfl rfl rfl rfl rfl rfl rfl ⟨rfl, rfl, rfl, rfl, rfl⟩ rfl rfl rfl rfl rfl (by kernel_rfl) Tryz.func3 zv2
    (of_decide_eq_true (by kernel_rfl)) (by unfold Func.isWrapper; first | (rw [if_pos (by decide +kernel)]; kernel_rfl) | (rw [if_neg (by decide +kernel)]; exact ⟨rfl, rfl⟩))
    (fun os started H enc _ => topRecovered_lifted os started H enc)
theorem topRecovered_holds : Rows.TopRecoveredCardSaid :=
  Claim7.holds_tied_plain_at .later [] [.data, .data, .data, .data, .pinned] true (true, "d5ac3bdb8e201e8bfa90eced17c3b1962065dcfe4ad11c9f75778357af80d9a6") true
    topRecovered_said (fun _ h => by cases h) (by kernel_rfl) (fun _ h => by cases h) topRecovered_row_tie rfl ⟨rfl, rfl⟩ (by kernel_rfl) rfl
    (fun f fn hf hfn => by
      obtain rfl : f = 3 := Option.some.inj ((show Tryz.prog.funcNamed "motu/motutop.TopRecovered" = some 3 by kernel_rfl).symm.trans hf) |>.symm
      obtain rfl : fn = Tryz.f3 := (Option.some.inj (Tryz.func3.symm.trans hfn)).symm
      have h24 : Tryz.prog.wantsStandIn 24 = false := by kernel_rfl
      have h49 : Tryz.prog.wantsStandIn 49 = false := by kernel_rfl
      have h52 : Tryz.prog.wantsStandIn 52 = false := by kernel_rfl
      exact ⟨by kernel_rfl, fun j t ht => by
        have hm := Array.mem_of_getElem? ht
        have ht : t = 49 ∨ t = 24 ∨ t = 52 := by simpa [Tryz.params3] using hm
        rcases ht with rfl | rfl | rfl
        · exact h49
        · exact h24
        · exact h52
        ⟩)
    zuf
end Go.Proofs.YtcapocmenjcnhaaGreatDoor