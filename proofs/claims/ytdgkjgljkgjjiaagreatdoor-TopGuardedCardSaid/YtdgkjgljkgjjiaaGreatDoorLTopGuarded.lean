/-
  motulaw: the statement TopGuarded holds: whatever the input, the law returns true, and its arguments stay as they were. No conditions but that the tables of the library are as its text lays them.
-/
import Derived.Test.YtdgkjgljkgjjiaaGreatDoorRows
import Derived.Test.YtdgkjgljkgjjiaaGreatDoorCards
import Derived.Test.YtdgkjgljkgjjiaaGreatDoorTie
import Derived.Test.YtdgkjgljkgjjiaaGreatDoorOp
import Derived.Test.YtdgkjgljkgjjiaaGreatDoorLd
import Derived.Test.YtdgkjgljkgjjiaaGreatDoorHq
import Derived.Test.YtdgkjgljkgjjiaaGreatDoorJf
namespace Go.Proofs.YtdgkjgljkgjjiaaGreatDoor
open Go.RowKit
set_option linter.unusedVariables false
open Go.ChangeShapes Go.WideShapes Go.ChangeAt
set_option maxRecDepth 100000 in
theorem topGuarded_lifted (os : Os) (started : os.Started) (H : Type) (enc : TypeId × Value → H) :
    ReturnsInHanded {} Tryz.checked os 3 .any (fun w args => (Rows.topGuardedSpec.pre enc Tryz.prog Tryz.f3 [] false w args ∧ laidMetH Tryz.prog laid5 w) ∧ sizedMet enc Tryz.prog Tryz.f3 (OpenSpec.ofChange Rows.topGuardedSpec) false w args) (Rows.topGuardedSpec.post enc Tryz.prog Tryz.f3 false true false false) := by
  refine returnsInHanded_of_change_and (C := Tryz.checked) (X := (fun w _ => laidMetH Tryz.prog laid5 w)) (fun _ _ _ hh h => h.of_heap hh) own_knob started (by kernel_rfl) Tryz.func3
    (ChangeSpec.witness_shaped (enc := enc) (C := Tryz.checked) (os := os) (X := (fun w _ => laidMetH Tryz.prog laid5 w)) false (World.laidAll Tryz.prog os laid5) #[.agg #[.int .i64 0, .int .i64 0, .int .i64 0, .int .i64 0, .int .i64 0, .int .i64 0, .int .i64 0, .int .i64 0, .int .i64 0, .int .i64 0, .int .i64 0, .int .i64 0, .slice none 0 0, .slice none 0 0, .int .i64 0, .int .i64 0, .int .i64 0, .slice none 0 0, .slice none 0 0, .slice none 0 0, .slice none 0 0, .int .i64 0, .int .i64 0, .int .i64 0, .slice none 0 0, .slice none 0 0, .slice none 0 0, .int .i64 0, .slice none 0 0, .slice none 0 0, .int .i64 0, .int .i64 0, .slice none 0 0, .int .i64 0, .int .i64 0, .int .i64 0, .int .i64 0, .int .i64 0, .int .i64 0, .slice none 0 0, .int .i64 0, .int .i64 0, .int .i64 0, .int .i64 0, .int .i64 0, .int .i64 0, .slice none 0 0, .slice none 0 0, .slice none 0 0, .int .i64 0, .int .i64 0], .slice none 0 0, .int .i64 0] 8 (World.laidAll_os _ _ _) (World.shaped_of_ZipB (by kernel_rfl) (by kernel_rfl)) (by kernel_rfl) (by kernel_rfl) (by kernel_rfl) (door_met os _)) ?_
  intro W base args ds gs before hval0 hW hcnd _ hL _
  have hval : ∀ (j : Nat) t v, Tryz.f3.params[j]? = some t → args[j]? = some v → Value.okWide Tryz.prog W .any base t v := hval0
  have hW' := hW
  obtain ⟨p, q, hA0, hV, rfl, hfz, hnd⟩ := hW
  have hA : DataW.TrodAll enc Tryz.prog W 0 (fun _ => true) true Tryz.f3.params.toList args.toList ds p := hA0
  have hA1 := hA
  rw [Tryz.params3] at hA1 hval
  obtain ⟨v0, vs0, d0, ds0, p0, q0, hargs, rfl, rfl, h0, hr0⟩ := trodAll_cons hA1
  obtain ⟨v1, vs1, d1, ds1, p1, q1, rfl, rfl, rfl, h1, hr1⟩ := trodAll_cons hr0
  obtain ⟨v2, vs2, d2, ds2, p2, q2, rfl, rfl, rfl, h2, hr2⟩ := trodAll_cons hr1
  obtain ⟨rfl, rfl, rfl⟩ := trodAll_nil hr2
  obtain rfl : args = #[v0, v1, v2] := Array.ext' hargs
  obtain ⟨rfl, rfl⟩ := trodVars_none hV
  obtain ⟨cs0, rfl, _⟩ := okWide_struct (fs := Tryz.prog.fieldsOf 49) uf49 (hval 0 49 v0 rfl rfl)
  obtain ⟨fu0, hf0⟩ := h0
  obtain ⟨x0, r0, k0⟩ := opens_TCouncilAtoll enc _ _ _ _ _ _ hf0
  obtain ⟨aa1, ln1, cp1, rfl⟩ := okWide_slice un50 (hval 1 50 v1 rfl rfl)
  obtain ⟨fu1, hf1⟩ := h1
  obtain ⟨x1, r1, k1⟩ := (opens_slice un50 ce4 (by decide) (opens_bool un4)) enc _ _ _ _ _ _ hf1
  obtain ⟨a1_0, n1_0, c1_0, e1, s1_0⟩ := r1
  have e1 : [Value.slice aa1 ln1 cp1] = _ := e1
  cases e1
  obtain ⟨x2, rfl⟩ := okWide_int un3 (hval 2 3 v2 rfl rfl)
  obtain ⟨fu2, hf2⟩ := h2
  obtain ⟨_, ee2, k2⟩ := (opens_int un3) enc _ _ _ _ _ _ hf2
  have ee2 : [Value.int .i64 x2] = _ := ee2
  cases ee2
  simp only [List.append_nil] at hW'
  have hlt := fun x hx => hW'.lt x hx
  obtain ⟨el, fz, hT⟩ := tabH_of hL
  refine (f3_ok (sat_of W) r0 k0 s1_0 (pk := x2) (el := el) (fz := fz) hT).mono fun e W' hR => ?_
  obtain ⟨rfl, hb⟩ := hR
  exact ⟨_, rfl, post_of_below (pv := []) hW' (fun _ _ _ => trodAll_mk1 (shut_bool un4b true)) (fun sp hsp => stay_all (T := []) laid_out hb sp _ _ _ _ (fun t ht => by
      have : t = 49 ∨ t = 50 ∨ t = 3 := by simpa [Tryz.params3] using ht
      rcases this with rfl | rfl | rfl <;> exact ⟨by kernel_rfl, of_decide_eq_true (by kernel_rfl)⟩) hA (by simpa using hlt) (by simpa using hsp)) (fun _ _ => rfl) (by simp) hb (ok_one (by kernel_rfl) rfl (okWide_bool_mk un4b true))⟩
theorem noGoes : Tryz.prog.funcs.toList.any Func.goes = false := by kernel_rfl
theorem goesAll (f : FuncId) : Tryz.prog.goes f = false := by
 have h : ∀ fn ∈ Tryz.prog.funcs, Func.goes fn = false := by
  intro fn hm
  have h1 := List.any_eq_false.1 noGoes fn (Array.mem_toList_iff.2 hm)
  simpa using h1
 unfold Program.goes
 rw [Bool.or_eq_false_iff]
 constructor
 ·rw [List.any_eq_false]
  intro g _
  cases hg : Tryz.prog.funcs[g]? with
  | none => simp
  | some fn =>
   rw [Option.any_some, h fn (Array.mem_of_getElem? hg)]
   simp
 ·have h2 : Tryz.prog.funcs.any Func.goes = false := by
   rw [← Array.any_toList]
   exact noGoes
  rw [h2, Bool.and_false]
theorem goesRow : false = Rows.topGuardedRow.goesBy Tryz.prog := by
 show false = (Program.goesFrom Tryz.prog "motu/motutop.TopGuarded" || false)
 rw [Bool.or_false]
 unfold Program.goesFrom
 cases Tryz.prog.funcNamed "motu/motutop.TopGuarded" with
 | none => rfl
 | some f => rw [Option.any_some, goesAll f]
theorem topGuarded_said : Rows.TopGuardedSaid :=
  OpenClaim.holds_of_wide 3 Tryz.f3 rfl rfl rfl rfl rfl rfl rfl ⟨rfl, rfl, rfl, rfl, rfl⟩ rfl rfl rfl rfl rfl (by kernel_rfl) Tryz.func3 joined
    (of_decide_eq_true (by kernel_rfl)) (by unfold Func.isWrapper; first | (rw [if_pos (by decide +kernel)]; kernel_rfl) | (rw [if_neg (by decide +kernel)]; exact ⟨rfl, rfl⟩))
    (fun os started H enc _ => topGuarded_lifted os started H enc)
theorem topGuarded_holds : Rows.TopGuardedCardSaid :=
  Claim7.holds_tied_plain_at .later [] [.data, .data, .data, .data, .pinned] true (true, "f88935f536c02c9bf5610b8fa3e1fcca38e65b5f1e61c1521d2110355fef53ab") true
    topGuarded_said (fun _ h => by cases h) (by kernel_rfl) (fun _ h => by cases h) topGuarded_row_tie rfl ⟨rfl, rfl⟩ (by kernel_rfl) rfl
    (fun f fn hf hfn => by
      obtain rfl : f = 3 := Option.some.inj ((show Tryz.prog.funcNamed "motu/motutop.TopGuarded" = some 3 by kernel_rfl).symm.trans hf) |>.symm
      obtain rfl : fn = Tryz.f3 := (Option.some.inj (Tryz.func3.symm.trans hfn)).symm
      have h3 : Tryz.prog.wantsStandIn 3 = false := by kernel_rfl
      have h49 : Tryz.prog.wantsStandIn 49 = false := by kernel_rfl
      have h50 : Tryz.prog.wantsStandIn 50 = false := by kernel_rfl
      exact ⟨by kernel_rfl, fun j t ht => by
        have hm := Array.mem_of_getElem? ht
        have ht : t = 49 ∨ t = 50 ∨ t = 3 := by simpa [Tryz.params3] using hm
        rcases ht with rfl | rfl | rfl
        · exact h49
        · exact h50
        · exact h3
        ⟩)
    goesRow
end Go.Proofs.YtdgkjgljkgjjiaaGreatDoor