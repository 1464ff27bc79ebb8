/-
  motulaw: the statement LandSpoilt holds: whatever the input, the law returns true, and its arguments stay as they were. No conditions but that the tables of the library are as its text lays them.
-/
import Derived.Test.YtcaflmilfhhikaaGreatDoorRows
import Derived.Test.YtcaflmilfhhikaaGreatDoorCards
import Derived.Test.YtcaflmilfhhikaaGreatDoorTie
import Derived.Test.YtcaflmilfhhikaaGreatDoorOp
import Derived.Test.YtcaflmilfhhikaaGreatDoorLd
import Derived.Test.YtcaflmilfhhikaaGreatDoorP5W5
import Derived.Test.YtcaflmilfhhikaaGreatDoorSp
namespace Go.Proofs.YtcaflmilfhhikaaGreatDoor
open Go.RowKit
set_option linter.unusedVariables false
open Go.ChangeShapes Go.WideShapes Go.ChangeAt
set_option maxRecDepth 100000 in
theorem landSpoilt_lifted (os : Os) (started : os.Started) (H : Type) (enc : TypeId × Value → H) :
    ReturnsInHanded {} Tryz.checked os 5 .any (fun w args => (Rows.landSpoiltSpec.pre enc Tryz.prog Tryz.f5 [] false w args ∧ laidMetH Tryz.prog laid7 w) ∧ sizedMet enc Tryz.prog Tryz.f5 (OpenSpec.ofChange Rows.landSpoiltSpec) false w args) (Rows.landSpoiltSpec.post enc Tryz.prog Tryz.f5 false true false false) := by
  refine returnsInHanded_of_change_and (C := Tryz.checked) (X := (fun w _ => laidMetH Tryz.prog laid7 w)) (fun _ _ _ hh h => h.of_heap hh) own_knob started (by kernel_rfl) Tryz.func5
    (ChangeSpec.witness_shaped (enc := enc) (C := Tryz.checked) (os := os) (X := (fun w _ => laidMetH Tryz.prog laid7 w)) false (World.laidAll Tryz.prog os laid7) #[.agg #[.slice none 0 0, .slice none 0 0, .slice none 0 0], .int .i64 0, .int .i64 0] 8 (World.laidAll_os _ _ _) (World.shaped_of_ZipB (by kernel_rfl) (by kernel_rfl)) (by kernel_rfl) (by kernel_rfl) (by kernel_rfl) (door_met os _)) ?_
  intro W base args ds gs before hval0 hW hcnd _ hL _
  have hval : ∀ (j : Nat) t v, Tryz.f5.params[j]? = some t → args[j]? = some v → Value.okWide Tryz.prog W .any base t v := hval0
  have hW' := hW
  obtain ⟨p, q, hA0, hV, rfl, hfz, hnd⟩ := hW
  have hA : DataW.TrodAll enc Tryz.prog W 0 (fun _ => true) true Tryz.f5.params.toList args.toList ds p := hA0
  have hA1 := hA
  rw [Tryz.params5] at hA1 hval
  obtain ⟨v0, vs0, d0, ds0, p0, q0, hargs, rfl, rfl, h0, hr0⟩ := trodAll_cons hA1
  obtain ⟨v1, vs1, d1, ds1, p1, q1, rfl, rfl, rfl, h1, hr1⟩ := trodAll_cons hr0
  obtain ⟨v2, vs2, d2, ds2, p2, q2, rfl, rfl, rfl, h2, hr2⟩ := trodAll_cons hr1
  obtain ⟨rfl, rfl, rfl⟩ := trodAll_nil hr2
  obtain rfl : args = #[v0, v1, v2] := Array.ext' hargs
  obtain ⟨rfl, rfl⟩ := trodVars_none hV
  obtain ⟨cs0, rfl, _⟩ := okWide_struct (fs := Tryz.prog.fieldsOf 26) uf26 (hval 0 26 v0 rfl rfl)
  obtain ⟨fu0, hf0⟩ := h0
  obtain ⟨x0, r0, k0⟩ := opens_TLandBook enc _ _ _ _ _ _ hf0
  obtain ⟨a0_0, n0_0, c0_0, a0_1, n0_1, c0_1, a0_2, n0_2, c0_2, e0, s0_0, s0_1, s0_2⟩ := r0
  have e0 : cs0.toList = _ := e0
  have e0 := Array.ext' (ys := List.toArray _) e0
  subst e0
  obtain ⟨x1, rfl⟩ := okWide_int un3 (hval 1 3 v1 rfl rfl)
  obtain ⟨fu1, hf1⟩ := h1
  obtain ⟨_, ee1, k1⟩ := (opens_int un3) enc _ _ _ _ _ _ hf1
  have ee1 : [Value.int .i64 x1] = _ := ee1
  cases ee1
  obtain ⟨x2, rfl⟩ := okWide_int un3 (hval 2 3 v2 rfl rfl)
  obtain ⟨fu2, hf2⟩ := h2
  obtain ⟨_, ee2, k2⟩ := (opens_int un3) enc _ _ _ _ _ _ hf2
  have ee2 : [Value.int .i64 x2] = _ := ee2
  cases ee2
  simp only [List.append_nil] at hW'
  have hlt := fun x hx => hW'.lt x hx
  refine (f5_ok (x0 := x0) (x1 := x1) (x2 := x2) (sat_of W) (tabZ_of hL) s0_0 s0_1 s0_2 (landSpoilt x0 x1 x2 k0 k1 k2)).mono fun e W' hR => ?_
  obtain ⟨rfl, hb⟩ := hR
  exact ⟨_, rfl, post_of_below (pv := []) hW' (fun _ _ _ => trodAll_mk1 (shut_bool un4b true)) (fun sp hsp => stay_all (T := []) laid_out hb sp _ _ _ _ (fun t ht => by
      have : t = 26 ∨ t = 3 ∨ t = 3 := by simpa [Tryz.params5] using ht
      rcases this with rfl | rfl | rfl <;> exact ⟨by kernel_rfl, of_decide_eq_true (by kernel_rfl)⟩) hA (by simpa using hlt) (by simpa using hsp)) (fun _ _ => rfl) (by simp) hb (ok_one (by kernel_rfl) rfl (okWide_bool_mk un4b true))⟩
theorem landSpoilt_said : Rows.LandSpoiltSaid :=
  OpenClaim.holds_of_wide 5 Tryz.f5 rfl rfl rfl rfl rfl rfl rfl ⟨rfl, rfl, rfl, rfl, rfl⟩ rfl rfl rfl rfl rfl (by kernel_rfl) Tryz.func5 (by kernel_rfl)
    (of_decide_eq_true (by kernel_rfl)) (by unfold Func.isWrapper; first | (rw [if_pos (by decide +kernel)]; kernel_rfl) | (rw [if_neg (by decide +kernel)]; exact ⟨rfl, rfl⟩))
    (fun os started H enc _ => landSpoilt_lifted os started H enc)
theorem landSpoilt_holds : Rows.LandSpoiltCardSaid :=
  Claim7.holds_tied_plain_at .later [] [.data, .data, .data, .data, .sentinel, .sentinel, .pinned] true (true, "64fe2f9466974a3cade33c7afa9a6e4c7579f07d3eedcee193a69d7ff9c0d833") true
    landSpoilt_said (fun _ h => by cases h) (by kernel_rfl) (fun _ h => by cases h) landSpoilt_row_tie rfl ⟨rfl, rfl⟩ (by kernel_rfl) rfl
    (fun f fn hf hfn => by
      obtain rfl : f = 5 := Option.some.inj ((show Tryz.prog.funcNamed "motu/motulaw02.LandSpoilt" = some 5 by kernel_rfl).symm.trans hf) |>.symm
      obtain rfl : fn = Tryz.f5 := (Option.some.inj (Tryz.func5.symm.trans hfn)).symm
      have h3 : Tryz.prog.wantsStandIn 3 = false := by kernel_rfl
      have h26 : Tryz.prog.wantsStandIn 26 = false := by kernel_rfl
      exact ⟨by kernel_rfl, fun j t ht => by
        have hm := Array.mem_of_getElem? ht
        have ht : t = 26 ∨ t = 3 ∨ t = 3 := by simpa [Tryz.params5] using hm
        rcases ht with rfl | rfl | rfl
        · exact h26
        · exact h3
        · exact h3
        ⟩)
    (by kernel_rfl)
end Go.Proofs.YtcaflmilfhhikaaGreatDoor
