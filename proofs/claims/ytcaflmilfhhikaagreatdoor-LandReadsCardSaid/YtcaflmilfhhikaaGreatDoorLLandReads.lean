/-
  motulaw: the statement LandReads holds: whatever the input, the law returns true, and its arguments stay as they were. No conditions but that the tables of the library are as its text lays them.
-/
import Derived.Test.YtcaflmilfhhikaaGreatDoorRows
import Derived.Test.YtcaflmilfhhikaaGreatDoorCards
import Derived.Test.YtcaflmilfhhikaaGreatDoorTie
import Derived.Test.YtcaflmilfhhikaaGreatDoorOp
import Derived.Test.YtcaflmilfhhikaaGreatDoorLd
import Derived.Test.YtcaflmilfhhikaaGreatDoorP4W5
import Derived.Test.YtcaflmilfhhikaaGreatDoorRg
namespace Go.Proofs.YtcaflmilfhhikaaGreatDoor
open Go.RowKit
set_option linter.unusedVariables false
open Go.ChangeShapes Go.WideShapes Go.ChangeAt
set_option maxRecDepth 100000 in
theorem landReads_lifted (os : Os) (started : os.Started) (H : Type) (enc : TypeId × Value → H) :
    ReturnsInHanded {} Tryz.checked os 4 .any (fun w args => (Rows.landReadsSpec.pre enc Tryz.prog Tryz.f4 [] false w args ∧ laidMetH Tryz.prog laid7 w) ∧ sizedMet enc Tryz.prog Tryz.f4 (OpenSpec.ofChange Rows.landReadsSpec) false w args) (Rows.landReadsSpec.post enc Tryz.prog Tryz.f4 false true false false) := by
  refine returnsInHanded_of_change_and (C := Tryz.checked) (X := (fun w _ => laidMetH Tryz.prog laid7 w)) (fun _ _ _ hh h => h.of_heap hh) own_knob started (by kernel_rfl) Tryz.func4
    (ChangeSpec.witness_shaped (enc := enc) (C := Tryz.checked) (os := os) (X := (fun w _ => laidMetH Tryz.prog laid7 w)) false (World.laidAll Tryz.prog os laid7) #[.string ⟨#[]⟩] 8 (World.laidAll_os _ _ _) (World.shaped_of_ZipB (by kernel_rfl) (by kernel_rfl)) (by kernel_rfl) (by kernel_rfl) (by kernel_rfl) (door_met os _)) ?_
  intro W base args ds gs before hval0 hW hcnd _ hL _
  have hval : ∀ (j : Nat) t v, Tryz.f4.params[j]? = some t → args[j]? = some v → Value.okWide Tryz.prog W .any base t v := hval0
  have hW' := hW
  obtain ⟨p, q, hA0, hV, rfl, hfz, hnd⟩ := hW
  have hA : DataW.TrodAll enc Tryz.prog W 0 (fun _ => true) true Tryz.f4.params.toList args.toList ds p := hA0
  have hA1 := hA
  rw [Tryz.params4] at hA1 hval
  obtain ⟨v0, vs0, d0, ds0, p0, q0, hargs, rfl, rfl, h0, hr0⟩ := trodAll_cons hA1
  obtain ⟨rfl, rfl, rfl⟩ := trodAll_nil hr0
  obtain rfl : args = #[v0] := Array.ext' hargs
  obtain ⟨rfl, rfl⟩ := trodVars_none hV
  obtain ⟨t0, rfl⟩ := okWide_string un9 (hval 0 9 v0 rfl rfl)
  obtain ⟨x0, rfl⟩ : ∃ x : List UInt8, t0 = ⟨x.toArray⟩ := ⟨t0.data.toList, by cases t0; simp⟩
  have k0 : True := trivial
  simp only [List.append_nil] at hW'
  have hlt := fun x hx => hW'.lt x hx
  refine (f4_ok (x0 := x0) (sat_of W) (tabZ_of hL)  (landReads x0 k0)).mono fun e W' hR => ?_
  obtain ⟨rfl, hb⟩ := hR
  exact ⟨_, rfl, post_of_below (pv := []) hW' (fun _ _ _ => trodAll_mk1 (shut_bool un4b true)) (fun sp hsp => stay_all (T := []) laid_out hb sp _ _ _ _ (fun t ht => by
      have : t = 9 := by simpa [Tryz.params4] using ht
      rcases this with rfl <;> exact ⟨by kernel_rfl, of_decide_eq_true (by kernel_rfl)⟩) hA (by simpa using hlt) (by simpa using hsp)) (fun _ _ => rfl) (by simp) hb (ok_one (by kernel_rfl) rfl (okWide_bool_mk un4b true))⟩
theorem landReads_said : Rows.LandReadsSaid :=
  OpenClaim.holds_of_wide 4 Tryz.f4 rfl rfl rfl rfl rfl rfl rfl ⟨rfl, rfl, rfl, rfl, rfl⟩ rfl rfl rfl rfl rfl (by kernel_rfl) Tryz.func4 (by kernel_rfl)
    (of_decide_eq_true (by kernel_rfl)) (by unfold Func.isWrapper; first | (rw [if_pos (by decide +kernel)]; kernel_rfl) | (rw [if_neg (by decide +kernel)]; exact ⟨rfl, rfl⟩))
    (fun os started H enc _ => landReads_lifted os started H enc)
theorem landReads_holds : Rows.LandReadsCardSaid :=
  Claim7.holds_tied_plain_at .later [] [.data, .data, .data, .data, .sentinel, .sentinel, .pinned] true (true, "64fe2f9466974a3cade33c7afa9a6e4c7579f07d3eedcee193a69d7ff9c0d833") true
    landReads_said (fun _ h => by cases h) (by kernel_rfl) (fun _ h => by cases h) landReads_row_tie rfl ⟨rfl, rfl⟩ (by kernel_rfl) rfl
    (fun f fn hf hfn => by
      obtain rfl : f = 4 := Option.some.inj ((show Tryz.prog.funcNamed "motu/motulaw02.LandReads" = some 4 by kernel_rfl).symm.trans hf) |>.symm
      obtain rfl : fn = Tryz.f4 := (Option.some.inj (Tryz.func4.symm.trans hfn)).symm
      have h9 : Tryz.prog.wantsStandIn 9 = false := by kernel_rfl
      exact ⟨by kernel_rfl, fun j t ht => by
        have hm := Array.mem_of_getElem? ht
        have ht : t = 9 := by simpa [Tryz.params4] using hm
        rcases ht with rfl
        · exact h9
        ⟩)
    (by kernel_rfl)
end Go.Proofs.YtcaflmilfhhikaaGreatDoor
