/-
  motulaw: the statement LandMore holds: whatever the input, the law returns true, and its arguments stay as they were. No conditions but that the tables of the library are as its text lays them.
-/
import Derived.Test.YtcaflmilfhhikaaDoorRows
import Derived.Test.YtcaflmilfhhikaaDoorCards
import Derived.Test.YtcaflmilfhhikaaDoorTie
import Derived.Test.YtcaflmilfhhikaaDoorOp
import Derived.Test.YtcaflmilfhhikaaDoorLd
import Derived.Test.YtcaflmilfhhikaaDoorP8W4
import Derived.Test.YtcaflmilfhhikaaDoorLm
namespace Go.Proofs.YtcaflmilfhhikaaDoor
open Go.RowKit
set_option linter.unusedVariables false
open Go.ChangeShapes Go.WideShapes Go.ChangeAt
theorem uf46 : Tryd.prog.underlying 46 = some (.struct (Tryd.prog.fieldsOf 46)) := by kernel_rfl
set_option maxRecDepth 100000 in
theorem landMore_lifted (os : Os) (started : os.Started) (H : Type) (enc : TypeId × Value → H) :
    ReturnsInHanded {} Tryd.checked os 8 .any (fun w args => (Rows.landMoreSpec.pre enc Tryd.prog Tryd.f8 [] false w args ∧ laidMetH Tryd.prog laid3 w) ∧ sizedMet enc Tryd.prog Tryd.f8 (OpenSpec.ofChange Rows.landMoreSpec) false w args) (Rows.landMoreSpec.post enc Tryd.prog Tryd.f8 false true false false) := by
  refine returnsInHanded_of_change_and (C := Tryd.checked) (X := (fun w _ => laidMetH Tryd.prog laid3 w)) (fun _ _ _ hh h => h.of_heap hh) own_knob started (by kernel_rfl) Tryd.func8
    (ChangeSpec.witness_shaped (enc := enc) (C := Tryd.checked) (os := os) (X := (fun w _ => laidMetH Tryd.prog laid3 w)) false (World.doorLaid Tryd.prog 400 os) #[.agg #[.slice none 0 0, .slice none 0 0, .slice none 0 0], .agg #[.int .i64 0, .int .i64 0, .int .i64 0, .int .i64 0], .int .i64 0] 8 rfl (World.shaped_of_RefB (by kernel_rfl) (by kernel_rfl)) (by kernel_rfl) (by kernel_rfl) (by kernel_rfl) (door_met os _)) ?_
  intro W base args ds gs before hval0 hW hcnd hwt hL _
  have hval : ∀ (j : Nat) t v, Tryd.f8.params[j]? = some t → args[j]? = some v → Value.okWide Tryd.prog W .any base t v := hval0
  have hW' := hW
  obtain ⟨p, q, hA0, hV, rfl, hfz, hnd⟩ := hW
  have hA : DataW.TrodAll enc Tryd.prog W 0 (fun _ => true) true Tryd.f8.params.toList args.toList ds p := hA0
  have hA1 := hA
  rw [Tryd.params8] at hA1 hval
  obtain ⟨v0, vs0, d0, ds0, p0, q0, hargs, rfl, rfl, h0, hr0⟩ := trodAll_cons hA1
  obtain ⟨v1, vs1, d1, ds1, p1, q1, rfl, rfl, rfl, h1, hr1⟩ := trodAll_cons hr0
  obtain ⟨v2, vs2, d2, ds2, p2, q2, rfl, rfl, rfl, h2, hr2⟩ := trodAll_cons hr1
  obtain ⟨rfl, rfl, rfl⟩ := trodAll_nil hr2
  obtain rfl : args = #[v0, v1, v2] := Array.ext' hargs
  obtain ⟨rfl, rfl⟩ := trodVars_none hV
  obtain ⟨cs0, rfl, _⟩ := okWide_struct (fs := Tryd.prog.fieldsOf 26) uf26 (hval 0 26 v0 rfl rfl)
  obtain ⟨fu0, hf0⟩ := h0
  obtain ⟨x0, r0, k0⟩ := opens_TLandBook enc _ _ _ _ _ _ hf0
  obtain ⟨a0_0, n0_0, c0_0, a0_1, n0_1, c0_1, a0_2, n0_2, c0_2, e0, s0_0, s0_1, s0_2⟩ := r0
  have e0 : cs0.toList = _ := e0
  have e0 := Array.ext' (ys := List.toArray _) e0
  subst e0
  obtain ⟨cs1, rfl, _⟩ := okWide_struct (fs := Tryd.prog.fieldsOf 46) uf46 (hval 1 46 v1 rfl rfl)
  obtain ⟨fu1, hf1⟩ := h1
  obtain ⟨x1, r1, k1⟩ := opens_TLandMemory enc _ _ _ _ _ _ hf1
  have e1 := r1
  have e1 : cs1.toList = _ := e1
  have e1 := Array.ext' (ys := List.toArray _) e1
  subst e1
  obtain ⟨x2, rfl⟩ := okWide_int un3 (hval 2 3 v2 rfl rfl)
  obtain ⟨fu2, hf2⟩ := h2
  obtain ⟨_, ee2, k2⟩ := (opens_int un3) enc _ _ _ _ _ _ hf2
  have ee2 : [Value.int .i64 x2] = _ := ee2
  cases ee2
  have hroom : x0.Memories.length < 4398046511104 := by
    have h1 := slice_roomB (i := 2) fe26_2 un24 hf0 (o := 2) (a := a0_2) (n := n0_2) (c := c0_2) rfl (M := reachBytes) (fun q hq => by
      have h2 := List.all_eq_true.1 hwt q (each_mem (i := 0) (t := 26) (by rw [Tryd.params8]; rfl) rfl hq)
      exact of_decide_eq_true h2)
    have h3 : Tryd.prog.bytesOf 46 = 32 := by kernel_rfl
    have h4 : n0_2 = x0.Memories.length := s0_2.1
    have h5 : reachBytes = 140737488351232 := rfl
    rw [h3, h5] at h1
    omega
  simp only [List.append_nil] at hW'
  have hlt := fun x hx => hW'.lt x hx
  refine (f8m_ok (x0 := x0) (x1 := x1) (x2 := x2) (sat_of W) (tabG_of hL) s0_0 s0_1 s0_2 (landMore x0 x1 x2 k0 k1 k2 hroom)).mono fun e W' hR => ?_
  obtain ⟨rfl, hb⟩ := hR
  exact ⟨_, rfl, post_of_below (pv := []) hW' (fun _ _ _ => trodAll_mk1 (shut_bool un4b true)) (fun sp hsp => stay_all (T := []) laid_out hb sp _ _ _ _ (fun t ht => by
      have : t = 26 ∨ t = 46 ∨ t = 3 := by simpa [Tryd.params8] using ht
      rcases this with rfl | rfl | rfl <;> exact ⟨by kernel_rfl, of_decide_eq_true (by kernel_rfl)⟩) hA (by simpa using hlt) (by simpa using hsp)) (fun _ _ => rfl) (by simp) hb (ok_one (by kernel_rfl) rfl (okWide_bool_mk un4b true))⟩
theorem landMore_said : Rows.LandMoreSaid :=
  OpenClaim.holds_of_wide 8 Tryd.f8 rfl rfl rfl rfl rfl rfl rfl ⟨rfl, rfl, rfl, rfl, rfl⟩ rfl rfl rfl rfl rfl (by kernel_rfl) Tryd.func8 (by kernel_rfl)
    (of_decide_eq_true (by kernel_rfl)) (by unfold Func.isWrapper; first | (rw [if_pos (by decide +kernel)]; kernel_rfl) | (rw [if_neg (by decide +kernel)]; exact ⟨rfl, rfl⟩))
    (fun os started H enc _ => landMore_lifted os started H enc)
theorem landMore_holds : Rows.LandMoreCardSaid :=
  Claim7.holds_tied_plain_at .later [] [.data, .data, .data] true (true, "ee650b3995c778a901d51841945f13b1ebceb7b21632fd06a887021cd4329e58") false
    landMore_said (fun _ h => by cases h) (by kernel_rfl) (fun _ h => by cases h) landMore_row_tie rfl ⟨rfl, rfl⟩ (by kernel_rfl) rfl
    (fun f fn hf hfn => by
      obtain rfl : f = 8 := Option.some.inj ((show Tryd.prog.funcNamed "motu/motulaw02.LandMore" = some 8 by kernel_rfl).symm.trans hf) |>.symm
      obtain rfl : fn = Tryd.f8 := (Option.some.inj (Tryd.func8.symm.trans hfn)).symm
      have h3 : Tryd.prog.wantsStandIn 3 = false := by kernel_rfl
      have h26 : Tryd.prog.wantsStandIn 26 = false := by kernel_rfl
      have h46 : Tryd.prog.wantsStandIn 46 = false := by kernel_rfl
      exact ⟨by kernel_rfl, fun j t ht => by
        have hm := Array.mem_of_getElem? ht
        have ht : t = 26 ∨ t = 46 ∨ t = 3 := by simpa [Tryd.params8] using hm
        rcases ht with rfl | rfl | rfl
        · exact h26
        · exact h46
        · exact h3
        ⟩)
    (by kernel_rfl)
end Go.Proofs.YtcaflmilfhhikaaDoor
