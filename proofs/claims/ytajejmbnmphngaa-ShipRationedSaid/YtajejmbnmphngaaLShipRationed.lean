/-
  motulaw: the statement ShipRationed holds: whatever the input, the law returns true, and its arguments stay as they were. No conditions.
-/
import Derived.Test.YtajejmbnmphngaaRows
import Derived.Test.YtajejmbnmphngaaOp
import Derived.Test.YtajejmbnmphngaaP8W4
import Derived.Test.YtajejmbnmphngaaS9
namespace Go.Proofs.Ytajejmbnmphngaa
open Go.RowKit
set_option linter.unusedVariables false
open Go.ChangeShapes Go.WideShapes Go.ChangeAt
set_option maxRecDepth 100000 in
theorem shipRationed_lifted (os : Os) (started : os.Started) (H : Type) (enc : TypeId × Value → H) :
    ReturnsInHanded {} Try.checked os 8 .any (Rows.shipRationedSpec.pre6 enc Try.prog Try.f8 Rows.shipRationedRow.domain false) (Rows.shipRationedSpec.post enc Try.prog Try.f8 false true false false) := by
  refine returnsInHanded_of_change (C := Try.checked) own_knob started (by kernel_rfl) Try.func8
    (ChangeSpec.witness6 (enc := enc) (C := Try.checked) false ⟨#[], #[.agg #[.slice none 0 0, .slice none 0 0, .int .i64 0, .int .i64 0, .slice none 0 0, .int .i64 0], .slice none 0 0, .int .i64 0, .int .i64 0, .agg #[.slice none 0 0, .slice none 0 0, .slice none 0 0]], []⟩ 8 (by kernel_rfl) (by kernel_rfl) (by kernel_rfl) (by kernel_rfl)) ?_
  intro W base args ds gs before hval0 hW hcnd _
  have hval : ∀ (j : Nat) t v, Try.f8.params[j]? = some t → args[j]? = some v → Value.okWide Try.prog W .any base t v := hval0
  have hW' := hW
  obtain ⟨p, q, hA0, hV, rfl, hfz, hnd⟩ := hW
  have hA : DataW.TrodAll enc Try.prog W 0 (fun _ => true) true Try.f8.params.toList args.toList ds p := hA0
  have hA1 := hA
  rw [Try.params8] at hA1 hval
  obtain ⟨v0, vs0, d0, ds0, p0, q0, hargs, rfl, rfl, h0, hr0⟩ := trodAll_cons hA1
  obtain ⟨v1, vs1, d1, ds1, p1, q1, rfl, rfl, rfl, h1, hr1⟩ := trodAll_cons hr0
  obtain ⟨v2, vs2, d2, ds2, p2, q2, rfl, rfl, rfl, h2, hr2⟩ := trodAll_cons hr1
  obtain ⟨v3, vs3, d3, ds3, p3, q3, rfl, rfl, rfl, h3, hr3⟩ := trodAll_cons hr2
  obtain ⟨v4, vs4, d4, ds4, p4, q4, rfl, rfl, rfl, h4, hr4⟩ := trodAll_cons hr3
  obtain ⟨rfl, rfl, rfl⟩ := trodAll_nil hr4
  obtain rfl : args = #[v0, v1, v2, v3, v4] := Array.ext' hargs
  obtain ⟨rfl, rfl⟩ := trodVars_none hV
  obtain ⟨cs0, rfl, _⟩ := okWide_struct (fs := Try.prog.fieldsOf 42) uf42 (hval 0 42 v0 rfl rfl)
  obtain ⟨fu0, hf0⟩ := h0
  obtain ⟨x0, r0, k0⟩ := opens_TShipStore enc _ _ _ _ _ _ hf0
  obtain ⟨a0_0, n0_0, c0_0, a0_1, n0_1, c0_1, a0_2, n0_2, c0_2, e0, s0_0, s0_1, s0_2⟩ := r0
  have e0 : cs0.toList = _ := e0
  have e0 := Array.ext' (ys := List.toArray _) e0
  subst e0
  obtain ⟨aa1, ln1, cp1, rfl⟩ := okWide_slice un22 (hval 1 22 v1 rfl rfl)
  obtain ⟨fu1, hf1⟩ := h1
  obtain ⟨x1, r1, k1⟩ := (opens_slice un22 ce3 (by decide) (opens_int un3)) enc _ _ _ _ _ _ hf1
  obtain ⟨a1_0, n1_0, c1_0, e1, s1_0⟩ := r1
  have e1 : [Value.slice aa1 ln1 cp1] = _ := e1
  cases e1
  obtain ⟨x2, rfl⟩ := okWide_int un3 (hval 2 3 v2 rfl rfl)
  obtain ⟨fu2, hf2⟩ := h2
  obtain ⟨_, ee2, k2⟩ := (opens_int un3) enc _ _ _ _ _ _ hf2
  have ee2 : [Value.int .i64 x2] = _ := ee2
  cases ee2
  obtain ⟨x3, rfl⟩ := okWide_int un3 (hval 3 3 v3 rfl rfl)
  obtain ⟨fu3, hf3⟩ := h3
  obtain ⟨_, ee3, k3⟩ := (opens_int un3) enc _ _ _ _ _ _ hf3
  have ee3 : [Value.int .i64 x3] = _ := ee3
  cases ee3
  obtain ⟨cs4, rfl, _⟩ := okWide_struct (fs := Try.prog.fieldsOf 45) uf45 (hval 4 45 v4 rfl rfl)
  obtain ⟨fu4, hf4⟩ := h4
  obtain ⟨x4, r4, k4⟩ := opens_TShipTruth enc _ _ _ _ _ _ hf4
  obtain ⟨a4_0, n4_0, c4_0, a4_1, n4_1, c4_1, a4_2, n4_2, c4_2, e4, s4_0, s4_1, s4_2⟩ := r4
  have e4 : cs4.toList = _ := e4
  have e4 := Array.ext' (ys := List.toArray _) e4
  subst e4
  simp only [List.append_nil] at hW'
  have hlt := fun x hx => hW'.lt x hx
  refine (f8_ok (x0 := x0) (x1 := x1) (x2 := x2) (x3 := x3) (x4 := x4) (sat_of W) s0_0 s0_1 s0_2 s1_0 s4_0 s4_1 s4_2 (shipRationed x0 x1 x2 x3 x4 k0 k1 k2 k3 k4)).mono fun e W' hR => ?_
  obtain ⟨rfl, hb⟩ := hR
  exact ⟨_, rfl, post_of_below (pv := []) hW' (fun _ _ _ => trodAll_mk1 (shut_bool un4b true)) (fun sp hsp => stay_all (T := []) laid_out hb sp _ _ _ _ (fun t ht => by
      have : t = 42 ∨ t = 22 ∨ t = 3 ∨ t = 3 ∨ t = 45 := by simpa [Try.params8] using ht
      rcases this with rfl | rfl | rfl | rfl | rfl <;> exact ⟨by kernel_rfl, of_decide_eq_true (by kernel_rfl)⟩) hA (by simpa using hlt) (by simpa using hsp)) (fun _ _ => rfl) (by simp) hb (ok_one (by kernel_rfl) rfl (okWide_bool_mk un4b true))⟩
theorem shipRationed_holds : Rows.ShipRationedSaid :=
  OpenClaim.holds_of_wide 8 Try.f8 rfl rfl rfl rfl rfl rfl rfl ⟨rfl, rfl, rfl, rfl, rfl⟩ rfl rfl rfl rfl rfl (by kernel_rfl) Try.func8 (by kernel_rfl)
    (of_decide_eq_true (by kernel_rfl)) (by unfold Func.isWrapper; first | (rw [if_pos (by decide +kernel)]; kernel_rfl) | (rw [if_neg (by decide +kernel)]; exact ⟨rfl, rfl⟩))
    (fun os started H enc _ => shipRationed_lifted os started H enc)
end Go.Proofs.Ytajejmbnmphngaa
