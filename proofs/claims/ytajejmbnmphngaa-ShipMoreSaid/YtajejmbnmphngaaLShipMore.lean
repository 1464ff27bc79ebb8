/-
  motulaw: the statement ShipMore holds: whatever the input, the law returns true, and its arguments stay as they were. No conditions.
-/
import Derived.Test.YtajejmbnmphngaaRows
import Derived.Test.YtajejmbnmphngaaOp
import Derived.Test.YtajejmbnmphngaaP11W4
import Derived.Test.YtajejmbnmphngaaS12
namespace Go.Proofs.Ytajejmbnmphngaa
open Go.RowKit
set_option linter.unusedVariables false
open Go.ChangeShapes Go.WideShapes Go.ChangeAt
set_option maxRecDepth 100000 in
theorem shipMore_lifted (os : Os) (started : os.Started) (H : Type) (enc : TypeId × Value → H) :
    ReturnsInHanded {} Try.checked os 11 .any (Rows.shipMoreSpec.pre6 enc Try.prog Try.f11 Rows.shipMoreRow.domain false) (Rows.shipMoreSpec.post enc Try.prog Try.f11 false true false false) := by
  refine returnsInHanded_of_change (C := Try.checked) own_knob started (by kernel_rfl) Try.func11
    (ChangeSpec.witness6 (enc := enc) (C := Try.checked) false ⟨#[], #[.agg #[.slice none 0 0, .int .i64 0, .int .i64 0, .slice none 0 0, .int .i64 0, .int .i64 0], .int .i64 0, .int .i64 0, .agg #[.slice none 0 0, .slice none 0 0, .int .i64 0, .int .i64 0, .slice none 0 0, .int .i64 0], .slice none 0 0, .int .i64 0, .int .i64 0, .int .i64 0], []⟩ 8 (by kernel_rfl) (by kernel_rfl) (by kernel_rfl) (by kernel_rfl)) ?_
  intro W base args ds gs before hval0 hW hcnd _
  have hval : ∀ (j : Nat) t v, Try.f11.params[j]? = some t → args[j]? = some v → Value.okWide Try.prog W .any base t v := hval0
  have hW' := hW
  obtain ⟨p, q, hA0, hV, rfl, hfz, hnd⟩ := hW
  have hA : DataW.TrodAll enc Try.prog W 0 (fun _ => true) true Try.f11.params.toList args.toList ds p := hA0
  have hA1 := hA
  rw [Try.params11] at hA1 hval
  obtain ⟨v0, vs0, d0, ds0, p0, q0, hargs, rfl, rfl, h0, hr0⟩ := trodAll_cons hA1
  obtain ⟨v1, vs1, d1, ds1, p1, q1, rfl, rfl, rfl, h1, hr1⟩ := trodAll_cons hr0
  obtain ⟨v2, vs2, d2, ds2, p2, q2, rfl, rfl, rfl, h2, hr2⟩ := trodAll_cons hr1
  obtain ⟨v3, vs3, d3, ds3, p3, q3, rfl, rfl, rfl, h3, hr3⟩ := trodAll_cons hr2
  obtain ⟨v4, vs4, d4, ds4, p4, q4, rfl, rfl, rfl, h4, hr4⟩ := trodAll_cons hr3
  obtain ⟨v5, vs5, d5, ds5, p5, q5, rfl, rfl, rfl, h5, hr5⟩ := trodAll_cons hr4
  obtain ⟨v6, vs6, d6, ds6, p6, q6, rfl, rfl, rfl, h6, hr6⟩ := trodAll_cons hr5
  obtain ⟨v7, vs7, d7, ds7, p7, q7, rfl, rfl, rfl, h7, hr7⟩ := trodAll_cons hr6
  obtain ⟨rfl, rfl, rfl⟩ := trodAll_nil hr7
  obtain rfl : args = #[v0, v1, v2, v3, v4, v5, v6, v7] := Array.ext' hargs
  obtain ⟨rfl, rfl⟩ := trodVars_none hV
  obtain ⟨cs0, rfl, _⟩ := okWide_struct (fs := Try.prog.fieldsOf 27) uf27 (hval 0 27 v0 rfl rfl)
  obtain ⟨fu0, hf0⟩ := h0
  obtain ⟨x0, r0, k0⟩ := opens_TShipPass enc _ _ _ _ _ _ hf0
  obtain ⟨a0_0, n0_0, c0_0, a0_1, n0_1, c0_1, e0, s0_0, s0_1⟩ := r0
  have e0 : cs0.toList = _ := e0
  have e0 := Array.ext' (ys := List.toArray _) e0
  subst e0
  obtain ⟨x1, rfl⟩ := okWide_int un3 (hval 1 3 v1 rfl rfl)
  obtain ⟨fu1, hf1⟩ := h1
  obtain ⟨_, ee1, k1⟩ := (opens_int un3) enc _ _ _ _ _ _ hf1
  have ee1 : [Value.int .i64 x1] = _ := ee1
  cases ee1
  obtain ⟨x2, rfl⟩ := okWide_int un3 (hval 2 3 v2 rfl rfl)
  obtain ⟨fu2, hf2⟩ := h2
  obtain ⟨_, ee2, k2⟩ := (opens_int un3) enc _ _ _ _ _ _ hf2
  have ee2 : [Value.int .i64 x2] = _ := ee2
  cases ee2
  obtain ⟨cs3, rfl, _⟩ := okWide_struct (fs := Try.prog.fieldsOf 42) uf42 (hval 3 42 v3 rfl rfl)
  obtain ⟨fu3, hf3⟩ := h3
  obtain ⟨x3, r3, k3⟩ := opens_TShipStore enc _ _ _ _ _ _ hf3
  obtain ⟨a3_0, n3_0, c3_0, a3_1, n3_1, c3_1, a3_2, n3_2, c3_2, e3, s3_0, s3_1, s3_2⟩ := r3
  have e3 : cs3.toList = _ := e3
  have e3 := Array.ext' (ys := List.toArray _) e3
  subst e3
  obtain ⟨aa4, ln4, cp4, rfl⟩ := okWide_slice un22 (hval 4 22 v4 rfl rfl)
  obtain ⟨fu4, hf4⟩ := h4
  obtain ⟨x4, r4, k4⟩ := (opens_slice un22 ce3 (by decide) (opens_int un3)) enc _ _ _ _ _ _ hf4
  obtain ⟨a4_0, n4_0, c4_0, e4, s4_0⟩ := r4
  have e4 : [Value.slice aa4 ln4 cp4] = _ := e4
  cases e4
  obtain ⟨x5, rfl⟩ := okWide_int un3 (hval 5 3 v5 rfl rfl)
  obtain ⟨fu5, hf5⟩ := h5
  obtain ⟨_, ee5, k5⟩ := (opens_int un3) enc _ _ _ _ _ _ hf5
  have ee5 : [Value.int .i64 x5] = _ := ee5
  cases ee5
  obtain ⟨x6, rfl⟩ := okWide_int un3 (hval 6 3 v6 rfl rfl)
  obtain ⟨fu6, hf6⟩ := h6
  obtain ⟨_, ee6, k6⟩ := (opens_int un3) enc _ _ _ _ _ _ hf6
  have ee6 : [Value.int .i64 x6] = _ := ee6
  cases ee6
  obtain ⟨x7, rfl⟩ := okWide_int un3 (hval 7 3 v7 rfl rfl)
  obtain ⟨fu7, hf7⟩ := h7
  obtain ⟨_, ee7, k7⟩ := (opens_int un3) enc _ _ _ _ _ _ hf7
  have ee7 : [Value.int .i64 x7] = _ := ee7
  cases ee7
  simp only [List.append_nil] at hW'
  have hlt := fun x hx => hW'.lt x hx
  refine (f11_ok (x0 := x0) (x1 := x1) (x2 := x2) (x3 := x3) (x4 := x4) (x5 := x5) (x6 := x6) (x7 := x7) (sat_of W) s0_0 s0_1 s3_0 s3_1 s3_2 s4_0 (shipMore x0 x1 x2 x3 x4 x5 x6 x7 k0 k1 k2 k3 k4 k5 k6 k7)).mono fun e W' hR => ?_
  obtain ⟨rfl, hb⟩ := hR
  exact ⟨_, rfl, post_of_below (pv := []) hW' (fun _ _ _ => trodAll_mk1 (shut_bool un4b true)) (fun sp hsp => stay_all (T := []) laid_out hb sp _ _ _ _ (fun t ht => by
      have : t = 27 ∨ t = 3 ∨ t = 3 ∨ t = 42 ∨ t = 22 ∨ t = 3 ∨ t = 3 ∨ t = 3 := by simpa [Try.params11] using ht
      rcases this with rfl | rfl | rfl | rfl | rfl | rfl | rfl | rfl <;> exact ⟨by kernel_rfl, of_decide_eq_true (by kernel_rfl)⟩) hA (by simpa using hlt) (by simpa using hsp)) (fun _ _ => rfl) (by simp) hb (ok_one (by kernel_rfl) rfl (okWide_bool_mk un4b true))⟩
theorem shipMore_holds : Rows.ShipMoreSaid :=
  OpenClaim.holds_of_wide 11 Try.f11 rfl rfl rfl rfl rfl rfl rfl ⟨rfl, rfl, rfl, rfl, rfl⟩ rfl rfl rfl rfl rfl (by kernel_rfl) Try.func11 (by kernel_rfl)
    (of_decide_eq_true (by kernel_rfl)) (by unfold Func.isWrapper; first | (rw [if_pos (by decide +kernel)]; kernel_rfl) | (rw [if_neg (by decide +kernel)]; exact ⟨rfl, rfl⟩))
    (fun os started H enc _ => shipMore_lifted os started H enc)
end Go.Proofs.Ytajejmbnmphngaa
