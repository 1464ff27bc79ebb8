/-
  motulaw: the statement TopYears holds: whatever the input, the law returns true, and its arguments stay as they were. No conditions.
-/
import Derived.Test.YtoklmemeanmfdaaGreatRows
import Derived.Test.YtoklmemeanmfdaaGreatOp
import Derived.Test.YtoklmemeanmfdaaGreatP3W3
import Derived.Test.YtoklmemeanmfdaaGreatTy
namespace Go.Proofs.YtoklmemeanmfdaaGreat
open Go.RowKit
set_option linter.unusedVariables false
open Go.ChangeShapes Go.WideShapes Go.ChangeAt
set_option maxRecDepth 100000 in
theorem topYears_lifted (os : Os) (started : os.Started) (H : Type) (enc : TypeId × Value → H) :
    ReturnsInHanded {} Tryz.checked os 3 .any (Rows.topYearsSpec.pre6 enc Tryz.prog Tryz.f3 Rows.topYearsRow.domain false) (Rows.topYearsSpec.post enc Tryz.prog Tryz.f3 false true false false) := by
  refine returnsInHanded_of_change (C := Tryz.checked) own_knob started (by kernel_rfl) Tryz.func3
    (ChangeSpec.witness6 (enc := enc) (C := Tryz.checked) false ⟨#[], #[.agg #[.slice none 0 0, .int .i64 0, .int .i64 0, .slice none 0 0, .int .i64 0, .int .i64 0], .agg #[.int .i64 0, .int .i64 0], .int .i64 0], []⟩ 8 (by kernel_rfl) (by kernel_rfl) (by kernel_rfl) (by kernel_rfl)) ?_
  intro W base args ds gs before hval0 hW hcnd _
  have hval : ∀ (j : Nat) t v, Tryz.f3.params[j]? = some t → args[j]? = some v → Value.okWide Tryz.prog W .any base t v := hval0
  have hW' := hW
  obtain ⟨p, q, hA0, hV, rfl, hfz, hnd⟩ := hW
  have hA : DataW.TrodAll enc Tryz.prog W 0 (fun _ => true) true Tryz.f3.params.toList args.toList ds p := hA0
  have hA1 := hA
  rw [Tryz.params3] at hA1 hval
  obtain ⟨v0, vs0, d0, ds0, p0, q0, hargs, rfl, rfl, h0, hr0⟩ := trodAll_cons hA1
  obtain ⟨v1, vs1, d1, ds1, p1, q1, rfl, rfl, rfl, h1, hr1⟩ := trodAll_cons hr0
  obtain ⟨v2, vs2, d2, ds2, p2, q2, rfl, rfl, rfl, h2, hr2⟩ := trodAll_cons hr1
  obtain ⟨rfl, rfl, rfl⟩ := trodAll_nil hr2
  obtain rfl : args = #[v0, v1, v2] := Array.ext' hargs
  obtain ⟨rfl, rfl⟩ := trodVars_none hV
  obtain ⟨cs0, rfl, _⟩ := okWide_struct (fs := Tryz.prog.fieldsOf 27) uf27 (hval 0 27 v0 rfl rfl)
  obtain ⟨fu0, hf0⟩ := h0
  obtain ⟨x0, r0, k0⟩ := opens_TShipPass enc _ _ _ _ _ _ hf0
  obtain ⟨a0_0, n0_0, c0_0, a0_1, n0_1, c0_1, e0, s0_0, s0_1⟩ := r0
  have e0 : cs0.toList = _ := e0
  have e0 := Array.ext' (ys := List.toArray _) e0
  subst e0
  obtain ⟨cs1, rfl, _⟩ := okWide_struct (fs := Tryz.prog.fieldsOf 25) uf25 (hval 1 25 v1 rfl rfl)
  obtain ⟨fu1, hf1⟩ := h1
  obtain ⟨x1, r1, k1⟩ := opens_TSpan enc _ _ _ _ _ _ hf1
  have e1 := r1
  have e1 : cs1.toList = _ := e1
  have e1 := Array.ext' (ys := List.toArray _) e1
  subst e1
  obtain ⟨x2, rfl⟩ := okWide_int un3 (hval 2 3 v2 rfl rfl)
  obtain ⟨fu2, hf2⟩ := h2
  obtain ⟨_, ee2, k2⟩ := (opens_int un3) enc _ _ _ _ _ _ hf2
  have ee2 : [Value.int .i64 x2] = _ := ee2
  cases ee2
  simp only [List.append_nil] at hW'
  have hlt := fun x hx => hW'.lt x hx
  refine (f3_ok (x0 := x0) (x1 := x1) (x2 := x2) (sat_of W) s0_0 s0_1 (topYears x0 x1 x2 k0 k1 k2)).mono fun e W' hR => ?_
  obtain ⟨rfl, hb⟩ := hR
  exact ⟨_, rfl, post_of_below (pv := []) hW' (fun _ _ _ => trodAll_mk1 (shut_bool un4b true)) (fun sp hsp => stay_all (T := []) laid_out hb sp _ _ _ _ (fun t ht => by
      have : t = 27 ∨ t = 25 ∨ t = 3 := by simpa [Tryz.params3] using ht
      rcases this with rfl | rfl | rfl <;> exact ⟨by kernel_rfl, of_decide_eq_true (by kernel_rfl)⟩) hA (by simpa using hlt) (by simpa using hsp)) (fun _ _ => rfl) (by simp) hb (ok_one (by kernel_rfl) rfl (okWide_bool_mk un4b true))⟩
theorem topYears_holds : Rows.TopYearsSaid :=
  OpenClaim.holds_of_wide 3 Tryz.f3 rfl rfl rfl rfl rfl rfl rfl ⟨rfl, rfl, rfl, rfl, rfl⟩ rfl rfl rfl rfl rfl (by kernel_rfl) Tryz.func3 (by kernel_rfl)
    (of_decide_eq_true (by kernel_rfl)) (by unfold Func.isWrapper; first | (rw [if_pos (by decide +kernel)]; kernel_rfl) | (rw [if_neg (by decide +kernel)]; exact ⟨rfl, rfl⟩))
    (fun os started H enc _ => topYears_lifted os started H enc)
end Go.Proofs.YtoklmemeanmfdaaGreat
