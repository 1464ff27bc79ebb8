/-
  motulaw: the statement BaneGuards holds: whatever the input, the law returns true, and its arguments stay as they were. No conditions.
-/
import Derived.Test.YtgplafckddpnkaaRows
import Derived.Test.YtgplafckddpnkaaOp
import Derived.Test.YtgplafckddpnkaaP6W5
import Derived.Test.YtgplafckddpnkaaS17
namespace Go.Proofs.Ytgplafckddpnkaa
open Go.RowKit
set_option linter.unusedVariables false
open Go.ChangeShapes Go.WideShapes Go.ChangeAt
set_option maxRecDepth 100000 in
theorem baneGuards_lifted (os : Os) (started : os.Started) (H : Type) (enc : TypeId × Value → H) :
    ReturnsInHanded {} Try.checked os 6 .any (Rows.baneGuardsSpec.pre6 enc Try.prog Try.f6 Rows.baneGuardsRow.domain false) (Rows.baneGuardsSpec.post enc Try.prog Try.f6 false true false false) := by
  refine returnsInHanded_of_change (C := Try.checked) own_knob started (by kernel_rfl) Try.func6
    (ChangeSpec.witness6 (enc := enc) (C := Try.checked) false ⟨#[], #[.agg #[.int .i64 0, .slice none 0 0, .slice none 0 0, .slice none 0 0, .int .i64 0]], []⟩ 8 (by kernel_rfl) (by kernel_rfl) (by kernel_rfl) (by kernel_rfl)) ?_
  intro W base args ds gs before hval0 hW hcnd _
  have hval : ∀ (j : Nat) t v, Try.f6.params[j]? = some t → args[j]? = some v → Value.okWide Try.prog W .any base t v := hval0
  have hW' := hW
  obtain ⟨p, q, hA0, hV, rfl, hfz, hnd⟩ := hW
  have hA : DataW.TrodAll enc Try.prog W 0 (fun _ => true) true Try.f6.params.toList args.toList ds p := hA0
  have hA1 := hA
  rw [Try.params6] at hA1 hval
  obtain ⟨v0, vs0, d0, ds0, p0, q0, hargs, rfl, rfl, h0, hr0⟩ := trodAll_cons hA1
  obtain ⟨rfl, rfl, rfl⟩ := trodAll_nil hr0
  obtain rfl : args = #[v0] := Array.ext' hargs
  obtain ⟨rfl, rfl⟩ := trodVars_none hV
  obtain ⟨cs0, rfl, _⟩ := okWide_struct (fs := Try.prog.fieldsOf 46) uf46 (hval 0 46 v0 rfl rfl)
  obtain ⟨fu0, hf0⟩ := h0
  obtain ⟨x0, r0, k0⟩ := opens_TBaneSea enc _ _ _ _ _ _ hf0
  obtain ⟨a0_0, n0_0, c0_0, a0_1, n0_1, c0_1, a0_2, n0_2, c0_2, e0, s0_0, s0_1, s0_2⟩ := r0
  have e0 : cs0.toList = _ := e0
  have e0 := Array.ext' (ys := List.toArray _) e0
  subst e0
  simp only [List.append_nil] at hW'
  have hlt := fun x hx => hW'.lt x hx
  refine (f6_ok (x0 := x0) (sat_of W) s0_0 s0_1 s0_2 (baneGuards x0 k0)).mono fun e W' hR => ?_
  obtain ⟨rfl, hb⟩ := hR
  exact ⟨_, rfl, post_of_below (pv := []) hW' (fun _ _ _ => trodAll_mk1 (shut_bool un4b true)) (fun sp hsp => stay_all (T := []) laid_out hb sp _ _ _ _ (fun t ht => by
      have : t = 46 := by simpa [Try.params6] using ht
      rcases this with rfl <;> exact ⟨by kernel_rfl, of_decide_eq_true (by kernel_rfl)⟩) hA (by simpa using hlt) (by simpa using hsp)) (fun _ _ => rfl) (by simp) hb (ok_one (by kernel_rfl) rfl (okWide_bool_mk un4b true))⟩
theorem baneGuards_holds : Rows.BaneGuardsSaid :=
  OpenClaim.holds_of_wide 6 Try.f6 rfl rfl rfl rfl rfl rfl rfl ⟨rfl, rfl, rfl, rfl, rfl⟩ rfl rfl rfl rfl rfl (by kernel_rfl) Try.func6 (by kernel_rfl)
    (of_decide_eq_true (by kernel_rfl)) (by unfold Func.isWrapper; first | (rw [if_pos (by decide +kernel)]; kernel_rfl) | (rw [if_neg (by decide +kernel)]; exact ⟨rfl, rfl⟩))
    (fun os started H enc _ => baneGuards_lifted os started H enc)
end Go.Proofs.Ytgplafckddpnkaa
