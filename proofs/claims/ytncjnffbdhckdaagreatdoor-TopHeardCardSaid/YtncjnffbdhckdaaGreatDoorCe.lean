/-
  The council: an act is tried, and noted.
-/
import Derived.Test.YtncjnffbdhckdaaGreatDoorCd
namespace Go.Proofs.YtncjnffbdhckdaaGreatDoor
open Go.RowKit
set_option linter.unusedVariables false
set_option maxRecDepth 20000

theorem WI_rounds {κ : Ctx} {P : Program} {N : Nat} {n r : Fr → World → Prop} {x : List (Nat × (Fr → World → Prop))} {p : List PanicEntry → Fr → World → Prop} {c : Code} (m : Nat) (J : Nat → Fr → World → Prop)
    (step : ∀ i F w, i < m → J i F w → WC κ P N c ⟨J (i + 1), r, x, p⟩ F w) (last : ∀ F w, J m F w → WI κ P N c ⟨n, r, x, p⟩ F w) : ∀ (d i : Nat) (F : Fr) (w : World), i + d = m → J i F w → WI κ P N c ⟨n, r, x, p⟩ F w
  | 0, i, F, w, h, hJ => last F w (by obtain rfl : i = m := h; exact hJ)
  | d + 1, i, F, w, h, hJ => WI_step (WC_mono (fun e F' w' he => by
      cases e with
      | normal => exact WI_rounds m J step last d (i + 1) F' w' (by omega) he
      | _ => exact he) (step i F w (by omega) hJ))
/-- the council's own rows: its block, its acts -/
abbrev rowC (b : Nat) (cc : List Value) : Row := ⟨87, 62, 1, .slice (some ⟨b, 0, none⟩) 1 1, cc⟩
abbrev rowA (n : Nat) (v : Value) (ac : List Value) : Row := ⟨167, 1, n, v, ac⟩
theorem sl85d : slB Tryz.prog 85 = some (167, 1, 16) := by kernel_rfl
theorem sz85c : szB Tryz.prog 85 = some 1 := by kernel_rfl
/-- acts that were done, one cell each -/
def RAct : Gm → List Value → Value → Prop := fun _ cs x => cs = [x] ∧ x.oneCell' = true
theorem RAct_mono : Mono RAct := fun _ _ _ _ _ h => h
theorem RAct_one : One RAct := fun _ _ _ h u hu => by obtain ⟨rfl, h⟩ := h; simp at hu; subst hu; exact h
theorem app_s {α : Type} (xs ys : List α) (h : xs.length + ys.length ≤ 1073741824) : app xs ys = some (xs ++ ys) := by simp [app, h]
theorem sz169c : szB Tryz.prog 169 = some 3 := by kernel_rfl
theorem sl168d : ∃ e by', slB Tryz.prog 168 = some (e, 1, by') := sl168c
theorem wrap_s {i : Nat} (h : i < 100) : IntKind.i64.wrap ((i : Int) + 1) = ((i + 1 : Nat) : Int) := by rw [IntKind.wrap_i64]; omega
set_option maxHeartbeats 1000000 in
theorem f24_ok {B : Nat} {G0 : Gm} {w0 : World} {Gc : Gm} {wc : World} {Lq : List Row} {b n bm : Nat} {cc ac : List Value} {ta : TypeId} {xa : Value} {xs : List Value} {ad : Option Addr} {cp0 : Nat} {kr k1 k2 : Nat} {cr c1 c2 : List Value} {e2 : Int} {Ψ : Gm → List Row → Prop}
    (hS : Since B G0 w0 Gc wc) (hO : Owns Gc wc B (rowC b cc :: rowA n (.slice ad n cp0) ac :: Lq)) (h2 : 2 ≤ B) (hk1 : k1 ≠ 75) (hm : Cells Gc bm 0 [.func (.func k1) #[] c1.toArray, .func (.func k2) #[] c2.toArray])
    (hr : callB Tryz.prog kr = true ∧ ∀ G w, Gle Gc G → Since B G0 w0 G w → Owns G w B (rowC b cc :: rowA n (.slice ad n cp0) ac :: Lq) → Calls Tryz.prog kr cr.toArray w (RetV w (.bool true)))
    (hco : ∀ G w, Gle Gc G → Since B G0 w0 G w → Owns G w B (rowC b cc :: rowA n (.slice ad n cp0) ac :: Lq) → ∃ p e m, CoW w b p e m (.slice ad n cp0)) (hn : n < 100) (hxs : n = xs.length) (hrd : Rd RAct 1 Gc ac xs) (h60 : cc[60]? = some (.slice ad n cp0)) (hcl62 : cc.length = 62)
    (hd1 : callB Tryz.prog k1 = true ∧ ∀ G w, Gle Gc G → Since B G0 w0 G w → Owns G w B (rowC b cc :: rowA n (.slice ad n cp0) ac :: Lq) → Calls Tryz.prog k1 c1.toArray w (RetV w (iV 0)))
    (hΨ' : ∀ G G' L, Gle G G' → Ψ G L → Ψ G' L)
    (hd2 : callB Tryz.prog k2 = true ∧ ∀ G w, Gle Gc G → Since B G0 w0 G w → Owns G w B (rowC b cc :: rowA n (.slice ad n cp0) ac :: Lq) → Calls Tryz.prog k2 c2.toArray w (RetO B G0 w0 G w (fun G' L' v => v = iV e2 ∧ ∃ Lq', L' = rowC b cc :: rowA n (.slice ad n cp0) ac :: Lq' ∧ Ψ G' Lq'))) :
    Calls Tryz.prog 24 [pV b, .iface ta xa, .func (.func kr) #[] cr.toArray, .slice (some ⟨bm, 0, none⟩) 2 2].toArray wc (RetO B G0 w0 Gc wc (fun G' L' v => ∃ Lq', Ψ G' Lq' ∧ ((v = iV e2 ∧ e2 ≠ 0 ∧ L' = rowC b cc :: rowA n (.slice ad n cp0) ac :: Lq') ∨
      (v = iV 0 ∧ e2 = 0 ∧ ∃ ad' cp' ac', L' = rowC b (splice cc 60 [.slice ad' (n + 1) cp']) :: rowA (n + 1) (.slice ad' (n + 1) cp') ac' :: Lq' ∧ Rd RAct 1 G' ac' (xs ++ [.iface ta xa]))))) := by
  refine enterL (N := 42) (rs := [.tmp 8]) hO.base Tryz.func24 rfl rfl rfl rfl (WC_seq (WC_region ?_))
  refine WL_op rfl (OpP_newF (v := fun b => pV b) (cs := [pV b]) (e := 50) (by kernel_rfl) hS.sat rfl fun b4 G1 w1 hg hc4 => ?_)
  have hS := hS.grow hg
  have hO := hO.grow hg
  refine WL_op rfl (OpP_newF (v := fun b => pV b) (cs := [.func (.func kr) #[] cr.toArray]) (e := 55) (by kernel_rfl) hS.sat rfl fun b6 G2 w2 hg2 hc6 => ?_)
  have hS := hS.grow hg2
  have hO := hO.grow hg2
  refine WL_val (rn_assign (v := iV 0) rfl) rfl (WL_nil (WC_seq (WC_region ?_)))
  refine WL_val (rn_func (vs := []) (us := [pV b4]) rfl rfl) rfl (WL_val (rn_func (vs := []) (us := [pV b6]) rfl rfl) rfl (WL_val (rn_func (vs := []) (us := [pV b4]) rfl rfl) rfl ?_))
  refine WL_val (v := .agg #[.func (.func 75) #[] #[pV b4], .func (.func 76) #[] #[pV b6], .func (.func 77) #[] #[pV b4]]) (by kernel_rfl) rfl ?_
  refine WL_op rfl (OpP_newO (v := fun b => pV b) (cs := [.nilFunc, .nilFunc, .nilFunc]) (e := 169) (by kernel_rfl) hS.sat hO rfl 3 1 rfl (by decide) fun b9 w3 hb hO => ?_)
  have hS := hS.keep hb
  refine WL_op rfl (OpP_store (vs := [.func (.func 75) #[] #[pV b4], .func (.func 76) #[] #[pV b6], .func (.func 77) #[] #[pV b4]]) sz169c hS hO (k := 0) rfl rfl rfl rfl rfl (one_all rfl) (Nat.le_of_ble_eq_true rfl) fun w4 hS hO => ?_)
  obtain ⟨G3, le3, hS, hO, hq, _⟩ := hO.freeze hS (k := 0) rfl
  have hc9 : Cells G3 b9 0 [.func (.func 75) #[] #[pV b4], .func (.func 76) #[] #[pV b6], .func (.func 77) #[] #[pV b4]] := hq _ _ _ _ rfl
  have hO : Owns G3 w4 B (rowC b cc :: rowA n (.slice ad n cp0) ac :: Lq) := hO
  refine WL_nil (WC_seq (WC_seq (WC_region (WL_val (v := .slice (some ⟨b9, 0, none⟩) 3 3) (by kernel_rfl) rfl (WL_val (rn_move (v := .slice (some ⟨bm, 0, none⟩) 2 2) rfl) rfl ?_)))))
  refine WL_op rfl (OpP_newF (v := fun b => .slice (some ⟨b, 0, none⟩) 2 2) (cs := [.slice (some ⟨b9, 0, none⟩) 3 3, .slice (some ⟨bm, 0, none⟩) 2 2]) (e := 168) (by kernel_rfl) hS.sat rfl fun bo G4 w5 hg4 hcb => ?_)
  have hS := hS.grow hg4
  have hO := hO.grow hg4
  have le4 : Gle Gc G4 := ((hg.le.trans hg2.le).trans le3).trans hg4.le
  have hc9 := hc9.mono hg4.le
  have hm4 := hm.mono le4
  have hc4 := hc4.mono ((hg2.le.trans le3).trans hg4.le)
  have hc6 := hc6.mono (le3.trans hg4.le)
  have n1 : bo ≠ b9 := fun e => by subst e; have h1 := hcb 0 _ rfl; have h2 := hc9 0 _ rfl; rw [h1] at h2; cases h2
  have n2 : bo ≠ bm := fun e => by subst e; have h1 := hcb 0 _ rfl; have h2 := hm4 0 _ rfl; rw [h1] at h2; cases h2
  have n3 : b9 ≠ bm := fun e => by
    subst e
    have h1 := hc9 0 _ rfl
    have h2 := hm4 0 _ rfl
    rw [h1] at h2
    simp only [Option.some.injEq, Value.func.injEq, Fn.func.injEq] at h2
    exact hk1 h2.1.symm
  refine WL_op rfl (OpP_enter (rn_call (al := [.slice (some ⟨bo, 0, none⟩) 2 2]) cb78c rfl) rfl (Ev.f78_ok _ _ _ _ _ _ _ _ _ _ _ _ _ _ _ (Nat.le_trans h2 hS.base) n1 n2 n3 (fun j v hj => hS.sat.cell (hcb j v hj)) (fun j v hj => hS.sat.cell (hc9 j v hj)) (fun j v hj => hS.sat.cell (hm4 j v hj))) fun e w6 hR => ?_)
  obtain ⟨b', off, cp, rfl, hb, hcell⟩ := hR
  refine ⟨_, rfl, .below hb, ?_⟩
  have hS := hS.keep hb
  have hO := hO.below hb
  obtain ⟨e168, by168, hs⟩ := sl168d
  refine WL_val (rn_len (m := 5) hs rfl rfl rfl) rfl (WL_val (rn_move (v := iV 0) rfl) rfl (WL_nil ?_))
  refine WC_block (WC_loopI (WI_rounds 4 (fun i F w => ∃ Fb, F = upds Fb [(1, .iface ta xa), (4, pV b4), (20, .slice (some ⟨b', off, none⟩) 5 cp), (21, iV 5), (22, iV i)] ∧ Since B G0 w0 G4 w ∧ Owns G4 w B (rowC b cc :: rowA n (.slice ad n cp0) ac :: Lq) ∧
    ∀ (j : Nat) v, [Value.func (.func 75) #[] #[pV b4], .func (.func 76) #[] #[pV b6], .func (.func 77) #[] #[pV b4], .func (.func k1) #[] c1.toArray, .func (.func k2) #[] c2.toArray][j]? = some v → w.cell? ⟨b', off + j, none⟩ = some v) ?_ ?_ 4 0 _ _ rfl ⟨_, upds_self _ _ ⟨rfl, rfl, rfl, rfl, rfl, trivial⟩, hS, hO, hcell⟩))
  · rintro i F w hi ⟨Fb, rfl, hS, hO, hcell⟩
    have spec : ∃ k ca, [Value.func (.func 75) #[] #[pV b4], .func (.func 76) #[] #[pV b6], .func (.func 77) #[] #[pV b4], .func (.func k1) #[] c1.toArray, .func (.func k2) #[] c2.toArray][i]? = some (.func (.func k) #[] (ca : List Value).toArray) ∧ callB Tryz.prog k = true ∧ Calls Tryz.prog k ca.toArray w (RetV w (iV 0)) := by
      obtain ⟨p, e, m, hc⟩ := hco G4 w le4 hS hO
      match i, hi with
      | 0, _ => exact ⟨75, [pV b4], rfl, cb75c, f75_ok hc (hS.sat.cell (hc4 0 _ rfl))⟩
      | 1, _ => exact ⟨76, [pV b6], rfl, cb76c, f76_ok' (is := true) (hS.sat.cell (hc6 0 _ rfl)) hr.1 (hr.2 G4 w le4 hS hO)⟩
      | 2, _ => refine ⟨77, [pV b4], rfl, cb77c, ?_⟩
                have := f77_ok hc (hS.sat.cell (hc4 0 _ rfl))
                rw [show decide ((n : Int) < 100) = true by simp; omega] at this
                exact this
      | 3, _ => exact ⟨k1, c1, rfl, hd1.1, hd1.2 G4 w le4 hS hO⟩
    obtain ⟨k, ca, hcl, hk, hcall⟩ := spec
    have hcl' := hcell i _ hcl
    refine WC_seq (WC_region (WL_val (rn_lss rfl rfl) rfl (WL_nil (WC_seq (WC_condT (decide ((i : Int) < 5)) (by simp; omega) rfl (WC_skip ?_))))))
    refine WC_seq (WC_block (WC_seq (WC_region (WL_val (rn_idxL hs rfl rfl (by omega)) rfl (WL_val (rn_load na89c rfl (by rw [Nat.mul_one]; exact hcl')) rfl (WL_val (rn_assign (v := .func (.func k) #[] ca.toArray) rfl) rfl (WL_nil (WC_seq (WC_region (WL_val (rn_move (v := .func (.func k) #[] ca.toArray) rfl) rfl ?_))))))))))
    refine WL_op rfl (OpP_callVF (fi := []) (al := []) (ca := ca) hk hcall rfl rfl rfl fun w7 hb => ?_)
    refine WL_val (rn_assign (v := iV 0) rfl) rfl (WL_nil (WC_seq (WC_region (WL_val (rn_move (v := iV 0) rfl) rfl (WL_val (rn_neq rfl rfl) rfl (WL_nil (WC_condF false rfl rfl (WC_skip ?_))))))))
    refine WC_region (WL_val (rn_add rfl rfl) rfl (WL_val (rn_move (v := iV (IntKind.i64.wrap ((i : Int) + 1))) rfl) rfl (WL_nil ?_)))
    exact ⟨_, upds_self _ _ ⟨rfl, rfl, rfl, rfl, congrArg iV (wrap_s (by omega)), trivial⟩, hS.keep hb, hO.below hb, fun j v hj => cell_below hb (hcell j v hj)⟩
  · rintro F w ⟨Fb, rfl, hS, hO, hcell⟩
    have hcl' := hcell 4 _ rfl
    refine WI_step (WC_seq (WC_region (WL_val (rn_lss rfl rfl) rfl (WL_nil (WC_seq (WC_condT _ (show decide (((4 : Nat) : Int) < 5) = true by decide) rfl (WC_skip ?_)))))))
    refine WC_seq (WC_block (WC_seq (WC_region (WL_val (rn_idxL hs rfl rfl (show 4 < 5 by decide)) rfl (WL_val (rn_load na89c rfl (by rw [Nat.mul_one]; exact hcl')) rfl (WL_val (rn_assign (v := .func (.func k2) #[] c2.toArray) rfl) rfl (WL_nil (WC_seq (WC_region (WL_val (rn_move (v := .func (.func k2) #[] c2.toArray) rfl) rfl ?_))))))))))
    refine WL_op rfl (OpP_lent (fi := []) (al := []) (ca := c2) hd2.1 (hd2.2 G4 w le4 hS hO) rfl rfl rfl fun v G5 w7 L7 le5 hS hO hv => ?_)
    obtain ⟨rfl, Lq', rfl, hΨ⟩ := hv
    refine WL_val (rn_assign (v := iV e2) rfl) rfl (WL_nil (WC_seq (WC_region (WL_val (rn_move (v := iV e2) rfl) rfl (WL_val (rn_neq rfl rfl) rfl (WL_nil (WC_cond rfl (fun hb => ?_) (fun hb => ?_))))))))
    · refine WC_seq (WC_region (WL_val (rn_move (v := iV e2) rfl) rfl (WL_val (rn_assign (v := iV e2) rfl) rfl (WL_nil (WC_ret ?_)))))
      exact ⟨[iV e2], ⟨rfl, trivial⟩, G5, _, le4.trans le5, hS, hO, Lq', hΨ, .inl ⟨rfl, by simpa using hb, rfl⟩⟩
    · have he : e2 = 0 := by simpa using hb
      subst he
      refine WC_skip (WC_region (WL_val (rn_add rfl rfl) rfl (WL_val (rn_move (v := iV 5) rfl) rfl (WL_nil ?_))))
      refine WI_step (WC_seq (WC_region (WL_val (rn_lss rfl rfl) rfl (WL_nil (WC_seq (WC_condF _ (show decide ((5 : Int) < 5) = false by decide) rfl (WC_exit rfl ?_)))))))
      have hc4 := hc4.mono le5
      have hrd := hrd.mono RAct_mono (le4.trans le5)
      have hv60 : w7.cell? ⟨b, 60, none⟩ = some (.slice ad n cp0) := own_cell hO (k := 0) rfl h60
      refine WC_seq (WC_regionD mixedO (fun _ w => Sat G5 w ∧ w.cell? ⟨b, 60, none⟩ = some (.slice ad n cp0)) (.fl 0 (.fl 1 (.fl 2 (.fl 3 (.fl 4 (.fl 5 (.on 6 (.on 7 (.on 8 (.on 9 (.on 10 .nil))))))))))) (by kernel_rfl) rfl (by kernel_rfl) (fun _ => ⟨(hS.keep (below_drew _)).sat, cell_below (below_drew _) hv60⟩) ?_)
      have hS := hS.keep (below_drew w7)
      have hO := hO.below (below_drew w7)
      refine WD_val rfl (fun w hw => rn_load na50c rfl (hw.1.cell (hc4 0 _ rfl))) rfl (WD_val rfl (fun w hw => rn_load na50c rfl (hw.1.cell (hc4 0 _ rfl))) rfl (WD_val (v := pV b) rfl (fun w hw => by kernel_rfl) rfl (WD_val rfl (fun w hw => rn_fld fd87_10 rfl) rfl (WD_val rfl (fun w hw => rn_load na85c rfl hw.2) rfl (WD_val (v := .iface ta xa) rfl (fun w hw => rn_move rfl) rfl ?_)))))
      refine WD_op rfl rfl (OpP_newF (v := fun b => .slice (some ⟨b, 0, none⟩) 1 1) (cs := [.iface ta xa]) (e := 167) (by kernel_rfl) hS.sat rfl fun b11 G6 w8 hg hc11 => ?_)
      have hS := hS.grow hg
      have hO := hO.grow hg
      refine ⟨fun _ _ => ⟨hS.sat.le hg.le, own_cell hO (k := 0) rfl h60⟩, ?_⟩
      refine WD_op rfl rfl (OpP_append (k := 1) sl85d RAct_one hS hO rfl hxs (hrd.mono RAct_mono hg.le) (RSl.of_rd hc11 (Rd.cons (c := [.iface ta xa]) rfl ⟨rfl, rfl⟩ (Rd.nil _ _ _)) rfl (show 1 ≤ maxLen by decide)) (app_s xs [.iface ta xa] (by simp; omega)) rfl rfl rfl rfl rfl fun a9 c9 w9 ac9 hS hO hr9 => ?_)
      have hzl : (xs ++ [Value.iface ta xa]).length = n + 1 := by simp [hxs]
      rw [hzl] at hO ⊢
      have hO : Owns G6 w9 B (rowC b cc :: rowA (n + 1) (.slice a9 (n + 1) c9) ac9 :: Lq') := hO
      refine ⟨fun _ _ => ⟨hS.sat.le hg.le, own_cell hO (k := 0) rfl h60⟩, ?_⟩
      refine WD_op rfl rfl (OpP_val (v := pV b) (by kernel_rfl) rfl ⟨fun _ h => noneed (by kernel_rfl) h, ?_⟩)
      refine WD_op rfl rfl (OpP_val (rn_fld fd87_10 rfl) rfl ⟨fun _ h => noneed (by kernel_rfl) h, ?_⟩)
      refine WD_op rfl rfl (OpP_store (vs := [.slice a9 (n + 1) c9]) sz85c hS hO (k := 0) rfl rfl rfl rfl rfl (one_all rfl) (by simp [hcl62]) fun w10 hS hO => ⟨fun _ h => noneed (by kernel_rfl) h, ?_⟩)
      have hO : Owns G6 w10 B (rowC b (splice cc 60 [.slice a9 (n + 1) c9]) :: rowA (n + 1) (.slice a9 (n + 1) c9) ac9 :: Lq') := hO
      refine WD_nil (WC_seq (WC_region (WL_val (rn_assign (v := iV 0) rfl) rfl (WL_nil (WC_ret ?_)))))
      exact ⟨[iV 0], ⟨rfl, trivial⟩, G6, _, (le4.trans le5).trans hg.le, hS, hO, Lq', hΨ' _ _ _ hg.le hΨ, .inr ⟨rfl, rfl, _, _, _, rfl, hr9⟩⟩
end Go.Proofs.YtncjnffbdhckdaaGreatDoor
