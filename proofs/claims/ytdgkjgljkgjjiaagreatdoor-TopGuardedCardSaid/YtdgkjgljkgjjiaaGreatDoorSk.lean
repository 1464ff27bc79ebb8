/-
  The council: an atoll is looked at.
-/
import Derived.Test.YtdgkjgljkgjjiaaGreatDoorSg
namespace Go.Proofs.YtdgkjgljkgjjiaaGreatDoor
open Go.RowKit Sf
set_option linter.unusedVariables false
set_option maxRecDepth 20000

def AllI (P : Nat → Value → Prop) : Nat → List Value → Prop
  | _, [] => True
  | i, v :: r => P i v ∧ AllI P (i + 1) r
theorem AllI.at' {P : Nat → Value → Prop} : ∀ {l : List Value} {i : Nat}, AllI P i l → ∀ j v, l[j]? = some v → P (i + j) v
  | [], _, _, _, _, h => by simp at h
  | x :: r, i, h, 0, v, hv => by simp at hv; subst hv; exact h.1
  | x :: r, i, h, j + 1, v, hv => by
    have := h.2.at' j v (by simpa using hv)
    rwa [show i + 1 + j = i + (j + 1) by omega] at this
theorem KI.of {G : Gm} {cc : List Value} {x : TCouncilAtoll} (h : RTCouncilAtoll G cc x) : KI x 99 G cc ∧ cc[22]? = some (iV x.Reef.Seasons) ∧ cc[18]? = cc[18]? := by
  obtain ⟨b0, m0, d0, b1, m1, d1, b2, m2, d2, b3, m3, d3, b4, m4, d4, b5, m5, d5, b6, m6, d6, b7, m7, d7, b8, m8, d8, b9, m9, d9, b10, m10, d10, b11, m11, d11, b12, m12, d12, b13, m13, d13, b14, m14, d14, b15, m15, d15, rfl, h0, h1, h2, h3, h4, h5, h6, h7, h8, h9, h10, h11, h12, h13, h14, h15⟩ := h
  refine ⟨⟨rfl, fun j v hj => ?_⟩, rfl, rfl⟩
  have key : ∀ l, AllI (fun j v => v.oneCell' = true ∧ (j ≠ 99 → KQ x j G v)) 0 l → l[j]? = some v → v.oneCell' = true ∧ (j ≠ 99 → KQ x j G v) := fun l h hj => by have := h.at' j v hj; rwa [Nat.zero_add] at this
  exact key _ (by exact ⟨⟨rfl, fun _ => trivial⟩, ⟨rfl, fun _ => trivial⟩, ⟨rfl, fun _ => trivial⟩, ⟨rfl, fun _ => trivial⟩, ⟨rfl, fun _ => trivial⟩, ⟨rfl, fun _ => trivial⟩, ⟨rfl, fun _ => trivial⟩, ⟨rfl, fun _ => trivial⟩, ⟨rfl, fun _ => trivial⟩, ⟨rfl, fun _ => trivial⟩, ⟨rfl, fun _ => trivial⟩, ⟨rfl, fun _ => trivial⟩, ⟨rfl, fun _ => ⟨_, _, _, rfl, h0⟩⟩, ⟨rfl, fun _ => ⟨_, _, _, rfl, h1⟩⟩, ⟨rfl, fun _ => trivial⟩, ⟨rfl, fun _ => trivial⟩, ⟨rfl, fun _ => trivial⟩, ⟨rfl, fun _ => ⟨_, _, _, rfl, h2⟩⟩, ⟨rfl, fun _ => ⟨_, _, _, rfl, h3⟩⟩, ⟨rfl, fun _ => ⟨_, _, _, rfl, h4⟩⟩, ⟨rfl, fun _ => ⟨_, _, _, rfl, h5⟩⟩, ⟨rfl, fun _ => trivial⟩, ⟨rfl, fun _ => trivial⟩, ⟨rfl, fun _ => rfl⟩, ⟨rfl, fun _ => ⟨_, _, _, rfl, h6⟩⟩, ⟨rfl, fun _ => ⟨_, _, _, rfl, h7⟩⟩, ⟨rfl, fun _ => ⟨_, _, _, rfl, h8⟩⟩, ⟨rfl, fun _ => rfl⟩, ⟨rfl, fun _ => ⟨_, _, _, rfl, h9⟩⟩, ⟨rfl, fun _ => ⟨_, _, _, rfl, h10⟩⟩, ⟨rfl, fun _ => trivial⟩, ⟨rfl, fun _ => trivial⟩, ⟨rfl, fun _ => ⟨_, _, _, rfl, h11⟩⟩, ⟨rfl, fun _ => trivial⟩, ⟨rfl, fun _ => trivial⟩, ⟨rfl, fun _ => trivial⟩, ⟨rfl, fun _ => trivial⟩, ⟨rfl, fun _ => trivial⟩, ⟨rfl, fun _ => trivial⟩, ⟨rfl, fun _ => ⟨_, _, _, rfl, h12⟩⟩, ⟨rfl, fun _ => trivial⟩, ⟨rfl, fun _ => trivial⟩, ⟨rfl, fun _ => trivial⟩, ⟨rfl, fun _ => trivial⟩, ⟨rfl, fun _ => trivial⟩, ⟨rfl, fun _ => trivial⟩, ⟨rfl, fun _ => ⟨_, _, _, rfl, h13⟩⟩, ⟨rfl, fun _ => ⟨_, _, _, rfl, h14⟩⟩, ⟨rfl, fun _ => ⟨_, _, _, rfl, h15⟩⟩, ⟨rfl, fun _ => trivial⟩, ⟨rfl, fun _ => rfl⟩, trivial⟩) hj
theorem fd49_2 : fldB Tryz.prog 49 2 = some 17 := by kernel_rfl
theorem ag32 : agB Tryz.prog 32 = some 3 := by kernel_rfl
theorem kn3 : naB Tryz.prog 3 = true := by kernel_rfl
theorem fd49_0c : fldB Tryz.prog 49 0 = some 0 := by kernel_rfl
theorem fd49_1c : fldB Tryz.prog 49 1 = some 16 := by kernel_rfl
theorem fd49_3c : fldB Tryz.prog 49 3 = some 20 := by kernel_rfl
theorem fd49_4c : fldB Tryz.prog 49 4 = some 23 := by kernel_rfl
theorem fd49_5c : fldB Tryz.prog 49 5 = some 28 := by kernel_rfl
theorem fd49_6c : fldB Tryz.prog 49 6 = some 34 := by kernel_rfl
theorem fd49_7c : fldB Tryz.prog 49 7 = some 45 := by kernel_rfl
theorem fd49_8c : fldB Tryz.prog 49 8 = some 50 := by kernel_rfl
theorem ag27c : agB Tryz.prog 27 = some 16 := by kernel_rfl
theorem ag35c : agB Tryz.prog 35 = some 3 := by kernel_rfl
theorem ag38c : agB Tryz.prog 38 = some 5 := by kernel_rfl
theorem ag42c : agB Tryz.prog 42 = some 6 := by kernel_rfl
theorem ag45c : agB Tryz.prog 45 = some 11 := by kernel_rfl
theorem ag47c : agB Tryz.prog 47 = some 5 := by kernel_rfl
theorem cz101c : callB Tryz.prog 93 = true := by kernel_rfl
theorem cz102c : callB Tryz.prog 120 = true := by kernel_rfl
theorem cz103c : callB Tryz.prog 122 = true := by kernel_rfl
theorem cz104c : callB Tryz.prog 123 = true := by kernel_rfl
theorem cz105c : callB Tryz.prog 124 = true := by kernel_rfl
theorem cz106c : callB Tryz.prog 125 = true := by kernel_rfl
theorem cz107c : callB Tryz.prog 126 = true := by kernel_rfl
theorem cb121c : callB Tryz.prog 121 = true := by kernel_rfl
theorem f123_sea {G : Gm} {w : World} {cc : List Value} {x : TCouncilAtoll} {r : Int} (hS : Sat G w) (h : RTCouncilAtoll G cc x) (H : f123 x.Sea = some r) : Calls Tryz.prog 123 [.agg ((cc.drop 23).take 5).toArray].toArray w (RetV w (iV r)) := by
  obtain ⟨b0, m0, d0, b1, m1, d1, b2, m2, d2, b3, m3, d3, b4, m4, d4, b5, m5, d5, b6, m6, d6, b7, m7, d7, b8, m8, d8, b9, m9, d9, b10, m10, d10, b11, m11, d11, b12, m12, d12, b13, m13, d13, b14, m14, d14, b15, m15, d15, rfl, h0, h1, h2, h3, h4, h5, h6, h7, h8, h9, h10, h11, h12, h13, h14, h15⟩ := h
  exact f123_ok hS h6 h7 h8 H
theorem atl_len {G : Gm} {cc : List Value} {x : TCouncilAtoll} (h : RTCouncilAtoll G cc x) : cc.length = 51 := (KI.of h).1.len
theorem atl_tank {G : Gm} {cc : List Value} {x : TCouncilAtoll} (h : RTCouncilAtoll G cc x) : cc[16]? = some (iV x.Tank) ∧ cc[50]? = some (iV x.Money) := by
  obtain ⟨b0, m0, d0, b1, m1, d1, b2, m2, d2, b3, m3, d3, b4, m4, d4, b5, m5, d5, b6, m6, d6, b7, m7, d7, b8, m8, d8, b9, m9, d9, b10, m10, d10, b11, m11, d11, b12, m12, d12, b13, m13, d13, b14, m14, d14, b15, m15, d15, rfl, _⟩ := h
  exact ⟨rfl, rfl⟩
theorem okc {n : Int} (h : Nat.ble n.toNat 1000000000 = true) (h0 : n = ((n.toNat : Nat) : Int)) : okI n := by have := Nat.le_of_ble_eq_true h; unfold okI; omega
set_option maxHeartbeats 1000000 in
/-- the error of an atoll -/
theorem f52_ok {G0 : Gm} {w0 : World} (hS0 : Sat G0 w0) {cc : List Value} {x : TCouncilAtoll} (hA : RTCouncilAtoll G0 cc x) (ok : okTCouncilAtoll x) {r : Int} (H : f123 x.Sea = some r) :
    Calls Tryz.prog 52 [.agg cc.toArray].toArray w0 (RetG G0 w0 fun _ v => ∃ e, v = iV e ∧ (e = 0 → r = 0)) := by
  have hS := Since.start hS0
  have hl := atl_len hA
  obtain ⟨t16, t50⟩ := atl_tank hA
  have okT := ok.2.1
  have okM : okI x.Money := ok.2.2.2.2.2.2.2.2
  refine enter1 (N := 43) (shutG _ _ _) Tryz.func52 rfl rfl rfl rfl (WC_seq (WC_region (WL_op rfl (OpP_newF (v := fun b => pV b) (cs := cc) (e := 49) (rn_boxA rfl) hS.sat rfl fun b1 G1 w1 hg1 hc1 => ?_))))
  have hS := hS.grow hg1
  have hA := RTCouncilAtoll_mono _ _ _ _ hg1.le hA
  refine WL_val (rn_assign (v := iV 0) rfl) rfl (WL_nil (WC_seq (WC_seq ?_)))
  refine WC_cut (fun F w => ∃ Fb G q, F = upds Fb [(1, pV b1), (14, .bool q)] ∧ Gle G1 G ∧ Since w0.heap.size G0 w0 G w) ?_ ?_
  · refine WC_region (WL_val (rn_fld fd49_1c rfl) rfl (WL_val (rn_load kn3 rfl (hS.sat.cell (hc1 16 _ t16))) rfl ?_))
    refine WL_op rfl (OpP_callG cz101c (in_ok okT (okc rfl rfl) (okc rfl rfl) hS.sat) rfl rfl fun v G w hg hv => ?_)
    obtain ⟨q1, rfl⟩ := hv
    have hS := hS.grow hg
    have le1 := hg.le
    refine WL_val (rn_not rfl) rfl (WL_val (rn_move (v := .bool (!q1)) rfl) rfl ?_)
    cases hq : q1 with
    | false =>
      refine WL_guardN rfl rfl rfl rfl rfl (WL_guardN rfl rfl rfl rfl rfl (WL_guardN rfl rfl rfl rfl rfl (WL_guardN rfl rfl rfl rfl rfl (WL_val (v := .bool true) (by kernel_rfl) rfl (WL_nil ?_)))))
      exact ⟨_, G, true, upds_self _ _ ⟨rfl, rfl, trivial⟩, le1, hS⟩
    | true =>
      refine WL_guardY rfl rfl rfl rfl (WL_val (rn_fld fd49_8c rfl) rfl (WL_guardY rfl rfl rfl rfl (WL_val (rn_load kn3 rfl (hS.sat.cell (le1.cell (hc1 50 _ t50)))) rfl (WL_guardY rfl rfl rfl rfl ?_))))
      refine WL_op rfl (OpP_callG cz101c (in_ok okM (okc rfl rfl) (okc rfl rfl) hS.sat) rfl rfl fun v G2 w hg hv => ?_)
      obtain ⟨q2, rfl⟩ := hv
      have hS := hS.grow hg
      refine WL_guardY rfl rfl rfl rfl (WL_val (rn_not rfl) rfl (WL_val (v := .bool (!q2)) (by kernel_rfl) rfl (WL_nil ?_)))
      exact ⟨_, G2, !q2, upds_self _ _ ⟨rfl, rfl, trivial⟩, le1.trans hg.le, hS⟩
  · rintro F w ⟨Fb, G2, q, rfl, le2, hS⟩
    refine WC_cond rfl (fun _ => ?_) (fun _ => ?_)
    · refine WC_seq (WC_region (WL_val (rn_assign (v := iV 2) rfl) rfl (WL_nil (WC_ret ?_))))
      exact ⟨_, _, rfl, hS.toGrow, 2, rfl, fun h => absurd h (by decide)⟩
    · have hS := hS.keep (below_drew w)
      have hc1 := hc1.mono le2
      have hA := RTCouncilAtoll_mono _ _ _ _ le2 hA
      have prt : ∀ {w : World} (o m : Nat), Sat G2 w → ∀ (j : Nat) v, ((cc.drop o).take m)[j]? = some v → w.cell? ⟨b1, 0 + o + j, none⟩ = some v := fun o m hw j v hj => hw.cell (hc1.drop_take o m j v hj)
      have pl : ∀ o m, o + m ≤ 51 → ((cc.drop o).take m).length = m := fun o m h => by simp [hl]; omega
      refine WC_skip (WC_seq (WC_seq (WC_regionD mixedO (fun _ w => Sat G2 w) (.fl 0 (.fl 1 (.fl 3 (.fl 4 (.fl 6 (.fl 7 (.fl 9 (.fl 10 (.fl 12 (.fl 13 (.fl 15 (.fl 16 (.fl 18 (.fl 19 (.fl 22 (.on 2 (.on 5 (.on 8 (.on 11 (.on 14 (.on 17 (.on 20 (.on 21 .nil))))))))))))))))))))))) (by kernel_rfl) rfl (by kernel_rfl) (fun _ => hS.sat) ?_)))
      refine WD_val rfl (fun w hw => rn_fld fd49_0c rfl) rfl (WD_val rfl (fun w hw => rn_loadA (cs := (cc.drop 0).take 16) ag27c rfl (pl 0 16 (by decide)) (prt 0 16 hw)) rfl (WD_val rfl (fun w hw => rn_fld fd49_2 rfl) rfl (WD_val rfl (fun w hw => rn_loadA (cs := (cc.drop 17).take 3) ag32 rfl (pl 17 3 (by decide)) (prt 17 3 hw)) rfl
        (WD_val rfl (fun w hw => rn_fld fd49_3c rfl) rfl (WD_val rfl (fun w hw => rn_loadA (cs := (cc.drop 20).take 3) ag35c rfl (pl 20 3 (by decide)) (prt 20 3 hw)) rfl (WD_val rfl (fun w hw => rn_fld fd49_4c rfl) rfl (WD_val rfl (fun w hw => rn_loadA (cs := (cc.drop 23).take 5) ag38c rfl (pl 23 5 (by decide)) (prt 23 5 hw)) rfl
        (WD_val rfl (fun w hw => rn_fld fd49_5c rfl) rfl (WD_val rfl (fun w hw => rn_loadA (cs := (cc.drop 28).take 6) ag42c rfl (pl 28 6 (by decide)) (prt 28 6 hw)) rfl (WD_val rfl (fun w hw => rn_fld fd49_6c rfl) rfl (WD_val rfl (fun w hw => rn_loadA (cs := (cc.drop 34).take 11) ag45c rfl (pl 34 11 (by decide)) (prt 34 11 hw)) rfl
        (WD_val rfl (fun w hw => rn_fld fd49_7c rfl) rfl (WD_val rfl (fun w hw => rn_loadA (cs := (cc.drop 45).take 5) ag47c rfl (pl 45 5 (by decide)) (prt 45 5 hw)) rfl (WD_val rfl (fun w hw => rn_move (v := iV 0) rfl) rfl ?_))))))))))))))
      have le3 := Gle.refl G2
      refine WD_op rfl rfl (OpP_callG cz102c (chk_ok s102 rfl hS.sat hA ok) rfl rfl fun v G w hg hv => ?_)
      obtain ⟨e0, rfl⟩ := hv
      have hS := hS.grow hg
      have le3 := le3.trans hg.le
      refine ⟨fun _ _ => hS.sat.le le3, ?_⟩
      refine WD_op rfl rfl (OpP_callG cb121c (chk_ok s121 rfl hS.sat (RTCouncilAtoll_mono _ _ _ _ le3 hA) ok) rfl rfl fun v G w hg hv => ?_)
      obtain ⟨e1, rfl⟩ := hv
      have hS := hS.grow hg
      have le3 := le3.trans hg.le
      refine ⟨fun _ _ => hS.sat.le le3, ?_⟩
      refine WD_op rfl rfl (OpP_callG cz103c (chk_ok s103 rfl hS.sat (RTCouncilAtoll_mono _ _ _ _ le3 hA) ok) rfl rfl fun v G w hg hv => ?_)
      obtain ⟨e2, rfl⟩ := hv
      have hS := hS.grow hg
      have le3 := le3.trans hg.le
      refine ⟨fun _ _ => hS.sat.le le3, ?_⟩
      refine WD_op rfl rfl (OpP_callV cz104c (f123_sea hS.sat (RTCouncilAtoll_mono _ _ _ _ le3 hA) H) rfl rfl fun w hb => ?_)
      have hS := hS.keep hb
      refine ⟨fun _ _ => hS.sat.le le3, ?_⟩
      refine WD_op rfl rfl (OpP_callG cz105c (chk_ok s105 rfl hS.sat (RTCouncilAtoll_mono _ _ _ _ le3 hA) ok) rfl rfl fun v G w hg hv => ?_)
      obtain ⟨e4, rfl⟩ := hv
      have hS := hS.grow hg
      have le3 := le3.trans hg.le
      refine ⟨fun _ _ => hS.sat.le le3, ?_⟩
      refine WD_op rfl rfl (OpP_callG cz106c (chk_ok s106 rfl hS.sat (RTCouncilAtoll_mono _ _ _ _ le3 hA) ok) rfl rfl fun v G w hg hv => ?_)
      obtain ⟨e5, rfl⟩ := hv
      have hS := hS.grow hg
      have le3 := le3.trans hg.le
      refine ⟨fun _ _ => hS.sat.le le3, ?_⟩
      refine WD_op rfl rfl (OpP_callG cz107c (chk_ok s107 rfl hS.sat (RTCouncilAtoll_mono _ _ _ _ le3 hA) ok) rfl rfl fun v G w hg hv => ?_)
      obtain ⟨e6, rfl⟩ := hv
      have hS := hS.grow hg
      have le3 := le3.trans hg.le
      refine ⟨fun _ _ => hS.sat.le le3, ?_⟩
      refine WD_op rfl rfl (OpP_val (v := .agg #[iV e0, iV e1, iV e2, iV r, iV e4, iV e5, iV e6]) (by kernel_rfl) rfl ⟨fun _ _ => hS.sat.le le3, WD_nil ?_⟩)
      refine WC_block (WC_loopI (WI_rounds 7 (fun i F w => ∃ Fb, F = upds Fb [(36, .agg #[iV e0, iV e1, iV e2, iV r, iV e4, iV e5, iV e6]), (37, iV i)] ∧ Since w0.heap.size G0 w0 G w ∧ (4 ≤ i → r = 0)) ?_ ?_ 7 0 _ _ rfl ⟨_, upds_self _ _ ⟨rfl, rfl, trivial⟩, hS, fun h => absurd h (by decide)⟩))
      · rintro i F w hi ⟨Fb, rfl, hS, hr⟩
        refine WC_seq (WC_region (WL_val (rn_lss rfl rfl) rfl (WL_nil (WC_seq (WC_condT (decide ((i : Int) < 7)) (by simp; omega) rfl (WC_skip ?_))))))
        have at_i : ∃ y, (i = 3 → y = r) ∧ ∀ (F' : Fr) (q : Value) (d : Option Nat) (ty : TypeId) (pos : String) (af : Array Edge) (gd : Option (Nat × Bool)) (w : World), (execOp (ev (upd (upds F' [(36, (.agg #[iV e0, iV e1, iV e2, iV r, iV e4, iV e5, iV e6])), (37, iV i)]) 38 q)) ⟨d, .index 213 (.tmp 36) (.tmp 37), ty, pos, af, gd⟩).run Tryz.prog w = .ok (.value (iV y)) w := by
          match i, hi with
          | 0, _ => exact ⟨e0, fun h => absurd h (by decide), fun F' q d ty pos af gd w => by kernel_rfl⟩
          | 1, _ => exact ⟨e1, fun h => absurd h (by decide), fun F' q d ty pos af gd w => by kernel_rfl⟩
          | 2, _ => exact ⟨e2, fun h => absurd h (by decide), fun F' q d ty pos af gd w => by kernel_rfl⟩
          | 3, _ => exact ⟨r, fun h => rfl, fun F' q d ty pos af gd w => by kernel_rfl⟩
          | 4, _ => exact ⟨e4, fun h => absurd h (by decide), fun F' q d ty pos af gd w => by kernel_rfl⟩
          | 5, _ => exact ⟨e5, fun h => absurd h (by decide), fun F' q d ty pos af gd w => by kernel_rfl⟩
          | 6, _ => exact ⟨e6, fun h => absurd h (by decide), fun F' q d ty pos af gd w => by kernel_rfl⟩
        obtain ⟨y, hy, run⟩ := at_i
        refine WC_seq (WC_block (WC_seq (WC_region (WL_val (run _ _ _ _ _ _ _ _) rfl (WL_val (rn_assign (v := iV y) rfl) rfl (WL_nil (WC_seq (WC_region (WL_val (rn_move (v := iV y) rfl) rfl (WL_val (rn_neq rfl rfl) rfl (WL_nil (WC_cond rfl (fun hb => ?_) (fun hb => ?_)))))))))))))
        · refine WC_seq (WC_region (WL_val (rn_assign (v := iV 2) rfl) rfl (WL_nil (WC_ret ?_))))
          exact ⟨_, _, rfl, hS.toGrow, 2, rfl, fun h => absurd h (by decide)⟩
        · have hy0 : y = 0 := by simpa using hb
          refine WC_skip (WC_region (WL_val (rn_add rfl rfl) rfl (WL_val (rn_move (v := iV (IntKind.i64.wrap ((i : Int) + 1))) rfl) rfl (WL_nil ?_))))
          refine ⟨_, upds_self _ _ ⟨rfl, congrArg iV (wrap_s (by omega)), trivial⟩, hS, fun h2 => ?_⟩
          by_cases e : i = 3
          · rw [← hy e]; exact hy0
          · exact hr (by omega)
      · rintro F w ⟨Fb, rfl, hS, hr⟩
        refine WI_step (WC_seq (WC_region (WL_val (rn_lss rfl rfl) rfl (WL_nil (WC_seq (WC_condF _ (show decide (((7 : Nat) : Int) < 7) = false by decide) rfl (WC_exit rfl ?_)))))))
        refine WC_seq (WC_region (WL_val (rn_assign (v := iV 0) rfl) rfl (WL_nil (WC_ret ?_))))
        exact ⟨_, _, rfl, hS.toGrow, 0, rfl, fun _ => hr (by decide)⟩
end Go.Proofs.YtdgkjgljkgjjiaaGreatDoor
