/-
  The council: an atoll is opened. (Printed by mkopen.py.)
-/
import Derived.Test.YtdgkjgljkgjjiaaGreatDoorSk
namespace Go.Proofs.YtdgkjgljkgjjiaaGreatDoor
open Go.RowKit
set_option linter.unusedVariables false
set_option maxRecDepth 20000
theorem f12A {G : Gm} {w : World} {cc : List Value} {x : TCouncilAtoll} {r : Bool} (hS : Sat G w) (h : RTCouncilAtoll G cc x) (H : f13 x = some r) : Calls Tryz.prog 13 [.agg cc.toArray].toArray w (RetV w (.bool r)) := by
  obtain ⟨b0, m0, d0, b1, m1, d1, b2, m2, d2, b3, m3, d3, b4, m4, d4, b5, m5, d5, b6, m6, d6, b7, m7, d7, b8, m8, d8, b9, m9, d9, b10, m10, d10, b11, m11, d11, b12, m12, d12, b13, m13, d13, b14, m14, d14, b15, m15, d15, rfl, h0, h1, h2, h3, h4, h5, h6, h7, h8, h9, h10, h11, h12, h13, h14, h15⟩ := h
  exact f13_ok hS h0 h1 h2 h3 h4 h5 h6 h7 h8 h9 h10 h11 h12 h13 h14 h15 H
theorem kb12 : callB Tryz.prog 13 = true := by kernel_rfl
theorem kb13 : callB Tryz.prog 14 = true := by kernel_rfl
theorem kb43 : callB Tryz.prog 52 = true := by kernel_rfl
theorem kb44 : callB Tryz.prog 53 = true := by kernel_rfl
theorem kb14 : callB Tryz.prog 15 = true := by kernel_rfl
theorem kf35_2 : fldB Tryz.prog 35 2 = some 2 := by kernel_rfl
theorem kl24 : ∃ by', slB Tryz.prog 24 = some (3, 1, by') ∧ Nat.ble by' 65536 = true := ⟨8, by kernel_rfl, rfl⟩
theorem kz24 : ((Tryz.prog.info? 3).bind fun i => i.zero.map fun v => v.cells.toList) = some [iV 0] := by kernel_rfl
theorem row51 {cc : List Value} (h : cc.length = 51) : ∃ f : Nat → Value, cc = (List.range 51).map f := by
  refine ⟨fun i => (cc[i]?).getD undef, List.ext_getElem? fun i => ?_⟩
  by_cases hi : i < 51
  · have e := List.getElem?_eq_getElem (l := cc) (i := i) (by omega)
    rw [List.getElem?_map, List.getElem?_range hi, Option.map_some, e]; rfl
  · rw [List.getElem?_eq_none (by omega), List.getElem?_eq_none (by simp; omega)]
abbrev t87 (v : Value) : List Value := [iV 0, iV 0, iV 0, v, .slice none 0 0, .slice none 0 0, .slice none 0 0, .bool false, .slice none 0 0, .slice none 0 0, .bool true]
theorem cos_new {G : Gm} {x : TCouncilAtoll} {f : Nat → Value} {v : Value} (hK : KI x 99 G ((List.range 51).map f)) : CoG G ((List.range 51).map f ++ t87 v) (.slice none 0 0) x.Sea x.Money [] := by
  obtain ⟨_, h23, rfl⟩ := hK.get 23 rfl rfl
  obtain ⟨_, h27, rfl⟩ := hK.get 27 rfl rfl
  obtain ⟨_, h50, rfl⟩ := hK.get 50 rfl rfl
  obtain ⟨_, q1, a1, n1, c1, rfl, h1⟩ := hK.get 24 rfl rfl
  obtain ⟨_, q2, a2, n2, c2, rfl, h2⟩ := hK.get 25 rfl rfl
  obtain ⟨_, q3, a3, n3, c3, rfl, h3⟩ := hK.get 26 rfl rfl
  exact ⟨rfl, rfl, rfl, (List.getElem?_append_left (by simp)).trans h50, ⟨none, 0, 0, rfl, RSl.nil _ _ _ _⟩, a1, n1, c1, a2, n2, c2, a3, n3, c3, (List.getElem?_append_left (by simp)).trans h23, (List.getElem?_append_left (by simp)).trans q1, (List.getElem?_append_left (by simp)).trans q2, (List.getElem?_append_left (by simp)).trans q3, (List.getElem?_append_left (by simp)).trans h27, h1, h2, h3⟩
set_option maxHeartbeats 2000000 in
theorem f15_ok {B : Nat} {G0 : Gm} {w0 : World} {Gc : Gm} {wc : World} {L : List Row} {cc : List Value} {x : TCouncilAtoll} {r : Int} (hS : Since B G0 w0 Gc wc) (hO : Owns Gc wc B L) (hA : RTCouncilAtoll Gc cc x) (ok : okTCouncilAtoll x) (hk : Kl x) (H : f123 x.Sea = some r) (hs : 0 ≤ x.Reef.Seasons ∧ x.Reef.Seasons ≤ 1000) :
    Calls Tryz.prog 15 [.agg cc.toArray].toArray wc (RetO B G0 w0 Gc wc (fun G' L' v => (∃ e, e ≠ 0 ∧ v = .tuple #[.pointer none, iV e] ∧ L' = L) ∨ (r = 0 ∧ ∃ b cc', v = .tuple #[pV b, iV 0] ∧ L' = rowC b cc' :: rowA 0 (.slice none 0 0) [] :: L ∧ CoG G' cc' (.slice none 0 0) x.Sea x.Money []))) := by
  have hK := (KI.of hA).1
  have h22 := (KI.of hA).2.1
  refine enterL (N := 18) (rs := [.tmp 2, .tmp 3]) hO.base Tryz.func15 rfl rfl rfl rfl (WC_seq (WC_region ?_))
  refine WL_op rfl (OpP_newF (v := fun b => pV b) (cs := cc) (e := 49) (rn_boxA rfl) hS.sat rfl fun b1 G1 w1 hg1 hc1 => ?_)
  have hS := hS.grow hg1
  have hO := hO.grow hg1
  have hA := RTCouncilAtoll_mono _ _ _ _ hg1.le hA
  have hK := hK.mono hg1.le
  refine WL_val (rn_assign (v := .pointer none) rfl) rfl (WL_val (rn_assign (v := iV 0) rfl) rfl (WL_nil (WC_seq (WC_seq (WC_region (WL_val (rn_loadA (cs := cc) ka49 rfl hK.len fun j v hj => hS.sat.cell (hc1 j v hj)) rfl ?_))))))
  have hL1 := hg1.le
  refine WL_op rfl (OpP_callG kb43 (f52_ok hS.sat hA ok H) rfl rfl fun v G1 w2 hgE hv => ?_)
  obtain ⟨e, rfl, he0⟩ := hv
  have hS := hS.grow hgE
  have hO := hO.grow hgE
  have hL1 := hL1.trans hgE.le
  have hc1 := hc1.mono hgE.le
  have hK := hK.mono hgE.le
  refine WL_val (rn_assign (v := iV e) rfl) rfl (WL_nil (WC_seq (WC_region (WL_val (rn_move (v := iV e) rfl) rfl (WL_val (rn_neq rfl rfl) rfl (WL_nil (WC_cond rfl (fun hb => ?_) (fun hb => ?_))))))))
  · refine WC_seq (WC_region (WL_val (rn_move (v := iV e) rfl) rfl (WL_val (rn_assign (v := .pointer none) rfl) rfl (WL_val (rn_assign (v := iV e) rfl) rfl (WL_nil (WC_ret ?_))))))
    exact ⟨[.pointer none, iV e], ⟨rfl, rfl, trivial⟩, G1, _, hL1, hS, hO, .inl ⟨e, by simpa using hb, rfl, rfl⟩⟩
  · have he : e = 0 := by simpa using hb
    subst he
    obtain ⟨s1, s2⟩ := hs
    obtain ⟨by24, l24, hby⟩ := kl24
    have hS := hS.keep (below_drew w2)
    have hO := hO.below (below_drew w2)
    have hmk : mkS x.Reef.Seasons (0 : Int) = some (List.replicate x.Reef.Seasons.toNat 0) := by unfold mkS; rw [if_pos ⟨s1, by omega⟩]
    refine WC_skip (WC_seq (WC_regionD mixedO (fun _ w => Sat G1 w) (.fl 0 (.fl 2 (.fl 3 (.fl 4 (.two 1 (.on 5 (.on 6 (.on 7 (.on 8 (.on 9 .nil))))) 5 (.on 1 (.on 6 (.on 7 (.on 8 (.on 9 .nil)))))))))) (by kernel_rfl) rfl (by kernel_rfl) (fun _ => hS.sat) ?_))
    refine WD_val rfl (fun w hw => rn_loadA (cs := cc) ka49 rfl hK.len fun j v hj => hw.cell (hc1 j v hj)) rfl (WD_val rfl (fun w hw => rn_fld kf49_3 rfl) rfl (WD_val rfl (fun w hw => rn_fld kf35_2 rfl) rfl (WD_val rfl (fun w hw => rn_load kn3 rfl (hw.cell (hc1 22 _ h22))) rfl (WD_two ?_ ?_))))
    · refine WD_op rfl rfl (OpP_callG kb44 (f53_ok hS.sat hK hk) rfl rfl fun v G2 w3 hg2 hv => ?_)
      obtain ⟨c2, rfl, hK2⟩ := hv
      have hS := hS.grow hg2
      have hO := hO.grow hg2
      refine ⟨fun _ _ => hS.sat.le hg2.le, ?_⟩
      refine WD_op rfl rfl (OpP_make (R := RInt) (x := (0 : Int)) (z := [iV 0]) l24 kz24 hS hO hmk (rfl : RInt G2 [iV 0] 0) rfl rfl rfl hby fun bP w4 cP hS hO hr => ?_)
      refine ⟨fun _ _ => hS.sat.le hg2.le, ?_⟩
      obtain ⟨f, rfl⟩ := row51 hK2.len
      have hO := hO.drop 0
      refine WD_op rfl rfl (OpP_val (v := .agg ((List.range 51).map f ++ t87 (.slice (some ⟨bP, 0, none⟩) (List.replicate x.Reef.Seasons.toNat (0 : Int)).length (List.replicate x.Reef.Seasons.toNat (0 : Int)).length)).toArray) (by kernel_rfl) rfl ⟨fun _ h => noneed (by kernel_rfl) h, ?_⟩)
      have hO := hO.cons_nil 173 1
      refine WD_op rfl rfl (OpP_newO (v := fun b => pV b) (e := 92) (rn_boxA rfl) hS.sat hO rfl 62 1 rfl (by decide) fun b w5 hb hO => ⟨fun _ h => noneed (by kernel_rfl) h, ?_⟩)
      have hS := hS.keep hb
      refine WD_op rfl rfl (OpP_val (rn_assign (v := pV b) rfl) rfl ⟨fun _ h => noneed (by kernel_rfl) h, WD_op rfl rfl (OpP_val (rn_assign (v := iV 0) rfl) rfl ⟨fun _ h => noneed (by kernel_rfl) h, WD_nil (WC_ret ?_)⟩)⟩)
      exact ⟨[pV b, iV 0], ⟨rfl, rfl, trivial⟩, G2, _, hL1.trans hg2.le, hS, hO, .inr ⟨he0 rfl, b, _, rfl, rfl, cos_new hK2⟩⟩
    · refine WD_op rfl rfl (OpP_make (R := RInt) (x := (0 : Int)) (z := [iV 0]) l24 kz24 hS hO hmk (rfl : RInt G1 [iV 0] 0) rfl rfl rfl hby fun bP w4 cP hS hO hr => ?_)
      refine ⟨fun _ _ => hS.sat, ?_⟩
      refine WD_op rfl rfl (OpP_callG kb44 (f53_ok hS.sat hK hk) rfl rfl fun v G2 w3 hg2 hv => ?_)
      obtain ⟨c2, rfl, hK2⟩ := hv
      have hS := hS.grow hg2
      have hO := hO.grow hg2
      refine ⟨fun _ _ => hS.sat.le hg2.le, ?_⟩
      obtain ⟨f, rfl⟩ := row51 hK2.len
      have hO := hO.drop 0
      refine WD_op rfl rfl (OpP_val (v := .agg ((List.range 51).map f ++ t87 (.slice (some ⟨bP, 0, none⟩) (List.replicate x.Reef.Seasons.toNat (0 : Int)).length (List.replicate x.Reef.Seasons.toNat (0 : Int)).length)).toArray) (by kernel_rfl) rfl ⟨fun _ h => noneed (by kernel_rfl) h, ?_⟩)
      have hO := hO.cons_nil 173 1
      refine WD_op rfl rfl (OpP_newO (v := fun b => pV b) (e := 92) (rn_boxA rfl) hS.sat hO rfl 62 1 rfl (by decide) fun b w5 hb hO => ⟨fun _ h => noneed (by kernel_rfl) h, ?_⟩)
      have hS := hS.keep hb
      refine WD_op rfl rfl (OpP_val (rn_assign (v := pV b) rfl) rfl ⟨fun _ h => noneed (by kernel_rfl) h, WD_op rfl rfl (OpP_val (rn_assign (v := iV 0) rfl) rfl ⟨fun _ h => noneed (by kernel_rfl) h, WD_nil (WC_ret ?_)⟩)⟩)
      exact ⟨[pV b, iV 0], ⟨rfl, rfl, trivial⟩, G2, _, hL1.trans hg2.le, hS, hO, .inr ⟨he0 rfl, b, _, rfl, rfl, cos_new hK2⟩⟩
set_option maxHeartbeats 1000000 in
theorem f4_ok {B : Nat} {G0 : Gm} {w0 : World} {Gc : Gm} {wc : World} {L : List Row} {cc : List Value} {x : TCouncilAtoll} {b1 : Bool} {r : Int} (hS : Since B G0 w0 Gc wc) (hO : Owns Gc wc B L) (hA : RTCouncilAtoll Gc cc x) (ok : okTCouncilAtoll x)
    (H12 : f13 x = some b1) (H26 : b1 = true → f123 x.Sea = some r) (hk : b1 = true → Kl x) :
    Calls Tryz.prog 4 [.agg cc.toArray].toArray wc (RetO B G0 w0 Gc wc (fun G' L' v => (v = .pointer none ∧ L' = L) ∨ (b1 = true ∧ r = 0 ∧ ∃ b cc', v = pV b ∧ L' = rowC b cc' :: rowA 0 (.slice none 0 0) [] :: L ∧ CoG G' cc' (.slice none 0 0) x.Sea x.Money []))) := by
  have hl := (KI.of hA).1.len
  refine enterL (N := 21) (rs := [.tmp 2]) hO.base Tryz.func4 rfl rfl rfl rfl (WC_seq (WC_region ?_))
  refine WL_op rfl (OpP_newF (v := fun b => pV b) (cs := cc) (e := 49) (rn_boxA rfl) hS.sat rfl fun b0 G1 w1 hg1 hc1 => ?_)
  have hS := hS.grow hg1
  have hO := hO.grow hg1
  have hA := RTCouncilAtoll_mono _ _ _ _ hg1.le hA
  refine WL_val (rn_assign (v := .pointer none) rfl) rfl (WL_nil (WC_seq (WC_seq (WC_region (WL_val (rn_loadA (cs := cc) ka49 rfl hl fun j v hj => hS.sat.cell (hc1 j v hj)) rfl ?_)))))
  refine WL_op rfl (OpP_callV kb12 (f12A hS.sat hA H12) rfl rfl fun w2 hb => ?_)
  have hS := hS.keep hb
  have hO := hO.below hb
  refine WL_val (v := .bool (!b1)) (rn_not rfl) rfl (WL_val (rn_move (v := .bool (!b1)) rfl) rfl ?_)
  cases b1
  · refine WL_guardN rfl rfl rfl rfl rfl (WL_guardN rfl rfl rfl rfl rfl (WL_guardN rfl rfl rfl rfl rfl (WL_val (v := .bool true) (by kernel_rfl) rfl (WL_nil (WC_condT true rfl rfl ?_)))))
    refine WC_seq (WC_region (WL_val (rn_assign (v := .pointer none) rfl) rfl (WL_nil (WC_ret ?_))))
    exact ⟨[.pointer none], ⟨rfl, trivial⟩, G1, _, hg1.le, hS, hO, .inl ⟨rfl, rfl⟩⟩
  · have hk := hk rfl
    refine WL_guardY rfl rfl rfl rfl (WL_val (rn_loadA (cs := cc) ka49 rfl hl fun j v hj => hS.sat.cell (hc1 j v hj)) rfl (WL_guardY rfl rfl rfl rfl ?_))
    have hL1 := hg1.le
    refine WL_op rfl (OpP_callG kb13 (f14_safe hS.sat hA ok) rfl rfl fun v G1 w3 hgE hv => ?_)
    obtain ⟨b2, rfl, hse⟩ := hv
    have hS := hS.grow hgE
    have hO := hO.grow hgE
    have hL1 := hL1.trans hgE.le
    have hc1 := hc1.mono hgE.le
    have hA := RTCouncilAtoll_mono _ _ _ _ hgE.le hA
    refine WL_guardY rfl rfl rfl rfl (WL_val (v := .bool (!b2)) (rn_not rfl) rfl (WL_val (v := .bool (!b2)) (by kernel_rfl) rfl (WL_nil ?_)))
    cases b2
    · refine WC_condT true rfl rfl (WC_seq (WC_region (WL_val (rn_assign (v := .pointer none) rfl) rfl (WL_nil (WC_ret ?_)))))
      exact ⟨[.pointer none], ⟨rfl, trivial⟩, G1, _, hL1, hS, hO, .inl ⟨rfl, rfl⟩⟩
    · refine WC_condF false rfl rfl (WC_skip (WC_seq (WC_region (WL_val (rn_loadA (cs := cc) ka49 rfl hl fun j v hj => hS.sat.cell (hc1 j v hj)) rfl ?_))))
      refine WL_op rfl (OpP_lent (fi := []) (al := [.agg cc.toArray]) (ca := []) kb14 (f15_ok hS hO hA ok hk (H26 rfl) (by have := hse rfl; omega)) rfl rfl rfl fun v G2 w4 L2 le2 hS hO hv => ?_)
      rcases hv with ⟨e, he, rfl, e2⟩ | ⟨rfl, b, cc', rfl, rfl, hc⟩
      · have e2 := e2.symm
        subst e2
        refine WL_val (rn_move (v := .tuple #[.pointer none, iV e]) rfl) rfl (WL_val (rn_extract rfl rfl) rfl (WL_val (rn_extract rfl rfl) rfl (WL_val (rn_assign (v := .pointer none) rfl) rfl (WL_val (rn_assign (v := iV e) rfl) rfl (WL_nil ?_)))))
        refine WC_seq (WC_seq (WC_region (WL_val (rn_move (v := iV e) rfl) rfl (WL_val (rn_neq rfl rfl) rfl (WL_nil (WC_condT (e != 0) (by simpa using he) rfl ?_))))))
        refine WC_seq (WC_region (WL_val (rn_assign (v := .pointer none) rfl) rfl (WL_nil (WC_ret ?_))))
        exact ⟨[.pointer none], ⟨rfl, trivial⟩, G2, _, hL1.trans le2, hS, hO, .inl ⟨rfl, rfl⟩⟩
      · refine WL_val (rn_move (v := .tuple #[pV b, iV 0]) rfl) rfl (WL_val (rn_extract rfl rfl) rfl (WL_val (rn_extract rfl rfl) rfl (WL_val (rn_assign (v := pV b) rfl) rfl (WL_val (rn_assign (v := iV 0) rfl) rfl (WL_nil ?_)))))
        refine WC_seq (WC_seq (WC_region (WL_val (rn_move (v := iV 0) rfl) rfl (WL_val (rn_neq rfl rfl) rfl (WL_nil (WC_condF false rfl rfl (WC_skip ?_)))))))
        refine WC_seq (WC_region (WL_val (rn_move (v := pV b) rfl) rfl (WL_val (rn_assign (v := pV b) rfl) rfl (WL_nil (WC_ret ?_)))))
        exact ⟨[pV b], ⟨rfl, trivial⟩, G2, _, hL1.trans le2, hS, hO, .inr ⟨rfl, rfl, b, cc', rfl, rfl, hc⟩⟩
end Go.Proofs.YtdgkjgljkgjjiaaGreatDoor
