/-
  TopGuarded: its walk.
-/
import Derived.Test.YtdgkjgljkgjjiaaGreatDoorHp
namespace Go.Proofs.YtdgkjgljkgjjiaaGreatDoor
open Go.RowKit
set_option linter.unusedVariables false
set_option maxRecDepth 20000

theorem CoG.coW {G : Gm} {w : World} {B b : Nat} {cc : List Value} {L : List Row} {va : Value} {s : TBaneSea} {mo : Int} {gl : List Int} (h : CoG G cc va s mo gl) (hO : Owns G w B (rowC b cc :: L)) : CoW w b va := ⟨own_cell hO (k := 0) rfl h.c60, own_cell hO (k := 0) rfl h.c61⟩
/-- the beetles' days, of a council -/
theorem f9_co {B : Nat} {G : Gm} {w : World} {b : Nat} {cc : List Value} {L : List Row} {va : Value} {s : TBaneSea} {mo : Int} {gl : List Int} (hS : Sat G w) (hO : Owns G w B (rowC b cc :: L)) (h : CoG G cc va s mo gl) {r : List Int × Int} (H : f38 s gl = some r) :
    Calls Tryz.prog 9 [pV b].toArray w (RetG G w (fun G v => ∃ (ra0 : Option Addr) (rn0 rc0 : Nat), v = .tuple #[.slice ra0 rn0 rc0, iV r.2] ∧ RSl RInt 1 G ra0 rn0 rc0 r.1)) := by
  obtain ⟨a4, n4, c4, h55, h4⟩ := h.gd
  obtain ⟨a1, n1, c1, a2, n2, c2, a3, n3, c3, q1, q2, q3, q4, q5, h1, h2, h3⟩ := h.sea
  refine f9_ok hS (h.coW hO) (fun j v hj => ?_) (own_cell hO (k := 0) rfl h55) h1 h2 h3 h4 H
  match j, hj with
  | 0, hj => cases hj; exact own_cell hO (k := 0) rfl q1
  | 1, hj => cases hj; exact own_cell hO (k := 0) rfl q2
  | 2, hj => cases hj; exact own_cell hO (k := 0) rfl q3
  | 3, hj => cases hj; exact own_cell hO (k := 0) rfl q4
  | 4, hj => cases hj; exact own_cell hO (k := 0) rfl q5
  | j + 5, hj => simp at hj
set_option maxHeartbeats 4000000 in
theorem f3_ok {G0 : Gm} {w0 : World} (hS0 : Sat G0 w0) {cc : List Value} {x : TCouncilAtoll} (hA : RTCouncilAtoll G0 cc x) (ok : okTCouncilAtoll x) {ay : Option Addr} {ny cy : Nat} {ys : List Bool} (hy : RSl RBool 1 G0 ay ny cy ys) {pk : Int}
    {el : TypeId} {fz : Nat × Nat} (hW : w0.heap[1]? = some (.cells Ev.pw.toArray el fz)) : Calls Tryz.prog 3 [.agg cc.toArray, .slice ay ny cy, iV pk].toArray w0 (RetV w0 (.bool true)) := by
  have hS := Since.start hS0
  have hO := own0 G0 w0
  have h2B : 2 ≤ w0.heap.size := (Array.getElem?_eq_some_iff.1 hW).1
  have kn : ∀ {w : World}, Below w0.heap.size w0 w → Calls Tryz.prog 5 [].toArray w (RetV w (.bool true)) := fun {w} hb => Ev.known20_ok w (by rw [hb.block 1 (by omega)]; exact hW)
  have hl := atl_len hA
  obtain ⟨t16, t50⟩ := atl_tank hA
  have okM : okI x.Money := ok.2.2.2.2.2.2.2.2
  obtain ⟨bb1, e13, hKl⟩ := f13_some x
  obtain ⟨r26, e26, hr26⟩ : ∃ r, (bb1 = true → f123 x.Sea = some r) ∧ (bb1 = true → r = 0 → Bn.seaOk x.Sea = true) := by
    refine ⟨if Bn.seaOk x.Sea = true then 0 else 2, fun h => ?_, fun h => ?_⟩
    · obtain ⟨_, k1, k2, k3⟩ := hKl h
      exact f123_some _ ⟨by omega, by omega, by omega⟩
    · split
      · exact fun _ => by assumption
      · exact fun h => absurd h (by decide)
  refine enter1 (N := 197) (shutV _ _) Tryz.func3 rfl rfl rfl rfl (WC_seq (WC_region (WL_op rfl (OpP_newF (v := fun b => pV b) (cs := cc) (e := 49) (rn_boxA rfl) hS.sat rfl fun b3 G1 w1 hg1 hc3 => ?_))))
  have hS := hS.grow hg1
  have hO := hO.grow hg1
  have hA := RTCouncilAtoll_mono _ _ _ _ hg1.le hA
  have hy := hy.mono RBool_mono hg1.le
  obtain ⟨a1, n1, c1, a2, n2, c2, a3, n3, c3, hse, h1, h2, h3⟩ := sea_cells hA
  refine WL_val (rn_assign (v := .bool false) rfl) rfl (WL_nil (WC_seq (WC_region (WL_val (rn_loadA (cs := cc) ka49 rfl hl fun j v hj => hS.sat.cell (hc3 j v hj)) rfl ?_))))
  refine WL_op rfl (OpP_lent (fi := []) (al := [.agg cc.toArray]) (ca := []) cb4c (f4_ok hS hO hA ok e13 e26 fun h => (hKl h).1) rfl rfl rfl fun v G2 w2 L2 le2 hS hO hv => ?_)
  have hc3 := hc3.mono le2
  rcases hv with ⟨rfl, e2⟩ | ⟨hb1, hr0, b, cc', rfl, rfl, hcs⟩
  · rw [e2] at hO
    refine WL_val (rn_assign (v := .pointer none) rfl) rfl (WL_nil (WC_seq (WC_seq (WC_region (WL_val (rn_move (v := .pointer none) rfl) rfl (WL_val (rn_eqlNNc Tryz.underlying51 rfl rfl) rfl ?_))))))
    refine wr 13 rfl (WL_nil (WC_condT true rfl rfl (WC_seq (WC_region ?_))))
    refine WL_op rfl (OpP_callV cb5c (kn hS.below) rfl rfl fun w3 hb => ?_)
    refine WL_val (rn_assign (v := .bool true) rfl) rfl (WL_nil (WC_ret ?_))
    exact ⟨rfl, (hS.keep hb).below⟩
  have okb := hr26 hb1 hr0
  obtain ⟨_, k1, k2, k3⟩ := hKl hb1
  have hsh : Bn.seaShort x.Sea := ⟨by omega, by omega, by omega⟩
  obtain ⟨I, hI⟩ := Bn.sea_of okb
  have hy := hy.mono RBool_mono le2
  have h1 := h1.mono RInt_mono le2
  have h2 := h2.mono RInt_mono le2
  have h3 := h3.mono RTBaneTrip_mono le2
  have sec : ∀ {w : World} {G : Gm}, Gle G2 G → Sat G w → ∀ (j : Nat) v, [iV x.Sea.Islets, .slice a1 n1 c1, .slice a2 n2 c2, .slice a3 n3 c3, iV x.Sea.Wait][j]? = some v → w.cell? ⟨b3, 0 + 23 + j, none⟩ = some v := fun le hw j v hj => hw.cell (le.cell (hc3.drop_take 23 5 j v (by rw [hse]; exact hj)))
  have moc : ∀ {w : World} {G : Gm}, Gle G2 G → Sat G w → w.cell? ⟨b3, 0 + 50, none⟩ = some (iV x.Money) := fun le hw => hw.cell (le.cell (hc3 50 _ t50))
  refine WL_val (rn_assign (v := pV b) rfl) rfl (WL_nil (WC_seq (WC_seq (WC_cut (fun F w => ∃ Fb q, F = upds Fb [(1, .slice ay ny cy), (2, iV pk), (3, pV b3), (7, pV b), (35, .bool q)] ∧ Since w0.heap.size G0 w0 G2 w ∧ Owns G2 w w0.heap.size [rowC b cc', rowA 0 (.slice none 0 0) []] ∧
    (q = false → ys.length = x.Sea.Trips.length ∧ 0 ≤ pk)) ?_ ?_))))
  · refine WC_region (WL_val (rn_move (v := pV b) rfl) rfl (WL_val (rn_eqlSNc Tryz.underlying51 rfl rfl) rfl (wr 2 rfl (WL_guardY rfl rfl rfl rfl (WL_val (rn_len (m := ys.length) sl50 rfl rfl hy.1) rfl ?_)))))
    refine WL_guardY rfl rfl rfl rfl (WL_val (rn_fld gd49_4 rfl) rfl (WL_guardY rfl rfl rfl rfl (WL_val (rn_fld gd38_3 rfl) rfl (WL_guardY rfl rfl rfl rfl (WL_val (rn_load na36c rfl (sec (Gle.refl _) hS.sat 3 _ rfl)) rfl (WL_guardY rfl rfl rfl rfl (WL_val (rn_len (m := x.Sea.Trips.length) sl36 rfl rfl h3.1) rfl (WL_guardY rfl rfl rfl rfl ?_))))))))
    rcases bcases ((ys.length : Int) != (x.Sea.Trips.length : Int)) with q1 | q1
    · exact WL_val (tb_neq q1 rfl rfl) rfl (wr 5 rfl (WL_nil ⟨_, true, upds_self _ _ ⟨rfl, rfl, rfl, rfl, rfl, trivial⟩, hS, hO, fun h => by cases h⟩))
    refine WL_val (tb_neq q1 rfl rfl) rfl (wr 3 rfl (WL_guardY rfl rfl rfl rfl ?_))
    rcases bcases (decide (pk < 0)) with q2 | q2
    · exact WL_val (tb_lss q2 rfl rfl) rfl (wr 1 rfl (WL_nil ⟨_, true, upds_self _ _ ⟨rfl, rfl, rfl, rfl, rfl, trivial⟩, hS, hO, fun h => by cases h⟩))
    refine WL_val (tb_lss q2 rfl rfl) rfl (wr 1 rfl (WL_nil ⟨_, false, upds_self _ _ ⟨rfl, rfl, rfl, rfl, rfl, trivial⟩, hS, hO, fun _ => ⟨?_, ?_⟩⟩))
    · simp only [bne_eq_false_iff_eq] at q1; omega
    · simp only [decide_eq_false_iff_not] at q2; omega
  rintro F w ⟨Fb, q, rfl, hS, hO, hq⟩
  refine WC_cond rfl (fun hb => ?_) (fun hb => WC_skip ?_)
  · refine WC_seq (WC_region (WL_op rfl (OpP_callV cb5c (kn hS.below) rfl rfl fun w3 hb => WL_val (rn_assign (v := .bool true) rfl) rfl (WL_nil (WC_ret ?_)))))
    exact ⟨rfl, (hS.keep hb).below⟩
  obtain ⟨hyl, hpk⟩ := hq hb
  -- the best guards
  have h6 := Bn.f6_eq x.Sea hsh
  rw [if_pos okb] at h6
  refine WC_seq (WC_region (WL_val (rn_fld gd49_4 rfl) rfl (WL_val (rn_loadA (cs := [iV x.Sea.Islets, .slice a1 n1 c1, .slice a2 n2 c2, .slice a3 n3 c3, iV x.Sea.Wait]) ag38g rfl rfl (sec (Gle.refl _) hS.sat)) rfl ?_)))
  refine WL_op rfl (OpP_callG cb6c (f6_ok hS.sat h1 h2 h3 h6) rfl rfl fun v G3 w3 hg3 hv => ?_)
  obtain ⟨ra, rn, rc, rfl, hr⟩ := hv
  have hS := hS.grow hg3
  have hO := hO.grow hg3
  cases hbs : Bn.bestS x.Sea with
  | none =>
    rw [hbs] at hr
    refine WL_val (rn_move (v := .tuple #[.slice ra rn rc, iV 0, iV 5]) rfl) rfl (WL_val (rn_extract rfl rfl) rfl (WL_val (rn_extract rfl rfl) rfl (WL_val (rn_extract rfl rfl) rfl (WL_val (rn_assign (v := .slice ra rn rc) rfl) rfl (WL_val (rn_assign (v := iV 0) rfl) rfl (WL_val (rn_assign (v := iV 5) rfl) rfl (WL_nil ?_)))))))
    refine WC_seq (WC_seq (WC_region (wr 1 rfl (WL_val (rn_neq rfl rfl) rfl (WL_nil (WC_condT ((5 : Int) != 0) rfl rfl (WC_seq (WC_region ?_))))))))
    refine wr 1 rfl (WL_val (rn_eql rfl rfl) rfl (WL_val (rn_move (v := .bool true) rfl) rfl (WL_guardY rfl rfl rfl rfl (WL_op rfl (OpP_callV cb5c (kn hS.below) rfl rfl fun w4 hb => ?_)))))
    refine WL_val (rn_pickT (v := .bool true) rfl rfl rfl) rfl (WL_val (rn_assign (v := .bool true) rfl) rfl (WL_nil (WC_ret ?_)))
    exact ⟨rfl, (hS.keep hb).below⟩
  | some l =>
  have hbest := Bn.bestS_spec x.Sea
  rw [hbs] at hbest
  have hinc : incr l (x.Sea.Trips.length : Int) = true := hbest.1.1
  have hkept : Bn.keptL x.Sea l = true := hbest.1.2
  obtain ⟨hrng, hpw⟩ := incr_iff.1 hinc
  have hll : l.length ≤ 8 := by have := incr_len hinc; omega
  have hcost := Bn.cost_sum hI hinc
  have hpnn := Bn.price_nn hI hinc
  rw [hbs] at hr
  have hr : RSl RInt 1 G3 ra rn rc l := hr
  have hpw' := hpw
  obtain ⟨n, hn⟩ : ∃ n, n = Bn.costT x.Sea l := ⟨_, rfl⟩
  have hcost : n = sumC (Bn.price x.Sea) l := hn.trans hcost
  have hn0 : 0 ≤ n := hcost ▸ sumC_nonneg hpnn
  refine WL_val (rn_move (v := .tuple #[.slice ra rn rc, iV n, iV 0]) (by rw [hn]; rfl)) rfl (WL_val (rn_extract rfl rfl) rfl (WL_val (rn_extract rfl rfl) rfl (WL_val (rn_extract rfl rfl) rfl (WL_val (rn_assign (v := .slice ra rn rc) rfl) rfl (WL_val (rn_assign (v := iV n) rfl) rfl (WL_val (rn_assign (v := iV 0) rfl) rfl (WL_nil ?_)))))))
  refine WC_seq (WC_seq (WC_region (wr 1 rfl (WL_val (rn_neq rfl rfl) rfl (WL_nil (WC_condF ((0 : Int) != 0) rfl rfl (WC_skip ?_)))))))
  refine WC_seq (WC_seq (WC_region (wr 1 rfl (WL_val (rn_fld gd49_4 rfl) rfl (WL_val (rn_fld gd38_3 rfl) rfl (WL_val (rn_load na36c rfl (sec hg3.le hS.sat 3 _ rfl)) rfl (WL_val (rn_len (m := x.Sea.Trips.length) sl36 rfl rfl h3.1) rfl ?_)))))))
  refine WL_op rfl (OpP_callV cb7c (f7_ok hS.sat hr (r := true) (by rw [Bn.f7_eq l _ (by omega) (by omega), hinc])) rfl rfl fun w4 hb => ?_)
  have hS := hS.keep hb
  have hO := hO.below hb
  refine WL_val (rn_not rfl) rfl (WL_nil (WC_condF (!true) rfl rfl (WC_skip ?_)))
  refine WC_seq (WC_seq (WC_region (wr 1 rfl (WL_val (rn_fld gd49_8 rfl) rfl (WL_val (rn_load na3c rfl (moc hg3.le hS.sat)) rfl (WL_val (rn_gtr rfl rfl) rfl (WL_nil (WC_cond rfl (fun hb => ?_) (fun hb => WC_skip ?_)))))))))
  · refine WC_seq (WC_region (WL_op rfl (OpP_callV cb5c (kn hS.below) rfl rfl fun w3 hb => WL_val (rn_assign (v := .bool true) rfl) rfl (WL_nil (WC_ret ?_)))))
    exact ⟨rfl, (hS.keep hb).below⟩
  have hmo : n ≤ x.Money := by simp only [decide_eq_false_iff_not] at hb; omega
  have hmx : x.Money ≤ 9223372036854775807 ∧ -9223372036854775808 ≤ x.Money := by unfold okI at okM; omega
  have part : ∀ k, sumC (Bn.price x.Sea) (l.take k) ≤ n ∧ 0 ≤ sumC (Bn.price x.Sea) (l.take k) := fun k => ⟨hcost ▸ sumC_part k hpnn, sumC_nonneg fun y hy => hpnn y (List.mem_of_mem_take hy)⟩
  -- all are guarded
  refine WC_seq (WC_seq (WC_region (WL_val (rn_assign (v := iV 0) rfl) rfl (WL_nil ?_))))
  refine WC_block (WC_loopI (WI_rounds l.length (fun i F w => ∃ Fb G cc1 ad cp ac xs, F = upds Fb [(1, .slice ay ny cy), (2, iV pk), (3, pV b3), (7, pV b), (8, .slice ra rn rc), (9, iV n), (11, iV (i : Int))] ∧ Gle G3 G ∧ Since w0.heap.size G0 w0 G w ∧
    Owns G w w0.heap.size [rowC b cc1, rowA i (.slice ad i cp) ac] ∧ CoG G cc1 (.slice ad i cp) x.Sea (x.Money - sumC (Bn.price x.Sea) (l.take i)) (l.take i) ∧ i = xs.length ∧ Rd RAct 1 G ac xs) ?_ ?_ l.length 0 _ _ (by omega) ⟨_, G3, _, none, 0, [], [], upds_self _ _ ⟨rfl, rfl, rfl, rfl, rfl, rfl, rfl, trivial⟩, Gle.refl _, hS, hO, by
      have h := hcs.grow hg3.le
      have e : x.Money - sumC (Bn.price x.Sea) (l.take 0) = x.Money := by simp [sumC]
      rw [e]
      exact h, rfl, Rd.nil _ _ _⟩))
  · rintro i F w hi ⟨Fb, G, cc1, ad, cp, ac, xs, rfl, le, hS, hO, hcs, hxs, hrd⟩
    have hg := List.getElem?_eq_getElem hi
    obtain ⟨e1, e2⟩ := Bn.grown hpw hg
    obtain ⟨t, ht, htp, ht0, ht1⟩ := Bn.price_at hI (hrng _ (List.getElem_mem hi))
    have hsum := sumC_take (price := Bn.price x.Sea) hg
    have hp1 := part (i + 1)
    have hp0 := part i
    have hli : (l.take i).length ≤ 8 := by have := List.length_take_le i l; omega
    have hfr : f33 (l.take i) l[i] = some false := Bn.has_not (take_fresh hinc hg) (by omega)
    have hw : IntKind.i64.wrap (x.Money - sumC (Bn.price x.Sea) (l.take i) - t.Cost) = x.Money - sumC (Bn.price x.Sea) (l.take (i + 1)) := by rw [IntKind.wrap_i64]; omega
    have hix : ix l (i : Int) = some l[i] := (ix_nat _ _).trans hg
    refine WC_seq (WC_seq (WC_region (wr 2 rfl (WL_val (rn_len (m := l.length) sl24 rfl rfl hr.1) rfl (WL_val (rn_lss rfl rfl) rfl (WL_nil (WC_condT (decide ((i : Int) < (l.length : Int))) (decide_eq_true (by omega)) rfl (WC_skip ?_))))))))
    refine WC_seq (WC_block (WC_seq (WC_region (wr 3 rfl (WL_idx sl24 (hr.mono RInt_mono le) hix rfl rfl rfl ?_)))))
    rintro b5 o5 _ hc5 _ ⟨⟩
    refine WL_val (rn_load na3c rfl (hS.sat.cell (hc5 0 _ rfl))) rfl ?_
    refine WL_op rfl (OpP_lent (fi := []) (al := [pV b, iV l[i]]) (ca := []) cb8c (f8_ok hS hO h2B hcs (by omega) hxs hrd ht (by omega) hfr (by omega) hw e2 hli) rfl rfl rfl fun v G5 w5 L5 le5 hS hO hv => ?_)
    obtain ⟨rfl, cc6, ad6, cp6, ac6, xs6, hL6, hcs6, hx6, hr6⟩ := hv
    rw [hL6] at hO
    refine WL_val (rn_neq rfl rfl) rfl (WL_nil (WC_condF ((0 : Int) != 0) rfl rfl (WC_skip ?_)))
    refine WC_region (wr 1 rfl (WL_val (rn_add rfl rfl) rfl (WL_val (rn_assign (v := iV ((i + 1 : Nat) : Int)) (congrArg iV (wrap_s (by omega)))) rfl (WL_nil ?_))))
    exact ⟨_, G5, cc6, ad6, cp6, ac6, xs6, upds_self _ _ ⟨rfl, rfl, rfl, rfl, rfl, rfl, rfl, trivial⟩, le.trans le5, hS, hO, by rw [← e1] at hcs6; exact hcs6, hx6, hr6⟩
  rintro F w ⟨Fb, G, cc1, ad, cp, ac, xs, rfl, le, hS, hO, hcs, hxs, hrd⟩
  refine WI_step (WC_seq (WC_seq (WC_region (wr 2 rfl (WL_val (rn_len (m := l.length) sl24 rfl rfl hr.1) rfl (WL_val (rn_lss rfl rfl) rfl (WL_nil (WC_condF (decide ((l.length : Int) < (l.length : Int))) (decide_eq_false (by omega)) rfl (WC_exit rfl ?_)))))))))
  rw [List.take_length] at hcs
  rw [← hcost] at hcs
  have hr := hr.mono RInt_mono le
  have le3 : Gle G2 G := hg3.le.trans le
  -- the days, in all ways
  obtain ⟨R, e38, hRl, hR⟩ := (Bn.f38_eq x.Sea l hsh (by omega)).2 okb hinc I hI
  obtain ⟨R2, e10, hR2l, hR2⟩ := (Bn.f10_eq x.Sea l ys hsh (by omega)).2.2 okb hinc hyl I hI
  refine WC_seq (WC_region (wr 1 rfl ?_))
  refine WL_op rfl (OpP_callG cb9c (f9_co hS.sat hO hcs e38) rfl rfl fun v G4 w4 hg4 hv => ?_)
  obtain ⟨da, dn, dc, rfl, hd⟩ := hv
  have hS := hS.grow hg4
  have hO := hO.grow hg4
  have hcs := hcs.grow hg4.le
  have hrd := hrd.mono RAct_mono hg4.le
  have hr := hr.mono RInt_mono hg4.le
  have le4 := le3.trans hg4.le
  refine WL_val (rn_move (v := .tuple #[.slice da dn dc, iV 0]) rfl) rfl (WL_val (rn_extract rfl rfl) rfl (WL_val (rn_extract rfl rfl) rfl (WL_val (rn_assign (v := .slice da dn dc) rfl) rfl (WL_val (rn_assign (v := iV 0) rfl) rfl (WL_nil ?_)))))
  refine WC_seq (WC_region (WL_val (rn_fld gd49_4 rfl) rfl (WL_val (rn_loadA (cs := [iV x.Sea.Islets, .slice a1 n1 c1, .slice a2 n2 c2, .slice a3 n3 c3, iV x.Sea.Wait]) ag38g rfl rfl (sec le4 hS.sat)) rfl (wr 2 rfl ?_))))
  refine WL_op rfl (OpP_callG cb10c (f10_ok hS.sat (h1.mono RInt_mono le4) (h2.mono RInt_mono le4) (h3.mono RTBaneTrip_mono le4) hr (hy.mono RBool_mono le4) e10) rfl rfl fun v G5 w5 hg5 hv => ?_)
  obtain ⟨pa, pn, pc, rfl, hp⟩ := hv
  have hS := hS.grow hg5
  have hO := hO.grow hg5
  have hcs := hcs.grow hg5.le
  have hrd := hrd.mono RAct_mono hg5.le
  have hr := hr.mono RInt_mono hg5.le
  have hd := hd.mono RInt_mono hg5.le
  have le5 := le4.trans hg5.le
  refine WL_val (rn_move (v := .tuple #[.slice pa pn pc, iV 0]) rfl) rfl (WL_val (rn_extract rfl rfl) rfl (WL_val (rn_extract rfl rfl) rfl (WL_val (rn_assign (v := .slice pa pn pc) rfl) rfl (WL_val (rn_assign (v := iV 0) rfl) rfl (WL_nil ?_)))))
  have isl : ∀ {w : World} {G : Gm}, Gle G2 G → Sat G w → w.cell? ⟨b3, 0 + 23 + 0, none⟩ = some (iV x.Sea.Islets) := fun le hw => sec le hw 0 _ rfl
  have cln : ∀ {w : World} {G : Gm}, Gle G2 G → Sat G w → w.cell? ⟨b3, 0 + 23 + 2, none⟩ = some (.slice a2 n2 c2) := fun le hw => sec le hw 2 _ rfl
  have nR : ((R.length : Int) != x.Sea.Islets) = false := by rw [bne_eq_false_iff_eq, hI.isl, hRl]
  have nR2 : ((R2.length : Int) != x.Sea.Islets) = false := by rw [bne_eq_false_iff_eq, hI.isl, hR2l]
  have wM : IntKind.i64.wrap (x.Money - n) = x.Money - n := by rw [IntKind.wrap_i64]; omega
  refine WC_seq (WC_seq (WC_region (wr 1 rfl (WL_val (tb_neq (q := false) rfl rfl rfl) rfl (wr 2 rfl (WL_guardY rfl rfl rfl rfl (WL_val (tb_neq (q := false) rfl rfl rfl) rfl (wr 3 rfl ?_))))))))
  refine WL_guardY rfl rfl rfl rfl (WL_val (rn_len (m := R.length) sl24 rfl rfl hd.1) rfl (WL_guardY rfl rfl rfl rfl (WL_val (rn_fld gd49_4 rfl) rfl (WL_guardY rfl rfl rfl rfl (WL_val (rn_fld gd38_0 rfl) rfl (WL_guardY rfl rfl rfl rfl (WL_val (rn_load na3c rfl (isl le5 hS.sat)) rfl (WL_guardY rfl rfl rfl rfl (WL_val (tb_neq nR rfl rfl) rfl (wr 3 rfl ?_))))))))))
  refine WL_guardY rfl rfl rfl rfl (WL_val (rn_len (m := R2.length) sl24 rfl rfl hp.1) rfl (WL_guardY rfl rfl rfl rfl (WL_val (rn_fld gd49_4 rfl) rfl (WL_guardY rfl rfl rfl rfl (WL_val (rn_fld gd38_0 rfl) rfl (WL_guardY rfl rfl rfl rfl (WL_val (rn_load na3c rfl (isl le5 hS.sat)) rfl (WL_guardY rfl rfl rfl rfl (WL_val (tb_neq nR2 rfl rfl) rfl (wr 3 rfl ?_))))))))))
  refine WL_guardY rfl rfl rfl rfl (WL_val (rn_loadA (cs := cc) ka49 rfl hl fun j v hj => hS.sat.cell (le5.cell (hc3 j v hj))) rfl (wr 1 rfl (WL_guardY rfl rfl rfl rfl ?_)))
  refine WL_op rfl (OpP_callV cb11c (f11_ok hS.sat (hcs.coW hO) (own_cell hO (k := 0) rfl hcs.c50) t50 wM) rfl rfl fun w6 hb => ?_)
  have hS := hS.keep hb
  have hO := hO.below hb
  refine WL_guardY rfl rfl rfl rfl (WL_val (rn_not rfl) rfl (wr 1 rfl (WL_nil (WC_condF false rfl rfl (WC_skip ?_)))))
  have n2l : n2 = x.Sea.Clean.length := h2.1
  have dR : ∀ (j : Nat) y, x.Sea.Clean[j]? = some y → ix R y = some (-1) := fun j y hj => Bn.days_kept hI hRl hR hkept hj
  have dR2 : ∀ (j : Nat) y, x.Sea.Clean[j]? = some y → ix R2 y = some (-1) := fun j y hj => Bn.days_kept hI hR2l hR2 (Bn.kept_more hkept) hj
  -- no clean islet catches them
  refine WC_seq (WC_seq (WC_region (WL_val (rn_assign (v := iV 0) rfl) rfl (WL_nil ?_))))
  refine WC_block (WC_loopI (WI_rounds x.Sea.Clean.length (fun i F w => ∃ Fb, F = upds Fb [(1, .slice ay ny cy), (2, iV pk), (3, pV b3), (7, pV b), (8, .slice ra rn rc), (12, .slice da dn dc), (14, .slice pa pn pc), (16, iV (i : Int))] ∧ Since w0.heap.size G0 w0 G5 w ∧
    Owns G5 w w0.heap.size [rowC b cc1, rowA l.length (.slice ad l.length cp) ac]) ?_ ?_ x.Sea.Clean.length 0 _ _ (by omega) ⟨_, upds_self _ _ ⟨rfl, rfl, rfl, rfl, rfl, rfl, rfl, rfl, trivial⟩, hS, hO⟩))
  · rintro i F w hi ⟨Fb, rfl, hS, hO⟩
    have hg := List.getElem?_eq_getElem hi
    have hix : ix x.Sea.Clean (i : Int) = some x.Sea.Clean[i] := (ix_nat _ _).trans hg
    refine WC_seq (WC_seq (WC_region (wr 1 rfl (WL_val (rn_fld gd49_4 rfl) rfl (WL_val (rn_fld gd38_2 rfl) rfl (WL_val (rn_load na24c rfl (cln le5 hS.sat)) rfl (WL_val (rn_len (m := x.Sea.Clean.length) sl24 rfl rfl h2.1) rfl (WL_val (rn_lss rfl rfl) rfl (WL_nil (WC_condT (decide ((i : Int) < (x.Sea.Clean.length : Int))) (decide_eq_true (by omega)) rfl (WC_skip ?_)))))))))))
    refine WC_seq (WC_block (WC_seq (WC_region (wr 1 rfl (WL_val (rn_fld gd49_4 rfl) rfl (WL_val (rn_fld gd38_2 rfl) rfl (WL_val (rn_load na24c rfl (cln le5 hS.sat)) rfl (wr 1 rfl (WL_idx sl24 (h2.mono RInt_mono le5) hix rfl rfl rfl ?_)))))))))
    rintro b7 o7 _ hc7 _ ⟨⟩
    refine WL_val (rn_load na3c rfl (hS.sat.cell (hc7 0 _ rfl))) rfl (WL_idx sl24 hd (dR i _ hg) rfl rfl rfl ?_)
    rintro b8 o8 _ hc8 _ ⟨⟩
    refine WL_val (rn_load na3c rfl (hS.sat.cell (hc8 0 _ rfl))) rfl (WL_val (tb_neq (q := false) rfl rfl rfl) rfl (wr 2 rfl ?_))
    refine WL_guardY rfl rfl rfl rfl (WL_val (rn_fld gd49_4 rfl) rfl (WL_guardY rfl rfl rfl rfl (WL_val (rn_fld gd38_2 rfl) rfl (WL_guardY rfl rfl rfl rfl (WL_val (rn_load na24c rfl (cln le5 hS.sat)) rfl (wr 1 rfl (WL_guardY rfl rfl rfl rfl (WL_idx sl24 (h2.mono RInt_mono le5) hix rfl rfl rfl ?_))))))))
    rintro b9 o9 _ hc9 _ ⟨⟩
    refine WL_guardY rfl rfl rfl rfl (WL_val (rn_load na3c rfl (hS.sat.cell (hc9 0 _ rfl))) rfl (WL_guardY rfl rfl rfl rfl (WL_idx sl24 hp (dR2 i _ hg) rfl rfl rfl ?_)))
    rintro b10 o10 _ hc10 _ ⟨⟩
    refine WL_guardY rfl rfl rfl rfl (WL_val (rn_load na3c rfl (hS.sat.cell (hc10 0 _ rfl))) rfl (WL_guardY rfl rfl rfl rfl (WL_val (tb_neq (q := false) rfl rfl rfl) rfl (wr 1 rfl (WL_nil (WC_condF false rfl rfl (WC_skip ?_)))))))
    refine WC_region (wr 1 rfl (WL_val (rn_add rfl rfl) rfl (WL_val (rn_assign (v := iV ((i + 1 : Nat) : Int)) (congrArg iV (wrap_s (by omega)))) rfl (WL_nil ?_))))
    exact ⟨_, upds_self _ _ ⟨rfl, rfl, rfl, rfl, rfl, rfl, rfl, rfl, trivial⟩, hS, hO⟩
  rintro F w ⟨Fb, rfl, hS, hO⟩
  refine WI_step (WC_seq (WC_seq (WC_region (wr 1 rfl (WL_val (rn_fld gd49_4 rfl) rfl (WL_val (rn_fld gd38_2 rfl) rfl (WL_val (rn_load na24c rfl (cln le5 hS.sat)) rfl (WL_val (rn_len (m := x.Sea.Clean.length) sl24 rfl rfl h2.1) rfl (WL_val (rn_lss rfl rfl) rfl (WL_nil (WC_condF (decide ((x.Sea.Clean.length : Int) < (x.Sea.Clean.length : Int))) (decide_eq_false (by omega)) rfl (WC_exit rfl ?_))))))))))))
  -- one is freed
  refine WC_seq (WC_seq (WC_region (wr 1 rfl (WL_val (rn_len (m := l.length) sl24 rfl rfl hr.1) rfl (WL_val (rn_eql rfl rfl) rfl (WL_nil (WC_cond rfl (fun hb => ?_) (fun hb => WC_skip ?_))))))))
  · refine WC_seq (WC_region (WL_op rfl (OpP_callV cb5c (kn hS.below) rfl rfl fun w3 hb => WL_val (rn_assign (v := .bool true) rfl) rfl (WL_nil (WC_ret ?_)))))
    exact ⟨rfl, (hS.keep hb).below⟩
  have hl0 : (l.length : Int) ≠ 0 := by simpa using hb
  obtain ⟨k, hk, hkl⟩ : ∃ k : Nat, pk.tmod (l.length : Int) = (k : Int) ∧ k < l.length := by
    have g1 := Int.tmod_nonneg (l.length : Int) hpk
    have g2 := Int.tmod_lt_of_pos pk (show (0 : Int) < (l.length : Int) by omega)
    exact ⟨(pk.tmod (l.length : Int)).toNat, by omega, by omega⟩
  have hg := List.getElem?_eq_getElem hkl
  obtain ⟨m1, m2, m3, m4⟩ := Bn.less_at hpw hg
  have hix : ix l (k : Int) = some l[k] := (ix_nat _ _).trans hg
  have hmem := List.getElem_mem hkl
  refine WC_seq (WC_region (wr 3 rfl (WL_val (rn_len (m := l.length) sl24 rfl rfl hr.1) rfl (WL_val ((rn_rem rfl rfl hl0).trans (by rw [hk])) rfl (WL_idx sl24 hr hix rfl rfl rfl ?_)))))
  rintro b11 o11 _ hc11 _ ⟨⟩
  refine WL_val (rn_load na3c rfl (hS.sat.cell (hc11 0 _ rfl))) rfl (WL_val (rn_assign (v := iV l[k]) rfl) rfl (WL_nil ?_))
  have hcs' : CoG G5 cc1 (.slice ad l.length cp) x.Sea (x.Money - n) (l.take k ++ l[k] :: l.drop (k + 1)) := Eq.mp (congrArg (CoG G5 cc1 (.slice ad l.length cp) x.Sea (x.Money - n)) m1) hcs
  have hin : f33 (l.take k ++ l[k] :: l.drop (k + 1)) l[k] = some true := by rw [← m1]; exact Bn.has_it hmem (by omega)
  have hlen9 : (l.take k ++ l[k] :: l.drop (k + 1)).length ≤ 9 := by rw [← m1]; omega
  have hrk := hrng _ hmem
  refine WC_seq (WC_seq (WC_region (wr 2 rfl ?_)))
  refine WL_op rfl (OpP_lent (fi := []) (al := [pV b, iV l[k]]) (ca := []) cb12c (f12_ok hS hO h2B hcs' (by omega) hxs hrd hrk (by omega) hin m2 m3 hlen9) rfl rfl rfl fun v G6 w6 L6 le6 hS hO hv => ?_)
  obtain ⟨rfl, cc7, ad7, cp7, ac7, hL7, hcs7⟩ := hv
  rw [hL7] at hO
  rw [m4] at hcs7
  have le7 := le5.trans le6
  refine WL_val (rn_neq rfl rfl) rfl (WL_nil (WC_condF ((0 : Int) != 0) rfl rfl (WC_skip ?_)))
  have hinc7 : incr (l.filter fun z => z != l[k]) (x.Sea.Trips.length : Int) = true := less_incr hinc
  have hl7 : (l.filter fun z => z != l[k]).length ≤ 8 := by have := less_len hmem; omega
  obtain ⟨R7, e7, hR7l, hR7⟩ := (Bn.f38_eq x.Sea _ hsh (by omega)).2 okb hinc7 I hI
  have hopen := Bn.best_open hI hbs hmem
  have hno := Bn.days_open hI hR7l hR7 hopen
  have nR7 : ((R7.length : Int) != x.Sea.Islets) = false := by rw [bne_eq_false_iff_eq, hI.isl, hR7l]
  refine WC_seq (WC_region (wr 1 rfl ?_))
  refine WL_op rfl (OpP_callG cb9c (f9_co hS.sat hO hcs7 e7) rfl rfl fun v G8 w8 hg8 hv => ?_)
  obtain ⟨ea, en, ec, rfl, he⟩ := hv
  have hS := hS.grow hg8
  have hO := hO.grow hg8
  have le8 := le7.trans hg8.le
  refine WL_val (rn_move (v := .tuple #[.slice ea en ec, iV 0]) rfl) rfl (WL_val (rn_extract rfl rfl) rfl (WL_val (rn_extract rfl rfl) rfl (WL_val (rn_assign (v := .slice ea en ec) rfl) rfl (WL_val (rn_assign (v := iV 0) rfl) rfl (WL_nil ?_)))))
  refine WC_seq (WC_seq (WC_region (wr 1 rfl (WL_val (tb_neq (q := false) rfl rfl rfl) rfl (wr 2 rfl ?_)))))
  refine WL_guardY rfl rfl rfl rfl (WL_val (rn_len (m := R7.length) sl24 rfl rfl he.1) rfl (WL_guardY rfl rfl rfl rfl (WL_val (rn_fld gd49_4 rfl) rfl (WL_guardY rfl rfl rfl rfl (WL_val (rn_fld gd38_0 rfl) rfl (WL_guardY rfl rfl rfl rfl (WL_val (rn_load na3c rfl (isl le8 hS.sat)) rfl (WL_guardY rfl rfl rfl rfl (WL_val (tb_neq nR7 rfl rfl) rfl (wr 1 rfl (WL_nil (WC_condF false rfl rfl (WC_skip ?_)))))))))))))
  -- some clean islet catches them
  refine WC_seq (WC_seq (WC_region (WL_val (rn_assign (v := iV 0) rfl) rfl (WL_nil ?_))))
  refine WC_block (WC_loopI (WI_rounds x.Sea.Clean.length (fun i F w => ∃ Fb, F = upds Fb [(3, pV b3), (12, .slice ea en ec), (18, iV (i : Int))] ∧ Since w0.heap.size G0 w0 G8 w ∧ ∀ (j : Nat) y, j < i → x.Sea.Clean[j]? = some y → ix R7 y = some (-1)) ?_ ?_ x.Sea.Clean.length 0 _ _ (by omega) ⟨_, upds_self _ _ ⟨rfl, rfl, rfl, trivial⟩, hS, fun j y h => absurd h (Nat.not_lt_zero j)⟩))
  · rintro i F w hi ⟨Fb, rfl, hS, hall⟩
    have hg := List.getElem?_eq_getElem hi
    have hix : ix x.Sea.Clean (i : Int) = some x.Sea.Clean[i] := (ix_nat _ _).trans hg
    obtain ⟨v, hv⟩ := Bn.ix_days hI hR7l hg
    refine WC_seq (WC_seq (WC_region (wr 1 rfl (WL_val (rn_fld gd49_4 rfl) rfl (WL_val (rn_fld gd38_2 rfl) rfl (WL_val (rn_load na24c rfl (cln le8 hS.sat)) rfl (WL_val (rn_len (m := x.Sea.Clean.length) sl24 rfl rfl h2.1) rfl (WL_val (rn_lss rfl rfl) rfl (WL_nil (WC_condT (decide ((i : Int) < (x.Sea.Clean.length : Int))) (decide_eq_true (by omega)) rfl (WC_skip ?_)))))))))))
    refine WC_seq (WC_block (WC_seq (WC_region (wr 1 rfl (WL_val (rn_fld gd49_4 rfl) rfl (WL_val (rn_fld gd38_2 rfl) rfl (WL_val (rn_load na24c rfl (cln le8 hS.sat)) rfl (wr 1 rfl (WL_idx sl24 (h2.mono RInt_mono le8) hix rfl rfl rfl ?_)))))))))
    rintro b12 o12 _ hc12 _ ⟨⟩
    refine WL_val (rn_load na3c rfl (hS.sat.cell (hc12 0 _ rfl))) rfl (WL_idx sl24 he hv rfl rfl rfl ?_)
    rintro b13 o13 _ hc13 _ ⟨⟩
    refine WL_val (rn_load na3c rfl (hS.sat.cell (hc13 0 _ rfl))) rfl (WL_val (rn_neq rfl rfl) rfl (WL_nil (WC_cond rfl (fun hb => ?_) (fun hb => WC_skip ?_))))
    · refine WC_seq (WC_region (WL_op rfl (OpP_callV cb5c (kn hS.below) rfl rfl fun w3 hb => WL_val (rn_assign (v := .bool true) rfl) rfl (WL_nil (WC_ret ?_)))))
      exact ⟨rfl, (hS.keep hb).below⟩
    have hv1 : v = -1 := by simpa using hb
    refine WC_region (wr 1 rfl (WL_val (rn_add rfl rfl) rfl (WL_val (rn_assign (v := iV ((i + 1 : Nat) : Int)) (congrArg iV (wrap_s (by omega)))) rfl (WL_nil ?_))))
    refine ⟨_, upds_self _ _ ⟨rfl, rfl, rfl, trivial⟩, hS, fun j y hj hy => ?_⟩
    by_cases e : j = i
    · subst e
      rw [hg] at hy
      cases hy
      rw [hv, hv1]
    · exact hall j y (by omega) hy
  · rintro F w ⟨Fb, rfl, hS, hall⟩
    exact absurd (fun j y hj => hall j y (List.getElem?_eq_some_iff.1 hj).1 hj) hno
end Go.Proofs.YtdgkjgljkgjjiaaGreatDoor
