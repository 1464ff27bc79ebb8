/-
  The council: a trip is guarded, and one is guarded no more.
-/
import Derived.Test.YtdgkjgljkgjjiaaGreatDoorGg
namespace Go.Proofs.YtdgkjgljkgjjiaaGreatDoor
open Go.RowKit
set_option linter.unusedVariables false
set_option maxRecDepth 20000

theorem cb29c : callB Tryz.prog 29 = true := by kernel_rfl
theorem cb30c : callB Tryz.prog 30 = true := by kernel_rfl
theorem cb31c : callB Tryz.prog 31 = true := by kernel_rfl
theorem cb34c : callB Tryz.prog 34 = true := by kernel_rfl
theorem cb35c : callB Tryz.prog 35 = true := by kernel_rfl
theorem cb36c : callB Tryz.prog 36 = true := by kernel_rfl
theorem cb41c : callB Tryz.prog 41 = true := by kernel_rfl
theorem cb43c : callB Tryz.prog 43 = true := by kernel_rfl
theorem sz24c : szB Tryz.prog 24 = some 1 := by kernel_rfl
/-- A council's block: its acts, open; its sea, its money, its guards. -/
structure CoG (G : Gm) (cc : List Value) (va : Value) (s : TBaneSea) (mo : Int) (gl : List Int) : Prop where
  len : cc.length = 62
  c60 : cc[60]? = some va
  c61 : cc[61]? = some (.bool true)
  c50 : cc[50]? = some (iV mo)
  gd : ∃ (a : Option Addr) (n c : Nat), cc[55]? = some (.slice a n c) ∧ RSl RInt 1 G a n c gl
  sea : ∃ (a1 : Option Addr) (n1 c1 : Nat) (a2 : Option Addr) (n2 c2 : Nat) (a3 : Option Addr) (n3 c3 : Nat), cc[23]? = some (iV s.Islets) ∧ cc[24]? = some (.slice a1 n1 c1) ∧ cc[25]? = some (.slice a2 n2 c2) ∧ cc[26]? = some (.slice a3 n3 c3) ∧ cc[27]? = some (iV s.Wait) ∧
    RSl RInt 1 G a1 n1 c1 s.Infested ∧ RSl RInt 1 G a2 n2 c2 s.Clean ∧ RSl RTBaneTrip 4 G a3 n3 c3 s.Trips
section
variable {G G' : Gm} {cc : List Value} {va : Value} {s : TBaneSea} {mo : Int} {gl : List Int}
theorem CoG.grow (h : CoG G cc va s mo gl) (le : Gle G G') : CoG G' cc va s mo gl := by
  obtain ⟨a, n, c, q, hq⟩ := h.gd
  obtain ⟨a1, n1, c1, a2, n2, c2, a3, n3, c3, q1, q2, q3, q4, q5, h1, h2, h3⟩ := h.sea
  exact ⟨h.len, h.c60, h.c61, h.c50, ⟨a, n, c, q, hq.mono RInt_mono le⟩, a1, n1, c1, a2, n2, c2, a3, n3, c3, q1, q2, q3, q4, q5, h1.mono RInt_mono le, h2.mono RInt_mono le, h3.mono RTBaneTrip_mono le⟩
theorem put_at {cc : List Value} (hl : cc.length = 62) {k : Nat} (hk : k < 62) (v : Value) (j : Nat) : (splice cc k [v])[j]? = if j = k then some v else cc[j]? := by
  rw [splice_at (by simp; omega)]
  by_cases h : j = k
  · subst h; simp
  · rw [if_neg (by simp; omega), if_neg h]
theorem put_len {cc : List Value} (hl : cc.length = 62) {k : Nat} (hk : k < 62) (v : Value) : (splice cc k [v]).length = 62 := by rw [splice_length (by simp; omega), hl]
theorem CoG.acts (h : CoG G cc va s mo gl) (v : Value) : CoG G (splice cc 60 [v]) v s mo gl := by
  have p := put_at h.len (k := 60) (by decide) v
  obtain ⟨a, n, c, q, hq⟩ := h.gd
  obtain ⟨a1, n1, c1, a2, n2, c2, a3, n3, c3, q1, q2, q3, q4, q5, h1, h2, h3⟩ := h.sea
  exact ⟨put_len h.len (by decide) v, by rw [p]; rfl, by rw [p]; exact h.c61, by rw [p]; exact h.c50, ⟨a, n, c, by rw [p]; exact q, hq⟩, a1, n1, c1, a2, n2, c2, a3, n3, c3, by rw [p]; exact q1, by rw [p]; exact q2, by rw [p]; exact q3, by rw [p]; exact q4, by rw [p]; exact q5, h1, h2, h3⟩
theorem CoG.guards (h : CoG G cc va s mo gl) {a : Option Addr} {n c : Nat} {gl' : List Int} (hg : RSl RInt 1 G a n c gl') : CoG G (splice cc 55 [.slice a n c]) va s mo gl' := by
  have p := put_at h.len (k := 55) (by decide) (.slice a n c)
  obtain ⟨a1, n1, c1, a2, n2, c2, a3, n3, c3, q1, q2, q3, q4, q5, h1, h2, h3⟩ := h.sea
  exact ⟨put_len h.len (by decide) _, by rw [p]; exact h.c60, by rw [p]; exact h.c61, by rw [p]; exact h.c50, ⟨a, n, c, by rw [p]; rfl, hg⟩, a1, n1, c1, a2, n2, c2, a3, n3, c3, by rw [p]; exact q1, by rw [p]; exact q2, by rw [p]; exact q3, by rw [p]; exact q4, by rw [p]; exact q5, h1, h2, h3⟩
theorem CoG.money (h : CoG G cc va s mo gl) (m' : Int) : CoG G (splice cc 50 [iV m']) va s m' gl := by
  have p := put_at h.len (k := 50) (by decide) (iV m')
  obtain ⟨a, n, c, q, hq⟩ := h.gd
  obtain ⟨a1, n1, c1, a2, n2, c2, a3, n3, c3, q1, q2, q3, q4, q5, h1, h2, h3⟩ := h.sea
  exact ⟨put_len h.len (by decide) _, by rw [p]; exact h.c60, by rw [p]; exact h.c61, by rw [p]; rfl, ⟨a, n, c, by rw [p]; exact q, hq⟩, a1, n1, c1, a2, n2, c2, a3, n3, c3, by rw [p]; exact q1, by rw [p]; exact q2, by rw [p]; exact q3, by rw [p]; exact q4, by rw [p]; exact q5, h1, h2, h3⟩
end
section
variable {B : Nat} {G0 : Gm} {w0 : World} {Gc : Gm} {wc : World} {Lq : List Row} {b n : Nat} {cc ac : List Value} {xs : List Value} {ad : Option Addr} {cp0 : Nat} {s : TBaneSea} {mo mo' : Int} {gl : List Int}
/-- money is taken -/
theorem f36_ok {L : List Row} (hS : Since B G0 w0 Gc wc) (hO : Owns Gc wc B (rowC b cc :: L)) (hl : cc.length = 62) (h50 : cc[50]? = some (iV mo)) {x : Int} (hw : IntKind.i64.wrap (mo - x) = mo') :
    Calls Tryz.prog 36 [pV b, iV x].toArray wc (RetO B G0 w0 Gc wc (fun G' L' _ => G' = Gc ∧ L' = rowC b (splice cc 50 [iV mo']) :: L)) := by
  refine enterL (N := 14) (rs := []) hO.base Tryz.func36 rfl rfl rfl rfl (WC_region (WL_val (rn_move (v := pV b) rfl) rfl (WL_val (v := pV b) (by kernel_rfl) rfl (WL_val (rn_fld fd92_0 rfl) rfl (WL_val (rn_fld gd49_8 rfl) rfl (WL_val (rn_load na3c rfl (own_cell hO (k := 0) rfl h50)) rfl (WL_val (rn_move (v := iV x) rfl) rfl (WL_val (rn_sub rfl rfl) rfl (WL_val (v := pV b) (by kernel_rfl) rfl (WL_val (rn_fld fd92_0 rfl) rfl (WL_val (rn_fld gd49_8 rfl) rfl ?_)))))))))))
  rw [hw]
  refine WL_op rfl (OpP_store (vs := [iV mo']) sz3c hS hO (k := 0) rfl rfl rfl rfl rfl (one_all rfl) (by simp [hl]) fun w1 hS hO => ?_)
  exact WL_nil ⟨[], trivial, Gc, _, Gle.refl _, hS, hO, rfl, rfl⟩
abbrev guardV (i : Int) : Value := .iface 96 (.agg #[iV i])
set_option maxHeartbeats 1000000 in
theorem f8_ok (hS : Since B G0 w0 Gc wc) (hO : Owns Gc wc B (rowC b cc :: rowA n (.slice ad n cp0) ac :: Lq)) (h2B : 2 ≤ B) (hcs : CoG Gc cc (.slice ad n cp0) s mo gl) (hn : n < 100) (hxs : n = xs.length) (hrd : Rd RAct 1 Gc ac xs)
    {i : Int} {t : TBaneTrip} (hi : ix s.Trips i = some t) (h9 : s.Trips.length ≤ 1000) (hf : f33 gl i = some false) (hc : t.Cost ≤ mo) (hw : IntKind.i64.wrap (mo - t.Cost) = mo') (hs : (gl ++ [i]).Pairwise (· < ·)) (hl : gl.length ≤ 8) :
    Calls Tryz.prog 8 [pV b, iV i].toArray wc (RetO B G0 w0 Gc wc (fun G' L' v => v = iV 0 ∧ ∃ cc' ad' cp' ac' xs', L' = rowC b cc' :: rowA (n + 1) (.slice ad' (n + 1) cp') ac' :: Lq ∧ CoG G' cc' (.slice ad' (n + 1) cp') s mo' (gl ++ [i]) ∧ n + 1 = xs'.length ∧ Rd RAct 1 G' ac' xs')) := by
  obtain ⟨a4, n4, c4, h55, h4⟩ := hcs.gd
  obtain ⟨a1, n1, c1, a2, n2, c2, a3, n3, c3, h23, h24, h25, h26, h27, h1, h2, h3⟩ := hcs.sea
  have hn3 : n3 = s.Trips.length := h3.1
  have hi0 : 0 ≤ i ∧ i < (n3 : Int) := by
    unfold ix at hi
    split at hi
    · have := (List.getElem?_eq_some_iff.1 hi).1
      omega
    · cases hi
  refine enterL (N := 38) (rs := [.tmp 4]) hO.base Tryz.func8 rfl rfl rfl rfl (WC_seq (WC_region ?_))
  refine WL_op rfl (OpP_newF (v := fun b => pV b) (cs := [pV b]) (e := 51) (by kernel_rfl) hS.sat rfl fun bC G1 w1 hg1 hcC => ?_)
  have hS := hS.grow hg1
  have hO := hO.grow hg1
  refine WL_op rfl (OpP_newF (v := fun b => pV b) (cs := [iV i]) (e := 3) (by kernel_rfl) hS.sat rfl fun bN G2 w2 hg2 hcN => ?_)
  have hS := hS.grow hg2
  have hO := hO.grow hg2
  have le2 : Gle Gc G2 := hg1.le.trans hg2.le
  have hcC := hcC.mono hg2.le
  refine WL_val (rn_assign (v := iV 0) rfl) rfl (WL_nil (WC_seq (WC_region (WL_val (rn_func (vs := []) (us := [pV bC, pV bN]) rfl rfl) rfl (WL_val (rn_assign (v := .func (.func 28) #[] #[pV bC, pV bN]) rfl) rfl (WL_nil (WC_seq (WC_seq ?_))))))))
  refine WC_regionD mixedO (fun _ w => Sat G2 w) (.fl 0 (.fl 1 (.fl 2 (.fl 3 (.fl 4 (.fl 5 (.fl 7 (.fl 9 (.fl 10 (.on 6 (.on 8 (.on 11 (.on 12 (.on 13 (.on 14 .nil))))))))))))))) (by kernel_rfl) rfl (by kernel_rfl) (fun _ => (hS.keep (below_drew _)).sat) ?_
  have hS := hS.keep (below_drew w2)
  have hO := hO.below (below_drew w2)
  refine WD_val rfl (fun w hw => rn_load na51c rfl (hw.cell (hcC 0 _ rfl))) rfl (WD_val rfl (fun w hw => rn_load na3c rfl (hw.cell (hcN 0 _ rfl))) rfl (WD_val (v := .agg #[iV i]) rfl (fun w hw => by kernel_rfl) rfl (WD_val (v := guardV i) rfl (fun w hw => by kernel_rfl) rfl
    (WD_val rfl (fun w hw => rn_load na51c rfl (hw.cell (hcC 0 _ rfl))) rfl (WD_val rfl (fun w hw => rn_load na3c rfl (hw.cell (hcN 0 _ rfl))) rfl (WD_val rfl (fun w hw => rn_func (vs := []) (us := [pV bC, pV bN]) rfl rfl) rfl (WD_val rfl (fun w hw => rn_load na51c rfl (hw.cell (hcC 0 _ rfl))) rfl (WD_val (v := .func (.func 28) #[] #[pV bC, pV bN]) rfl (fun w hw => rn_move rfl) rfl ?_))))))))
  refine WD_op rfl rfl (OpP_callG cb30c (f30_ok hS.sat) rfl rfl fun v G3 w3 hg3 hv => ?_)
  obtain ⟨d0, d1, rfl, hd0, hd1⟩ := hv
  have hS := hS.grow hg3
  have hO := hO.grow hg3
  refine ⟨fun _ _ => hS.sat.le hg3.le, ?_⟩
  refine WD_op rfl rfl (OpP_callG cb31c (f31_ok hS.sat (f := .func 32) (a := #[]) (b := #[pV bC, pV bN])) rfl rfl fun v G4 w4 hg4 hv => ?_)
  obtain ⟨bS, rfl, hcS⟩ := hv
  have hS := hS.grow hg4
  have hO := hO.grow hg4
  refine ⟨fun _ _ => hS.sat.le (hg3.le.trans hg4.le), ?_⟩
  refine WD_op rfl rfl (OpP_callG cb34c (f34_ok hS.sat (f := .func 28) (x := #[]) (y := #[pV bC, pV bN])) rfl rfl fun v G5 w5 hg5 hv => ?_)
  obtain ⟨d2, d3, rfl, hd2, hd3⟩ := hv
  have hS := hS.grow hg5
  have hO := hO.grow hg5
  refine ⟨fun _ _ => hS.sat.le ((hg3.le.trans hg4.le).trans hg5.le), ?_⟩
  refine WD_op rfl rfl (OpP_newF (v := fun b => .slice (some ⟨b, 0, none⟩) 2 2) (cs := [.func (.func 94) #[] #[pV bS], .func (.func 96) #[] #[pV d3, pV d2]]) (e := 98) (by kernel_rfl) hS.sat rfl fun bm G6 w6 hg6 hcm => ?_)
  have hS := hS.grow hg6
  have hO := hO.grow hg6
  have le26 : Gle G2 G6 := ((hg3.le.trans hg4.le).trans hg5.le).trans hg6.le
  refine ⟨fun _ _ => hS.sat.le le26, ?_⟩
  have le6 : Gle Gc G6 := le2.trans le26
  have hcC := hcC.mono le26
  have hcN := hcN.mono le26
  have hd0 := hd0.mono ((hg4.le.trans hg5.le).trans hg6.le)
  have hd1 := hd1.mono ((hg4.le.trans hg5.le).trans hg6.le)
  have hcS := hcS.mono (hg5.le.trans hg6.le)
  have hd2 := hd2.mono hg6.le
  have hd3 := hd3.mono hg6.le
  have h3 := h3.mono RTBaneTrip_mono le6
  have h4 := h4.mono RInt_mono le6
  refine WD_op rfl rfl (OpP_lent (fi := []) (al := [pV b, guardV i, .func (.func 92) #[] #[pV d1, pV d0], .slice (some ⟨bm, 0, none⟩) 2 2]) (ca := []) cb29c
    (f29_ok (kr := 92) (cr := [pV d1, pV d0]) (ms := [(94, [pV bS]), (96, [pV d3, pV d2])]) (mn := 2) hS hO h2B rfl (by decide) (fun p hp => by cases hp; show (94 : Nat) ≠ 87; decide) hcm (by simp) (fun v1 v2 v3 => Ev.concat_b2 _ _ _ _ _ _ _ _ _ _ _ _ _ _ _)
      ⟨cb92c, fun G w hle hS hO => f92_ok hS.sat (hS.sat.cell ((hd0.mono hle) 0 _ rfl)) (hS.sat.cell ((hd1.mono hle) 0 _ rfl)) (own_cell hO (k := 0) rfl h26) h3.2.1.2 hi0.1 hi0.2 (by omega)⟩
      hcs.c61 hn hxs (hrd.mono RAct_mono le6) hcs.c60 hcs.len (fun p hp => by
        rcases List.mem_cons.1 hp with rfl | hp
        · exact ⟨cb94c, fun G w hle hS hO => f94_ok' (is := true) (ca := [pV bC, pV bN]) (hS.sat.cell ((hcS.mono hle) 0 _ rfl)) cb32c (f32_ok (r := false) hS.sat (hS.sat.cell ((hcC.mono hle) 0 _ rfl)) (hS.sat.cell ((hcN.mono hle) 0 _ rfl)) (own_cell hO (k := 0) rfl h55) (h4.mono RInt_mono hle) hf)⟩
        · obtain rfl := List.mem_singleton.1 hp
          exact ⟨cb96c, fun G w hle hS hO => f96_ok (k := 28) (ca := [pV bC, pV bN]) (x := t.Cost) (mo := mo) (hS.sat.cell ((hd3.mono hle) 0 _ rfl)) (hS.sat.cell ((hd2.mono hle) 0 _ rfl)) (own_cell hO (k := 0) rfl hcs.c50) cb28c (fun w' hb => f28_ok (hS.keep hb).sat (cell_below hb (hS.sat.cell ((hcC.mono hle) 0 _ rfl))) (cell_below hb (hS.sat.cell ((hcN.mono hle) 0 _ rfl))) (cell_below hb (own_cell hO (k := 0) rfl h26)) (h3.mono RTBaneTrip_mono hle) hi) hc⟩))
    rfl rfl rfl fun v G7 w7 L7 le7 hS hO hv => ?_)
  obtain ⟨rfl, ad', cp', ac', rfl, hrd7⟩ := hv
  refine ⟨fun _ h => noneed (by kernel_rfl) h, ?_⟩
  refine WD_op rfl rfl (OpP_val (rn_assign (v := iV 0) rfl) rfl ⟨fun _ h => noneed (by kernel_rfl) h, WD_nil ?_⟩)
  refine WC_seq (WC_region (wr 1 rfl (WL_val (rn_neq rfl rfl) rfl (WL_nil (WC_condF false rfl rfl (WC_skip ?_))))))
  have hcs7 := (hcs.grow (le6.trans le7)).acts (.slice ad' (n + 1) cp')
  have hcC := hcC.mono le7
  have hcN := hcN.mono le7
  have h55' : (splice cc 60 [.slice ad' (n + 1) cp'])[55]? = some (.slice a4 n4 c4) := by rw [put_at hcs.len (by decide)]; exact h55
  refine WC_seq (WC_regionD mixedO (fun _ w => Sat G7 w ∧ w.cell? ⟨b, 55, none⟩ = some (.slice a4 n4 c4)) (.fl 0 (.fl 1 (.fl 2 (.fl 3 (.fl 4 (.fl 5 (.on 6 (.on 7 (.on 8 (.on 9 .nil)))))))))) (by kernel_rfl) rfl (by kernel_rfl) (fun _ => ⟨(hS.keep (below_drew _)).sat, cell_below (below_drew _) (own_cell hO (k := 0) rfl h55')⟩) ?_)
  have hS := hS.keep (below_drew w7)
  have hO := hO.below (below_drew w7)
  refine WD_val rfl (fun w hw => rn_load na51c rfl (hw.1.cell (hcC 0 _ rfl))) rfl (WD_val rfl (fun w hw => rn_load na51c rfl (hw.1.cell (hcC 0 _ rfl))) rfl (WD_val (v := pV b) rfl (fun w hw => by kernel_rfl) rfl (WD_val rfl (fun w hw => rn_fld fd92_5 rfl) rfl (WD_val rfl (fun w hw => rn_load na24c rfl hw.2) rfl (WD_val rfl (fun w hw => rn_load na3c rfl (hw.1.cell (hcN 0 _ rfl))) rfl ?_)))))
  refine WD_op rfl rfl (OpP_lent (fi := []) (al := [.slice a4 n4 c4, iV i]) (ca := []) cb35c (f35_ok hS hO h2B (h4.mono RInt_mono le7) hs hl) rfl rfl rfl fun v G8 w8 L8 le8 hS hO hv => ?_)
  obtain ⟨hL8, a8, n8, c8, rfl, h8⟩ := hv
  rw [hL8] at hO
  refine ⟨fun _ _ => ⟨hS.sat.le le8, own_cell hO (k := 0) rfl h55'⟩, ?_⟩
  refine WD_op rfl rfl (OpP_val (v := pV b) (by kernel_rfl) rfl ⟨fun _ h => noneed (by kernel_rfl) h, ?_⟩)
  refine WD_op rfl rfl (OpP_val (rn_fld fd92_5 rfl) rfl ⟨fun _ h => noneed (by kernel_rfl) h, ?_⟩)
  refine WD_op rfl rfl (OpP_store (vs := [.slice a8 n8 c8]) sz24c hS hO (k := 0) rfl rfl rfl rfl rfl (one_all rfl) (by rw [hcs7.len]; exact Nat.le_of_ble_eq_true rfl) fun w9 hS hO => ⟨fun _ h => noneed (by kernel_rfl) h, WD_nil ?_⟩)
  have hcs9 := (hcs7.grow le8).guards h8
  have hO : Owns G8 w9 B (rowC b (splice (splice cc 60 [.slice ad' (n + 1) cp']) 55 [.slice a8 n8 c8]) :: rowA (n + 1) (.slice ad' (n + 1) cp') ac' :: Lq) := hO
  generalize splice (splice cc 60 [.slice ad' (n + 1) cp']) 55 [.slice a8 n8 c8] = cc9 at hcs9 hO
  obtain ⟨b1, m1, k1, b2, m2, k2, b3, m3, k3, p23, p24, p25, p26, p27, r1, r2, r3⟩ := hcs9.sea
  have hcC := hcC.mono le8
  have hcN := hcN.mono le8
  refine WC_seq (WC_regionD mixedO (fun _ w => Sat G8 w) (.fl 0 (.fl 1 (.on 2 (.on 3 .nil)))) (by kernel_rfl) rfl (by kernel_rfl) (fun _ => (hS.keep (below_drew _)).sat) ?_)
  have hS := hS.keep (below_drew w9)
  have hO := hO.below (below_drew w9)
  refine WD_val rfl (fun w hw => rn_load na51c rfl (hw.cell (hcC 0 _ rfl))) rfl (WD_val (v := .func (.func 28) #[] #[pV bC, pV bN]) rfl (fun w hw => rn_move rfl) rfl ?_)
  refine WD_op rfl rfl (OpP_callVF (fi := []) (al := []) (ca := [pV bC, pV bN]) cb28c (f28_ok hS.sat (hS.sat.cell (hcC 0 _ rfl)) (hS.sat.cell (hcN 0 _ rfl)) (own_cell hO (k := 0) rfl p26) r3 hi) rfl rfl rfl fun w10 hb => ⟨fun _ _ => (hS.keep hb).sat, ?_⟩)
  have hS := hS.keep hb
  have hO := hO.below hb
  refine WD_op rfl rfl (OpP_lent (fi := []) (al := [pV b, iV t.Cost]) (ca := []) cb36c (f36_ok hS hO hcs9.len hcs9.c50 hw) rfl rfl rfl fun v G11 w11 L11 le11 hS hO hv => ⟨fun _ h => noneed (by kernel_rfl) h, WD_nil ?_⟩)
  obtain ⟨hG11, hL11⟩ := hv
  rw [hL11] at hO
  refine WC_seq (WC_region (WL_val (rn_assign (v := iV 0) rfl) rfl (WL_nil (WC_ret ?_))))
  exact ⟨[iV 0], ⟨rfl, trivial⟩, G11, _, ((le6.trans le7).trans le8).trans le11, hS, hO, rfl, _, _, _, _, _, rfl, (hcs9.money mo').grow le11, by simp [hxs], hrd7.mono RAct_mono (le8.trans le11)⟩
abbrev freeV (i : Int) : Value := .iface 108 (.agg #[iV i])
set_option maxHeartbeats 1000000 in
theorem f12_ok {pre post : List Int} {i : Int} (hS : Since B G0 w0 Gc wc) (hO : Owns Gc wc B (rowC b cc :: rowA n (.slice ad n cp0) ac :: Lq)) (h2B : 2 ≤ B) (hcs : CoG Gc cc (.slice ad n cp0) s mo (pre ++ i :: post)) (hn : n < 100) (hxs : n = xs.length) (hrd : Rd RAct 1 Gc ac xs)
    (hi : 0 ≤ i ∧ i < (s.Trips.length : Int)) (h9 : s.Trips.length ≤ 1000) (hf : f33 (pre ++ i :: post) i = some true) (hpre : i ∉ pre) (hpost : i ∉ post) (hl : (pre ++ i :: post).length ≤ 9) :
    Calls Tryz.prog 12 [pV b, iV i].toArray wc (RetO B G0 w0 Gc wc (fun G' L' v => v = iV 0 ∧ ∃ cc' ad' cp' ac', L' = rowC b cc' :: rowA (n + 1) (.slice ad' (n + 1) cp') ac' :: Lq ∧ CoG G' cc' (.slice ad' (n + 1) cp') s mo (pre ++ post))) := by
  obtain ⟨a4, n4, c4, h55, h4⟩ := hcs.gd
  obtain ⟨a1, n1, c1, a2, n2, c2, a3, n3, c3, h23, h24, h25, h26, h27, h1, h2, h3⟩ := hcs.sea
  have hn3 : n3 = s.Trips.length := h3.1
  refine enterL (N := 29) (rs := [.tmp 4]) hO.base Tryz.func12 rfl rfl rfl rfl (WC_seq (WC_region ?_))
  refine WL_op rfl (OpP_newF (v := fun b => pV b) (cs := [pV b]) (e := 51) (by kernel_rfl) hS.sat rfl fun bC G1 w1 hg1 hcC => ?_)
  have hS := hS.grow hg1
  have hO := hO.grow hg1
  refine WL_op rfl (OpP_newF (v := fun b => pV b) (cs := [iV i]) (e := 3) (by kernel_rfl) hS.sat rfl fun bN G2 w2 hg2 hcN => ?_)
  have hS := hS.grow hg2
  have hO := hO.grow hg2
  have le2 : Gle Gc G2 := hg1.le.trans hg2.le
  have hcC := hcC.mono hg2.le
  refine WL_val (rn_assign (v := iV 0) rfl) rfl (WL_nil (WC_seq (WC_seq ?_)))
  refine WC_regionD mixedO (fun _ w => Sat G2 w) (.fl 0 (.fl 1 (.fl 2 (.fl 3 (.fl 4 (.fl 5 (.fl 7 (.on 6 (.on 8 (.on 9 (.on 10 (.on 11 .nil)))))))))))) (by kernel_rfl) rfl (by kernel_rfl) (fun _ => (hS.keep (below_drew _)).sat) ?_
  have hS := hS.keep (below_drew w2)
  have hO := hO.below (below_drew w2)
  refine WD_val rfl (fun w hw => rn_load na51c rfl (hw.cell (hcC 0 _ rfl))) rfl (WD_val rfl (fun w hw => rn_load na3c rfl (hw.cell (hcN 0 _ rfl))) rfl (WD_val (v := .agg #[iV i]) rfl (fun w hw => by kernel_rfl) rfl (WD_val (v := freeV i) rfl (fun w hw => by kernel_rfl) rfl
    (WD_val rfl (fun w hw => rn_load na51c rfl (hw.cell (hcC 0 _ rfl))) rfl (WD_val rfl (fun w hw => rn_load na3c rfl (hw.cell (hcN 0 _ rfl))) rfl (WD_val rfl (fun w hw => rn_func (vs := []) (us := [pV bC, pV bN]) rfl rfl) rfl ?_))))))
  refine WD_op rfl rfl (OpP_callG cb30c (f30_ok hS.sat) rfl rfl fun v G3 w3 hg3 hv => ?_)
  obtain ⟨d0, d1, rfl, hd0, hd1⟩ := hv
  have hS := hS.grow hg3
  have hO := hO.grow hg3
  refine ⟨fun _ _ => hS.sat.le hg3.le, ?_⟩
  refine WD_op rfl rfl (OpP_callG cb31c (f31_ok hS.sat (f := .func 42) (a := #[]) (b := #[pV bC, pV bN])) rfl rfl fun v G4 w4 hg4 hv => ?_)
  obtain ⟨bS, rfl, hcS⟩ := hv
  have hS := hS.grow hg4
  have hO := hO.grow hg4
  refine ⟨fun _ _ => hS.sat.le (hg3.le.trans hg4.le), ?_⟩
  refine WD_op rfl rfl (OpP_newF (v := fun b => .slice (some ⟨b, 0, none⟩) 1 1) (cs := [.func (.func 94) #[] #[pV bS]]) (e := 98) (by kernel_rfl) hS.sat rfl fun bm G6 w6 hg6 hcm => ?_)
  have hS := hS.grow hg6
  have hO := hO.grow hg6
  have le26 : Gle G2 G6 := (hg3.le.trans hg4.le).trans hg6.le
  refine ⟨fun _ _ => hS.sat.le le26, ?_⟩
  have le6 : Gle Gc G6 := le2.trans le26
  have hcC := hcC.mono le26
  have hcN := hcN.mono le26
  have hd0 := hd0.mono (hg4.le.trans hg6.le)
  have hd1 := hd1.mono (hg4.le.trans hg6.le)
  have hcS := hcS.mono hg6.le
  have h3 := h3.mono RTBaneTrip_mono le6
  have h4 := h4.mono RInt_mono le6
  refine WD_op rfl rfl (OpP_lent (fi := []) (al := [pV b, freeV i, .func (.func 92) #[] #[pV d1, pV d0], .slice (some ⟨bm, 0, none⟩) 1 1]) (ca := []) cb29c
    (f29_ok (kr := 92) (cr := [pV d1, pV d0]) (ms := [(94, [pV bS])]) (mn := 1) hS hO h2B rfl (by decide) (fun p hp => by cases hp; show (94 : Nat) ≠ 87; decide) hcm (by simp) (fun v1 v2 v3 => Ev.concat_b1 _ _ _ _ _ _ _ _ _ _ _ _)
      ⟨cb92c, fun G w hle hS hO => f92_ok hS.sat (hS.sat.cell ((hd0.mono hle) 0 _ rfl)) (hS.sat.cell ((hd1.mono hle) 0 _ rfl)) (own_cell hO (k := 0) rfl h26) h3.2.1.2 hi.1 (by omega) (by omega)⟩
      hcs.c61 hn hxs (hrd.mono RAct_mono le6) hcs.c60 hcs.len (fun p hp => by
        obtain rfl := List.mem_singleton.1 hp
        exact ⟨cb94c, fun G w hle hS hO => f94_ok' (is := true) (ca := [pV bC, pV bN]) (hS.sat.cell ((hcS.mono hle) 0 _ rfl)) cb42c (f42_ok (r := true) hS.sat (hS.sat.cell ((hcC.mono hle) 0 _ rfl)) (hS.sat.cell ((hcN.mono hle) 0 _ rfl)) (own_cell hO (k := 0) rfl h55) (h4.mono RInt_mono hle) hf)⟩))
    rfl rfl rfl fun v G7 w7 L7 le7 hS hO hv => ?_)
  obtain ⟨rfl, ad', cp', ac', rfl, hrd7⟩ := hv
  refine ⟨fun _ h => noneed (by kernel_rfl) h, ?_⟩
  refine WD_op rfl rfl (OpP_val (rn_assign (v := iV 0) rfl) rfl ⟨fun _ h => noneed (by kernel_rfl) h, WD_nil ?_⟩)
  refine WC_seq (WC_region (wr 1 rfl (WL_val (rn_neq rfl rfl) rfl (WL_nil (WC_condF false rfl rfl (WC_skip ?_))))))
  have hcs7 := (hcs.grow (le6.trans le7)).acts (.slice ad' (n + 1) cp')
  have hcC := hcC.mono le7
  have hcN := hcN.mono le7
  have h55' : (splice cc 60 [.slice ad' (n + 1) cp'])[55]? = some (.slice a4 n4 c4) := by rw [put_at hcs.len (by decide)]; exact h55
  refine WC_seq (WC_regionD mixedO (fun _ w => Sat G7 w ∧ w.cell? ⟨b, 55, none⟩ = some (.slice a4 n4 c4)) (.fl 0 (.fl 1 (.fl 2 (.fl 3 (.fl 4 (.fl 5 (.on 6 (.on 7 (.on 8 (.on 9 .nil)))))))))) (by kernel_rfl) rfl (by kernel_rfl) (fun _ => ⟨(hS.keep (below_drew _)).sat, cell_below (below_drew _) (own_cell hO (k := 0) rfl h55')⟩) ?_)
  have hS := hS.keep (below_drew w7)
  have hO := hO.below (below_drew w7)
  refine WD_val rfl (fun w hw => rn_load na51c rfl (hw.1.cell (hcC 0 _ rfl))) rfl (WD_val rfl (fun w hw => rn_load na51c rfl (hw.1.cell (hcC 0 _ rfl))) rfl (WD_val (v := pV b) rfl (fun w hw => by kernel_rfl) rfl (WD_val rfl (fun w hw => rn_fld fd92_5 rfl) rfl (WD_val rfl (fun w hw => rn_load na24c rfl hw.2) rfl (WD_val rfl (fun w hw => rn_load na3c rfl (hw.1.cell (hcN 0 _ rfl))) rfl ?_)))))
  refine WD_op rfl rfl (OpP_lent (fi := []) (al := [.slice a4 n4 c4, iV i]) (ca := []) cb43c (f43_ok hS hO (h4.mono RInt_mono le7) hpre hpost hl) rfl rfl rfl fun v G8 w8 L8 le8 hS hO hv => ?_)
  obtain ⟨hL8, a8, n8, c8, rfl, h8⟩ := hv
  rw [hL8] at hO
  refine ⟨fun _ _ => ⟨hS.sat.le le8, own_cell hO (k := 0) rfl h55'⟩, ?_⟩
  refine WD_op rfl rfl (OpP_val (v := pV b) (by kernel_rfl) rfl ⟨fun _ h => noneed (by kernel_rfl) h, ?_⟩)
  refine WD_op rfl rfl (OpP_val (rn_fld fd92_5 rfl) rfl ⟨fun _ h => noneed (by kernel_rfl) h, ?_⟩)
  refine WD_op rfl rfl (OpP_store (vs := [.slice a8 n8 c8]) sz24c hS hO (k := 0) rfl rfl rfl rfl rfl (one_all rfl) (by rw [hcs7.len]; exact Nat.le_of_ble_eq_true rfl) fun w9 hS hO => ⟨fun _ h => noneed (by kernel_rfl) h, WD_nil ?_⟩)
  have hcs9 := (hcs7.grow le8).guards h8
  refine WC_seq (WC_region (WL_val (rn_assign (v := iV 0) rfl) rfl (WL_nil (WC_ret ?_))))
  exact ⟨[iV 0], ⟨rfl, trivial⟩, G8, _, (le6.trans le7).trans le8, hS, hO, rfl, _, _, _, _, rfl, hcs9⟩
end
/-- whether a council has as much money as an atoll had, less what was paid -/
theorem f11_ok {G0 : Gm} {w0 : World} (hS0 : Sat G0 w0) {b : Nat} {mo x y : Int} {a : Value} {cA : List Value} (h : CoW w0 b a) (h50 : w0.cell? ⟨b, 50, none⟩ = some (iV mo)) (hA : cA[50]? = some (iV x)) (hw : IntKind.i64.wrap (x - y) = mo) :
    Calls Tryz.prog 11 #[pV b, .agg cA.toArray, iV y] w0 (RetV w0 (.bool true)) := by
  have hS := Since.start hS0
  refine enter1 (N := 24) (shutV _ _) Tryz.func11 rfl rfl rfl rfl (WC_seq (WC_region ?_))
  refine WL_op rfl (OpP_newF (v := fun b => pV b) (cs := cA) (e := 49) (rn_boxA rfl) hS.sat rfl fun b1 G1 w1 hg1 hc1 => ?_)
  have hS := hS.grow hg1
  refine WL_val (rn_assign (v := .bool false) rfl) rfl (WL_nil (WC_seq (WC_region (wr 1 rfl ?_))))
  refine WL_op rfl (OpP_callV cb41c (f41_ok (h.below hS.below) (cell_below hS.below h50)) rfl rfl fun w2 hb => ?_)
  have hS := hS.keep hb
  refine WL_val (rn_move (v := .tuple #[iV mo, iV 0]) rfl) rfl (WL_val (rn_extract rfl rfl) rfl (WL_val (rn_extract rfl rfl) rfl (WL_val (rn_assign (v := iV mo) rfl) rfl (WL_val (rn_assign (v := iV 0) rfl) rfl (WL_nil (WC_seq (WC_region ?_)))))))
  refine wr 1 rfl (WL_val (rn_eql rfl rfl) rfl (WL_val (rn_move (v := .bool true) rfl) rfl ?_))
  refine WL_guardY rfl rfl rfl rfl (WL_val (rn_move (v := iV mo) rfl) rfl ?_)
  refine WL_guardY rfl rfl rfl rfl (WL_val (rn_fld gd49_8 rfl) rfl ?_)
  refine WL_guardY rfl rfl rfl rfl (WL_val (rn_load na3c rfl (hS.sat.cell (hc1 50 _ hA))) rfl ?_)
  refine WL_guardY rfl rfl rfl rfl (WL_val (rn_move (v := iV y) rfl) rfl ?_)
  refine WL_guardY rfl rfl rfl rfl (WL_val (rn_sub rfl rfl) rfl ?_)
  rw [hw]
  refine WL_guardY rfl rfl rfl rfl (WL_val (rn_eql rfl rfl) rfl ?_)
  refine WL_val (rn_pickT (v := .bool (mo == mo)) rfl rfl rfl) rfl (WL_val (rn_assign (v := .bool (mo == mo)) rfl) rfl (WL_nil (WC_ret ?_)))
  exact ⟨by rw [show (mo == mo) = true by simp]; rfl, hS.below⟩
end Go.Proofs.YtdgkjgljkgjjiaaGreatDoor
