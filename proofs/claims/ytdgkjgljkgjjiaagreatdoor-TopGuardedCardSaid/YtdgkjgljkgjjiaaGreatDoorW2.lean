/-
 The walks: each Go function computes its plain function (printed by a program of ours).
-/
import Derived.Test.YtdgkjgljkgjjiaaGreatDoorRd
import Derived.Test.YtdgkjgljkgjjiaaGreatDoorBsC
import Derived.Test.YtdgkjgljkgjjiaaGreatDoorIt
import Derived.Test.YtdgkjgljkgjjiaaGreatDoorW1
namespace Go.Proofs.YtdgkjgljkgjjiaaGreatDoor
open Go.RowKit
set_option linter.unusedVariables false

set_option maxRecDepth 20000
set_option linter.unusedVariables false
set_option maxHeartbeats 1000000 in
theorem f40_ok {G0 : Gm} {w0 : World} (hS0 : Sat G0 w0) {x0 : TSea} {a1 : Option Addr} {n1 c1 : Nat} {a2 : Option Addr} {n2 c2 : Nat} {a3 : Option Addr} {n3 c3 : Nat} (h1 : RSl RInt 1 G0 a1 n1 c1 x0.BaneSea.Infested) (h2 : RSl RInt 1 G0 a2 n2 c2 x0.BaneSea.Clean) (h3 : RSl RTBaneTrip 4 G0 a3 n3 c3 x0.BaneSea.Trips) {r : (List Int)} (H : f40 x0 = some r) :
  Calls Tryz.prog 40 #[.agg #[iV x0.BaneSea.Islets, .slice a1 n1 c1, .slice a2 n2 c2, .slice a3 n3 c3, iV x0.BaneSea.Wait, iV x0.shut]] w0 (RetG G0 w0 (fun G v => ∃ (ra0 : Option Addr) (rn0 rc0 : Nat), v = .slice ra0 rn0 rc0 ∧ RSl RInt 1 G ra0 rn0 rc0 r)) := by
 have hS := Since.start hS0
 have hO := own0 G0 w0
 unfold f40 at H
 refine enter1 (N := 137) (shutG _ _ _) Tryz.func40 rfl rfl rfl rfl (WC_seq (WC_region (WL_op rfl (OpP_newF (v := fun b => pV b) (cs := [iV x0.BaneSea.Islets, .slice a1 n1 c1, .slice a2 n2 c2, .slice a3 n3 c3, iV x0.BaneSea.Wait, iV x0.shut]) (e := 85) (rn_boxA rfl) hS.sat rfl (fun b4 G6 w5 hg hcb4 => ?_))))); have hS := hS.grow hg; have hO := hO.grow hg
 have leG6 := hg.le
 refine WL_val (rn_assign (v := (.slice none 0 0)) rfl) rfl (WL_nil (WC_seq (WC_region (WL_run tabH (cellsW hS.sat hcb4) 3 [] rfl rfl an ?_)))); obtain ⟨y7, hy7, H⟩ := bnd H; refine WL_op rfl (OpP_make (R := RInt) sl24 zr3 hS hO hy7 rfl rfl rfl rfl rfl (fun b8 w9 clw9 hS hO hrw9 => ?_)); refine WL_val (rn_assign (v := (.slice (some ⟨b8, 0, none⟩) y7.length y7.length)) rfl) rfl (WL_nil (WC_seq (WC_seq (WC_region (WL_run tabH (cells0 _) 3 [_] rfl rfl (ao rfl an) (WL_nil ?_)))))); obtain ⟨q13, hq13, H⟩ := bnd H; refine WC_cut (fun F w => ∃ (Fb : Fr) (G : Gm) (aq13_0 : Option Addr) (nq13_0 cq13_0 : Nat) (claq13_0 : List Value), F = upds Fb [(1, pV b4), (2, .slice none 0 0), (3, .slice aq13_0 nq13_0 cq13_0)] ∧ Gle G6 G ∧ Since w0.heap.size G0 w0 G w ∧ Owns G w w0.heap.size [⟨3, 1, nq13_0, .slice aq13_0 nq13_0 cq13_0, claq13_0⟩] ∧ nq13_0 = q13.length ∧ Rd RInt 1 G claq13_0 q13) ?_ ?_
 ·refine WC_block (WC_loop hq13 (fun s11 F w => ∃ (Fb : Fr) (G : Gm) (as11_0 : Option Addr) (ns11_0 cs11_0 : Nat) (clas11_0 : List Value), F = upds Fb [(1, pV b4), (2, .slice none 0 0), (3, .slice as11_0 ns11_0 cs11_0), (21, iV (y7.length : Int)), (22, iV s11.2)] ∧ Gle G6 G ∧ Since w0.heap.size G0 w0 G w ∧ Owns G w w0.heap.size [⟨3, 1, ns11_0, .slice as11_0 ns11_0 cs11_0, clas11_0⟩] ∧ ns11_0 = s11.1.length ∧ Rd RInt 1 G clas11_0 s11.1) ?_ ?_)
  ·have hO : Owns G6 w9 w0.heap.size ([⟨3, 1, y7.length, .slice (some ⟨b8, 0, none⟩) y7.length y7.length, clw9⟩]) := hO
   exact ⟨_, G6, (some ⟨b8, 0, none⟩), y7.length, y7.length, clw9, upds_self _ _ ⟨rfl, rfl, rfl, rfl, rfl, trivial⟩, Gle.refl _, hS, hO, rfl, hrw9⟩
  ·rintro s11 F w15 t14 ⟨Fb, G16, as11_0, ns11_0, cs11_0, clas11_0, rfl, leG16, hS, hO, hnhs11_0, hs11_0⟩
   intro H1 hqq13
   have Hoq13 := H; have H := H1
   unfold f40_b0 at H
   refine WC_seq (WC_region (WL_val (rn_lss rfl rfl) rfl (WL_nil (WC_seq (WC_cond rfl (fun hb17 => ?_) (fun hb17 => ?_))))))
   ·have H := ifT hb17 H; refine WC_skip (WC_seq (WC_block (WC_seq (WC_region ?_)))); refine wr 2 rfl ?_; refine WL_nil (WC_region ?_); refine wr 2 rfl ?_; obtain ⟨y18, hy18, H⟩ := bnd H; refine WL_idxO sl24 hO (k := 0) rfl hnhs11_0 hs11_0 hy18 rfl rfl rfl ?_
    rintro b19 ob19 _ hb19 _ hcb19 ⟨⟩
    obtain ⟨y20, hy20, H⟩ := bnd H; refine WL_op rfl (OpP_storeE (vs := [iV (-1)]) (cs := [iV y18]) (j := 0) (y := (-1)) sz3 hS hO (k := 0) rfl hnhs11_0 rfl hs11_0 hb19 rfl hcb19 hy20 rfl rfl rfl rfl rfl (one_all rfl) (Nat.le_of_ble_eq_true rfl) (fun w21 clw21 hS hO hrw21 => ?_))
    have hO : Owns G16 w21 w0.heap.size ([⟨3, 1, ns11_0, .slice as11_0 ns11_0 cs11_0, clw21⟩]) := hO
    refine WL_nil (WC_region ?_); refine wr 2 rfl ?_; refine WL_nil ?_
    have hO : Owns G16 w21 w0.heap.size ([⟨3, 1, ns11_0, .slice as11_0 ns11_0 cs11_0, clw21⟩]) := hO
    cases H; refine ⟨_, rfl, ?_⟩
    exact ⟨_, G16, as11_0, ns11_0, cs11_0, clw21, upds_self _ _ ⟨rfl, rfl, rfl, rfl, rfl, trivial⟩, leG16, hS, hO, (Eq.trans hnhs11_0 (setIx_len hy20)), hrw21⟩
   ·have H := ifF hb17 H; refine WC_exit rfl ?_
    have hO : Owns G16 w15 w0.heap.size ([⟨3, 1, ns11_0, .slice as11_0 ns11_0 cs11_0, clas11_0⟩]) := hO
    cases H
    have hres := hqq13 _ rfl
    subst hres
    exact ⟨_, G16, as11_0, ns11_0, cs11_0, clas11_0, upds_self _ _ ⟨rfl, rfl, rfl, trivial⟩, leG16, hS, hO, hnhs11_0, hs11_0⟩
 ·rintro F w22 ⟨Fb, G23, aq13_0, nq13_0, cq13_0, claq13_0, rfl, leG23, hS, hO, hnhq13_0, hq13_0⟩
  refine WC_seq (WC_region ?_)
  refine WL_val (v := (.agg #[.slice none 0 0])) (by kernel_rfl) rfl ?_
  refine WL_op rfl (OpP_newO (v := fun b => pV b) (cs := [.slice none 0 0]) (e := 183) (rn_boxA rfl) hS.sat hO rfl 1 1 rfl (by decide) (fun b24 w25 hb hO => ?_))
  have hS := hS.keep hb
  refine WL_op rfl (OpP_newO (v := fun b => pV b) (cs := [.pointer none]) (e := 181) (by kernel_rfl) hS.sat hO rfl 1 1 rfl (by decide) (fun b27 w28 hb hO => ?_))
  have hS := hS.keep hb; refine WL_op rfl (OpP_store (vs := [pV b24]) sz181 hS hO (k := 0) rfl rfl rfl rfl rfl (one_all rfl) (Nat.le_of_ble_eq_true rfl) (fun w30 hS hO => ?_))
  have hO : Owns G23 w30 w0.heap.size ([⟨181, 1, 1, .slice (some ⟨b27, 0, none⟩) 1 1, [pV b24]⟩, ⟨183, 1, 1, .slice (some ⟨b24, 0, none⟩) 1 1, [.slice none 0 0]⟩, ⟨3, 1, nq13_0, .slice aq13_0 nq13_0 cq13_0, claq13_0⟩]) := hO
  obtain ⟨G31, leG31, hS, hO, hqG31, _⟩ := hO.freeze hS (k := 0) rfl
  have hcG31 : Cells G31 b27 0 [pV b24] := (hqG31 _ _ _ _ rfl)
  refine WL_nil (WC_seq (WC_region ?_))
  have l1_3 := leG23.trans leG31
  have l0_3 := leG6.trans l1_3
  refine WL_run tabH (cellsW (hS.sat.le l1_3) hcb4) 4 [_] rfl rfl (ao (h3.mono RTBaneTrip_mono l0_3).1 an) ?_; obtain ⟨y32, hy32, H⟩ := bnd H; refine WL_op rfl (OpP_make (R := RBool) sl50 zr4 hS hO hy32 rfl rfl rfl rfl rfl (fun b33 w34 clw34 hS hO hrw34 => ?_))
  refine WL_op rfl (OpP_newO (v := fun b => pV b) (cs := [.slice none 0 0]) (e := 50) (by kernel_rfl) hS.sat hO rfl 1 1 rfl (by decide) (fun b36 w37 hb hO => ?_))
  have hS := hS.keep hb; refine WL_op rfl (OpP_store (vs := [.slice (some ⟨b33, 0, none⟩) y32.length y32.length]) sz50 hS hO (k := 0) rfl rfl rfl rfl rfl (one_all rfl) (Nat.le_of_ble_eq_true rfl) (fun w39 hS hO => ?_))
  have hO : Owns G31 w39 w0.heap.size ([⟨50, 1, 1, .slice (some ⟨b36, 0, none⟩) 1 1, [.slice (some ⟨b33, 0, none⟩) y32.length y32.length]⟩, ⟨4, 1, y32.length, .slice (some ⟨b33, 0, none⟩) y32.length y32.length, clw34⟩, ⟨183, 1, 1, .slice (some ⟨b24, 0, none⟩) 1 1, [.slice none 0 0]⟩, ⟨3, 1, nq13_0, .slice aq13_0 nq13_0 cq13_0, claq13_0⟩]) := hO
  refine WL_nil (WC_seq (WC_seq (WC_region (WL_val (rn_loadA ag85 (cs := [iV x0.BaneSea.Islets, .slice a1 n1 c1, .slice a2 n2 c2, .slice a3 n3 c3, iV x0.BaneSea.Wait, iV x0.shut]) rfl rfl (fun j v hj => (hS.sat.le l1_3).cell (hcb4.drop_take 0 6 j v hj))) rfl ?_))))
  have hI40 := f100_it (x0 := x0) (a1 := a1) (n1 := n1) (c1 := c1) (a2 := a2) (n2 := n2) (c2 := c2) (a3 := a3) (n3 := n3) (c3 := c3) (h3.mono RTBaneTrip_mono l0_3)
  refine WL_val (rn_func (vs := [.agg #[iV x0.BaneSea.Islets, .slice a1 n1 c1, .slice a2 n2 c2, .slice a3 n3 c3, iV x0.BaneSea.Wait, iV x0.shut]]) (us := []) rfl rfl) rfl (WL_nil (WC_block ?_)); have hO := hO.cons_nil 3 1
  have hO : Owns G31 w39 w0.heap.size ([⟨3, 1, 0, .slice none 0 0, []⟩, ⟨50, 1, 1, .slice (some ⟨b36, 0, none⟩) 1 1, [.slice (some ⟨b33, 0, none⟩) y32.length y32.length]⟩, ⟨4, 1, y32.length, .slice (some ⟨b33, 0, none⟩) y32.length y32.length, clw34⟩, ⟨183, 1, 1, .slice (some ⟨b24, 0, none⟩) 1 1, [.slice none 0 0]⟩, ⟨3, 1, nq13_0, .slice aq13_0 nq13_0 cq13_0, claq13_0⟩]) := hO
  obtain ⟨q44, hq44, H⟩ := bnd H; refine WC_range (xs := openL x0.shut 0 x0.BaneSea.Trips) (enc := encT) (bd := f40_b1 x0) (fi := [.agg #[iV x0.BaneSea.Islets, .slice a1 n1 c1, .slice a2 n2 c2, .slice a3 n3 c3, iV x0.BaneSea.Wait, iV x0.shut]]) (ca := []) cb100 hI40 rfl (fun _ => rfl) rfl hq44 (fun (s42 : (List Bool) × TQueue_int_) (G : Gm) (L : List Row) => ∃ (as42_0 : Option Addr) (ns42_0 cs42_0 : Nat) (clas42_0 : List Value) (as42_1 : Option Addr) (ns42_1 cs42_1 : Nat) (clas42_1 : List Value), L = [⟨3, 1, ns42_1, .slice as42_1 ns42_1 cs42_1, clas42_1⟩, ⟨50, 1, 1, .slice (some ⟨b36, 0, none⟩) 1 1, [.slice as42_0 ns42_0 cs42_0]⟩, ⟨4, 1, ns42_0, .slice as42_0 ns42_0 cs42_0, clas42_0⟩, ⟨183, 1, 1, .slice (some ⟨b24, 0, none⟩) 1 1, [.slice as42_1 ns42_1 cs42_1]⟩, ⟨3, 1, nq13_0, .slice aq13_0 nq13_0 cq13_0, claq13_0⟩] ∧ ns42_0 = s42.1.length ∧ Rd RBool 1 G clas42_0 s42.1 ∧ ns42_1 = s42.2.all.length ∧ Rd RInt 1 G clas42_1 s42.2.all) (fun (p68 : Empty) (c69 : Code) (G : Gm) (L : List Row) => False) ?_ hS hO ⟨(some ⟨b33, 0, none⟩), y32.length, y32.length, clw34, none, 0, 0, [], rfl, rfl, hrw34, rfl, (Rd.nil RInt 1 G31)⟩ [] ?_ ?_ ?_
  ·rintro s42 G1 G2 L hle ⟨as42_0, ns42_0, cs42_0, clas42_0, as42_1, ns42_1, cs42_1, clas42_1, rfl, hnhs42_0, hs42_0, hnhs42_1, hs42_1⟩
   exact ⟨as42_0, ns42_0, cs42_0, clas42_0, as42_1, ns42_1, cs42_1, clas42_1, rfl, hnhs42_0, hs42_0.mono RBool_mono hle, hnhs42_1, hs42_1.mono RInt_mono hle⟩
  ·rintro l70 y43 s42 t45 G47 w46 L71 Lx48 leG47 hS hO ⟨as42_0, ns42_0, cs42_0, clas42_0, as42_1, ns42_1, cs42_1, clas42_1, rfl, hnhs42_0, hs42_0, hnhs42_1, hs42_1⟩ H1 hqq44
   have hO : Owns G47 w46 w0.heap.size ((⟨3, 1, ns42_1, .slice as42_1 ns42_1 cs42_1, clas42_1⟩ :: ⟨50, 1, 1, .slice (some ⟨b36, 0, none⟩) 1 1, [.slice as42_0 ns42_0 cs42_0]⟩ :: ⟨4, 1, ns42_0, .slice as42_0 ns42_0 cs42_0, clas42_0⟩ :: ⟨183, 1, 1, .slice (some ⟨b24, 0, none⟩) 1 1, [.slice as42_1 ns42_1 cs42_1]⟩ :: ⟨3, 1, nq13_0, .slice aq13_0 nq13_0 cq13_0, claq13_0⟩ :: Lx48)) := hO
   have Hoq44 := H; have H := H1
   unfold f40_b1 at H
   refine WC_seq (WC_region (WL_val (rn_assign (v := (iV y43.1)) rfl) rfl (WL_nil (WC_region ?_))))
   refine WL_op rfl (OpP_newO (v := fun b => pV b) (cs := [iV 0, iV 0, iV 0, iV 0]) (e := 82) (by kernel_rfl) hS.sat hO rfl 4 1 rfl (by decide) (fun b49 w50 hb hO => ?_))
   have hS := hS.keep hb; refine WL_op rfl (OpP_store (vs := [iV y43.2.Day, iV y43.2.From, iV y43.2.To, iV y43.2.Cost]) sz82 hS hO (k := 0) rfl rfl rfl rfl rfl (one_all rfl) (Nat.le_of_ble_eq_true rfl) (fun w52 hS hO => ?_))
   have hO : Owns G47 w52 w0.heap.size ((⟨82, 4, 1, .slice (some ⟨b49, 0, none⟩) 1 1, [iV y43.2.Day, iV y43.2.From, iV y43.2.To, iV y43.2.Cost]⟩ :: ⟨3, 1, ns42_1, .slice as42_1 ns42_1 cs42_1, clas42_1⟩ :: ⟨50, 1, 1, .slice (some ⟨b36, 0, none⟩) 1 1, [.slice as42_0 ns42_0 cs42_0]⟩ :: ⟨4, 1, ns42_0, .slice as42_0 ns42_0 cs42_0, clas42_0⟩ :: ⟨183, 1, 1, .slice (some ⟨b24, 0, none⟩) 1 1, [.slice as42_1 ns42_1 cs42_1]⟩ :: ⟨3, 1, nq13_0, .slice aq13_0 nq13_0 cq13_0, claq13_0⟩ :: Lx48)) := hO
   obtain ⟨G53, leG53, hS, hO, hqG53, _⟩ := hO.freeze hS (k := 0) rfl
   have hcG53 : Cells G53 b49 0 [iV y43.2.Day, iV y43.2.From, iV y43.2.To, iV y43.2.Cost] := (hqG53 _ _ _ _ rfl)
   refine WL_nil ?_
   intro w54 hfix
   have hS := hS.fix hfix; have hO := hO.fix hfix; refine WC_block (WC_seq (WC_region ?_))
   have l1_5 := (l1_3.trans leG47).trans leG53
   refine WL_run tabH (cellsW (hS.sat.le l1_5) hcb4) 4 [] rfl rfl an (WL_val (rn_load na3 rfl (hS.sat.cell (hcG53 1 _ rfl))) rfl ?_); obtain ⟨y55, hy55, H⟩ := bnd H
   have l0_5 := (l0_3.trans leG47).trans leG53
   refine WL_op rfl (OpP_callV cb33 (f33_ok (x0 := x0.BaneSea.Infested) (x1 := y43.2.From) hS.sat (h1.mono RInt_mono l0_5) hy55) rfl rfl (fun w56 hb => ?_)); have hS := hS.keep hb; have hO := hO.below hb; refine WL_nil (WC_cond rfl (fun hb57 => ?_) (fun hb57 => ?_))
   ·have H := ifT hb57 H; refine WC_seq (WC_region (WL_val (rn_load na50 rfl (own_cell hO (k := 1) rfl (j := 0) rfl)) rfl (WL_val (rn_move (v := (iV y43.1)) rfl) rfl ?_))); obtain ⟨y58, hy58, H⟩ := bnd H; refine WL_idxO sl50 hO (k := 2) rfl hnhs42_0 (hs42_0.mono RBool_mono leG53) hy58 rfl rfl rfl ?_
    rintro b59 ob59 _ hb59 _ hcb59 ⟨⟩
    obtain ⟨y60, hy60, H⟩ := bnd H; refine WL_op rfl (OpP_storeE (vs := [.bool true]) (cs := [.bool y58]) (j := 0) (y := true) sz4 hS hO (k := 2) rfl hnhs42_0 rfl (hs42_0.mono RBool_mono leG53) hb59 rfl hcb59 hy60 rfl rfl rfl rfl rfl (one_all rfl) (Nat.le_of_ble_eq_true rfl) (fun w61 clw61 hS hO hrw61 => ?_))
    have hO : Owns G53 w61 w0.heap.size ((⟨3, 1, ns42_1, .slice as42_1 ns42_1 cs42_1, clas42_1⟩ :: ⟨50, 1, 1, .slice (some ⟨b36, 0, none⟩) 1 1, [.slice as42_0 ns42_0 cs42_0]⟩ :: ⟨4, 1, ns42_0, .slice as42_0 ns42_0 cs42_0, clw61⟩ :: ⟨183, 1, 1, .slice (some ⟨b24, 0, none⟩) 1 1, [.slice as42_1 ns42_1 cs42_1]⟩ :: ⟨3, 1, nq13_0, .slice aq13_0 nq13_0 cq13_0, claq13_0⟩ :: Lx48)) := hO
    refine WL_nil (WC_region ?_)
    have l3_5 := leG47.trans leG53
    refine WL_run tabH (cellsW (hS.sat.le l3_5) hcG31) 2 [] rfl rfl an (WL_op rfl (OpP_in0 (N' := 14) [pV b24, iV y43.1] cb101 Tryz.func101 rfl rfl rfl rfl rfl rfl ?_)); refine WC_region ?_; refine wr 2 rfl ?_
    refine WL_val (v := (pV b24)) (by kernel_rfl) rfl ?_
    refine WL_val (rn_fld fd183_0 rfl) rfl (WL_val (rn_load na24 rfl (own_cell hO (k := 3) rfl (j := 0) rfl)) rfl (WL_val (rn_move (v := (iV y43.1)) rfl) rfl ?_))
    refine WL_op rfl (OpP_newF (v := fun b => .slice (some ⟨b, 0, none⟩) 1 1) (cs := [iV y43.1]) (e := 3) (by kernel_rfl) hS.sat rfl (fun b62 G64 w63 hg hcb62 => ?_))
    have hS := hS.grow hg; have hO := hO.grow hg
    have leG64 := hg.le
    have hfb62 : RSl RInt 1 G64 (some ⟨b62, 0, none⟩) 1 1 [y43.1] := RSl.of_rd hcb62 (Rd.cons (c := [iV y43.1]) rfl rfl (Rd.nil RInt 1 _)) rfl (by decide)
    obtain ⟨y65, hy65, H⟩ := bnd H
    have l4_6 := leG53.trans leG64
    refine WL_op rfl (OpP_append (k := 0) sl24 RInt_one hS hO rfl hnhs42_1 (hs42_1.mono RInt_mono l4_6) hfb62 hy65 rfl rfl rfl rfl rfl (fun aw66 cw66 w66 clw66 hS hO hrw66 => ?_))
    have hO : Owns G64 w66 w0.heap.size ((⟨3, 1, y65.length, .slice aw66 y65.length cw66, clw66⟩ :: ⟨50, 1, 1, .slice (some ⟨b36, 0, none⟩) 1 1, [.slice as42_0 ns42_0 cs42_0]⟩ :: ⟨4, 1, ns42_0, .slice as42_0 ns42_0 cs42_0, clw61⟩ :: ⟨183, 1, 1, .slice (some ⟨b24, 0, none⟩) 1 1, [.slice as42_1 ns42_1 cs42_1]⟩ :: ⟨3, 1, nq13_0, .slice aq13_0 nq13_0 cq13_0, claq13_0⟩ :: Lx48)) := hO
    refine WL_val (v := (pV b24)) (by kernel_rfl) rfl ?_
    refine WL_val (rn_fld fd183_0 rfl) rfl (WL_op rfl (OpP_store (vs := [.slice aw66 y65.length cw66]) sz24 hS hO (k := 3) rfl rfl rfl rfl rfl (one_all rfl) (Nat.le_of_ble_eq_true rfl) (fun w67 hS hO => ?_)))
    have hO : Owns G64 w67 w0.heap.size ((⟨3, 1, y65.length, .slice aw66 y65.length cw66, clw66⟩ :: ⟨50, 1, 1, .slice (some ⟨b36, 0, none⟩) 1 1, [.slice as42_0 ns42_0 cs42_0]⟩ :: ⟨4, 1, ns42_0, .slice as42_0 ns42_0 cs42_0, clw61⟩ :: ⟨183, 1, 1, .slice (some ⟨b24, 0, none⟩) 1 1, [.slice aw66 y65.length cw66]⟩ :: ⟨3, 1, nq13_0, .slice aq13_0 nq13_0 cq13_0, claq13_0⟩ :: Lx48)) := hO
    refine WL_nil ?_
    have hO : Owns G64 w67 w0.heap.size ((⟨3, 1, y65.length, .slice aw66 y65.length cw66, clw66⟩ :: ⟨50, 1, 1, .slice (some ⟨b36, 0, none⟩) 1 1, [.slice as42_0 ns42_0 cs42_0]⟩ :: ⟨4, 1, ns42_0, .slice as42_0 ns42_0 cs42_0, clw61⟩ :: ⟨183, 1, 1, .slice (some ⟨b24, 0, none⟩) 1 1, [.slice aw66 y65.length cw66]⟩ :: ⟨3, 1, nq13_0, .slice aq13_0 nq13_0 cq13_0, claq13_0⟩ :: Lx48)) := hO
    refine WL_nil ?_
    have hO : Owns G64 w67 w0.heap.size ((⟨3, 1, y65.length, .slice aw66 y65.length cw66, clw66⟩ :: ⟨50, 1, 1, .slice (some ⟨b36, 0, none⟩) 1 1, [.slice as42_0 ns42_0 cs42_0]⟩ :: ⟨4, 1, ns42_0, .slice as42_0 ns42_0 cs42_0, clw61⟩ :: ⟨183, 1, 1, .slice (some ⟨b24, 0, none⟩) 1 1, [.slice aw66 y65.length cw66]⟩ :: ⟨3, 1, nq13_0, .slice aq13_0 nq13_0 cq13_0, claq13_0⟩ :: Lx48)) := hO
    cases H
    exact ⟨_, rfl, _, [⟨3, 1, y65.length, .slice aw66 y65.length cw66, clw66⟩, ⟨50, 1, 1, .slice (some ⟨b36, 0, none⟩) 1 1, [.slice as42_0 ns42_0 cs42_0]⟩, ⟨4, 1, ns42_0, .slice as42_0 ns42_0 cs42_0, clw61⟩, ⟨183, 1, 1, .slice (some ⟨b24, 0, none⟩) 1 1, [.slice aw66 y65.length cw66]⟩, ⟨3, 1, nq13_0, .slice aq13_0 nq13_0 cq13_0, claq13_0⟩], l4_6, hS, hO, ⟨as42_0, ns42_0, cs42_0, clw61, aw66, y65.length, cw66, clw66, rfl, (Eq.trans hnhs42_0 (setIx_len hy60)), (hrw61.mono RBool_mono leG64), rfl, hrw66⟩⟩
   ·have H := ifF hb57 H; refine WC_skip ?_
    have hO : Owns G53 w56 w0.heap.size ((⟨3, 1, ns42_1, .slice as42_1 ns42_1 cs42_1, clas42_1⟩ :: ⟨50, 1, 1, .slice (some ⟨b36, 0, none⟩) 1 1, [.slice as42_0 ns42_0 cs42_0]⟩ :: ⟨4, 1, ns42_0, .slice as42_0 ns42_0 cs42_0, clas42_0⟩ :: ⟨183, 1, 1, .slice (some ⟨b24, 0, none⟩) 1 1, [.slice as42_1 ns42_1 cs42_1]⟩ :: ⟨3, 1, nq13_0, .slice aq13_0 nq13_0 cq13_0, claq13_0⟩ :: Lx48)) := hO
    cases H
    exact ⟨_, rfl, _, [⟨3, 1, ns42_1, .slice as42_1 ns42_1 cs42_1, clas42_1⟩, ⟨50, 1, 1, .slice (some ⟨b36, 0, none⟩) 1 1, [.slice as42_0 ns42_0 cs42_0]⟩, ⟨4, 1, ns42_0, .slice as42_0 ns42_0 cs42_0, clas42_0⟩, ⟨183, 1, 1, .slice (some ⟨b24, 0, none⟩) 1 1, [.slice as42_1 ns42_1 cs42_1]⟩, ⟨3, 1, nq13_0, .slice aq13_0 nq13_0 cq13_0, claq13_0⟩], leG53, hS, hO, ⟨as42_0, ns42_0, cs42_0, clas42_0, as42_1, ns42_1, cs42_1, clas42_1, rfl, hnhs42_0, (hs42_0.mono RBool_mono leG53), hnhs42_1, (hs42_1.mono RInt_mono leG53)⟩⟩
  ·rintro s42 G73 w72 L173 hres leG73 hS hO ⟨as42_0, ns42_0, cs42_0, clas42_0, as42_1, ns42_1, cs42_1, clas42_1, rfl, hnhs42_0, hs42_0, hnhs42_1, hs42_1⟩
   subst hres; refine WC_seq (WC_seq ?_); obtain ⟨q74, hq74, H⟩ := bnd H; refine WC_cut (fun F w => ∃ (Fb : Fr) (G : Gm) (aq74_0 : Option Addr) (nq74_0 cq74_0 : Nat) (claq74_0 : List Value), F = upds Fb [(1, pV b4), (2, .slice none 0 0), (3, .slice aq13_0 nq13_0 cq13_0), (5, pV b27), (6, pV b36), (9, iV q74.1), (10, .bool q74.2.1)] ∧ Gle G73 G ∧ Since w0.heap.size G0 w0 G w ∧ Owns G w w0.heap.size [⟨3, 1, nq74_0, .slice aq74_0 nq74_0 cq74_0, claq74_0⟩, ⟨50, 1, 1, .slice (some ⟨b36, 0, none⟩) 1 1, [.slice as42_0 ns42_0 cs42_0]⟩, ⟨4, 1, ns42_0, .slice as42_0 ns42_0 cs42_0, clas42_0⟩, ⟨183, 1, 1, .slice (some ⟨b24, 0, none⟩) 1 1, [.slice aq74_0 nq74_0 cq74_0]⟩, ⟨3, 1, nq13_0, .slice aq13_0 nq13_0 cq13_0, claq13_0⟩] ∧ nq74_0 = q74.2.2.all.length ∧ Rd RInt 1 G claq74_0 q74.2.2.all) ?_ ?_
   ·have Hoq74 := H; have H := hq74; refine WC_region (WL_val (rn_load na181 rfl ((hS.sat.le leG73).cell (hcG31 0 _ rfl))) rfl (WL_op rfl (OpP_in2 (N' := 27) [pV b24] cb102 Tryz.func102 rfl rfl rfl rfl rfl rfl ?_))); refine WC_seq (WC_region ?_); refine wr 2 rfl ?_; refine WL_nil (WC_seq (WC_region (WL_val (rn_assign (v := (iV 0)) rfl) rfl (WL_nil (WC_seq (WC_seq (WC_region (WL_val (rn_move (v := (pV b24)) rfl) rfl ?_))))))))
    refine WL_val (v := (pV b24)) (by kernel_rfl) rfl ?_
    refine WL_val (rn_fld fd183_0 rfl) rfl (WL_val (rn_load na24 rfl (own_cell hO (k := 3) rfl (j := 0) rfl)) rfl (WL_run tabH (cells0 _) 2 [_] rfl rfl (ao hnhs42_1 an) (WL_nil (WC_cond rfl (fun hb75 => ?_) (fun hb75 => ?_)))))
    ·have H := ifT hb75 H; refine WC_seq (WC_region ?_); refine wr 3 rfl ?_; refine WL_nil (WC_ret ?_); refine ⟨(iV 0), (.bool false), rfl, rfl, ?_⟩
     have hO : Owns G73 w72 w0.heap.size ([⟨3, 1, ns42_1, .slice as42_1 ns42_1 cs42_1, clas42_1⟩, ⟨50, 1, 1, .slice (some ⟨b36, 0, none⟩) 1 1, [.slice as42_0 ns42_0 cs42_0]⟩, ⟨4, 1, ns42_0, .slice as42_0 ns42_0 cs42_0, clas42_0⟩, ⟨183, 1, 1, .slice (some ⟨b24, 0, none⟩) 1 1, [.slice as42_1 ns42_1 cs42_1]⟩, ⟨3, 1, nq13_0, .slice aq13_0 nq13_0 cq13_0, claq13_0⟩]) := hO
     refine WL_val (rn_move (v := (.tuple #[iV 0, .bool false])) rfl) rfl (WL_val (rn_extract (v := (iV 0)) rfl rfl) rfl (WL_val (rn_extract (v := (.bool false)) rfl rfl) rfl ?_)); refine wr 2 rfl ?_; refine WL_nil ?_
     have hO : Owns G73 w72 w0.heap.size ([⟨3, 1, ns42_1, .slice as42_1 ns42_1 cs42_1, clas42_1⟩, ⟨50, 1, 1, .slice (some ⟨b36, 0, none⟩) 1 1, [.slice as42_0 ns42_0 cs42_0]⟩, ⟨4, 1, ns42_0, .slice as42_0 ns42_0 cs42_0, clas42_0⟩, ⟨183, 1, 1, .slice (some ⟨b24, 0, none⟩) 1 1, [.slice as42_1 ns42_1 cs42_1]⟩, ⟨3, 1, nq13_0, .slice aq13_0 nq13_0 cq13_0, claq13_0⟩]) := hO
     cases H
     exact ⟨_, G73, as42_1, ns42_1, cs42_1, clas42_1, upds_self _ _ ⟨rfl, rfl, rfl, rfl, rfl, rfl, rfl, trivial⟩, Gle.refl _, hS, hO, hnhs42_1, hs42_1⟩
    ·have H := ifF hb75 H; refine WC_skip (WC_seq ?_); have hS := hS.keep (below_drew _); have hO := hO.below (below_drew _)
     refine WC_regionD mixedO (fun _ w => Sat G73 w ∧ Owns G73 w w0.heap.size [⟨3, 1, ns42_1, .slice as42_1 ns42_1 cs42_1, clas42_1⟩, ⟨50, 1, 1, .slice (some ⟨b36, 0, none⟩) 1 1, [.slice as42_0 ns42_0 cs42_0]⟩, ⟨4, 1, ns42_0, .slice as42_0 ns42_0 cs42_0, clas42_0⟩, ⟨183, 1, 1, .slice (some ⟨b24, 0, none⟩) 1 1, [.slice as42_1 ns42_1 cs42_1]⟩, ⟨3, 1, nq13_0, .slice aq13_0 nq13_0 cq13_0, claq13_0⟩]) (.fl 0 (.fl 1 (.fl 2 (.fl 3 (.fl 4 (.fl 5 (.fl 6 (.fl 7 (.fl 8 (.fl 9 (.fl 10 (.fl 11 (.on 12 (.on 13 (.on 14 (.on 15 .nil)))))))))))))))) (by kernel_rfl) rfl (by kernel_rfl) (fun _ => ⟨hS.sat, hO⟩) ?_
     refine WD_val rfl (fun w hw => rn_move (v := (pV b24)) rfl) rfl (WD_val rfl (fun w hw => rn_move (v := (pV b24)) rfl) rfl ?_)
     refine WD_val (v := (pV b24)) rfl (fun w hw => by kernel_rfl) rfl ?_
     refine WD_val rfl (fun w hw => rn_fld fd183_0 rfl) rfl (WD_val rfl (fun w hw => rn_load na24 rfl (own_cell hw.2 (k := 3) rfl (j := 0) rfl)) rfl ?_); obtain ⟨y76, hy76, H⟩ := bnd H; refine WD_idxO rfl sl24 hO (k := 0) rfl hnhs42_1 hs42_1 hy76 rfl rfl rfl ?_
     rintro b77 ob77 _ hb77 _ hcb77 ⟨⟩
     refine WD_val rfl (fun w hw => rn_load na3 rfl (own_cellB hw.2 (k := 0) rfl hb77 _ 0 (hcb77 0 _ rfl))) rfl (WD_val rfl (fun w hw => rn_move (v := (pV b24)) rfl) rfl ?_)
     refine WD_val (v := (pV b24)) rfl (fun w hw => by kernel_rfl) rfl ?_
     refine WD_val rfl (fun w hw => rn_fld fd183_0 rfl) rfl (WD_val rfl (fun w hw => rn_load na24 rfl (own_cell hw.2 (k := 3) rfl (j := 0) rfl)) rfl ?_); obtain ⟨y78, hy78, H⟩ := bnd H; obtain ⟨hl0, hl1, hl2, _⟩ := subL_some hy78
     have hln : ns42_1 = s42.2.all.length := hnhs42_1
     obtain ⟨_, hnc, ay78, cy78, cly78, hsl, hOy78, hry78⟩ := hO.resl (k := 0) rfl hnhs42_1 hs42_1 hy78 (q := ns42_1) ((Int.toNat_natCast _).trans hln.symm)
     refine WD_val (v := (.slice ay78 y78.length cy78)) rfl (fun w hw => (rn_sliceL sl24 rfl rfl hl0 (by omega) _).trans (congrArg (fun v => Result.ok (Next.value v) _) hsl)) rfl ?_
     refine WD_op rfl rfl (OpP_val (rn_assign (v := (iV y76)) rfl) rfl ?_); refine ⟨fun _ _ => ⟨hS.sat, hO⟩, ?_⟩
     refine WD_op rfl rfl (OpP_val (v := (pV b24)) (by kernel_rfl) rfl ?_)
     refine ⟨fun _ h => noneed (by kernel_rfl) h, ?_⟩
     refine WD_op rfl rfl (OpP_val (rn_fld fd183_0 rfl) rfl ?_)
     refine ⟨fun _ h => noneed (by kernel_rfl) h, ?_⟩
     have hO : Owns G73 w72.drew w0.heap.size ([⟨3, 1, y78.length, .slice ay78 y78.length cy78, cly78⟩, ⟨50, 1, 1, .slice (some ⟨b36, 0, none⟩) 1 1, [.slice as42_0 ns42_0 cs42_0]⟩, ⟨4, 1, ns42_0, .slice as42_0 ns42_0 cs42_0, clas42_0⟩, ⟨183, 1, 1, .slice (some ⟨b24, 0, none⟩) 1 1, [.slice as42_1 ns42_1 cs42_1]⟩, ⟨3, 1, nq13_0, .slice aq13_0 nq13_0 cq13_0, claq13_0⟩]) := hOy78
     refine WD_op rfl rfl (OpP_store (vs := [.slice ay78 y78.length cy78]) sz24 hS hO (k := 3) rfl rfl rfl rfl rfl (one_all rfl) (Nat.le_of_ble_eq_true rfl) (fun w79 hS hO => ?_))
     have hO : Owns G73 w79 w0.heap.size ([⟨3, 1, y78.length, .slice ay78 y78.length cy78, cly78⟩, ⟨50, 1, 1, .slice (some ⟨b36, 0, none⟩) 1 1, [.slice as42_0 ns42_0 cs42_0]⟩, ⟨4, 1, ns42_0, .slice as42_0 ns42_0 cs42_0, clas42_0⟩, ⟨183, 1, 1, .slice (some ⟨b24, 0, none⟩) 1 1, [.slice ay78 y78.length cy78]⟩, ⟨3, 1, nq13_0, .slice aq13_0 nq13_0 cq13_0, claq13_0⟩]) := hO
     refine ⟨fun _ h => noneed (by kernel_rfl) h, ?_⟩
     refine WD_nil (WC_seq (WC_region ?_)); refine wr 3 rfl ?_; refine WL_nil (WC_ret ?_); refine ⟨(iV y76), (.bool true), rfl, rfl, ?_⟩
     have hO : Owns G73 w79 w0.heap.size ([⟨3, 1, y78.length, .slice ay78 y78.length cy78, cly78⟩, ⟨50, 1, 1, .slice (some ⟨b36, 0, none⟩) 1 1, [.slice as42_0 ns42_0 cs42_0]⟩, ⟨4, 1, ns42_0, .slice as42_0 ns42_0 cs42_0, clas42_0⟩, ⟨183, 1, 1, .slice (some ⟨b24, 0, none⟩) 1 1, [.slice ay78 y78.length cy78]⟩, ⟨3, 1, nq13_0, .slice aq13_0 nq13_0 cq13_0, claq13_0⟩]) := hO
     refine WL_val (rn_move (v := (.tuple #[iV y76, .bool true])) rfl) rfl (WL_val (rn_extract (v := (iV y76)) rfl rfl) rfl (WL_val (rn_extract (v := (.bool true)) rfl rfl) rfl ?_)); refine wr 2 rfl ?_; refine WL_nil ?_
     have hO : Owns G73 w79 w0.heap.size ([⟨3, 1, y78.length, .slice ay78 y78.length cy78, cly78⟩, ⟨50, 1, 1, .slice (some ⟨b36, 0, none⟩) 1 1, [.slice as42_0 ns42_0 cs42_0]⟩, ⟨4, 1, ns42_0, .slice as42_0 ns42_0 cs42_0, clas42_0⟩, ⟨183, 1, 1, .slice (some ⟨b24, 0, none⟩) 1 1, [.slice ay78 y78.length cy78]⟩, ⟨3, 1, nq13_0, .slice aq13_0 nq13_0 cq13_0, claq13_0⟩]) := hO
     cases H
     exact ⟨_, G73, ay78, y78.length, cy78, cly78, upds_self _ _ ⟨rfl, rfl, rfl, rfl, rfl, rfl, rfl, trivial⟩, Gle.refl _, hS, hO, rfl, hry78⟩
   ·rintro F w80 ⟨Fb, G81, aq74_0, nq74_0, cq74_0, claq74_0, rfl, leG81, hS, hO, hnhq74_0, hq74_0⟩
    obtain ⟨q84, hq84, H⟩ := bnd H; refine WC_cut (fun F w => ∃ (Fb : Fr) (G : Gm) (aq84_0 : Option Addr) (nq84_0 cq84_0 : Nat) (claq84_0 : List Value) (aq84_1 : Option Addr) (nq84_1 cq84_1 : Nat) (claq84_1 : List Value) (aq84_2 : Option Addr) (nq84_2 cq84_2 : Nat) (claq84_2 : List Value), F = upds Fb [(1, pV b4), (3, .slice aq84_0 nq84_0 cq84_0)] ∧ Gle G81 G ∧ Since w0.heap.size G0 w0 G w ∧ Owns G w w0.heap.size [⟨3, 1, nq84_2, .slice aq84_2 nq84_2 cq84_2, claq84_2⟩, ⟨50, 1, 1, .slice (some ⟨b36, 0, none⟩) 1 1, [.slice aq84_1 nq84_1 cq84_1]⟩, ⟨4, 1, nq84_1, .slice aq84_1 nq84_1 cq84_1, claq84_1⟩, ⟨183, 1, 1, .slice (some ⟨b24, 0, none⟩) 1 1, [.slice aq84_2 nq84_2 cq84_2]⟩, ⟨3, 1, nq84_0, .slice aq84_0 nq84_0 cq84_0, claq84_0⟩] ∧ nq84_0 = q84.1.length ∧ Rd RInt 1 G claq84_0 q84.1 ∧ nq84_1 = q84.2.1.length ∧ Rd RBool 1 G claq84_1 q84.2.1 ∧ nq84_2 = q84.2.2.all.length ∧ Rd RInt 1 G claq84_2 q84.2.2.all) ?_ ?_
    ·refine WC_block (WC_loop hq84 (fun s82 F w => ∃ (Fb : Fr) (G : Gm) (as82_0 : Option Addr) (ns82_0 cs82_0 : Nat) (clas82_0 : List Value) (as82_1 : Option Addr) (ns82_1 cs82_1 : Nat) (clas82_1 : List Value) (as82_2 : Option Addr) (ns82_2 cs82_2 : Nat) (clas82_2 : List Value), F = upds Fb [(1, pV b4), (2, .slice none 0 0), (3, .slice as82_0 ns82_0 cs82_0), (5, pV b27), (6, pV b36), (9, iV s82.2.1), (10, .bool s82.2.2.1)] ∧ Gle G81 G ∧ Since w0.heap.size G0 w0 G w ∧ Owns G w w0.heap.size [⟨3, 1, ns82_2, .slice as82_2 ns82_2 cs82_2, clas82_2⟩, ⟨50, 1, 1, .slice (some ⟨b36, 0, none⟩) 1 1, [.slice as82_1 ns82_1 cs82_1]⟩, ⟨4, 1, ns82_1, .slice as82_1 ns82_1 cs82_1, clas82_1⟩, ⟨183, 1, 1, .slice (some ⟨b24, 0, none⟩) 1 1, [.slice as82_2 ns82_2 cs82_2]⟩, ⟨3, 1, ns82_0, .slice as82_0 ns82_0 cs82_0, clas82_0⟩] ∧ ns82_0 = s82.1.length ∧ Rd RInt 1 G clas82_0 s82.1 ∧ ns82_1 = s82.2.2.2.1.length ∧ Rd RBool 1 G clas82_1 s82.2.2.2.1 ∧ ns82_2 = s82.2.2.2.2.all.length ∧ Rd RInt 1 G clas82_2 s82.2.2.2.2.all) ?_ ?_)
     ·have hO : Owns G81 w80 w0.heap.size ([⟨3, 1, nq74_0, .slice aq74_0 nq74_0 cq74_0, claq74_0⟩, ⟨50, 1, 1, .slice (some ⟨b36, 0, none⟩) 1 1, [.slice as42_0 ns42_0 cs42_0]⟩, ⟨4, 1, ns42_0, .slice as42_0 ns42_0 cs42_0, clas42_0⟩, ⟨183, 1, 1, .slice (some ⟨b24, 0, none⟩) 1 1, [.slice aq74_0 nq74_0 cq74_0]⟩, ⟨3, 1, nq13_0, .slice aq13_0 nq13_0 cq13_0, claq13_0⟩]) := hO
      have l2_5 := (leG31.trans leG73).trans leG81
      exact ⟨_, G81, aq13_0, nq13_0, cq13_0, claq13_0, as42_0, ns42_0, cs42_0, clas42_0, aq74_0, nq74_0, cq74_0, claq74_0, upds_self _ _ ⟨rfl, rfl, rfl, rfl, rfl, rfl, rfl, trivial⟩, Gle.refl _, hS, hO, hnhq13_0, (hq13_0.mono RInt_mono l2_5), hnhs42_0, (hs42_0.mono RBool_mono leG81), hnhq74_0, hq74_0⟩
     ·rintro s82 F w86 t85 ⟨Fb, G87, as82_0, ns82_0, cs82_0, clas82_0, as82_1, ns82_1, cs82_1, clas82_1, as82_2, ns82_2, cs82_2, clas82_2, rfl, leG87, hS, hO, hnhs82_0, hs82_0, hnhs82_1, hs82_1, hnhs82_2, hs82_2⟩
      intro H1 hqq84
      have Hoq84 := H; have H := H1
      unfold f40_b2 at H
      refine WC_seq (WC_seq (WC_region (WL_val (rn_move (v := (.bool s82.2.2.1)) rfl) rfl (WL_nil (WC_cond rfl (fun hb88 => ?_) (fun hb88 => ?_))))))
      ·have H := ifT hb88 H; refine WC_skip (WC_seq (WC_block (WC_seq (WC_region ?_))))
       have l1_6 := ((l1_3.trans leG73).trans leG81).trans leG87
       refine WL_run tabH (cellsW (hS.sat.le l1_6) hcb4) 4 [] rfl rfl an ?_; obtain ⟨y89, hy89, H⟩ := bnd H
       have l0_6 := ((l0_3.trans leG73).trans leG81).trans leG87
       refine WL_idx sl36 (h3.mono RTBaneTrip_mono l0_6) hy89 rfl rfl rfl ?_
       rintro b90 o90 _ hcb90 _ ⟨⟩
       refine WL_val (rn_loadA ag82 (cs := [iV y89.Day, iV y89.From, iV y89.To, iV y89.Cost]) rfl rfl (fun j v hj => hS.sat.cell (hcb90.drop_take 0 4 j v hj))) rfl ?_
       refine WL_op rfl (OpP_newO (v := fun b => pV b) (cs := [iV 0, iV 0, iV 0, iV 0]) (e := 82) (by kernel_rfl) hS.sat hO rfl 4 1 rfl (by decide) (fun b91 w92 hb hO => ?_))
       have hS := hS.keep hb; refine WL_op rfl (OpP_store (vs := [iV y89.Day, iV y89.From, iV y89.To, iV y89.Cost]) sz82 hS hO (k := 0) rfl rfl rfl rfl rfl (one_all rfl) (Nat.le_of_ble_eq_true rfl) (fun w94 hS hO => ?_))
       have hO : Owns G87 w94 w0.heap.size ([⟨82, 4, 1, .slice (some ⟨b91, 0, none⟩) 1 1, [iV y89.Day, iV y89.From, iV y89.To, iV y89.Cost]⟩, ⟨3, 1, ns82_2, .slice as82_2 ns82_2 cs82_2, clas82_2⟩, ⟨50, 1, 1, .slice (some ⟨b36, 0, none⟩) 1 1, [.slice as82_1 ns82_1 cs82_1]⟩, ⟨4, 1, ns82_1, .slice as82_1 ns82_1 cs82_1, clas82_1⟩, ⟨183, 1, 1, .slice (some ⟨b24, 0, none⟩) 1 1, [.slice as82_2 ns82_2 cs82_2]⟩, ⟨3, 1, ns82_0, .slice as82_0 ns82_0 cs82_0, clas82_0⟩]) := hO
       obtain ⟨G95, leG95, hS, hO, hqG95, _⟩ := hO.freeze hS (k := 0) rfl
       have hcG95 : Cells G95 b91 0 [iV y89.Day, iV y89.From, iV y89.To, iV y89.Cost] := (hqG95 _ _ _ _ rfl)
       refine WL_nil (WC_seq ?_); obtain ⟨q96, hq96, H⟩ := bnd H; refine WC_cut (fun F w => ∃ (Fb : Fr) (G : Gm) (aq96_0 : Option Addr) (nq96_0 cq96_0 : Nat) (claq96_0 : List Value), F = upds Fb [(1, pV b4), (2, .slice none 0 0), (3, .slice aq96_0 nq96_0 cq96_0), (5, pV b27), (6, pV b36), (11, pV b91)] ∧ Gle G95 G ∧ Since w0.heap.size G0 w0 G w ∧ Owns G w w0.heap.size [⟨3, 1, ns82_2, .slice as82_2 ns82_2 cs82_2, clas82_2⟩, ⟨50, 1, 1, .slice (some ⟨b36, 0, none⟩) 1 1, [.slice as82_1 ns82_1 cs82_1]⟩, ⟨4, 1, ns82_1, .slice as82_1 ns82_1 cs82_1, clas82_1⟩, ⟨183, 1, 1, .slice (some ⟨b24, 0, none⟩) 1 1, [.slice as82_2 ns82_2 cs82_2]⟩, ⟨3, 1, nq96_0, .slice aq96_0 nq96_0 cq96_0, claq96_0⟩] ∧ nq96_0 = q96.length ∧ Rd RInt 1 G claq96_0 q96) ?_ ?_
       ·have Hoq96 := H; have H := hq96; refine WC_seq ?_; obtain ⟨q97, hq97, H⟩ := bnd H; refine WC_cut (fun F w => ∃ (Fb : Fr) (G : Gm), F = upds Fb [(1, pV b4), (2, .slice none 0 0), (3, .slice as82_0 ns82_0 cs82_0), (5, pV b27), (6, pV b36), (11, pV b91), (84, .bool q97)] ∧ Gle G95 G ∧ Since w0.heap.size G0 w0 G w ∧ Owns G w w0.heap.size [⟨3, 1, ns82_2, .slice as82_2 ns82_2 cs82_2, clas82_2⟩, ⟨50, 1, 1, .slice (some ⟨b36, 0, none⟩) 1 1, [.slice as82_1 ns82_1 cs82_1]⟩, ⟨4, 1, ns82_1, .slice as82_1 ns82_1 cs82_1, clas82_1⟩, ⟨183, 1, 1, .slice (some ⟨b24, 0, none⟩) 1 1, [.slice as82_2 ns82_2 cs82_2]⟩, ⟨3, 1, ns82_0, .slice as82_0 ns82_0 cs82_0, clas82_0⟩]) ?_ ?_
        ·have Hoq97 := H; have H := hq97; have hS := hS.keep (below_drew _); have hO := hO.below (below_drew _)
         refine WC_regionD mixedO (fun _ w => Sat G95 w ∧ Owns G95 w w0.heap.size [⟨3, 1, ns82_2, .slice as82_2 ns82_2 cs82_2, clas82_2⟩, ⟨50, 1, 1, .slice (some ⟨b36, 0, none⟩) 1 1, [.slice as82_1 ns82_1 cs82_1]⟩, ⟨4, 1, ns82_1, .slice as82_1 ns82_1 cs82_1, clas82_1⟩, ⟨183, 1, 1, .slice (some ⟨b24, 0, none⟩) 1 1, [.slice as82_2 ns82_2 cs82_2]⟩, ⟨3, 1, ns82_0, .slice as82_0 ns82_0 cs82_0, clas82_0⟩]) (.fl 0 (.on 1 (.on 2 (.on 3 (.on 4 (.on 5 (.on 6 (.fl 7 (.fl 8 (.fl 9 (.on 10 (.on 11 (.on 12 (.on 13 (.on 14 (.on 15 .nil)))))))))))))))) (by kernel_rfl) rfl (by kernel_rfl) (fun _ => ⟨hS.sat, hO⟩) ?_
         refine WD_val rfl (fun w hw => rn_move (v := (.slice as82_0 ns82_0 cs82_0)) rfl) rfl (WD_op rfl rfl (OpP_val (rn_fld fd82_2 rfl) rfl ?_)); refine ⟨fun _ _ => ⟨hS.sat, hO⟩, ?_⟩; refine WD_op rfl rfl (OpP_val (rn_load na3 rfl (hS.sat.cell (hcG95 2 _ rfl))) rfl ?_); refine ⟨fun _ _ => ⟨hS.sat, hO⟩, ?_⟩; obtain ⟨y98, hy98, H⟩ := bnd H; refine WD_op rfl rfl (OpP_idxO sl24 hO (k := 4) rfl hnhs82_0 (hs82_0.mono RInt_mono leG95) hy98 rfl rfl rfl ?_)
         rintro b99 ob99 _ hb99 _ hcb99 ⟨⟩
         refine ⟨fun _ _ => ⟨hS.sat, hO⟩, ?_⟩; refine WD_op rfl rfl (OpP_val (rn_load na3 rfl (own_cellB hO (k := 4) rfl hb99 _ 0 (hcb99 0 _ rfl))) rfl ?_); refine ⟨fun _ _ => ⟨hS.sat, hO⟩, ?_⟩; refine WD_op rfl rfl (OpP_val (rn_lss rfl rfl) rfl ?_); refine ⟨fun _ _ => ⟨hS.sat, hO⟩, ?_⟩; refine WD_op rfl rfl (OpP_val (rn_move (v := (.bool (decide (y98 < 0)))) rfl) rfl ?_); refine ⟨fun _ _ => ⟨hS.sat, hO⟩, ?_⟩
         rcases bcases (decide (y98 < 0)) with hb100 | hb100
         ·have H := ifT hb100 H; refine WD_skip rfl rfl hb100 rfl rfl rfl (WD_skip rfl rfl hb100 rfl rfl rfl (WD_skip rfl rfl hb100 rfl rfl rfl (WD_skipS rfl rfl hb100 rfl rfl rfl (fun _ _ => ⟨hS.sat, hO⟩) (WD_skipS rfl rfl hb100 rfl rfl rfl (fun _ _ => ⟨hS.sat, hO⟩) (WD_skipS rfl rfl hb100 rfl rfl rfl (fun _ _ => ⟨hS.sat, hO⟩) (WD_skipS rfl rfl hb100 rfl rfl rfl (fun _ _ => ⟨hS.sat, hO⟩) ?_))))))
          refine WD_skipS rfl rfl hb100 rfl rfl rfl (fun _ h => noneed (by kernel_rfl) h) ?_
          refine WD_op rfl rfl (OpP_val (rn_pickT (v := (.bool true)) rfl hb100 rfl) rfl ?_)
          refine ⟨fun _ h => noneed (by kernel_rfl) h, ?_⟩
          refine WD_nil ?_
          have hO : Owns G95 w94.drew w0.heap.size ([⟨3, 1, ns82_2, .slice as82_2 ns82_2 cs82_2, clas82_2⟩, ⟨50, 1, 1, .slice (some ⟨b36, 0, none⟩) 1 1, [.slice as82_1 ns82_1 cs82_1]⟩, ⟨4, 1, ns82_1, .slice as82_1 ns82_1 cs82_1, clas82_1⟩, ⟨183, 1, 1, .slice (some ⟨b24, 0, none⟩) 1 1, [.slice as82_2 ns82_2 cs82_2]⟩, ⟨3, 1, ns82_0, .slice as82_0 ns82_0 cs82_0, clas82_0⟩]) := hO
          cases H
          exact ⟨_, G95, upds_self _ _ ⟨rfl, rfl, rfl, rfl, rfl, rfl, rfl, trivial⟩, Gle.refl _, hS, hO⟩
         ·have H := ifF hb100 H; refine WD_valY rfl rfl hb100 rfl rfl (fun w hw => rn_fld fd82_0 rfl) rfl (WD_valY rfl rfl hb100 rfl rfl (fun w hw => rn_load na3 rfl (hw.1.cell (hcG95 0 _ rfl))) rfl (WD_valY rfl rfl hb100 rfl rfl (fun w hw => rn_move (v := (.slice as82_0 ns82_0 cs82_0)) rfl) rfl (WD_opY rfl rfl rfl hb100 rfl rfl (OpP_val (rn_fld fd82_2 rfl) rfl ?_)))); refine ⟨fun _ _ => ⟨hS.sat, hO⟩, ?_⟩; refine WD_opY rfl rfl rfl hb100 rfl rfl (OpP_val (rn_load na3 rfl (hS.sat.cell (hcG95 2 _ rfl))) rfl ?_); refine ⟨fun _ _ => ⟨hS.sat, hO⟩, ?_⟩; refine WD_opY rfl rfl rfl hb100 rfl rfl (OpP_idxO sl24 hO (k := 4) rfl hnhs82_0 (hs82_0.mono RInt_mono leG95) hy98 rfl rfl rfl ?_)
          rintro b101 ob101 _ hb101 _ hcb101 ⟨⟩
          refine ⟨fun _ _ => ⟨hS.sat, hO⟩, ?_⟩; refine WD_opY rfl rfl rfl hb100 rfl rfl (OpP_val (rn_load na3 rfl (own_cellB hO (k := 4) rfl hb101 _ 0 (hcb101 0 _ rfl))) rfl ?_); refine ⟨fun _ _ => ⟨hS.sat, hO⟩, ?_⟩; refine WD_opY rfl rfl rfl hb100 rfl rfl (OpP_val (rn_lss rfl rfl) rfl ?_)
          refine ⟨fun _ h => noneed (by kernel_rfl) h, ?_⟩
          refine WD_op rfl rfl (OpP_val (rn_pickF (v := (.bool (decide (y89.Day < y98)))) rfl hb100 rfl) rfl ?_)
          refine ⟨fun _ h => noneed (by kernel_rfl) h, ?_⟩
          refine WD_nil ?_
          have hO : Owns G95 w94.drew w0.heap.size ([⟨3, 1, ns82_2, .slice as82_2 ns82_2 cs82_2, clas82_2⟩, ⟨50, 1, 1, .slice (some ⟨b36, 0, none⟩) 1 1, [.slice as82_1 ns82_1 cs82_1]⟩, ⟨4, 1, ns82_1, .slice as82_1 ns82_1 cs82_1, clas82_1⟩, ⟨183, 1, 1, .slice (some ⟨b24, 0, none⟩) 1 1, [.slice as82_2 ns82_2 cs82_2]⟩, ⟨3, 1, ns82_0, .slice as82_0 ns82_0 cs82_0, clas82_0⟩]) := hO
          cases H
          exact ⟨_, G95, upds_self _ _ ⟨rfl, rfl, rfl, rfl, rfl, rfl, rfl, trivial⟩, Gle.refl _, hS, hO⟩
        ·rintro F w102 ⟨Fb, G103, rfl, leG103, hS, hO⟩
         refine WC_cond rfl (fun hb104 => ?_) (fun hb104 => ?_)
         ·have H := ifT hb104 H; refine WC_region (WL_run tabH (cellsW (hS.sat.le leG103) hcG95) 5 [] rfl rfl an ?_); obtain ⟨y105, hy105, H⟩ := bnd H
          have l6_8 := leG95.trans leG103
          refine WL_idxO sl24 hO (k := 4) rfl hnhs82_0 (hs82_0.mono RInt_mono l6_8) hy105 rfl rfl rfl ?_
          rintro b106 ob106 _ hb106 _ hcb106 ⟨⟩
          obtain ⟨y107, hy107, H⟩ := bnd H; refine WL_op rfl (OpP_storeE (vs := [iV y89.Day]) (cs := [iV y105]) (j := 0) (y := y89.Day) sz3 hS hO (k := 4) rfl hnhs82_0 rfl (hs82_0.mono RInt_mono l6_8) hb106 rfl hcb106 hy107 rfl rfl rfl rfl rfl (one_all rfl) (Nat.le_of_ble_eq_true rfl) (fun w108 clw108 hS hO hrw108 => ?_))
          have hO : Owns G103 w108 w0.heap.size ([⟨3, 1, ns82_2, .slice as82_2 ns82_2 cs82_2, clas82_2⟩, ⟨50, 1, 1, .slice (some ⟨b36, 0, none⟩) 1 1, [.slice as82_1 ns82_1 cs82_1]⟩, ⟨4, 1, ns82_1, .slice as82_1 ns82_1 cs82_1, clas82_1⟩, ⟨183, 1, 1, .slice (some ⟨b24, 0, none⟩) 1 1, [.slice as82_2 ns82_2 cs82_2]⟩, ⟨3, 1, ns82_0, .slice as82_0 ns82_0 cs82_0, clw108⟩]) := hO
          refine WL_nil ?_
          have hO : Owns G103 w108 w0.heap.size ([⟨3, 1, ns82_2, .slice as82_2 ns82_2 cs82_2, clas82_2⟩, ⟨50, 1, 1, .slice (some ⟨b36, 0, none⟩) 1 1, [.slice as82_1 ns82_1 cs82_1]⟩, ⟨4, 1, ns82_1, .slice as82_1 ns82_1 cs82_1, clas82_1⟩, ⟨183, 1, 1, .slice (some ⟨b24, 0, none⟩) 1 1, [.slice as82_2 ns82_2 cs82_2]⟩, ⟨3, 1, ns82_0, .slice as82_0 ns82_0 cs82_0, clw108⟩]) := hO
          cases H
          exact ⟨_, G103, as82_0, ns82_0, cs82_0, clw108, upds_self _ _ ⟨rfl, rfl, rfl, rfl, rfl, rfl, trivial⟩, leG103, hS, hO, (Eq.trans hnhs82_0 (setIx_len hy107)), hrw108⟩
         ·have H := ifF hb104 H; refine WC_skip ?_
          have hO : Owns G103 w102 w0.heap.size ([⟨3, 1, ns82_2, .slice as82_2 ns82_2 cs82_2, clas82_2⟩, ⟨50, 1, 1, .slice (some ⟨b36, 0, none⟩) 1 1, [.slice as82_1 ns82_1 cs82_1]⟩, ⟨4, 1, ns82_1, .slice as82_1 ns82_1 cs82_1, clas82_1⟩, ⟨183, 1, 1, .slice (some ⟨b24, 0, none⟩) 1 1, [.slice as82_2 ns82_2 cs82_2]⟩, ⟨3, 1, ns82_0, .slice as82_0 ns82_0 cs82_0, clas82_0⟩]) := hO
          cases H
          have l6_8 := leG95.trans leG103
          exact ⟨_, G103, as82_0, ns82_0, cs82_0, clas82_0, upds_self _ _ ⟨rfl, rfl, rfl, rfl, rfl, rfl, trivial⟩, leG103, hS, hO, hnhs82_0, (hs82_0.mono RInt_mono l6_8)⟩
       ·rintro F w109 ⟨Fb, G110, aq96_0, nq96_0, cq96_0, claq96_0, rfl, leG110, hS, hO, hnhq96_0, hq96_0⟩
        refine WC_seq (WC_region ?_)
        have l1_8 := (l1_6.trans leG95).trans leG110
        refine WL_val (rn_loadA ag85 (cs := [iV x0.BaneSea.Islets, .slice a1 n1 c1, .slice a2 n2 c2, .slice a3 n3 c3, iV x0.BaneSea.Wait, iV x0.shut]) rfl rfl (fun j v hj => (hS.sat.le l1_8).cell (hcb4.drop_take 0 6 j v hj))) rfl ?_
        have l0_8 := (l0_6.trans leG95).trans leG110
        have hI111 := f100_it (x0 := x0) (a1 := a1) (n1 := n1) (c1 := c1) (a2 := a2) (n2 := n2) (c2 := c2) (a3 := a3) (n3 := n3) (c3 := c3) (h3.mono RTBaneTrip_mono l0_8)
        refine WL_val (rn_func (vs := [.agg #[iV x0.BaneSea.Islets, .slice a1 n1 c1, .slice a2 n2 c2, .slice a3 n3 c3, iV x0.BaneSea.Wait, iV x0.shut]]) (us := []) rfl rfl) rfl (WL_nil (WC_block ?_))
        have hO : Owns G110 w109 w0.heap.size ([⟨3, 1, ns82_2, .slice as82_2 ns82_2 cs82_2, clas82_2⟩, ⟨50, 1, 1, .slice (some ⟨b36, 0, none⟩) 1 1, [.slice as82_1 ns82_1 cs82_1]⟩, ⟨4, 1, ns82_1, .slice as82_1 ns82_1 cs82_1, clas82_1⟩, ⟨183, 1, 1, .slice (some ⟨b24, 0, none⟩) 1 1, [.slice as82_2 ns82_2 cs82_2]⟩, ⟨3, 1, nq96_0, .slice aq96_0 nq96_0 cq96_0, claq96_0⟩]) := hO
        have l6_8 := leG95.trans leG110
        obtain ⟨q114, hq114, H⟩ := bnd H; refine WC_range (xs := openL x0.shut 0 x0.BaneSea.Trips) (enc := encT) (bd := f40_b3 x0 y89) (fi := [.agg #[iV x0.BaneSea.Islets, .slice a1 n1 c1, .slice a2 n2 c2, .slice a3 n3 c3, iV x0.BaneSea.Wait, iV x0.shut]]) (ca := []) cb100 hI111 rfl (fun _ => rfl) rfl hq114 (fun (s112 : (List Bool) × TQueue_int_) (G : Gm) (L : List Row) => ∃ (as112_0 : Option Addr) (ns112_0 cs112_0 : Nat) (clas112_0 : List Value) (as112_1 : Option Addr) (ns112_1 cs112_1 : Nat) (clas112_1 : List Value), L = [⟨3, 1, ns112_1, .slice as112_1 ns112_1 cs112_1, clas112_1⟩, ⟨50, 1, 1, .slice (some ⟨b36, 0, none⟩) 1 1, [.slice as112_0 ns112_0 cs112_0]⟩, ⟨4, 1, ns112_0, .slice as112_0 ns112_0 cs112_0, clas112_0⟩, ⟨183, 1, 1, .slice (some ⟨b24, 0, none⟩) 1 1, [.slice as112_1 ns112_1 cs112_1]⟩, ⟨3, 1, nq96_0, .slice aq96_0 nq96_0 cq96_0, claq96_0⟩] ∧ ns112_0 = s112.1.length ∧ Rd RBool 1 G clas112_0 s112.1 ∧ ns112_1 = s112.2.all.length ∧ Rd RInt 1 G clas112_1 s112.2.all) (fun (p143 : Empty) (c144 : Code) (G : Gm) (L : List Row) => False) ?_ hS hO ⟨as82_1, ns82_1, cs82_1, clas82_1, as82_2, ns82_2, cs82_2, clas82_2, rfl, hnhs82_1, (hs82_1.mono RBool_mono l6_8), hnhs82_2, (hs82_2.mono RInt_mono l6_8)⟩ [] ?_ ?_ ?_
        ·rintro s112 G1 G2 L hle ⟨as112_0, ns112_0, cs112_0, clas112_0, as112_1, ns112_1, cs112_1, clas112_1, rfl, hnhs112_0, hs112_0, hnhs112_1, hs112_1⟩
         exact ⟨as112_0, ns112_0, cs112_0, clas112_0, as112_1, ns112_1, cs112_1, clas112_1, rfl, hnhs112_0, hs112_0.mono RBool_mono hle, hnhs112_1, hs112_1.mono RInt_mono hle⟩
        ·rintro l145 y113 s112 t115 G117 w116 L146 Lx118 leG117 hS hO ⟨as112_0, ns112_0, cs112_0, clas112_0, as112_1, ns112_1, cs112_1, clas112_1, rfl, hnhs112_0, hs112_0, hnhs112_1, hs112_1⟩ H1 hqq114
         have hO : Owns G117 w116 w0.heap.size ((⟨3, 1, ns112_1, .slice as112_1 ns112_1 cs112_1, clas112_1⟩ :: ⟨50, 1, 1, .slice (some ⟨b36, 0, none⟩) 1 1, [.slice as112_0 ns112_0 cs112_0]⟩ :: ⟨4, 1, ns112_0, .slice as112_0 ns112_0 cs112_0, clas112_0⟩ :: ⟨183, 1, 1, .slice (some ⟨b24, 0, none⟩) 1 1, [.slice as112_1 ns112_1 cs112_1]⟩ :: ⟨3, 1, nq96_0, .slice aq96_0 nq96_0 cq96_0, claq96_0⟩ :: Lx118)) := hO
         have Hoq114 := H; have H := H1
         unfold f40_b3 at H
         refine WC_seq (WC_region (WL_val (rn_assign (v := (iV y113.1)) rfl) rfl (WL_nil (WC_region ?_))))
         refine WL_op rfl (OpP_newO (v := fun b => pV b) (cs := [iV 0, iV 0, iV 0, iV 0]) (e := 82) (by kernel_rfl) hS.sat hO rfl 4 1 rfl (by decide) (fun b119 w120 hb hO => ?_))
         have hS := hS.keep hb; refine WL_op rfl (OpP_store (vs := [iV y113.2.Day, iV y113.2.From, iV y113.2.To, iV y113.2.Cost]) sz82 hS hO (k := 0) rfl rfl rfl rfl rfl (one_all rfl) (Nat.le_of_ble_eq_true rfl) (fun w122 hS hO => ?_))
         have hO : Owns G117 w122 w0.heap.size ((⟨82, 4, 1, .slice (some ⟨b119, 0, none⟩) 1 1, [iV y113.2.Day, iV y113.2.From, iV y113.2.To, iV y113.2.Cost]⟩ :: ⟨3, 1, ns112_1, .slice as112_1 ns112_1 cs112_1, clas112_1⟩ :: ⟨50, 1, 1, .slice (some ⟨b36, 0, none⟩) 1 1, [.slice as112_0 ns112_0 cs112_0]⟩ :: ⟨4, 1, ns112_0, .slice as112_0 ns112_0 cs112_0, clas112_0⟩ :: ⟨183, 1, 1, .slice (some ⟨b24, 0, none⟩) 1 1, [.slice as112_1 ns112_1 cs112_1]⟩ :: ⟨3, 1, nq96_0, .slice aq96_0 nq96_0 cq96_0, claq96_0⟩ :: Lx118)) := hO
         obtain ⟨G123, leG123, hS, hO, hqG123, _⟩ := hO.freeze hS (k := 0) rfl
         have hcG123 : Cells G123 b119 0 [iV y113.2.Day, iV y113.2.From, iV y113.2.To, iV y113.2.Cost] := (hqG123 _ _ _ _ rfl)
         refine WL_nil ?_
         intro w124 hfix
         have hS := hS.fix hfix; have hO := hO.fix hfix; refine WC_block (WC_seq ?_); obtain ⟨q125, hq125, H⟩ := bnd H; refine WC_cut (fun F w => ∃ (Fb : Fr), F = upds Fb [(5, pV b27), (6, pV b36), (12, iV y113.1), (117, .bool q125)] ∧ w124 = w) ?_ ?_
         ·have Hoq125 := H; have H := hq125; refine WC_region (WL_val (rn_load na50 rfl (own_cell hO (k := 1) rfl (j := 0) rfl)) rfl (WL_val (rn_move (v := (iV y113.1)) rfl) rfl ?_)); obtain ⟨y126, hy126, H⟩ := bnd H; refine WL_idxO sl50 hO (k := 2) rfl hnhs112_0 (hs112_0.mono RBool_mono leG123) hy126 rfl rfl rfl ?_
          rintro b127 ob127 _ hb127 _ hcb127 ⟨⟩
          refine WL_val (rn_load na4 rfl (own_cellB hO (k := 2) rfl hb127 _ 0 (hcb127 0 _ rfl))) rfl ?_; refine wr 2 rfl ?_
          rcases bcases (!y126) with hb128 | hb128
          ·have H := ifT hb128 H; refine WL_runK tabH (cellsW hS.sat hcG123) (kb hb128) 3 [] rfl rfl an ?_
           have l7_10 := (leG110.trans leG117).trans leG123
           refine WL_runK tabH (cellsW (hS.sat.le l7_10) hcG95) (kb hb128) 4 [] rfl rfl an ?_
           rcases bcases (y113.2.From == y89.To) with hb129 | hb129
           ·have H := ifT hb129 H; refine WL_runK tabH (cellsW hS.sat hcG123) (kb hb129) 3 [] rfl rfl an (WL_runK tabH (cellsW (hS.sat.le l7_10) hcG95) (kb hb129) 3 [] rfl rfl an ?_)
            have l1_10 := (l1_8.trans leG117).trans leG123
            refine WL_runK tabH (cellsW (hS.sat.le l1_10) hcb4) (kb hb129) 4 [] rfl rfl an (WL_nil ?_); cases H
            exact ⟨_, upds_self _ _ ⟨rfl, rfl, rfl, rfl, trivial⟩, rfl⟩
           ·have H := ifF hb129 H; refine wk hb129 10 rfl rfl ?_; refine WL_nil ?_; cases H
            exact ⟨_, upds_self _ _ ⟨rfl, rfl, rfl, rfl, trivial⟩, rfl⟩
          ·have H := ifF hb128 H; refine wk hb128 7 rfl rfl ?_; refine wr 10 rfl ?_; refine WL_nil ?_; cases H
           exact ⟨_, upds_self _ _ ⟨rfl, rfl, rfl, rfl, trivial⟩, rfl⟩
         ·rintro F wl ⟨Fb, rfl, rfl⟩
          refine WC_cond rfl (fun hb132 => ?_) (fun hb132 => ?_)
          ·have H := ifT hb132 H; refine WC_seq (WC_region (WL_val (rn_load na50 rfl (own_cell hO (k := 1) rfl (j := 0) rfl)) rfl (WL_val (rn_move (v := (iV y113.1)) rfl) rfl ?_))); obtain ⟨y133, hy133, H⟩ := bnd H; refine WL_idxO sl50 hO (k := 2) rfl hnhs112_0 (hs112_0.mono RBool_mono leG123) hy133 rfl rfl rfl ?_
           rintro b134 ob134 _ hb134 _ hcb134 ⟨⟩
           obtain ⟨y135, hy135, H⟩ := bnd H; refine WL_op rfl (OpP_storeE (vs := [.bool true]) (cs := [.bool y133]) (j := 0) (y := true) sz4 hS hO (k := 2) rfl hnhs112_0 rfl (hs112_0.mono RBool_mono leG123) hb134 rfl hcb134 hy135 rfl rfl rfl rfl rfl (one_all rfl) (Nat.le_of_ble_eq_true rfl) (fun w136 clw136 hS hO hrw136 => ?_))
           have hO : Owns G123 w136 w0.heap.size ((⟨3, 1, ns112_1, .slice as112_1 ns112_1 cs112_1, clas112_1⟩ :: ⟨50, 1, 1, .slice (some ⟨b36, 0, none⟩) 1 1, [.slice as112_0 ns112_0 cs112_0]⟩ :: ⟨4, 1, ns112_0, .slice as112_0 ns112_0 cs112_0, clw136⟩ :: ⟨183, 1, 1, .slice (some ⟨b24, 0, none⟩) 1 1, [.slice as112_1 ns112_1 cs112_1]⟩ :: ⟨3, 1, nq96_0, .slice aq96_0 nq96_0 cq96_0, claq96_0⟩ :: Lx118)) := hO
           refine WL_nil (WC_region ?_)
           have l3_10 := (((((leG73.trans leG81).trans leG87).trans leG95).trans leG110).trans leG117).trans leG123
           refine WL_run tabH (cellsW (hS.sat.le l3_10) hcG31) 2 [] rfl rfl an (WL_op rfl (OpP_in0 (N' := 14) [pV b24, iV y113.1] cb101 Tryz.func101 rfl rfl rfl rfl rfl rfl ?_)); refine WC_region ?_; refine wr 2 rfl ?_
           refine WL_val (v := (pV b24)) (by kernel_rfl) rfl ?_
           refine WL_val (rn_fld fd183_0 rfl) rfl (WL_val (rn_load na24 rfl (own_cell hO (k := 3) rfl (j := 0) rfl)) rfl (WL_val (rn_move (v := (iV y113.1)) rfl) rfl ?_))
           refine WL_op rfl (OpP_newF (v := fun b => .slice (some ⟨b, 0, none⟩) 1 1) (cs := [iV y113.1]) (e := 3) (by kernel_rfl) hS.sat rfl (fun b137 G139 w138 hg hcb137 => ?_))
           have hS := hS.grow hg; have hO := hO.grow hg
           have leG139 := hg.le
           have hfb137 : RSl RInt 1 G139 (some ⟨b137, 0, none⟩) 1 1 [y113.1] := RSl.of_rd hcb137 (Rd.cons (c := [iV y113.1]) rfl rfl (Rd.nil RInt 1 _)) rfl (by decide)
           obtain ⟨y140, hy140, H⟩ := bnd H
           have l9_11 := leG123.trans leG139
           refine WL_op rfl (OpP_append (k := 0) sl24 RInt_one hS hO rfl hnhs112_1 (hs112_1.mono RInt_mono l9_11) hfb137 hy140 rfl rfl rfl rfl rfl (fun aw141 cw141 w141 clw141 hS hO hrw141 => ?_))
           have hO : Owns G139 w141 w0.heap.size ((⟨3, 1, y140.length, .slice aw141 y140.length cw141, clw141⟩ :: ⟨50, 1, 1, .slice (some ⟨b36, 0, none⟩) 1 1, [.slice as112_0 ns112_0 cs112_0]⟩ :: ⟨4, 1, ns112_0, .slice as112_0 ns112_0 cs112_0, clw136⟩ :: ⟨183, 1, 1, .slice (some ⟨b24, 0, none⟩) 1 1, [.slice as112_1 ns112_1 cs112_1]⟩ :: ⟨3, 1, nq96_0, .slice aq96_0 nq96_0 cq96_0, claq96_0⟩ :: Lx118)) := hO
           refine WL_val (v := (pV b24)) (by kernel_rfl) rfl ?_
           refine WL_val (rn_fld fd183_0 rfl) rfl (WL_op rfl (OpP_store (vs := [.slice aw141 y140.length cw141]) sz24 hS hO (k := 3) rfl rfl rfl rfl rfl (one_all rfl) (Nat.le_of_ble_eq_true rfl) (fun w142 hS hO => ?_)))
           have hO : Owns G139 w142 w0.heap.size ((⟨3, 1, y140.length, .slice aw141 y140.length cw141, clw141⟩ :: ⟨50, 1, 1, .slice (some ⟨b36, 0, none⟩) 1 1, [.slice as112_0 ns112_0 cs112_0]⟩ :: ⟨4, 1, ns112_0, .slice as112_0 ns112_0 cs112_0, clw136⟩ :: ⟨183, 1, 1, .slice (some ⟨b24, 0, none⟩) 1 1, [.slice aw141 y140.length cw141]⟩ :: ⟨3, 1, nq96_0, .slice aq96_0 nq96_0 cq96_0, claq96_0⟩ :: Lx118)) := hO
           refine WL_nil ?_
           have hO : Owns G139 w142 w0.heap.size ((⟨3, 1, y140.length, .slice aw141 y140.length cw141, clw141⟩ :: ⟨50, 1, 1, .slice (some ⟨b36, 0, none⟩) 1 1, [.slice as112_0 ns112_0 cs112_0]⟩ :: ⟨4, 1, ns112_0, .slice as112_0 ns112_0 cs112_0, clw136⟩ :: ⟨183, 1, 1, .slice (some ⟨b24, 0, none⟩) 1 1, [.slice aw141 y140.length cw141]⟩ :: ⟨3, 1, nq96_0, .slice aq96_0 nq96_0 cq96_0, claq96_0⟩ :: Lx118)) := hO
           refine WL_nil ?_
           have hO : Owns G139 w142 w0.heap.size ((⟨3, 1, y140.length, .slice aw141 y140.length cw141, clw141⟩ :: ⟨50, 1, 1, .slice (some ⟨b36, 0, none⟩) 1 1, [.slice as112_0 ns112_0 cs112_0]⟩ :: ⟨4, 1, ns112_0, .slice as112_0 ns112_0 cs112_0, clw136⟩ :: ⟨183, 1, 1, .slice (some ⟨b24, 0, none⟩) 1 1, [.slice aw141 y140.length cw141]⟩ :: ⟨3, 1, nq96_0, .slice aq96_0 nq96_0 cq96_0, claq96_0⟩ :: Lx118)) := hO
           cases H
           exact ⟨_, rfl, _, [⟨3, 1, y140.length, .slice aw141 y140.length cw141, clw141⟩, ⟨50, 1, 1, .slice (some ⟨b36, 0, none⟩) 1 1, [.slice as112_0 ns112_0 cs112_0]⟩, ⟨4, 1, ns112_0, .slice as112_0 ns112_0 cs112_0, clw136⟩, ⟨183, 1, 1, .slice (some ⟨b24, 0, none⟩) 1 1, [.slice aw141 y140.length cw141]⟩, ⟨3, 1, nq96_0, .slice aq96_0 nq96_0 cq96_0, claq96_0⟩], l9_11, hS, hO, ⟨as112_0, ns112_0, cs112_0, clw136, aw141, y140.length, cw141, clw141, rfl, (Eq.trans hnhs112_0 (setIx_len hy135)), (hrw136.mono RBool_mono leG139), rfl, hrw141⟩⟩
          ·have H := ifF hb132 H; refine WC_skip ?_
           have hO : Owns G123 w124 w0.heap.size ((⟨3, 1, ns112_1, .slice as112_1 ns112_1 cs112_1, clas112_1⟩ :: ⟨50, 1, 1, .slice (some ⟨b36, 0, none⟩) 1 1, [.slice as112_0 ns112_0 cs112_0]⟩ :: ⟨4, 1, ns112_0, .slice as112_0 ns112_0 cs112_0, clas112_0⟩ :: ⟨183, 1, 1, .slice (some ⟨b24, 0, none⟩) 1 1, [.slice as112_1 ns112_1 cs112_1]⟩ :: ⟨3, 1, nq96_0, .slice aq96_0 nq96_0 cq96_0, claq96_0⟩ :: Lx118)) := hO
           cases H
           exact ⟨_, rfl, _, [⟨3, 1, ns112_1, .slice as112_1 ns112_1 cs112_1, clas112_1⟩, ⟨50, 1, 1, .slice (some ⟨b36, 0, none⟩) 1 1, [.slice as112_0 ns112_0 cs112_0]⟩, ⟨4, 1, ns112_0, .slice as112_0 ns112_0 cs112_0, clas112_0⟩, ⟨183, 1, 1, .slice (some ⟨b24, 0, none⟩) 1 1, [.slice as112_1 ns112_1 cs112_1]⟩, ⟨3, 1, nq96_0, .slice aq96_0 nq96_0 cq96_0, claq96_0⟩], leG123, hS, hO, ⟨as112_0, ns112_0, cs112_0, clas112_0, as112_1, ns112_1, cs112_1, clas112_1, rfl, hnhs112_0, (hs112_0.mono RBool_mono leG123), hnhs112_1, (hs112_1.mono RInt_mono leG123)⟩⟩
        ·rintro s112 G148 w147 L154 hres leG148 hS hO ⟨as112_0, ns112_0, cs112_0, clas112_0, as112_1, ns112_1, cs112_1, clas112_1, rfl, hnhs112_0, hs112_0, hnhs112_1, hs112_1⟩
         subst hres; refine WC_region ?_
         have l3_9 := (((leG73.trans leG81).trans leG87).trans l6_8).trans leG148
         refine WL_val (rn_load na181 rfl ((hS.sat.le l3_9).cell (hcG31 0 _ rfl))) rfl (WL_op rfl (OpP_in2 (N' := 27) [pV b24] cb102 Tryz.func102 rfl rfl rfl rfl rfl rfl ?_)); refine WC_seq (WC_region ?_); refine wr 2 rfl ?_; refine WL_nil (WC_seq (WC_region (WL_val (rn_assign (v := (iV 0)) rfl) rfl (WL_nil (WC_seq (WC_seq (WC_region (WL_val (rn_move (v := (pV b24)) rfl) rfl ?_))))))))
         refine WL_val (v := (pV b24)) (by kernel_rfl) rfl ?_
         refine WL_val (rn_fld fd183_0 rfl) rfl (WL_val (rn_load na24 rfl (own_cell hO (k := 3) rfl (j := 0) rfl)) rfl (WL_run tabH (cells0 _) 2 [_] rfl rfl (ao hnhs112_1 an) (WL_nil (WC_cond rfl (fun hb149 => ?_) (fun hb149 => ?_)))))
         ·have H := ifT hb149 H; refine WC_seq (WC_region ?_); refine wr 3 rfl ?_; refine WL_nil (WC_ret ?_); refine ⟨(iV 0), (.bool false), rfl, rfl, ?_⟩
          have hO : Owns G148 w147 w0.heap.size ([⟨3, 1, ns112_1, .slice as112_1 ns112_1 cs112_1, clas112_1⟩, ⟨50, 1, 1, .slice (some ⟨b36, 0, none⟩) 1 1, [.slice as112_0 ns112_0 cs112_0]⟩, ⟨4, 1, ns112_0, .slice as112_0 ns112_0 cs112_0, clas112_0⟩, ⟨183, 1, 1, .slice (some ⟨b24, 0, none⟩) 1 1, [.slice as112_1 ns112_1 cs112_1]⟩, ⟨3, 1, nq96_0, .slice aq96_0 nq96_0 cq96_0, claq96_0⟩]) := hO
          refine WL_val (rn_move (v := (.tuple #[iV 0, .bool false])) rfl) rfl (WL_val (rn_extract (v := (iV 0)) rfl rfl) rfl (WL_val (rn_extract (v := (.bool false)) rfl rfl) rfl ?_)); refine wr 2 rfl ?_; refine WL_nil ?_
          have hO : Owns G148 w147 w0.heap.size ([⟨3, 1, ns112_1, .slice as112_1 ns112_1 cs112_1, clas112_1⟩, ⟨50, 1, 1, .slice (some ⟨b36, 0, none⟩) 1 1, [.slice as112_0 ns112_0 cs112_0]⟩, ⟨4, 1, ns112_0, .slice as112_0 ns112_0 cs112_0, clas112_0⟩, ⟨183, 1, 1, .slice (some ⟨b24, 0, none⟩) 1 1, [.slice as112_1 ns112_1 cs112_1]⟩, ⟨3, 1, nq96_0, .slice aq96_0 nq96_0 cq96_0, claq96_0⟩]) := hO
          cases H; refine ⟨_, rfl, ?_⟩
          have l5_9 := (leG87.trans l6_8).trans leG148
          exact ⟨_, G148, aq96_0, nq96_0, cq96_0, claq96_0, as112_0, ns112_0, cs112_0, clas112_0, as112_1, ns112_1, cs112_1, clas112_1, upds_self _ _ ⟨rfl, rfl, rfl, rfl, rfl, rfl, rfl, trivial⟩, l5_9, hS, hO, hnhq96_0, (hq96_0.mono RInt_mono leG148), hnhs112_0, hs112_0, hnhs112_1, hs112_1⟩
         ·have H := ifF hb149 H; refine WC_skip (WC_seq ?_); have hS := hS.keep (below_drew _); have hO := hO.below (below_drew _)
          refine WC_regionD mixedO (fun _ w => Sat G148 w ∧ Owns G148 w w0.heap.size [⟨3, 1, ns112_1, .slice as112_1 ns112_1 cs112_1, clas112_1⟩, ⟨50, 1, 1, .slice (some ⟨b36, 0, none⟩) 1 1, [.slice as112_0 ns112_0 cs112_0]⟩, ⟨4, 1, ns112_0, .slice as112_0 ns112_0 cs112_0, clas112_0⟩, ⟨183, 1, 1, .slice (some ⟨b24, 0, none⟩) 1 1, [.slice as112_1 ns112_1 cs112_1]⟩, ⟨3, 1, nq96_0, .slice aq96_0 nq96_0 cq96_0, claq96_0⟩]) (.fl 0 (.fl 1 (.fl 2 (.fl 3 (.fl 4 (.fl 5 (.fl 6 (.fl 7 (.fl 8 (.fl 9 (.fl 10 (.fl 11 (.on 12 (.on 13 (.on 14 (.on 15 .nil)))))))))))))))) (by kernel_rfl) rfl (by kernel_rfl) (fun _ => ⟨hS.sat, hO⟩) ?_
          refine WD_val rfl (fun w hw => rn_move (v := (pV b24)) rfl) rfl (WD_val rfl (fun w hw => rn_move (v := (pV b24)) rfl) rfl ?_)
          refine WD_val (v := (pV b24)) rfl (fun w hw => by kernel_rfl) rfl ?_
          refine WD_val rfl (fun w hw => rn_fld fd183_0 rfl) rfl (WD_val rfl (fun w hw => rn_load na24 rfl (own_cell hw.2 (k := 3) rfl (j := 0) rfl)) rfl ?_); obtain ⟨y150, hy150, H⟩ := bnd H; refine WD_idxO rfl sl24 hO (k := 0) rfl hnhs112_1 hs112_1 hy150 rfl rfl rfl ?_
          rintro b151 ob151 _ hb151 _ hcb151 ⟨⟩
          refine WD_val rfl (fun w hw => rn_load na3 rfl (own_cellB hw.2 (k := 0) rfl hb151 _ 0 (hcb151 0 _ rfl))) rfl (WD_val rfl (fun w hw => rn_move (v := (pV b24)) rfl) rfl ?_)
          refine WD_val (v := (pV b24)) rfl (fun w hw => by kernel_rfl) rfl ?_
          refine WD_val rfl (fun w hw => rn_fld fd183_0 rfl) rfl (WD_val rfl (fun w hw => rn_load na24 rfl (own_cell hw.2 (k := 3) rfl (j := 0) rfl)) rfl ?_); obtain ⟨y152, hy152, H⟩ := bnd H; obtain ⟨hl0, hl1, hl2, _⟩ := subL_some hy152
          have hln : ns112_1 = s112.2.all.length := hnhs112_1
          obtain ⟨_, hnc, ay152, cy152, cly152, hsl, hOy152, hry152⟩ := hO.resl (k := 0) rfl hnhs112_1 hs112_1 hy152 (q := ns112_1) ((Int.toNat_natCast _).trans hln.symm)
          refine WD_val (v := (.slice ay152 y152.length cy152)) rfl (fun w hw => (rn_sliceL sl24 rfl rfl hl0 (by omega) _).trans (congrArg (fun v => Result.ok (Next.value v) _) hsl)) rfl ?_
          refine WD_op rfl rfl (OpP_val (rn_assign (v := (iV y150)) rfl) rfl ?_); refine ⟨fun _ _ => ⟨hS.sat, hO⟩, ?_⟩
          refine WD_op rfl rfl (OpP_val (v := (pV b24)) (by kernel_rfl) rfl ?_)
          refine ⟨fun _ h => noneed (by kernel_rfl) h, ?_⟩
          refine WD_op rfl rfl (OpP_val (rn_fld fd183_0 rfl) rfl ?_)
          refine ⟨fun _ h => noneed (by kernel_rfl) h, ?_⟩
          have hO : Owns G148 w147.drew w0.heap.size ([⟨3, 1, y152.length, .slice ay152 y152.length cy152, cly152⟩, ⟨50, 1, 1, .slice (some ⟨b36, 0, none⟩) 1 1, [.slice as112_0 ns112_0 cs112_0]⟩, ⟨4, 1, ns112_0, .slice as112_0 ns112_0 cs112_0, clas112_0⟩, ⟨183, 1, 1, .slice (some ⟨b24, 0, none⟩) 1 1, [.slice as112_1 ns112_1 cs112_1]⟩, ⟨3, 1, nq96_0, .slice aq96_0 nq96_0 cq96_0, claq96_0⟩]) := hOy152
          refine WD_op rfl rfl (OpP_store (vs := [.slice ay152 y152.length cy152]) sz24 hS hO (k := 3) rfl rfl rfl rfl rfl (one_all rfl) (Nat.le_of_ble_eq_true rfl) (fun w153 hS hO => ?_))
          have hO : Owns G148 w153 w0.heap.size ([⟨3, 1, y152.length, .slice ay152 y152.length cy152, cly152⟩, ⟨50, 1, 1, .slice (some ⟨b36, 0, none⟩) 1 1, [.slice as112_0 ns112_0 cs112_0]⟩, ⟨4, 1, ns112_0, .slice as112_0 ns112_0 cs112_0, clas112_0⟩, ⟨183, 1, 1, .slice (some ⟨b24, 0, none⟩) 1 1, [.slice ay152 y152.length cy152]⟩, ⟨3, 1, nq96_0, .slice aq96_0 nq96_0 cq96_0, claq96_0⟩]) := hO
          refine ⟨fun _ h => noneed (by kernel_rfl) h, ?_⟩
          refine WD_nil (WC_seq (WC_region ?_)); refine wr 3 rfl ?_; refine WL_nil (WC_ret ?_); refine ⟨(iV y150), (.bool true), rfl, rfl, ?_⟩
          have hO : Owns G148 w153 w0.heap.size ([⟨3, 1, y152.length, .slice ay152 y152.length cy152, cly152⟩, ⟨50, 1, 1, .slice (some ⟨b36, 0, none⟩) 1 1, [.slice as112_0 ns112_0 cs112_0]⟩, ⟨4, 1, ns112_0, .slice as112_0 ns112_0 cs112_0, clas112_0⟩, ⟨183, 1, 1, .slice (some ⟨b24, 0, none⟩) 1 1, [.slice ay152 y152.length cy152]⟩, ⟨3, 1, nq96_0, .slice aq96_0 nq96_0 cq96_0, claq96_0⟩]) := hO
          refine WL_val (rn_move (v := (.tuple #[iV y150, .bool true])) rfl) rfl (WL_val (rn_extract (v := (iV y150)) rfl rfl) rfl (WL_val (rn_extract (v := (.bool true)) rfl rfl) rfl ?_)); refine wr 2 rfl ?_; refine WL_nil ?_
          have hO : Owns G148 w153 w0.heap.size ([⟨3, 1, y152.length, .slice ay152 y152.length cy152, cly152⟩, ⟨50, 1, 1, .slice (some ⟨b36, 0, none⟩) 1 1, [.slice as112_0 ns112_0 cs112_0]⟩, ⟨4, 1, ns112_0, .slice as112_0 ns112_0 cs112_0, clas112_0⟩, ⟨183, 1, 1, .slice (some ⟨b24, 0, none⟩) 1 1, [.slice ay152 y152.length cy152]⟩, ⟨3, 1, nq96_0, .slice aq96_0 nq96_0 cq96_0, claq96_0⟩]) := hO
          cases H; refine ⟨_, rfl, ?_⟩
          have l5_9 := (leG87.trans l6_8).trans leG148
          exact ⟨_, G148, aq96_0, nq96_0, cq96_0, claq96_0, as112_0, ns112_0, cs112_0, clas112_0, ay152, y152.length, cy152, cly152, upds_self _ _ ⟨rfl, rfl, rfl, rfl, rfl, rfl, rfl, trivial⟩, l5_9, hS, hO, hnhq96_0, (hq96_0.mono RInt_mono leG148), hnhs112_0, hs112_0, rfl, hry152⟩
        ·rintro _ _ _ _ _ _ _ _ _ _ hI
         exact hI.elim
      ·have H := ifF hb88 H; refine WC_exit rfl ?_
       have hO : Owns G87 w86 w0.heap.size ([⟨3, 1, ns82_2, .slice as82_2 ns82_2 cs82_2, clas82_2⟩, ⟨50, 1, 1, .slice (some ⟨b36, 0, none⟩) 1 1, [.slice as82_1 ns82_1 cs82_1]⟩, ⟨4, 1, ns82_1, .slice as82_1 ns82_1 cs82_1, clas82_1⟩, ⟨183, 1, 1, .slice (some ⟨b24, 0, none⟩) 1 1, [.slice as82_2 ns82_2 cs82_2]⟩, ⟨3, 1, ns82_0, .slice as82_0 ns82_0 cs82_0, clas82_0⟩]) := hO
       cases H
       have hres := hqq84 _ rfl
       subst hres
       exact ⟨_, G87, as82_0, ns82_0, cs82_0, clas82_0, as82_1, ns82_1, cs82_1, clas82_1, as82_2, ns82_2, cs82_2, clas82_2, upds_self _ _ ⟨rfl, rfl, trivial⟩, leG87, hS, hO, hnhs82_0, hs82_0, hnhs82_1, hs82_1, hnhs82_2, hs82_2⟩
    ·rintro F w155 ⟨Fb, G156, aq84_0, nq84_0, cq84_0, claq84_0, aq84_1, nq84_1, cq84_1, claq84_1, aq84_2, nq84_2, cq84_2, claq84_2, rfl, leG156, hS, hO, hnhq84_0, hq84_0, hnhq84_1, hq84_1, hnhq84_2, hq84_2⟩
     refine WC_seq (WC_seq (WC_region ?_))
     have l1_6 := ((l1_3.trans leG73).trans leG81).trans leG156
     have l0_6 := ((l0_3.trans leG73).trans leG81).trans leG156
     refine WL_run tabH (cellsW (hS.sat.le l1_6) hcb4) 5 [_] rfl rfl (ao (h1.mono RInt_mono l0_6).1 an) (WL_nil ?_); obtain ⟨q159, hq159, H⟩ := bnd H; refine WC_cut (fun F w => ∃ (Fb : Fr) (G : Gm) (aq159_0 : Option Addr) (nq159_0 cq159_0 : Nat) (claq159_0 : List Value) (aq159_1 : Option Addr) (nq159_1 cq159_1 : Nat) (claq159_1 : List Value) (aq159_2 : Option Addr) (nq159_2 cq159_2 : Nat) (claq159_2 : List Value), F = upds Fb [(3, .slice aq159_0 nq159_0 cq159_0)] ∧ Gle G156 G ∧ Since w0.heap.size G0 w0 G w ∧ Owns G w w0.heap.size [⟨3, 1, nq159_2, .slice aq159_2 nq159_2 cq159_2, claq159_2⟩, ⟨50, 1, 1, .slice (some ⟨b36, 0, none⟩) 1 1, [.slice aq159_1 nq159_1 cq159_1]⟩, ⟨4, 1, nq159_1, .slice aq159_1 nq159_1 cq159_1, claq159_1⟩, ⟨183, 1, 1, .slice (some ⟨b24, 0, none⟩) 1 1, [.slice aq159_2 nq159_2 cq159_2]⟩, ⟨3, 1, nq159_0, .slice aq159_0 nq159_0 cq159_0, claq159_0⟩] ∧ nq159_0 = q159.1.length ∧ Rd RInt 1 G claq159_0 q159.1 ∧ nq159_1 = q159.2.1.length ∧ Rd RBool 1 G claq159_1 q159.2.1 ∧ nq159_2 = q159.2.2.all.length ∧ Rd RInt 1 G claq159_2 q159.2.2.all) ?_ ?_
     ·refine WC_block (WC_loop hq159 (fun s157 F w => ∃ (Fb : Fr) (G : Gm) (as157_0 : Option Addr) (ns157_0 cs157_0 : Nat) (clas157_0 : List Value) (as157_1 : Option Addr) (ns157_1 cs157_1 : Nat) (clas157_1 : List Value) (as157_2 : Option Addr) (ns157_2 cs157_2 : Nat) (clas157_2 : List Value), F = upds Fb [(3, .slice as157_0 ns157_0 cs157_0), (126, .slice a1 n1 c1), (127, iV (x0.BaneSea.Infested.length : Int)), (128, iV s157.2.1)] ∧ Gle G156 G ∧ Since w0.heap.size G0 w0 G w ∧ Owns G w w0.heap.size [⟨3, 1, ns157_2, .slice as157_2 ns157_2 cs157_2, clas157_2⟩, ⟨50, 1, 1, .slice (some ⟨b36, 0, none⟩) 1 1, [.slice as157_1 ns157_1 cs157_1]⟩, ⟨4, 1, ns157_1, .slice as157_1 ns157_1 cs157_1, clas157_1⟩, ⟨183, 1, 1, .slice (some ⟨b24, 0, none⟩) 1 1, [.slice as157_2 ns157_2 cs157_2]⟩, ⟨3, 1, ns157_0, .slice as157_0 ns157_0 cs157_0, clas157_0⟩] ∧ ns157_0 = s157.1.length ∧ Rd RInt 1 G clas157_0 s157.1 ∧ ns157_1 = s157.2.2.1.length ∧ Rd RBool 1 G clas157_1 s157.2.2.1 ∧ ns157_2 = s157.2.2.2.all.length ∧ Rd RInt 1 G clas157_2 s157.2.2.2.all) ?_ ?_)
      ·have hO : Owns G156 w155 w0.heap.size ([⟨3, 1, nq84_2, .slice aq84_2 nq84_2 cq84_2, claq84_2⟩, ⟨50, 1, 1, .slice (some ⟨b36, 0, none⟩) 1 1, [.slice aq84_1 nq84_1 cq84_1]⟩, ⟨4, 1, nq84_1, .slice aq84_1 nq84_1 cq84_1, claq84_1⟩, ⟨183, 1, 1, .slice (some ⟨b24, 0, none⟩) 1 1, [.slice aq84_2 nq84_2 cq84_2]⟩, ⟨3, 1, nq84_0, .slice aq84_0 nq84_0 cq84_0, claq84_0⟩]) := hO
       exact ⟨_, G156, aq84_0, nq84_0, cq84_0, claq84_0, aq84_1, nq84_1, cq84_1, claq84_1, aq84_2, nq84_2, cq84_2, claq84_2, upds_self _ _ ⟨rfl, rfl, rfl, rfl, trivial⟩, Gle.refl _, hS, hO, hnhq84_0, hq84_0, hnhq84_1, hq84_1, hnhq84_2, hq84_2⟩
      ·rintro s157 F w161 t160 ⟨Fb, G162, as157_0, ns157_0, cs157_0, clas157_0, as157_1, ns157_1, cs157_1, clas157_1, as157_2, ns157_2, cs157_2, clas157_2, rfl, leG162, hS, hO, hnhs157_0, hs157_0, hnhs157_1, hs157_1, hnhs157_2, hs157_2⟩
       intro H1 hqq159
       have Hoq159 := H; have H := H1
       unfold f40_b4 at H
       refine WC_seq (WC_region (WL_val (rn_lss rfl rfl) rfl (WL_nil (WC_seq (WC_cond rfl (fun hb163 => ?_) (fun hb163 => ?_))))))
       ·have H := ifT hb163 H; refine WC_skip (WC_seq (WC_block (WC_seq (WC_region ?_)))); obtain ⟨y164, hy164, H⟩ := bnd H
        have l0_7 := l0_6.trans leG162
        refine WL_idx sl24 (h1.mono RInt_mono l0_7) hy164 rfl rfl rfl ?_
        rintro b165 o165 _ hcb165 _ ⟨⟩
        refine WL_val (rn_load na3 rfl (hS.sat.cell (hcb165 0 _ rfl))) rfl (WL_val (rn_assign (v := (iV y164)) rfl) rfl (WL_nil (WC_region ?_))); refine wr 2 rfl ?_; obtain ⟨y166, hy166, H⟩ := bnd H; refine WL_idxO sl24 hO (k := 4) rfl hnhs157_0 hs157_0 hy166 rfl rfl rfl ?_
        rintro b167 ob167 _ hb167 _ hcb167 ⟨⟩
        obtain ⟨y168, hy168, H⟩ := bnd H; refine WL_op rfl (OpP_storeE (vs := [iV 0]) (cs := [iV y166]) (j := 0) (y := 0) sz3 hS hO (k := 4) rfl hnhs157_0 rfl hs157_0 hb167 rfl hcb167 hy168 rfl rfl rfl rfl rfl (one_all rfl) (Nat.le_of_ble_eq_true rfl) (fun w169 clw169 hS hO hrw169 => ?_))
        have hO : Owns G162 w169 w0.heap.size ([⟨3, 1, ns157_2, .slice as157_2 ns157_2 cs157_2, clas157_2⟩, ⟨50, 1, 1, .slice (some ⟨b36, 0, none⟩) 1 1, [.slice as157_1 ns157_1 cs157_1]⟩, ⟨4, 1, ns157_1, .slice as157_1 ns157_1 cs157_1, clas157_1⟩, ⟨183, 1, 1, .slice (some ⟨b24, 0, none⟩) 1 1, [.slice as157_2 ns157_2 cs157_2]⟩, ⟨3, 1, ns157_0, .slice as157_0 ns157_0 cs157_0, clw169⟩]) := hO
        refine WL_nil (WC_region ?_); refine wr 2 rfl ?_; refine WL_nil ?_
        have hO : Owns G162 w169 w0.heap.size ([⟨3, 1, ns157_2, .slice as157_2 ns157_2 cs157_2, clas157_2⟩, ⟨50, 1, 1, .slice (some ⟨b36, 0, none⟩) 1 1, [.slice as157_1 ns157_1 cs157_1]⟩, ⟨4, 1, ns157_1, .slice as157_1 ns157_1 cs157_1, clas157_1⟩, ⟨183, 1, 1, .slice (some ⟨b24, 0, none⟩) 1 1, [.slice as157_2 ns157_2 cs157_2]⟩, ⟨3, 1, ns157_0, .slice as157_0 ns157_0 cs157_0, clw169⟩]) := hO
        cases H; refine ⟨_, rfl, ?_⟩
        exact ⟨_, G162, as157_0, ns157_0, cs157_0, clw169, as157_1, ns157_1, cs157_1, clas157_1, as157_2, ns157_2, cs157_2, clas157_2, upds_self _ _ ⟨rfl, rfl, rfl, rfl, trivial⟩, leG162, hS, hO, (Eq.trans hnhs157_0 (setIx_len hy168)), hrw169, hnhs157_1, hs157_1, hnhs157_2, hs157_2⟩
       ·have H := ifF hb163 H; refine WC_exit rfl ?_
        have hO : Owns G162 w161 w0.heap.size ([⟨3, 1, ns157_2, .slice as157_2 ns157_2 cs157_2, clas157_2⟩, ⟨50, 1, 1, .slice (some ⟨b36, 0, none⟩) 1 1, [.slice as157_1 ns157_1 cs157_1]⟩, ⟨4, 1, ns157_1, .slice as157_1 ns157_1 cs157_1, clas157_1⟩, ⟨183, 1, 1, .slice (some ⟨b24, 0, none⟩) 1 1, [.slice as157_2 ns157_2 cs157_2]⟩, ⟨3, 1, ns157_0, .slice as157_0 ns157_0 cs157_0, clas157_0⟩]) := hO
        cases H
        have hres := hqq159 _ rfl
        subst hres
        exact ⟨_, G162, as157_0, ns157_0, cs157_0, clas157_0, as157_1, ns157_1, cs157_1, clas157_1, as157_2, ns157_2, cs157_2, clas157_2, upds_self _ _ ⟨rfl, trivial⟩, leG162, hS, hO, hnhs157_0, hs157_0, hnhs157_1, hs157_1, hnhs157_2, hs157_2⟩
     ·rintro F w170 ⟨Fb, G171, aq159_0, nq159_0, cq159_0, claq159_0, aq159_1, nq159_1, cq159_1, claq159_1, aq159_2, nq159_2, cq159_2, claq159_2, rfl, leG171, hS, hO, hnhq159_0, hq159_0, hnhq159_1, hq159_1, hnhq159_2, hq159_2⟩
      refine WC_seq (WC_region ?_); refine wr 2 rfl ?_; refine WL_nil (WC_ret ?_); obtain ⟨G172, leG172, hS, hO, hfG172⟩ := hO.freezeS hS RInt_mono (k := 4) rfl hq159_0 hnhq159_0
      have H : some q159.1 = some r := H
      cases H
      exact ⟨_, _, rfl, hS.toGrow, _, _, _, rfl, hfG172⟩
  ·rintro _ _ _ _ _ _ _ _ _ _ hI
   exact hI.elim
set_option maxHeartbeats 1000000 in
theorem f26_ok {G0 : Gm} {w0 : World} (hS0 : Sat G0 w0) {x0 : TSea} {a1 : Option Addr} {n1 c1 : Nat} {a2 : Option Addr} {n2 c2 : Nat} {a3 : Option Addr} {n3 c3 : Nat} (h1 : RSl RInt 1 G0 a1 n1 c1 x0.BaneSea.Infested) (h2 : RSl RInt 1 G0 a2 n2 c2 x0.BaneSea.Clean) (h3 : RSl RTBaneTrip 4 G0 a3 n3 c3 x0.BaneSea.Trips) {r : Bool} (H : f26 x0 = some r) :
  Calls Tryz.prog 26 #[.agg #[iV x0.BaneSea.Islets, .slice a1 n1 c1, .slice a2 n2 c2, .slice a3 n3 c3, iV x0.BaneSea.Wait, iV x0.shut]] w0 (RetV w0 (.bool r)) := by
 have hS := Since.start hS0
 have hO := own0 G0 w0
 unfold f26 at H
 refine enter1 (N := 12) (shutV _ _) Tryz.func26 rfl rfl rfl rfl (WC_seq (WC_region (WL_op rfl (OpP_newF (v := fun b => pV b) (cs := [iV x0.BaneSea.Islets, .slice a1 n1 c1, .slice a2 n2 c2, .slice a3 n3 c3, iV x0.BaneSea.Wait, iV x0.shut]) (e := 85) (rn_boxA rfl) hS.sat rfl (fun b4 G6 w5 hg hcb4 => ?_))))); have hS := hS.grow hg; have hO := hO.grow hg
 have leG6 := hg.le
 refine WL_val (rn_assign (v := (.bool false)) rfl) rfl (WL_nil (WC_seq (WC_region (WL_val (rn_loadA ag85 (cs := [iV x0.BaneSea.Islets, .slice a1 n1 c1, .slice a2 n2 c2, .slice a3 n3 c3, iV x0.BaneSea.Wait, iV x0.shut]) rfl rfl (fun j v hj => hS.sat.cell (hcb4.drop_take 0 6 j v hj))) rfl ?_)))); obtain ⟨y7, hy7, H⟩ := bnd H; refine WL_op rfl (OpP_callG cb40 (f40_ok (x0 := x0) hS.sat (h1.mono RInt_mono leG6) (h2.mono RInt_mono leG6) (h3.mono RTBaneTrip_mono leG6) hy7) rfl rfl (fun vy7 G9 w8 hg hvy7 => ?_)); obtain ⟨a10, n10, c10, ⟨⟩, h10⟩ := hvy7; have hS := hS.grow hg; have hO := hO.grow hg
 have leG9 := hg.le
 refine WL_op rfl (OpP_newO (v := fun b => pV b) (cs := [.slice none 0 0]) (e := 24) (by kernel_rfl) hS.sat hO rfl 1 1 rfl (by decide) (fun b11 w12 hb hO => ?_))
 have hS := hS.keep hb; refine WL_op rfl (OpP_store (vs := [.slice a10 n10 c10]) sz24 hS hO (k := 0) rfl rfl rfl rfl rfl (one_all rfl) (Nat.le_of_ble_eq_true rfl) (fun w14 hS hO => ?_))
 have hO : Owns G9 w14 w0.heap.size ([⟨24, 1, 1, .slice (some ⟨b11, 0, none⟩) 1 1, [.slice a10 n10 c10]⟩]) := hO
 obtain ⟨G15, leG15, hS, hO, hqG15, _⟩ := hO.freeze hS (k := 0) rfl
 have hcG15 : Cells G15 b11 0 [.slice a10 n10 c10] := (hqG15 _ _ _ _ rfl)
 refine WL_nil (WC_seq (WC_region ?_))
 have l1_3 := leG9.trans leG15
 refine WL_run tabH (cellsW (hS.sat.le l1_3) hcb4) 3 [] rfl rfl an ?_
 have hF16 : FnOk86 G15 86 [] [pV b11] (fun (z0 : Int) => f86 z0 y7) := ⟨cb86, fun G1 W1 hl hw z0 r1 H1 => f86_ok (x0 := z0) (x1 := y7) hw (hcG15.mono hl) ((h10.mono RInt_mono leG15).mono RInt_mono hl) H1⟩
 refine WL_val (rn_func (vs := []) (us := [pV b11]) rfl rfl) rfl ?_; obtain ⟨y17, hy17, H⟩ := bnd H
 have l0_3 := leG6.trans l1_3
 refine WL_op rfl (OpP_callV cb85 (f85_ok (x0 := x0.BaneSea.Clean) (x1 := (fun (z0 : Int) => f86 z0 y7)) hS.sat (h2.mono RInt_mono l0_3) hF16 hy17) rfl rfl (fun w18 hb => ?_)); have hS := hS.keep hb; have hO := hO.below hb; refine wr 2 rfl ?_; refine WL_nil (WC_ret ?_)
 have H : some (!y17) = some r := H
 cases H
 exact ⟨rfl, hS.below⟩
set_option maxHeartbeats 1000000 in
theorem f25_ok {G0 : Gm} {w0 : World} (hS0 : Sat G0 w0) {x0 : Int} {x1 : TBaneSea} {bq1 : Nat} {a1 : Option Addr} {n1 c1 : Nat} {a2 : Option Addr} {n2 c2 : Nat} {a3 : Option Addr} {n3 c3 : Nat} (hcq1 : Cells G0 bq1 0 [iV x1.Islets, .slice a1 n1 c1, .slice a2 n2 c2, .slice a3 n3 c3, iV x1.Wait]) (h1 : RSl RInt 1 G0 a1 n1 c1 x1.Infested) (h2 : RSl RInt 1 G0 a2 n2 c2 x1.Clean) (h3 : RSl RTBaneTrip 4 G0 a3 n3 c3 x1.Trips) {r : Bool} (H : f25 x0 x1 = some r) :
  Calls Tryz.prog 25 #[iV x0, pV bq1] w0 (RetV w0 (.bool r)) := by
 have hS := Since.start hS0
 have hO := own0 G0 w0
 unfold f25 at H
 refine enter1 (N := 8) (shutV _ _) Tryz.func25 rfl rfl rfl rfl (WC_seq (WC_region (WL_val (rn_assign (v := (.bool false)) rfl) rfl (WL_nil (WC_seq (WC_region (WL_val (rn_loadA ag38 (cs := [iV x1.Islets, .slice a1 n1 c1, .slice a2 n2 c2, .slice a3 n3 c3, iV x1.Wait]) rfl rfl (fun j v hj => hS.sat.cell (hcq1.drop_take 0 5 j v hj))) rfl (WL_val (rn_move (v := (iV x0)) rfl) rfl ?_))))))))
 refine WL_val (v := (.agg #[iV x1.Islets, .slice a1 n1 c1, .slice a2 n2 c2, .slice a3 n3 c3, iV x1.Wait, iV x0])) (by kernel_rfl) rfl ?_
 obtain ⟨y4, hy4, H⟩ := bnd H; refine WL_op rfl (OpP_callV cb26 (f26_ok (x0 := (⟨x1, x0⟩ : TSea)) hS.sat h1 h2 h3 hy4) rfl rfl (fun w5 hb => ?_)); have hS := hS.keep hb; have hO := hO.below hb; refine WL_val (rn_assign (v := (.bool y4)) rfl) rfl (WL_nil (WC_ret ?_))
 have H : some y4 = some r := H
 cases H
 exact ⟨rfl, hS.below⟩
set_option maxHeartbeats 1000000 in
theorem f39_ok {G0 : Gm} {w0 : World} (hS0 : Sat G0 w0) {x0 : TBaneSea} {a1 : Option Addr} {n1 c1 : Nat} {a2 : Option Addr} {n2 c2 : Nat} {a3 : Option Addr} {n3 c3 : Nat} {x1 : (List Int)} {a4 : Option Addr} {n4 c4 : Nat} (h1 : RSl RInt 1 G0 a1 n1 c1 x0.Infested) (h2 : RSl RInt 1 G0 a2 n2 c2 x0.Clean) (h3 : RSl RTBaneTrip 4 G0 a3 n3 c3 x0.Trips) (h4 : RSl RInt 1 G0 a4 n4 c4 x1) {r : TSea × Bool} (H : f39 x0 x1 = some r) :
  Calls Tryz.prog 39 #[.agg #[iV x0.Islets, .slice a1 n1 c1, .slice a2 n2 c2, .slice a3 n3 c3, iV x0.Wait], .slice a4 n4 c4] w0 (RetG G0 w0 (fun G v => ∃ (ra0 : Option Addr) (rn0 rc0 : Nat) (ra1 : Option Addr) (rn1 rc1 : Nat) (ra2 : Option Addr) (rn2 rc2 : Nat), v = .tuple #[.agg #[iV r.1.BaneSea.Islets, .slice ra0 rn0 rc0, .slice ra1 rn1 rc1, .slice ra2 rn2 rc2, iV r.1.BaneSea.Wait, iV r.1.shut], .bool r.2] ∧ RSl RInt 1 G ra0 rn0 rc0 r.1.BaneSea.Infested ∧ RSl RInt 1 G ra1 rn1 rc1 r.1.BaneSea.Clean ∧ RSl RTBaneTrip 4 G ra2 rn2 rc2 r.1.BaneSea.Trips)) := by
 have hS := Since.start hS0
 have hO := own0 G0 w0
 unfold f39 at H
 refine enterG (N := 22) (shutG _ _ _) [.cell 4 85, .tmp 5] Tryz.func39 rfl rfl rfl rfl ?_; refine WC_seq (WC_region (WL_op rfl (OpP_newF (v := fun b => pV b) (cs := [iV x0.Islets, .slice a1 n1 c1, .slice a2 n2 c2, .slice a3 n3 c3, iV x0.Wait]) (e := 38) (rn_boxA rfl) hS.sat rfl (fun b5 G7 w6 hg hcb5 => ?_)))); have hS := hS.grow hg; have hO := hO.grow hg
 have leG7 := hg.le
 refine WL_op rfl (OpP_newO (v := fun b => pV b) (cs := [iV 0, .slice none 0 0, .slice none 0 0, .slice none 0 0, iV 0, iV 0]) (e := 85) (by kernel_rfl) hS.sat hO rfl 6 1 rfl (by decide) (fun b8 w9 hb hO => ?_))
 have hS := hS.keep hb; refine WL_val (rn_assign (v := (.bool false)) rfl) rfl (WL_nil (WC_seq (WC_seq ?_))); obtain ⟨q11, hq11, H⟩ := bnd H; refine WC_cut (fun F w => ∃ (Fb : Fr) (G : Gm), F = upds Fb [(1, .slice a4 n4 c4), (2, pV b5), (4, pV b8), (16, .bool q11)] ∧ Gle G7 G ∧ Since w0.heap.size G0 w0 G w ∧ Owns G w w0.heap.size [⟨85, 6, 1, .slice (some ⟨b8, 0, none⟩) 1 1, [iV 0, .slice none 0 0, .slice none 0 0, .slice none 0 0, iV 0, iV 0]⟩]) ?_ ?_
 ·have Hoq11 := H; have H := hq11; refine WC_region (WL_val (rn_loadA ag38 (cs := [iV x0.Islets, .slice a1 n1 c1, .slice a2 n2 c2, .slice a3 n3 c3, iV x0.Wait]) rfl rfl (fun j v hj => hS.sat.cell (hcb5.drop_take 0 5 j v hj))) rfl ?_); obtain ⟨y12, hy12, H⟩ := bnd H; refine WL_op rfl (OpP_callV cb22 (f22_ok (x0 := x0) hS.sat (h1.mono RInt_mono leG7) (h2.mono RInt_mono leG7) (h3.mono RTBaneTrip_mono leG7) hy12) rfl rfl (fun w13 hb => ?_)); have hS := hS.keep hb; have hO := hO.below hb; refine wr 2 rfl ?_
  rcases bcases (!y12) with hb14 | hb14
  ·have H := ifT hb14 H; refine wk hb14 7 rfl rfl ?_; refine WL_nil ?_
   have hO : Owns G7 w13 w0.heap.size ([⟨85, 6, 1, .slice (some ⟨b8, 0, none⟩) 1 1, [iV 0, .slice none 0 0, .slice none 0 0, .slice none 0 0, iV 0, iV 0]⟩]) := hO
   cases H
   exact ⟨_, G7, upds_self _ _ ⟨rfl, rfl, rfl, rfl, trivial⟩, Gle.refl _, hS, hO⟩
  ·have H := ifF hb14 H; refine WL_runK tabH (cellsW hS.sat hcb5) (kb hb14) 4 [_] rfl rfl (ao (h3.mono RTBaneTrip_mono leG7).1 an) (WL_guardY rfl hb14 rfl rfl ?_); obtain ⟨y15, hy15, H⟩ := bnd H; refine WL_op rfl (OpP_callV cb80 (f80_ok (x0 := x1) (x1 := (x0.Trips.length : Int)) hS.sat (h4.mono RInt_mono leG7) hy15) rfl rfl (fun w16 hb => ?_)); have hS := hS.keep hb; have hO := hO.below hb; refine wk hb14 2 rfl rfl ?_; refine WL_nil ?_
   have hO : Owns G7 w16 w0.heap.size ([⟨85, 6, 1, .slice (some ⟨b8, 0, none⟩) 1 1, [iV 0, .slice none 0 0, .slice none 0 0, .slice none 0 0, iV 0, iV 0]⟩]) := hO
   cases H
   exact ⟨_, G7, upds_self _ _ ⟨rfl, rfl, rfl, rfl, trivial⟩, Gle.refl _, hS, hO⟩
 ·rintro F w17 ⟨Fb, G18, rfl, leG18, hS, hO⟩
  refine WC_cond rfl (fun hb19 => ?_) (fun hb19 => ?_)
  ·have H := ifT hb19 H; refine WC_seq (WC_region ?_)
   refine WL_val (v := (.agg #[iV 0, .slice none 0 0, .slice none 0 0, .slice none 0 0, iV 0, iV 0])) (by kernel_rfl) rfl ?_
   refine WL_op rfl (OpP_store (vs := [iV 0, .slice none 0 0, .slice none 0 0, .slice none 0 0, iV 0, iV 0]) sz85 hS hO (k := 0) rfl rfl rfl rfl rfl (one_all rfl) (Nat.le_of_ble_eq_true rfl) (fun w20 hS hO => ?_))
   have hO : Owns G18 w20 w0.heap.size ([⟨85, 6, 1, .slice (some ⟨b8, 0, none⟩) 1 1, [iV 0, .slice none 0 0, .slice none 0 0, .slice none 0 0, iV 0, iV 0]⟩]) := hO
   refine WL_val (rn_assign (v := (.bool false)) rfl) rfl (WL_nil (WC_ret ?_))
   have H : some ((⟨(⟨0, [], [], [], 0⟩ : TBaneSea), 0⟩ : TSea), false) = some r := H
   cases H
   exact ⟨[.agg #[iV 0, .slice none 0 0, .slice none 0 0, .slice none 0 0, iV 0, iV 0], .bool false], ⟨⟨_, rfl, ld_agg (cs := [iV 0, .slice none 0 0, .slice none 0 0, .slice none 0 0, iV 0, iV 0]) ag85 rfl (fun j v hj => own_sub hO (k := 0) rfl 0 6 j v hj)⟩, rfl, trivial⟩, ⟨_, _, rfl, hS.toGrow, _, _, _, _, _, _, _, _, _, rfl, (RSl.nil RInt 1 G18 none), (RSl.nil RInt 1 G18 none), (RSl.nil RTBaneTrip 4 G18 none)⟩⟩
  ·have H := ifF hb19 H; refine WC_skip (WC_seq ?_); have hS := hS.keep (below_drew _); have hO := hO.below (below_drew _)
   refine WC_regionD mixedO (fun _ w => Sat G18 w ∧ Owns G18 w w0.heap.size [⟨85, 6, 1, .slice (some ⟨b8, 0, none⟩) 1 1, [iV 0, .slice none 0 0, .slice none 0 0, .slice none 0 0, iV 0, iV 0]⟩]) (.fl 0 (.on 1 (.on 2 (.on 3 (.on 4 (.on 5 .nil)))))) (by kernel_rfl) rfl (by kernel_rfl) (fun _ => ⟨hS.sat, hO⟩) ?_
   refine WD_val rfl (fun w hw => rn_loadA ag38 (cs := [iV x0.Islets, .slice a1 n1 c1, .slice a2 n2 c2, .slice a3 n3 c3, iV x0.Wait]) rfl rfl (fun j v hj => (hw.1.le leG18).cell (hcb5.drop_take 0 5 j v hj))) rfl (WD_op rfl rfl (OpP_val (rn_move (v := (.slice a4 n4 c4)) rfl) rfl ?_)); refine ⟨fun _ _ => ⟨hS.sat, hO⟩, ?_⟩; obtain ⟨y21, hy21, H⟩ := bnd H
   have l0_2 := leG7.trans leG18
   refine WD_op rfl rfl (OpP_callV cb99 (f99_ok (x0 := x1) hS.sat (h4.mono RInt_mono l0_2) hy21) rfl rfl (fun w22 hb => ?_)); have hS := hS.keep hb; have hO := hO.below hb; refine ⟨fun _ _ => ⟨hS.sat, hO⟩, ?_⟩
   refine WD_op rfl rfl (OpP_val (v := (.agg #[iV x0.Islets, .slice a1 n1 c1, .slice a2 n2 c2, .slice a3 n3 c3, iV x0.Wait, iV y21])) (by kernel_rfl) rfl ?_)
   refine ⟨fun _ h => noneed (by kernel_rfl) h, ?_⟩
   refine WD_op rfl rfl (OpP_store (vs := [iV x0.Islets, .slice a1 n1 c1, .slice a2 n2 c2, .slice a3 n3 c3, iV x0.Wait, iV y21]) sz85 hS hO (k := 0) rfl rfl rfl rfl rfl (one_all rfl) (Nat.le_of_ble_eq_true rfl) (fun w23 hS hO => ?_))
   have hO : Owns G18 w23 w0.heap.size ([⟨85, 6, 1, .slice (some ⟨b8, 0, none⟩) 1 1, [iV x0.Islets, .slice a1 n1 c1, .slice a2 n2 c2, .slice a3 n3 c3, iV x0.Wait, iV y21]⟩]) := hO
   refine ⟨fun _ h => noneed (by kernel_rfl) h, ?_⟩
   refine WD_op rfl rfl (OpP_val (rn_assign (v := (.bool true)) rfl) rfl ?_)
   refine ⟨fun _ h => noneed (by kernel_rfl) h, ?_⟩
   refine WD_nil (WC_ret ?_)
   have H : some ((⟨x0, y21⟩ : TSea), true) = some r := H
   cases H
   exact ⟨[.agg #[iV x0.Islets, .slice a1 n1 c1, .slice a2 n2 c2, .slice a3 n3 c3, iV x0.Wait, iV y21], .bool true], ⟨⟨_, rfl, ld_agg (cs := [iV x0.Islets, .slice a1 n1 c1, .slice a2 n2 c2, .slice a3 n3 c3, iV x0.Wait, iV y21]) ag85 rfl (fun j v hj => own_sub hO (k := 0) rfl 0 6 j v hj)⟩, rfl, trivial⟩, ⟨_, _, rfl, hS.toGrow, _, _, _, _, _, _, _, _, _, rfl, (h1.mono RInt_mono l0_2), (h2.mono RInt_mono l0_2), (h3.mono RTBaneTrip_mono l0_2)⟩⟩
set_option maxHeartbeats 1000000 in
theorem f38_ok {G0 : Gm} {w0 : World} (hS0 : Sat G0 w0) {x0 : TBaneSea} {a1 : Option Addr} {n1 c1 : Nat} {a2 : Option Addr} {n2 c2 : Nat} {a3 : Option Addr} {n3 c3 : Nat} {x1 : (List Int)} {a4 : Option Addr} {n4 c4 : Nat} (h1 : RSl RInt 1 G0 a1 n1 c1 x0.Infested) (h2 : RSl RInt 1 G0 a2 n2 c2 x0.Clean) (h3 : RSl RTBaneTrip 4 G0 a3 n3 c3 x0.Trips) (h4 : RSl RInt 1 G0 a4 n4 c4 x1) {r : (List Int) × Int} (H : f38 x0 x1 = some r) :
  Calls Tryz.prog 38 #[.agg #[iV x0.Islets, .slice a1 n1 c1, .slice a2 n2 c2, .slice a3 n3 c3, iV x0.Wait], .slice a4 n4 c4] w0 (RetG G0 w0 (fun G v => ∃ (ra0 : Option Addr) (rn0 rc0 : Nat), v = .tuple #[.slice ra0 rn0 rc0, iV r.2] ∧ RSl RInt 1 G ra0 rn0 rc0 r.1)) := by
 have hS := Since.start hS0
 have hO := own0 G0 w0
 unfold f38 at H
 refine enter2 (N := 18) (shutG _ _ _) Tryz.func38 rfl rfl rfl rfl ?_; refine WC_seq (WC_region (WL_op rfl (OpP_newF (v := fun b => pV b) (cs := [iV x0.Islets, .slice a1 n1 c1, .slice a2 n2 c2, .slice a3 n3 c3, iV x0.Wait]) (e := 38) (rn_boxA rfl) hS.sat rfl (fun b5 G7 w6 hg hcb5 => ?_)))); have hS := hS.grow hg; have hO := hO.grow hg
 have leG7 := hg.le
 refine wr 2 rfl ?_; refine WL_nil (WC_seq (WC_region (WL_val (rn_loadA ag38 (cs := [iV x0.Islets, .slice a1 n1 c1, .slice a2 n2 c2, .slice a3 n3 c3, iV x0.Wait]) rfl rfl (fun j v hj => hS.sat.cell (hcb5.drop_take 0 5 j v hj))) rfl (WL_val (rn_move (v := (.slice a4 n4 c4)) rfl) rfl ?_)))); obtain ⟨y8, hy8, H⟩ := bnd H; refine WL_op rfl (OpP_callG cb39 (f39_ok (x0 := x0) (x1 := x1) hS.sat (h1.mono RInt_mono leG7) (h2.mono RInt_mono leG7) (h3.mono RTBaneTrip_mono leG7) (h4.mono RInt_mono leG7) hy8) rfl rfl (fun vy8 G10 w9 hg hvy8 => ?_)); obtain ⟨a11, n11, c11, a12, n12, c12, a13, n13, c13, ⟨⟩, h11, h12, h13⟩ := hvy8; have hS := hS.grow hg; have hO := hO.grow hg
 have leG10 := hg.le
 refine WL_val (rn_move (v := (.tuple #[.agg #[iV y8.1.BaneSea.Islets, .slice a11 n11 c11, .slice a12 n12 c12, .slice a13 n13 c13, iV y8.1.BaneSea.Wait, iV y8.1.shut], .bool y8.2])) rfl) rfl (WL_val (rn_extract (v := (.agg #[iV y8.1.BaneSea.Islets, .slice a11 n11 c11, .slice a12 n12 c12, .slice a13 n13 c13, iV y8.1.BaneSea.Wait, iV y8.1.shut])) rfl rfl) rfl (WL_val (rn_extract (v := (.bool y8.2)) rfl rfl) rfl ?_))
 refine WL_op rfl (OpP_newO (v := fun b => pV b) (cs := [iV 0, .slice none 0 0, .slice none 0 0, .slice none 0 0, iV 0, iV 0]) (e := 85) (by kernel_rfl) hS.sat hO rfl 6 1 rfl (by decide) (fun b14 w15 hb hO => ?_))
 have hS := hS.keep hb; refine WL_op rfl (OpP_store (vs := [iV y8.1.BaneSea.Islets, .slice a11 n11 c11, .slice a12 n12 c12, .slice a13 n13 c13, iV y8.1.BaneSea.Wait, iV y8.1.shut]) sz85 hS hO (k := 0) rfl rfl rfl rfl rfl (one_all rfl) (Nat.le_of_ble_eq_true rfl) (fun w17 hS hO => ?_))
 have hO : Owns G10 w17 w0.heap.size ([⟨85, 6, 1, .slice (some ⟨b14, 0, none⟩) 1 1, [iV y8.1.BaneSea.Islets, .slice a11 n11 c11, .slice a12 n12 c12, .slice a13 n13 c13, iV y8.1.BaneSea.Wait, iV y8.1.shut]⟩]) := hO
 obtain ⟨G18, leG18, hS, hO, hqG18, _⟩ := hO.freeze hS (k := 0) rfl
 have hcG18 : Cells G18 b14 0 [iV y8.1.BaneSea.Islets, .slice a11 n11 c11, .slice a12 n12 c12, .slice a13 n13 c13, iV y8.1.BaneSea.Wait, iV y8.1.shut] := (hqG18 _ _ _ _ rfl)
 refine WL_val (rn_assign (v := (.bool y8.2)) rfl) rfl (WL_nil (WC_seq (WC_seq (WC_region ?_)))); refine wr 2 rfl ?_; refine WL_nil (WC_cond rfl (fun hb19 => ?_) (fun hb19 => ?_))
 ·have H := ifT hb19 H; refine WC_seq (WC_region ?_); refine wr 2 rfl ?_; refine WL_nil (WC_ret ?_)
  have H : some ([], 2) = some r := H
  cases H
  exact ⟨_, _, rfl, hS.toGrow, _, _, _, rfl, (RSl.nil RInt 1 G18 none)⟩
 ·have H := ifF hb19 H; refine WC_skip (WC_seq (WC_region (WL_val (rn_loadA ag85 (cs := [iV y8.1.BaneSea.Islets, .slice a11 n11 c11, .slice a12 n12 c12, .slice a13 n13 c13, iV y8.1.BaneSea.Wait, iV y8.1.shut]) rfl rfl (fun j v hj => hS.sat.cell (hcG18.drop_take 0 6 j v hj))) rfl ?_))); obtain ⟨y20, hy20, H⟩ := bnd H; refine WL_op rfl (OpP_callG cb40 (f40_ok (x0 := y8.1) hS.sat (h11.mono RInt_mono leG18) (h12.mono RInt_mono leG18) (h13.mono RTBaneTrip_mono leG18) hy20) rfl rfl (fun vy20 G22 w21 hg hvy20 => ?_)); obtain ⟨a23, n23, c23, ⟨⟩, h23⟩ := hvy20; have hS := hS.grow hg; have hO := hO.grow hg
  have leG22 := hg.le
  refine wr 2 rfl ?_; refine WL_nil (WC_ret ?_)
  have H : some (y20, 0) = some r := H
  cases H
  exact ⟨_, _, rfl, hS.toGrow, _, _, _, rfl, h23⟩
set_option maxHeartbeats 1000000 in
theorem f10_ok {G0 : Gm} {w0 : World} (hS0 : Sat G0 w0) {x0 : TBaneSea} {a1 : Option Addr} {n1 c1 : Nat} {a2 : Option Addr} {n2 c2 : Nat} {a3 : Option Addr} {n3 c3 : Nat} {x1 : (List Int)} {a4 : Option Addr} {n4 c4 : Nat} {x2 : (List Bool)} {a5 : Option Addr} {n5 c5 : Nat} (h1 : RSl RInt 1 G0 a1 n1 c1 x0.Infested) (h2 : RSl RInt 1 G0 a2 n2 c2 x0.Clean) (h3 : RSl RTBaneTrip 4 G0 a3 n3 c3 x0.Trips) (h4 : RSl RInt 1 G0 a4 n4 c4 x1) (h5 : RSl RBool 1 G0 a5 n5 c5 x2) {r : (List Int) × Int} (H : f10 x0 x1 x2 = some r) :
  Calls Tryz.prog 10 #[.agg #[iV x0.Islets, .slice a1 n1 c1, .slice a2 n2 c2, .slice a3 n3 c3, iV x0.Wait], .slice a4 n4 c4, .slice a5 n5 c5] w0 (RetG G0 w0 (fun G v => ∃ (ra0 : Option Addr) (rn0 rc0 : Nat), v = .tuple #[.slice ra0 rn0 rc0, iV r.2] ∧ RSl RInt 1 G ra0 rn0 rc0 r.1)) := by
 have hS := Since.start hS0
 have hO := own0 G0 w0
 unfold f10 at H
 refine enter2 (N := 46) (shutG _ _ _) Tryz.func10 rfl rfl rfl rfl ?_; refine WC_seq (WC_region (WL_op rfl (OpP_newF (v := fun b => pV b) (cs := [iV x0.Islets, .slice a1 n1 c1, .slice a2 n2 c2, .slice a3 n3 c3, iV x0.Wait]) (e := 38) (rn_boxA rfl) hS.sat rfl (fun b6 G8 w7 hg hcb6 => ?_)))); have hS := hS.grow hg; have hO := hO.grow hg
 have leG8 := hg.le
 refine wr 2 rfl ?_; refine WL_nil (WC_seq (WC_region (WL_val (rn_loadA ag38 (cs := [iV x0.Islets, .slice a1 n1 c1, .slice a2 n2 c2, .slice a3 n3 c3, iV x0.Wait]) rfl rfl (fun j v hj => hS.sat.cell (hcb6.drop_take 0 5 j v hj))) rfl (WL_val (rn_move (v := (.slice a4 n4 c4)) rfl) rfl ?_)))); obtain ⟨y9, hy9, H⟩ := bnd H; refine WL_op rfl (OpP_callG cb39 (f39_ok (x0 := x0) (x1 := x1) hS.sat (h1.mono RInt_mono leG8) (h2.mono RInt_mono leG8) (h3.mono RTBaneTrip_mono leG8) (h4.mono RInt_mono leG8) hy9) rfl rfl (fun vy9 G11 w10 hg hvy9 => ?_)); obtain ⟨a12, n12, c12, a13, n13, c13, a14, n14, c14, ⟨⟩, h12, h13, h14⟩ := hvy9; have hS := hS.grow hg; have hO := hO.grow hg
 have leG11 := hg.le
 refine WL_val (rn_move (v := (.tuple #[.agg #[iV y9.1.BaneSea.Islets, .slice a12 n12 c12, .slice a13 n13 c13, .slice a14 n14 c14, iV y9.1.BaneSea.Wait, iV y9.1.shut], .bool y9.2])) rfl) rfl (WL_val (rn_extract (v := (.agg #[iV y9.1.BaneSea.Islets, .slice a12 n12 c12, .slice a13 n13 c13, .slice a14 n14 c14, iV y9.1.BaneSea.Wait, iV y9.1.shut])) rfl rfl) rfl (WL_val (rn_extract (v := (.bool y9.2)) rfl rfl) rfl ?_))
 refine WL_op rfl (OpP_newO (v := fun b => pV b) (cs := [iV 0, .slice none 0 0, .slice none 0 0, .slice none 0 0, iV 0, iV 0]) (e := 85) (by kernel_rfl) hS.sat hO rfl 6 1 rfl (by decide) (fun b15 w16 hb hO => ?_))
 have hS := hS.keep hb; refine WL_op rfl (OpP_store (vs := [iV y9.1.BaneSea.Islets, .slice a12 n12 c12, .slice a13 n13 c13, .slice a14 n14 c14, iV y9.1.BaneSea.Wait, iV y9.1.shut]) sz85 hS hO (k := 0) rfl rfl rfl rfl rfl (one_all rfl) (Nat.le_of_ble_eq_true rfl) (fun w18 hS hO => ?_))
 have hO : Owns G11 w18 w0.heap.size ([⟨85, 6, 1, .slice (some ⟨b15, 0, none⟩) 1 1, [iV y9.1.BaneSea.Islets, .slice a12 n12 c12, .slice a13 n13 c13, .slice a14 n14 c14, iV y9.1.BaneSea.Wait, iV y9.1.shut]⟩]) := hO
 refine WL_val (rn_assign (v := (.bool y9.2)) rfl) rfl (WL_nil (WC_seq (WC_seq ?_))); obtain ⟨q19, hq19, H⟩ := bnd H; refine WC_cut (fun F w => ∃ (Fb : Fr), F = upds Fb [(2, .slice a5 n5 c5), (8, pV b15), (27, .bool q19)] ∧ w18 = w) ?_ ?_
 ·have Hoq19 := H; have H := hq19; refine WC_region ?_; refine wr 3 rfl ?_
  rcases bcases (!y9.2) with hb20 | hb20
  ·have H := ifT hb20 H; refine wk hb20 7 rfl rfl ?_; refine WL_nil ?_; cases H
   exact ⟨_, upds_self _ _ ⟨rfl, rfl, rfl, trivial⟩, rfl⟩
  ·have H := ifF hb20 H
   have l0_2 := leG8.trans leG11
   refine WL_runK tabH (cellsW (hS.sat.le leG11) hcb6) (kb hb20) 7 [_, _] rfl rfl (ao (h3.mono RTBaneTrip_mono l0_2).1 (ao (h5.mono RBool_mono l0_2).1 an)) (WL_nil ?_); cases H
   exact ⟨_, upds_self _ _ ⟨rfl, rfl, rfl, trivial⟩, rfl⟩
 ·rintro F wl ⟨Fb, rfl, rfl⟩
  refine WC_cond rfl (fun hb23 => ?_) (fun hb23 => ?_)
  ·have H := ifT hb23 H; refine WC_seq (WC_region ?_); refine wr 2 rfl ?_; refine WL_nil (WC_ret ?_)
   have H : some ([], 2) = some r := H
   cases H
   exact ⟨_, _, rfl, hS.toGrow, _, _, _, rfl, (RSl.nil RInt 1 G11 none)⟩
  ·have H := ifF hb23 H; refine WC_skip (WC_seq (WC_seq (WC_region ?_)))
   have l0_2 := leG8.trans leG11
   refine WL_run tabH (cells0 _) 3 [_] rfl rfl (ao (h5.mono RBool_mono l0_2).1 an) (WL_nil ?_); obtain ⟨q26, hq26, H⟩ := bnd H; refine WC_cut (fun F w => ∃ (Fb : Fr) (G : Gm) (aq26_0 : Option Addr) (nq26_0 cq26_0 : Nat) (aq26_1 : Option Addr) (nq26_1 cq26_1 : Nat) (aq26_2 : Option Addr) (nq26_2 cq26_2 : Nat), F = upds Fb [(8, pV b15)] ∧ Gle G11 G ∧ Since w0.heap.size G0 w0 G w ∧ Owns G w w0.heap.size [⟨85, 6, 1, .slice (some ⟨b15, 0, none⟩) 1 1, [iV q26.BaneSea.Islets, .slice aq26_0 nq26_0 cq26_0, .slice aq26_1 nq26_1 cq26_1, .slice aq26_2 nq26_2 cq26_2, iV q26.BaneSea.Wait, iV q26.shut]⟩] ∧ RSl RInt 1 G aq26_0 nq26_0 cq26_0 q26.BaneSea.Infested ∧ RSl RInt 1 G aq26_1 nq26_1 cq26_1 q26.BaneSea.Clean ∧ RSl RTBaneTrip 4 G aq26_2 nq26_2 cq26_2 q26.BaneSea.Trips) ?_ ?_
   ·refine WC_block (WC_loop hq26 (fun s24 F w => ∃ (Fb : Fr) (G : Gm) (as24_0 : Option Addr) (ns24_0 cs24_0 : Nat) (as24_1 : Option Addr) (ns24_1 cs24_1 : Nat) (as24_2 : Option Addr) (ns24_2 cs24_2 : Nat), F = upds Fb [(8, pV b15), (28, .slice a5 n5 c5), (29, iV (x2.length : Int)), (30, iV s24.1)] ∧ Gle G11 G ∧ Since w0.heap.size G0 w0 G w ∧ Owns G w w0.heap.size [⟨85, 6, 1, .slice (some ⟨b15, 0, none⟩) 1 1, [iV s24.2.BaneSea.Islets, .slice as24_0 ns24_0 cs24_0, .slice as24_1 ns24_1 cs24_1, .slice as24_2 ns24_2 cs24_2, iV s24.2.BaneSea.Wait, iV s24.2.shut]⟩] ∧ RSl RInt 1 G as24_0 ns24_0 cs24_0 s24.2.BaneSea.Infested ∧ RSl RInt 1 G as24_1 ns24_1 cs24_1 s24.2.BaneSea.Clean ∧ RSl RTBaneTrip 4 G as24_2 ns24_2 cs24_2 s24.2.BaneSea.Trips) ?_ ?_)
    ·have hO : Owns G11 w18 w0.heap.size ([⟨85, 6, 1, .slice (some ⟨b15, 0, none⟩) 1 1, [iV y9.1.BaneSea.Islets, .slice a12 n12 c12, .slice a13 n13 c13, .slice a14 n14 c14, iV y9.1.BaneSea.Wait, iV y9.1.shut]⟩]) := hO
     exact ⟨_, G11, a12, n12, c12, a13, n13, c13, a14, n14, c14, upds_self _ _ ⟨rfl, rfl, rfl, rfl, trivial⟩, Gle.refl _, hS, hO, h12, h13, h14⟩
    ·rintro s24 F w28 t27 ⟨Fb, G29, as24_0, ns24_0, cs24_0, as24_1, ns24_1, cs24_1, as24_2, ns24_2, cs24_2, rfl, leG29, hS, hO, hs24_0, hs24_1, hs24_2⟩
     intro H1 hqq26
     have Hoq26 := H; have H := H1
     unfold f10_b0 at H
     refine WC_seq (WC_region (WL_val (rn_lss rfl rfl) rfl (WL_nil (WC_seq (WC_cond rfl (fun hb30 => ?_) (fun hb30 => ?_))))))
     ·have H := ifT hb30 H; refine WC_skip (WC_seq ?_); obtain ⟨q31, hq31, H⟩ := bnd H; refine WC_cut (fun F w => ∃ (Fb : Fr) (G : Gm) (aq31_0 : Option Addr) (nq31_0 cq31_0 : Nat) (aq31_1 : Option Addr) (nq31_1 cq31_1 : Nat) (aq31_2 : Option Addr) (nq31_2 cq31_2 : Nat), F = upds Fb [(8, pV b15), (28, .slice a5 n5 c5), (29, iV (x2.length : Int)), (30, iV s24.1)] ∧ Gle G29 G ∧ Since w0.heap.size G0 w0 G w ∧ Owns G w w0.heap.size [⟨85, 6, 1, .slice (some ⟨b15, 0, none⟩) 1 1, [iV q31.BaneSea.Islets, .slice aq31_0 nq31_0 cq31_0, .slice aq31_1 nq31_1 cq31_1, .slice aq31_2 nq31_2 cq31_2, iV q31.BaneSea.Wait, iV q31.shut]⟩] ∧ RSl RInt 1 G aq31_0 nq31_0 cq31_0 q31.BaneSea.Infested ∧ RSl RInt 1 G aq31_1 nq31_1 cq31_1 q31.BaneSea.Clean ∧ RSl RTBaneTrip 4 G aq31_2 nq31_2 cq31_2 q31.BaneSea.Trips) ?_ ?_
      ·have Hoq31 := H; have H := hq31; refine WC_block (WC_seq (WC_region (WL_val (rn_move (v := (iV s24.1)) rfl) rfl ?_))); obtain ⟨y32, hy32, H⟩ := bnd H
       have l0_3 := l0_2.trans leG29
       refine WL_idx sl50 (h5.mono RBool_mono l0_3) hy32 rfl rfl rfl ?_
       rintro b33 o33 _ hcb33 _ ⟨⟩
       refine WL_val (rn_load na4 rfl (hS.sat.cell (hcb33 0 _ rfl))) rfl ?_; refine wr 2 rfl ?_; refine WL_nil (WC_seq (WC_region ?_)); refine wr 2 rfl ?_; refine WL_nil (WC_cond rfl (fun hb34 => ?_) (fun hb34 => ?_))
       ·have H := ifT hb34 H; have hS := hS.keep (below_drew _); have hO := hO.below (below_drew _)
        refine WC_regionD mixedO (fun _ w => Sat G29 w ∧ Owns G29 w w0.heap.size [⟨85, 6, 1, .slice (some ⟨b15, 0, none⟩) 1 1, [iV s24.2.BaneSea.Islets, .slice as24_0 ns24_0 cs24_0, .slice as24_1 ns24_1 cs24_1, .slice as24_2 ns24_2 cs24_2, iV s24.2.BaneSea.Wait, iV s24.2.shut]⟩]) (.fl 0 (.fl 1 (.on 2 (.on 3 (.on 4 (.on 5 (.on 6 .nil))))))) (by kernel_rfl) rfl (by kernel_rfl) (fun _ => ⟨hS.sat, hO⟩) ?_
        refine WD_val rfl (fun w hw => rn_fld fd85_1 rfl) rfl (WD_val rfl (fun w hw => rn_load na3 rfl (own_cell hw.2 (k := 0) rfl (j := 5) rfl)) rfl (WD_op rfl rfl (OpP_val (rn_move (v := (iV s24.1)) rfl) rfl ?_))); refine ⟨fun _ _ => ⟨hS.sat, hO⟩, ?_⟩; obtain ⟨y35, hy35, H⟩ := bnd H; refine WD_op rfl rfl (OpP_val (rn_shl rfl rfl hy35) rfl ?_); refine ⟨fun _ _ => ⟨hS.sat, hO⟩, ?_⟩; refine WD_op rfl rfl (OpP_val (rn_or rfl rfl) rfl ?_)
        refine ⟨fun _ h => noneed (by kernel_rfl) h, ?_⟩
        refine WD_op rfl rfl (OpP_val (rn_fld fd85_1 rfl) rfl ?_)
        refine ⟨fun _ h => noneed (by kernel_rfl) h, ?_⟩
        refine WD_op rfl rfl (OpP_store (vs := [iV (orI .i64 s24.2.shut y35)]) sz3 hS hO (k := 0) rfl rfl rfl rfl rfl (one_all rfl) (Nat.le_of_ble_eq_true rfl) (fun w36 hS hO => ?_))
        have hO : Owns G29 w36 w0.heap.size ([⟨85, 6, 1, .slice (some ⟨b15, 0, none⟩) 1 1, [iV s24.2.BaneSea.Islets, .slice as24_0 ns24_0 cs24_0, .slice as24_1 ns24_1 cs24_1, .slice as24_2 ns24_2 cs24_2, iV s24.2.BaneSea.Wait, iV (orI .i64 s24.2.shut y35)]⟩]) := hO
        refine ⟨fun _ h => noneed (by kernel_rfl) h, ?_⟩
        refine WD_nil ?_
        have hO : Owns G29 w36 w0.heap.size ([⟨85, 6, 1, .slice (some ⟨b15, 0, none⟩) 1 1, [iV s24.2.BaneSea.Islets, .slice as24_0 ns24_0 cs24_0, .slice as24_1 ns24_1 cs24_1, .slice as24_2 ns24_2 cs24_2, iV s24.2.BaneSea.Wait, iV (orI .i64 s24.2.shut y35)]⟩]) := hO
        cases H
        exact ⟨_, G29, as24_0, ns24_0, cs24_0, as24_1, ns24_1, cs24_1, as24_2, ns24_2, cs24_2, upds_self _ _ ⟨rfl, rfl, rfl, rfl, trivial⟩, Gle.refl _, hS, hO, hs24_0, hs24_1, hs24_2⟩
       ·have H := ifF hb34 H; refine WC_skip ?_
        have hO : Owns G29 w28 w0.heap.size ([⟨85, 6, 1, .slice (some ⟨b15, 0, none⟩) 1 1, [iV s24.2.BaneSea.Islets, .slice as24_0 ns24_0 cs24_0, .slice as24_1 ns24_1 cs24_1, .slice as24_2 ns24_2 cs24_2, iV s24.2.BaneSea.Wait, iV s24.2.shut]⟩]) := hO
        cases H
        exact ⟨_, G29, as24_0, ns24_0, cs24_0, as24_1, ns24_1, cs24_1, as24_2, ns24_2, cs24_2, upds_self _ _ ⟨rfl, rfl, rfl, rfl, trivial⟩, Gle.refl _, hS, hO, hs24_0, hs24_1, hs24_2⟩
      ·rintro F w37 ⟨Fb, G38, aq31_0, nq31_0, cq31_0, aq31_1, nq31_1, cq31_1, aq31_2, nq31_2, cq31_2, rfl, leG38, hS, hO, hq31_0, hq31_1, hq31_2⟩
       refine WC_region ?_; refine wr 2 rfl ?_; refine WL_nil ?_
       have hO : Owns G38 w37 w0.heap.size ([⟨85, 6, 1, .slice (some ⟨b15, 0, none⟩) 1 1, [iV q31.BaneSea.Islets, .slice aq31_0 nq31_0 cq31_0, .slice aq31_1 nq31_1 cq31_1, .slice aq31_2 nq31_2 cq31_2, iV q31.BaneSea.Wait, iV q31.shut]⟩]) := hO
       cases H; refine ⟨_, rfl, ?_⟩
       have l2_4 := leG29.trans leG38
       exact ⟨_, G38, aq31_0, nq31_0, cq31_0, aq31_1, nq31_1, cq31_1, aq31_2, nq31_2, cq31_2, upds_self _ _ ⟨rfl, rfl, rfl, rfl, trivial⟩, l2_4, hS, hO, hq31_0, hq31_1, hq31_2⟩
     ·have H := ifF hb30 H; refine WC_exit rfl ?_
      have hO : Owns G29 w28 w0.heap.size ([⟨85, 6, 1, .slice (some ⟨b15, 0, none⟩) 1 1, [iV s24.2.BaneSea.Islets, .slice as24_0 ns24_0 cs24_0, .slice as24_1 ns24_1 cs24_1, .slice as24_2 ns24_2 cs24_2, iV s24.2.BaneSea.Wait, iV s24.2.shut]⟩]) := hO
      cases H
      have hres := hqq26 _ rfl
      subst hres
      exact ⟨_, G29, as24_0, ns24_0, cs24_0, as24_1, ns24_1, cs24_1, as24_2, ns24_2, cs24_2, upds_self _ _ ⟨rfl, trivial⟩, leG29, hS, hO, hs24_0, hs24_1, hs24_2⟩
   ·rintro F w39 ⟨Fb, G40, aq26_0, nq26_0, cq26_0, aq26_1, nq26_1, cq26_1, aq26_2, nq26_2, cq26_2, rfl, leG40, hS, hO, hq26_0, hq26_1, hq26_2⟩
    refine WC_seq (WC_region (WL_val (rn_loadA ag85 (cs := [iV q26.BaneSea.Islets, .slice aq26_0 nq26_0 cq26_0, .slice aq26_1 nq26_1 cq26_1, .slice aq26_2 nq26_2 cq26_2, iV q26.BaneSea.Wait, iV q26.shut]) rfl rfl (fun j v hj => own_sub hO (k := 0) rfl 0 6 j v hj)) rfl ?_)); obtain ⟨y41, hy41, H⟩ := bnd H; refine WL_op rfl (OpP_callG cb40 (f40_ok (x0 := q26) hS.sat hq26_0 hq26_1 hq26_2 hy41) rfl rfl (fun vy41 G43 w42 hg hvy41 => ?_)); obtain ⟨a44, n44, c44, ⟨⟩, h44⟩ := hvy41; have hS := hS.grow hg; have hO := hO.grow hg
    have leG43 := hg.le
    refine wr 2 rfl ?_; refine WL_nil (WC_ret ?_)
    have H : some (y41, 0) = some r := H
    cases H
    exact ⟨_, _, rfl, hS.toGrow, _, _, _, rfl, h44⟩
set_option maxHeartbeats 1000000 in
theorem f6_ok {G0 : Gm} {w0 : World} (hS0 : Sat G0 w0) {x0 : TBaneSea} {a1 : Option Addr} {n1 c1 : Nat} {a2 : Option Addr} {n2 c2 : Nat} {a3 : Option Addr} {n3 c3 : Nat} (h1 : RSl RInt 1 G0 a1 n1 c1 x0.Infested) (h2 : RSl RInt 1 G0 a2 n2 c2 x0.Clean) (h3 : RSl RTBaneTrip 4 G0 a3 n3 c3 x0.Trips) {r : (List Int) × Int × Int} (H : f6 x0 = some r) :
  Calls Tryz.prog 6 #[.agg #[iV x0.Islets, .slice a1 n1 c1, .slice a2 n2 c2, .slice a3 n3 c3, iV x0.Wait]] w0 (RetG G0 w0 (fun G v => ∃ (ra0 : Option Addr) (rn0 rc0 : Nat), v = .tuple #[.slice ra0 rn0 rc0, iV r.2.1, iV r.2.2] ∧ RSl RInt 1 G ra0 rn0 rc0 r.1)) := by
 have hS := Since.start hS0
 have hO := own0 G0 w0
 unfold f6 at H
 refine enter3 (N := 23) (shutG _ _ _) Tryz.func6 rfl rfl rfl rfl ?_; refine WC_seq (WC_region (WL_op rfl (OpP_newF (v := fun b => pV b) (cs := [iV x0.Islets, .slice a1 n1 c1, .slice a2 n2 c2, .slice a3 n3 c3, iV x0.Wait]) (e := 38) (rn_boxA rfl) hS.sat rfl (fun b4 G6 w5 hg hcb4 => ?_)))); have hS := hS.grow hg; have hO := hO.grow hg
 have leG6 := hg.le
 refine wr 3 rfl ?_; refine WL_nil (WC_seq (WC_seq (WC_region (WL_val (rn_loadA ag38 (cs := [iV x0.Islets, .slice a1 n1 c1, .slice a2 n2 c2, .slice a3 n3 c3, iV x0.Wait]) rfl rfl (fun j v hj => hS.sat.cell (hcb4.drop_take 0 5 j v hj))) rfl ?_)))); obtain ⟨y7, hy7, H⟩ := bnd H; refine WL_op rfl (OpP_callV cb22 (f22_ok (x0 := x0) hS.sat (h1.mono RInt_mono leG6) (h2.mono RInt_mono leG6) (h3.mono RTBaneTrip_mono leG6) hy7) rfl rfl (fun w8 hb => ?_)); have hS := hS.keep hb; have hO := hO.below hb; refine WL_val (rn_not rfl) rfl (WL_nil (WC_cond rfl (fun hb9 => ?_) (fun hb9 => ?_)))
 ·have H := ifT hb9 H; refine WC_seq (WC_region ?_); refine wr 3 rfl ?_; refine WL_nil (WC_ret ?_)
  have H : some ([], 0, 2) = some r := H
  cases H
  exact ⟨_, _, rfl, hS.toGrow, _, _, _, rfl, (RSl.nil RInt 1 G6 none)⟩
 ·have H := ifF hb9 H; refine WC_skip (WC_seq (WC_region (WL_run tabH (cellsW hS.sat hcb4) 2 [] rfl rfl an ?_)))
  have hF10 : FnOk86 G6 25 [] [pV b4] (fun (z0 : Int) => f25 z0 x0) := ⟨cb25, fun G1 W1 hl hw z0 r1 H1 => f25_ok (x0 := z0) (x1 := x0) hw (hcb4.mono hl) ((h1.mono RInt_mono leG6).mono RInt_mono hl) ((h2.mono RInt_mono leG6).mono RInt_mono hl) ((h3.mono RTBaneTrip_mono leG6).mono RTBaneTrip_mono hl) H1⟩
  refine WL_val (rn_func (vs := []) (us := [pV b4]) rfl rfl) rfl ?_
  have hF11 : FnOk83 G6 24 [] [] (fun (z0 : TBaneTrip) => f24 z0) := ⟨cb24, fun G1 W1 hl hw z0 r1 H1 => f24_ok (x0 := z0) hw  H1⟩
  obtain ⟨y12, hy12, H⟩ := bnd H; refine WL_op rfl (OpP_callG cb23 (f23_ok (x0 := x0.Trips) (x1 := (fun (z0 : TBaneTrip) => f24 z0)) (x2 := (fun (z0 : Int) => f25 z0 x0)) hS.sat (h3.mono RTBaneTrip_mono leG6) hF11 hF10 hy12) rfl rfl (fun vy12 G14 w13 hg hvy12 => ?_)); obtain ⟨a15, n15, c15, ⟨⟩, h15⟩ := hvy12; have hS := hS.grow hg; have hO := hO.grow hg
  have leG14 := hg.le
  refine WL_val (rn_move (v := (.tuple #[.agg #[iV y12.1.cost, .slice a15 n15 c15], .bool y12.2])) rfl) rfl (WL_val (rn_extract (v := (.agg #[iV y12.1.cost, .slice a15 n15 c15])) rfl rfl) rfl (WL_val (rn_extract (v := (.bool y12.2)) rfl rfl) rfl ?_))
  refine WL_op rfl (OpP_newO (v := fun b => pV b) (cs := [iV 0, .slice none 0 0]) (e := 78) (by kernel_rfl) hS.sat hO rfl 2 1 rfl (by decide) (fun b16 w17 hb hO => ?_))
  have hS := hS.keep hb; refine WL_op rfl (OpP_store (vs := [iV y12.1.cost, .slice a15 n15 c15]) sz78 hS hO (k := 0) rfl rfl rfl rfl rfl (one_all rfl) (Nat.le_of_ble_eq_true rfl) (fun w19 hS hO => ?_))
  have hO : Owns G14 w19 w0.heap.size ([⟨78, 2, 1, .slice (some ⟨b16, 0, none⟩) 1 1, [iV y12.1.cost, .slice a15 n15 c15]⟩]) := hO
  obtain ⟨G20, leG20, hS, hO, hqG20, _⟩ := hO.freeze hS (k := 0) rfl
  have hcG20 : Cells G20 b16 0 [iV y12.1.cost, .slice a15 n15 c15] := (hqG20 _ _ _ _ rfl)
  refine WL_val (rn_assign (v := (.bool y12.2)) rfl) rfl (WL_nil (WC_seq (WC_seq (WC_region ?_)))); refine wr 2 rfl ?_; refine WL_nil (WC_cond rfl (fun hb21 => ?_) (fun hb21 => ?_))
  ·have H := ifT hb21 H; refine WC_seq (WC_region ?_); refine wr 3 rfl ?_; refine WL_nil (WC_ret ?_)
   have H : some ([], 0, 5) = some r := H
   cases H
   exact ⟨_, _, rfl, hS.toGrow, _, _, _, rfl, (RSl.nil RInt 1 G20 none)⟩
  ·have H := ifF hb21 H; refine WC_skip (WC_seq ?_); have hS := hS.keep (below_drew _); have hO := hO.below (below_drew _)
   refine WC_regionD mixedO (fun _ w => Sat G20 w ∧ True) (.fl 0 (.fl 1 (.fl 2 (.fl 3 (.on 4 (.on 5 (.on 6 .nil))))))) (by kernel_rfl) rfl (by kernel_rfl) (fun _ => ⟨hS.sat, trivial⟩) ?_
   refine WD_val rfl (fun w hw => rn_fld fd78_1 rfl) rfl (WD_val rfl (fun w hw => rn_load na24 rfl (hw.1.cell (hcG20 1 _ rfl))) rfl (WD_val rfl (fun w hw => rn_fld fd78_0 rfl) rfl (WD_val rfl (fun w hw => rn_load na3 rfl (hw.1.cell (hcG20 0 _ rfl))) rfl (WD_op rfl rfl (OpP_val (rn_assign (v := (.slice a15 n15 c15)) rfl) rfl ?_))))); refine ⟨fun _ _ => ⟨hS.sat, trivial⟩, ?_⟩; refine WD_op rfl rfl (OpP_val (rn_assign (v := (iV y12.1.cost)) rfl) rfl ?_)
   refine ⟨fun _ h => noneed (by kernel_rfl) h, ?_⟩
   refine WD_op rfl rfl (OpP_val (rn_assign (v := (iV 0)) rfl) rfl ?_)
   refine ⟨fun _ h => noneed (by kernel_rfl) h, ?_⟩
   refine WD_nil (WC_ret ?_)
   have H : some (y12.1.list, y12.1.cost, 0) = some r := H
   cases H
   exact ⟨_, _, rfl, hS.toGrow, _, _, _, rfl, (h15.mono RInt_mono leG20)⟩
set_option maxHeartbeats 1000000 in
theorem f93_ok {G0 : Gm} {w0 : World} (hS0 : Sat G0 w0) {x0 : Int} {x1 : Int} {x2 : Int}  {r : Bool} (H : f93 x0 x1 x2 = some r) :
  Calls Tryz.prog 93 #[iV x0, iV x1, iV x2] w0 (RetV w0 (.bool r)) := by
 have hS := Since.start hS0
 have hO := own0 G0 w0
 unfold f93 at H
 refine enter1 (N := 15) (shutV _ _) Tryz.func93 rfl rfl rfl rfl (WC_seq (WC_region (WL_val (rn_assign (v := (.bool false)) rfl) rfl (WL_nil (WC_seq ?_))))); obtain ⟨q1, hq1, H⟩ := bnd H; refine WC_cut (fun F w => ∃ (Fb : Fr), F = upds Fb [(6, .bool q1)] ∧ w0 = w) ?_ ?_
 ·have Hoq1 := H; have H := hq1; refine WC_region ?_; refine wr 4 rfl ?_
  rcases bcases (decide (x1 ≤ x0)) with hb2 | hb2
  ·have H := ifT hb2 H; refine wk hb2 5 rfl rfl ?_; refine WL_nil ?_; cases H
   exact ⟨_, upds_self _ _ ⟨rfl, trivial⟩, rfl⟩
  ·have H := ifF hb2 H; refine wk hb2 5 rfl rfl ?_; refine WL_nil ?_; cases H
   exact ⟨_, upds_self _ _ ⟨rfl, trivial⟩, rfl⟩
 ·rintro F wl ⟨Fb, rfl, rfl⟩
  refine WC_ret ?_
  have H : some q1 = some r := H
  cases H
  exact ⟨rfl, hS.below⟩
set_option maxHeartbeats 1000000 in
theorem f212_ok {G0 : Gm} {w0 : World} (hS0 : Sat G0 w0) {x0 : Int} {x1 : Int}  {r : Bool} (H : f212 x0 x1 = some r) :
  Calls Tryz.prog 212 #[iV x0, iV x1] w0 (RetV w0 (.bool r)) := by
 have hS := Since.start hS0
 have hO := own0 G0 w0
 unfold f212 at H
 refine enter1 (N := 17) (shutV _ _) Tryz.func212 rfl rfl rfl rfl (WC_seq (WC_region (WL_val (rn_assign (v := (.bool false)) rfl) rfl (WL_nil (WC_seq ?_))))); obtain ⟨q1, hq1, H⟩ := bnd H; refine WC_cut (fun F w => ∃ (Fb : Fr) (G : Gm), F = upds Fb [(4, .bool q1)] ∧ Gle G0 G ∧ SO G0 w0 G w []) ?_ ?_
 ·have Hoq1 := H; have H := hq1; refine WC_region (WL_val (rn_move (v := (iV x0)) rfl) rfl ?_); obtain ⟨y2, hy2, H⟩ := bnd H; refine WL_op rfl (OpP_callV cb205 (f205_ok (x0 := x0) hS.sat  hy2) rfl rfl (fun w3 hb => ?_)); have hS := hS.keep hb; have hO := hO.below hb; refine WL_val (rn_move (v := (.bool y2)) rfl) rfl ?_
  rcases bcases y2 with hb4 | hb4
  ·have H := ifT hb4 H; refine WL_guardY rfl hb4 rfl rfl (WL_val (rn_move (v := (iV x1)) rfl) rfl (WL_guardY rfl hb4 rfl rfl ?_)); obtain ⟨y5, hy5, H⟩ := bnd H; refine WL_op rfl (OpP_callV cb205 (f205_ok (x0 := x1) hS.sat  hy5) rfl rfl (fun w6 hb => ?_)); have hS := hS.keep hb; have hO := hO.below hb; refine wk hb4 3 rfl rfl ?_
   rcases bcases (!y5) with hb7 | hb7
   ·have H := ifT hb7 H; refine wk hb7 5 rfl rfl ?_; refine WL_nil ?_
    have hO : Owns _ _ _ [] := hO
    cases H
    exact ⟨_, G0, upds_self _ _ ⟨rfl, trivial⟩, Gle.refl _, hS, hO⟩
   ·have H := ifF hb7 H; refine wk hb7 5 rfl rfl ?_; refine WL_nil ?_
    have hO : Owns _ _ _ [] := hO
    cases H
    exact ⟨_, G0, upds_self _ _ ⟨rfl, trivial⟩, Gle.refl _, hS, hO⟩
  ·have H := ifF hb4 H; refine wk hb4 5 rfl rfl ?_; refine wr 5 rfl ?_; refine WL_nil ?_
   have hO : Owns _ _ _ [] := hO
   cases H
   exact ⟨_, G0, upds_self _ _ ⟨rfl, trivial⟩, Gle.refl _, hS, hO⟩
 ·rintro F w8 ⟨Fb, G9, rfl, leG9, hS, hO⟩
  refine WC_ret ?_
  have H : some q1 = some r := H
  cases H
  exact ⟨rfl, hS.below⟩
set_option maxHeartbeats 1000000 in
theorem f123_ok {G0 : Gm} {w0 : World} (hS0 : Sat G0 w0) {x0 : TBaneSea} {a1 : Option Addr} {n1 c1 : Nat} {a2 : Option Addr} {n2 c2 : Nat} {a3 : Option Addr} {n3 c3 : Nat} (h1 : RSl RInt 1 G0 a1 n1 c1 x0.Infested) (h2 : RSl RInt 1 G0 a2 n2 c2 x0.Clean) (h3 : RSl RTBaneTrip 4 G0 a3 n3 c3 x0.Trips) {r : Int} (H : f123 x0 = some r) :
  Calls Tryz.prog 123 #[.agg #[iV x0.Islets, .slice a1 n1 c1, .slice a2 n2 c2, .slice a3 n3 c3, iV x0.Wait]] w0 (RetV w0 (iV r)) := by
 have hS := Since.start hS0
 have hO := own0 G0 w0
 unfold f123 at H
 refine enter1 (N := 6) (shutV _ _) Tryz.func123 rfl rfl rfl rfl (WC_seq (WC_region (WL_op rfl (OpP_newF (v := fun b => pV b) (cs := [iV x0.Islets, .slice a1 n1 c1, .slice a2 n2 c2, .slice a3 n3 c3, iV x0.Wait]) (e := 38) (rn_boxA rfl) hS.sat rfl (fun b4 G6 w5 hg hcb4 => ?_))))); have hS := hS.grow hg; have hO := hO.grow hg
 have leG6 := hg.le
 refine WL_val (rn_assign (v := (iV 0)) rfl) rfl (WL_nil (WC_seq (WC_seq (WC_region (WL_val (rn_loadA ag38 (cs := [iV x0.Islets, .slice a1 n1 c1, .slice a2 n2 c2, .slice a3 n3 c3, iV x0.Wait]) rfl rfl (fun j v hj => hS.sat.cell (hcb4.drop_take 0 5 j v hj))) rfl ?_))))); obtain ⟨y7, hy7, H⟩ := bnd H; refine WL_op rfl (OpP_callV cb22 (f22_ok (x0 := x0) hS.sat (h1.mono RInt_mono leG6) (h2.mono RInt_mono leG6) (h3.mono RTBaneTrip_mono leG6) hy7) rfl rfl (fun w8 hb => ?_)); have hS := hS.keep hb; have hO := hO.below hb; refine WL_val (rn_not rfl) rfl (WL_nil (WC_cond rfl (fun hb9 => ?_) (fun hb9 => ?_)))
 ·have H := ifT hb9 H; refine WC_seq (WC_region (WL_val (rn_assign (v := (iV 2)) rfl) rfl (WL_nil (WC_ret ?_))))
  have H : some 2 = some r := H
  cases H
  exact ⟨rfl, hS.below⟩
 ·have H := ifF hb9 H; refine WC_skip (WC_seq (WC_region (WL_val (rn_assign (v := (iV 0)) rfl) rfl (WL_nil (WC_ret ?_)))))
  have H : some 0 = some r := H
  cases H
  exact ⟨rfl, hS.below⟩
end Go.Proofs.YtdgkjgljkgjjiaaGreatDoor
