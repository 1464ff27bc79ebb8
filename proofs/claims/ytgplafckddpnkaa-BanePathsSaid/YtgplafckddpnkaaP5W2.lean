/-
  The walks: each Go function computes its plain function (printed by a program of ours).
-/
import Derived.Test.YtgplafckddpnkaaRd
import Derived.Test.YtgplafckddpnkaaIt
import Derived.Test.YtgplafckddpnkaaP5W1
namespace Go.Proofs.Ytgplafckddpnkaa
open Go.RowKit
set_option linter.unusedVariables false

set_option maxRecDepth 20000
set_option linter.unusedVariables false
set_option maxHeartbeats 1000000 in
theorem f75_ok {G0 : Gm} {w0 : World} (hS0 : Sat G0 w0) {x0 : TSea} {a1 : Option Addr} {n1 c1 : Nat} {a2 : Option Addr} {n2 c2 : Nat} {a3 : Option Addr} {n3 c3 : Nat} (h1 : RSl RInt 1 G0 a1 n1 c1 x0.BaneSea.Infested) (h2 : RSl RInt 1 G0 a2 n2 c2 x0.BaneSea.Clean) (h3 : RSl RTBaneTrip 4 G0 a3 n3 c3 x0.BaneSea.Trips) {r : (List Int)} (H : f75 x0 = some r) :
  Calls Try.prog 75 #[.agg #[.int .i64 x0.BaneSea.Islets, .slice a1 n1 c1, .slice a2 n2 c2, .slice a3 n3 c3, .int .i64 x0.BaneSea.Wait, .int .i64 x0.shut]] w0 (RetG G0 w0 (fun G v => ∃ (ra0 : Option Addr) (rn0 rc0 : Nat), v = .slice ra0 rn0 rc0 ∧ RSl RInt 1 G ra0 rn0 rc0 r)) := by
 have hS := Since.start hS0
 have hO : Owns G0 w0 w0.heap.size [] := Owns.nil (Nat.le_refl _)
 unfold f75 at H
 refine enter1 (N := 137) (shutG _ _ _) Try.func75 rfl rfl rfl rfl ?_; refine WC_seq ?_; refine WC_region ?_; refine WL_op rfl (OpP_newF (v := fun b => .pointer (some ⟨b, 0, none⟩)) (cs := [.int .i64 x0.BaneSea.Islets, .slice a1 n1 c1, .slice a2 n2 c2, .slice a3 n3 c3, .int .i64 x0.BaneSea.Wait, .int .i64 x0.shut]) (e := 111) (rn_boxA rfl) hS.sat rfl (fun b4 G6 w5 hg hcb4 => ?_)); have hS := hS.grow hg; have hO := hO.grow hg
 have leG6 := hg.le
 refine WL_val (rn_assign (v := (.slice none 0 0)) rfl) rfl ?_; refine WL_nil ?_; refine WC_seq ?_; refine WC_region ?_; refine WL_val (rn_fld fd111_0 rfl) rfl ?_; refine WL_val (rn_fld fd46_0 rfl) rfl ?_; refine WL_val (rn_load na3 rfl (hS.sat.cell (hcb4 0 _ rfl))) rfl ?_; obtain ⟨y7, hy7, H⟩ := bnd H; refine WL_op rfl (OpP_make (R := RInt) sl25 zr3 hS hO hy7 rfl rfl rfl rfl rfl (fun b8 w9 clw9 hS hO hrw9 => ?_)); refine WL_val (rn_assign (v := (.slice (some ⟨b8, 0, none⟩) y7.length y7.length)) rfl) rfl ?_; refine WL_nil ?_; refine WC_seq ?_; refine WC_seq ?_; refine WC_region ?_; refine WL_val (rn_move (v := (.slice (some ⟨b8, 0, none⟩) y7.length y7.length)) rfl) rfl ?_; refine WL_val (rn_len (m := y7.length) sl25 rfl rfl rfl) rfl ?_; refine WL_val (rn_move (v := (.int .i64 0)) rfl) rfl ?_; refine WL_nil ?_; obtain ⟨q13, hq13, H⟩ := bnd H; refine WC_cut (fun F w => ∃ (Fb : Fr) (G : Gm) (aq13_0 : Option Addr) (nq13_0 cq13_0 : Nat) (claq13_0 : List Value), F = upds Fb [(1, .pointer (some ⟨b4, 0, none⟩)), (2, .slice none 0 0), (3, .slice aq13_0 nq13_0 cq13_0)] ∧ Gle G6 G ∧ Since w0.heap.size G0 w0 G w ∧ Owns G w w0.heap.size [⟨3, 1, nq13_0, .slice aq13_0 nq13_0 cq13_0, claq13_0⟩] ∧ nq13_0 = q13.length ∧ Rd RInt 1 G claq13_0 q13) ?_ ?_
 ·refine WC_block (WC_loop hq13 (fun s11 F w => ∃ (Fb : Fr) (G : Gm) (as11_0 : Option Addr) (ns11_0 cs11_0 : Nat) (clas11_0 : List Value), F = upds Fb [(1, .pointer (some ⟨b4, 0, none⟩)), (2, .slice none 0 0), (3, .slice as11_0 ns11_0 cs11_0), (21, .int .i64 (y7.length : Int)), (22, .int .i64 s11.2)] ∧ Gle G6 G ∧ Since w0.heap.size G0 w0 G w ∧ Owns G w w0.heap.size [⟨3, 1, ns11_0, .slice as11_0 ns11_0 cs11_0, clas11_0⟩] ∧ ns11_0 = s11.1.length ∧ Rd RInt 1 G clas11_0 s11.1) ?_ ?_)
  ·have hO : Owns G6 w9 w0.heap.size ([⟨3, 1, y7.length, .slice (some ⟨b8, 0, none⟩) y7.length y7.length, clw9⟩]) := hO
   exact ⟨_, G6, (some ⟨b8, 0, none⟩), y7.length, y7.length, clw9, upds_self _ _ ⟨rfl, rfl, rfl, rfl, rfl, trivial⟩, Gle.refl _, hS, hO, rfl, hrw9⟩
  ·rintro s11 F w15 t14 ⟨Fb, G16, as11_0, ns11_0, cs11_0, clas11_0, rfl, leG16, hS, hO, hnhs11_0, hs11_0⟩
   intro H1 hqq13
   have Hoq13 := H; have H := H1
   unfold f75_b0 at H
   refine WC_seq ?_; refine WC_region ?_; refine WL_val (rn_lss rfl rfl) rfl ?_; refine WL_nil ?_; refine WC_seq ?_; refine WC_cond rfl (fun hb17 => ?_) (fun hb17 => ?_)
   ·have H := ifT hb17 H; refine WC_skip ?_; refine WC_seq ?_; refine WC_block ?_; refine WC_seq ?_; refine WC_region ?_; refine WL_val (rn_move (v := (.int .i64 s11.2)) rfl) rfl ?_; refine WL_val (rn_assign (v := (.int .i64 s11.2)) rfl) rfl ?_; refine WL_nil ?_; refine WC_region ?_; refine WL_val (rn_move (v := (.slice as11_0 ns11_0 cs11_0)) rfl) rfl ?_; refine WL_val (rn_move (v := (.int .i64 s11.2)) rfl) rfl ?_; obtain ⟨y18, hy18, H⟩ := bnd H; refine WL_idxO sl25 hO (k := 0) rfl hnhs11_0 hs11_0 hy18 rfl rfl rfl ?_
    rintro b19 ob19 _ hb19 _ hcb19 ⟨⟩
    obtain ⟨y20, hy20, H⟩ := bnd H; refine WL_op rfl (OpP_storeE (vs := [.int .i64 (-1)]) (cs := [.int .i64 y18]) (j := 0) (y := (-1)) sz3 hS hO (k := 0) rfl hnhs11_0 rfl hs11_0 hb19 rfl hcb19 hy20 rfl rfl rfl rfl rfl (one_all rfl) (Nat.le_of_ble_eq_true rfl) (fun w21 clw21 hS hO hrw21 => ?_))
    have hO : Owns G16 w21 w0.heap.size ([⟨3, 1, ns11_0, .slice as11_0 ns11_0 cs11_0, clw21⟩]) := hO
    refine WL_nil ?_; refine WC_region ?_; refine WL_val (rn_add rfl rfl) rfl ?_; refine WL_val (rn_move (v := (.int .i64 (IntKind.i64.wrap (s11.2 + 1)))) rfl) rfl ?_; refine WL_nil ?_
    have hO : Owns G16 w21 w0.heap.size ([⟨3, 1, ns11_0, .slice as11_0 ns11_0 cs11_0, clw21⟩]) := hO
    have H := Option.some.inj H; subst H; refine ⟨_, rfl, ?_⟩
    exact ⟨_, G16, as11_0, ns11_0, cs11_0, clw21, upds_self _ _ ⟨rfl, rfl, rfl, rfl, rfl, trivial⟩, leG16, hS, hO, (Eq.trans hnhs11_0 (setIx_len hy20)), hrw21⟩
   ·have H := ifF hb17 H; refine WC_exit rfl ?_
    have hO : Owns G16 w15 w0.heap.size ([⟨3, 1, ns11_0, .slice as11_0 ns11_0 cs11_0, clas11_0⟩]) := hO
    have H := Option.some.inj H; subst H
    have hres := hqq13 _ rfl
    subst hres
    exact ⟨_, G16, as11_0, ns11_0, cs11_0, clas11_0, upds_self _ _ ⟨rfl, rfl, rfl, trivial⟩, leG16, hS, hO, hnhs11_0, hs11_0⟩
 ·rintro F w22 ⟨Fb, G23, aq13_0, nq13_0, cq13_0, claq13_0, rfl, leG23, hS, hO, hnhq13_0, hq13_0⟩
  refine WC_seq ?_; refine WC_region ?_
  refine WL_val (v := (.agg #[.slice none 0 0])) (by kernel_rfl) rfl ?_
  refine WL_op rfl (OpP_newO (v := fun b => .pointer (some ⟨b, 0, none⟩)) (cs := [.slice none 0 0]) (e := 140) (rn_boxA rfl) hS.sat hO rfl 1 1 rfl (by decide) (fun b24 w25 hb hO => ?_))
  have hS := hS.keep hb
  refine WL_op rfl (OpP_newO (v := fun b => .pointer (some ⟨b, 0, none⟩)) (cs := [.pointer none]) (e := 138) (by kernel_rfl) hS.sat hO rfl 1 1 rfl (by decide) (fun b27 w28 hb hO => ?_))
  have hS := hS.keep hb; refine WL_op rfl (OpP_store (vs := [.pointer (some ⟨b24, 0, none⟩)]) sz138 hS hO (k := 0) rfl rfl rfl rfl rfl (one_all rfl) (Nat.le_of_ble_eq_true rfl) (fun w30 hS hO => ?_))
  have hO : Owns G23 w30 w0.heap.size ([⟨138, 1, 1, .slice (some ⟨b27, 0, none⟩) 1 1, [.pointer (some ⟨b24, 0, none⟩)]⟩, ⟨140, 1, 1, .slice (some ⟨b24, 0, none⟩) 1 1, [.slice none 0 0]⟩, ⟨3, 1, nq13_0, .slice aq13_0 nq13_0 cq13_0, claq13_0⟩]) := hO
  obtain ⟨G31, leG31, hS, hO, hqG31, _⟩ := hO.freeze hS (k := 0) rfl
  have hcG31 : Cells G31 b27 0 [.pointer (some ⟨b24, 0, none⟩)] := (hqG31 _ _ _ _ rfl)
  refine WL_nil ?_; refine WC_seq ?_; refine WC_region ?_; refine WL_val (rn_fld fd111_0 rfl) rfl ?_; refine WL_val (rn_fld fd46_3 rfl) rfl ?_
  have l1_3 := leG23.trans leG31
  refine WL_val (rn_load na44 rfl ((hS.sat.le l1_3).cell (hcb4 3 _ rfl))) rfl ?_
  have l0_3 := leG6.trans l1_3
  refine WL_val (rn_len sl44 rfl rfl (h3.mono RTBaneTrip_mono l0_3).1) rfl ?_; obtain ⟨y32, hy32, H⟩ := bnd H; refine WL_op rfl (OpP_make (R := RBool) sl79 zr4 hS hO hy32 rfl rfl rfl rfl rfl (fun b33 w34 clw34 hS hO hrw34 => ?_))
  refine WL_op rfl (OpP_newO (v := fun b => .pointer (some ⟨b, 0, none⟩)) (cs := [.slice none 0 0]) (e := 79) (by kernel_rfl) hS.sat hO rfl 1 1 rfl (by decide) (fun b36 w37 hb hO => ?_))
  have hS := hS.keep hb; refine WL_op rfl (OpP_store (vs := [.slice (some ⟨b33, 0, none⟩) y32.length y32.length]) sz79 hS hO (k := 0) rfl rfl rfl rfl rfl (one_all rfl) (Nat.le_of_ble_eq_true rfl) (fun w39 hS hO => ?_))
  have hO : Owns G31 w39 w0.heap.size ([⟨79, 1, 1, .slice (some ⟨b36, 0, none⟩) 1 1, [.slice (some ⟨b33, 0, none⟩) y32.length y32.length]⟩, ⟨4, 1, y32.length, .slice (some ⟨b33, 0, none⟩) y32.length y32.length, clw34⟩, ⟨140, 1, 1, .slice (some ⟨b24, 0, none⟩) 1 1, [.slice none 0 0]⟩, ⟨3, 1, nq13_0, .slice aq13_0 nq13_0 cq13_0, claq13_0⟩]) := hO
  refine WL_nil ?_; refine WC_seq ?_; refine WC_seq ?_; refine WC_region ?_; refine WL_val (rn_loadA ag111 (cs := [.int .i64 x0.BaneSea.Islets, .slice a1 n1 c1, .slice a2 n2 c2, .slice a3 n3 c3, .int .i64 x0.BaneSea.Wait, .int .i64 x0.shut]) rfl rfl (fun j v hj => (hS.sat.le l1_3).cell (hcb4.drop_take 0 6 j v hj))) rfl ?_
  have hI40 := f77_it (x0 := x0) (a1 := a1) (n1 := n1) (c1 := c1) (a2 := a2) (n2 := n2) (c2 := c2) (a3 := a3) (n3 := n3) (c3 := c3) (h3.mono RTBaneTrip_mono l0_3)
  refine WL_val (rn_func (vs := [.agg #[.int .i64 x0.BaneSea.Islets, .slice a1 n1 c1, .slice a2 n2 c2, .slice a3 n3 c3, .int .i64 x0.BaneSea.Wait, .int .i64 x0.shut]]) (us := []) rfl rfl) rfl ?_; refine WL_nil ?_; refine WC_block ?_; have hO := hO.cons_nil 3 1
  have hO : Owns G31 w39 w0.heap.size ([⟨3, 1, 0, .slice none 0 0, []⟩, ⟨79, 1, 1, .slice (some ⟨b36, 0, none⟩) 1 1, [.slice (some ⟨b33, 0, none⟩) y32.length y32.length]⟩, ⟨4, 1, y32.length, .slice (some ⟨b33, 0, none⟩) y32.length y32.length, clw34⟩, ⟨140, 1, 1, .slice (some ⟨b24, 0, none⟩) 1 1, [.slice none 0 0]⟩, ⟨3, 1, nq13_0, .slice aq13_0 nq13_0 cq13_0, claq13_0⟩]) := hO
  obtain ⟨q44, hq44, H⟩ := bnd H; refine WC_range (xs := openL x0.shut 0 x0.BaneSea.Trips) (enc := encT) (bd := f75_b1 x0) (fi := [.agg #[.int .i64 x0.BaneSea.Islets, .slice a1 n1 c1, .slice a2 n2 c2, .slice a3 n3 c3, .int .i64 x0.BaneSea.Wait, .int .i64 x0.shut]]) (ca := []) cb77 hI40 rfl (fun _ => rfl) rfl hq44 (fun (s42 : (List Bool) × TQueue_int_) (G : Gm) (L : List Row) => ∃ (as42_0 : Option Addr) (ns42_0 cs42_0 : Nat) (clas42_0 : List Value) (as42_1 : Option Addr) (ns42_1 cs42_1 : Nat) (clas42_1 : List Value), L = [⟨3, 1, ns42_1, .slice as42_1 ns42_1 cs42_1, clas42_1⟩, ⟨79, 1, 1, .slice (some ⟨b36, 0, none⟩) 1 1, [.slice as42_0 ns42_0 cs42_0]⟩, ⟨4, 1, ns42_0, .slice as42_0 ns42_0 cs42_0, clas42_0⟩, ⟨140, 1, 1, .slice (some ⟨b24, 0, none⟩) 1 1, [.slice as42_1 ns42_1 cs42_1]⟩, ⟨3, 1, nq13_0, .slice aq13_0 nq13_0 cq13_0, claq13_0⟩] ∧ ns42_0 = s42.1.length ∧ Rd RBool 1 G clas42_0 s42.1 ∧ ns42_1 = s42.2.all.length ∧ Rd RInt 1 G clas42_1 s42.2.all) (fun (p67 : Empty) (c68 : Code) (G : Gm) (L : List Row) => False) ?_ hS hO ⟨(some ⟨b33, 0, none⟩), y32.length, y32.length, clw34, none, 0, 0, [], rfl, rfl, hrw34, rfl, (Rd.nil RInt 1 G31)⟩ [] ?_ ?_ ?_
  ·rintro s42 G1 G2 L hle ⟨as42_0, ns42_0, cs42_0, clas42_0, as42_1, ns42_1, cs42_1, clas42_1, rfl, hnhs42_0, hs42_0, hnhs42_1, hs42_1⟩
   exact ⟨as42_0, ns42_0, cs42_0, clas42_0, as42_1, ns42_1, cs42_1, clas42_1, rfl, hnhs42_0, hs42_0.mono RBool_mono hle, hnhs42_1, hs42_1.mono RInt_mono hle⟩
  ·rintro l69 y43 s42 t45 G47 w46 L70 leG47 hS hO ⟨as42_0, ns42_0, cs42_0, clas42_0, as42_1, ns42_1, cs42_1, clas42_1, rfl, hnhs42_0, hs42_0, hnhs42_1, hs42_1⟩ H1 hqq44
   have Hoq44 := H; have H := H1
   unfold f75_b1 at H
   refine WC_seq ?_; refine WC_region ?_; refine WL_val (rn_assign (v := (.int .i64 y43.1)) rfl) rfl ?_; refine WL_nil ?_; refine WC_region ?_
   refine WL_op rfl (OpP_newO (v := fun b => .pointer (some ⟨b, 0, none⟩)) (cs := [.int .i64 0, .int .i64 0, .int .i64 0, .int .i64 0]) (e := 109) (by kernel_rfl) hS.sat hO rfl 4 1 rfl (by decide) (fun b48 w49 hb hO => ?_))
   have hS := hS.keep hb; refine WL_op rfl (OpP_store (vs := [.int .i64 y43.2.Day, .int .i64 y43.2.From, .int .i64 y43.2.To, .int .i64 y43.2.Cost]) sz109 hS hO (k := 0) rfl rfl rfl rfl rfl (one_all rfl) (Nat.le_of_ble_eq_true rfl) (fun w51 hS hO => ?_))
   have hO : Owns G47 w51 w0.heap.size ([⟨109, 4, 1, .slice (some ⟨b48, 0, none⟩) 1 1, [.int .i64 y43.2.Day, .int .i64 y43.2.From, .int .i64 y43.2.To, .int .i64 y43.2.Cost]⟩, ⟨3, 1, ns42_1, .slice as42_1 ns42_1 cs42_1, clas42_1⟩, ⟨79, 1, 1, .slice (some ⟨b36, 0, none⟩) 1 1, [.slice as42_0 ns42_0 cs42_0]⟩, ⟨4, 1, ns42_0, .slice as42_0 ns42_0 cs42_0, clas42_0⟩, ⟨140, 1, 1, .slice (some ⟨b24, 0, none⟩) 1 1, [.slice as42_1 ns42_1 cs42_1]⟩, ⟨3, 1, nq13_0, .slice aq13_0 nq13_0 cq13_0, claq13_0⟩]) := hO
   obtain ⟨G52, leG52, hS, hO, hqG52, _⟩ := hO.freeze hS (k := 0) rfl
   have hcG52 : Cells G52 b48 0 [.int .i64 y43.2.Day, .int .i64 y43.2.From, .int .i64 y43.2.To, .int .i64 y43.2.Cost] := (hqG52 _ _ _ _ rfl)
   refine WL_nil ?_
   intro w53 hfix
   have hS := hS.fix hfix; have hO := hO.fix hfix; refine WC_block ?_; refine WC_seq ?_; refine WC_region ?_; refine WL_val (rn_fld fd111_0 rfl) rfl ?_; refine WL_val (rn_fld fd46_1 rfl) rfl ?_
   have l1_5 := (l1_3.trans leG47).trans leG52
   refine WL_val (rn_load na25 rfl ((hS.sat.le l1_5).cell (hcb4 1 _ rfl))) rfl ?_; refine WL_val (rn_fld fd109_1 rfl) rfl ?_; refine WL_val (rn_load na3 rfl (hS.sat.cell (hcG52 1 _ rfl))) rfl ?_; obtain ⟨y54, hy54, H⟩ := bnd H
   have l0_5 := (l0_3.trans leG47).trans leG52
   refine WL_op rfl (OpP_callV cb74 (f74_ok (x0 := x0.BaneSea.Infested) (x1 := y43.2.From) hS.sat (h1.mono RInt_mono l0_5) hy54) rfl rfl (fun w55 hb => ?_)); have hS := hS.keep hb; have hO := hO.below hb; refine WL_nil ?_; refine WC_cond rfl (fun hb56 => ?_) (fun hb56 => ?_)
   ·have H := ifT hb56 H; refine WC_seq ?_; refine WC_region ?_; refine WL_val (rn_load na79 rfl (own_cell hO (k := 1) rfl (j := 0) rfl)) rfl ?_; refine WL_val (rn_move (v := (.int .i64 y43.1)) rfl) rfl ?_; obtain ⟨y57, hy57, H⟩ := bnd H; refine WL_idxO sl79 hO (k := 2) rfl hnhs42_0 (hs42_0.mono RBool_mono leG52) hy57 rfl rfl rfl ?_
    rintro b58 ob58 _ hb58 _ hcb58 ⟨⟩
    obtain ⟨y59, hy59, H⟩ := bnd H; refine WL_op rfl (OpP_storeE (vs := [.bool true]) (cs := [.bool y57]) (j := 0) (y := true) sz4 hS hO (k := 2) rfl hnhs42_0 rfl (hs42_0.mono RBool_mono leG52) hb58 rfl hcb58 hy59 rfl rfl rfl rfl rfl (one_all rfl) (Nat.le_of_ble_eq_true rfl) (fun w60 clw60 hS hO hrw60 => ?_))
    have hO : Owns G52 w60 w0.heap.size ([⟨3, 1, ns42_1, .slice as42_1 ns42_1 cs42_1, clas42_1⟩, ⟨79, 1, 1, .slice (some ⟨b36, 0, none⟩) 1 1, [.slice as42_0 ns42_0 cs42_0]⟩, ⟨4, 1, ns42_0, .slice as42_0 ns42_0 cs42_0, clw60⟩, ⟨140, 1, 1, .slice (some ⟨b24, 0, none⟩) 1 1, [.slice as42_1 ns42_1 cs42_1]⟩, ⟨3, 1, nq13_0, .slice aq13_0 nq13_0 cq13_0, claq13_0⟩]) := hO
    refine WL_nil ?_; refine WC_region ?_
    have l3_5 := leG47.trans leG52
    refine WL_val (rn_load na138 rfl ((hS.sat.le l3_5).cell (hcG31 0 _ rfl))) rfl ?_; refine WL_val (rn_move (v := (.int .i64 y43.1)) rfl) rfl ?_; refine WL_op rfl (OpP_in0 (N' := 14) [.pointer (some ⟨b24, 0, none⟩), .int .i64 y43.1] cb100 Try.func100 rfl rfl rfl rfl rfl rfl ?_); refine WC_region ?_; refine WL_val (rn_move (v := (.pointer (some ⟨b24, 0, none⟩))) rfl) rfl ?_; refine WL_val (rn_move (v := (.pointer (some ⟨b24, 0, none⟩))) rfl) rfl ?_
    refine WL_val (v := (.pointer (some ⟨b24, 0, none⟩))) (by kernel_rfl) rfl ?_
    refine WL_val (rn_fld fd140_0 rfl) rfl ?_; refine WL_val (rn_load na25 rfl (own_cell hO (k := 3) rfl (j := 0) rfl)) rfl ?_; refine WL_val (rn_move (v := (.int .i64 y43.1)) rfl) rfl ?_
    refine WL_op rfl (OpP_newF (v := fun b => .slice (some ⟨b, 0, none⟩) 1 1) (cs := [.int .i64 y43.1]) (e := 3) (by kernel_rfl) hS.sat rfl (fun b61 G63 w62 hg hcb61 => ?_))
    have hS := hS.grow hg; have hO := hO.grow hg
    have leG63 := hg.le
    have hfb61 : RSl RInt 1 G63 (some ⟨b61, 0, none⟩) 1 1 [y43.1] := RSl.of_rd hcb61 (Rd.cons (c := [.int .i64 y43.1]) rfl rfl (Rd.nil RInt 1 _)) rfl (by decide)
    obtain ⟨y64, hy64, H⟩ := bnd H
    have l4_6 := leG52.trans leG63
    refine WL_op rfl (OpP_append (k := 0) sl25 RInt_one hS hO rfl hnhs42_1 (hs42_1.mono RInt_mono l4_6) hfb61 hy64 rfl rfl rfl rfl rfl (fun aw65 cw65 w65 clw65 hS hO hrw65 => ?_))
    have hO : Owns G63 w65 w0.heap.size ([⟨3, 1, y64.length, .slice aw65 y64.length cw65, clw65⟩, ⟨79, 1, 1, .slice (some ⟨b36, 0, none⟩) 1 1, [.slice as42_0 ns42_0 cs42_0]⟩, ⟨4, 1, ns42_0, .slice as42_0 ns42_0 cs42_0, clw60⟩, ⟨140, 1, 1, .slice (some ⟨b24, 0, none⟩) 1 1, [.slice as42_1 ns42_1 cs42_1]⟩, ⟨3, 1, nq13_0, .slice aq13_0 nq13_0 cq13_0, claq13_0⟩]) := hO
    refine WL_val (v := (.pointer (some ⟨b24, 0, none⟩))) (by kernel_rfl) rfl ?_
    refine WL_val (rn_fld fd140_0 rfl) rfl ?_; refine WL_op rfl (OpP_store (vs := [.slice aw65 y64.length cw65]) sz25 hS hO (k := 3) rfl rfl rfl rfl rfl (one_all rfl) (Nat.le_of_ble_eq_true rfl) (fun w66 hS hO => ?_))
    have hO : Owns G63 w66 w0.heap.size ([⟨3, 1, y64.length, .slice aw65 y64.length cw65, clw65⟩, ⟨79, 1, 1, .slice (some ⟨b36, 0, none⟩) 1 1, [.slice as42_0 ns42_0 cs42_0]⟩, ⟨4, 1, ns42_0, .slice as42_0 ns42_0 cs42_0, clw60⟩, ⟨140, 1, 1, .slice (some ⟨b24, 0, none⟩) 1 1, [.slice aw65 y64.length cw65]⟩, ⟨3, 1, nq13_0, .slice aq13_0 nq13_0 cq13_0, claq13_0⟩]) := hO
    refine WL_nil ?_; refine WL_nil ?_
    have hO : Owns G63 w66 w0.heap.size ([⟨3, 1, y64.length, .slice aw65 y64.length cw65, clw65⟩, ⟨79, 1, 1, .slice (some ⟨b36, 0, none⟩) 1 1, [.slice as42_0 ns42_0 cs42_0]⟩, ⟨4, 1, ns42_0, .slice as42_0 ns42_0 cs42_0, clw60⟩, ⟨140, 1, 1, .slice (some ⟨b24, 0, none⟩) 1 1, [.slice aw65 y64.length cw65]⟩, ⟨3, 1, nq13_0, .slice aq13_0 nq13_0 cq13_0, claq13_0⟩]) := hO
    have H := Option.some.inj H; subst H
    exact ⟨_, rfl, _, _, l4_6, hS, hO, ⟨as42_0, ns42_0, cs42_0, clw60, aw65, y64.length, cw65, clw65, rfl, (Eq.trans hnhs42_0 (setIx_len hy59)), (hrw60.mono RBool_mono leG63), rfl, hrw65⟩⟩
   ·have H := ifF hb56 H; refine WC_skip ?_
    have hO : Owns G52 w55 w0.heap.size ([⟨3, 1, ns42_1, .slice as42_1 ns42_1 cs42_1, clas42_1⟩, ⟨79, 1, 1, .slice (some ⟨b36, 0, none⟩) 1 1, [.slice as42_0 ns42_0 cs42_0]⟩, ⟨4, 1, ns42_0, .slice as42_0 ns42_0 cs42_0, clas42_0⟩, ⟨140, 1, 1, .slice (some ⟨b24, 0, none⟩) 1 1, [.slice as42_1 ns42_1 cs42_1]⟩, ⟨3, 1, nq13_0, .slice aq13_0 nq13_0 cq13_0, claq13_0⟩]) := hO
    have H := Option.some.inj H; subst H
    exact ⟨_, rfl, _, _, leG52, hS, hO, ⟨as42_0, ns42_0, cs42_0, clas42_0, as42_1, ns42_1, cs42_1, clas42_1, rfl, hnhs42_0, (hs42_0.mono RBool_mono leG52), hnhs42_1, (hs42_1.mono RInt_mono leG52)⟩⟩
  ·rintro s42 G72 w71 L171 hres leG72 hS hO ⟨as42_0, ns42_0, cs42_0, clas42_0, as42_1, ns42_1, cs42_1, clas42_1, rfl, hnhs42_0, hs42_0, hnhs42_1, hs42_1⟩
   subst hres; refine WC_seq ?_; refine WC_seq ?_; obtain ⟨q73, hq73, H⟩ := bnd H; refine WC_cut (fun F w => ∃ (Fb : Fr) (G : Gm) (aq73_0 : Option Addr) (nq73_0 cq73_0 : Nat) (claq73_0 : List Value), F = upds Fb [(1, .pointer (some ⟨b4, 0, none⟩)), (2, .slice none 0 0), (3, .slice aq13_0 nq13_0 cq13_0), (5, .pointer (some ⟨b27, 0, none⟩)), (6, .pointer (some ⟨b36, 0, none⟩)), (9, .int .i64 q73.1), (10, .bool q73.2.1)] ∧ Gle G72 G ∧ Since w0.heap.size G0 w0 G w ∧ Owns G w w0.heap.size [⟨3, 1, nq73_0, .slice aq73_0 nq73_0 cq73_0, claq73_0⟩, ⟨79, 1, 1, .slice (some ⟨b36, 0, none⟩) 1 1, [.slice as42_0 ns42_0 cs42_0]⟩, ⟨4, 1, ns42_0, .slice as42_0 ns42_0 cs42_0, clas42_0⟩, ⟨140, 1, 1, .slice (some ⟨b24, 0, none⟩) 1 1, [.slice aq73_0 nq73_0 cq73_0]⟩, ⟨3, 1, nq13_0, .slice aq13_0 nq13_0 cq13_0, claq13_0⟩] ∧ nq73_0 = q73.2.2.all.length ∧ Rd RInt 1 G claq73_0 q73.2.2.all) ?_ ?_
   ·have Hoq73 := H; have H := hq73; refine WC_region ?_; refine WL_val (rn_load na138 rfl ((hS.sat.le leG72).cell (hcG31 0 _ rfl))) rfl ?_; refine WL_op rfl (OpP_in2 (N' := 27) [.pointer (some ⟨b24, 0, none⟩)] cb101 Try.func101 rfl rfl rfl rfl rfl rfl ?_); refine WC_seq ?_; refine WC_region ?_; refine WL_val (rn_assign (v := (.int .i64 0)) rfl) rfl ?_; refine WL_val (rn_assign (v := (.bool false)) rfl) rfl ?_; refine WL_nil ?_; refine WC_seq ?_; refine WC_region ?_; refine WL_val (rn_assign (v := (.int .i64 0)) rfl) rfl ?_; refine WL_nil ?_; refine WC_seq ?_; refine WC_seq ?_; refine WC_region ?_; refine WL_val (rn_move (v := (.pointer (some ⟨b24, 0, none⟩))) rfl) rfl ?_
    refine WL_val (v := (.pointer (some ⟨b24, 0, none⟩))) (by kernel_rfl) rfl ?_
    refine WL_val (rn_fld fd140_0 rfl) rfl ?_; refine WL_val (rn_load na25 rfl (own_cell hO (k := 3) rfl (j := 0) rfl)) rfl ?_; refine WL_val (rn_len (m := s42.2.all.length) sl25 rfl rfl hnhs42_1) rfl ?_; refine WL_val (rn_eql rfl rfl) rfl ?_; refine WL_nil ?_; refine WC_cond rfl (fun hb74 => ?_) (fun hb74 => ?_)
    ·have H := ifT hb74 H; refine WC_seq ?_; refine WC_region ?_; refine WL_val (rn_move (v := (.int .i64 0)) rfl) rfl ?_; refine WL_val (rn_assign (v := (.int .i64 0)) rfl) rfl ?_; refine WL_val (rn_assign (v := (.bool false)) rfl) rfl ?_; refine WL_nil ?_; refine WC_ret ?_; refine ⟨(.int .i64 0), (.bool false), rfl, rfl, ?_⟩; refine WL_val (rn_move (v := (.tuple #[.int .i64 0, .bool false])) rfl) rfl ?_; refine WL_val (rn_extract (v := (.int .i64 0)) rfl rfl) rfl ?_; refine WL_val (rn_extract (v := (.bool false)) rfl rfl) rfl ?_; refine WL_val (rn_assign (v := (.int .i64 0)) rfl) rfl ?_; refine WL_val (rn_assign (v := (.bool false)) rfl) rfl ?_; refine WL_nil ?_
     have hO : Owns G72 w71 w0.heap.size ([⟨3, 1, ns42_1, .slice as42_1 ns42_1 cs42_1, clas42_1⟩, ⟨79, 1, 1, .slice (some ⟨b36, 0, none⟩) 1 1, [.slice as42_0 ns42_0 cs42_0]⟩, ⟨4, 1, ns42_0, .slice as42_0 ns42_0 cs42_0, clas42_0⟩, ⟨140, 1, 1, .slice (some ⟨b24, 0, none⟩) 1 1, [.slice as42_1 ns42_1 cs42_1]⟩, ⟨3, 1, nq13_0, .slice aq13_0 nq13_0 cq13_0, claq13_0⟩]) := hO
     have H := Option.some.inj H; subst H
     exact ⟨_, G72, as42_1, ns42_1, cs42_1, clas42_1, upds_self _ _ ⟨rfl, rfl, rfl, rfl, rfl, rfl, rfl, trivial⟩, Gle.refl _, hS, hO, hnhs42_1, hs42_1⟩
    ·have H := ifF hb74 H; refine WC_skip ?_; refine WC_seq ?_; have hS := hS.keep (below_drew _); have hO := hO.below (below_drew _)
     refine WC_regionD mixedO (fun w => Sat G72 w ∧ Owns G72 w w0.heap.size [⟨3, 1, ns42_1, .slice as42_1 ns42_1 cs42_1, clas42_1⟩, ⟨79, 1, 1, .slice (some ⟨b36, 0, none⟩) 1 1, [.slice as42_0 ns42_0 cs42_0]⟩, ⟨4, 1, ns42_0, .slice as42_0 ns42_0 cs42_0, clas42_0⟩, ⟨140, 1, 1, .slice (some ⟨b24, 0, none⟩) 1 1, [.slice as42_1 ns42_1 cs42_1]⟩, ⟨3, 1, nq13_0, .slice aq13_0 nq13_0 cq13_0, claq13_0⟩]) (.fl 0 (.fl 1 (.fl 2 (.fl 3 (.fl 4 (.fl 5 (.fl 6 (.fl 7 (.fl 8 (.fl 9 (.fl 10 (.fl 11 (.on 12 (.on 13 (.on 14 (.on 15 .nil)))))))))))))))) (by kernel_rfl) rfl (by kernel_rfl) ⟨hS.sat, hO⟩ ?_
     refine WD_val rfl (fun w hw => rn_move (v := (.pointer (some ⟨b24, 0, none⟩))) rfl) rfl ?_; refine WD_val rfl (fun w hw => rn_move (v := (.pointer (some ⟨b24, 0, none⟩))) rfl) rfl ?_
     refine WD_val (v := (.pointer (some ⟨b24, 0, none⟩))) rfl (fun w hw => by kernel_rfl) rfl ?_
     refine WD_val rfl (fun w hw => rn_fld fd140_0 rfl) rfl ?_; refine WD_val rfl (fun w hw => rn_load na25 rfl (own_cell hw.2 (k := 3) rfl (j := 0) rfl)) rfl ?_; obtain ⟨y75, hy75, H⟩ := bnd H; refine WD_idxO rfl sl25 hO (k := 0) rfl hnhs42_1 hs42_1 hy75 rfl rfl rfl ?_
     rintro b76 ob76 _ hb76 _ hcb76 ⟨⟩
     refine WD_val rfl (fun w hw => rn_load na3 rfl (own_cellB hw.2 (k := 0) rfl hb76 _ 0 (hcb76 0 _ rfl))) rfl ?_; refine WD_val rfl (fun w hw => rn_move (v := (.pointer (some ⟨b24, 0, none⟩))) rfl) rfl ?_
     refine WD_val (v := (.pointer (some ⟨b24, 0, none⟩))) rfl (fun w hw => by kernel_rfl) rfl ?_
     refine WD_val rfl (fun w hw => rn_fld fd140_0 rfl) rfl ?_; refine WD_val rfl (fun w hw => rn_load na25 rfl (own_cell hw.2 (k := 3) rfl (j := 0) rfl)) rfl ?_; obtain ⟨y77, hy77, H⟩ := bnd H; obtain ⟨hl0, hl1, hl2, _⟩ := subL_some hy77
     have hln : ns42_1 = s42.2.all.length := hnhs42_1
     obtain ⟨_, hnc, ay77, cy77, cly77, hsl, hOy77, hry77⟩ := hO.resl (k := 0) rfl hnhs42_1 hs42_1 hy77 (q := ns42_1) ((Int.toNat_natCast _).trans hln.symm)
     refine WD_val (v := (.slice ay77 y77.length cy77)) rfl (fun w hw => (rn_sliceL sl25 rfl rfl hl0 (by omega) _).trans (congrArg (fun v => Result.ok (Next.value v) _) hsl)) rfl ?_
     refine WD_op rfl rfl (OpP_val (rn_assign (v := (.int .i64 y75)) rfl) rfl ?_); refine ⟨fun _ => ⟨hS.sat, hO⟩, ?_⟩
     refine WD_op rfl rfl (OpP_val (v := (.pointer (some ⟨b24, 0, none⟩))) (by kernel_rfl) rfl ?_)
     refine ⟨fun h => nomore (by kernel_rfl) h, ?_⟩
     refine WD_op rfl rfl (OpP_val (rn_fld fd140_0 rfl) rfl ?_)
     refine ⟨fun h => nomore (by kernel_rfl) h, ?_⟩
     have hO : Owns G72 w71.drew w0.heap.size ([⟨3, 1, y77.length, .slice ay77 y77.length cy77, cly77⟩, ⟨79, 1, 1, .slice (some ⟨b36, 0, none⟩) 1 1, [.slice as42_0 ns42_0 cs42_0]⟩, ⟨4, 1, ns42_0, .slice as42_0 ns42_0 cs42_0, clas42_0⟩, ⟨140, 1, 1, .slice (some ⟨b24, 0, none⟩) 1 1, [.slice as42_1 ns42_1 cs42_1]⟩, ⟨3, 1, nq13_0, .slice aq13_0 nq13_0 cq13_0, claq13_0⟩]) := hOy77
     refine WD_op rfl rfl (OpP_store (vs := [.slice ay77 y77.length cy77]) sz25 hS hO (k := 3) rfl rfl rfl rfl rfl (one_all rfl) (Nat.le_of_ble_eq_true rfl) (fun w78 hS hO => ?_))
     have hO : Owns G72 w78 w0.heap.size ([⟨3, 1, y77.length, .slice ay77 y77.length cy77, cly77⟩, ⟨79, 1, 1, .slice (some ⟨b36, 0, none⟩) 1 1, [.slice as42_0 ns42_0 cs42_0]⟩, ⟨4, 1, ns42_0, .slice as42_0 ns42_0 cs42_0, clas42_0⟩, ⟨140, 1, 1, .slice (some ⟨b24, 0, none⟩) 1 1, [.slice ay77 y77.length cy77]⟩, ⟨3, 1, nq13_0, .slice aq13_0 nq13_0 cq13_0, claq13_0⟩]) := hO
     refine ⟨fun h => nomore (by kernel_rfl) h, ?_⟩
     refine WD_nil ?_; refine WC_seq ?_; refine WC_region ?_; refine WL_val (rn_move (v := (.int .i64 y75)) rfl) rfl ?_; refine WL_val (rn_assign (v := (.int .i64 y75)) rfl) rfl ?_; refine WL_val (rn_assign (v := (.bool true)) rfl) rfl ?_; refine WL_nil ?_; refine WC_ret ?_; refine ⟨(.int .i64 y75), (.bool true), rfl, rfl, ?_⟩; refine WL_val (rn_move (v := (.tuple #[.int .i64 y75, .bool true])) rfl) rfl ?_; refine WL_val (rn_extract (v := (.int .i64 y75)) rfl rfl) rfl ?_; refine WL_val (rn_extract (v := (.bool true)) rfl rfl) rfl ?_; refine WL_val (rn_assign (v := (.int .i64 y75)) rfl) rfl ?_; refine WL_val (rn_assign (v := (.bool true)) rfl) rfl ?_; refine WL_nil ?_
     have hO : Owns G72 w78 w0.heap.size ([⟨3, 1, y77.length, .slice ay77 y77.length cy77, cly77⟩, ⟨79, 1, 1, .slice (some ⟨b36, 0, none⟩) 1 1, [.slice as42_0 ns42_0 cs42_0]⟩, ⟨4, 1, ns42_0, .slice as42_0 ns42_0 cs42_0, clas42_0⟩, ⟨140, 1, 1, .slice (some ⟨b24, 0, none⟩) 1 1, [.slice ay77 y77.length cy77]⟩, ⟨3, 1, nq13_0, .slice aq13_0 nq13_0 cq13_0, claq13_0⟩]) := hO
     have H := Option.some.inj H; subst H
     exact ⟨_, G72, ay77, y77.length, cy77, cly77, upds_self _ _ ⟨rfl, rfl, rfl, rfl, rfl, rfl, rfl, trivial⟩, Gle.refl _, hS, hO, rfl, hry77⟩
   ·rintro F w79 ⟨Fb, G80, aq73_0, nq73_0, cq73_0, claq73_0, rfl, leG80, hS, hO, hnhq73_0, hq73_0⟩
    obtain ⟨q83, hq83, H⟩ := bnd H; refine WC_cut (fun F w => ∃ (Fb : Fr) (G : Gm) (aq83_0 : Option Addr) (nq83_0 cq83_0 : Nat) (claq83_0 : List Value) (aq83_1 : Option Addr) (nq83_1 cq83_1 : Nat) (claq83_1 : List Value) (aq83_2 : Option Addr) (nq83_2 cq83_2 : Nat) (claq83_2 : List Value), F = upds Fb [(1, .pointer (some ⟨b4, 0, none⟩)), (3, .slice aq83_0 nq83_0 cq83_0)] ∧ Gle G80 G ∧ Since w0.heap.size G0 w0 G w ∧ Owns G w w0.heap.size [⟨3, 1, nq83_2, .slice aq83_2 nq83_2 cq83_2, claq83_2⟩, ⟨79, 1, 1, .slice (some ⟨b36, 0, none⟩) 1 1, [.slice aq83_1 nq83_1 cq83_1]⟩, ⟨4, 1, nq83_1, .slice aq83_1 nq83_1 cq83_1, claq83_1⟩, ⟨140, 1, 1, .slice (some ⟨b24, 0, none⟩) 1 1, [.slice aq83_2 nq83_2 cq83_2]⟩, ⟨3, 1, nq83_0, .slice aq83_0 nq83_0 cq83_0, claq83_0⟩] ∧ nq83_0 = q83.1.length ∧ Rd RInt 1 G claq83_0 q83.1 ∧ nq83_1 = q83.2.1.length ∧ Rd RBool 1 G claq83_1 q83.2.1 ∧ nq83_2 = q83.2.2.all.length ∧ Rd RInt 1 G claq83_2 q83.2.2.all) ?_ ?_
    ·refine WC_block (WC_loop hq83 (fun s81 F w => ∃ (Fb : Fr) (G : Gm) (as81_0 : Option Addr) (ns81_0 cs81_0 : Nat) (clas81_0 : List Value) (as81_1 : Option Addr) (ns81_1 cs81_1 : Nat) (clas81_1 : List Value) (as81_2 : Option Addr) (ns81_2 cs81_2 : Nat) (clas81_2 : List Value), F = upds Fb [(1, .pointer (some ⟨b4, 0, none⟩)), (2, .slice none 0 0), (3, .slice as81_0 ns81_0 cs81_0), (5, .pointer (some ⟨b27, 0, none⟩)), (6, .pointer (some ⟨b36, 0, none⟩)), (9, .int .i64 s81.2.1), (10, .bool s81.2.2.1)] ∧ Gle G80 G ∧ Since w0.heap.size G0 w0 G w ∧ Owns G w w0.heap.size [⟨3, 1, ns81_2, .slice as81_2 ns81_2 cs81_2, clas81_2⟩, ⟨79, 1, 1, .slice (some ⟨b36, 0, none⟩) 1 1, [.slice as81_1 ns81_1 cs81_1]⟩, ⟨4, 1, ns81_1, .slice as81_1 ns81_1 cs81_1, clas81_1⟩, ⟨140, 1, 1, .slice (some ⟨b24, 0, none⟩) 1 1, [.slice as81_2 ns81_2 cs81_2]⟩, ⟨3, 1, ns81_0, .slice as81_0 ns81_0 cs81_0, clas81_0⟩] ∧ ns81_0 = s81.1.length ∧ Rd RInt 1 G clas81_0 s81.1 ∧ ns81_1 = s81.2.2.2.1.length ∧ Rd RBool 1 G clas81_1 s81.2.2.2.1 ∧ ns81_2 = s81.2.2.2.2.all.length ∧ Rd RInt 1 G clas81_2 s81.2.2.2.2.all) ?_ ?_)
     ·have hO : Owns G80 w79 w0.heap.size ([⟨3, 1, nq73_0, .slice aq73_0 nq73_0 cq73_0, claq73_0⟩, ⟨79, 1, 1, .slice (some ⟨b36, 0, none⟩) 1 1, [.slice as42_0 ns42_0 cs42_0]⟩, ⟨4, 1, ns42_0, .slice as42_0 ns42_0 cs42_0, clas42_0⟩, ⟨140, 1, 1, .slice (some ⟨b24, 0, none⟩) 1 1, [.slice aq73_0 nq73_0 cq73_0]⟩, ⟨3, 1, nq13_0, .slice aq13_0 nq13_0 cq13_0, claq13_0⟩]) := hO
      have l2_5 := (leG31.trans leG72).trans leG80
      exact ⟨_, G80, aq13_0, nq13_0, cq13_0, claq13_0, as42_0, ns42_0, cs42_0, clas42_0, aq73_0, nq73_0, cq73_0, claq73_0, upds_self _ _ ⟨rfl, rfl, rfl, rfl, rfl, rfl, rfl, trivial⟩, Gle.refl _, hS, hO, hnhq13_0, (hq13_0.mono RInt_mono l2_5), hnhs42_0, (hs42_0.mono RBool_mono leG80), hnhq73_0, hq73_0⟩
     ·rintro s81 F w85 t84 ⟨Fb, G86, as81_0, ns81_0, cs81_0, clas81_0, as81_1, ns81_1, cs81_1, clas81_1, as81_2, ns81_2, cs81_2, clas81_2, rfl, leG86, hS, hO, hnhs81_0, hs81_0, hnhs81_1, hs81_1, hnhs81_2, hs81_2⟩
      intro H1 hqq83
      have Hoq83 := H; have H := H1
      unfold f75_b2 at H
      refine WC_seq ?_; refine WC_seq ?_; refine WC_region ?_; refine WL_val (rn_move (v := (.bool s81.2.2.1)) rfl) rfl ?_; refine WL_nil ?_; refine WC_cond rfl (fun hb87 => ?_) (fun hb87 => ?_)
      ·have H := ifT hb87 H; refine WC_skip ?_; refine WC_seq ?_; refine WC_block ?_; refine WC_seq ?_; refine WC_region ?_; refine WL_val (rn_fld fd111_0 rfl) rfl ?_; refine WL_val (rn_fld fd46_3 rfl) rfl ?_
       have l1_6 := ((l1_3.trans leG72).trans leG80).trans leG86
       refine WL_val (rn_load na44 rfl ((hS.sat.le l1_6).cell (hcb4 3 _ rfl))) rfl ?_; refine WL_val (rn_move (v := (.int .i64 s81.2.1)) rfl) rfl ?_; obtain ⟨y88, hy88, H⟩ := bnd H
       have l0_6 := ((l0_3.trans leG72).trans leG80).trans leG86
       refine WL_idx sl44 (h3.mono RTBaneTrip_mono l0_6) hy88 rfl rfl rfl ?_
       rintro b89 o89 _ hcb89 _ ⟨⟩
       refine WL_val (rn_loadA ag109 (cs := [.int .i64 y88.Day, .int .i64 y88.From, .int .i64 y88.To, .int .i64 y88.Cost]) rfl rfl (fun j v hj => hS.sat.cell (hcb89.drop_take 0 4 j v hj))) rfl ?_
       refine WL_op rfl (OpP_newO (v := fun b => .pointer (some ⟨b, 0, none⟩)) (cs := [.int .i64 0, .int .i64 0, .int .i64 0, .int .i64 0]) (e := 109) (by kernel_rfl) hS.sat hO rfl 4 1 rfl (by decide) (fun b90 w91 hb hO => ?_))
       have hS := hS.keep hb; refine WL_op rfl (OpP_store (vs := [.int .i64 y88.Day, .int .i64 y88.From, .int .i64 y88.To, .int .i64 y88.Cost]) sz109 hS hO (k := 0) rfl rfl rfl rfl rfl (one_all rfl) (Nat.le_of_ble_eq_true rfl) (fun w93 hS hO => ?_))
       have hO : Owns G86 w93 w0.heap.size ([⟨109, 4, 1, .slice (some ⟨b90, 0, none⟩) 1 1, [.int .i64 y88.Day, .int .i64 y88.From, .int .i64 y88.To, .int .i64 y88.Cost]⟩, ⟨3, 1, ns81_2, .slice as81_2 ns81_2 cs81_2, clas81_2⟩, ⟨79, 1, 1, .slice (some ⟨b36, 0, none⟩) 1 1, [.slice as81_1 ns81_1 cs81_1]⟩, ⟨4, 1, ns81_1, .slice as81_1 ns81_1 cs81_1, clas81_1⟩, ⟨140, 1, 1, .slice (some ⟨b24, 0, none⟩) 1 1, [.slice as81_2 ns81_2 cs81_2]⟩, ⟨3, 1, ns81_0, .slice as81_0 ns81_0 cs81_0, clas81_0⟩]) := hO
       obtain ⟨G94, leG94, hS, hO, hqG94, _⟩ := hO.freeze hS (k := 0) rfl
       have hcG94 : Cells G94 b90 0 [.int .i64 y88.Day, .int .i64 y88.From, .int .i64 y88.To, .int .i64 y88.Cost] := (hqG94 _ _ _ _ rfl)
       refine WL_nil ?_; refine WC_seq ?_; obtain ⟨q95, hq95, H⟩ := bnd H; refine WC_cut (fun F w => ∃ (Fb : Fr) (G : Gm) (aq95_0 : Option Addr) (nq95_0 cq95_0 : Nat) (claq95_0 : List Value), F = upds Fb [(1, .pointer (some ⟨b4, 0, none⟩)), (2, .slice none 0 0), (3, .slice aq95_0 nq95_0 cq95_0), (5, .pointer (some ⟨b27, 0, none⟩)), (6, .pointer (some ⟨b36, 0, none⟩)), (11, .pointer (some ⟨b90, 0, none⟩))] ∧ Gle G94 G ∧ Since w0.heap.size G0 w0 G w ∧ Owns G w w0.heap.size [⟨3, 1, ns81_2, .slice as81_2 ns81_2 cs81_2, clas81_2⟩, ⟨79, 1, 1, .slice (some ⟨b36, 0, none⟩) 1 1, [.slice as81_1 ns81_1 cs81_1]⟩, ⟨4, 1, ns81_1, .slice as81_1 ns81_1 cs81_1, clas81_1⟩, ⟨140, 1, 1, .slice (some ⟨b24, 0, none⟩) 1 1, [.slice as81_2 ns81_2 cs81_2]⟩, ⟨3, 1, nq95_0, .slice aq95_0 nq95_0 cq95_0, claq95_0⟩] ∧ nq95_0 = q95.length ∧ Rd RInt 1 G claq95_0 q95) ?_ ?_
       ·have Hoq95 := H; have H := hq95; refine WC_seq ?_; obtain ⟨q96, hq96, H⟩ := bnd H; refine WC_cut (fun F w => ∃ (Fb : Fr) (G : Gm), F = upds Fb [(1, .pointer (some ⟨b4, 0, none⟩)), (2, .slice none 0 0), (3, .slice as81_0 ns81_0 cs81_0), (5, .pointer (some ⟨b27, 0, none⟩)), (6, .pointer (some ⟨b36, 0, none⟩)), (11, .pointer (some ⟨b90, 0, none⟩)), (84, .bool q96)] ∧ Gle G94 G ∧ Since w0.heap.size G0 w0 G w ∧ Owns G w w0.heap.size [⟨3, 1, ns81_2, .slice as81_2 ns81_2 cs81_2, clas81_2⟩, ⟨79, 1, 1, .slice (some ⟨b36, 0, none⟩) 1 1, [.slice as81_1 ns81_1 cs81_1]⟩, ⟨4, 1, ns81_1, .slice as81_1 ns81_1 cs81_1, clas81_1⟩, ⟨140, 1, 1, .slice (some ⟨b24, 0, none⟩) 1 1, [.slice as81_2 ns81_2 cs81_2]⟩, ⟨3, 1, ns81_0, .slice as81_0 ns81_0 cs81_0, clas81_0⟩]) ?_ ?_
        ·have Hoq96 := H; have H := hq96; have hS := hS.keep (below_drew _); have hO := hO.below (below_drew _)
         refine WC_regionD mixedO (fun w => Sat G94 w ∧ Owns G94 w w0.heap.size [⟨3, 1, ns81_2, .slice as81_2 ns81_2 cs81_2, clas81_2⟩, ⟨79, 1, 1, .slice (some ⟨b36, 0, none⟩) 1 1, [.slice as81_1 ns81_1 cs81_1]⟩, ⟨4, 1, ns81_1, .slice as81_1 ns81_1 cs81_1, clas81_1⟩, ⟨140, 1, 1, .slice (some ⟨b24, 0, none⟩) 1 1, [.slice as81_2 ns81_2 cs81_2]⟩, ⟨3, 1, ns81_0, .slice as81_0 ns81_0 cs81_0, clas81_0⟩]) (.fl 0 (.on 1 (.on 2 (.on 3 (.on 4 (.on 5 (.on 6 (.fl 7 (.fl 8 (.fl 9 (.on 10 (.on 11 (.on 12 (.on 13 (.on 14 (.on 15 .nil)))))))))))))))) (by kernel_rfl) rfl (by kernel_rfl) ⟨hS.sat, hO⟩ ?_
         refine WD_val rfl (fun w hw => rn_move (v := (.slice as81_0 ns81_0 cs81_0)) rfl) rfl ?_; refine WD_op rfl rfl (OpP_val (rn_fld fd109_2 rfl) rfl ?_); refine ⟨fun _ => ⟨hS.sat, hO⟩, ?_⟩; refine WD_op rfl rfl (OpP_val (rn_load na3 rfl (hS.sat.cell (hcG94 2 _ rfl))) rfl ?_); refine ⟨fun _ => ⟨hS.sat, hO⟩, ?_⟩; obtain ⟨y97, hy97, H⟩ := bnd H; refine WD_op rfl rfl (OpP_idxO sl25 hO (k := 4) rfl hnhs81_0 (hs81_0.mono RInt_mono leG94) hy97 rfl rfl rfl ?_)
         rintro b98 ob98 _ hb98 _ hcb98 ⟨⟩
         refine ⟨fun _ => ⟨hS.sat, hO⟩, ?_⟩; refine WD_op rfl rfl (OpP_val (rn_load na3 rfl (own_cellB hO (k := 4) rfl hb98 _ 0 (hcb98 0 _ rfl))) rfl ?_); refine ⟨fun _ => ⟨hS.sat, hO⟩, ?_⟩; refine WD_op rfl rfl (OpP_val (rn_lss rfl rfl) rfl ?_); refine ⟨fun _ => ⟨hS.sat, hO⟩, ?_⟩; refine WD_op rfl rfl (OpP_val (rn_move (v := (.bool (decide (y97 < 0)))) rfl) rfl ?_); refine ⟨fun _ => ⟨hS.sat, hO⟩, ?_⟩
         rcases bcases (decide (y97 < 0)) with hb99 | hb99
         ·have H := ifT hb99 H; refine WD_skip rfl rfl hb99 rfl rfl rfl ?_; refine WD_skip rfl rfl hb99 rfl rfl rfl ?_; refine WD_skip rfl rfl hb99 rfl rfl rfl ?_; refine WD_skipS rfl rfl hb99 rfl rfl rfl (fun _ => ⟨hS.sat, hO⟩) ?_; refine WD_skipS rfl rfl hb99 rfl rfl rfl (fun _ => ⟨hS.sat, hO⟩) ?_; refine WD_skipS rfl rfl hb99 rfl rfl rfl (fun _ => ⟨hS.sat, hO⟩) ?_; refine WD_skipS rfl rfl hb99 rfl rfl rfl (fun _ => ⟨hS.sat, hO⟩) ?_
          refine WD_skipS rfl rfl hb99 rfl rfl rfl (fun h => nomore (by kernel_rfl) h) ?_
          refine WD_op rfl rfl (OpP_val (rn_pickT (v := (.bool true)) rfl hb99 rfl) rfl ?_)
          refine ⟨fun h => nomore (by kernel_rfl) h, ?_⟩
          refine WD_nil ?_
          have hO : Owns G94 w93.drew w0.heap.size ([⟨3, 1, ns81_2, .slice as81_2 ns81_2 cs81_2, clas81_2⟩, ⟨79, 1, 1, .slice (some ⟨b36, 0, none⟩) 1 1, [.slice as81_1 ns81_1 cs81_1]⟩, ⟨4, 1, ns81_1, .slice as81_1 ns81_1 cs81_1, clas81_1⟩, ⟨140, 1, 1, .slice (some ⟨b24, 0, none⟩) 1 1, [.slice as81_2 ns81_2 cs81_2]⟩, ⟨3, 1, ns81_0, .slice as81_0 ns81_0 cs81_0, clas81_0⟩]) := hO
          have H := Option.some.inj H; subst H
          exact ⟨_, G94, upds_self _ _ ⟨rfl, rfl, rfl, rfl, rfl, rfl, rfl, trivial⟩, Gle.refl _, hS, hO⟩
         ·have H := ifF hb99 H; refine WD_valY rfl rfl hb99 rfl rfl (fun w hw => rn_fld fd109_0 rfl) rfl ?_; refine WD_valY rfl rfl hb99 rfl rfl (fun w hw => rn_load na3 rfl (hw.1.cell (hcG94 0 _ rfl))) rfl ?_; refine WD_valY rfl rfl hb99 rfl rfl (fun w hw => rn_move (v := (.slice as81_0 ns81_0 cs81_0)) rfl) rfl ?_; refine WD_opY rfl rfl rfl hb99 rfl rfl (OpP_val (rn_fld fd109_2 rfl) rfl ?_); refine ⟨fun _ => ⟨hS.sat, hO⟩, ?_⟩; refine WD_opY rfl rfl rfl hb99 rfl rfl (OpP_val (rn_load na3 rfl (hS.sat.cell (hcG94 2 _ rfl))) rfl ?_); refine ⟨fun _ => ⟨hS.sat, hO⟩, ?_⟩; refine WD_opY rfl rfl rfl hb99 rfl rfl (OpP_idxO sl25 hO (k := 4) rfl hnhs81_0 (hs81_0.mono RInt_mono leG94) hy97 rfl rfl rfl ?_)
          rintro b100 ob100 _ hb100 _ hcb100 ⟨⟩
          refine ⟨fun _ => ⟨hS.sat, hO⟩, ?_⟩; refine WD_opY rfl rfl rfl hb99 rfl rfl (OpP_val (rn_load na3 rfl (own_cellB hO (k := 4) rfl hb100 _ 0 (hcb100 0 _ rfl))) rfl ?_); refine ⟨fun _ => ⟨hS.sat, hO⟩, ?_⟩; refine WD_opY rfl rfl rfl hb99 rfl rfl (OpP_val (rn_lss rfl rfl) rfl ?_)
          refine ⟨fun h => nomore (by kernel_rfl) h, ?_⟩
          refine WD_op rfl rfl (OpP_val (rn_pickF (v := (.bool (decide (y88.Day < y97)))) rfl hb99 rfl) rfl ?_)
          refine ⟨fun h => nomore (by kernel_rfl) h, ?_⟩
          refine WD_nil ?_
          have hO : Owns G94 w93.drew w0.heap.size ([⟨3, 1, ns81_2, .slice as81_2 ns81_2 cs81_2, clas81_2⟩, ⟨79, 1, 1, .slice (some ⟨b36, 0, none⟩) 1 1, [.slice as81_1 ns81_1 cs81_1]⟩, ⟨4, 1, ns81_1, .slice as81_1 ns81_1 cs81_1, clas81_1⟩, ⟨140, 1, 1, .slice (some ⟨b24, 0, none⟩) 1 1, [.slice as81_2 ns81_2 cs81_2]⟩, ⟨3, 1, ns81_0, .slice as81_0 ns81_0 cs81_0, clas81_0⟩]) := hO
          have H := Option.some.inj H; subst H
          exact ⟨_, G94, upds_self _ _ ⟨rfl, rfl, rfl, rfl, rfl, rfl, rfl, trivial⟩, Gle.refl _, hS, hO⟩
        ·rintro F w101 ⟨Fb, G102, rfl, leG102, hS, hO⟩
         refine WC_cond rfl (fun hb103 => ?_) (fun hb103 => ?_)
         ·have H := ifT hb103 H; refine WC_region ?_; refine WL_val (rn_move (v := (.slice as81_0 ns81_0 cs81_0)) rfl) rfl ?_; refine WL_val (rn_fld fd109_2 rfl) rfl ?_; refine WL_val (rn_load na3 rfl ((hS.sat.le leG102).cell (hcG94 2 _ rfl))) rfl ?_; refine WL_val (rn_fld fd109_0 rfl) rfl ?_; refine WL_val (rn_load na3 rfl ((hS.sat.le leG102).cell (hcG94 0 _ rfl))) rfl ?_; obtain ⟨y104, hy104, H⟩ := bnd H
          have l6_8 := leG94.trans leG102
          refine WL_idxO sl25 hO (k := 4) rfl hnhs81_0 (hs81_0.mono RInt_mono l6_8) hy104 rfl rfl rfl ?_
          rintro b105 ob105 _ hb105 _ hcb105 ⟨⟩
          obtain ⟨y106, hy106, H⟩ := bnd H; refine WL_op rfl (OpP_storeE (vs := [.int .i64 y88.Day]) (cs := [.int .i64 y104]) (j := 0) (y := y88.Day) sz3 hS hO (k := 4) rfl hnhs81_0 rfl (hs81_0.mono RInt_mono l6_8) hb105 rfl hcb105 hy106 rfl rfl rfl rfl rfl (one_all rfl) (Nat.le_of_ble_eq_true rfl) (fun w107 clw107 hS hO hrw107 => ?_))
          have hO : Owns G102 w107 w0.heap.size ([⟨3, 1, ns81_2, .slice as81_2 ns81_2 cs81_2, clas81_2⟩, ⟨79, 1, 1, .slice (some ⟨b36, 0, none⟩) 1 1, [.slice as81_1 ns81_1 cs81_1]⟩, ⟨4, 1, ns81_1, .slice as81_1 ns81_1 cs81_1, clas81_1⟩, ⟨140, 1, 1, .slice (some ⟨b24, 0, none⟩) 1 1, [.slice as81_2 ns81_2 cs81_2]⟩, ⟨3, 1, ns81_0, .slice as81_0 ns81_0 cs81_0, clw107⟩]) := hO
          refine WL_nil ?_
          have hO : Owns G102 w107 w0.heap.size ([⟨3, 1, ns81_2, .slice as81_2 ns81_2 cs81_2, clas81_2⟩, ⟨79, 1, 1, .slice (some ⟨b36, 0, none⟩) 1 1, [.slice as81_1 ns81_1 cs81_1]⟩, ⟨4, 1, ns81_1, .slice as81_1 ns81_1 cs81_1, clas81_1⟩, ⟨140, 1, 1, .slice (some ⟨b24, 0, none⟩) 1 1, [.slice as81_2 ns81_2 cs81_2]⟩, ⟨3, 1, ns81_0, .slice as81_0 ns81_0 cs81_0, clw107⟩]) := hO
          have H := Option.some.inj H; subst H
          exact ⟨_, G102, as81_0, ns81_0, cs81_0, clw107, upds_self _ _ ⟨rfl, rfl, rfl, rfl, rfl, rfl, trivial⟩, leG102, hS, hO, (Eq.trans hnhs81_0 (setIx_len hy106)), hrw107⟩
         ·have H := ifF hb103 H; refine WC_skip ?_
          have hO : Owns G102 w101 w0.heap.size ([⟨3, 1, ns81_2, .slice as81_2 ns81_2 cs81_2, clas81_2⟩, ⟨79, 1, 1, .slice (some ⟨b36, 0, none⟩) 1 1, [.slice as81_1 ns81_1 cs81_1]⟩, ⟨4, 1, ns81_1, .slice as81_1 ns81_1 cs81_1, clas81_1⟩, ⟨140, 1, 1, .slice (some ⟨b24, 0, none⟩) 1 1, [.slice as81_2 ns81_2 cs81_2]⟩, ⟨3, 1, ns81_0, .slice as81_0 ns81_0 cs81_0, clas81_0⟩]) := hO
          have H := Option.some.inj H; subst H
          have l6_8 := leG94.trans leG102
          exact ⟨_, G102, as81_0, ns81_0, cs81_0, clas81_0, upds_self _ _ ⟨rfl, rfl, rfl, rfl, rfl, rfl, trivial⟩, leG102, hS, hO, hnhs81_0, (hs81_0.mono RInt_mono l6_8)⟩
       ·rintro F w108 ⟨Fb, G109, aq95_0, nq95_0, cq95_0, claq95_0, rfl, leG109, hS, hO, hnhq95_0, hq95_0⟩
        refine WC_seq ?_; refine WC_region ?_
        have l1_8 := (l1_6.trans leG94).trans leG109
        refine WL_val (rn_loadA ag111 (cs := [.int .i64 x0.BaneSea.Islets, .slice a1 n1 c1, .slice a2 n2 c2, .slice a3 n3 c3, .int .i64 x0.BaneSea.Wait, .int .i64 x0.shut]) rfl rfl (fun j v hj => (hS.sat.le l1_8).cell (hcb4.drop_take 0 6 j v hj))) rfl ?_
        have l0_8 := (l0_6.trans leG94).trans leG109
        have hI110 := f77_it (x0 := x0) (a1 := a1) (n1 := n1) (c1 := c1) (a2 := a2) (n2 := n2) (c2 := c2) (a3 := a3) (n3 := n3) (c3 := c3) (h3.mono RTBaneTrip_mono l0_8)
        refine WL_val (rn_func (vs := [.agg #[.int .i64 x0.BaneSea.Islets, .slice a1 n1 c1, .slice a2 n2 c2, .slice a3 n3 c3, .int .i64 x0.BaneSea.Wait, .int .i64 x0.shut]]) (us := []) rfl rfl) rfl ?_; refine WL_nil ?_; refine WC_block ?_
        have hO : Owns G109 w108 w0.heap.size ([⟨3, 1, ns81_2, .slice as81_2 ns81_2 cs81_2, clas81_2⟩, ⟨79, 1, 1, .slice (some ⟨b36, 0, none⟩) 1 1, [.slice as81_1 ns81_1 cs81_1]⟩, ⟨4, 1, ns81_1, .slice as81_1 ns81_1 cs81_1, clas81_1⟩, ⟨140, 1, 1, .slice (some ⟨b24, 0, none⟩) 1 1, [.slice as81_2 ns81_2 cs81_2]⟩, ⟨3, 1, nq95_0, .slice aq95_0 nq95_0 cq95_0, claq95_0⟩]) := hO
        have l6_8 := leG94.trans leG109
        obtain ⟨q113, hq113, H⟩ := bnd H; refine WC_range (xs := openL x0.shut 0 x0.BaneSea.Trips) (enc := encT) (bd := f75_b3 x0 y88) (fi := [.agg #[.int .i64 x0.BaneSea.Islets, .slice a1 n1 c1, .slice a2 n2 c2, .slice a3 n3 c3, .int .i64 x0.BaneSea.Wait, .int .i64 x0.shut]]) (ca := []) cb77 hI110 rfl (fun _ => rfl) rfl hq113 (fun (s111 : (List Bool) × TQueue_int_) (G : Gm) (L : List Row) => ∃ (as111_0 : Option Addr) (ns111_0 cs111_0 : Nat) (clas111_0 : List Value) (as111_1 : Option Addr) (ns111_1 cs111_1 : Nat) (clas111_1 : List Value), L = [⟨3, 1, ns111_1, .slice as111_1 ns111_1 cs111_1, clas111_1⟩, ⟨79, 1, 1, .slice (some ⟨b36, 0, none⟩) 1 1, [.slice as111_0 ns111_0 cs111_0]⟩, ⟨4, 1, ns111_0, .slice as111_0 ns111_0 cs111_0, clas111_0⟩, ⟨140, 1, 1, .slice (some ⟨b24, 0, none⟩) 1 1, [.slice as111_1 ns111_1 cs111_1]⟩, ⟨3, 1, nq95_0, .slice aq95_0 nq95_0 cq95_0, claq95_0⟩] ∧ ns111_0 = s111.1.length ∧ Rd RBool 1 G clas111_0 s111.1 ∧ ns111_1 = s111.2.all.length ∧ Rd RInt 1 G clas111_1 s111.2.all) (fun (p141 : Empty) (c142 : Code) (G : Gm) (L : List Row) => False) ?_ hS hO ⟨as81_1, ns81_1, cs81_1, clas81_1, as81_2, ns81_2, cs81_2, clas81_2, rfl, hnhs81_1, (hs81_1.mono RBool_mono l6_8), hnhs81_2, (hs81_2.mono RInt_mono l6_8)⟩ [] ?_ ?_ ?_
        ·rintro s111 G1 G2 L hle ⟨as111_0, ns111_0, cs111_0, clas111_0, as111_1, ns111_1, cs111_1, clas111_1, rfl, hnhs111_0, hs111_0, hnhs111_1, hs111_1⟩
         exact ⟨as111_0, ns111_0, cs111_0, clas111_0, as111_1, ns111_1, cs111_1, clas111_1, rfl, hnhs111_0, hs111_0.mono RBool_mono hle, hnhs111_1, hs111_1.mono RInt_mono hle⟩
        ·rintro l143 y112 s111 t114 G116 w115 L144 leG116 hS hO ⟨as111_0, ns111_0, cs111_0, clas111_0, as111_1, ns111_1, cs111_1, clas111_1, rfl, hnhs111_0, hs111_0, hnhs111_1, hs111_1⟩ H1 hqq113
         have Hoq113 := H; have H := H1
         unfold f75_b3 at H
         refine WC_seq ?_; refine WC_region ?_; refine WL_val (rn_assign (v := (.int .i64 y112.1)) rfl) rfl ?_; refine WL_nil ?_; refine WC_region ?_
         refine WL_op rfl (OpP_newO (v := fun b => .pointer (some ⟨b, 0, none⟩)) (cs := [.int .i64 0, .int .i64 0, .int .i64 0, .int .i64 0]) (e := 109) (by kernel_rfl) hS.sat hO rfl 4 1 rfl (by decide) (fun b117 w118 hb hO => ?_))
         have hS := hS.keep hb; refine WL_op rfl (OpP_store (vs := [.int .i64 y112.2.Day, .int .i64 y112.2.From, .int .i64 y112.2.To, .int .i64 y112.2.Cost]) sz109 hS hO (k := 0) rfl rfl rfl rfl rfl (one_all rfl) (Nat.le_of_ble_eq_true rfl) (fun w120 hS hO => ?_))
         have hO : Owns G116 w120 w0.heap.size ([⟨109, 4, 1, .slice (some ⟨b117, 0, none⟩) 1 1, [.int .i64 y112.2.Day, .int .i64 y112.2.From, .int .i64 y112.2.To, .int .i64 y112.2.Cost]⟩, ⟨3, 1, ns111_1, .slice as111_1 ns111_1 cs111_1, clas111_1⟩, ⟨79, 1, 1, .slice (some ⟨b36, 0, none⟩) 1 1, [.slice as111_0 ns111_0 cs111_0]⟩, ⟨4, 1, ns111_0, .slice as111_0 ns111_0 cs111_0, clas111_0⟩, ⟨140, 1, 1, .slice (some ⟨b24, 0, none⟩) 1 1, [.slice as111_1 ns111_1 cs111_1]⟩, ⟨3, 1, nq95_0, .slice aq95_0 nq95_0 cq95_0, claq95_0⟩]) := hO
         obtain ⟨G121, leG121, hS, hO, hqG121, _⟩ := hO.freeze hS (k := 0) rfl
         have hcG121 : Cells G121 b117 0 [.int .i64 y112.2.Day, .int .i64 y112.2.From, .int .i64 y112.2.To, .int .i64 y112.2.Cost] := (hqG121 _ _ _ _ rfl)
         refine WL_nil ?_
         intro w122 hfix
         have hS := hS.fix hfix; have hO := hO.fix hfix; refine WC_block ?_; refine WC_seq ?_; obtain ⟨q123, hq123, H⟩ := bnd H; refine WC_cut (fun F w => ∃ (Fb : Fr), F = upds Fb [(5, .pointer (some ⟨b27, 0, none⟩)), (6, .pointer (some ⟨b36, 0, none⟩)), (12, .int .i64 y112.1), (117, .bool q123)] ∧ w122 = w) ?_ ?_
         ·have Hoq123 := H; have H := hq123; refine WC_region ?_; refine WL_val (rn_load na79 rfl (own_cell hO (k := 1) rfl (j := 0) rfl)) rfl ?_; refine WL_val (rn_move (v := (.int .i64 y112.1)) rfl) rfl ?_; obtain ⟨y124, hy124, H⟩ := bnd H; refine WL_idxO sl79 hO (k := 2) rfl hnhs111_0 (hs111_0.mono RBool_mono leG121) hy124 rfl rfl rfl ?_
          rintro b125 ob125 _ hb125 _ hcb125 ⟨⟩
          refine WL_val (rn_load na4 rfl (own_cellB hO (k := 2) rfl hb125 _ 0 (hcb125 0 _ rfl))) rfl ?_; refine WL_val (rn_not rfl) rfl ?_; refine WL_val (rn_move (v := (.bool (!y124))) rfl) rfl ?_
          rcases bcases (!y124) with hb126 | hb126
          ·have H := ifT hb126 H; refine WL_guardY rfl hb126 rfl rfl ?_; refine WL_val (rn_fld fd109_1 rfl) rfl ?_; refine WL_guardY rfl hb126 rfl rfl ?_; refine WL_val (rn_load na3 rfl (hS.sat.cell (hcG121 1 _ rfl))) rfl ?_; refine WL_guardY rfl hb126 rfl rfl ?_; refine WL_val (rn_fld fd109_2 rfl) rfl ?_; refine WL_guardY rfl hb126 rfl rfl ?_
           have l7_10 := (leG109.trans leG116).trans leG121
           refine WL_val (rn_load na3 rfl ((hS.sat.le l7_10).cell (hcG94 2 _ rfl))) rfl ?_; refine WL_guardY rfl hb126 rfl rfl ?_; refine WL_val (rn_eql rfl rfl) rfl ?_; refine WL_val (rn_pickT (v := (.bool (y112.2.From == y88.To))) rfl hb126 rfl) rfl ?_; refine WL_val (rn_move (v := (.bool (y112.2.From == y88.To))) rfl) rfl ?_
           rcases bcases (y112.2.From == y88.To) with hb127 | hb127
           ·have H := ifT hb127 H; refine WL_guardY rfl hb127 rfl rfl ?_; refine WL_val (rn_fld fd109_0 rfl) rfl ?_; refine WL_guardY rfl hb127 rfl rfl ?_; refine WL_val (rn_load na3 rfl (hS.sat.cell (hcG121 0 _ rfl))) rfl ?_; refine WL_guardY rfl hb127 rfl rfl ?_; refine WL_val (rn_fld fd109_0 rfl) rfl ?_; refine WL_guardY rfl hb127 rfl rfl ?_; refine WL_val (rn_load na3 rfl ((hS.sat.le l7_10).cell (hcG94 0 _ rfl))) rfl ?_; refine WL_guardY rfl hb127 rfl rfl ?_; refine WL_val (rn_fld fd111_0 rfl) rfl ?_; refine WL_guardY rfl hb127 rfl rfl ?_; refine WL_val (rn_fld fd46_4 rfl) rfl ?_; refine WL_guardY rfl hb127 rfl rfl ?_
            have l1_10 := (l1_8.trans leG116).trans leG121
            refine WL_val (rn_load na3 rfl ((hS.sat.le l1_10).cell (hcb4 4 _ rfl))) rfl ?_; refine WL_guardY rfl hb127 rfl rfl ?_; refine WL_val (rn_add rfl rfl) rfl ?_; refine WL_guardY rfl hb127 rfl rfl ?_; refine WL_val (rn_geq rfl rfl) rfl ?_; refine WL_val (rn_pickT (v := (.bool (decide ((IntKind.i64.wrap (y88.Day + x0.BaneSea.Wait)) ≤ y112.2.Day)))) rfl hb127 rfl) rfl ?_; refine WL_nil ?_; have H := Option.some.inj H; subst H
            exact ⟨_, upds_self _ _ ⟨rfl, rfl, rfl, rfl, trivial⟩, rfl⟩
           ·have H := ifF hb127 H; refine WL_guardN rfl hb127 rfl rfl rfl ?_; refine WL_guardN rfl hb127 rfl rfl rfl ?_; refine WL_guardN rfl hb127 rfl rfl rfl ?_; refine WL_guardN rfl hb127 rfl rfl rfl ?_; refine WL_guardN rfl hb127 rfl rfl rfl ?_; refine WL_guardN rfl hb127 rfl rfl rfl ?_; refine WL_guardN rfl hb127 rfl rfl rfl ?_; refine WL_guardN rfl hb127 rfl rfl rfl ?_; refine WL_guardN rfl hb127 rfl rfl rfl ?_; refine WL_val (rn_pickF (v := (.bool false)) rfl hb127 rfl) rfl ?_; refine WL_nil ?_; have H := Option.some.inj H; subst H
            exact ⟨_, upds_self _ _ ⟨rfl, rfl, rfl, rfl, trivial⟩, rfl⟩
          ·have H := ifF hb126 H; refine WL_guardN rfl hb126 rfl rfl rfl ?_; refine WL_guardN rfl hb126 rfl rfl rfl ?_; refine WL_guardN rfl hb126 rfl rfl rfl ?_; refine WL_guardN rfl hb126 rfl rfl rfl ?_; refine WL_guardN rfl hb126 rfl rfl rfl ?_; refine WL_val (rn_pickF (v := (.bool false)) rfl hb126 rfl) rfl ?_; refine WL_val (rn_move (v := (.bool false)) rfl) rfl ?_; refine WL_guardN rfl rfl rfl rfl rfl ?_; refine WL_guardN rfl rfl rfl rfl rfl ?_; refine WL_guardN rfl rfl rfl rfl rfl ?_; refine WL_guardN rfl rfl rfl rfl rfl ?_; refine WL_guardN rfl rfl rfl rfl rfl ?_; refine WL_guardN rfl rfl rfl rfl rfl ?_; refine WL_guardN rfl rfl rfl rfl rfl ?_; refine WL_guardN rfl rfl rfl rfl rfl ?_; refine WL_guardN rfl rfl rfl rfl rfl ?_; refine WL_val (rn_pickF (v := (.bool false)) rfl rfl rfl) rfl ?_; refine WL_nil ?_; have H := Option.some.inj H; subst H
           exact ⟨_, upds_self _ _ ⟨rfl, rfl, rfl, rfl, trivial⟩, rfl⟩
         ·rintro F wl ⟨Fb, rfl, rfl⟩
          refine WC_cond rfl (fun hb130 => ?_) (fun hb130 => ?_)
          ·have H := ifT hb130 H; refine WC_seq ?_; refine WC_region ?_; refine WL_val (rn_load na79 rfl (own_cell hO (k := 1) rfl (j := 0) rfl)) rfl ?_; refine WL_val (rn_move (v := (.int .i64 y112.1)) rfl) rfl ?_; obtain ⟨y131, hy131, H⟩ := bnd H; refine WL_idxO sl79 hO (k := 2) rfl hnhs111_0 (hs111_0.mono RBool_mono leG121) hy131 rfl rfl rfl ?_
           rintro b132 ob132 _ hb132 _ hcb132 ⟨⟩
           obtain ⟨y133, hy133, H⟩ := bnd H; refine WL_op rfl (OpP_storeE (vs := [.bool true]) (cs := [.bool y131]) (j := 0) (y := true) sz4 hS hO (k := 2) rfl hnhs111_0 rfl (hs111_0.mono RBool_mono leG121) hb132 rfl hcb132 hy133 rfl rfl rfl rfl rfl (one_all rfl) (Nat.le_of_ble_eq_true rfl) (fun w134 clw134 hS hO hrw134 => ?_))
           have hO : Owns G121 w134 w0.heap.size ([⟨3, 1, ns111_1, .slice as111_1 ns111_1 cs111_1, clas111_1⟩, ⟨79, 1, 1, .slice (some ⟨b36, 0, none⟩) 1 1, [.slice as111_0 ns111_0 cs111_0]⟩, ⟨4, 1, ns111_0, .slice as111_0 ns111_0 cs111_0, clw134⟩, ⟨140, 1, 1, .slice (some ⟨b24, 0, none⟩) 1 1, [.slice as111_1 ns111_1 cs111_1]⟩, ⟨3, 1, nq95_0, .slice aq95_0 nq95_0 cq95_0, claq95_0⟩]) := hO
           refine WL_nil ?_; refine WC_region ?_
           have l3_10 := (((((leG72.trans leG80).trans leG86).trans leG94).trans leG109).trans leG116).trans leG121
           refine WL_val (rn_load na138 rfl ((hS.sat.le l3_10).cell (hcG31 0 _ rfl))) rfl ?_; refine WL_val (rn_move (v := (.int .i64 y112.1)) rfl) rfl ?_; refine WL_op rfl (OpP_in0 (N' := 14) [.pointer (some ⟨b24, 0, none⟩), .int .i64 y112.1] cb100 Try.func100 rfl rfl rfl rfl rfl rfl ?_); refine WC_region ?_; refine WL_val (rn_move (v := (.pointer (some ⟨b24, 0, none⟩))) rfl) rfl ?_; refine WL_val (rn_move (v := (.pointer (some ⟨b24, 0, none⟩))) rfl) rfl ?_
           refine WL_val (v := (.pointer (some ⟨b24, 0, none⟩))) (by kernel_rfl) rfl ?_
           refine WL_val (rn_fld fd140_0 rfl) rfl ?_; refine WL_val (rn_load na25 rfl (own_cell hO (k := 3) rfl (j := 0) rfl)) rfl ?_; refine WL_val (rn_move (v := (.int .i64 y112.1)) rfl) rfl ?_
           refine WL_op rfl (OpP_newF (v := fun b => .slice (some ⟨b, 0, none⟩) 1 1) (cs := [.int .i64 y112.1]) (e := 3) (by kernel_rfl) hS.sat rfl (fun b135 G137 w136 hg hcb135 => ?_))
           have hS := hS.grow hg; have hO := hO.grow hg
           have leG137 := hg.le
           have hfb135 : RSl RInt 1 G137 (some ⟨b135, 0, none⟩) 1 1 [y112.1] := RSl.of_rd hcb135 (Rd.cons (c := [.int .i64 y112.1]) rfl rfl (Rd.nil RInt 1 _)) rfl (by decide)
           obtain ⟨y138, hy138, H⟩ := bnd H
           have l9_11 := leG121.trans leG137
           refine WL_op rfl (OpP_append (k := 0) sl25 RInt_one hS hO rfl hnhs111_1 (hs111_1.mono RInt_mono l9_11) hfb135 hy138 rfl rfl rfl rfl rfl (fun aw139 cw139 w139 clw139 hS hO hrw139 => ?_))
           have hO : Owns G137 w139 w0.heap.size ([⟨3, 1, y138.length, .slice aw139 y138.length cw139, clw139⟩, ⟨79, 1, 1, .slice (some ⟨b36, 0, none⟩) 1 1, [.slice as111_0 ns111_0 cs111_0]⟩, ⟨4, 1, ns111_0, .slice as111_0 ns111_0 cs111_0, clw134⟩, ⟨140, 1, 1, .slice (some ⟨b24, 0, none⟩) 1 1, [.slice as111_1 ns111_1 cs111_1]⟩, ⟨3, 1, nq95_0, .slice aq95_0 nq95_0 cq95_0, claq95_0⟩]) := hO
           refine WL_val (v := (.pointer (some ⟨b24, 0, none⟩))) (by kernel_rfl) rfl ?_
           refine WL_val (rn_fld fd140_0 rfl) rfl ?_; refine WL_op rfl (OpP_store (vs := [.slice aw139 y138.length cw139]) sz25 hS hO (k := 3) rfl rfl rfl rfl rfl (one_all rfl) (Nat.le_of_ble_eq_true rfl) (fun w140 hS hO => ?_))
           have hO : Owns G137 w140 w0.heap.size ([⟨3, 1, y138.length, .slice aw139 y138.length cw139, clw139⟩, ⟨79, 1, 1, .slice (some ⟨b36, 0, none⟩) 1 1, [.slice as111_0 ns111_0 cs111_0]⟩, ⟨4, 1, ns111_0, .slice as111_0 ns111_0 cs111_0, clw134⟩, ⟨140, 1, 1, .slice (some ⟨b24, 0, none⟩) 1 1, [.slice aw139 y138.length cw139]⟩, ⟨3, 1, nq95_0, .slice aq95_0 nq95_0 cq95_0, claq95_0⟩]) := hO
           refine WL_nil ?_; refine WL_nil ?_
           have hO : Owns G137 w140 w0.heap.size ([⟨3, 1, y138.length, .slice aw139 y138.length cw139, clw139⟩, ⟨79, 1, 1, .slice (some ⟨b36, 0, none⟩) 1 1, [.slice as111_0 ns111_0 cs111_0]⟩, ⟨4, 1, ns111_0, .slice as111_0 ns111_0 cs111_0, clw134⟩, ⟨140, 1, 1, .slice (some ⟨b24, 0, none⟩) 1 1, [.slice aw139 y138.length cw139]⟩, ⟨3, 1, nq95_0, .slice aq95_0 nq95_0 cq95_0, claq95_0⟩]) := hO
           have H := Option.some.inj H; subst H
           exact ⟨_, rfl, _, _, l9_11, hS, hO, ⟨as111_0, ns111_0, cs111_0, clw134, aw139, y138.length, cw139, clw139, rfl, (Eq.trans hnhs111_0 (setIx_len hy133)), (hrw134.mono RBool_mono leG137), rfl, hrw139⟩⟩
          ·have H := ifF hb130 H; refine WC_skip ?_
           have hO : Owns G121 w122 w0.heap.size ([⟨3, 1, ns111_1, .slice as111_1 ns111_1 cs111_1, clas111_1⟩, ⟨79, 1, 1, .slice (some ⟨b36, 0, none⟩) 1 1, [.slice as111_0 ns111_0 cs111_0]⟩, ⟨4, 1, ns111_0, .slice as111_0 ns111_0 cs111_0, clas111_0⟩, ⟨140, 1, 1, .slice (some ⟨b24, 0, none⟩) 1 1, [.slice as111_1 ns111_1 cs111_1]⟩, ⟨3, 1, nq95_0, .slice aq95_0 nq95_0 cq95_0, claq95_0⟩]) := hO
           have H := Option.some.inj H; subst H
           exact ⟨_, rfl, _, _, leG121, hS, hO, ⟨as111_0, ns111_0, cs111_0, clas111_0, as111_1, ns111_1, cs111_1, clas111_1, rfl, hnhs111_0, (hs111_0.mono RBool_mono leG121), hnhs111_1, (hs111_1.mono RInt_mono leG121)⟩⟩
        ·rintro s111 G146 w145 L152 hres leG146 hS hO ⟨as111_0, ns111_0, cs111_0, clas111_0, as111_1, ns111_1, cs111_1, clas111_1, rfl, hnhs111_0, hs111_0, hnhs111_1, hs111_1⟩
         subst hres; refine WC_region ?_
         have l3_9 := (((leG72.trans leG80).trans leG86).trans l6_8).trans leG146
         refine WL_val (rn_load na138 rfl ((hS.sat.le l3_9).cell (hcG31 0 _ rfl))) rfl ?_; refine WL_op rfl (OpP_in2 (N' := 27) [.pointer (some ⟨b24, 0, none⟩)] cb101 Try.func101 rfl rfl rfl rfl rfl rfl ?_); refine WC_seq ?_; refine WC_region ?_; refine WL_val (rn_assign (v := (.int .i64 0)) rfl) rfl ?_; refine WL_val (rn_assign (v := (.bool false)) rfl) rfl ?_; refine WL_nil ?_; refine WC_seq ?_; refine WC_region ?_; refine WL_val (rn_assign (v := (.int .i64 0)) rfl) rfl ?_; refine WL_nil ?_; refine WC_seq ?_; refine WC_seq ?_; refine WC_region ?_; refine WL_val (rn_move (v := (.pointer (some ⟨b24, 0, none⟩))) rfl) rfl ?_
         refine WL_val (v := (.pointer (some ⟨b24, 0, none⟩))) (by kernel_rfl) rfl ?_
         refine WL_val (rn_fld fd140_0 rfl) rfl ?_; refine WL_val (rn_load na25 rfl (own_cell hO (k := 3) rfl (j := 0) rfl)) rfl ?_; refine WL_val (rn_len (m := s111.2.all.length) sl25 rfl rfl hnhs111_1) rfl ?_; refine WL_val (rn_eql rfl rfl) rfl ?_; refine WL_nil ?_; refine WC_cond rfl (fun hb147 => ?_) (fun hb147 => ?_)
         ·have H := ifT hb147 H; refine WC_seq ?_; refine WC_region ?_; refine WL_val (rn_move (v := (.int .i64 0)) rfl) rfl ?_; refine WL_val (rn_assign (v := (.int .i64 0)) rfl) rfl ?_; refine WL_val (rn_assign (v := (.bool false)) rfl) rfl ?_; refine WL_nil ?_; refine WC_ret ?_; refine ⟨(.int .i64 0), (.bool false), rfl, rfl, ?_⟩; refine WL_val (rn_move (v := (.tuple #[.int .i64 0, .bool false])) rfl) rfl ?_; refine WL_val (rn_extract (v := (.int .i64 0)) rfl rfl) rfl ?_; refine WL_val (rn_extract (v := (.bool false)) rfl rfl) rfl ?_; refine WL_val (rn_assign (v := (.int .i64 0)) rfl) rfl ?_; refine WL_val (rn_assign (v := (.bool false)) rfl) rfl ?_; refine WL_nil ?_
          have hO : Owns G146 w145 w0.heap.size ([⟨3, 1, ns111_1, .slice as111_1 ns111_1 cs111_1, clas111_1⟩, ⟨79, 1, 1, .slice (some ⟨b36, 0, none⟩) 1 1, [.slice as111_0 ns111_0 cs111_0]⟩, ⟨4, 1, ns111_0, .slice as111_0 ns111_0 cs111_0, clas111_0⟩, ⟨140, 1, 1, .slice (some ⟨b24, 0, none⟩) 1 1, [.slice as111_1 ns111_1 cs111_1]⟩, ⟨3, 1, nq95_0, .slice aq95_0 nq95_0 cq95_0, claq95_0⟩]) := hO
          have H := Option.some.inj H; subst H; refine ⟨_, rfl, ?_⟩
          have l5_9 := (leG86.trans l6_8).trans leG146
          exact ⟨_, G146, aq95_0, nq95_0, cq95_0, claq95_0, as111_0, ns111_0, cs111_0, clas111_0, as111_1, ns111_1, cs111_1, clas111_1, upds_self _ _ ⟨rfl, rfl, rfl, rfl, rfl, rfl, rfl, trivial⟩, l5_9, hS, hO, hnhq95_0, (hq95_0.mono RInt_mono leG146), hnhs111_0, hs111_0, hnhs111_1, hs111_1⟩
         ·have H := ifF hb147 H; refine WC_skip ?_; refine WC_seq ?_; have hS := hS.keep (below_drew _); have hO := hO.below (below_drew _)
          refine WC_regionD mixedO (fun w => Sat G146 w ∧ Owns G146 w w0.heap.size [⟨3, 1, ns111_1, .slice as111_1 ns111_1 cs111_1, clas111_1⟩, ⟨79, 1, 1, .slice (some ⟨b36, 0, none⟩) 1 1, [.slice as111_0 ns111_0 cs111_0]⟩, ⟨4, 1, ns111_0, .slice as111_0 ns111_0 cs111_0, clas111_0⟩, ⟨140, 1, 1, .slice (some ⟨b24, 0, none⟩) 1 1, [.slice as111_1 ns111_1 cs111_1]⟩, ⟨3, 1, nq95_0, .slice aq95_0 nq95_0 cq95_0, claq95_0⟩]) (.fl 0 (.fl 1 (.fl 2 (.fl 3 (.fl 4 (.fl 5 (.fl 6 (.fl 7 (.fl 8 (.fl 9 (.fl 10 (.fl 11 (.on 12 (.on 13 (.on 14 (.on 15 .nil)))))))))))))))) (by kernel_rfl) rfl (by kernel_rfl) ⟨hS.sat, hO⟩ ?_
          refine WD_val rfl (fun w hw => rn_move (v := (.pointer (some ⟨b24, 0, none⟩))) rfl) rfl ?_; refine WD_val rfl (fun w hw => rn_move (v := (.pointer (some ⟨b24, 0, none⟩))) rfl) rfl ?_
          refine WD_val (v := (.pointer (some ⟨b24, 0, none⟩))) rfl (fun w hw => by kernel_rfl) rfl ?_
          refine WD_val rfl (fun w hw => rn_fld fd140_0 rfl) rfl ?_; refine WD_val rfl (fun w hw => rn_load na25 rfl (own_cell hw.2 (k := 3) rfl (j := 0) rfl)) rfl ?_; obtain ⟨y148, hy148, H⟩ := bnd H; refine WD_idxO rfl sl25 hO (k := 0) rfl hnhs111_1 hs111_1 hy148 rfl rfl rfl ?_
          rintro b149 ob149 _ hb149 _ hcb149 ⟨⟩
          refine WD_val rfl (fun w hw => rn_load na3 rfl (own_cellB hw.2 (k := 0) rfl hb149 _ 0 (hcb149 0 _ rfl))) rfl ?_; refine WD_val rfl (fun w hw => rn_move (v := (.pointer (some ⟨b24, 0, none⟩))) rfl) rfl ?_
          refine WD_val (v := (.pointer (some ⟨b24, 0, none⟩))) rfl (fun w hw => by kernel_rfl) rfl ?_
          refine WD_val rfl (fun w hw => rn_fld fd140_0 rfl) rfl ?_; refine WD_val rfl (fun w hw => rn_load na25 rfl (own_cell hw.2 (k := 3) rfl (j := 0) rfl)) rfl ?_; obtain ⟨y150, hy150, H⟩ := bnd H; obtain ⟨hl0, hl1, hl2, _⟩ := subL_some hy150
          have hln : ns111_1 = s111.2.all.length := hnhs111_1
          obtain ⟨_, hnc, ay150, cy150, cly150, hsl, hOy150, hry150⟩ := hO.resl (k := 0) rfl hnhs111_1 hs111_1 hy150 (q := ns111_1) ((Int.toNat_natCast _).trans hln.symm)
          refine WD_val (v := (.slice ay150 y150.length cy150)) rfl (fun w hw => (rn_sliceL sl25 rfl rfl hl0 (by omega) _).trans (congrArg (fun v => Result.ok (Next.value v) _) hsl)) rfl ?_
          refine WD_op rfl rfl (OpP_val (rn_assign (v := (.int .i64 y148)) rfl) rfl ?_); refine ⟨fun _ => ⟨hS.sat, hO⟩, ?_⟩
          refine WD_op rfl rfl (OpP_val (v := (.pointer (some ⟨b24, 0, none⟩))) (by kernel_rfl) rfl ?_)
          refine ⟨fun h => nomore (by kernel_rfl) h, ?_⟩
          refine WD_op rfl rfl (OpP_val (rn_fld fd140_0 rfl) rfl ?_)
          refine ⟨fun h => nomore (by kernel_rfl) h, ?_⟩
          have hO : Owns G146 w145.drew w0.heap.size ([⟨3, 1, y150.length, .slice ay150 y150.length cy150, cly150⟩, ⟨79, 1, 1, .slice (some ⟨b36, 0, none⟩) 1 1, [.slice as111_0 ns111_0 cs111_0]⟩, ⟨4, 1, ns111_0, .slice as111_0 ns111_0 cs111_0, clas111_0⟩, ⟨140, 1, 1, .slice (some ⟨b24, 0, none⟩) 1 1, [.slice as111_1 ns111_1 cs111_1]⟩, ⟨3, 1, nq95_0, .slice aq95_0 nq95_0 cq95_0, claq95_0⟩]) := hOy150
          refine WD_op rfl rfl (OpP_store (vs := [.slice ay150 y150.length cy150]) sz25 hS hO (k := 3) rfl rfl rfl rfl rfl (one_all rfl) (Nat.le_of_ble_eq_true rfl) (fun w151 hS hO => ?_))
          have hO : Owns G146 w151 w0.heap.size ([⟨3, 1, y150.length, .slice ay150 y150.length cy150, cly150⟩, ⟨79, 1, 1, .slice (some ⟨b36, 0, none⟩) 1 1, [.slice as111_0 ns111_0 cs111_0]⟩, ⟨4, 1, ns111_0, .slice as111_0 ns111_0 cs111_0, clas111_0⟩, ⟨140, 1, 1, .slice (some ⟨b24, 0, none⟩) 1 1, [.slice ay150 y150.length cy150]⟩, ⟨3, 1, nq95_0, .slice aq95_0 nq95_0 cq95_0, claq95_0⟩]) := hO
          refine ⟨fun h => nomore (by kernel_rfl) h, ?_⟩
          refine WD_nil ?_; refine WC_seq ?_; refine WC_region ?_; refine WL_val (rn_move (v := (.int .i64 y148)) rfl) rfl ?_; refine WL_val (rn_assign (v := (.int .i64 y148)) rfl) rfl ?_; refine WL_val (rn_assign (v := (.bool true)) rfl) rfl ?_; refine WL_nil ?_; refine WC_ret ?_; refine ⟨(.int .i64 y148), (.bool true), rfl, rfl, ?_⟩; refine WL_val (rn_move (v := (.tuple #[.int .i64 y148, .bool true])) rfl) rfl ?_; refine WL_val (rn_extract (v := (.int .i64 y148)) rfl rfl) rfl ?_; refine WL_val (rn_extract (v := (.bool true)) rfl rfl) rfl ?_; refine WL_val (rn_assign (v := (.int .i64 y148)) rfl) rfl ?_; refine WL_val (rn_assign (v := (.bool true)) rfl) rfl ?_; refine WL_nil ?_
          have hO : Owns G146 w151 w0.heap.size ([⟨3, 1, y150.length, .slice ay150 y150.length cy150, cly150⟩, ⟨79, 1, 1, .slice (some ⟨b36, 0, none⟩) 1 1, [.slice as111_0 ns111_0 cs111_0]⟩, ⟨4, 1, ns111_0, .slice as111_0 ns111_0 cs111_0, clas111_0⟩, ⟨140, 1, 1, .slice (some ⟨b24, 0, none⟩) 1 1, [.slice ay150 y150.length cy150]⟩, ⟨3, 1, nq95_0, .slice aq95_0 nq95_0 cq95_0, claq95_0⟩]) := hO
          have H := Option.some.inj H; subst H; refine ⟨_, rfl, ?_⟩
          have l5_9 := (leG86.trans l6_8).trans leG146
          exact ⟨_, G146, aq95_0, nq95_0, cq95_0, claq95_0, as111_0, ns111_0, cs111_0, clas111_0, ay150, y150.length, cy150, cly150, upds_self _ _ ⟨rfl, rfl, rfl, rfl, rfl, rfl, rfl, trivial⟩, l5_9, hS, hO, hnhq95_0, (hq95_0.mono RInt_mono leG146), hnhs111_0, hs111_0, rfl, hry150⟩
        ·rintro _ _ _ _ _ _ _ _ _ _ hI
         exact hI.elim
      ·have H := ifF hb87 H; refine WC_exit rfl ?_
       have hO : Owns G86 w85 w0.heap.size ([⟨3, 1, ns81_2, .slice as81_2 ns81_2 cs81_2, clas81_2⟩, ⟨79, 1, 1, .slice (some ⟨b36, 0, none⟩) 1 1, [.slice as81_1 ns81_1 cs81_1]⟩, ⟨4, 1, ns81_1, .slice as81_1 ns81_1 cs81_1, clas81_1⟩, ⟨140, 1, 1, .slice (some ⟨b24, 0, none⟩) 1 1, [.slice as81_2 ns81_2 cs81_2]⟩, ⟨3, 1, ns81_0, .slice as81_0 ns81_0 cs81_0, clas81_0⟩]) := hO
       have H := Option.some.inj H; subst H
       have hres := hqq83 _ rfl
       subst hres
       exact ⟨_, G86, as81_0, ns81_0, cs81_0, clas81_0, as81_1, ns81_1, cs81_1, clas81_1, as81_2, ns81_2, cs81_2, clas81_2, upds_self _ _ ⟨rfl, rfl, trivial⟩, leG86, hS, hO, hnhs81_0, hs81_0, hnhs81_1, hs81_1, hnhs81_2, hs81_2⟩
    ·rintro F w153 ⟨Fb, G154, aq83_0, nq83_0, cq83_0, claq83_0, aq83_1, nq83_1, cq83_1, claq83_1, aq83_2, nq83_2, cq83_2, claq83_2, rfl, leG154, hS, hO, hnhq83_0, hq83_0, hnhq83_1, hq83_1, hnhq83_2, hq83_2⟩
     refine WC_seq ?_; refine WC_seq ?_; refine WC_region ?_; refine WL_val (rn_fld fd111_0 rfl) rfl ?_; refine WL_val (rn_fld fd46_1 rfl) rfl ?_
     have l1_6 := ((l1_3.trans leG72).trans leG80).trans leG154
     refine WL_val (rn_load na25 rfl ((hS.sat.le l1_6).cell (hcb4 1 _ rfl))) rfl ?_
     have l0_6 := ((l0_3.trans leG72).trans leG80).trans leG154
     refine WL_val (rn_len sl25 rfl rfl (h1.mono RInt_mono l0_6).1) rfl ?_; refine WL_val (rn_move (v := (.int .i64 0)) rfl) rfl ?_; refine WL_nil ?_; obtain ⟨q157, hq157, H⟩ := bnd H; refine WC_cut (fun F w => ∃ (Fb : Fr) (G : Gm) (aq157_0 : Option Addr) (nq157_0 cq157_0 : Nat) (claq157_0 : List Value) (aq157_1 : Option Addr) (nq157_1 cq157_1 : Nat) (claq157_1 : List Value) (aq157_2 : Option Addr) (nq157_2 cq157_2 : Nat) (claq157_2 : List Value), F = upds Fb [(3, .slice aq157_0 nq157_0 cq157_0)] ∧ Gle G154 G ∧ Since w0.heap.size G0 w0 G w ∧ Owns G w w0.heap.size [⟨3, 1, nq157_2, .slice aq157_2 nq157_2 cq157_2, claq157_2⟩, ⟨79, 1, 1, .slice (some ⟨b36, 0, none⟩) 1 1, [.slice aq157_1 nq157_1 cq157_1]⟩, ⟨4, 1, nq157_1, .slice aq157_1 nq157_1 cq157_1, claq157_1⟩, ⟨140, 1, 1, .slice (some ⟨b24, 0, none⟩) 1 1, [.slice aq157_2 nq157_2 cq157_2]⟩, ⟨3, 1, nq157_0, .slice aq157_0 nq157_0 cq157_0, claq157_0⟩] ∧ nq157_0 = q157.1.length ∧ Rd RInt 1 G claq157_0 q157.1 ∧ nq157_1 = q157.2.1.length ∧ Rd RBool 1 G claq157_1 q157.2.1 ∧ nq157_2 = q157.2.2.all.length ∧ Rd RInt 1 G claq157_2 q157.2.2.all) ?_ ?_
     ·refine WC_block (WC_loop hq157 (fun s155 F w => ∃ (Fb : Fr) (G : Gm) (as155_0 : Option Addr) (ns155_0 cs155_0 : Nat) (clas155_0 : List Value) (as155_1 : Option Addr) (ns155_1 cs155_1 : Nat) (clas155_1 : List Value) (as155_2 : Option Addr) (ns155_2 cs155_2 : Nat) (clas155_2 : List Value), F = upds Fb [(3, .slice as155_0 ns155_0 cs155_0), (126, .slice a1 n1 c1), (127, .int .i64 (x0.BaneSea.Infested.length : Int)), (128, .int .i64 s155.2.1)] ∧ Gle G154 G ∧ Since w0.heap.size G0 w0 G w ∧ Owns G w w0.heap.size [⟨3, 1, ns155_2, .slice as155_2 ns155_2 cs155_2, clas155_2⟩, ⟨79, 1, 1, .slice (some ⟨b36, 0, none⟩) 1 1, [.slice as155_1 ns155_1 cs155_1]⟩, ⟨4, 1, ns155_1, .slice as155_1 ns155_1 cs155_1, clas155_1⟩, ⟨140, 1, 1, .slice (some ⟨b24, 0, none⟩) 1 1, [.slice as155_2 ns155_2 cs155_2]⟩, ⟨3, 1, ns155_0, .slice as155_0 ns155_0 cs155_0, clas155_0⟩] ∧ ns155_0 = s155.1.length ∧ Rd RInt 1 G clas155_0 s155.1 ∧ ns155_1 = s155.2.2.1.length ∧ Rd RBool 1 G clas155_1 s155.2.2.1 ∧ ns155_2 = s155.2.2.2.all.length ∧ Rd RInt 1 G clas155_2 s155.2.2.2.all) ?_ ?_)
      ·have hO : Owns G154 w153 w0.heap.size ([⟨3, 1, nq83_2, .slice aq83_2 nq83_2 cq83_2, claq83_2⟩, ⟨79, 1, 1, .slice (some ⟨b36, 0, none⟩) 1 1, [.slice aq83_1 nq83_1 cq83_1]⟩, ⟨4, 1, nq83_1, .slice aq83_1 nq83_1 cq83_1, claq83_1⟩, ⟨140, 1, 1, .slice (some ⟨b24, 0, none⟩) 1 1, [.slice aq83_2 nq83_2 cq83_2]⟩, ⟨3, 1, nq83_0, .slice aq83_0 nq83_0 cq83_0, claq83_0⟩]) := hO
       exact ⟨_, G154, aq83_0, nq83_0, cq83_0, claq83_0, aq83_1, nq83_1, cq83_1, claq83_1, aq83_2, nq83_2, cq83_2, claq83_2, upds_self _ _ ⟨rfl, rfl, rfl, rfl, trivial⟩, Gle.refl _, hS, hO, hnhq83_0, hq83_0, hnhq83_1, hq83_1, hnhq83_2, hq83_2⟩
      ·rintro s155 F w159 t158 ⟨Fb, G160, as155_0, ns155_0, cs155_0, clas155_0, as155_1, ns155_1, cs155_1, clas155_1, as155_2, ns155_2, cs155_2, clas155_2, rfl, leG160, hS, hO, hnhs155_0, hs155_0, hnhs155_1, hs155_1, hnhs155_2, hs155_2⟩
       intro H1 hqq157
       have Hoq157 := H; have H := H1
       unfold f75_b4 at H
       refine WC_seq ?_; refine WC_region ?_; refine WL_val (rn_lss rfl rfl) rfl ?_; refine WL_nil ?_; refine WC_seq ?_; refine WC_cond rfl (fun hb161 => ?_) (fun hb161 => ?_)
       ·have H := ifT hb161 H; refine WC_skip ?_; refine WC_seq ?_; refine WC_block ?_; refine WC_seq ?_; refine WC_region ?_; obtain ⟨y162, hy162, H⟩ := bnd H
        have l0_7 := l0_6.trans leG160
        refine WL_idx sl25 (h1.mono RInt_mono l0_7) hy162 rfl rfl rfl ?_
        rintro b163 o163 _ hcb163 _ ⟨⟩
        refine WL_val (rn_load na3 rfl (hS.sat.cell (hcb163 0 _ rfl))) rfl ?_; refine WL_val (rn_assign (v := (.int .i64 y162)) rfl) rfl ?_; refine WL_nil ?_; refine WC_region ?_; refine WL_val (rn_move (v := (.slice as155_0 ns155_0 cs155_0)) rfl) rfl ?_; refine WL_val (rn_move (v := (.int .i64 y162)) rfl) rfl ?_; obtain ⟨y164, hy164, H⟩ := bnd H; refine WL_idxO sl25 hO (k := 4) rfl hnhs155_0 hs155_0 hy164 rfl rfl rfl ?_
        rintro b165 ob165 _ hb165 _ hcb165 ⟨⟩
        obtain ⟨y166, hy166, H⟩ := bnd H; refine WL_op rfl (OpP_storeE (vs := [.int .i64 0]) (cs := [.int .i64 y164]) (j := 0) (y := 0) sz3 hS hO (k := 4) rfl hnhs155_0 rfl hs155_0 hb165 rfl hcb165 hy166 rfl rfl rfl rfl rfl (one_all rfl) (Nat.le_of_ble_eq_true rfl) (fun w167 clw167 hS hO hrw167 => ?_))
        have hO : Owns G160 w167 w0.heap.size ([⟨3, 1, ns155_2, .slice as155_2 ns155_2 cs155_2, clas155_2⟩, ⟨79, 1, 1, .slice (some ⟨b36, 0, none⟩) 1 1, [.slice as155_1 ns155_1 cs155_1]⟩, ⟨4, 1, ns155_1, .slice as155_1 ns155_1 cs155_1, clas155_1⟩, ⟨140, 1, 1, .slice (some ⟨b24, 0, none⟩) 1 1, [.slice as155_2 ns155_2 cs155_2]⟩, ⟨3, 1, ns155_0, .slice as155_0 ns155_0 cs155_0, clw167⟩]) := hO
        refine WL_nil ?_; refine WC_region ?_; refine WL_val (rn_add rfl rfl) rfl ?_; refine WL_val (rn_move (v := (.int .i64 (IntKind.i64.wrap (s155.2.1 + 1)))) rfl) rfl ?_; refine WL_nil ?_
        have hO : Owns G160 w167 w0.heap.size ([⟨3, 1, ns155_2, .slice as155_2 ns155_2 cs155_2, clas155_2⟩, ⟨79, 1, 1, .slice (some ⟨b36, 0, none⟩) 1 1, [.slice as155_1 ns155_1 cs155_1]⟩, ⟨4, 1, ns155_1, .slice as155_1 ns155_1 cs155_1, clas155_1⟩, ⟨140, 1, 1, .slice (some ⟨b24, 0, none⟩) 1 1, [.slice as155_2 ns155_2 cs155_2]⟩, ⟨3, 1, ns155_0, .slice as155_0 ns155_0 cs155_0, clw167⟩]) := hO
        have H := Option.some.inj H; subst H; refine ⟨_, rfl, ?_⟩
        exact ⟨_, G160, as155_0, ns155_0, cs155_0, clw167, as155_1, ns155_1, cs155_1, clas155_1, as155_2, ns155_2, cs155_2, clas155_2, upds_self _ _ ⟨rfl, rfl, rfl, rfl, trivial⟩, leG160, hS, hO, (Eq.trans hnhs155_0 (setIx_len hy166)), hrw167, hnhs155_1, hs155_1, hnhs155_2, hs155_2⟩
       ·have H := ifF hb161 H; refine WC_exit rfl ?_
        have hO : Owns G160 w159 w0.heap.size ([⟨3, 1, ns155_2, .slice as155_2 ns155_2 cs155_2, clas155_2⟩, ⟨79, 1, 1, .slice (some ⟨b36, 0, none⟩) 1 1, [.slice as155_1 ns155_1 cs155_1]⟩, ⟨4, 1, ns155_1, .slice as155_1 ns155_1 cs155_1, clas155_1⟩, ⟨140, 1, 1, .slice (some ⟨b24, 0, none⟩) 1 1, [.slice as155_2 ns155_2 cs155_2]⟩, ⟨3, 1, ns155_0, .slice as155_0 ns155_0 cs155_0, clas155_0⟩]) := hO
        have H := Option.some.inj H; subst H
        have hres := hqq157 _ rfl
        subst hres
        exact ⟨_, G160, as155_0, ns155_0, cs155_0, clas155_0, as155_1, ns155_1, cs155_1, clas155_1, as155_2, ns155_2, cs155_2, clas155_2, upds_self _ _ ⟨rfl, trivial⟩, leG160, hS, hO, hnhs155_0, hs155_0, hnhs155_1, hs155_1, hnhs155_2, hs155_2⟩
     ·rintro F w168 ⟨Fb, G169, aq157_0, nq157_0, cq157_0, claq157_0, aq157_1, nq157_1, cq157_1, claq157_1, aq157_2, nq157_2, cq157_2, claq157_2, rfl, leG169, hS, hO, hnhq157_0, hq157_0, hnhq157_1, hq157_1, hnhq157_2, hq157_2⟩
      refine WC_seq ?_; refine WC_region ?_; refine WL_val (rn_move (v := (.slice aq157_0 nq157_0 cq157_0)) rfl) rfl ?_; refine WL_val (rn_assign (v := (.slice aq157_0 nq157_0 cq157_0)) rfl) rfl ?_; refine WL_nil ?_; refine WC_ret ?_; obtain ⟨G170, leG170, hS, hO, hfG170⟩ := hO.freezeS hS RInt_mono (k := 4) rfl hq157_0 hnhq157_0
      have H : some q157.1 = some r := H
      have H := Option.some.inj H; subst H
      exact ⟨_, _, rfl, hS.toGrow, _, _, _, rfl, hfG170⟩
  ·rintro _ _ _ _ _ _ _ _ _ _ hI
   exact hI.elim
set_option maxHeartbeats 1000000 in
theorem f76_ok : ∀ (n : Nat) {B : Nat} {G0 : Gm} {w0 : World} {Gc : Gm} {wc : World} {Lq : List Row} {x0 : TSpot} {bq1 : Nat} {x1 : TBaneSea} {a1 : Option Addr} {n1 c1 : Nat} {a2 : Option Addr} {n2 c2 : Nat} {a3 : Option Addr} {n3 c3 : Nat} {bq2 : Nat} {x2 : Int} {bq3 : Nat} {x3 : Int} {bq4 : Nat} {rq4 : Nat} {m4 : (List ((Int × Int) × Bool))} {bq5 : Nat} {x5 : TSea} {a5 : Option Addr} {n5 c5 : Nat} {a6 : Option Addr} {n6 c6 : Nat} {a7 : Option Addr} {n7 c7 : Nat} {bq6 : Nat} {m6 : List Int} {aq6 : Option Addr} {nq6 cq6 : Nat} {clq6 : List Value} {bq7 : Nat} (hS : Since B G0 w0 Gc wc) (hO : Owns Gc wc B (⟨117, 2, (m4).length, .map (some rq4), kvs kvI2 vvB (m4)⟩ :: ⟨25, 1, 1, .slice (some ⟨bq6, 0, none⟩) 1 1, [.slice aq6 nq6 cq6]⟩ :: ⟨3, 1, nq6, .slice aq6 nq6 cq6, clq6⟩ :: Lq)) (hcq1 : Cells Gc bq1 0 [.int .i64 x1.Islets, .slice a1 n1 c1, .slice a2 n2 c2, .slice a3 n3 c3, .int .i64 x1.Wait]) (hcq2 : Cells Gc bq2 0 [.int .i64 x2]) (hcq3 : Cells Gc bq3 0 [.int .i64 x3]) (hcq4 : Cells Gc bq4 0 [.map (some rq4)]) (hcq5 : Cells Gc bq5 0 [.int .i64 x5.BaneSea.Islets, .slice a5 n5 c5, .slice a6 n6 c6, .slice a7 n7 c7, .int .i64 x5.BaneSea.Wait, .int .i64 x5.shut]) (hcq7 : Cells Gc bq7 0 [.func (.func 76) (([] : List Value)).toArray ([.pointer (some ⟨bq1, 0, none⟩), .pointer (some ⟨bq2, 0, none⟩), .pointer (some ⟨bq3, 0, none⟩), .pointer (some ⟨bq4, 0, none⟩), .pointer (some ⟨bq5, 0, none⟩), .pointer (some ⟨bq6, 0, none⟩), .pointer (some ⟨bq7, 0, none⟩)] : List Value).toArray]) (h1 : RSl RInt 1 Gc a1 n1 c1 x1.Infested) (h2 : RSl RInt 1 Gc a2 n2 c2 x1.Clean) (h3 : RSl RTBaneTrip 4 Gc a3 n3 c3 x1.Trips) (h5 : RSl RInt 1 Gc a5 n5 c5 x5.BaneSea.Infested) (h6 : RSl RInt 1 Gc a6 n6 c6 x5.BaneSea.Clean) (h7 : RSl RTBaneTrip 4 Gc a7 n7 c7 x5.BaneSea.Trips) (hnq6 : nq6 = m6.length) (hrq6 : Rd RInt 1 Gc clq6 m6) {r : Bool × (List ((Int × Int) × Bool)) × (List Int)} (H : f76 x1 x2 x3 x5 n x0 m4 m6 = some r),
  Calls Try.prog 76 #[.agg #[.int .i64 x0.trip, .int .i64 x0.left], .pointer (some ⟨bq1, 0, none⟩), .pointer (some ⟨bq2, 0, none⟩), .pointer (some ⟨bq3, 0, none⟩), .pointer (some ⟨bq4, 0, none⟩), .pointer (some ⟨bq5, 0, none⟩), .pointer (some ⟨bq6, 0, none⟩), .pointer (some ⟨bq7, 0, none⟩)] wc (RetO B G0 w0 Gc wc (fun G L' v => ∃ (ap2 : Option Addr) (np2 cp2 : Nat) (clp2 : List Value), v = .bool r.1 ∧ L' = ⟨117, 2, (r.2.1).length, .map (some rq4), kvs kvI2 vvB (r.2.1)⟩ :: ⟨25, 1, 1, .slice (some ⟨bq6, 0, none⟩) 1 1, [.slice ap2 np2 cp2]⟩ :: ⟨3, 1, np2, .slice ap2 np2 cp2, clp2⟩ :: Lq ∧ np2 = r.2.2.length ∧ Rd RInt 1 G clp2 r.2.2)) := by
 intro n
 induction n with
 | zero => intro B G0 w0 Gc wc Lq x0 bq1 x1 a1 n1 c1 a2 n2 c2 a3 n3 c3 bq2 x2 bq3 x3 bq4 rq4 m4 bq5 x5 a5 n5 c5 a6 n6 c6 a7 n7 c7 bq6 m6 aq6 nq6 cq6 clq6 bq7 hS hO hcq1 hcq2 hcq3 hcq4 hcq5 hcq7 h1 h2 h3 h5 h6 h7 hnq6 hrq6 r H; simp [f76] at H
 | succ n ih =>
  intro B G0 w0 Gc wc Lq x0 bq1 x1 a1 n1 c1 a2 n2 c2 a3 n3 c3 bq2 x2 bq3 x3 bq4 rq4 m4 bq5 x5 a5 n5 c5 a6 n6 c6 a7 n7 c7 bq6 m6 aq6 nq6 cq6 clq6 bq7 hS hO hcq1 hcq2 hcq3 hcq4 hcq5 hcq7 h1 h2 h3 h5 h6 h7 hnq6 hrq6 r H
  obtain ⟨rec, hrec⟩ : ∃ f, f = f76 x1 x2 x3 x5 n := ⟨_, rfl⟩
  have H : f76_F x1 x2 x3 x5 (f76 x1 x2 x3 x5 n) x0 m4 m6 = some r := H
  rw [← hrec] at H
  unfold f76_F at H
  refine enterL (N := 72) (rs := [.cell 9 4]) hO.base Try.func76 rfl rfl rfl rfl ?_; refine WC_seq ?_; refine WC_region ?_; refine WL_op rfl (OpP_newF (v := fun b => .pointer (some ⟨b, 0, none⟩)) (cs := [.int .i64 x0.trip, .int .i64 x0.left]) (e := 117) (rn_boxA rfl) hS.sat rfl (fun b10 G12 w11 hg hcb10 => ?_)); have hS := hS.grow hg; have hO := hO.grow hg
  have leG12 := hg.le
  refine WL_op rfl (OpP_newO (v := fun b => .pointer (some ⟨b, 0, none⟩)) (cs := [.bool false]) (e := 4) (by kernel_rfl) hS.sat hO rfl 1 1 rfl (by decide) (fun b13 w14 hb hO => ?_))
  have hS := hS.keep hb; refine WL_nil ?_; refine WC_seq ?_; refine WC_region ?_; refine WL_val (rn_fld fd46_3 rfl) rfl ?_; refine WL_val (rn_load na44 rfl ((hS.sat.le leG12).cell (hcq1 3 _ rfl))) rfl ?_; refine WL_val (rn_fld fd117_0 rfl) rfl ?_; refine WL_val (rn_load na3 rfl (hS.sat.cell (hcb10 0 _ rfl))) rfl ?_; obtain ⟨y16, hy16, H⟩ := bnd H; refine WL_idx sl44 (h3.mono RTBaneTrip_mono leG12) hy16 rfl rfl rfl ?_
  rintro b17 o17 _ hcb17 _ ⟨⟩
  refine WL_val (rn_loadA ag109 (cs := [.int .i64 y16.Day, .int .i64 y16.From, .int .i64 y16.To, .int .i64 y16.Cost]) rfl rfl (fun j v hj => hS.sat.cell (hcb17.drop_take 0 4 j v hj))) rfl ?_
  refine WL_op rfl (OpP_newO (v := fun b => .pointer (some ⟨b, 0, none⟩)) (cs := [.int .i64 0, .int .i64 0, .int .i64 0, .int .i64 0]) (e := 109) (by kernel_rfl) hS.sat hO rfl 4 1 rfl (by decide) (fun b18 w19 hb hO => ?_))
  have hS := hS.keep hb; refine WL_op rfl (OpP_store (vs := [.int .i64 y16.Day, .int .i64 y16.From, .int .i64 y16.To, .int .i64 y16.Cost]) sz109 hS hO (k := 0) rfl rfl rfl rfl rfl (one_all rfl) (Nat.le_of_ble_eq_true rfl) (fun w21 hS hO => ?_))
  have hO : Owns G12 w21 B (⟨109, 4, 1, .slice (some ⟨b18, 0, none⟩) 1 1, [.int .i64 y16.Day, .int .i64 y16.From, .int .i64 y16.To, .int .i64 y16.Cost]⟩ :: ⟨4, 1, 1, .slice (some ⟨b13, 0, none⟩) 1 1, [.bool false]⟩ :: ⟨117, 2, (m4).length, .map (some rq4), kvs kvI2 vvB (m4)⟩ :: ⟨25, 1, 1, .slice (some ⟨bq6, 0, none⟩) 1 1, [.slice aq6 nq6 cq6]⟩ :: ⟨3, 1, nq6, .slice aq6 nq6 cq6, clq6⟩ :: Lq) := hO
  obtain ⟨G22, leG22, hS, hO, hqG22, _⟩ := hO.freeze hS (k := 0) rfl
  have hcG22 : Cells G22 b18 0 [.int .i64 y16.Day, .int .i64 y16.From, .int .i64 y16.To, .int .i64 y16.Cost] := (hqG22 _ _ _ _ rfl)
  refine WL_nil ?_; refine WC_seq ?_; refine WC_seq ?_; refine WC_region ?_; refine WL_val (rn_fld fd117_1 rfl) rfl ?_; refine WL_val (rn_load na3 rfl ((hS.sat.le leG22).cell (hcb10 1 _ rfl))) rfl ?_; refine WL_val (rn_eql rfl rfl) rfl ?_; refine WL_nil ?_; refine WC_cond rfl (fun hb23 => ?_) (fun hb23 => ?_)
  ·have H := ifT hb23 H; refine WC_seq ?_; obtain ⟨q24, hq24, H⟩ := bnd H; refine WC_cut (fun F w => ∃ (Fb : Fr) (G : Gm), F = upds Fb [(9, .pointer (some ⟨b13, 0, none⟩))] ∧ Gle G22 G ∧ Since B G0 w0 G w ∧ Owns G w B (⟨4, 1, 1, .slice (some ⟨b13, 0, none⟩) 1 1, [.bool q24]⟩ :: ⟨117, 2, (m4).length, .map (some rq4), kvs kvI2 vvB (m4)⟩ :: ⟨25, 1, 1, .slice (some ⟨bq6, 0, none⟩) 1 1, [.slice aq6 nq6 cq6]⟩ :: ⟨3, 1, nq6, .slice aq6 nq6 cq6, clq6⟩ :: Lq)) ?_ ?_
   ·have Hoq24 := H; have H := hq24; refine WC_region ?_; refine WL_val (rn_fld fd109_2 rfl) rfl ?_; refine WL_val (rn_load na3 rfl (hS.sat.cell (hcG22 2 _ rfl))) rfl ?_
    have l0_2 := leG12.trans leG22
    refine WL_val (rn_load na3 rfl ((hS.sat.le l0_2).cell (hcq2 0 _ rfl))) rfl ?_; refine WL_val (rn_eql rfl rfl) rfl ?_; refine WL_val (rn_move (v := (.bool (y16.To == x2))) rfl) rfl ?_
    rcases bcases (y16.To == x2) with hb25 | hb25
    ·have H := ifT hb25 H; refine WL_guardY rfl hb25 rfl rfl ?_; refine WL_val (rn_fld fd109_0 rfl) rfl ?_; refine WL_guardY rfl hb25 rfl rfl ?_; refine WL_val (rn_load na3 rfl (hS.sat.cell (hcG22 0 _ rfl))) rfl ?_; refine WL_guardY rfl hb25 rfl rfl ?_; refine WL_val (rn_load na3 rfl ((hS.sat.le l0_2).cell (hcq3 0 _ rfl))) rfl ?_; refine WL_guardY rfl hb25 rfl rfl ?_; refine WL_val (rn_eql rfl rfl) rfl ?_; refine WL_val (rn_pickT (v := (.bool (y16.Day == x3))) rfl hb25 rfl) rfl ?_; refine WL_op rfl (OpP_store (vs := [.bool (y16.Day == x3)]) sz4 hS hO (k := 0) rfl rfl rfl rfl rfl (one_all rfl) (Nat.le_of_ble_eq_true rfl) (fun w26 hS hO => ?_))
     have hO : Owns G22 w26 B (⟨4, 1, 1, .slice (some ⟨b13, 0, none⟩) 1 1, [.bool (y16.Day == x3)]⟩ :: ⟨117, 2, (m4).length, .map (some rq4), kvs kvI2 vvB (m4)⟩ :: ⟨25, 1, 1, .slice (some ⟨bq6, 0, none⟩) 1 1, [.slice aq6 nq6 cq6]⟩ :: ⟨3, 1, nq6, .slice aq6 nq6 cq6, clq6⟩ :: Lq) := hO
     refine WL_nil ?_
     have hO : Owns G22 w26 B (⟨4, 1, 1, .slice (some ⟨b13, 0, none⟩) 1 1, [.bool (y16.Day == x3)]⟩ :: ⟨117, 2, (m4).length, .map (some rq4), kvs kvI2 vvB (m4)⟩ :: ⟨25, 1, 1, .slice (some ⟨bq6, 0, none⟩) 1 1, [.slice aq6 nq6 cq6]⟩ :: ⟨3, 1, nq6, .slice aq6 nq6 cq6, clq6⟩ :: Lq) := hO
     have H := Option.some.inj H; subst H
     exact ⟨_, G22, upds_self _ _ ⟨rfl, trivial⟩, Gle.refl _, hS, hO⟩
    ·have H := ifF hb25 H; refine WL_guardN rfl hb25 rfl rfl rfl ?_; refine WL_guardN rfl hb25 rfl rfl rfl ?_; refine WL_guardN rfl hb25 rfl rfl rfl ?_; refine WL_guardN rfl hb25 rfl rfl rfl ?_; refine WL_val (rn_pickF (v := (.bool false)) rfl hb25 rfl) rfl ?_; refine WL_op rfl (OpP_store (vs := [.bool false]) sz4 hS hO (k := 0) rfl rfl rfl rfl rfl (one_all rfl) (Nat.le_of_ble_eq_true rfl) (fun w27 hS hO => ?_))
     have hO : Owns G22 w27 B (⟨4, 1, 1, .slice (some ⟨b13, 0, none⟩) 1 1, [.bool false]⟩ :: ⟨117, 2, (m4).length, .map (some rq4), kvs kvI2 vvB (m4)⟩ :: ⟨25, 1, 1, .slice (some ⟨bq6, 0, none⟩) 1 1, [.slice aq6 nq6 cq6]⟩ :: ⟨3, 1, nq6, .slice aq6 nq6 cq6, clq6⟩ :: Lq) := hO
     refine WL_nil ?_
     have hO : Owns G22 w27 B (⟨4, 1, 1, .slice (some ⟨b13, 0, none⟩) 1 1, [.bool false]⟩ :: ⟨117, 2, (m4).length, .map (some rq4), kvs kvI2 vvB (m4)⟩ :: ⟨25, 1, 1, .slice (some ⟨bq6, 0, none⟩) 1 1, [.slice aq6 nq6 cq6]⟩ :: ⟨3, 1, nq6, .slice aq6 nq6 cq6, clq6⟩ :: Lq) := hO
     have H := Option.some.inj H; subst H
     exact ⟨_, G22, upds_self _ _ ⟨rfl, trivial⟩, Gle.refl _, hS, hO⟩
   ·rintro F w28 ⟨Fb, G29, rfl, leG29, hS, hO⟩
    refine WC_ret ?_
    have H : some (q24, (m4), m6) = some r := H
    have H := Option.some.inj H; subst H; refine ⟨[.bool q24], ⟨⟨_, rfl, ld_one na4 (own_cell hO (k := 0) rfl (j := 0) rfl)⟩, trivial⟩, ?_⟩; have hO := hO.drop 0
    have hO : Owns G29 w28 B (⟨117, 2, (m4).length, .map (some rq4), kvs kvI2 vvB (m4)⟩ :: ⟨25, 1, 1, .slice (some ⟨bq6, 0, none⟩) 1 1, [.slice aq6 nq6 cq6]⟩ :: ⟨3, 1, nq6, .slice aq6 nq6 cq6, clq6⟩ :: Lq) := hO
    have l0_3 := (leG12.trans leG22).trans leG29
    exact ⟨_, _, l0_3, hS, hO, aq6, nq6, cq6, clq6, rfl, rfl, hnq6, (hrq6.mono RInt_mono l0_3)⟩
  ·have H := ifF hb23 H; refine WC_skip ?_; refine WC_seq ?_; refine WC_seq ?_; refine WC_region ?_
   have l0_2 := leG12.trans leG22
   refine WL_val (rn_load na114 rfl ((hS.sat.le l0_2).cell (hcq4 0 _ rfl))) rfl ?_; refine WL_val (rn_loadA ag117 (cs := [.int .i64 x0.trip, .int .i64 x0.left]) rfl rfl (fun j v hj => (hS.sat.le leG22).cell (hcb10.drop_take 0 2 j v hj))) rfl ?_; refine WL_val (v := (.bool ((lookM (m4) (x0.trip, x0.left)).getD false))) (rn_lookup (k := 1) (vv := vvB) (z := false) (a := (x0.trip, x0.left)) mp114 (keyOk_I2 in117 fl117) zi4 hO rfl rfl rfl) rfl ?_; refine WL_nil ?_; refine WC_cond rfl (fun hb30 => ?_) (fun hb30 => ?_)
   ·have H := ifT hb30 H; refine WC_seq ?_; refine WC_region ?_; refine WL_op rfl (OpP_store (vs := [.bool false]) sz4 hS hO (k := 0) rfl rfl rfl rfl rfl (one_all rfl) (Nat.le_of_ble_eq_true rfl) (fun w31 hS hO => ?_))
    have hO : Owns G22 w31 B (⟨4, 1, 1, .slice (some ⟨b13, 0, none⟩) 1 1, [.bool false]⟩ :: ⟨117, 2, (m4).length, .map (some rq4), kvs kvI2 vvB (m4)⟩ :: ⟨25, 1, 1, .slice (some ⟨bq6, 0, none⟩) 1 1, [.slice aq6 nq6 cq6]⟩ :: ⟨3, 1, nq6, .slice aq6 nq6 cq6, clq6⟩ :: Lq) := hO
    refine WL_nil ?_; refine WC_ret ?_
    have H : some (false, (m4), m6) = some r := H
    have H := Option.some.inj H; subst H; refine ⟨[.bool false], ⟨⟨_, rfl, ld_one na4 (own_cell hO (k := 0) rfl (j := 0) rfl)⟩, trivial⟩, ?_⟩; have hO := hO.drop 0
    have hO : Owns G22 w31 B (⟨117, 2, (m4).length, .map (some rq4), kvs kvI2 vvB (m4)⟩ :: ⟨25, 1, 1, .slice (some ⟨bq6, 0, none⟩) 1 1, [.slice aq6 nq6 cq6]⟩ :: ⟨3, 1, nq6, .slice aq6 nq6 cq6, clq6⟩ :: Lq) := hO
    exact ⟨_, _, l0_2, hS, hO, aq6, nq6, cq6, clq6, rfl, rfl, hnq6, (hrq6.mono RInt_mono l0_2)⟩
   ·have H := ifF hb30 H; refine WC_skip ?_; refine WC_seq ?_; refine WC_seq ?_; refine WC_region ?_; refine WL_val (rn_loadA ag111 (cs := [.int .i64 x5.BaneSea.Islets, .slice a5 n5 c5, .slice a6 n6 c6, .slice a7 n7 c7, .int .i64 x5.BaneSea.Wait, .int .i64 x5.shut]) rfl rfl (fun j v hj => (hS.sat.le l0_2).cell (hcq5.drop_take 0 6 j v hj))) rfl ?_
    have hI32 := f77_it (x0 := x5) (a1 := a5) (n1 := n5) (c1 := c5) (a2 := a6) (n2 := n6) (c2 := c6) (a3 := a7) (n3 := n7) (c3 := c7) (h7.mono RTBaneTrip_mono l0_2)
    refine WL_val (rn_func (vs := [.agg #[.int .i64 x5.BaneSea.Islets, .slice a5 n5 c5, .slice a6 n6 c6, .slice a7 n7 c7, .int .i64 x5.BaneSea.Wait, .int .i64 x5.shut]]) (us := []) rfl rfl) rfl ?_; refine WL_nil ?_; refine WC_block ?_
    have hO : Owns G22 w21 B (⟨4, 1, 1, .slice (some ⟨b13, 0, none⟩) 1 1, [.bool false]⟩ :: ⟨117, 2, (m4).length, .map (some rq4), kvs kvI2 vvB (m4)⟩ :: ⟨25, 1, 1, .slice (some ⟨bq6, 0, none⟩) 1 1, [.slice aq6 nq6 cq6]⟩ :: ⟨3, 1, nq6, .slice aq6 nq6 cq6, clq6⟩ :: Lq) := hO
    obtain ⟨q35, hq35, H⟩ := bnd H; refine WC_range (xs := openL x5.shut 0 x5.BaneSea.Trips) (enc := encT) (bd := f76_b0 rec x0 x1 y16) (fi := [.agg #[.int .i64 x5.BaneSea.Islets, .slice a5 n5 c5, .slice a6 n6 c6, .slice a7 n7 c7, .int .i64 x5.BaneSea.Wait, .int .i64 x5.shut]]) (ca := []) cb77 hI32 rfl (fun _ => rfl) rfl hq35 (fun (s33 : Bool × (List Int) × (List ((Int × Int) × Bool))) (G : Gm) (L : List Row) => ∃ (as33_0 : Option Addr) (ns33_0 cs33_0 : Nat) (clas33_0 : List Value), L = (⟨4, 1, 1, .slice (some ⟨b13, 0, none⟩) 1 1, [.bool s33.1]⟩ :: ⟨117, 2, (s33.2.2).length, .map (some rq4), kvs kvI2 vvB (s33.2.2)⟩ :: ⟨25, 1, 1, .slice (some ⟨bq6, 0, none⟩) 1 1, [.slice as33_0 ns33_0 cs33_0]⟩ :: ⟨3, 1, ns33_0, .slice as33_0 ns33_0 cs33_0, clas33_0⟩ :: Lq) ∧ ns33_0 = s33.2.1.length ∧ Rd RInt 1 G clas33_0 s33.2.1) (fun (p69 : Bool × (List Int) × (List ((Int × Int) × Bool))) (c70 : Code) (G : Gm) (L : List Row) => (∃ (s33 : Bool × (List Int) × (List ((Int × Int) × Bool))), ∃ (as33_0 : Option Addr) (ns33_0 cs33_0 : Nat) (clas33_0 : List Value), s33 = p69 ∧ c70 = .ret ∧ L = (⟨4, 1, 1, .slice (some ⟨b13, 0, none⟩) 1 1, [.bool s33.1]⟩ :: ⟨117, 2, (s33.2.2).length, .map (some rq4), kvs kvI2 vvB (s33.2.2)⟩ :: ⟨25, 1, 1, .slice (some ⟨bq6, 0, none⟩) 1 1, [.slice as33_0 ns33_0 cs33_0]⟩ :: ⟨3, 1, ns33_0, .slice as33_0 ns33_0 cs33_0, clas33_0⟩ :: Lq) ∧ ns33_0 = s33.2.1.length ∧ Rd RInt 1 G clas33_0 s33.2.1)) ?_ hS hO ⟨aq6, nq6, cq6, clq6, rfl, hnq6, (hrq6.mono RInt_mono l0_2)⟩ [] ?_ ?_ ?_
    ·rintro s33 G1 G2 L hle ⟨as33_0, ns33_0, cs33_0, clas33_0, rfl, hnhs33_0, hs33_0⟩
     exact ⟨as33_0, ns33_0, cs33_0, clas33_0, rfl, hnhs33_0, hs33_0.mono RInt_mono hle⟩
    ·rintro l71 y34 s33 t36 G38 w37 L72 leG38 hS hO ⟨as33_0, ns33_0, cs33_0, clas33_0, rfl, hnhs33_0, hs33_0⟩ H1 hqq35
     have Hoq35 := H; have H := H1
     unfold f76_b0 at H
     refine WC_seq ?_; refine WC_region ?_; refine WL_val (rn_assign (v := (.int .i64 y34.1)) rfl) rfl ?_; refine WL_nil ?_; refine WC_region ?_
     refine WL_op rfl (OpP_newO (v := fun b => .pointer (some ⟨b, 0, none⟩)) (cs := [.int .i64 0, .int .i64 0, .int .i64 0, .int .i64 0]) (e := 109) (by kernel_rfl) hS.sat hO rfl 4 1 rfl (by decide) (fun b39 w40 hb hO => ?_))
     have hS := hS.keep hb; refine WL_op rfl (OpP_store (vs := [.int .i64 y34.2.Day, .int .i64 y34.2.From, .int .i64 y34.2.To, .int .i64 y34.2.Cost]) sz109 hS hO (k := 0) rfl rfl rfl rfl rfl (one_all rfl) (Nat.le_of_ble_eq_true rfl) (fun w42 hS hO => ?_))
     have hO : Owns G38 w42 B (⟨109, 4, 1, .slice (some ⟨b39, 0, none⟩) 1 1, [.int .i64 y34.2.Day, .int .i64 y34.2.From, .int .i64 y34.2.To, .int .i64 y34.2.Cost]⟩ :: ⟨4, 1, 1, .slice (some ⟨b13, 0, none⟩) 1 1, [.bool s33.1]⟩ :: ⟨117, 2, (s33.2.2).length, .map (some rq4), kvs kvI2 vvB (s33.2.2)⟩ :: ⟨25, 1, 1, .slice (some ⟨bq6, 0, none⟩) 1 1, [.slice as33_0 ns33_0 cs33_0]⟩ :: ⟨3, 1, ns33_0, .slice as33_0 ns33_0 cs33_0, clas33_0⟩ :: Lq) := hO
     obtain ⟨G43, leG43, hS, hO, hqG43, _⟩ := hO.freeze hS (k := 0) rfl
     have hcG43 : Cells G43 b39 0 [.int .i64 y34.2.Day, .int .i64 y34.2.From, .int .i64 y34.2.To, .int .i64 y34.2.Cost] := (hqG43 _ _ _ _ rfl)
     refine WL_nil ?_
     intro w44 hfix
     have hS := hS.fix hfix; have hO := hO.fix hfix; obtain ⟨q45, hq45, H⟩ := bnd H; refine WC_cut (fun F w => ∃ (p46 : (List Int) × (List ((Int × Int) × Bool))) (Fb : Fr) (G : Gm) (ap46_0 : Option Addr) (np46_0 cp46_0 : Nat) (clap46_0 : List Value), q45 = .inl p46 ∧ F = upds Fb [] ∧ Gle G43 G ∧ Since B G0 w0 G w ∧ Owns G w B (⟨4, 1, 1, .slice (some ⟨b13, 0, none⟩) 1 1, [.bool s33.1]⟩ :: ⟨117, 2, (p46.2).length, .map (some rq4), kvs kvI2 vvB (p46.2)⟩ :: ⟨25, 1, 1, .slice (some ⟨bq6, 0, none⟩) 1 1, [.slice ap46_0 np46_0 cp46_0]⟩ :: ⟨3, 1, np46_0, .slice ap46_0 np46_0 cp46_0, clap46_0⟩ :: Lq) ∧ np46_0 = p46.1.length ∧ Rd RInt 1 G clap46_0 p46.1) ?_ ?_
     ·have Hoq45 := H; have H := hq45; refine WC_block ?_; refine WC_seq ?_; refine WC_seq ?_; obtain ⟨q47, hq47, H⟩ := bnd H; refine WC_cut (fun F w => ∃ (Fb : Fr), F = upds Fb [(6, .pointer (some ⟨bq6, 0, none⟩)), (7, .pointer (some ⟨bq7, 0, none⟩)), (8, .pointer (some ⟨b10, 0, none⟩)), (9, .pointer (some ⟨b13, 0, none⟩)), (11, .int .i64 y34.1), (53, .bool q47)] ∧ w44 = w) ?_ ?_
      ·have Hoq47 := H; have H := hq47; refine WC_region ?_; refine WL_val (rn_fld fd109_1 rfl) rfl ?_; refine WL_val (rn_load na3 rfl (hS.sat.cell (hcG43 1 _ rfl))) rfl ?_; refine WL_val (rn_fld fd109_2 rfl) rfl ?_
       have l2_4 := leG38.trans leG43
       refine WL_val (rn_load na3 rfl ((hS.sat.le l2_4).cell (hcG22 2 _ rfl))) rfl ?_; refine WL_val (rn_neq rfl rfl) rfl ?_; refine WL_val (rn_move (v := (.bool (y34.2.From != y16.To))) rfl) rfl ?_
       rcases bcases (y34.2.From != y16.To) with hb48 | hb48
       ·have H := ifT hb48 H; refine WL_guardN rfl hb48 rfl rfl rfl ?_; refine WL_guardN rfl hb48 rfl rfl rfl ?_; refine WL_guardN rfl hb48 rfl rfl rfl ?_; refine WL_guardN rfl hb48 rfl rfl rfl ?_; refine WL_guardN rfl hb48 rfl rfl rfl ?_; refine WL_guardN rfl hb48 rfl rfl rfl ?_; refine WL_guardN rfl hb48 rfl rfl rfl ?_; refine WL_guardN rfl hb48 rfl rfl rfl ?_; refine WL_val (rn_pickT (v := (.bool true)) rfl hb48 rfl) rfl ?_; refine WL_nil ?_; have H := Option.some.inj H; subst H
        exact ⟨_, upds_self _ _ ⟨rfl, rfl, rfl, rfl, rfl, rfl, trivial⟩, rfl⟩
       ·have H := ifF hb48 H; refine WL_guardY rfl hb48 rfl rfl ?_; refine WL_val (rn_fld fd109_0 rfl) rfl ?_; refine WL_guardY rfl hb48 rfl rfl ?_; refine WL_val (rn_load na3 rfl (hS.sat.cell (hcG43 0 _ rfl))) rfl ?_; refine WL_guardY rfl hb48 rfl rfl ?_; refine WL_val (rn_fld fd109_0 rfl) rfl ?_; refine WL_guardY rfl hb48 rfl rfl ?_; refine WL_val (rn_load na3 rfl ((hS.sat.le l2_4).cell (hcG22 0 _ rfl))) rfl ?_; refine WL_guardY rfl hb48 rfl rfl ?_; refine WL_val (rn_fld fd46_4 rfl) rfl ?_; refine WL_guardY rfl hb48 rfl rfl ?_
        have l0_4 := l0_2.trans l2_4
        refine WL_val (rn_load na3 rfl ((hS.sat.le l0_4).cell (hcq1 4 _ rfl))) rfl ?_; refine WL_guardY rfl hb48 rfl rfl ?_; refine WL_val (rn_add rfl rfl) rfl ?_; refine WL_guardY rfl hb48 rfl rfl ?_; refine WL_val (rn_lss rfl rfl) rfl ?_; refine WL_val (rn_pickF (v := (.bool (decide (y34.2.Day < (IntKind.i64.wrap (y16.Day + x1.Wait)))))) rfl hb48 rfl) rfl ?_; refine WL_nil ?_; have H := Option.some.inj H; subst H
        exact ⟨_, upds_self _ _ ⟨rfl, rfl, rfl, rfl, rfl, rfl, trivial⟩, rfl⟩
      ·rintro F wl ⟨Fb, rfl, rfl⟩
       refine WC_cond rfl (fun hb51 => ?_) (fun hb51 => ?_)
       ·have H := ifT hb51 H; refine WC_exit rfl ?_
        have hO : Owns G43 w44 B (⟨4, 1, 1, .slice (some ⟨b13, 0, none⟩) 1 1, [.bool s33.1]⟩ :: ⟨117, 2, (s33.2.2).length, .map (some rq4), kvs kvI2 vvB (s33.2.2)⟩ :: ⟨25, 1, 1, .slice (some ⟨bq6, 0, none⟩) 1 1, [.slice as33_0 ns33_0 cs33_0]⟩ :: ⟨3, 1, ns33_0, .slice as33_0 ns33_0 cs33_0, clas33_0⟩ :: Lq) := hO
        have H := Option.some.inj H; subst H
        exact ⟨_, _, G43, as33_0, ns33_0, cs33_0, clas33_0, rfl, rfl, Gle.refl _, hS, hO, hnhs33_0, (hs33_0.mono RInt_mono leG43)⟩
       ·have H := ifF hb51 H; refine WC_skip ?_; refine WC_seq ?_; refine WC_region ?_; refine WL_val (rn_load na25 rfl (own_cell hO (k := 2) rfl (j := 0) rfl)) rfl ?_; refine WL_val (rn_move (v := (.int .i64 y34.1)) rfl) rfl ?_
        refine WL_op rfl (OpP_newF (v := fun b => .slice (some ⟨b, 0, none⟩) 1 1) (cs := [.int .i64 y34.1]) (e := 3) (by kernel_rfl) hS.sat rfl (fun b52 G54 w53 hg hcb52 => ?_))
        have hS := hS.grow hg; have hO := hO.grow hg
        have leG54 := hg.le
        have hfb52 : RSl RInt 1 G54 (some ⟨b52, 0, none⟩) 1 1 [y34.1] := RSl.of_rd hcb52 (Rd.cons (c := [.int .i64 y34.1]) rfl rfl (Rd.nil RInt 1 _)) rfl (by decide)
        obtain ⟨y55, hy55, H⟩ := bnd H
        have l3_5 := leG43.trans leG54
        refine WL_op rfl (OpP_append (k := 3) sl25 RInt_one hS hO rfl hnhs33_0 (hs33_0.mono RInt_mono l3_5) hfb52 hy55 rfl rfl rfl rfl rfl (fun aw56 cw56 w56 clw56 hS hO hrw56 => ?_))
        have hO : Owns G54 w56 B (⟨4, 1, 1, .slice (some ⟨b13, 0, none⟩) 1 1, [.bool s33.1]⟩ :: ⟨117, 2, (s33.2.2).length, .map (some rq4), kvs kvI2 vvB (s33.2.2)⟩ :: ⟨25, 1, 1, .slice (some ⟨bq6, 0, none⟩) 1 1, [.slice as33_0 ns33_0 cs33_0]⟩ :: ⟨3, 1, y55.length, .slice aw56 y55.length cw56, clw56⟩ :: Lq) := hO
        refine WL_op rfl (OpP_store (vs := [.slice aw56 y55.length cw56]) sz25 hS hO (k := 2) rfl rfl rfl rfl rfl (one_all rfl) (Nat.le_of_ble_eq_true rfl) (fun w57 hS hO => ?_))
        have hO : Owns G54 w57 B (⟨4, 1, 1, .slice (some ⟨b13, 0, none⟩) 1 1, [.bool s33.1]⟩ :: ⟨117, 2, (s33.2.2).length, .map (some rq4), kvs kvI2 vvB (s33.2.2)⟩ :: ⟨25, 1, 1, .slice (some ⟨bq6, 0, none⟩) 1 1, [.slice aw56 y55.length cw56]⟩ :: ⟨3, 1, y55.length, .slice aw56 y55.length cw56, clw56⟩ :: Lq) := hO
        refine WL_nil ?_; refine WC_seq ?_; refine WC_seq ?_; refine WC_region ?_
        have l0_5 := (l0_2.trans leG38).trans l3_5
        refine WL_val (rn_load na115 rfl ((hS.sat.le l0_5).cell (hcq7 0 _ rfl))) rfl ?_; refine WL_val (rn_move (v := (.int .i64 y34.1)) rfl) rfl ?_; refine WL_val (rn_fld fd117_1 rfl) rfl ?_
        have l1_5 := (leG22.trans leG38).trans l3_5
        refine WL_val (rn_load na3 rfl ((hS.sat.le l1_5).cell (hcb10 1 _ rfl))) rfl ?_; refine WL_val (rn_sub rfl rfl) rfl ?_
        refine WL_val (v := (.agg #[.int .i64 y34.1, .int .i64 (IntKind.i64.wrap (x0.left - 1))])) (by kernel_rfl) rfl ?_
        have hO := hO.front (k := 3) rfl; have hO := hO.front (k := 3) rfl; have hO := hO.front (k := 3) rfl
        have hO : Owns G54 w57 B (⟨117, 2, (s33.2.2).length, .map (some rq4), kvs kvI2 vvB (s33.2.2)⟩ :: ⟨25, 1, 1, .slice (some ⟨bq6, 0, none⟩) 1 1, [.slice aw56 y55.length cw56]⟩ :: ⟨3, 1, y55.length, .slice aw56 y55.length cw56, clw56⟩ :: ⟨4, 1, 1, .slice (some ⟨b13, 0, none⟩) 1 1, [.bool s33.1]⟩ :: Lq) := hO
        obtain ⟨y58, hy58, H⟩ := bnd H
        refine WL_op rfl (OpP_lent (fi := []) (al := [.agg #[.int .i64 y34.1, .int .i64 (IntKind.i64.wrap (x0.left - 1))]]) (ca := [.pointer (some ⟨bq1, 0, none⟩), .pointer (some ⟨bq2, 0, none⟩), .pointer (some ⟨bq3, 0, none⟩), .pointer (some ⟨bq4, 0, none⟩), .pointer (some ⟨bq5, 0, none⟩), .pointer (some ⟨bq6, 0, none⟩), .pointer (some ⟨bq7, 0, none⟩)]) cb76 (ih (x0 := (⟨y34.1, IntKind.i64.wrap (x0.left - 1)⟩ : TSpot)) (m4 := (s33.2.2)) (m6 := y55) hS hO (hcq1.mono l0_5) (hcq2.mono l0_5) (hcq3.mono l0_5) (hcq4.mono l0_5) (hcq5.mono l0_5) (hcq7.mono l0_5) (h1.mono RInt_mono l0_5) (h2.mono RInt_mono l0_5) (h3.mono RTBaneTrip_mono l0_5) (h5.mono RInt_mono l0_5) (h6.mono RInt_mono l0_5) (h7.mono RTBaneTrip_mono l0_5) rfl hrw56 (by rw [← hrec]; exact hy58)) rfl rfl rfl (fun vG60 G60 w59 L61 leG60 hS hO hvG60 => ?_))
        obtain ⟨aG602, nG602, cG602, clG602, rfl, rfl, hnG602, hrG602⟩ := hvG60
        have hO : Owns G60 w59 B (⟨117, 2, (y58.2.1).length, .map (some rq4), kvs kvI2 vvB (y58.2.1)⟩ :: ⟨25, 1, 1, .slice (some ⟨bq6, 0, none⟩) 1 1, [.slice aG602 nG602 cG602]⟩ :: ⟨3, 1, nG602, .slice aG602 nG602 cG602, clG602⟩ :: ⟨4, 1, 1, .slice (some ⟨b13, 0, none⟩) 1 1, [.bool s33.1]⟩ :: Lq) := hO
        refine WL_nil ?_; refine WC_cond rfl (fun hb62 => ?_) (fun hb62 => ?_)
        ·have H := ifT hb62 H; refine WC_seq ?_; refine WC_region ?_; refine WL_op rfl (OpP_store (vs := [.bool true]) sz4 hS hO (k := 3) rfl rfl rfl rfl rfl (one_all rfl) (Nat.le_of_ble_eq_true rfl) (fun w63 hS hO => ?_))
         have hO : Owns G60 w63 B (⟨117, 2, (y58.2.1).length, .map (some rq4), kvs kvI2 vvB (y58.2.1)⟩ :: ⟨25, 1, 1, .slice (some ⟨bq6, 0, none⟩) 1 1, [.slice aG602 nG602 cG602]⟩ :: ⟨3, 1, nG602, .slice aG602 nG602 cG602, clG602⟩ :: ⟨4, 1, 1, .slice (some ⟨b13, 0, none⟩) 1 1, [.bool true]⟩ :: Lq) := hO
         refine WL_nil ?_; refine WC_ret ?_; have hO := hO.front (k := 2) rfl; have hO := hO.front (k := 2) rfl; have hO := hO.front (k := 2) rfl; have hO := hO.front (k := 3) rfl
         have hO : Owns G60 w63 B (⟨4, 1, 1, .slice (some ⟨b13, 0, none⟩) 1 1, [.bool true]⟩ :: ⟨117, 2, (y58.2.1).length, .map (some rq4), kvs kvI2 vvB (y58.2.1)⟩ :: ⟨25, 1, 1, .slice (some ⟨bq6, 0, none⟩) 1 1, [.slice aG602 nG602 cG602]⟩ :: ⟨3, 1, nG602, .slice aG602 nG602 cG602, clG602⟩ :: Lq) := hO
         have hO : Owns G60 w63 B (⟨4, 1, 1, .slice (some ⟨b13, 0, none⟩) 1 1, [.bool true]⟩ :: ⟨117, 2, (y58.2.1).length, .map (some rq4), kvs kvI2 vvB (y58.2.1)⟩ :: ⟨25, 1, 1, .slice (some ⟨bq6, 0, none⟩) 1 1, [.slice aG602 nG602 cG602]⟩ :: ⟨3, 1, nG602, .slice aG602 nG602 cG602, clG602⟩ :: Lq) := hO
         have H := Option.some.inj H; subst H; have H := Hoq45; have H := Option.some.inj H; subst H
         have l3_6 := l3_5.trans leG60
         exact ⟨_, rfl, _, _, l3_6, hS, hO, ⟨_, aG602, nG602, cG602, clG602, rfl, rfl, rfl, hnG602, hrG602⟩⟩
        ·have H := ifF hb62 H; refine WC_skip ?_; refine WC_region ?_; refine WL_val (rn_load na25 rfl (own_cell hO (k := 1) rfl (j := 0) rfl)) rfl ?_; refine WL_val (rn_load na25 rfl (own_cell hO (k := 1) rfl (j := 0) rfl)) rfl ?_; refine WL_val (rn_len (m := y58.2.2.length) sl25 rfl rfl hnG602) rfl ?_; refine WL_val (rn_sub rfl rfl) rfl ?_; obtain ⟨y64, hy64, H⟩ := bnd H; obtain ⟨hl0, hl1, hl2, _⟩ := subL_some hy64
         have hln : nG602 = y58.2.2.length := hnG602
         obtain ⟨_, hnc, ay64, cy64, cly64, hsl, hOy64, hry64⟩ := hO.resl (k := 2) rfl hnG602 hrG602 hy64 rfl
         refine WL_val (v := (.slice ay64 y64.length cy64)) ((rn_sliceH sl25 rfl rfl (by omega) (by omega) hnc _).trans (congrArg (fun v => Result.ok (Next.value v) _) hsl)) rfl ?_
         have hO : Owns G60 w59 B (⟨117, 2, (y58.2.1).length, .map (some rq4), kvs kvI2 vvB (y58.2.1)⟩ :: ⟨25, 1, 1, .slice (some ⟨bq6, 0, none⟩) 1 1, [.slice aG602 nG602 cG602]⟩ :: ⟨3, 1, y64.length, .slice ay64 y64.length cy64, cly64⟩ :: ⟨4, 1, 1, .slice (some ⟨b13, 0, none⟩) 1 1, [.bool s33.1]⟩ :: Lq) := hOy64
         refine WL_op rfl (OpP_store (vs := [.slice ay64 y64.length cy64]) sz25 hS hO (k := 1) rfl rfl rfl rfl rfl (one_all rfl) (Nat.le_of_ble_eq_true rfl) (fun w65 hS hO => ?_))
         have hO : Owns G60 w65 B (⟨117, 2, (y58.2.1).length, .map (some rq4), kvs kvI2 vvB (y58.2.1)⟩ :: ⟨25, 1, 1, .slice (some ⟨bq6, 0, none⟩) 1 1, [.slice ay64 y64.length cy64]⟩ :: ⟨3, 1, y64.length, .slice ay64 y64.length cy64, cly64⟩ :: ⟨4, 1, 1, .slice (some ⟨b13, 0, none⟩) 1 1, [.bool s33.1]⟩ :: Lq) := hO
         refine WL_nil ?_; have hO := hO.front (k := 2) rfl; have hO := hO.front (k := 2) rfl; have hO := hO.front (k := 2) rfl; have hO := hO.front (k := 3) rfl
         have hO : Owns G60 w65 B (⟨4, 1, 1, .slice (some ⟨b13, 0, none⟩) 1 1, [.bool s33.1]⟩ :: ⟨117, 2, (y58.2.1).length, .map (some rq4), kvs kvI2 vvB (y58.2.1)⟩ :: ⟨25, 1, 1, .slice (some ⟨bq6, 0, none⟩) 1 1, [.slice ay64 y64.length cy64]⟩ :: ⟨3, 1, y64.length, .slice ay64 y64.length cy64, cly64⟩ :: Lq) := hO
         have hO : Owns G60 w65 B (⟨4, 1, 1, .slice (some ⟨b13, 0, none⟩) 1 1, [.bool s33.1]⟩ :: ⟨117, 2, (y58.2.1).length, .map (some rq4), kvs kvI2 vvB (y58.2.1)⟩ :: ⟨25, 1, 1, .slice (some ⟨bq6, 0, none⟩) 1 1, [.slice ay64 y64.length cy64]⟩ :: ⟨3, 1, y64.length, .slice ay64 y64.length cy64, cly64⟩ :: Lq) := hO
         have H := Option.some.inj H; subst H
         have l4_6 := leG54.trans leG60
         exact ⟨_, _, G60, ay64, y64.length, cy64, cly64, rfl, rfl, l4_6, hS, hO, rfl, hry64⟩
     ·rintro F w66 ⟨p46, Fb, G67, ap46_0, np46_0, cp46_0, clap46_0, rfl, rfl, leG67, hS, hO, hnhp46_0, hp46_0⟩
      have hO : Owns G67 w66 B (⟨4, 1, 1, .slice (some ⟨b13, 0, none⟩) 1 1, [.bool s33.1]⟩ :: ⟨117, 2, (p46.2).length, .map (some rq4), kvs kvI2 vvB (p46.2)⟩ :: ⟨25, 1, 1, .slice (some ⟨bq6, 0, none⟩) 1 1, [.slice ap46_0 np46_0 cp46_0]⟩ :: ⟨3, 1, np46_0, .slice ap46_0 np46_0 cp46_0, clap46_0⟩ :: Lq) := hO
      have H := Option.some.inj H; subst H
      have l3_5 := leG43.trans leG67
      exact ⟨_, rfl, _, _, l3_5, hS, hO, ⟨ap46_0, np46_0, cp46_0, clap46_0, rfl, hnhp46_0, hp46_0⟩⟩
    ·rintro s33 G74 w73 L77 hres leG74 hS hO ⟨as33_0, ns33_0, cs33_0, clas33_0, rfl, hnhs33_0, hs33_0⟩
     subst hres; refine WC_seq ?_; refine WC_region ?_
     have l0_3 := l0_2.trans leG74
     refine WL_val (rn_load na114 rfl ((hS.sat.le l0_3).cell (hcq4 0 _ rfl))) rfl ?_
     have l1_3 := leG22.trans leG74
     refine WL_val (rn_loadA ag117 (cs := [.int .i64 x0.trip, .int .i64 x0.left]) rfl rfl (fun j v hj => (hS.sat.le l1_3).cell (hcb10.drop_take 0 2 j v hj))) rfl ?_; refine WL_op rfl (OpP_mapUpdate (k := 1) (vv := vvB) (v := true) (a := (x0.trip, x0.left)) mp114 (keyOk_I2 in117 fl117) hS hO rfl rfl rfl rfl rfl (fun w75 hS hO => ?_))
     have hO : Owns G74 w75 B (⟨4, 1, 1, .slice (some ⟨b13, 0, none⟩) 1 1, [.bool s33.1]⟩ :: ⟨117, 2, (updM (s33.2.2) (x0.trip, x0.left) true).length, .map (some rq4), kvs kvI2 vvB (updM (s33.2.2) (x0.trip, x0.left) true)⟩ :: ⟨25, 1, 1, .slice (some ⟨bq6, 0, none⟩) 1 1, [.slice as33_0 ns33_0 cs33_0]⟩ :: ⟨3, 1, ns33_0, .slice as33_0 ns33_0 cs33_0, clas33_0⟩ :: Lq) := hO
     refine WL_nil ?_; refine WC_seq ?_; refine WC_region ?_; refine WL_op rfl (OpP_store (vs := [.bool false]) sz4 hS hO (k := 0) rfl rfl rfl rfl rfl (one_all rfl) (Nat.le_of_ble_eq_true rfl) (fun w76 hS hO => ?_))
     have hO : Owns G74 w76 B (⟨4, 1, 1, .slice (some ⟨b13, 0, none⟩) 1 1, [.bool false]⟩ :: ⟨117, 2, (updM (s33.2.2) (x0.trip, x0.left) true).length, .map (some rq4), kvs kvI2 vvB (updM (s33.2.2) (x0.trip, x0.left) true)⟩ :: ⟨25, 1, 1, .slice (some ⟨bq6, 0, none⟩) 1 1, [.slice as33_0 ns33_0 cs33_0]⟩ :: ⟨3, 1, ns33_0, .slice as33_0 ns33_0 cs33_0, clas33_0⟩ :: Lq) := hO
     refine WL_nil ?_; refine WC_ret ?_
     have H : some (false, (updM (s33.2.2) (x0.trip, x0.left) true), s33.2.1) = some r := H
     have H := Option.some.inj H; subst H; refine ⟨[.bool false], ⟨⟨_, rfl, ld_one na4 (own_cell hO (k := 0) rfl (j := 0) rfl)⟩, trivial⟩, ?_⟩; have hO := hO.drop 0
     have hO : Owns G74 w76 B (⟨117, 2, (updM (s33.2.2) (x0.trip, x0.left) true).length, .map (some rq4), kvs kvI2 vvB (updM (s33.2.2) (x0.trip, x0.left) true)⟩ :: ⟨25, 1, 1, .slice (some ⟨bq6, 0, none⟩) 1 1, [.slice as33_0 ns33_0 cs33_0]⟩ :: ⟨3, 1, ns33_0, .slice as33_0 ns33_0 cs33_0, clas33_0⟩ :: Lq) := hO
     exact ⟨_, _, l0_3, hS, hO, as33_0, ns33_0, cs33_0, clas33_0, rfl, rfl, hnhs33_0, hs33_0⟩
    ·rintro _ _ G74z w73z _ hres _ leG74z hS hO ⟨s33, as33_0, ns33_0, cs33_0, clas33_0, rfl, rfl, rfl, hnhs33_0, hs33_0⟩
     subst hres; refine WC_ret ?_
     have H : some (s33.1, (s33.2.2), s33.2.1) = some r := H
     have H := Option.some.inj H; subst H; refine ⟨[.bool s33.1], ⟨⟨_, rfl, ld_one na4 (own_cell hO (k := 0) rfl (j := 0) rfl)⟩, trivial⟩, ?_⟩; have hO := hO.drop 0
     have hO : Owns G74z w73z B (⟨117, 2, (s33.2.2).length, .map (some rq4), kvs kvI2 vvB (s33.2.2)⟩ :: ⟨25, 1, 1, .slice (some ⟨bq6, 0, none⟩) 1 1, [.slice as33_0 ns33_0 cs33_0]⟩ :: ⟨3, 1, ns33_0, .slice as33_0 ns33_0 cs33_0, clas33_0⟩ :: Lq) := hO
     have l0_3 := l0_2.trans leG74z
     exact ⟨_, _, l0_3, hS, hO, as33_0, ns33_0, cs33_0, clas33_0, rfl, rfl, hnhs33_0, hs33_0⟩
end Go.Proofs.Ytgplafckddpnkaa
