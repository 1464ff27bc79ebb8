/-
  The walks: each Go function computes its plain function (printed by a program of ours).
-/
import Derived.Test.YtgplafckddpnkaaRd
import Derived.Test.YtgplafckddpnkaaIt
import Derived.Test.YtgplafckddpnkaaBaseL
import Derived.Test.YtgplafckddpnkaaP16W1
namespace Go.Proofs.Ytgplafckddpnkaa
open Go.RowKit
set_option linter.unusedVariables false

set_option maxRecDepth 20000
set_option linter.unusedVariables false
set_option maxHeartbeats 1000000 in
theorem f75_ok {G0 : Gm} {w0 : World} (hS0 : Sat G0 w0) {x0 : TSea} {a1 : Option Addr} {n1 c1 : Nat} {a2 : Option Addr} {n2 c2 : Nat} {a3 : Option Addr} {n3 c3 : Nat} (h1 : RSl RInt 1 G0 a1 n1 c1 x0.BaneSea.Infested) (h2 : RSl RInt 1 G0 a2 n2 c2 x0.BaneSea.Clean) (h3 : RSl RTBaneTrip 4 G0 a3 n3 c3 x0.BaneSea.Trips) {r : (List Int)} (H : f75 x0 = some r) :
  Calls Try.prog 75 #[.agg #[.int .i64 x0.BaneSea.Islets, .slice a1 n1 c1, .slice a2 n2 c2, .slice a3 n3 c3, .int .i64 x0.BaneSea.Wait, .int .i64 x0.shut]] w0 (RetG G0 w0 (fun G v => ∃ (ra0 : Option Addr) (rn0 rc0 : Nat), v = .slice ra0 rn0 rc0 ∧ RSl RInt 1 G ra0 rn0 rc0 r)) := by
 have hS := Since.start hS0
 have hO : Owns G0 w0 w0.heap.size [] := Owns.nil (Nat.le_refl _)
 unfold f75 at H
 refine enter1 (N := 137) (shutG _ _ _) Try.func75 rfl rfl rfl rfl ?_; refine WC_seq ?_; refine WC_region ?_; refine WL_op rfl (OpP_newF (v := fun b => .pointer (some ⟨b, 0, none⟩)) (cs := [.int .i64 x0.BaneSea.Islets, .slice a1 n1 c1, .slice a2 n2 c2, .slice a3 n3 c3, .int .i64 x0.BaneSea.Wait, .int .i64 x0.shut]) (e := 111) (rn_boxA rfl) hS.sat rfl (fun b4 G6 w5 hg hcb4 => ?_)); have hS := hS.grow hg; have hO := hO.grow hg
 have leG6 := hg.le
 refine WL_val (rn_assign (v := (.slice none 0 0)) rfl) rfl ?_; refine WL_nil ?_; refine WC_seq ?_; refine WC_region ?_; refine WL_val (rn_fld fd111_0 rfl) rfl ?_; refine WL_val (rn_fld fd46_0 rfl) rfl ?_; refine WL_val (rn_load na3 rfl (hS.sat.cell (hcb4 0 _ rfl))) rfl ?_; obtain ⟨y7, hy7, H⟩ := bnd H; refine WL_op rfl (OpP_make (R := RInt) sl25 zr3 hS hO hy7 rfl rfl rfl rfl rfl (fun b8 w9 clw9 hS hO hrw9 => ?_)); refine WL_val (rn_assign (v := (.slice (some ⟨b8, 0, none⟩) y7.length y7.length)) rfl) rfl ?_; refine WL_nil ?_; refine WC_seq ?_; refine WC_seq ?_; refine WC_region ?_; refine WL_val (rn_move (v := (.slice (some ⟨b8, 0, none⟩) y7.length y7.length)) rfl) rfl ?_; refine WL_val (rn_len (m := y7.length) sl25 rfl rfl rfl) rfl ?_; refine WL_val (rn_move (v := (.int .i64 0)) rfl) rfl ?_; refine WL_nil ?_; obtain ⟨q13, hq13, H⟩ := bnd H; refine WC_cut (fun F w => ∃ (Fb : Fr) (G : Gm) (aq13_0 : Option Addr) (nq13_0 cq13_0 : Nat) (claq13_0 : List Value), F = upds Fb [(1, .pointer (some ⟨b4, 0, none⟩)), (2, .slice none 0 0), (3, .slice aq13_0 nq13_0 cq13_0)] ∧ Gle G6 G ∧ Since w0.heap.size G0 w0 G w ∧ Owns G w w0.heap.size [⟨3, 1, nq13_0, .slice aq13_0 nq13_0 cq13_0, claq13_0⟩] ∧ nq13_0 = q13.length ∧ Rd RInt 1 G claq13_0 q13) ?_ ?_
 ·refine WC_block (WC_loop hq13 (fun s11 F w => ∃ (Fb : Fr) (G : Gm) (as11_0 : Option Addr) (ns11_0 cs11_0 : Nat) (clas11_0 : List Value), F = upds Fb [(1, .pointer (some ⟨b4, 0, none⟩)), (2, .slice none 0 0), (3, .slice as11_0 ns11_0 cs11_0), (21, .int .i64 (y7.length : Int)), (22, .int .i64 s11.2)] ∧ Gle G6 G ∧ Since w0.heap.size G0 w0 G w ∧ Owns G w w0.heap.size [⟨3, 1, ns11_0, .slice as11_0 ns11_0 cs11_0, clas11_0⟩] ∧ ns11_0 = s11.1.length ∧ Rd RInt 1 G clas11_0 s11.1) ?_ ?_)
  ·have hO : Owns G6 w9 w0.heap.size ([⟨3, 1, y7.length, .slice (some ⟨b8, 0, none⟩) y7.length y7.length, clw9⟩]) := hO
   exact ⟨_, G6, (some ⟨b8, 0, none⟩), y7.length, y7.length, clw9, upds_self _ _ ⟨rfl, rfl, rfl, rfl, rfl, trivial⟩, Gle.refl _, hS, hO, rfl, hrw9⟩
  ·rintro s11 F w15 t14 ⟨Fb, G16, as11_0, ns11_0, cs11_0, clas11_0, rfl, leG16, hS, hO, hnhs11_0, hs11_0⟩
   intro H1 hqq13
   have Hoq13 := H; have H := H1
   unfold f75_b0 at H
   refine WC_seq ?_; refine WC_region ?_; refine WL_val (rn_lss rfl rfl) rfl ?_; refine WL_nil ?_; refine WC_seq ?_; refine WC_cond rfl (fun hb17 => ?_) (fun hb17 => ?_)
   ·have H := ifT hb17 H; refine WC_skip ?_; refine WC_seq ?_; refine WC_block ?_; refine WC_seq ?_; refine WC_region ?_; refine WL_val (rn_move (v := (.int .i64 s11.2)) rfl) rfl ?_; refine WL_val (rn_assign (v := (.int .i64 s11.2)) rfl) rfl ?_; refine WL_nil ?_; refine WC_region ?_; refine WL_val (rn_move (v := (.slice as11_0 ns11_0 cs11_0)) rfl) rfl ?_; refine WL_val (rn_move (v := (.int .i64 s11.2)) rfl) rfl ?_; obtain ⟨y18, hy18, H⟩ := bnd H; refine WL_idxO sl25 hO (k := 0) rfl hnhs11_0 hs11_0 hy18 rfl rfl rfl ?_
    rintro b19 ob19 _ hb19 _ hcb19 ⟨⟩
    obtain ⟨y20, hy20, H⟩ := bnd H; refine WL_op rfl (OpP_storeE (vs := [.int .i64 (-1)]) (cs := [.int .i64 y18]) (j := 0) (y := (-1)) sz3 hS hO (k := 0) rfl hnhs11_0 rfl hs11_0 hb19 rfl hcb19 hy20 rfl rfl rfl rfl rfl (one_all rfl) (Nat.le_of_ble_eq_true rfl) (fun w21 clw21 hS hO hrw21 => ?_))
    have hO : Owns G16 w21 w0.heap.size ([⟨3, 1, ns11_0, .slice as11_0 ns11_0 cs11_0, clw21⟩]) := hO
    refine WL_nil ?_; refine WC_region ?_; refine WL_val (rn_add rfl rfl) rfl ?_; refine WL_val (rn_move (v := (.int .i64 (IntKind.i64.wrap (s11.2 + 1)))) rfl) rfl ?_; refine WL_nil ?_
    have hO : Owns G16 w21 w0.heap.size ([⟨3, 1, ns11_0, .slice as11_0 ns11_0 cs11_0, clw21⟩]) := hO
    have H := Option.some.inj H; subst H; refine ⟨_, rfl, ?_⟩
    exact ⟨_, G16, as11_0, ns11_0, cs11_0, clw21, upds_self _ _ ⟨rfl, rfl, rfl, rfl, rfl, trivial⟩, leG16, hS, hO, (Eq.trans hnhs11_0 (setIx_len hy20)), hrw21⟩
   ·have H := ifF hb17 H; refine WC_exit rfl ?_
    have hO : Owns G16 w15 w0.heap.size ([⟨3, 1, ns11_0, .slice as11_0 ns11_0 cs11_0, clas11_0⟩]) := hO
    have H := Option.some.inj H; subst H
    have hres := hqq13 _ rfl
    subst hres
    exact ⟨_, G16, as11_0, ns11_0, cs11_0, clas11_0, upds_self _ _ ⟨rfl, rfl, rfl, trivial⟩, leG16, hS, hO, hnhs11_0, hs11_0⟩
 ·rintro F w22 ⟨Fb, G23, aq13_0, nq13_0, cq13_0, claq13_0, rfl, leG23, hS, hO, hnhq13_0, hq13_0⟩
  refine WC_seq ?_; refine WC_region ?_
  refine WL_val (v := (.agg #[.slice none 0 0])) (by kernel_rfl) rfl ?_
  refine WL_op rfl (OpP_newO (v := fun b => .pointer (some ⟨b, 0, none⟩)) (cs := [.slice none 0 0]) (e := 140) (rn_boxA rfl) hS.sat hO rfl 1 1 rfl (by decide) (fun b24 w25 hb hO => ?_))
  have hS := hS.keep hb
  refine WL_op rfl (OpP_newO (v := fun b => .pointer (some ⟨b, 0, none⟩)) (cs := [.pointer none]) (e := 138) (by kernel_rfl) hS.sat hO rfl 1 1 rfl (by decide) (fun b27 w28 hb hO => ?_))
  have hS := hS.keep hb; refine WL_op rfl (OpP_store (vs := [.pointer (some ⟨b24, 0, none⟩)]) sz138 hS hO (k := 0) rfl rfl rfl rfl rfl (one_all rfl) (Nat.le_of_ble_eq_true rfl) (fun w30 hS hO => ?_))
  have hO : Owns G23 w30 w0.heap.size ([⟨138, 1, 1, .slice (some ⟨b27, 0, none⟩) 1 1, [.pointer (some ⟨b24, 0, none⟩)]⟩, ⟨140, 1, 1, .slice (some ⟨b24, 0, none⟩) 1 1, [.slice none 0 0]⟩, ⟨3, 1, nq13_0, .slice aq13_0 nq13_0 cq13_0, claq13_0⟩]) := hO
  obtain ⟨G31, leG31, hS, hO, hqG31, _⟩ := hO.freeze hS (k := 0) rfl
  have hcG31 : Cells G31 b27 0 [.pointer (some ⟨b24, 0, none⟩)] := (hqG31 _ _ _ _ rfl)
  refine WL_nil ?_; refine WC_seq ?_; refine WC_region ?_; refine WL_val (rn_fld fd111_0 rfl) rfl ?_; refine WL_val (rn_fld fd46_3 rfl) rfl ?_
  have l1_3 := leG23.trans leG31
  refine WL_val (rn_load na44 rfl ((hS.sat.le l1_3).cell (hcb4 3 _ rfl))) rfl ?_
  have l0_3 := leG6.trans l1_3
  refine WL_val (rn_len sl44 rfl rfl (h3.mono RTBaneTrip_mono l0_3).1) rfl ?_; obtain ⟨y32, hy32, H⟩ := bnd H; refine WL_op rfl (OpP_make (R := RBool) sl79 zr4 hS hO hy32 rfl rfl rfl rfl rfl (fun b33 w34 clw34 hS hO hrw34 => ?_))
  refine WL_op rfl (OpP_newO (v := fun b => .pointer (some ⟨b, 0, none⟩)) (cs := [.slice none 0 0]) (e := 79) (by kernel_rfl) hS.sat hO rfl 1 1 rfl (by decide) (fun b36 w37 hb hO => ?_))
  have hS := hS.keep hb; refine WL_op rfl (OpP_store (vs := [.slice (some ⟨b33, 0, none⟩) y32.length y32.length]) sz79 hS hO (k := 0) rfl rfl rfl rfl rfl (one_all rfl) (Nat.le_of_ble_eq_true rfl) (fun w39 hS hO => ?_))
  have hO : Owns G31 w39 w0.heap.size ([⟨79, 1, 1, .slice (some ⟨b36, 0, none⟩) 1 1, [.slice (some ⟨b33, 0, none⟩) y32.length y32.length]⟩, ⟨4, 1, y32.length, .slice (some ⟨b33, 0, none⟩) y32.length y32.length, clw34⟩, ⟨140, 1, 1, .slice (some ⟨b24, 0, none⟩) 1 1, [.slice none 0 0]⟩, ⟨3, 1, nq13_0, .slice aq13_0 nq13_0 cq13_0, claq13_0⟩]) := hO
  refine WL_nil ?_; refine WC_seq ?_; refine WC_seq ?_; refine WC_region ?_; refine WL_val (rn_loadA ag111 (cs := [.int .i64 x0.BaneSea.Islets, .slice a1 n1 c1, .slice a2 n2 c2, .slice a3 n3 c3, .int .i64 x0.BaneSea.Wait, .int .i64 x0.shut]) rfl rfl (fun j v hj => (hS.sat.le l1_3).cell (hcb4.drop_take 0 6 j v hj))) rfl ?_
  have hI40 := f77_it (x0 := x0) (a1 := a1) (n1 := n1) (c1 := c1) (a2 := a2) (n2 := n2) (c2 := c2) (a3 := a3) (n3 := n3) (c3 := c3) (h3.mono RTBaneTrip_mono l0_3)
  refine WL_val (rn_func (vs := [.agg #[.int .i64 x0.BaneSea.Islets, .slice a1 n1 c1, .slice a2 n2 c2, .slice a3 n3 c3, .int .i64 x0.BaneSea.Wait, .int .i64 x0.shut]]) (us := []) rfl rfl) rfl ?_; refine WL_nil ?_; refine WC_block ?_; have hO := hO.cons_nil 3 1
  have hO : Owns G31 w39 w0.heap.size ([⟨3, 1, 0, .slice none 0 0, []⟩, ⟨79, 1, 1, .slice (some ⟨b36, 0, none⟩) 1 1, [.slice (some ⟨b33, 0, none⟩) y32.length y32.length]⟩, ⟨4, 1, y32.length, .slice (some ⟨b33, 0, none⟩) y32.length y32.length, clw34⟩, ⟨140, 1, 1, .slice (some ⟨b24, 0, none⟩) 1 1, [.slice none 0 0]⟩, ⟨3, 1, nq13_0, .slice aq13_0 nq13_0 cq13_0, claq13_0⟩]) := hO
  obtain ⟨q44, hq44, H⟩ := bnd H; refine WC_range (xs := openL x0.shut 0 x0.BaneSea.Trips) (enc := encT) (bd := f75_b1 x0) (fi := [.agg #[.int .i64 x0.BaneSea.Islets, .slice a1 n1 c1, .slice a2 n2 c2, .slice a3 n3 c3, .int .i64 x0.BaneSea.Wait, .int .i64 x0.shut]]) (ca := []) cb77 hI40 rfl (fun _ => rfl) rfl hq44 (fun (s42 : (List Bool) × TQueue_int_) (G : Gm) (L : List Row) => ∃ (as42_0 : Option Addr) (ns42_0 cs42_0 : Nat) (clas42_0 : List Value) (as42_1 : Option Addr) (ns42_1 cs42_1 : Nat) (clas42_1 : List Value), L = [⟨3, 1, ns42_1, .slice as42_1 ns42_1 cs42_1, clas42_1⟩, ⟨79, 1, 1, .slice (some ⟨b36, 0, none⟩) 1 1, [.slice as42_0 ns42_0 cs42_0]⟩, ⟨4, 1, ns42_0, .slice as42_0 ns42_0 cs42_0, clas42_0⟩, ⟨140, 1, 1, .slice (some ⟨b24, 0, none⟩) 1 1, [.slice as42_1 ns42_1 cs42_1]⟩, ⟨3, 1, nq13_0, .slice aq13_0 nq13_0 cq13_0, claq13_0⟩] ∧ ns42_0 = s42.1.length ∧ Rd RBool 1 G clas42_0 s42.1 ∧ ns42_1 = s42.2.all.length ∧ Rd RInt 1 G clas42_1 s42.2.all) (fun (p68 : Empty) (c69 : Code) (G : Gm) (L : List Row) => False) ?_ hS hO ⟨(some ⟨b33, 0, none⟩), y32.length, y32.length, clw34, none, 0, 0, [], rfl, rfl, hrw34, rfl, (Rd.nil RInt 1 G31)⟩ [] ?_ ?_ ?_
  ·rintro s42 G1 G2 L hle ⟨as42_0, ns42_0, cs42_0, clas42_0, as42_1, ns42_1, cs42_1, clas42_1, rfl, hnhs42_0, hs42_0, hnhs42_1, hs42_1⟩
   exact ⟨as42_0, ns42_0, cs42_0, clas42_0, as42_1, ns42_1, cs42_1, clas42_1, rfl, hnhs42_0, hs42_0.mono RBool_mono hle, hnhs42_1, hs42_1.mono RInt_mono hle⟩
  ·rintro l70 y43 s42 t45 G47 w46 L71 Lx48 leG47 hS hO ⟨as42_0, ns42_0, cs42_0, clas42_0, as42_1, ns42_1, cs42_1, clas42_1, rfl, hnhs42_0, hs42_0, hnhs42_1, hs42_1⟩ H1 hqq44
   have hO : Owns G47 w46 w0.heap.size (⟨3, 1, ns42_1, .slice as42_1 ns42_1 cs42_1, clas42_1⟩ :: ⟨79, 1, 1, .slice (some ⟨b36, 0, none⟩) 1 1, [.slice as42_0 ns42_0 cs42_0]⟩ :: ⟨4, 1, ns42_0, .slice as42_0 ns42_0 cs42_0, clas42_0⟩ :: ⟨140, 1, 1, .slice (some ⟨b24, 0, none⟩) 1 1, [.slice as42_1 ns42_1 cs42_1]⟩ :: ⟨3, 1, nq13_0, .slice aq13_0 nq13_0 cq13_0, claq13_0⟩ :: Lx48) := hO
   have Hoq44 := H; have H := H1
   unfold f75_b1 at H
   refine WC_seq ?_; refine WC_region ?_; refine WL_val (rn_assign (v := (.int .i64 y43.1)) rfl) rfl ?_; refine WL_nil ?_; refine WC_region ?_
   refine WL_op rfl (OpP_newO (v := fun b => .pointer (some ⟨b, 0, none⟩)) (cs := [.int .i64 0, .int .i64 0, .int .i64 0, .int .i64 0]) (e := 109) (by kernel_rfl) hS.sat hO rfl 4 1 rfl (by decide) (fun b49 w50 hb hO => ?_))
   have hS := hS.keep hb; refine WL_op rfl (OpP_store (vs := [.int .i64 y43.2.Day, .int .i64 y43.2.From, .int .i64 y43.2.To, .int .i64 y43.2.Cost]) sz109 hS hO (k := 0) rfl rfl rfl rfl rfl (one_all rfl) (Nat.le_of_ble_eq_true rfl) (fun w52 hS hO => ?_))
   have hO : Owns G47 w52 w0.heap.size (⟨109, 4, 1, .slice (some ⟨b49, 0, none⟩) 1 1, [.int .i64 y43.2.Day, .int .i64 y43.2.From, .int .i64 y43.2.To, .int .i64 y43.2.Cost]⟩ :: ⟨3, 1, ns42_1, .slice as42_1 ns42_1 cs42_1, clas42_1⟩ :: ⟨79, 1, 1, .slice (some ⟨b36, 0, none⟩) 1 1, [.slice as42_0 ns42_0 cs42_0]⟩ :: ⟨4, 1, ns42_0, .slice as42_0 ns42_0 cs42_0, clas42_0⟩ :: ⟨140, 1, 1, .slice (some ⟨b24, 0, none⟩) 1 1, [.slice as42_1 ns42_1 cs42_1]⟩ :: ⟨3, 1, nq13_0, .slice aq13_0 nq13_0 cq13_0, claq13_0⟩ :: Lx48) := hO
   obtain ⟨G53, leG53, hS, hO, hqG53, _⟩ := hO.freeze hS (k := 0) rfl
   have hcG53 : Cells G53 b49 0 [.int .i64 y43.2.Day, .int .i64 y43.2.From, .int .i64 y43.2.To, .int .i64 y43.2.Cost] := (hqG53 _ _ _ _ rfl)
   refine WL_nil ?_
   intro w54 hfix
   have hS := hS.fix hfix; have hO := hO.fix hfix; refine WC_block ?_; refine WC_seq ?_; refine WC_region ?_; refine WL_val (rn_fld fd111_0 rfl) rfl ?_; refine WL_val (rn_fld fd46_1 rfl) rfl ?_
   have l1_5 := (l1_3.trans leG47).trans leG53
   refine WL_val (rn_load na25 rfl ((hS.sat.le l1_5).cell (hcb4 1 _ rfl))) rfl ?_; refine WL_val (rn_fld fd109_1 rfl) rfl ?_; refine WL_val (rn_load na3 rfl (hS.sat.cell (hcG53 1 _ rfl))) rfl ?_; obtain ⟨y55, hy55, H⟩ := bnd H
   have l0_5 := (l0_3.trans leG47).trans leG53
   refine WL_op rfl (OpP_callV cb74 (f74_ok (x0 := x0.BaneSea.Infested) (x1 := y43.2.From) hS.sat (h1.mono RInt_mono l0_5) hy55) rfl rfl (fun w56 hb => ?_)); have hS := hS.keep hb; have hO := hO.below hb; refine WL_nil ?_; refine WC_cond rfl (fun hb57 => ?_) (fun hb57 => ?_)
   ·have H := ifT hb57 H; refine WC_seq ?_; refine WC_region ?_; refine WL_val (rn_load na79 rfl (own_cell hO (k := 1) rfl (j := 0) rfl)) rfl ?_; refine WL_val (rn_move (v := (.int .i64 y43.1)) rfl) rfl ?_; obtain ⟨y58, hy58, H⟩ := bnd H; refine WL_idxO sl79 hO (k := 2) rfl hnhs42_0 (hs42_0.mono RBool_mono leG53) hy58 rfl rfl rfl ?_
    rintro b59 ob59 _ hb59 _ hcb59 ⟨⟩
    obtain ⟨y60, hy60, H⟩ := bnd H; refine WL_op rfl (OpP_storeE (vs := [.bool true]) (cs := [.bool y58]) (j := 0) (y := true) sz4 hS hO (k := 2) rfl hnhs42_0 rfl (hs42_0.mono RBool_mono leG53) hb59 rfl hcb59 hy60 rfl rfl rfl rfl rfl (one_all rfl) (Nat.le_of_ble_eq_true rfl) (fun w61 clw61 hS hO hrw61 => ?_))
    have hO : Owns G53 w61 w0.heap.size (⟨3, 1, ns42_1, .slice as42_1 ns42_1 cs42_1, clas42_1⟩ :: ⟨79, 1, 1, .slice (some ⟨b36, 0, none⟩) 1 1, [.slice as42_0 ns42_0 cs42_0]⟩ :: ⟨4, 1, ns42_0, .slice as42_0 ns42_0 cs42_0, clw61⟩ :: ⟨140, 1, 1, .slice (some ⟨b24, 0, none⟩) 1 1, [.slice as42_1 ns42_1 cs42_1]⟩ :: ⟨3, 1, nq13_0, .slice aq13_0 nq13_0 cq13_0, claq13_0⟩ :: Lx48) := hO
    refine WL_nil ?_; refine WC_region ?_
    have l3_5 := leG47.trans leG53
    refine WL_val (rn_load na138 rfl ((hS.sat.le l3_5).cell (hcG31 0 _ rfl))) rfl ?_; refine WL_val (rn_move (v := (.int .i64 y43.1)) rfl) rfl ?_; refine WL_op rfl (OpP_in0 (N' := 14) [.pointer (some ⟨b24, 0, none⟩), .int .i64 y43.1] cb100 Try.func100 rfl rfl rfl rfl rfl rfl ?_); refine WC_region ?_; refine WL_val (rn_move (v := (.pointer (some ⟨b24, 0, none⟩))) rfl) rfl ?_; refine WL_val (rn_move (v := (.pointer (some ⟨b24, 0, none⟩))) rfl) rfl ?_
    refine WL_val (v := (.pointer (some ⟨b24, 0, none⟩))) (by kernel_rfl) rfl ?_
    refine WL_val (rn_fld fd140_0 rfl) rfl ?_; refine WL_val (rn_load na25 rfl (own_cell hO (k := 3) rfl (j := 0) rfl)) rfl ?_; refine WL_val (rn_move (v := (.int .i64 y43.1)) rfl) rfl ?_
    refine WL_op rfl (OpP_newF (v := fun b => .slice (some ⟨b, 0, none⟩) 1 1) (cs := [.int .i64 y43.1]) (e := 3) (by kernel_rfl) hS.sat rfl (fun b62 G64 w63 hg hcb62 => ?_))
    have hS := hS.grow hg; have hO := hO.grow hg
    have leG64 := hg.le
    have hfb62 : RSl RInt 1 G64 (some ⟨b62, 0, none⟩) 1 1 [y43.1] := RSl.of_rd hcb62 (Rd.cons (c := [.int .i64 y43.1]) rfl rfl (Rd.nil RInt 1 _)) rfl (by decide)
    obtain ⟨y65, hy65, H⟩ := bnd H
    have l4_6 := leG53.trans leG64
    refine WL_op rfl (OpP_append (k := 0) sl25 RInt_one hS hO rfl hnhs42_1 (hs42_1.mono RInt_mono l4_6) hfb62 hy65 rfl rfl rfl rfl rfl (fun aw66 cw66 w66 clw66 hS hO hrw66 => ?_))
    have hO : Owns G64 w66 w0.heap.size (⟨3, 1, y65.length, .slice aw66 y65.length cw66, clw66⟩ :: ⟨79, 1, 1, .slice (some ⟨b36, 0, none⟩) 1 1, [.slice as42_0 ns42_0 cs42_0]⟩ :: ⟨4, 1, ns42_0, .slice as42_0 ns42_0 cs42_0, clw61⟩ :: ⟨140, 1, 1, .slice (some ⟨b24, 0, none⟩) 1 1, [.slice as42_1 ns42_1 cs42_1]⟩ :: ⟨3, 1, nq13_0, .slice aq13_0 nq13_0 cq13_0, claq13_0⟩ :: Lx48) := hO
    refine WL_val (v := (.pointer (some ⟨b24, 0, none⟩))) (by kernel_rfl) rfl ?_
    refine WL_val (rn_fld fd140_0 rfl) rfl ?_; refine WL_op rfl (OpP_store (vs := [.slice aw66 y65.length cw66]) sz25 hS hO (k := 3) rfl rfl rfl rfl rfl (one_all rfl) (Nat.le_of_ble_eq_true rfl) (fun w67 hS hO => ?_))
    have hO : Owns G64 w67 w0.heap.size (⟨3, 1, y65.length, .slice aw66 y65.length cw66, clw66⟩ :: ⟨79, 1, 1, .slice (some ⟨b36, 0, none⟩) 1 1, [.slice as42_0 ns42_0 cs42_0]⟩ :: ⟨4, 1, ns42_0, .slice as42_0 ns42_0 cs42_0, clw61⟩ :: ⟨140, 1, 1, .slice (some ⟨b24, 0, none⟩) 1 1, [.slice aw66 y65.length cw66]⟩ :: ⟨3, 1, nq13_0, .slice aq13_0 nq13_0 cq13_0, claq13_0⟩ :: Lx48) := hO
    refine WL_nil ?_; refine WL_nil ?_
    have hO : Owns G64 w67 w0.heap.size (⟨3, 1, y65.length, .slice aw66 y65.length cw66, clw66⟩ :: ⟨79, 1, 1, .slice (some ⟨b36, 0, none⟩) 1 1, [.slice as42_0 ns42_0 cs42_0]⟩ :: ⟨4, 1, ns42_0, .slice as42_0 ns42_0 cs42_0, clw61⟩ :: ⟨140, 1, 1, .slice (some ⟨b24, 0, none⟩) 1 1, [.slice aw66 y65.length cw66]⟩ :: ⟨3, 1, nq13_0, .slice aq13_0 nq13_0 cq13_0, claq13_0⟩ :: Lx48) := hO
    have H := Option.some.inj H; subst H
    exact ⟨_, rfl, _, [⟨3, 1, y65.length, .slice aw66 y65.length cw66, clw66⟩, ⟨79, 1, 1, .slice (some ⟨b36, 0, none⟩) 1 1, [.slice as42_0 ns42_0 cs42_0]⟩, ⟨4, 1, ns42_0, .slice as42_0 ns42_0 cs42_0, clw61⟩, ⟨140, 1, 1, .slice (some ⟨b24, 0, none⟩) 1 1, [.slice aw66 y65.length cw66]⟩, ⟨3, 1, nq13_0, .slice aq13_0 nq13_0 cq13_0, claq13_0⟩], l4_6, hS, hO, ⟨as42_0, ns42_0, cs42_0, clw61, aw66, y65.length, cw66, clw66, rfl, (Eq.trans hnhs42_0 (setIx_len hy60)), (hrw61.mono RBool_mono leG64), rfl, hrw66⟩⟩
   ·have H := ifF hb57 H; refine WC_skip ?_
    have hO : Owns G53 w56 w0.heap.size (⟨3, 1, ns42_1, .slice as42_1 ns42_1 cs42_1, clas42_1⟩ :: ⟨79, 1, 1, .slice (some ⟨b36, 0, none⟩) 1 1, [.slice as42_0 ns42_0 cs42_0]⟩ :: ⟨4, 1, ns42_0, .slice as42_0 ns42_0 cs42_0, clas42_0⟩ :: ⟨140, 1, 1, .slice (some ⟨b24, 0, none⟩) 1 1, [.slice as42_1 ns42_1 cs42_1]⟩ :: ⟨3, 1, nq13_0, .slice aq13_0 nq13_0 cq13_0, claq13_0⟩ :: Lx48) := hO
    have H := Option.some.inj H; subst H
    exact ⟨_, rfl, _, [⟨3, 1, ns42_1, .slice as42_1 ns42_1 cs42_1, clas42_1⟩, ⟨79, 1, 1, .slice (some ⟨b36, 0, none⟩) 1 1, [.slice as42_0 ns42_0 cs42_0]⟩, ⟨4, 1, ns42_0, .slice as42_0 ns42_0 cs42_0, clas42_0⟩, ⟨140, 1, 1, .slice (some ⟨b24, 0, none⟩) 1 1, [.slice as42_1 ns42_1 cs42_1]⟩, ⟨3, 1, nq13_0, .slice aq13_0 nq13_0 cq13_0, claq13_0⟩], leG53, hS, hO, ⟨as42_0, ns42_0, cs42_0, clas42_0, as42_1, ns42_1, cs42_1, clas42_1, rfl, hnhs42_0, (hs42_0.mono RBool_mono leG53), hnhs42_1, (hs42_1.mono RInt_mono leG53)⟩⟩
  ·rintro s42 G73 w72 L173 hres leG73 hS hO ⟨as42_0, ns42_0, cs42_0, clas42_0, as42_1, ns42_1, cs42_1, clas42_1, rfl, hnhs42_0, hs42_0, hnhs42_1, hs42_1⟩
   subst hres; refine WC_seq ?_; refine WC_seq ?_; obtain ⟨q74, hq74, H⟩ := bnd H; refine WC_cut (fun F w => ∃ (Fb : Fr) (G : Gm) (aq74_0 : Option Addr) (nq74_0 cq74_0 : Nat) (claq74_0 : List Value), F = upds Fb [(1, .pointer (some ⟨b4, 0, none⟩)), (2, .slice none 0 0), (3, .slice aq13_0 nq13_0 cq13_0), (5, .pointer (some ⟨b27, 0, none⟩)), (6, .pointer (some ⟨b36, 0, none⟩)), (9, .int .i64 q74.1), (10, .bool q74.2.1)] ∧ Gle G73 G ∧ Since w0.heap.size G0 w0 G w ∧ Owns G w w0.heap.size [⟨3, 1, nq74_0, .slice aq74_0 nq74_0 cq74_0, claq74_0⟩, ⟨79, 1, 1, .slice (some ⟨b36, 0, none⟩) 1 1, [.slice as42_0 ns42_0 cs42_0]⟩, ⟨4, 1, ns42_0, .slice as42_0 ns42_0 cs42_0, clas42_0⟩, ⟨140, 1, 1, .slice (some ⟨b24, 0, none⟩) 1 1, [.slice aq74_0 nq74_0 cq74_0]⟩, ⟨3, 1, nq13_0, .slice aq13_0 nq13_0 cq13_0, claq13_0⟩] ∧ nq74_0 = q74.2.2.all.length ∧ Rd RInt 1 G claq74_0 q74.2.2.all) ?_ ?_
   ·have Hoq74 := H; have H := hq74; refine WC_region ?_; refine WL_val (rn_load na138 rfl ((hS.sat.le leG73).cell (hcG31 0 _ rfl))) rfl ?_; refine WL_op rfl (OpP_in2 (N' := 27) [.pointer (some ⟨b24, 0, none⟩)] cb101 Try.func101 rfl rfl rfl rfl rfl rfl ?_); refine WC_seq ?_; refine WC_region ?_; refine WL_val (rn_assign (v := (.int .i64 0)) rfl) rfl ?_; refine WL_val (rn_assign (v := (.bool false)) rfl) rfl ?_; refine WL_nil ?_; refine WC_seq ?_; refine WC_region ?_; refine WL_val (rn_assign (v := (.int .i64 0)) rfl) rfl ?_; refine WL_nil ?_; refine WC_seq ?_; refine WC_seq ?_; refine WC_region ?_; refine WL_val (rn_move (v := (.pointer (some ⟨b24, 0, none⟩))) rfl) rfl ?_
    refine WL_val (v := (.pointer (some ⟨b24, 0, none⟩))) (by kernel_rfl) rfl ?_
    refine WL_val (rn_fld fd140_0 rfl) rfl ?_; refine WL_val (rn_load na25 rfl (own_cell hO (k := 3) rfl (j := 0) rfl)) rfl ?_; refine WL_val (rn_len (m := s42.2.all.length) sl25 rfl rfl hnhs42_1) rfl ?_; refine WL_val (rn_eql rfl rfl) rfl ?_; refine WL_nil ?_; refine WC_cond rfl (fun hb75 => ?_) (fun hb75 => ?_)
    ·have H := ifT hb75 H; refine WC_seq ?_; refine WC_region ?_; refine WL_val (rn_move (v := (.int .i64 0)) rfl) rfl ?_; refine WL_val (rn_assign (v := (.int .i64 0)) rfl) rfl ?_; refine WL_val (rn_assign (v := (.bool false)) rfl) rfl ?_; refine WL_nil ?_; refine WC_ret ?_; refine ⟨(.int .i64 0), (.bool false), rfl, rfl, ?_⟩; refine WL_val (rn_move (v := (.tuple #[.int .i64 0, .bool false])) rfl) rfl ?_; refine WL_val (rn_extract (v := (.int .i64 0)) rfl rfl) rfl ?_; refine WL_val (rn_extract (v := (.bool false)) rfl rfl) rfl ?_; refine WL_val (rn_assign (v := (.int .i64 0)) rfl) rfl ?_; refine WL_val (rn_assign (v := (.bool false)) rfl) rfl ?_; refine WL_nil ?_
     have hO : Owns G73 w72 w0.heap.size ([⟨3, 1, ns42_1, .slice as42_1 ns42_1 cs42_1, clas42_1⟩, ⟨79, 1, 1, .slice (some ⟨b36, 0, none⟩) 1 1, [.slice as42_0 ns42_0 cs42_0]⟩, ⟨4, 1, ns42_0, .slice as42_0 ns42_0 cs42_0, clas42_0⟩, ⟨140, 1, 1, .slice (some ⟨b24, 0, none⟩) 1 1, [.slice as42_1 ns42_1 cs42_1]⟩, ⟨3, 1, nq13_0, .slice aq13_0 nq13_0 cq13_0, claq13_0⟩]) := hO
     have H := Option.some.inj H; subst H
     exact ⟨_, G73, as42_1, ns42_1, cs42_1, clas42_1, upds_self _ _ ⟨rfl, rfl, rfl, rfl, rfl, rfl, rfl, trivial⟩, Gle.refl _, hS, hO, hnhs42_1, hs42_1⟩
    ·have H := ifF hb75 H; refine WC_skip ?_; refine WC_seq ?_; have hS := hS.keep (below_drew _); have hO := hO.below (below_drew _)
     refine WC_regionD mixedO (fun _ w => Sat G73 w ∧ Owns G73 w w0.heap.size [⟨3, 1, ns42_1, .slice as42_1 ns42_1 cs42_1, clas42_1⟩, ⟨79, 1, 1, .slice (some ⟨b36, 0, none⟩) 1 1, [.slice as42_0 ns42_0 cs42_0]⟩, ⟨4, 1, ns42_0, .slice as42_0 ns42_0 cs42_0, clas42_0⟩, ⟨140, 1, 1, .slice (some ⟨b24, 0, none⟩) 1 1, [.slice as42_1 ns42_1 cs42_1]⟩, ⟨3, 1, nq13_0, .slice aq13_0 nq13_0 cq13_0, claq13_0⟩]) (.fl 0 (.fl 1 (.fl 2 (.fl 3 (.fl 4 (.fl 5 (.fl 6 (.fl 7 (.fl 8 (.fl 9 (.fl 10 (.fl 11 (.on 12 (.on 13 (.on 14 (.on 15 .nil)))))))))))))))) (by kernel_rfl) rfl (by kernel_rfl) (fun _ => ⟨hS.sat, hO⟩) ?_
     refine WD_val rfl (fun w hw => rn_move (v := (.pointer (some ⟨b24, 0, none⟩))) rfl) rfl ?_; refine WD_val rfl (fun w hw => rn_move (v := (.pointer (some ⟨b24, 0, none⟩))) rfl) rfl ?_
     refine WD_val (v := (.pointer (some ⟨b24, 0, none⟩))) rfl (fun w hw => by kernel_rfl) rfl ?_
     refine WD_val rfl (fun w hw => rn_fld fd140_0 rfl) rfl ?_; refine WD_val rfl (fun w hw => rn_load na25 rfl (own_cell hw.2 (k := 3) rfl (j := 0) rfl)) rfl ?_; obtain ⟨y76, hy76, H⟩ := bnd H; refine WD_idxO rfl sl25 hO (k := 0) rfl hnhs42_1 hs42_1 hy76 rfl rfl rfl ?_
     rintro b77 ob77 _ hb77 _ hcb77 ⟨⟩
     refine WD_val rfl (fun w hw => rn_load na3 rfl (own_cellB hw.2 (k := 0) rfl hb77 _ 0 (hcb77 0 _ rfl))) rfl ?_; refine WD_val rfl (fun w hw => rn_move (v := (.pointer (some ⟨b24, 0, none⟩))) rfl) rfl ?_
     refine WD_val (v := (.pointer (some ⟨b24, 0, none⟩))) rfl (fun w hw => by kernel_rfl) rfl ?_
     refine WD_val rfl (fun w hw => rn_fld fd140_0 rfl) rfl ?_; refine WD_val rfl (fun w hw => rn_load na25 rfl (own_cell hw.2 (k := 3) rfl (j := 0) rfl)) rfl ?_; obtain ⟨y78, hy78, H⟩ := bnd H; obtain ⟨hl0, hl1, hl2, _⟩ := subL_some hy78
     have hln : ns42_1 = s42.2.all.length := hnhs42_1
     obtain ⟨_, hnc, ay78, cy78, cly78, hsl, hOy78, hry78⟩ := hO.resl (k := 0) rfl hnhs42_1 hs42_1 hy78 (q := ns42_1) ((Int.toNat_natCast _).trans hln.symm)
     refine WD_val (v := (.slice ay78 y78.length cy78)) rfl (fun w hw => (rn_sliceL sl25 rfl rfl hl0 (by omega) _).trans (congrArg (fun v => Result.ok (Next.value v) _) hsl)) rfl ?_
     refine WD_op rfl rfl (OpP_val (rn_assign (v := (.int .i64 y76)) rfl) rfl ?_); refine ⟨fun _ _ => ⟨hS.sat, hO⟩, ?_⟩
     refine WD_op rfl rfl (OpP_val (v := (.pointer (some ⟨b24, 0, none⟩))) (by kernel_rfl) rfl ?_)
     refine ⟨fun _ h => noneed (by kernel_rfl) h, ?_⟩
     refine WD_op rfl rfl (OpP_val (rn_fld fd140_0 rfl) rfl ?_)
     refine ⟨fun _ h => noneed (by kernel_rfl) h, ?_⟩
     have hO : Owns G73 w72.drew w0.heap.size ([⟨3, 1, y78.length, .slice ay78 y78.length cy78, cly78⟩, ⟨79, 1, 1, .slice (some ⟨b36, 0, none⟩) 1 1, [.slice as42_0 ns42_0 cs42_0]⟩, ⟨4, 1, ns42_0, .slice as42_0 ns42_0 cs42_0, clas42_0⟩, ⟨140, 1, 1, .slice (some ⟨b24, 0, none⟩) 1 1, [.slice as42_1 ns42_1 cs42_1]⟩, ⟨3, 1, nq13_0, .slice aq13_0 nq13_0 cq13_0, claq13_0⟩]) := hOy78
     refine WD_op rfl rfl (OpP_store (vs := [.slice ay78 y78.length cy78]) sz25 hS hO (k := 3) rfl rfl rfl rfl rfl (one_all rfl) (Nat.le_of_ble_eq_true rfl) (fun w79 hS hO => ?_))
     have hO : Owns G73 w79 w0.heap.size ([⟨3, 1, y78.length, .slice ay78 y78.length cy78, cly78⟩, ⟨79, 1, 1, .slice (some ⟨b36, 0, none⟩) 1 1, [.slice as42_0 ns42_0 cs42_0]⟩, ⟨4, 1, ns42_0, .slice as42_0 ns42_0 cs42_0, clas42_0⟩, ⟨140, 1, 1, .slice (some ⟨b24, 0, none⟩) 1 1, [.slice ay78 y78.length cy78]⟩, ⟨3, 1, nq13_0, .slice aq13_0 nq13_0 cq13_0, claq13_0⟩]) := hO
     refine ⟨fun _ h => noneed (by kernel_rfl) h, ?_⟩
     refine WD_nil ?_; refine WC_seq ?_; refine WC_region ?_; refine WL_val (rn_move (v := (.int .i64 y76)) rfl) rfl ?_; refine WL_val (rn_assign (v := (.int .i64 y76)) rfl) rfl ?_; refine WL_val (rn_assign (v := (.bool true)) rfl) rfl ?_; refine WL_nil ?_; refine WC_ret ?_; refine ⟨(.int .i64 y76), (.bool true), rfl, rfl, ?_⟩; refine WL_val (rn_move (v := (.tuple #[.int .i64 y76, .bool true])) rfl) rfl ?_; refine WL_val (rn_extract (v := (.int .i64 y76)) rfl rfl) rfl ?_; refine WL_val (rn_extract (v := (.bool true)) rfl rfl) rfl ?_; refine WL_val (rn_assign (v := (.int .i64 y76)) rfl) rfl ?_; refine WL_val (rn_assign (v := (.bool true)) rfl) rfl ?_; refine WL_nil ?_
     have hO : Owns G73 w79 w0.heap.size ([⟨3, 1, y78.length, .slice ay78 y78.length cy78, cly78⟩, ⟨79, 1, 1, .slice (some ⟨b36, 0, none⟩) 1 1, [.slice as42_0 ns42_0 cs42_0]⟩, ⟨4, 1, ns42_0, .slice as42_0 ns42_0 cs42_0, clas42_0⟩, ⟨140, 1, 1, .slice (some ⟨b24, 0, none⟩) 1 1, [.slice ay78 y78.length cy78]⟩, ⟨3, 1, nq13_0, .slice aq13_0 nq13_0 cq13_0, claq13_0⟩]) := hO
     have H := Option.some.inj H; subst H
     exact ⟨_, G73, ay78, y78.length, cy78, cly78, upds_self _ _ ⟨rfl, rfl, rfl, rfl, rfl, rfl, rfl, trivial⟩, Gle.refl _, hS, hO, rfl, hry78⟩
   ·rintro F w80 ⟨Fb, G81, aq74_0, nq74_0, cq74_0, claq74_0, rfl, leG81, hS, hO, hnhq74_0, hq74_0⟩
    obtain ⟨q84, hq84, H⟩ := bnd H; refine WC_cut (fun F w => ∃ (Fb : Fr) (G : Gm) (aq84_0 : Option Addr) (nq84_0 cq84_0 : Nat) (claq84_0 : List Value) (aq84_1 : Option Addr) (nq84_1 cq84_1 : Nat) (claq84_1 : List Value) (aq84_2 : Option Addr) (nq84_2 cq84_2 : Nat) (claq84_2 : List Value), F = upds Fb [(1, .pointer (some ⟨b4, 0, none⟩)), (3, .slice aq84_0 nq84_0 cq84_0)] ∧ Gle G81 G ∧ Since w0.heap.size G0 w0 G w ∧ Owns G w w0.heap.size [⟨3, 1, nq84_2, .slice aq84_2 nq84_2 cq84_2, claq84_2⟩, ⟨79, 1, 1, .slice (some ⟨b36, 0, none⟩) 1 1, [.slice aq84_1 nq84_1 cq84_1]⟩, ⟨4, 1, nq84_1, .slice aq84_1 nq84_1 cq84_1, claq84_1⟩, ⟨140, 1, 1, .slice (some ⟨b24, 0, none⟩) 1 1, [.slice aq84_2 nq84_2 cq84_2]⟩, ⟨3, 1, nq84_0, .slice aq84_0 nq84_0 cq84_0, claq84_0⟩] ∧ nq84_0 = q84.1.length ∧ Rd RInt 1 G claq84_0 q84.1 ∧ nq84_1 = q84.2.1.length ∧ Rd RBool 1 G claq84_1 q84.2.1 ∧ nq84_2 = q84.2.2.all.length ∧ Rd RInt 1 G claq84_2 q84.2.2.all) ?_ ?_
    ·refine WC_block (WC_loop hq84 (fun s82 F w => ∃ (Fb : Fr) (G : Gm) (as82_0 : Option Addr) (ns82_0 cs82_0 : Nat) (clas82_0 : List Value) (as82_1 : Option Addr) (ns82_1 cs82_1 : Nat) (clas82_1 : List Value) (as82_2 : Option Addr) (ns82_2 cs82_2 : Nat) (clas82_2 : List Value), F = upds Fb [(1, .pointer (some ⟨b4, 0, none⟩)), (2, .slice none 0 0), (3, .slice as82_0 ns82_0 cs82_0), (5, .pointer (some ⟨b27, 0, none⟩)), (6, .pointer (some ⟨b36, 0, none⟩)), (9, .int .i64 s82.2.1), (10, .bool s82.2.2.1)] ∧ Gle G81 G ∧ Since w0.heap.size G0 w0 G w ∧ Owns G w w0.heap.size [⟨3, 1, ns82_2, .slice as82_2 ns82_2 cs82_2, clas82_2⟩, ⟨79, 1, 1, .slice (some ⟨b36, 0, none⟩) 1 1, [.slice as82_1 ns82_1 cs82_1]⟩, ⟨4, 1, ns82_1, .slice as82_1 ns82_1 cs82_1, clas82_1⟩, ⟨140, 1, 1, .slice (some ⟨b24, 0, none⟩) 1 1, [.slice as82_2 ns82_2 cs82_2]⟩, ⟨3, 1, ns82_0, .slice as82_0 ns82_0 cs82_0, clas82_0⟩] ∧ ns82_0 = s82.1.length ∧ Rd RInt 1 G clas82_0 s82.1 ∧ ns82_1 = s82.2.2.2.1.length ∧ Rd RBool 1 G clas82_1 s82.2.2.2.1 ∧ ns82_2 = s82.2.2.2.2.all.length ∧ Rd RInt 1 G clas82_2 s82.2.2.2.2.all) ?_ ?_)
     ·have hO : Owns G81 w80 w0.heap.size ([⟨3, 1, nq74_0, .slice aq74_0 nq74_0 cq74_0, claq74_0⟩, ⟨79, 1, 1, .slice (some ⟨b36, 0, none⟩) 1 1, [.slice as42_0 ns42_0 cs42_0]⟩, ⟨4, 1, ns42_0, .slice as42_0 ns42_0 cs42_0, clas42_0⟩, ⟨140, 1, 1, .slice (some ⟨b24, 0, none⟩) 1 1, [.slice aq74_0 nq74_0 cq74_0]⟩, ⟨3, 1, nq13_0, .slice aq13_0 nq13_0 cq13_0, claq13_0⟩]) := hO
      have l2_5 := (leG31.trans leG73).trans leG81
      exact ⟨_, G81, aq13_0, nq13_0, cq13_0, claq13_0, as42_0, ns42_0, cs42_0, clas42_0, aq74_0, nq74_0, cq74_0, claq74_0, upds_self _ _ ⟨rfl, rfl, rfl, rfl, rfl, rfl, rfl, trivial⟩, Gle.refl _, hS, hO, hnhq13_0, (hq13_0.mono RInt_mono l2_5), hnhs42_0, (hs42_0.mono RBool_mono leG81), hnhq74_0, hq74_0⟩
     ·rintro s82 F w86 t85 ⟨Fb, G87, as82_0, ns82_0, cs82_0, clas82_0, as82_1, ns82_1, cs82_1, clas82_1, as82_2, ns82_2, cs82_2, clas82_2, rfl, leG87, hS, hO, hnhs82_0, hs82_0, hnhs82_1, hs82_1, hnhs82_2, hs82_2⟩
      intro H1 hqq84
      have Hoq84 := H; have H := H1
      unfold f75_b2 at H
      refine WC_seq ?_; refine WC_seq ?_; refine WC_region ?_; refine WL_val (rn_move (v := (.bool s82.2.2.1)) rfl) rfl ?_; refine WL_nil ?_; refine WC_cond rfl (fun hb88 => ?_) (fun hb88 => ?_)
      ·have H := ifT hb88 H; refine WC_skip ?_; refine WC_seq ?_; refine WC_block ?_; refine WC_seq ?_; refine WC_region ?_; refine WL_val (rn_fld fd111_0 rfl) rfl ?_; refine WL_val (rn_fld fd46_3 rfl) rfl ?_
       have l1_6 := ((l1_3.trans leG73).trans leG81).trans leG87
       refine WL_val (rn_load na44 rfl ((hS.sat.le l1_6).cell (hcb4 3 _ rfl))) rfl ?_; refine WL_val (rn_move (v := (.int .i64 s82.2.1)) rfl) rfl ?_; obtain ⟨y89, hy89, H⟩ := bnd H
       have l0_6 := ((l0_3.trans leG73).trans leG81).trans leG87
       refine WL_idx sl44 (h3.mono RTBaneTrip_mono l0_6) hy89 rfl rfl rfl ?_
       rintro b90 o90 _ hcb90 _ ⟨⟩
       refine WL_val (rn_loadA ag109 (cs := [.int .i64 y89.Day, .int .i64 y89.From, .int .i64 y89.To, .int .i64 y89.Cost]) rfl rfl (fun j v hj => hS.sat.cell (hcb90.drop_take 0 4 j v hj))) rfl ?_
       refine WL_op rfl (OpP_newO (v := fun b => .pointer (some ⟨b, 0, none⟩)) (cs := [.int .i64 0, .int .i64 0, .int .i64 0, .int .i64 0]) (e := 109) (by kernel_rfl) hS.sat hO rfl 4 1 rfl (by decide) (fun b91 w92 hb hO => ?_))
       have hS := hS.keep hb; refine WL_op rfl (OpP_store (vs := [.int .i64 y89.Day, .int .i64 y89.From, .int .i64 y89.To, .int .i64 y89.Cost]) sz109 hS hO (k := 0) rfl rfl rfl rfl rfl (one_all rfl) (Nat.le_of_ble_eq_true rfl) (fun w94 hS hO => ?_))
       have hO : Owns G87 w94 w0.heap.size ([⟨109, 4, 1, .slice (some ⟨b91, 0, none⟩) 1 1, [.int .i64 y89.Day, .int .i64 y89.From, .int .i64 y89.To, .int .i64 y89.Cost]⟩, ⟨3, 1, ns82_2, .slice as82_2 ns82_2 cs82_2, clas82_2⟩, ⟨79, 1, 1, .slice (some ⟨b36, 0, none⟩) 1 1, [.slice as82_1 ns82_1 cs82_1]⟩, ⟨4, 1, ns82_1, .slice as82_1 ns82_1 cs82_1, clas82_1⟩, ⟨140, 1, 1, .slice (some ⟨b24, 0, none⟩) 1 1, [.slice as82_2 ns82_2 cs82_2]⟩, ⟨3, 1, ns82_0, .slice as82_0 ns82_0 cs82_0, clas82_0⟩]) := hO
       obtain ⟨G95, leG95, hS, hO, hqG95, _⟩ := hO.freeze hS (k := 0) rfl
       have hcG95 : Cells G95 b91 0 [.int .i64 y89.Day, .int .i64 y89.From, .int .i64 y89.To, .int .i64 y89.Cost] := (hqG95 _ _ _ _ rfl)
       refine WL_nil ?_; refine WC_seq ?_; obtain ⟨q96, hq96, H⟩ := bnd H; refine WC_cut (fun F w => ∃ (Fb : Fr) (G : Gm) (aq96_0 : Option Addr) (nq96_0 cq96_0 : Nat) (claq96_0 : List Value), F = upds Fb [(1, .pointer (some ⟨b4, 0, none⟩)), (2, .slice none 0 0), (3, .slice aq96_0 nq96_0 cq96_0), (5, .pointer (some ⟨b27, 0, none⟩)), (6, .pointer (some ⟨b36, 0, none⟩)), (11, .pointer (some ⟨b91, 0, none⟩))] ∧ Gle G95 G ∧ Since w0.heap.size G0 w0 G w ∧ Owns G w w0.heap.size [⟨3, 1, ns82_2, .slice as82_2 ns82_2 cs82_2, clas82_2⟩, ⟨79, 1, 1, .slice (some ⟨b36, 0, none⟩) 1 1, [.slice as82_1 ns82_1 cs82_1]⟩, ⟨4, 1, ns82_1, .slice as82_1 ns82_1 cs82_1, clas82_1⟩, ⟨140, 1, 1, .slice (some ⟨b24, 0, none⟩) 1 1, [.slice as82_2 ns82_2 cs82_2]⟩, ⟨3, 1, nq96_0, .slice aq96_0 nq96_0 cq96_0, claq96_0⟩] ∧ nq96_0 = q96.length ∧ Rd RInt 1 G claq96_0 q96) ?_ ?_
       ·have Hoq96 := H; have H := hq96; refine WC_seq ?_; obtain ⟨q97, hq97, H⟩ := bnd H; refine WC_cut (fun F w => ∃ (Fb : Fr) (G : Gm), F = upds Fb [(1, .pointer (some ⟨b4, 0, none⟩)), (2, .slice none 0 0), (3, .slice as82_0 ns82_0 cs82_0), (5, .pointer (some ⟨b27, 0, none⟩)), (6, .pointer (some ⟨b36, 0, none⟩)), (11, .pointer (some ⟨b91, 0, none⟩)), (84, .bool q97)] ∧ Gle G95 G ∧ Since w0.heap.size G0 w0 G w ∧ Owns G w w0.heap.size [⟨3, 1, ns82_2, .slice as82_2 ns82_2 cs82_2, clas82_2⟩, ⟨79, 1, 1, .slice (some ⟨b36, 0, none⟩) 1 1, [.slice as82_1 ns82_1 cs82_1]⟩, ⟨4, 1, ns82_1, .slice as82_1 ns82_1 cs82_1, clas82_1⟩, ⟨140, 1, 1, .slice (some ⟨b24, 0, none⟩) 1 1, [.slice as82_2 ns82_2 cs82_2]⟩, ⟨3, 1, ns82_0, .slice as82_0 ns82_0 cs82_0, clas82_0⟩]) ?_ ?_
        ·have Hoq97 := H; have H := hq97; have hS := hS.keep (below_drew _); have hO := hO.below (below_drew _)
         refine WC_regionD mixedO (fun _ w => Sat G95 w ∧ Owns G95 w w0.heap.size [⟨3, 1, ns82_2, .slice as82_2 ns82_2 cs82_2, clas82_2⟩, ⟨79, 1, 1, .slice (some ⟨b36, 0, none⟩) 1 1, [.slice as82_1 ns82_1 cs82_1]⟩, ⟨4, 1, ns82_1, .slice as82_1 ns82_1 cs82_1, clas82_1⟩, ⟨140, 1, 1, .slice (some ⟨b24, 0, none⟩) 1 1, [.slice as82_2 ns82_2 cs82_2]⟩, ⟨3, 1, ns82_0, .slice as82_0 ns82_0 cs82_0, clas82_0⟩]) (.fl 0 (.on 1 (.on 2 (.on 3 (.on 4 (.on 5 (.on 6 (.fl 7 (.fl 8 (.fl 9 (.on 10 (.on 11 (.on 12 (.on 13 (.on 14 (.on 15 .nil)))))))))))))))) (by kernel_rfl) rfl (by kernel_rfl) (fun _ => ⟨hS.sat, hO⟩) ?_
         refine WD_val rfl (fun w hw => rn_move (v := (.slice as82_0 ns82_0 cs82_0)) rfl) rfl ?_; refine WD_op rfl rfl (OpP_val (rn_fld fd109_2 rfl) rfl ?_); refine ⟨fun _ _ => ⟨hS.sat, hO⟩, ?_⟩; refine WD_op rfl rfl (OpP_val (rn_load na3 rfl (hS.sat.cell (hcG95 2 _ rfl))) rfl ?_); refine ⟨fun _ _ => ⟨hS.sat, hO⟩, ?_⟩; obtain ⟨y98, hy98, H⟩ := bnd H; refine WD_op rfl rfl (OpP_idxO sl25 hO (k := 4) rfl hnhs82_0 (hs82_0.mono RInt_mono leG95) hy98 rfl rfl rfl ?_)
         rintro b99 ob99 _ hb99 _ hcb99 ⟨⟩
         refine ⟨fun _ _ => ⟨hS.sat, hO⟩, ?_⟩; refine WD_op rfl rfl (OpP_val (rn_load na3 rfl (own_cellB hO (k := 4) rfl hb99 _ 0 (hcb99 0 _ rfl))) rfl ?_); refine ⟨fun _ _ => ⟨hS.sat, hO⟩, ?_⟩; refine WD_op rfl rfl (OpP_val (rn_lss rfl rfl) rfl ?_); refine ⟨fun _ _ => ⟨hS.sat, hO⟩, ?_⟩; refine WD_op rfl rfl (OpP_val (rn_move (v := (.bool (decide (y98 < 0)))) rfl) rfl ?_); refine ⟨fun _ _ => ⟨hS.sat, hO⟩, ?_⟩
         rcases bcases (decide (y98 < 0)) with hb100 | hb100
         ·have H := ifT hb100 H; refine WD_skip rfl rfl hb100 rfl rfl rfl ?_; refine WD_skip rfl rfl hb100 rfl rfl rfl ?_; refine WD_skip rfl rfl hb100 rfl rfl rfl ?_; refine WD_skipS rfl rfl hb100 rfl rfl rfl (fun _ _ => ⟨hS.sat, hO⟩) ?_; refine WD_skipS rfl rfl hb100 rfl rfl rfl (fun _ _ => ⟨hS.sat, hO⟩) ?_; refine WD_skipS rfl rfl hb100 rfl rfl rfl (fun _ _ => ⟨hS.sat, hO⟩) ?_; refine WD_skipS rfl rfl hb100 rfl rfl rfl (fun _ _ => ⟨hS.sat, hO⟩) ?_
          refine WD_skipS rfl rfl hb100 rfl rfl rfl (fun _ h => noneed (by kernel_rfl) h) ?_
          refine WD_op rfl rfl (OpP_val (rn_pickT (v := (.bool true)) rfl hb100 rfl) rfl ?_)
          refine ⟨fun _ h => noneed (by kernel_rfl) h, ?_⟩
          refine WD_nil ?_
          have hO : Owns G95 w94.drew w0.heap.size ([⟨3, 1, ns82_2, .slice as82_2 ns82_2 cs82_2, clas82_2⟩, ⟨79, 1, 1, .slice (some ⟨b36, 0, none⟩) 1 1, [.slice as82_1 ns82_1 cs82_1]⟩, ⟨4, 1, ns82_1, .slice as82_1 ns82_1 cs82_1, clas82_1⟩, ⟨140, 1, 1, .slice (some ⟨b24, 0, none⟩) 1 1, [.slice as82_2 ns82_2 cs82_2]⟩, ⟨3, 1, ns82_0, .slice as82_0 ns82_0 cs82_0, clas82_0⟩]) := hO
          have H := Option.some.inj H; subst H
          exact ⟨_, G95, upds_self _ _ ⟨rfl, rfl, rfl, rfl, rfl, rfl, rfl, trivial⟩, Gle.refl _, hS, hO⟩
         ·have H := ifF hb100 H; refine WD_valY rfl rfl hb100 rfl rfl (fun w hw => rn_fld fd109_0 rfl) rfl ?_; refine WD_valY rfl rfl hb100 rfl rfl (fun w hw => rn_load na3 rfl (hw.1.cell (hcG95 0 _ rfl))) rfl ?_; refine WD_valY rfl rfl hb100 rfl rfl (fun w hw => rn_move (v := (.slice as82_0 ns82_0 cs82_0)) rfl) rfl ?_; refine WD_opY rfl rfl rfl hb100 rfl rfl (OpP_val (rn_fld fd109_2 rfl) rfl ?_); refine ⟨fun _ _ => ⟨hS.sat, hO⟩, ?_⟩; refine WD_opY rfl rfl rfl hb100 rfl rfl (OpP_val (rn_load na3 rfl (hS.sat.cell (hcG95 2 _ rfl))) rfl ?_); refine ⟨fun _ _ => ⟨hS.sat, hO⟩, ?_⟩; refine WD_opY rfl rfl rfl hb100 rfl rfl (OpP_idxO sl25 hO (k := 4) rfl hnhs82_0 (hs82_0.mono RInt_mono leG95) hy98 rfl rfl rfl ?_)
          rintro b101 ob101 _ hb101 _ hcb101 ⟨⟩
          refine ⟨fun _ _ => ⟨hS.sat, hO⟩, ?_⟩; refine WD_opY rfl rfl rfl hb100 rfl rfl (OpP_val (rn_load na3 rfl (own_cellB hO (k := 4) rfl hb101 _ 0 (hcb101 0 _ rfl))) rfl ?_); refine ⟨fun _ _ => ⟨hS.sat, hO⟩, ?_⟩; refine WD_opY rfl rfl rfl hb100 rfl rfl (OpP_val (rn_lss rfl rfl) rfl ?_)
          refine ⟨fun _ h => noneed (by kernel_rfl) h, ?_⟩
          refine WD_op rfl rfl (OpP_val (rn_pickF (v := (.bool (decide (y89.Day < y98)))) rfl hb100 rfl) rfl ?_)
          refine ⟨fun _ h => noneed (by kernel_rfl) h, ?_⟩
          refine WD_nil ?_
          have hO : Owns G95 w94.drew w0.heap.size ([⟨3, 1, ns82_2, .slice as82_2 ns82_2 cs82_2, clas82_2⟩, ⟨79, 1, 1, .slice (some ⟨b36, 0, none⟩) 1 1, [.slice as82_1 ns82_1 cs82_1]⟩, ⟨4, 1, ns82_1, .slice as82_1 ns82_1 cs82_1, clas82_1⟩, ⟨140, 1, 1, .slice (some ⟨b24, 0, none⟩) 1 1, [.slice as82_2 ns82_2 cs82_2]⟩, ⟨3, 1, ns82_0, .slice as82_0 ns82_0 cs82_0, clas82_0⟩]) := hO
          have H := Option.some.inj H; subst H
          exact ⟨_, G95, upds_self _ _ ⟨rfl, rfl, rfl, rfl, rfl, rfl, rfl, trivial⟩, Gle.refl _, hS, hO⟩
        ·rintro F w102 ⟨Fb, G103, rfl, leG103, hS, hO⟩
         refine WC_cond rfl (fun hb104 => ?_) (fun hb104 => ?_)
         ·have H := ifT hb104 H; refine WC_region ?_; refine WL_val (rn_move (v := (.slice as82_0 ns82_0 cs82_0)) rfl) rfl ?_; refine WL_val (rn_fld fd109_2 rfl) rfl ?_; refine WL_val (rn_load na3 rfl ((hS.sat.le leG103).cell (hcG95 2 _ rfl))) rfl ?_; refine WL_val (rn_fld fd109_0 rfl) rfl ?_; refine WL_val (rn_load na3 rfl ((hS.sat.le leG103).cell (hcG95 0 _ rfl))) rfl ?_; obtain ⟨y105, hy105, H⟩ := bnd H
          have l6_8 := leG95.trans leG103
          refine WL_idxO sl25 hO (k := 4) rfl hnhs82_0 (hs82_0.mono RInt_mono l6_8) hy105 rfl rfl rfl ?_
          rintro b106 ob106 _ hb106 _ hcb106 ⟨⟩
          obtain ⟨y107, hy107, H⟩ := bnd H; refine WL_op rfl (OpP_storeE (vs := [.int .i64 y89.Day]) (cs := [.int .i64 y105]) (j := 0) (y := y89.Day) sz3 hS hO (k := 4) rfl hnhs82_0 rfl (hs82_0.mono RInt_mono l6_8) hb106 rfl hcb106 hy107 rfl rfl rfl rfl rfl (one_all rfl) (Nat.le_of_ble_eq_true rfl) (fun w108 clw108 hS hO hrw108 => ?_))
          have hO : Owns G103 w108 w0.heap.size ([⟨3, 1, ns82_2, .slice as82_2 ns82_2 cs82_2, clas82_2⟩, ⟨79, 1, 1, .slice (some ⟨b36, 0, none⟩) 1 1, [.slice as82_1 ns82_1 cs82_1]⟩, ⟨4, 1, ns82_1, .slice as82_1 ns82_1 cs82_1, clas82_1⟩, ⟨140, 1, 1, .slice (some ⟨b24, 0, none⟩) 1 1, [.slice as82_2 ns82_2 cs82_2]⟩, ⟨3, 1, ns82_0, .slice as82_0 ns82_0 cs82_0, clw108⟩]) := hO
          refine WL_nil ?_
          have hO : Owns G103 w108 w0.heap.size ([⟨3, 1, ns82_2, .slice as82_2 ns82_2 cs82_2, clas82_2⟩, ⟨79, 1, 1, .slice (some ⟨b36, 0, none⟩) 1 1, [.slice as82_1 ns82_1 cs82_1]⟩, ⟨4, 1, ns82_1, .slice as82_1 ns82_1 cs82_1, clas82_1⟩, ⟨140, 1, 1, .slice (some ⟨b24, 0, none⟩) 1 1, [.slice as82_2 ns82_2 cs82_2]⟩, ⟨3, 1, ns82_0, .slice as82_0 ns82_0 cs82_0, clw108⟩]) := hO
          have H := Option.some.inj H; subst H
          exact ⟨_, G103, as82_0, ns82_0, cs82_0, clw108, upds_self _ _ ⟨rfl, rfl, rfl, rfl, rfl, rfl, trivial⟩, leG103, hS, hO, (Eq.trans hnhs82_0 (setIx_len hy107)), hrw108⟩
         ·have H := ifF hb104 H; refine WC_skip ?_
          have hO : Owns G103 w102 w0.heap.size ([⟨3, 1, ns82_2, .slice as82_2 ns82_2 cs82_2, clas82_2⟩, ⟨79, 1, 1, .slice (some ⟨b36, 0, none⟩) 1 1, [.slice as82_1 ns82_1 cs82_1]⟩, ⟨4, 1, ns82_1, .slice as82_1 ns82_1 cs82_1, clas82_1⟩, ⟨140, 1, 1, .slice (some ⟨b24, 0, none⟩) 1 1, [.slice as82_2 ns82_2 cs82_2]⟩, ⟨3, 1, ns82_0, .slice as82_0 ns82_0 cs82_0, clas82_0⟩]) := hO
          have H := Option.some.inj H; subst H
          have l6_8 := leG95.trans leG103
          exact ⟨_, G103, as82_0, ns82_0, cs82_0, clas82_0, upds_self _ _ ⟨rfl, rfl, rfl, rfl, rfl, rfl, trivial⟩, leG103, hS, hO, hnhs82_0, (hs82_0.mono RInt_mono l6_8)⟩
       ·rintro F w109 ⟨Fb, G110, aq96_0, nq96_0, cq96_0, claq96_0, rfl, leG110, hS, hO, hnhq96_0, hq96_0⟩
        refine WC_seq ?_; refine WC_region ?_
        have l1_8 := (l1_6.trans leG95).trans leG110
        refine WL_val (rn_loadA ag111 (cs := [.int .i64 x0.BaneSea.Islets, .slice a1 n1 c1, .slice a2 n2 c2, .slice a3 n3 c3, .int .i64 x0.BaneSea.Wait, .int .i64 x0.shut]) rfl rfl (fun j v hj => (hS.sat.le l1_8).cell (hcb4.drop_take 0 6 j v hj))) rfl ?_
        have l0_8 := (l0_6.trans leG95).trans leG110
        have hI111 := f77_it (x0 := x0) (a1 := a1) (n1 := n1) (c1 := c1) (a2 := a2) (n2 := n2) (c2 := c2) (a3 := a3) (n3 := n3) (c3 := c3) (h3.mono RTBaneTrip_mono l0_8)
        refine WL_val (rn_func (vs := [.agg #[.int .i64 x0.BaneSea.Islets, .slice a1 n1 c1, .slice a2 n2 c2, .slice a3 n3 c3, .int .i64 x0.BaneSea.Wait, .int .i64 x0.shut]]) (us := []) rfl rfl) rfl ?_; refine WL_nil ?_; refine WC_block ?_
        have hO : Owns G110 w109 w0.heap.size ([⟨3, 1, ns82_2, .slice as82_2 ns82_2 cs82_2, clas82_2⟩, ⟨79, 1, 1, .slice (some ⟨b36, 0, none⟩) 1 1, [.slice as82_1 ns82_1 cs82_1]⟩, ⟨4, 1, ns82_1, .slice as82_1 ns82_1 cs82_1, clas82_1⟩, ⟨140, 1, 1, .slice (some ⟨b24, 0, none⟩) 1 1, [.slice as82_2 ns82_2 cs82_2]⟩, ⟨3, 1, nq96_0, .slice aq96_0 nq96_0 cq96_0, claq96_0⟩]) := hO
        have l6_8 := leG95.trans leG110
        obtain ⟨q114, hq114, H⟩ := bnd H; refine WC_range (xs := openL x0.shut 0 x0.BaneSea.Trips) (enc := encT) (bd := f75_b3 x0 y89) (fi := [.agg #[.int .i64 x0.BaneSea.Islets, .slice a1 n1 c1, .slice a2 n2 c2, .slice a3 n3 c3, .int .i64 x0.BaneSea.Wait, .int .i64 x0.shut]]) (ca := []) cb77 hI111 rfl (fun _ => rfl) rfl hq114 (fun (s112 : (List Bool) × TQueue_int_) (G : Gm) (L : List Row) => ∃ (as112_0 : Option Addr) (ns112_0 cs112_0 : Nat) (clas112_0 : List Value) (as112_1 : Option Addr) (ns112_1 cs112_1 : Nat) (clas112_1 : List Value), L = [⟨3, 1, ns112_1, .slice as112_1 ns112_1 cs112_1, clas112_1⟩, ⟨79, 1, 1, .slice (some ⟨b36, 0, none⟩) 1 1, [.slice as112_0 ns112_0 cs112_0]⟩, ⟨4, 1, ns112_0, .slice as112_0 ns112_0 cs112_0, clas112_0⟩, ⟨140, 1, 1, .slice (some ⟨b24, 0, none⟩) 1 1, [.slice as112_1 ns112_1 cs112_1]⟩, ⟨3, 1, nq96_0, .slice aq96_0 nq96_0 cq96_0, claq96_0⟩] ∧ ns112_0 = s112.1.length ∧ Rd RBool 1 G clas112_0 s112.1 ∧ ns112_1 = s112.2.all.length ∧ Rd RInt 1 G clas112_1 s112.2.all) (fun (p143 : Empty) (c144 : Code) (G : Gm) (L : List Row) => False) ?_ hS hO ⟨as82_1, ns82_1, cs82_1, clas82_1, as82_2, ns82_2, cs82_2, clas82_2, rfl, hnhs82_1, (hs82_1.mono RBool_mono l6_8), hnhs82_2, (hs82_2.mono RInt_mono l6_8)⟩ [] ?_ ?_ ?_
        ·rintro s112 G1 G2 L hle ⟨as112_0, ns112_0, cs112_0, clas112_0, as112_1, ns112_1, cs112_1, clas112_1, rfl, hnhs112_0, hs112_0, hnhs112_1, hs112_1⟩
         exact ⟨as112_0, ns112_0, cs112_0, clas112_0, as112_1, ns112_1, cs112_1, clas112_1, rfl, hnhs112_0, hs112_0.mono RBool_mono hle, hnhs112_1, hs112_1.mono RInt_mono hle⟩
        ·rintro l145 y113 s112 t115 G117 w116 L146 Lx118 leG117 hS hO ⟨as112_0, ns112_0, cs112_0, clas112_0, as112_1, ns112_1, cs112_1, clas112_1, rfl, hnhs112_0, hs112_0, hnhs112_1, hs112_1⟩ H1 hqq114
         have hO : Owns G117 w116 w0.heap.size (⟨3, 1, ns112_1, .slice as112_1 ns112_1 cs112_1, clas112_1⟩ :: ⟨79, 1, 1, .slice (some ⟨b36, 0, none⟩) 1 1, [.slice as112_0 ns112_0 cs112_0]⟩ :: ⟨4, 1, ns112_0, .slice as112_0 ns112_0 cs112_0, clas112_0⟩ :: ⟨140, 1, 1, .slice (some ⟨b24, 0, none⟩) 1 1, [.slice as112_1 ns112_1 cs112_1]⟩ :: ⟨3, 1, nq96_0, .slice aq96_0 nq96_0 cq96_0, claq96_0⟩ :: Lx118) := hO
         have Hoq114 := H; have H := H1
         unfold f75_b3 at H
         refine WC_seq ?_; refine WC_region ?_; refine WL_val (rn_assign (v := (.int .i64 y113.1)) rfl) rfl ?_; refine WL_nil ?_; refine WC_region ?_
         refine WL_op rfl (OpP_newO (v := fun b => .pointer (some ⟨b, 0, none⟩)) (cs := [.int .i64 0, .int .i64 0, .int .i64 0, .int .i64 0]) (e := 109) (by kernel_rfl) hS.sat hO rfl 4 1 rfl (by decide) (fun b119 w120 hb hO => ?_))
         have hS := hS.keep hb; refine WL_op rfl (OpP_store (vs := [.int .i64 y113.2.Day, .int .i64 y113.2.From, .int .i64 y113.2.To, .int .i64 y113.2.Cost]) sz109 hS hO (k := 0) rfl rfl rfl rfl rfl (one_all rfl) (Nat.le_of_ble_eq_true rfl) (fun w122 hS hO => ?_))
         have hO : Owns G117 w122 w0.heap.size (⟨109, 4, 1, .slice (some ⟨b119, 0, none⟩) 1 1, [.int .i64 y113.2.Day, .int .i64 y113.2.From, .int .i64 y113.2.To, .int .i64 y113.2.Cost]⟩ :: ⟨3, 1, ns112_1, .slice as112_1 ns112_1 cs112_1, clas112_1⟩ :: ⟨79, 1, 1, .slice (some ⟨b36, 0, none⟩) 1 1, [.slice as112_0 ns112_0 cs112_0]⟩ :: ⟨4, 1, ns112_0, .slice as112_0 ns112_0 cs112_0, clas112_0⟩ :: ⟨140, 1, 1, .slice (some ⟨b24, 0, none⟩) 1 1, [.slice as112_1 ns112_1 cs112_1]⟩ :: ⟨3, 1, nq96_0, .slice aq96_0 nq96_0 cq96_0, claq96_0⟩ :: Lx118) := hO
         obtain ⟨G123, leG123, hS, hO, hqG123, _⟩ := hO.freeze hS (k := 0) rfl
         have hcG123 : Cells G123 b119 0 [.int .i64 y113.2.Day, .int .i64 y113.2.From, .int .i64 y113.2.To, .int .i64 y113.2.Cost] := (hqG123 _ _ _ _ rfl)
         refine WL_nil ?_
         intro w124 hfix
         have hS := hS.fix hfix; have hO := hO.fix hfix; refine WC_block ?_; refine WC_seq ?_; obtain ⟨q125, hq125, H⟩ := bnd H; refine WC_cut (fun F w => ∃ (Fb : Fr), F = upds Fb [(5, .pointer (some ⟨b27, 0, none⟩)), (6, .pointer (some ⟨b36, 0, none⟩)), (12, .int .i64 y113.1), (117, .bool q125)] ∧ w124 = w) ?_ ?_
         ·have Hoq125 := H; have H := hq125; refine WC_region ?_; refine WL_val (rn_load na79 rfl (own_cell hO (k := 1) rfl (j := 0) rfl)) rfl ?_; refine WL_val (rn_move (v := (.int .i64 y113.1)) rfl) rfl ?_; obtain ⟨y126, hy126, H⟩ := bnd H; refine WL_idxO sl79 hO (k := 2) rfl hnhs112_0 (hs112_0.mono RBool_mono leG123) hy126 rfl rfl rfl ?_
          rintro b127 ob127 _ hb127 _ hcb127 ⟨⟩
          refine WL_val (rn_load na4 rfl (own_cellB hO (k := 2) rfl hb127 _ 0 (hcb127 0 _ rfl))) rfl ?_; refine WL_val (rn_not rfl) rfl ?_; refine WL_val (rn_move (v := (.bool (!y126))) rfl) rfl ?_
          rcases bcases (!y126) with hb128 | hb128
          ·have H := ifT hb128 H; refine WL_guardY rfl hb128 rfl rfl ?_; refine WL_val (rn_fld fd109_1 rfl) rfl ?_; refine WL_guardY rfl hb128 rfl rfl ?_; refine WL_val (rn_load na3 rfl (hS.sat.cell (hcG123 1 _ rfl))) rfl ?_; refine WL_guardY rfl hb128 rfl rfl ?_; refine WL_val (rn_fld fd109_2 rfl) rfl ?_; refine WL_guardY rfl hb128 rfl rfl ?_
           have l7_10 := (leG110.trans leG117).trans leG123
           refine WL_val (rn_load na3 rfl ((hS.sat.le l7_10).cell (hcG95 2 _ rfl))) rfl ?_; refine WL_guardY rfl hb128 rfl rfl ?_; refine WL_val (rn_eql rfl rfl) rfl ?_; refine WL_val (rn_pickT (v := (.bool (y113.2.From == y89.To))) rfl hb128 rfl) rfl ?_; refine WL_val (rn_move (v := (.bool (y113.2.From == y89.To))) rfl) rfl ?_
           rcases bcases (y113.2.From == y89.To) with hb129 | hb129
           ·have H := ifT hb129 H; refine WL_guardY rfl hb129 rfl rfl ?_; refine WL_val (rn_fld fd109_0 rfl) rfl ?_; refine WL_guardY rfl hb129 rfl rfl ?_; refine WL_val (rn_load na3 rfl (hS.sat.cell (hcG123 0 _ rfl))) rfl ?_; refine WL_guardY rfl hb129 rfl rfl ?_; refine WL_val (rn_fld fd109_0 rfl) rfl ?_; refine WL_guardY rfl hb129 rfl rfl ?_; refine WL_val (rn_load na3 rfl ((hS.sat.le l7_10).cell (hcG95 0 _ rfl))) rfl ?_; refine WL_guardY rfl hb129 rfl rfl ?_; refine WL_val (rn_fld fd111_0 rfl) rfl ?_; refine WL_guardY rfl hb129 rfl rfl ?_; refine WL_val (rn_fld fd46_4 rfl) rfl ?_; refine WL_guardY rfl hb129 rfl rfl ?_
            have l1_10 := (l1_8.trans leG117).trans leG123
            refine WL_val (rn_load na3 rfl ((hS.sat.le l1_10).cell (hcb4 4 _ rfl))) rfl ?_; refine WL_guardY rfl hb129 rfl rfl ?_; refine WL_val (rn_add rfl rfl) rfl ?_; refine WL_guardY rfl hb129 rfl rfl ?_; refine WL_val (rn_geq rfl rfl) rfl ?_; refine WL_val (rn_pickT (v := (.bool (decide ((IntKind.i64.wrap (y89.Day + x0.BaneSea.Wait)) ≤ y113.2.Day)))) rfl hb129 rfl) rfl ?_; refine WL_nil ?_; have H := Option.some.inj H; subst H
            exact ⟨_, upds_self _ _ ⟨rfl, rfl, rfl, rfl, trivial⟩, rfl⟩
           ·have H := ifF hb129 H; refine WL_guardN rfl hb129 rfl rfl rfl ?_; refine WL_guardN rfl hb129 rfl rfl rfl ?_; refine WL_guardN rfl hb129 rfl rfl rfl ?_; refine WL_guardN rfl hb129 rfl rfl rfl ?_; refine WL_guardN rfl hb129 rfl rfl rfl ?_; refine WL_guardN rfl hb129 rfl rfl rfl ?_; refine WL_guardN rfl hb129 rfl rfl rfl ?_; refine WL_guardN rfl hb129 rfl rfl rfl ?_; refine WL_guardN rfl hb129 rfl rfl rfl ?_; refine WL_val (rn_pickF (v := (.bool false)) rfl hb129 rfl) rfl ?_; refine WL_nil ?_; have H := Option.some.inj H; subst H
            exact ⟨_, upds_self _ _ ⟨rfl, rfl, rfl, rfl, trivial⟩, rfl⟩
          ·have H := ifF hb128 H; refine WL_guardN rfl hb128 rfl rfl rfl ?_; refine WL_guardN rfl hb128 rfl rfl rfl ?_; refine WL_guardN rfl hb128 rfl rfl rfl ?_; refine WL_guardN rfl hb128 rfl rfl rfl ?_; refine WL_guardN rfl hb128 rfl rfl rfl ?_; refine WL_val (rn_pickF (v := (.bool false)) rfl hb128 rfl) rfl ?_; refine WL_val (rn_move (v := (.bool false)) rfl) rfl ?_; refine WL_guardN rfl rfl rfl rfl rfl ?_; refine WL_guardN rfl rfl rfl rfl rfl ?_; refine WL_guardN rfl rfl rfl rfl rfl ?_; refine WL_guardN rfl rfl rfl rfl rfl ?_; refine WL_guardN rfl rfl rfl rfl rfl ?_; refine WL_guardN rfl rfl rfl rfl rfl ?_; refine WL_guardN rfl rfl rfl rfl rfl ?_; refine WL_guardN rfl rfl rfl rfl rfl ?_; refine WL_guardN rfl rfl rfl rfl rfl ?_; refine WL_val (rn_pickF (v := (.bool false)) rfl rfl rfl) rfl ?_; refine WL_nil ?_; have H := Option.some.inj H; subst H
           exact ⟨_, upds_self _ _ ⟨rfl, rfl, rfl, rfl, trivial⟩, rfl⟩
         ·rintro F wl ⟨Fb, rfl, rfl⟩
          refine WC_cond rfl (fun hb132 => ?_) (fun hb132 => ?_)
          ·have H := ifT hb132 H; refine WC_seq ?_; refine WC_region ?_; refine WL_val (rn_load na79 rfl (own_cell hO (k := 1) rfl (j := 0) rfl)) rfl ?_; refine WL_val (rn_move (v := (.int .i64 y113.1)) rfl) rfl ?_; obtain ⟨y133, hy133, H⟩ := bnd H; refine WL_idxO sl79 hO (k := 2) rfl hnhs112_0 (hs112_0.mono RBool_mono leG123) hy133 rfl rfl rfl ?_
           rintro b134 ob134 _ hb134 _ hcb134 ⟨⟩
           obtain ⟨y135, hy135, H⟩ := bnd H; refine WL_op rfl (OpP_storeE (vs := [.bool true]) (cs := [.bool y133]) (j := 0) (y := true) sz4 hS hO (k := 2) rfl hnhs112_0 rfl (hs112_0.mono RBool_mono leG123) hb134 rfl hcb134 hy135 rfl rfl rfl rfl rfl (one_all rfl) (Nat.le_of_ble_eq_true rfl) (fun w136 clw136 hS hO hrw136 => ?_))
           have hO : Owns G123 w136 w0.heap.size (⟨3, 1, ns112_1, .slice as112_1 ns112_1 cs112_1, clas112_1⟩ :: ⟨79, 1, 1, .slice (some ⟨b36, 0, none⟩) 1 1, [.slice as112_0 ns112_0 cs112_0]⟩ :: ⟨4, 1, ns112_0, .slice as112_0 ns112_0 cs112_0, clw136⟩ :: ⟨140, 1, 1, .slice (some ⟨b24, 0, none⟩) 1 1, [.slice as112_1 ns112_1 cs112_1]⟩ :: ⟨3, 1, nq96_0, .slice aq96_0 nq96_0 cq96_0, claq96_0⟩ :: Lx118) := hO
           refine WL_nil ?_; refine WC_region ?_
           have l3_10 := (((((leG73.trans leG81).trans leG87).trans leG95).trans leG110).trans leG117).trans leG123
           refine WL_val (rn_load na138 rfl ((hS.sat.le l3_10).cell (hcG31 0 _ rfl))) rfl ?_; refine WL_val (rn_move (v := (.int .i64 y113.1)) rfl) rfl ?_; refine WL_op rfl (OpP_in0 (N' := 14) [.pointer (some ⟨b24, 0, none⟩), .int .i64 y113.1] cb100 Try.func100 rfl rfl rfl rfl rfl rfl ?_); refine WC_region ?_; refine WL_val (rn_move (v := (.pointer (some ⟨b24, 0, none⟩))) rfl) rfl ?_; refine WL_val (rn_move (v := (.pointer (some ⟨b24, 0, none⟩))) rfl) rfl ?_
           refine WL_val (v := (.pointer (some ⟨b24, 0, none⟩))) (by kernel_rfl) rfl ?_
           refine WL_val (rn_fld fd140_0 rfl) rfl ?_; refine WL_val (rn_load na25 rfl (own_cell hO (k := 3) rfl (j := 0) rfl)) rfl ?_; refine WL_val (rn_move (v := (.int .i64 y113.1)) rfl) rfl ?_
           refine WL_op rfl (OpP_newF (v := fun b => .slice (some ⟨b, 0, none⟩) 1 1) (cs := [.int .i64 y113.1]) (e := 3) (by kernel_rfl) hS.sat rfl (fun b137 G139 w138 hg hcb137 => ?_))
           have hS := hS.grow hg; have hO := hO.grow hg
           have leG139 := hg.le
           have hfb137 : RSl RInt 1 G139 (some ⟨b137, 0, none⟩) 1 1 [y113.1] := RSl.of_rd hcb137 (Rd.cons (c := [.int .i64 y113.1]) rfl rfl (Rd.nil RInt 1 _)) rfl (by decide)
           obtain ⟨y140, hy140, H⟩ := bnd H
           have l9_11 := leG123.trans leG139
           refine WL_op rfl (OpP_append (k := 0) sl25 RInt_one hS hO rfl hnhs112_1 (hs112_1.mono RInt_mono l9_11) hfb137 hy140 rfl rfl rfl rfl rfl (fun aw141 cw141 w141 clw141 hS hO hrw141 => ?_))
           have hO : Owns G139 w141 w0.heap.size (⟨3, 1, y140.length, .slice aw141 y140.length cw141, clw141⟩ :: ⟨79, 1, 1, .slice (some ⟨b36, 0, none⟩) 1 1, [.slice as112_0 ns112_0 cs112_0]⟩ :: ⟨4, 1, ns112_0, .slice as112_0 ns112_0 cs112_0, clw136⟩ :: ⟨140, 1, 1, .slice (some ⟨b24, 0, none⟩) 1 1, [.slice as112_1 ns112_1 cs112_1]⟩ :: ⟨3, 1, nq96_0, .slice aq96_0 nq96_0 cq96_0, claq96_0⟩ :: Lx118) := hO
           refine WL_val (v := (.pointer (some ⟨b24, 0, none⟩))) (by kernel_rfl) rfl ?_
           refine WL_val (rn_fld fd140_0 rfl) rfl ?_; refine WL_op rfl (OpP_store (vs := [.slice aw141 y140.length cw141]) sz25 hS hO (k := 3) rfl rfl rfl rfl rfl (one_all rfl) (Nat.le_of_ble_eq_true rfl) (fun w142 hS hO => ?_))
           have hO : Owns G139 w142 w0.heap.size (⟨3, 1, y140.length, .slice aw141 y140.length cw141, clw141⟩ :: ⟨79, 1, 1, .slice (some ⟨b36, 0, none⟩) 1 1, [.slice as112_0 ns112_0 cs112_0]⟩ :: ⟨4, 1, ns112_0, .slice as112_0 ns112_0 cs112_0, clw136⟩ :: ⟨140, 1, 1, .slice (some ⟨b24, 0, none⟩) 1 1, [.slice aw141 y140.length cw141]⟩ :: ⟨3, 1, nq96_0, .slice aq96_0 nq96_0 cq96_0, claq96_0⟩ :: Lx118) := hO
           refine WL_nil ?_; refine WL_nil ?_
           have hO : Owns G139 w142 w0.heap.size (⟨3, 1, y140.length, .slice aw141 y140.length cw141, clw141⟩ :: ⟨79, 1, 1, .slice (some ⟨b36, 0, none⟩) 1 1, [.slice as112_0 ns112_0 cs112_0]⟩ :: ⟨4, 1, ns112_0, .slice as112_0 ns112_0 cs112_0, clw136⟩ :: ⟨140, 1, 1, .slice (some ⟨b24, 0, none⟩) 1 1, [.slice aw141 y140.length cw141]⟩ :: ⟨3, 1, nq96_0, .slice aq96_0 nq96_0 cq96_0, claq96_0⟩ :: Lx118) := hO
           have H := Option.some.inj H; subst H
           exact ⟨_, rfl, _, [⟨3, 1, y140.length, .slice aw141 y140.length cw141, clw141⟩, ⟨79, 1, 1, .slice (some ⟨b36, 0, none⟩) 1 1, [.slice as112_0 ns112_0 cs112_0]⟩, ⟨4, 1, ns112_0, .slice as112_0 ns112_0 cs112_0, clw136⟩, ⟨140, 1, 1, .slice (some ⟨b24, 0, none⟩) 1 1, [.slice aw141 y140.length cw141]⟩, ⟨3, 1, nq96_0, .slice aq96_0 nq96_0 cq96_0, claq96_0⟩], l9_11, hS, hO, ⟨as112_0, ns112_0, cs112_0, clw136, aw141, y140.length, cw141, clw141, rfl, (Eq.trans hnhs112_0 (setIx_len hy135)), (hrw136.mono RBool_mono leG139), rfl, hrw141⟩⟩
          ·have H := ifF hb132 H; refine WC_skip ?_
           have hO : Owns G123 w124 w0.heap.size (⟨3, 1, ns112_1, .slice as112_1 ns112_1 cs112_1, clas112_1⟩ :: ⟨79, 1, 1, .slice (some ⟨b36, 0, none⟩) 1 1, [.slice as112_0 ns112_0 cs112_0]⟩ :: ⟨4, 1, ns112_0, .slice as112_0 ns112_0 cs112_0, clas112_0⟩ :: ⟨140, 1, 1, .slice (some ⟨b24, 0, none⟩) 1 1, [.slice as112_1 ns112_1 cs112_1]⟩ :: ⟨3, 1, nq96_0, .slice aq96_0 nq96_0 cq96_0, claq96_0⟩ :: Lx118) := hO
           have H := Option.some.inj H; subst H
           exact ⟨_, rfl, _, [⟨3, 1, ns112_1, .slice as112_1 ns112_1 cs112_1, clas112_1⟩, ⟨79, 1, 1, .slice (some ⟨b36, 0, none⟩) 1 1, [.slice as112_0 ns112_0 cs112_0]⟩, ⟨4, 1, ns112_0, .slice as112_0 ns112_0 cs112_0, clas112_0⟩, ⟨140, 1, 1, .slice (some ⟨b24, 0, none⟩) 1 1, [.slice as112_1 ns112_1 cs112_1]⟩, ⟨3, 1, nq96_0, .slice aq96_0 nq96_0 cq96_0, claq96_0⟩], leG123, hS, hO, ⟨as112_0, ns112_0, cs112_0, clas112_0, as112_1, ns112_1, cs112_1, clas112_1, rfl, hnhs112_0, (hs112_0.mono RBool_mono leG123), hnhs112_1, (hs112_1.mono RInt_mono leG123)⟩⟩
        ·rintro s112 G148 w147 L154 hres leG148 hS hO ⟨as112_0, ns112_0, cs112_0, clas112_0, as112_1, ns112_1, cs112_1, clas112_1, rfl, hnhs112_0, hs112_0, hnhs112_1, hs112_1⟩
         subst hres; refine WC_region ?_
         have l3_9 := (((leG73.trans leG81).trans leG87).trans l6_8).trans leG148
         refine WL_val (rn_load na138 rfl ((hS.sat.le l3_9).cell (hcG31 0 _ rfl))) rfl ?_; refine WL_op rfl (OpP_in2 (N' := 27) [.pointer (some ⟨b24, 0, none⟩)] cb101 Try.func101 rfl rfl rfl rfl rfl rfl ?_); refine WC_seq ?_; refine WC_region ?_; refine WL_val (rn_assign (v := (.int .i64 0)) rfl) rfl ?_; refine WL_val (rn_assign (v := (.bool false)) rfl) rfl ?_; refine WL_nil ?_; refine WC_seq ?_; refine WC_region ?_; refine WL_val (rn_assign (v := (.int .i64 0)) rfl) rfl ?_; refine WL_nil ?_; refine WC_seq ?_; refine WC_seq ?_; refine WC_region ?_; refine WL_val (rn_move (v := (.pointer (some ⟨b24, 0, none⟩))) rfl) rfl ?_
         refine WL_val (v := (.pointer (some ⟨b24, 0, none⟩))) (by kernel_rfl) rfl ?_
         refine WL_val (rn_fld fd140_0 rfl) rfl ?_; refine WL_val (rn_load na25 rfl (own_cell hO (k := 3) rfl (j := 0) rfl)) rfl ?_; refine WL_val (rn_len (m := s112.2.all.length) sl25 rfl rfl hnhs112_1) rfl ?_; refine WL_val (rn_eql rfl rfl) rfl ?_; refine WL_nil ?_; refine WC_cond rfl (fun hb149 => ?_) (fun hb149 => ?_)
         ·have H := ifT hb149 H; refine WC_seq ?_; refine WC_region ?_; refine WL_val (rn_move (v := (.int .i64 0)) rfl) rfl ?_; refine WL_val (rn_assign (v := (.int .i64 0)) rfl) rfl ?_; refine WL_val (rn_assign (v := (.bool false)) rfl) rfl ?_; refine WL_nil ?_; refine WC_ret ?_; refine ⟨(.int .i64 0), (.bool false), rfl, rfl, ?_⟩; refine WL_val (rn_move (v := (.tuple #[.int .i64 0, .bool false])) rfl) rfl ?_; refine WL_val (rn_extract (v := (.int .i64 0)) rfl rfl) rfl ?_; refine WL_val (rn_extract (v := (.bool false)) rfl rfl) rfl ?_; refine WL_val (rn_assign (v := (.int .i64 0)) rfl) rfl ?_; refine WL_val (rn_assign (v := (.bool false)) rfl) rfl ?_; refine WL_nil ?_
          have hO : Owns G148 w147 w0.heap.size ([⟨3, 1, ns112_1, .slice as112_1 ns112_1 cs112_1, clas112_1⟩, ⟨79, 1, 1, .slice (some ⟨b36, 0, none⟩) 1 1, [.slice as112_0 ns112_0 cs112_0]⟩, ⟨4, 1, ns112_0, .slice as112_0 ns112_0 cs112_0, clas112_0⟩, ⟨140, 1, 1, .slice (some ⟨b24, 0, none⟩) 1 1, [.slice as112_1 ns112_1 cs112_1]⟩, ⟨3, 1, nq96_0, .slice aq96_0 nq96_0 cq96_0, claq96_0⟩]) := hO
          have H := Option.some.inj H; subst H; refine ⟨_, rfl, ?_⟩
          have l5_9 := (leG87.trans l6_8).trans leG148
          exact ⟨_, G148, aq96_0, nq96_0, cq96_0, claq96_0, as112_0, ns112_0, cs112_0, clas112_0, as112_1, ns112_1, cs112_1, clas112_1, upds_self _ _ ⟨rfl, rfl, rfl, rfl, rfl, rfl, rfl, trivial⟩, l5_9, hS, hO, hnhq96_0, (hq96_0.mono RInt_mono leG148), hnhs112_0, hs112_0, hnhs112_1, hs112_1⟩
         ·have H := ifF hb149 H; refine WC_skip ?_; refine WC_seq ?_; have hS := hS.keep (below_drew _); have hO := hO.below (below_drew _)
          refine WC_regionD mixedO (fun _ w => Sat G148 w ∧ Owns G148 w w0.heap.size [⟨3, 1, ns112_1, .slice as112_1 ns112_1 cs112_1, clas112_1⟩, ⟨79, 1, 1, .slice (some ⟨b36, 0, none⟩) 1 1, [.slice as112_0 ns112_0 cs112_0]⟩, ⟨4, 1, ns112_0, .slice as112_0 ns112_0 cs112_0, clas112_0⟩, ⟨140, 1, 1, .slice (some ⟨b24, 0, none⟩) 1 1, [.slice as112_1 ns112_1 cs112_1]⟩, ⟨3, 1, nq96_0, .slice aq96_0 nq96_0 cq96_0, claq96_0⟩]) (.fl 0 (.fl 1 (.fl 2 (.fl 3 (.fl 4 (.fl 5 (.fl 6 (.fl 7 (.fl 8 (.fl 9 (.fl 10 (.fl 11 (.on 12 (.on 13 (.on 14 (.on 15 .nil)))))))))))))))) (by kernel_rfl) rfl (by kernel_rfl) (fun _ => ⟨hS.sat, hO⟩) ?_
          refine WD_val rfl (fun w hw => rn_move (v := (.pointer (some ⟨b24, 0, none⟩))) rfl) rfl ?_; refine WD_val rfl (fun w hw => rn_move (v := (.pointer (some ⟨b24, 0, none⟩))) rfl) rfl ?_
          refine WD_val (v := (.pointer (some ⟨b24, 0, none⟩))) rfl (fun w hw => by kernel_rfl) rfl ?_
          refine WD_val rfl (fun w hw => rn_fld fd140_0 rfl) rfl ?_; refine WD_val rfl (fun w hw => rn_load na25 rfl (own_cell hw.2 (k := 3) rfl (j := 0) rfl)) rfl ?_; obtain ⟨y150, hy150, H⟩ := bnd H; refine WD_idxO rfl sl25 hO (k := 0) rfl hnhs112_1 hs112_1 hy150 rfl rfl rfl ?_
          rintro b151 ob151 _ hb151 _ hcb151 ⟨⟩
          refine WD_val rfl (fun w hw => rn_load na3 rfl (own_cellB hw.2 (k := 0) rfl hb151 _ 0 (hcb151 0 _ rfl))) rfl ?_; refine WD_val rfl (fun w hw => rn_move (v := (.pointer (some ⟨b24, 0, none⟩))) rfl) rfl ?_
          refine WD_val (v := (.pointer (some ⟨b24, 0, none⟩))) rfl (fun w hw => by kernel_rfl) rfl ?_
          refine WD_val rfl (fun w hw => rn_fld fd140_0 rfl) rfl ?_; refine WD_val rfl (fun w hw => rn_load na25 rfl (own_cell hw.2 (k := 3) rfl (j := 0) rfl)) rfl ?_; obtain ⟨y152, hy152, H⟩ := bnd H; obtain ⟨hl0, hl1, hl2, _⟩ := subL_some hy152
          have hln : ns112_1 = s112.2.all.length := hnhs112_1
          obtain ⟨_, hnc, ay152, cy152, cly152, hsl, hOy152, hry152⟩ := hO.resl (k := 0) rfl hnhs112_1 hs112_1 hy152 (q := ns112_1) ((Int.toNat_natCast _).trans hln.symm)
          refine WD_val (v := (.slice ay152 y152.length cy152)) rfl (fun w hw => (rn_sliceL sl25 rfl rfl hl0 (by omega) _).trans (congrArg (fun v => Result.ok (Next.value v) _) hsl)) rfl ?_
          refine WD_op rfl rfl (OpP_val (rn_assign (v := (.int .i64 y150)) rfl) rfl ?_); refine ⟨fun _ _ => ⟨hS.sat, hO⟩, ?_⟩
          refine WD_op rfl rfl (OpP_val (v := (.pointer (some ⟨b24, 0, none⟩))) (by kernel_rfl) rfl ?_)
          refine ⟨fun _ h => noneed (by kernel_rfl) h, ?_⟩
          refine WD_op rfl rfl (OpP_val (rn_fld fd140_0 rfl) rfl ?_)
          refine ⟨fun _ h => noneed (by kernel_rfl) h, ?_⟩
          have hO : Owns G148 w147.drew w0.heap.size ([⟨3, 1, y152.length, .slice ay152 y152.length cy152, cly152⟩, ⟨79, 1, 1, .slice (some ⟨b36, 0, none⟩) 1 1, [.slice as112_0 ns112_0 cs112_0]⟩, ⟨4, 1, ns112_0, .slice as112_0 ns112_0 cs112_0, clas112_0⟩, ⟨140, 1, 1, .slice (some ⟨b24, 0, none⟩) 1 1, [.slice as112_1 ns112_1 cs112_1]⟩, ⟨3, 1, nq96_0, .slice aq96_0 nq96_0 cq96_0, claq96_0⟩]) := hOy152
          refine WD_op rfl rfl (OpP_store (vs := [.slice ay152 y152.length cy152]) sz25 hS hO (k := 3) rfl rfl rfl rfl rfl (one_all rfl) (Nat.le_of_ble_eq_true rfl) (fun w153 hS hO => ?_))
          have hO : Owns G148 w153 w0.heap.size ([⟨3, 1, y152.length, .slice ay152 y152.length cy152, cly152⟩, ⟨79, 1, 1, .slice (some ⟨b36, 0, none⟩) 1 1, [.slice as112_0 ns112_0 cs112_0]⟩, ⟨4, 1, ns112_0, .slice as112_0 ns112_0 cs112_0, clas112_0⟩, ⟨140, 1, 1, .slice (some ⟨b24, 0, none⟩) 1 1, [.slice ay152 y152.length cy152]⟩, ⟨3, 1, nq96_0, .slice aq96_0 nq96_0 cq96_0, claq96_0⟩]) := hO
          refine ⟨fun _ h => noneed (by kernel_rfl) h, ?_⟩
          refine WD_nil ?_; refine WC_seq ?_; refine WC_region ?_; refine WL_val (rn_move (v := (.int .i64 y150)) rfl) rfl ?_; refine WL_val (rn_assign (v := (.int .i64 y150)) rfl) rfl ?_; refine WL_val (rn_assign (v := (.bool true)) rfl) rfl ?_; refine WL_nil ?_; refine WC_ret ?_; refine ⟨(.int .i64 y150), (.bool true), rfl, rfl, ?_⟩; refine WL_val (rn_move (v := (.tuple #[.int .i64 y150, .bool true])) rfl) rfl ?_; refine WL_val (rn_extract (v := (.int .i64 y150)) rfl rfl) rfl ?_; refine WL_val (rn_extract (v := (.bool true)) rfl rfl) rfl ?_; refine WL_val (rn_assign (v := (.int .i64 y150)) rfl) rfl ?_; refine WL_val (rn_assign (v := (.bool true)) rfl) rfl ?_; refine WL_nil ?_
          have hO : Owns G148 w153 w0.heap.size ([⟨3, 1, y152.length, .slice ay152 y152.length cy152, cly152⟩, ⟨79, 1, 1, .slice (some ⟨b36, 0, none⟩) 1 1, [.slice as112_0 ns112_0 cs112_0]⟩, ⟨4, 1, ns112_0, .slice as112_0 ns112_0 cs112_0, clas112_0⟩, ⟨140, 1, 1, .slice (some ⟨b24, 0, none⟩) 1 1, [.slice ay152 y152.length cy152]⟩, ⟨3, 1, nq96_0, .slice aq96_0 nq96_0 cq96_0, claq96_0⟩]) := hO
          have H := Option.some.inj H; subst H; refine ⟨_, rfl, ?_⟩
          have l5_9 := (leG87.trans l6_8).trans leG148
          exact ⟨_, G148, aq96_0, nq96_0, cq96_0, claq96_0, as112_0, ns112_0, cs112_0, clas112_0, ay152, y152.length, cy152, cly152, upds_self _ _ ⟨rfl, rfl, rfl, rfl, rfl, rfl, rfl, trivial⟩, l5_9, hS, hO, hnhq96_0, (hq96_0.mono RInt_mono leG148), hnhs112_0, hs112_0, rfl, hry152⟩
        ·rintro _ _ _ _ _ _ _ _ _ _ hI
         exact hI.elim
      ·have H := ifF hb88 H; refine WC_exit rfl ?_
       have hO : Owns G87 w86 w0.heap.size ([⟨3, 1, ns82_2, .slice as82_2 ns82_2 cs82_2, clas82_2⟩, ⟨79, 1, 1, .slice (some ⟨b36, 0, none⟩) 1 1, [.slice as82_1 ns82_1 cs82_1]⟩, ⟨4, 1, ns82_1, .slice as82_1 ns82_1 cs82_1, clas82_1⟩, ⟨140, 1, 1, .slice (some ⟨b24, 0, none⟩) 1 1, [.slice as82_2 ns82_2 cs82_2]⟩, ⟨3, 1, ns82_0, .slice as82_0 ns82_0 cs82_0, clas82_0⟩]) := hO
       have H := Option.some.inj H; subst H
       have hres := hqq84 _ rfl
       subst hres
       exact ⟨_, G87, as82_0, ns82_0, cs82_0, clas82_0, as82_1, ns82_1, cs82_1, clas82_1, as82_2, ns82_2, cs82_2, clas82_2, upds_self _ _ ⟨rfl, rfl, trivial⟩, leG87, hS, hO, hnhs82_0, hs82_0, hnhs82_1, hs82_1, hnhs82_2, hs82_2⟩
    ·rintro F w155 ⟨Fb, G156, aq84_0, nq84_0, cq84_0, claq84_0, aq84_1, nq84_1, cq84_1, claq84_1, aq84_2, nq84_2, cq84_2, claq84_2, rfl, leG156, hS, hO, hnhq84_0, hq84_0, hnhq84_1, hq84_1, hnhq84_2, hq84_2⟩
     refine WC_seq ?_; refine WC_seq ?_; refine WC_region ?_; refine WL_val (rn_fld fd111_0 rfl) rfl ?_; refine WL_val (rn_fld fd46_1 rfl) rfl ?_
     have l1_6 := ((l1_3.trans leG73).trans leG81).trans leG156
     refine WL_val (rn_load na25 rfl ((hS.sat.le l1_6).cell (hcb4 1 _ rfl))) rfl ?_
     have l0_6 := ((l0_3.trans leG73).trans leG81).trans leG156
     refine WL_val (rn_len sl25 rfl rfl (h1.mono RInt_mono l0_6).1) rfl ?_; refine WL_val (rn_move (v := (.int .i64 0)) rfl) rfl ?_; refine WL_nil ?_; obtain ⟨q159, hq159, H⟩ := bnd H; refine WC_cut (fun F w => ∃ (Fb : Fr) (G : Gm) (aq159_0 : Option Addr) (nq159_0 cq159_0 : Nat) (claq159_0 : List Value) (aq159_1 : Option Addr) (nq159_1 cq159_1 : Nat) (claq159_1 : List Value) (aq159_2 : Option Addr) (nq159_2 cq159_2 : Nat) (claq159_2 : List Value), F = upds Fb [(3, .slice aq159_0 nq159_0 cq159_0)] ∧ Gle G156 G ∧ Since w0.heap.size G0 w0 G w ∧ Owns G w w0.heap.size [⟨3, 1, nq159_2, .slice aq159_2 nq159_2 cq159_2, claq159_2⟩, ⟨79, 1, 1, .slice (some ⟨b36, 0, none⟩) 1 1, [.slice aq159_1 nq159_1 cq159_1]⟩, ⟨4, 1, nq159_1, .slice aq159_1 nq159_1 cq159_1, claq159_1⟩, ⟨140, 1, 1, .slice (some ⟨b24, 0, none⟩) 1 1, [.slice aq159_2 nq159_2 cq159_2]⟩, ⟨3, 1, nq159_0, .slice aq159_0 nq159_0 cq159_0, claq159_0⟩] ∧ nq159_0 = q159.1.length ∧ Rd RInt 1 G claq159_0 q159.1 ∧ nq159_1 = q159.2.1.length ∧ Rd RBool 1 G claq159_1 q159.2.1 ∧ nq159_2 = q159.2.2.all.length ∧ Rd RInt 1 G claq159_2 q159.2.2.all) ?_ ?_
     ·refine WC_block (WC_loop hq159 (fun s157 F w => ∃ (Fb : Fr) (G : Gm) (as157_0 : Option Addr) (ns157_0 cs157_0 : Nat) (clas157_0 : List Value) (as157_1 : Option Addr) (ns157_1 cs157_1 : Nat) (clas157_1 : List Value) (as157_2 : Option Addr) (ns157_2 cs157_2 : Nat) (clas157_2 : List Value), F = upds Fb [(3, .slice as157_0 ns157_0 cs157_0), (126, .slice a1 n1 c1), (127, .int .i64 (x0.BaneSea.Infested.length : Int)), (128, .int .i64 s157.2.1)] ∧ Gle G156 G ∧ Since w0.heap.size G0 w0 G w ∧ Owns G w w0.heap.size [⟨3, 1, ns157_2, .slice as157_2 ns157_2 cs157_2, clas157_2⟩, ⟨79, 1, 1, .slice (some ⟨b36, 0, none⟩) 1 1, [.slice as157_1 ns157_1 cs157_1]⟩, ⟨4, 1, ns157_1, .slice as157_1 ns157_1 cs157_1, clas157_1⟩, ⟨140, 1, 1, .slice (some ⟨b24, 0, none⟩) 1 1, [.slice as157_2 ns157_2 cs157_2]⟩, ⟨3, 1, ns157_0, .slice as157_0 ns157_0 cs157_0, clas157_0⟩] ∧ ns157_0 = s157.1.length ∧ Rd RInt 1 G clas157_0 s157.1 ∧ ns157_1 = s157.2.2.1.length ∧ Rd RBool 1 G clas157_1 s157.2.2.1 ∧ ns157_2 = s157.2.2.2.all.length ∧ Rd RInt 1 G clas157_2 s157.2.2.2.all) ?_ ?_)
      ·have hO : Owns G156 w155 w0.heap.size ([⟨3, 1, nq84_2, .slice aq84_2 nq84_2 cq84_2, claq84_2⟩, ⟨79, 1, 1, .slice (some ⟨b36, 0, none⟩) 1 1, [.slice aq84_1 nq84_1 cq84_1]⟩, ⟨4, 1, nq84_1, .slice aq84_1 nq84_1 cq84_1, claq84_1⟩, ⟨140, 1, 1, .slice (some ⟨b24, 0, none⟩) 1 1, [.slice aq84_2 nq84_2 cq84_2]⟩, ⟨3, 1, nq84_0, .slice aq84_0 nq84_0 cq84_0, claq84_0⟩]) := hO
       exact ⟨_, G156, aq84_0, nq84_0, cq84_0, claq84_0, aq84_1, nq84_1, cq84_1, claq84_1, aq84_2, nq84_2, cq84_2, claq84_2, upds_self _ _ ⟨rfl, rfl, rfl, rfl, trivial⟩, Gle.refl _, hS, hO, hnhq84_0, hq84_0, hnhq84_1, hq84_1, hnhq84_2, hq84_2⟩
      ·rintro s157 F w161 t160 ⟨Fb, G162, as157_0, ns157_0, cs157_0, clas157_0, as157_1, ns157_1, cs157_1, clas157_1, as157_2, ns157_2, cs157_2, clas157_2, rfl, leG162, hS, hO, hnhs157_0, hs157_0, hnhs157_1, hs157_1, hnhs157_2, hs157_2⟩
       intro H1 hqq159
       have Hoq159 := H; have H := H1
       unfold f75_b4 at H
       refine WC_seq ?_; refine WC_region ?_; refine WL_val (rn_lss rfl rfl) rfl ?_; refine WL_nil ?_; refine WC_seq ?_; refine WC_cond rfl (fun hb163 => ?_) (fun hb163 => ?_)
       ·have H := ifT hb163 H; refine WC_skip ?_; refine WC_seq ?_; refine WC_block ?_; refine WC_seq ?_; refine WC_region ?_; obtain ⟨y164, hy164, H⟩ := bnd H
        have l0_7 := l0_6.trans leG162
        refine WL_idx sl25 (h1.mono RInt_mono l0_7) hy164 rfl rfl rfl ?_
        rintro b165 o165 _ hcb165 _ ⟨⟩
        refine WL_val (rn_load na3 rfl (hS.sat.cell (hcb165 0 _ rfl))) rfl ?_; refine WL_val (rn_assign (v := (.int .i64 y164)) rfl) rfl ?_; refine WL_nil ?_; refine WC_region ?_; refine WL_val (rn_move (v := (.slice as157_0 ns157_0 cs157_0)) rfl) rfl ?_; refine WL_val (rn_move (v := (.int .i64 y164)) rfl) rfl ?_; obtain ⟨y166, hy166, H⟩ := bnd H; refine WL_idxO sl25 hO (k := 4) rfl hnhs157_0 hs157_0 hy166 rfl rfl rfl ?_
        rintro b167 ob167 _ hb167 _ hcb167 ⟨⟩
        obtain ⟨y168, hy168, H⟩ := bnd H; refine WL_op rfl (OpP_storeE (vs := [.int .i64 0]) (cs := [.int .i64 y166]) (j := 0) (y := 0) sz3 hS hO (k := 4) rfl hnhs157_0 rfl hs157_0 hb167 rfl hcb167 hy168 rfl rfl rfl rfl rfl (one_all rfl) (Nat.le_of_ble_eq_true rfl) (fun w169 clw169 hS hO hrw169 => ?_))
        have hO : Owns G162 w169 w0.heap.size ([⟨3, 1, ns157_2, .slice as157_2 ns157_2 cs157_2, clas157_2⟩, ⟨79, 1, 1, .slice (some ⟨b36, 0, none⟩) 1 1, [.slice as157_1 ns157_1 cs157_1]⟩, ⟨4, 1, ns157_1, .slice as157_1 ns157_1 cs157_1, clas157_1⟩, ⟨140, 1, 1, .slice (some ⟨b24, 0, none⟩) 1 1, [.slice as157_2 ns157_2 cs157_2]⟩, ⟨3, 1, ns157_0, .slice as157_0 ns157_0 cs157_0, clw169⟩]) := hO
        refine WL_nil ?_; refine WC_region ?_; refine WL_val (rn_add rfl rfl) rfl ?_; refine WL_val (rn_move (v := (.int .i64 (IntKind.i64.wrap (s157.2.1 + 1)))) rfl) rfl ?_; refine WL_nil ?_
        have hO : Owns G162 w169 w0.heap.size ([⟨3, 1, ns157_2, .slice as157_2 ns157_2 cs157_2, clas157_2⟩, ⟨79, 1, 1, .slice (some ⟨b36, 0, none⟩) 1 1, [.slice as157_1 ns157_1 cs157_1]⟩, ⟨4, 1, ns157_1, .slice as157_1 ns157_1 cs157_1, clas157_1⟩, ⟨140, 1, 1, .slice (some ⟨b24, 0, none⟩) 1 1, [.slice as157_2 ns157_2 cs157_2]⟩, ⟨3, 1, ns157_0, .slice as157_0 ns157_0 cs157_0, clw169⟩]) := hO
        have H := Option.some.inj H; subst H; refine ⟨_, rfl, ?_⟩
        exact ⟨_, G162, as157_0, ns157_0, cs157_0, clw169, as157_1, ns157_1, cs157_1, clas157_1, as157_2, ns157_2, cs157_2, clas157_2, upds_self _ _ ⟨rfl, rfl, rfl, rfl, trivial⟩, leG162, hS, hO, (Eq.trans hnhs157_0 (setIx_len hy168)), hrw169, hnhs157_1, hs157_1, hnhs157_2, hs157_2⟩
       ·have H := ifF hb163 H; refine WC_exit rfl ?_
        have hO : Owns G162 w161 w0.heap.size ([⟨3, 1, ns157_2, .slice as157_2 ns157_2 cs157_2, clas157_2⟩, ⟨79, 1, 1, .slice (some ⟨b36, 0, none⟩) 1 1, [.slice as157_1 ns157_1 cs157_1]⟩, ⟨4, 1, ns157_1, .slice as157_1 ns157_1 cs157_1, clas157_1⟩, ⟨140, 1, 1, .slice (some ⟨b24, 0, none⟩) 1 1, [.slice as157_2 ns157_2 cs157_2]⟩, ⟨3, 1, ns157_0, .slice as157_0 ns157_0 cs157_0, clas157_0⟩]) := hO
        have H := Option.some.inj H; subst H
        have hres := hqq159 _ rfl
        subst hres
        exact ⟨_, G162, as157_0, ns157_0, cs157_0, clas157_0, as157_1, ns157_1, cs157_1, clas157_1, as157_2, ns157_2, cs157_2, clas157_2, upds_self _ _ ⟨rfl, trivial⟩, leG162, hS, hO, hnhs157_0, hs157_0, hnhs157_1, hs157_1, hnhs157_2, hs157_2⟩
     ·rintro F w170 ⟨Fb, G171, aq159_0, nq159_0, cq159_0, claq159_0, aq159_1, nq159_1, cq159_1, claq159_1, aq159_2, nq159_2, cq159_2, claq159_2, rfl, leG171, hS, hO, hnhq159_0, hq159_0, hnhq159_1, hq159_1, hnhq159_2, hq159_2⟩
      refine WC_seq ?_; refine WC_region ?_; refine WL_val (rn_move (v := (.slice aq159_0 nq159_0 cq159_0)) rfl) rfl ?_; refine WL_val (rn_assign (v := (.slice aq159_0 nq159_0 cq159_0)) rfl) rfl ?_; refine WL_nil ?_; refine WC_ret ?_; obtain ⟨G172, leG172, hS, hO, hfG172⟩ := hO.freezeS hS RInt_mono (k := 4) rfl hq159_0 hnhq159_0
      have H : some q159.1 = some r := H
      have H := Option.some.inj H; subst H
      exact ⟨_, _, rfl, hS.toGrow, _, _, _, rfl, hfG172⟩
  ·rintro _ _ _ _ _ _ _ _ _ _ hI
   exact hI.elim
set_option maxHeartbeats 1000000 in
theorem f76_ok : ∀ (n : Nat) {B : Nat} {G0 : Gm} {w0 : World} {Gc : Gm} {wc : World} {Lq : List Row} {x0 : TSpot} {bq1 : Nat} {x1 : TBaneSea} {a1 : Option Addr} {n1 c1 : Nat} {a2 : Option Addr} {n2 c2 : Nat} {a3 : Option Addr} {n3 c3 : Nat} {bq2 : Nat} {x2 : Int} {bq3 : Nat} {x3 : Int} {bq4 : Nat} {rq4 : Nat} {m4 : (List ((Int × Int) × Bool))} {bq5 : Nat} {x5 : TSea} {a5 : Option Addr} {n5 c5 : Nat} {a6 : Option Addr} {n6 c6 : Nat} {a7 : Option Addr} {n7 c7 : Nat} {bq6 : Nat} {m6 : List Int} {aq6 : Option Addr} {nq6 cq6 : Nat} {clq6 : List Value} {bq7 : Nat} (hS : Since B G0 w0 Gc wc) (hO : Owns Gc wc B (⟨117, 2, (m4).length, .map (some rq4), kvs kvI2 vvB (m4)⟩ :: ⟨25, 1, 1, .slice (some ⟨bq6, 0, none⟩) 1 1, [.slice aq6 nq6 cq6]⟩ :: ⟨3, 1, nq6, .slice aq6 nq6 cq6, clq6⟩ :: Lq)) (hcq1 : Cells Gc bq1 0 [.int .i64 x1.Islets, .slice a1 n1 c1, .slice a2 n2 c2, .slice a3 n3 c3, .int .i64 x1.Wait]) (hcq2 : Cells Gc bq2 0 [.int .i64 x2]) (hcq3 : Cells Gc bq3 0 [.int .i64 x3]) (hcq4 : Cells Gc bq4 0 [.map (some rq4)]) (hcq5 : Cells Gc bq5 0 [.int .i64 x5.BaneSea.Islets, .slice a5 n5 c5, .slice a6 n6 c6, .slice a7 n7 c7, .int .i64 x5.BaneSea.Wait, .int .i64 x5.shut]) (hcq7 : Cells Gc bq7 0 [.func (.func 76) (([] : List Value)).toArray ([.pointer (some ⟨bq1, 0, none⟩), .pointer (some ⟨bq2, 0, none⟩), .pointer (some ⟨bq3, 0, none⟩), .pointer (some ⟨bq4, 0, none⟩), .pointer (some ⟨bq5, 0, none⟩), .pointer (some ⟨bq6, 0, none⟩), .pointer (some ⟨bq7, 0, none⟩)] : List Value).toArray]) (h1 : RSl RInt 1 Gc a1 n1 c1 x1.Infested) (h2 : RSl RInt 1 Gc a2 n2 c2 x1.Clean) (h3 : RSl RTBaneTrip 4 Gc a3 n3 c3 x1.Trips) (h5 : RSl RInt 1 Gc a5 n5 c5 x5.BaneSea.Infested) (h6 : RSl RInt 1 Gc a6 n6 c6 x5.BaneSea.Clean) (h7 : RSl RTBaneTrip 4 Gc a7 n7 c7 x5.BaneSea.Trips) (hnq6 : nq6 = m6.length) (hrq6 : Rd RInt 1 Gc clq6 m6) {r : Bool × (List ((Int × Int) × Bool)) × (List Int)} (H : f76 x1 x2 x3 x5 n x0 m4 m6 = some r),
  Calls Try.prog 76 #[.agg #[.int .i64 x0.trip, .int .i64 x0.left], .pointer (some ⟨bq1, 0, none⟩), .pointer (some ⟨bq2, 0, none⟩), .pointer (some ⟨bq3, 0, none⟩), .pointer (some ⟨bq4, 0, none⟩), .pointer (some ⟨bq5, 0, none⟩), .pointer (some ⟨bq6, 0, none⟩), .pointer (some ⟨bq7, 0, none⟩)] wc (RetO B G0 w0 Gc wc (fun G L' v => ∃ (ap2 : Option Addr) (np2 cp2 : Nat) (clp2 : List Value), v = .bool r.1 ∧ L' = ⟨117, 2, (r.2.1).length, .map (some rq4), kvs kvI2 vvB (r.2.1)⟩ :: ⟨25, 1, 1, .slice (some ⟨bq6, 0, none⟩) 1 1, [.slice ap2 np2 cp2]⟩ :: ⟨3, 1, np2, .slice ap2 np2 cp2, clp2⟩ :: Lq ∧ np2 = r.2.2.length ∧ Rd RInt 1 G clp2 r.2.2)) := by
 intro n
 induction n with
 | zero => intro B G0 w0 Gc wc Lq x0 bq1 x1 a1 n1 c1 a2 n2 c2 a3 n3 c3 bq2 x2 bq3 x3 bq4 rq4 m4 bq5 x5 a5 n5 c5 a6 n6 c6 a7 n7 c7 bq6 m6 aq6 nq6 cq6 clq6 bq7 hS hO hcq1 hcq2 hcq3 hcq4 hcq5 hcq7 h1 h2 h3 h5 h6 h7 hnq6 hrq6 r H; simp [f76] at H
 | succ n ih =>
  intro B G0 w0 Gc wc Lq x0 bq1 x1 a1 n1 c1 a2 n2 c2 a3 n3 c3 bq2 x2 bq3 x3 bq4 rq4 m4 bq5 x5 a5 n5 c5 a6 n6 c6 a7 n7 c7 bq6 m6 aq6 nq6 cq6 clq6 bq7 hS hO hcq1 hcq2 hcq3 hcq4 hcq5 hcq7 h1 h2 h3 h5 h6 h7 hnq6 hrq6 r H
  obtain ⟨rec, hrec⟩ : ∃ f, f = f76 x1 x2 x3 x5 n := ⟨_, rfl⟩
  have H : f76_F x1 x2 x3 x5 (f76 x1 x2 x3 x5 n) x0 m4 m6 = some r := H
  rw [← hrec] at H
  unfold f76_F at H
  refine enterL (N := 72) (rs := [.cell 9 4]) hO.base Try.func76 rfl rfl rfl rfl ?_; refine WC_seq ?_; refine WC_region ?_; refine WL_op rfl (OpP_newF (v := fun b => .pointer (some ⟨b, 0, none⟩)) (cs := [.int .i64 x0.trip, .int .i64 x0.left]) (e := 117) (rn_boxA rfl) hS.sat rfl (fun b10 G12 w11 hg hcb10 => ?_)); have hS := hS.grow hg; have hO := hO.grow hg
  have leG12 := hg.le
  refine WL_op rfl (OpP_newO (v := fun b => .pointer (some ⟨b, 0, none⟩)) (cs := [.bool false]) (e := 4) (by kernel_rfl) hS.sat hO rfl 1 1 rfl (by decide) (fun b13 w14 hb hO => ?_))
  have hS := hS.keep hb; refine WL_nil ?_; refine WC_seq ?_; refine WC_region ?_; refine WL_val (rn_fld fd46_3 rfl) rfl ?_; refine WL_val (rn_load na44 rfl ((hS.sat.le leG12).cell (hcq1 3 _ rfl))) rfl ?_; refine WL_val (rn_fld fd117_0 rfl) rfl ?_; refine WL_val (rn_load na3 rfl (hS.sat.cell (hcb10 0 _ rfl))) rfl ?_; obtain ⟨y16, hy16, H⟩ := bnd H; refine WL_idx sl44 (h3.mono RTBaneTrip_mono leG12) hy16 rfl rfl rfl ?_
  rintro b17 o17 _ hcb17 _ ⟨⟩
  refine WL_val (rn_loadA ag109 (cs := [.int .i64 y16.Day, .int .i64 y16.From, .int .i64 y16.To, .int .i64 y16.Cost]) rfl rfl (fun j v hj => hS.sat.cell (hcb17.drop_take 0 4 j v hj))) rfl ?_
  refine WL_op rfl (OpP_newO (v := fun b => .pointer (some ⟨b, 0, none⟩)) (cs := [.int .i64 0, .int .i64 0, .int .i64 0, .int .i64 0]) (e := 109) (by kernel_rfl) hS.sat hO rfl 4 1 rfl (by decide) (fun b18 w19 hb hO => ?_))
  have hS := hS.keep hb; refine WL_op rfl (OpP_store (vs := [.int .i64 y16.Day, .int .i64 y16.From, .int .i64 y16.To, .int .i64 y16.Cost]) sz109 hS hO (k := 0) rfl rfl rfl rfl rfl (one_all rfl) (Nat.le_of_ble_eq_true rfl) (fun w21 hS hO => ?_))
  have hO : Owns G12 w21 B (⟨109, 4, 1, .slice (some ⟨b18, 0, none⟩) 1 1, [.int .i64 y16.Day, .int .i64 y16.From, .int .i64 y16.To, .int .i64 y16.Cost]⟩ :: ⟨4, 1, 1, .slice (some ⟨b13, 0, none⟩) 1 1, [.bool false]⟩ :: ⟨117, 2, (m4).length, .map (some rq4), kvs kvI2 vvB (m4)⟩ :: ⟨25, 1, 1, .slice (some ⟨bq6, 0, none⟩) 1 1, [.slice aq6 nq6 cq6]⟩ :: ⟨3, 1, nq6, .slice aq6 nq6 cq6, clq6⟩ :: Lq) := hO
  obtain ⟨G22, leG22, hS, hO, hqG22, _⟩ := hO.freeze hS (k := 0) rfl
  have hcG22 : Cells G22 b18 0 [.int .i64 y16.Day, .int .i64 y16.From, .int .i64 y16.To, .int .i64 y16.Cost] := (hqG22 _ _ _ _ rfl)
  refine WL_nil ?_; refine WC_seq ?_; refine WC_seq ?_; refine WC_region ?_; refine WL_val (rn_fld fd117_1 rfl) rfl ?_; refine WL_val (rn_load na3 rfl ((hS.sat.le leG22).cell (hcb10 1 _ rfl))) rfl ?_; refine WL_val (rn_eql rfl rfl) rfl ?_; refine WL_nil ?_; refine WC_cond rfl (fun hb23 => ?_) (fun hb23 => ?_)
  ·have H := ifT hb23 H; refine WC_seq ?_; obtain ⟨q24, hq24, H⟩ := bnd H; refine WC_cut (fun F w => ∃ (Fb : Fr) (G : Gm), F = upds Fb [(9, .pointer (some ⟨b13, 0, none⟩))] ∧ Gle G22 G ∧ Since B G0 w0 G w ∧ Owns G w B (⟨4, 1, 1, .slice (some ⟨b13, 0, none⟩) 1 1, [.bool q24]⟩ :: ⟨117, 2, (m4).length, .map (some rq4), kvs kvI2 vvB (m4)⟩ :: ⟨25, 1, 1, .slice (some ⟨bq6, 0, none⟩) 1 1, [.slice aq6 nq6 cq6]⟩ :: ⟨3, 1, nq6, .slice aq6 nq6 cq6, clq6⟩ :: Lq)) ?_ ?_
   ·have Hoq24 := H; have H := hq24; refine WC_region ?_; refine WL_val (rn_fld fd109_2 rfl) rfl ?_; refine WL_val (rn_load na3 rfl (hS.sat.cell (hcG22 2 _ rfl))) rfl ?_
    have l0_2 := leG12.trans leG22
    refine WL_val (rn_load na3 rfl ((hS.sat.le l0_2).cell (hcq2 0 _ rfl))) rfl ?_; refine WL_val (rn_eql rfl rfl) rfl ?_; refine WL_val (rn_move (v := (.bool (y16.To == x2))) rfl) rfl ?_
    rcases bcases (y16.To == x2) with hb25 | hb25
    ·have H := ifT hb25 H; refine WL_guardY rfl hb25 rfl rfl ?_; refine WL_val (rn_fld fd109_0 rfl) rfl ?_; refine WL_guardY rfl hb25 rfl rfl ?_; refine WL_val (rn_load na3 rfl (hS.sat.cell (hcG22 0 _ rfl))) rfl ?_; refine WL_guardY rfl hb25 rfl rfl ?_; refine WL_val (rn_load na3 rfl ((hS.sat.le l0_2).cell (hcq3 0 _ rfl))) rfl ?_; refine WL_guardY rfl hb25 rfl rfl ?_; refine WL_val (rn_eql rfl rfl) rfl ?_; refine WL_val (rn_pickT (v := (.bool (y16.Day == x3))) rfl hb25 rfl) rfl ?_; refine WL_op rfl (OpP_store (vs := [.bool (y16.Day == x3)]) sz4 hS hO (k := 0) rfl rfl rfl rfl rfl (one_all rfl) (Nat.le_of_ble_eq_true rfl) (fun w26 hS hO => ?_))
     have hO : Owns G22 w26 B (⟨4, 1, 1, .slice (some ⟨b13, 0, none⟩) 1 1, [.bool (y16.Day == x3)]⟩ :: ⟨117, 2, (m4).length, .map (some rq4), kvs kvI2 vvB (m4)⟩ :: ⟨25, 1, 1, .slice (some ⟨bq6, 0, none⟩) 1 1, [.slice aq6 nq6 cq6]⟩ :: ⟨3, 1, nq6, .slice aq6 nq6 cq6, clq6⟩ :: Lq) := hO
     refine WL_nil ?_
     have hO : Owns G22 w26 B (⟨4, 1, 1, .slice (some ⟨b13, 0, none⟩) 1 1, [.bool (y16.Day == x3)]⟩ :: ⟨117, 2, (m4).length, .map (some rq4), kvs kvI2 vvB (m4)⟩ :: ⟨25, 1, 1, .slice (some ⟨bq6, 0, none⟩) 1 1, [.slice aq6 nq6 cq6]⟩ :: ⟨3, 1, nq6, .slice aq6 nq6 cq6, clq6⟩ :: Lq) := hO
     have H := Option.some.inj H; subst H
     exact ⟨_, G22, upds_self _ _ ⟨rfl, trivial⟩, Gle.refl _, hS, hO⟩
    ·have H := ifF hb25 H; refine WL_guardN rfl hb25 rfl rfl rfl ?_; refine WL_guardN rfl hb25 rfl rfl rfl ?_; refine WL_guardN rfl hb25 rfl rfl rfl ?_; refine WL_guardN rfl hb25 rfl rfl rfl ?_; refine WL_val (rn_pickF (v := (.bool false)) rfl hb25 rfl) rfl ?_; refine WL_op rfl (OpP_store (vs := [.bool false]) sz4 hS hO (k := 0) rfl rfl rfl rfl rfl (one_all rfl) (Nat.le_of_ble_eq_true rfl) (fun w27 hS hO => ?_))
     have hO : Owns G22 w27 B (⟨4, 1, 1, .slice (some ⟨b13, 0, none⟩) 1 1, [.bool false]⟩ :: ⟨117, 2, (m4).length, .map (some rq4), kvs kvI2 vvB (m4)⟩ :: ⟨25, 1, 1, .slice (some ⟨bq6, 0, none⟩) 1 1, [.slice aq6 nq6 cq6]⟩ :: ⟨3, 1, nq6, .slice aq6 nq6 cq6, clq6⟩ :: Lq) := hO
     refine WL_nil ?_
     have hO : Owns G22 w27 B (⟨4, 1, 1, .slice (some ⟨b13, 0, none⟩) 1 1, [.bool false]⟩ :: ⟨117, 2, (m4).length, .map (some rq4), kvs kvI2 vvB (m4)⟩ :: ⟨25, 1, 1, .slice (some ⟨bq6, 0, none⟩) 1 1, [.slice aq6 nq6 cq6]⟩ :: ⟨3, 1, nq6, .slice aq6 nq6 cq6, clq6⟩ :: Lq) := hO
     have H := Option.some.inj H; subst H
     exact ⟨_, G22, upds_self _ _ ⟨rfl, trivial⟩, Gle.refl _, hS, hO⟩
   ·rintro F w28 ⟨Fb, G29, rfl, leG29, hS, hO⟩
    refine WC_ret ?_
    have H : some (q24, (m4), m6) = some r := H
    have H := Option.some.inj H; subst H; refine ⟨[.bool q24], ⟨⟨_, rfl, ld_one na4 (own_cell hO (k := 0) rfl (j := 0) rfl)⟩, trivial⟩, ?_⟩; have hO := hO.drop 0
    have hO : Owns G29 w28 B (⟨117, 2, (m4).length, .map (some rq4), kvs kvI2 vvB (m4)⟩ :: ⟨25, 1, 1, .slice (some ⟨bq6, 0, none⟩) 1 1, [.slice aq6 nq6 cq6]⟩ :: ⟨3, 1, nq6, .slice aq6 nq6 cq6, clq6⟩ :: Lq) := hO
    have l0_3 := (leG12.trans leG22).trans leG29
    exact ⟨_, _, l0_3, hS, hO, aq6, nq6, cq6, clq6, rfl, rfl, hnq6, (hrq6.mono RInt_mono l0_3)⟩
  ·have H := ifF hb23 H; refine WC_skip ?_; refine WC_seq ?_; refine WC_seq ?_; refine WC_region ?_
   have l0_2 := leG12.trans leG22
   refine WL_val (rn_load na114 rfl ((hS.sat.le l0_2).cell (hcq4 0 _ rfl))) rfl ?_; refine WL_val (rn_loadA ag117 (cs := [.int .i64 x0.trip, .int .i64 x0.left]) rfl rfl (fun j v hj => (hS.sat.le leG22).cell (hcb10.drop_take 0 2 j v hj))) rfl ?_; refine WL_val (v := (.bool ((lookM (m4) (x0.trip, x0.left)).getD false))) (rn_lookup (k := 1) (vv := vvB) (z := false) (a := (x0.trip, x0.left)) mp114 (keyOk_I2 in117 fl117) zi4 hO rfl rfl rfl) rfl ?_; refine WL_nil ?_; refine WC_cond rfl (fun hb30 => ?_) (fun hb30 => ?_)
   ·have H := ifT hb30 H; refine WC_seq ?_; refine WC_region ?_; refine WL_op rfl (OpP_store (vs := [.bool false]) sz4 hS hO (k := 0) rfl rfl rfl rfl rfl (one_all rfl) (Nat.le_of_ble_eq_true rfl) (fun w31 hS hO => ?_))
    have hO : Owns G22 w31 B (⟨4, 1, 1, .slice (some ⟨b13, 0, none⟩) 1 1, [.bool false]⟩ :: ⟨117, 2, (m4).length, .map (some rq4), kvs kvI2 vvB (m4)⟩ :: ⟨25, 1, 1, .slice (some ⟨bq6, 0, none⟩) 1 1, [.slice aq6 nq6 cq6]⟩ :: ⟨3, 1, nq6, .slice aq6 nq6 cq6, clq6⟩ :: Lq) := hO
    refine WL_nil ?_; refine WC_ret ?_
    have H : some (false, (m4), m6) = some r := H
    have H := Option.some.inj H; subst H; refine ⟨[.bool false], ⟨⟨_, rfl, ld_one na4 (own_cell hO (k := 0) rfl (j := 0) rfl)⟩, trivial⟩, ?_⟩; have hO := hO.drop 0
    have hO : Owns G22 w31 B (⟨117, 2, (m4).length, .map (some rq4), kvs kvI2 vvB (m4)⟩ :: ⟨25, 1, 1, .slice (some ⟨bq6, 0, none⟩) 1 1, [.slice aq6 nq6 cq6]⟩ :: ⟨3, 1, nq6, .slice aq6 nq6 cq6, clq6⟩ :: Lq) := hO
    exact ⟨_, _, l0_2, hS, hO, aq6, nq6, cq6, clq6, rfl, rfl, hnq6, (hrq6.mono RInt_mono l0_2)⟩
   ·have H := ifF hb30 H; refine WC_skip ?_; refine WC_seq ?_; refine WC_seq ?_; refine WC_region ?_; refine WL_val (rn_loadA ag111 (cs := [.int .i64 x5.BaneSea.Islets, .slice a5 n5 c5, .slice a6 n6 c6, .slice a7 n7 c7, .int .i64 x5.BaneSea.Wait, .int .i64 x5.shut]) rfl rfl (fun j v hj => (hS.sat.le l0_2).cell (hcq5.drop_take 0 6 j v hj))) rfl ?_
    have hI32 := f77_it (x0 := x5) (a1 := a5) (n1 := n5) (c1 := c5) (a2 := a6) (n2 := n6) (c2 := c6) (a3 := a7) (n3 := n7) (c3 := c7) (h7.mono RTBaneTrip_mono l0_2)
    refine WL_val (rn_func (vs := [.agg #[.int .i64 x5.BaneSea.Islets, .slice a5 n5 c5, .slice a6 n6 c6, .slice a7 n7 c7, .int .i64 x5.BaneSea.Wait, .int .i64 x5.shut]]) (us := []) rfl rfl) rfl ?_; refine WL_nil ?_; refine WC_block ?_
    have hO : Owns G22 w21 B (⟨4, 1, 1, .slice (some ⟨b13, 0, none⟩) 1 1, [.bool false]⟩ :: ⟨117, 2, (m4).length, .map (some rq4), kvs kvI2 vvB (m4)⟩ :: ⟨25, 1, 1, .slice (some ⟨bq6, 0, none⟩) 1 1, [.slice aq6 nq6 cq6]⟩ :: ⟨3, 1, nq6, .slice aq6 nq6 cq6, clq6⟩ :: Lq) := hO
    obtain ⟨q35, hq35, H⟩ := bnd H; refine WC_range (xs := openL x5.shut 0 x5.BaneSea.Trips) (enc := encT) (bd := f76_b0 rec x0 x1 y16) (fi := [.agg #[.int .i64 x5.BaneSea.Islets, .slice a5 n5 c5, .slice a6 n6 c6, .slice a7 n7 c7, .int .i64 x5.BaneSea.Wait, .int .i64 x5.shut]]) (ca := []) cb77 hI32 rfl (fun _ => rfl) rfl hq35 (fun (s33 : Bool × (List Int) × (List ((Int × Int) × Bool))) (G : Gm) (L : List Row) => ∃ (as33_0 : Option Addr) (ns33_0 cs33_0 : Nat) (clas33_0 : List Value), L = (⟨4, 1, 1, .slice (some ⟨b13, 0, none⟩) 1 1, [.bool s33.1]⟩ :: ⟨117, 2, (s33.2.2).length, .map (some rq4), kvs kvI2 vvB (s33.2.2)⟩ :: ⟨25, 1, 1, .slice (some ⟨bq6, 0, none⟩) 1 1, [.slice as33_0 ns33_0 cs33_0]⟩ :: ⟨3, 1, ns33_0, .slice as33_0 ns33_0 cs33_0, clas33_0⟩ :: Lq) ∧ ns33_0 = s33.2.1.length ∧ Rd RInt 1 G clas33_0 s33.2.1) (fun (p70 : Bool × (List Int) × (List ((Int × Int) × Bool))) (c71 : Code) (G : Gm) (L : List Row) => (∃ (s33 : Bool × (List Int) × (List ((Int × Int) × Bool))), ∃ (as33_0 : Option Addr) (ns33_0 cs33_0 : Nat) (clas33_0 : List Value), s33 = p70 ∧ c71 = .ret ∧ L = (⟨4, 1, 1, .slice (some ⟨b13, 0, none⟩) 1 1, [.bool s33.1]⟩ :: ⟨117, 2, (s33.2.2).length, .map (some rq4), kvs kvI2 vvB (s33.2.2)⟩ :: ⟨25, 1, 1, .slice (some ⟨bq6, 0, none⟩) 1 1, [.slice as33_0 ns33_0 cs33_0]⟩ :: ⟨3, 1, ns33_0, .slice as33_0 ns33_0 cs33_0, clas33_0⟩ :: Lq) ∧ ns33_0 = s33.2.1.length ∧ Rd RInt 1 G clas33_0 s33.2.1)) ?_ hS hO ⟨aq6, nq6, cq6, clq6, rfl, hnq6, (hrq6.mono RInt_mono l0_2)⟩ [] ?_ ?_ ?_
    ·rintro s33 G1 G2 L hle ⟨as33_0, ns33_0, cs33_0, clas33_0, rfl, hnhs33_0, hs33_0⟩
     exact ⟨as33_0, ns33_0, cs33_0, clas33_0, rfl, hnhs33_0, hs33_0.mono RInt_mono hle⟩
    ·rintro l72 y34 s33 t36 G38 w37 L73 Lx39 leG38 hS hO ⟨as33_0, ns33_0, cs33_0, clas33_0, rfl, hnhs33_0, hs33_0⟩ H1 hqq35
     have hO : Owns G38 w37 B (⟨4, 1, 1, .slice (some ⟨b13, 0, none⟩) 1 1, [.bool s33.1]⟩ :: ⟨117, 2, (s33.2.2).length, .map (some rq4), kvs kvI2 vvB (s33.2.2)⟩ :: ⟨25, 1, 1, .slice (some ⟨bq6, 0, none⟩) 1 1, [.slice as33_0 ns33_0 cs33_0]⟩ :: ⟨3, 1, ns33_0, .slice as33_0 ns33_0 cs33_0, clas33_0⟩ :: (Lq ++ Lx39)) := hO
     have Hoq35 := H; have H := H1
     unfold f76_b0 at H
     refine WC_seq ?_; refine WC_region ?_; refine WL_val (rn_assign (v := (.int .i64 y34.1)) rfl) rfl ?_; refine WL_nil ?_; refine WC_region ?_
     refine WL_op rfl (OpP_newO (v := fun b => .pointer (some ⟨b, 0, none⟩)) (cs := [.int .i64 0, .int .i64 0, .int .i64 0, .int .i64 0]) (e := 109) (by kernel_rfl) hS.sat hO rfl 4 1 rfl (by decide) (fun b40 w41 hb hO => ?_))
     have hS := hS.keep hb; refine WL_op rfl (OpP_store (vs := [.int .i64 y34.2.Day, .int .i64 y34.2.From, .int .i64 y34.2.To, .int .i64 y34.2.Cost]) sz109 hS hO (k := 0) rfl rfl rfl rfl rfl (one_all rfl) (Nat.le_of_ble_eq_true rfl) (fun w43 hS hO => ?_))
     have hO : Owns G38 w43 B (⟨109, 4, 1, .slice (some ⟨b40, 0, none⟩) 1 1, [.int .i64 y34.2.Day, .int .i64 y34.2.From, .int .i64 y34.2.To, .int .i64 y34.2.Cost]⟩ :: ⟨4, 1, 1, .slice (some ⟨b13, 0, none⟩) 1 1, [.bool s33.1]⟩ :: ⟨117, 2, (s33.2.2).length, .map (some rq4), kvs kvI2 vvB (s33.2.2)⟩ :: ⟨25, 1, 1, .slice (some ⟨bq6, 0, none⟩) 1 1, [.slice as33_0 ns33_0 cs33_0]⟩ :: ⟨3, 1, ns33_0, .slice as33_0 ns33_0 cs33_0, clas33_0⟩ :: (Lq ++ Lx39)) := hO
     obtain ⟨G44, leG44, hS, hO, hqG44, _⟩ := hO.freeze hS (k := 0) rfl
     have hcG44 : Cells G44 b40 0 [.int .i64 y34.2.Day, .int .i64 y34.2.From, .int .i64 y34.2.To, .int .i64 y34.2.Cost] := (hqG44 _ _ _ _ rfl)
     refine WL_nil ?_
     intro w45 hfix
     have hS := hS.fix hfix; have hO := hO.fix hfix; obtain ⟨q46, hq46, H⟩ := bnd H; refine WC_cut (fun F w => ∃ (p47 : (List Int) × (List ((Int × Int) × Bool))) (Fb : Fr) (G : Gm) (ap47_0 : Option Addr) (np47_0 cp47_0 : Nat) (clap47_0 : List Value), q46 = .inl p47 ∧ F = upds Fb [] ∧ Gle G44 G ∧ Since B G0 w0 G w ∧ Owns G w B (⟨4, 1, 1, .slice (some ⟨b13, 0, none⟩) 1 1, [.bool s33.1]⟩ :: ⟨117, 2, (p47.2).length, .map (some rq4), kvs kvI2 vvB (p47.2)⟩ :: ⟨25, 1, 1, .slice (some ⟨bq6, 0, none⟩) 1 1, [.slice ap47_0 np47_0 cp47_0]⟩ :: ⟨3, 1, np47_0, .slice ap47_0 np47_0 cp47_0, clap47_0⟩ :: (Lq ++ Lx39)) ∧ np47_0 = p47.1.length ∧ Rd RInt 1 G clap47_0 p47.1) ?_ ?_
     ·have Hoq46 := H; have H := hq46; refine WC_block ?_; refine WC_seq ?_; refine WC_seq ?_; obtain ⟨q48, hq48, H⟩ := bnd H; refine WC_cut (fun F w => ∃ (Fb : Fr), F = upds Fb [(6, .pointer (some ⟨bq6, 0, none⟩)), (7, .pointer (some ⟨bq7, 0, none⟩)), (8, .pointer (some ⟨b10, 0, none⟩)), (9, .pointer (some ⟨b13, 0, none⟩)), (11, .int .i64 y34.1), (53, .bool q48)] ∧ w45 = w) ?_ ?_
      ·have Hoq48 := H; have H := hq48; refine WC_region ?_; refine WL_val (rn_fld fd109_1 rfl) rfl ?_; refine WL_val (rn_load na3 rfl (hS.sat.cell (hcG44 1 _ rfl))) rfl ?_; refine WL_val (rn_fld fd109_2 rfl) rfl ?_
       have l2_4 := leG38.trans leG44
       refine WL_val (rn_load na3 rfl ((hS.sat.le l2_4).cell (hcG22 2 _ rfl))) rfl ?_; refine WL_val (rn_neq rfl rfl) rfl ?_; refine WL_val (rn_move (v := (.bool (y34.2.From != y16.To))) rfl) rfl ?_
       rcases bcases (y34.2.From != y16.To) with hb49 | hb49
       ·have H := ifT hb49 H; refine WL_guardN rfl hb49 rfl rfl rfl ?_; refine WL_guardN rfl hb49 rfl rfl rfl ?_; refine WL_guardN rfl hb49 rfl rfl rfl ?_; refine WL_guardN rfl hb49 rfl rfl rfl ?_; refine WL_guardN rfl hb49 rfl rfl rfl ?_; refine WL_guardN rfl hb49 rfl rfl rfl ?_; refine WL_guardN rfl hb49 rfl rfl rfl ?_; refine WL_guardN rfl hb49 rfl rfl rfl ?_; refine WL_val (rn_pickT (v := (.bool true)) rfl hb49 rfl) rfl ?_; refine WL_nil ?_; have H := Option.some.inj H; subst H
        exact ⟨_, upds_self _ _ ⟨rfl, rfl, rfl, rfl, rfl, rfl, trivial⟩, rfl⟩
       ·have H := ifF hb49 H; refine WL_guardY rfl hb49 rfl rfl ?_; refine WL_val (rn_fld fd109_0 rfl) rfl ?_; refine WL_guardY rfl hb49 rfl rfl ?_; refine WL_val (rn_load na3 rfl (hS.sat.cell (hcG44 0 _ rfl))) rfl ?_; refine WL_guardY rfl hb49 rfl rfl ?_; refine WL_val (rn_fld fd109_0 rfl) rfl ?_; refine WL_guardY rfl hb49 rfl rfl ?_; refine WL_val (rn_load na3 rfl ((hS.sat.le l2_4).cell (hcG22 0 _ rfl))) rfl ?_; refine WL_guardY rfl hb49 rfl rfl ?_; refine WL_val (rn_fld fd46_4 rfl) rfl ?_; refine WL_guardY rfl hb49 rfl rfl ?_
        have l0_4 := l0_2.trans l2_4
        refine WL_val (rn_load na3 rfl ((hS.sat.le l0_4).cell (hcq1 4 _ rfl))) rfl ?_; refine WL_guardY rfl hb49 rfl rfl ?_; refine WL_val (rn_add rfl rfl) rfl ?_; refine WL_guardY rfl hb49 rfl rfl ?_; refine WL_val (rn_lss rfl rfl) rfl ?_; refine WL_val (rn_pickF (v := (.bool (decide (y34.2.Day < (IntKind.i64.wrap (y16.Day + x1.Wait)))))) rfl hb49 rfl) rfl ?_; refine WL_nil ?_; have H := Option.some.inj H; subst H
        exact ⟨_, upds_self _ _ ⟨rfl, rfl, rfl, rfl, rfl, rfl, trivial⟩, rfl⟩
      ·rintro F wl ⟨Fb, rfl, rfl⟩
       refine WC_cond rfl (fun hb52 => ?_) (fun hb52 => ?_)
       ·have H := ifT hb52 H; refine WC_exit rfl ?_
        have hO : Owns G44 w45 B (⟨4, 1, 1, .slice (some ⟨b13, 0, none⟩) 1 1, [.bool s33.1]⟩ :: ⟨117, 2, (s33.2.2).length, .map (some rq4), kvs kvI2 vvB (s33.2.2)⟩ :: ⟨25, 1, 1, .slice (some ⟨bq6, 0, none⟩) 1 1, [.slice as33_0 ns33_0 cs33_0]⟩ :: ⟨3, 1, ns33_0, .slice as33_0 ns33_0 cs33_0, clas33_0⟩ :: (Lq ++ Lx39)) := hO
        have H := Option.some.inj H; subst H
        exact ⟨_, _, G44, as33_0, ns33_0, cs33_0, clas33_0, rfl, rfl, Gle.refl _, hS, hO, hnhs33_0, (hs33_0.mono RInt_mono leG44)⟩
       ·have H := ifF hb52 H; refine WC_skip ?_; refine WC_seq ?_; refine WC_region ?_; refine WL_val (rn_load na25 rfl (own_cell hO (k := 2) rfl (j := 0) rfl)) rfl ?_; refine WL_val (rn_move (v := (.int .i64 y34.1)) rfl) rfl ?_
        refine WL_op rfl (OpP_newF (v := fun b => .slice (some ⟨b, 0, none⟩) 1 1) (cs := [.int .i64 y34.1]) (e := 3) (by kernel_rfl) hS.sat rfl (fun b53 G55 w54 hg hcb53 => ?_))
        have hS := hS.grow hg; have hO := hO.grow hg
        have leG55 := hg.le
        have hfb53 : RSl RInt 1 G55 (some ⟨b53, 0, none⟩) 1 1 [y34.1] := RSl.of_rd hcb53 (Rd.cons (c := [.int .i64 y34.1]) rfl rfl (Rd.nil RInt 1 _)) rfl (by decide)
        obtain ⟨y56, hy56, H⟩ := bnd H
        have l3_5 := leG44.trans leG55
        refine WL_op rfl (OpP_append (k := 3) sl25 RInt_one hS hO rfl hnhs33_0 (hs33_0.mono RInt_mono l3_5) hfb53 hy56 rfl rfl rfl rfl rfl (fun aw57 cw57 w57 clw57 hS hO hrw57 => ?_))
        have hO : Owns G55 w57 B (⟨4, 1, 1, .slice (some ⟨b13, 0, none⟩) 1 1, [.bool s33.1]⟩ :: ⟨117, 2, (s33.2.2).length, .map (some rq4), kvs kvI2 vvB (s33.2.2)⟩ :: ⟨25, 1, 1, .slice (some ⟨bq6, 0, none⟩) 1 1, [.slice as33_0 ns33_0 cs33_0]⟩ :: ⟨3, 1, y56.length, .slice aw57 y56.length cw57, clw57⟩ :: (Lq ++ Lx39)) := hO
        refine WL_op rfl (OpP_store (vs := [.slice aw57 y56.length cw57]) sz25 hS hO (k := 2) rfl rfl rfl rfl rfl (one_all rfl) (Nat.le_of_ble_eq_true rfl) (fun w58 hS hO => ?_))
        have hO : Owns G55 w58 B (⟨4, 1, 1, .slice (some ⟨b13, 0, none⟩) 1 1, [.bool s33.1]⟩ :: ⟨117, 2, (s33.2.2).length, .map (some rq4), kvs kvI2 vvB (s33.2.2)⟩ :: ⟨25, 1, 1, .slice (some ⟨bq6, 0, none⟩) 1 1, [.slice aw57 y56.length cw57]⟩ :: ⟨3, 1, y56.length, .slice aw57 y56.length cw57, clw57⟩ :: (Lq ++ Lx39)) := hO
        refine WL_nil ?_; refine WC_seq ?_; refine WC_seq ?_; refine WC_region ?_
        have l0_5 := (l0_2.trans leG38).trans l3_5
        refine WL_val (rn_load na115 rfl ((hS.sat.le l0_5).cell (hcq7 0 _ rfl))) rfl ?_; refine WL_val (rn_move (v := (.int .i64 y34.1)) rfl) rfl ?_; refine WL_val (rn_fld fd117_1 rfl) rfl ?_
        have l1_5 := (leG22.trans leG38).trans l3_5
        refine WL_val (rn_load na3 rfl ((hS.sat.le l1_5).cell (hcb10 1 _ rfl))) rfl ?_; refine WL_val (rn_sub rfl rfl) rfl ?_
        refine WL_val (v := (.agg #[.int .i64 y34.1, .int .i64 (IntKind.i64.wrap (x0.left - 1))])) (by kernel_rfl) rfl ?_
        have hO := hO.front (k := 3) rfl; have hO := hO.front (k := 3) rfl; have hO := hO.front (k := 3) rfl
        have hO : Owns G55 w58 B (⟨117, 2, (s33.2.2).length, .map (some rq4), kvs kvI2 vvB (s33.2.2)⟩ :: ⟨25, 1, 1, .slice (some ⟨bq6, 0, none⟩) 1 1, [.slice aw57 y56.length cw57]⟩ :: ⟨3, 1, y56.length, .slice aw57 y56.length cw57, clw57⟩ :: ⟨4, 1, 1, .slice (some ⟨b13, 0, none⟩) 1 1, [.bool s33.1]⟩ :: (Lq ++ Lx39)) := hO
        obtain ⟨y59, hy59, H⟩ := bnd H
        refine WL_op rfl (OpP_lent (fi := []) (al := [.agg #[.int .i64 y34.1, .int .i64 (IntKind.i64.wrap (x0.left - 1))]]) (ca := [.pointer (some ⟨bq1, 0, none⟩), .pointer (some ⟨bq2, 0, none⟩), .pointer (some ⟨bq3, 0, none⟩), .pointer (some ⟨bq4, 0, none⟩), .pointer (some ⟨bq5, 0, none⟩), .pointer (some ⟨bq6, 0, none⟩), .pointer (some ⟨bq7, 0, none⟩)]) cb76 (ih (x0 := (⟨y34.1, IntKind.i64.wrap (x0.left - 1)⟩ : TSpot)) (m4 := (s33.2.2)) (m6 := y56) hS hO (hcq1.mono l0_5) (hcq2.mono l0_5) (hcq3.mono l0_5) (hcq4.mono l0_5) (hcq5.mono l0_5) (hcq7.mono l0_5) (h1.mono RInt_mono l0_5) (h2.mono RInt_mono l0_5) (h3.mono RTBaneTrip_mono l0_5) (h5.mono RInt_mono l0_5) (h6.mono RInt_mono l0_5) (h7.mono RTBaneTrip_mono l0_5) rfl hrw57 (by rw [← hrec]; exact hy59)) rfl rfl rfl (fun vG61 G61 w60 L62 leG61 hS hO hvG61 => ?_))
        obtain ⟨aG612, nG612, cG612, clG612, rfl, rfl, hnG612, hrG612⟩ := hvG61
        have hO : Owns G61 w60 B (⟨117, 2, (y59.2.1).length, .map (some rq4), kvs kvI2 vvB (y59.2.1)⟩ :: ⟨25, 1, 1, .slice (some ⟨bq6, 0, none⟩) 1 1, [.slice aG612 nG612 cG612]⟩ :: ⟨3, 1, nG612, .slice aG612 nG612 cG612, clG612⟩ :: ⟨4, 1, 1, .slice (some ⟨b13, 0, none⟩) 1 1, [.bool s33.1]⟩ :: (Lq ++ Lx39)) := hO
        refine WL_nil ?_; refine WC_cond rfl (fun hb63 => ?_) (fun hb63 => ?_)
        ·have H := ifT hb63 H; refine WC_seq ?_; refine WC_region ?_; refine WL_op rfl (OpP_store (vs := [.bool true]) sz4 hS hO (k := 3) rfl rfl rfl rfl rfl (one_all rfl) (Nat.le_of_ble_eq_true rfl) (fun w64 hS hO => ?_))
         have hO : Owns G61 w64 B (⟨117, 2, (y59.2.1).length, .map (some rq4), kvs kvI2 vvB (y59.2.1)⟩ :: ⟨25, 1, 1, .slice (some ⟨bq6, 0, none⟩) 1 1, [.slice aG612 nG612 cG612]⟩ :: ⟨3, 1, nG612, .slice aG612 nG612 cG612, clG612⟩ :: ⟨4, 1, 1, .slice (some ⟨b13, 0, none⟩) 1 1, [.bool true]⟩ :: (Lq ++ Lx39)) := hO
         refine WL_nil ?_; refine WC_ret ?_; have hO := hO.front (k := 2) rfl; have hO := hO.front (k := 2) rfl; have hO := hO.front (k := 2) rfl; have hO := hO.front (k := 3) rfl
         have hO : Owns G61 w64 B (⟨4, 1, 1, .slice (some ⟨b13, 0, none⟩) 1 1, [.bool true]⟩ :: ⟨117, 2, (y59.2.1).length, .map (some rq4), kvs kvI2 vvB (y59.2.1)⟩ :: ⟨25, 1, 1, .slice (some ⟨bq6, 0, none⟩) 1 1, [.slice aG612 nG612 cG612]⟩ :: ⟨3, 1, nG612, .slice aG612 nG612 cG612, clG612⟩ :: (Lq ++ Lx39)) := hO
         have hO : Owns G61 w64 B (⟨4, 1, 1, .slice (some ⟨b13, 0, none⟩) 1 1, [.bool true]⟩ :: ⟨117, 2, (y59.2.1).length, .map (some rq4), kvs kvI2 vvB (y59.2.1)⟩ :: ⟨25, 1, 1, .slice (some ⟨bq6, 0, none⟩) 1 1, [.slice aG612 nG612 cG612]⟩ :: ⟨3, 1, nG612, .slice aG612 nG612 cG612, clG612⟩ :: (Lq ++ Lx39)) := hO
         have H := Option.some.inj H; subst H; have H := Hoq46; have H := Option.some.inj H; subst H
         have l3_6 := l3_5.trans leG61
         exact ⟨_, rfl, _, (⟨4, 1, 1, .slice (some ⟨b13, 0, none⟩) 1 1, [.bool true]⟩ :: ⟨117, 2, (y59.2.1).length, .map (some rq4), kvs kvI2 vvB (y59.2.1)⟩ :: ⟨25, 1, 1, .slice (some ⟨bq6, 0, none⟩) 1 1, [.slice aG612 nG612 cG612]⟩ :: ⟨3, 1, nG612, .slice aG612 nG612 cG612, clG612⟩ :: Lq), l3_6, hS, hO, ⟨_, aG612, nG612, cG612, clG612, rfl, rfl, rfl, hnG612, hrG612⟩⟩
        ·have H := ifF hb63 H; refine WC_skip ?_; refine WC_region ?_; refine WL_val (rn_load na25 rfl (own_cell hO (k := 1) rfl (j := 0) rfl)) rfl ?_; refine WL_val (rn_load na25 rfl (own_cell hO (k := 1) rfl (j := 0) rfl)) rfl ?_; refine WL_val (rn_len (m := y59.2.2.length) sl25 rfl rfl hnG612) rfl ?_; refine WL_val (rn_sub rfl rfl) rfl ?_; obtain ⟨y65, hy65, H⟩ := bnd H; obtain ⟨hl0, hl1, hl2, _⟩ := subL_some hy65
         have hln : nG612 = y59.2.2.length := hnG612
         obtain ⟨_, hnc, ay65, cy65, cly65, hsl, hOy65, hry65⟩ := hO.resl (k := 2) rfl hnG612 hrG612 hy65 rfl
         refine WL_val (v := (.slice ay65 y65.length cy65)) ((rn_sliceH sl25 rfl rfl (by omega) (by omega) hnc _).trans (congrArg (fun v => Result.ok (Next.value v) _) hsl)) rfl ?_
         have hO : Owns G61 w60 B (⟨117, 2, (y59.2.1).length, .map (some rq4), kvs kvI2 vvB (y59.2.1)⟩ :: ⟨25, 1, 1, .slice (some ⟨bq6, 0, none⟩) 1 1, [.slice aG612 nG612 cG612]⟩ :: ⟨3, 1, y65.length, .slice ay65 y65.length cy65, cly65⟩ :: ⟨4, 1, 1, .slice (some ⟨b13, 0, none⟩) 1 1, [.bool s33.1]⟩ :: (Lq ++ Lx39)) := hOy65
         refine WL_op rfl (OpP_store (vs := [.slice ay65 y65.length cy65]) sz25 hS hO (k := 1) rfl rfl rfl rfl rfl (one_all rfl) (Nat.le_of_ble_eq_true rfl) (fun w66 hS hO => ?_))
         have hO : Owns G61 w66 B (⟨117, 2, (y59.2.1).length, .map (some rq4), kvs kvI2 vvB (y59.2.1)⟩ :: ⟨25, 1, 1, .slice (some ⟨bq6, 0, none⟩) 1 1, [.slice ay65 y65.length cy65]⟩ :: ⟨3, 1, y65.length, .slice ay65 y65.length cy65, cly65⟩ :: ⟨4, 1, 1, .slice (some ⟨b13, 0, none⟩) 1 1, [.bool s33.1]⟩ :: (Lq ++ Lx39)) := hO
         refine WL_nil ?_; have hO := hO.front (k := 2) rfl; have hO := hO.front (k := 2) rfl; have hO := hO.front (k := 2) rfl; have hO := hO.front (k := 3) rfl
         have hO : Owns G61 w66 B (⟨4, 1, 1, .slice (some ⟨b13, 0, none⟩) 1 1, [.bool s33.1]⟩ :: ⟨117, 2, (y59.2.1).length, .map (some rq4), kvs kvI2 vvB (y59.2.1)⟩ :: ⟨25, 1, 1, .slice (some ⟨bq6, 0, none⟩) 1 1, [.slice ay65 y65.length cy65]⟩ :: ⟨3, 1, y65.length, .slice ay65 y65.length cy65, cly65⟩ :: (Lq ++ Lx39)) := hO
         have hO : Owns G61 w66 B (⟨4, 1, 1, .slice (some ⟨b13, 0, none⟩) 1 1, [.bool s33.1]⟩ :: ⟨117, 2, (y59.2.1).length, .map (some rq4), kvs kvI2 vvB (y59.2.1)⟩ :: ⟨25, 1, 1, .slice (some ⟨bq6, 0, none⟩) 1 1, [.slice ay65 y65.length cy65]⟩ :: ⟨3, 1, y65.length, .slice ay65 y65.length cy65, cly65⟩ :: (Lq ++ Lx39)) := hO
         have H := Option.some.inj H; subst H
         have l4_6 := leG55.trans leG61
         exact ⟨_, _, G61, ay65, y65.length, cy65, cly65, rfl, rfl, l4_6, hS, hO, rfl, hry65⟩
     ·rintro F w67 ⟨p47, Fb, G68, ap47_0, np47_0, cp47_0, clap47_0, rfl, rfl, leG68, hS, hO, hnhp47_0, hp47_0⟩
      have hO : Owns G68 w67 B (⟨4, 1, 1, .slice (some ⟨b13, 0, none⟩) 1 1, [.bool s33.1]⟩ :: ⟨117, 2, (p47.2).length, .map (some rq4), kvs kvI2 vvB (p47.2)⟩ :: ⟨25, 1, 1, .slice (some ⟨bq6, 0, none⟩) 1 1, [.slice ap47_0 np47_0 cp47_0]⟩ :: ⟨3, 1, np47_0, .slice ap47_0 np47_0 cp47_0, clap47_0⟩ :: (Lq ++ Lx39)) := hO
      have H := Option.some.inj H; subst H
      have l3_5 := leG44.trans leG68
      exact ⟨_, rfl, _, (⟨4, 1, 1, .slice (some ⟨b13, 0, none⟩) 1 1, [.bool s33.1]⟩ :: ⟨117, 2, (p47.2).length, .map (some rq4), kvs kvI2 vvB (p47.2)⟩ :: ⟨25, 1, 1, .slice (some ⟨bq6, 0, none⟩) 1 1, [.slice ap47_0 np47_0 cp47_0]⟩ :: ⟨3, 1, np47_0, .slice ap47_0 np47_0 cp47_0, clap47_0⟩ :: Lq), l3_5, hS, hO, ⟨ap47_0, np47_0, cp47_0, clap47_0, rfl, hnhp47_0, hp47_0⟩⟩
    ·rintro s33 G75 w74 L78 hres leG75 hS hO ⟨as33_0, ns33_0, cs33_0, clas33_0, rfl, hnhs33_0, hs33_0⟩
     subst hres; refine WC_seq ?_; refine WC_region ?_
     have l0_3 := l0_2.trans leG75
     refine WL_val (rn_load na114 rfl ((hS.sat.le l0_3).cell (hcq4 0 _ rfl))) rfl ?_
     have l1_3 := leG22.trans leG75
     refine WL_val (rn_loadA ag117 (cs := [.int .i64 x0.trip, .int .i64 x0.left]) rfl rfl (fun j v hj => (hS.sat.le l1_3).cell (hcb10.drop_take 0 2 j v hj))) rfl ?_; refine WL_op rfl (OpP_mapUpdate (k := 1) (vv := vvB) (v := true) (a := (x0.trip, x0.left)) mp114 (keyOk_I2 in117 fl117) hS hO rfl rfl rfl rfl rfl (fun w76 hS hO => ?_))
     have hO : Owns G75 w76 B (⟨4, 1, 1, .slice (some ⟨b13, 0, none⟩) 1 1, [.bool s33.1]⟩ :: ⟨117, 2, (updM (s33.2.2) (x0.trip, x0.left) true).length, .map (some rq4), kvs kvI2 vvB (updM (s33.2.2) (x0.trip, x0.left) true)⟩ :: ⟨25, 1, 1, .slice (some ⟨bq6, 0, none⟩) 1 1, [.slice as33_0 ns33_0 cs33_0]⟩ :: ⟨3, 1, ns33_0, .slice as33_0 ns33_0 cs33_0, clas33_0⟩ :: Lq) := hO
     refine WL_nil ?_; refine WC_seq ?_; refine WC_region ?_; refine WL_op rfl (OpP_store (vs := [.bool false]) sz4 hS hO (k := 0) rfl rfl rfl rfl rfl (one_all rfl) (Nat.le_of_ble_eq_true rfl) (fun w77 hS hO => ?_))
     have hO : Owns G75 w77 B (⟨4, 1, 1, .slice (some ⟨b13, 0, none⟩) 1 1, [.bool false]⟩ :: ⟨117, 2, (updM (s33.2.2) (x0.trip, x0.left) true).length, .map (some rq4), kvs kvI2 vvB (updM (s33.2.2) (x0.trip, x0.left) true)⟩ :: ⟨25, 1, 1, .slice (some ⟨bq6, 0, none⟩) 1 1, [.slice as33_0 ns33_0 cs33_0]⟩ :: ⟨3, 1, ns33_0, .slice as33_0 ns33_0 cs33_0, clas33_0⟩ :: Lq) := hO
     refine WL_nil ?_; refine WC_ret ?_
     have H : some (false, (updM (s33.2.2) (x0.trip, x0.left) true), s33.2.1) = some r := H
     have H := Option.some.inj H; subst H; refine ⟨[.bool false], ⟨⟨_, rfl, ld_one na4 (own_cell hO (k := 0) rfl (j := 0) rfl)⟩, trivial⟩, ?_⟩; have hO := hO.drop 0
     have hO : Owns G75 w77 B (⟨117, 2, (updM (s33.2.2) (x0.trip, x0.left) true).length, .map (some rq4), kvs kvI2 vvB (updM (s33.2.2) (x0.trip, x0.left) true)⟩ :: ⟨25, 1, 1, .slice (some ⟨bq6, 0, none⟩) 1 1, [.slice as33_0 ns33_0 cs33_0]⟩ :: ⟨3, 1, ns33_0, .slice as33_0 ns33_0 cs33_0, clas33_0⟩ :: Lq) := hO
     exact ⟨_, _, l0_3, hS, hO, as33_0, ns33_0, cs33_0, clas33_0, rfl, rfl, hnhs33_0, hs33_0⟩
    ·rintro _ _ G75z w74z _ hres _ leG75z hS hO ⟨s33, as33_0, ns33_0, cs33_0, clas33_0, rfl, rfl, rfl, hnhs33_0, hs33_0⟩
     subst hres; refine WC_ret ?_
     have H : some (s33.1, (s33.2.2), s33.2.1) = some r := H
     have H := Option.some.inj H; subst H; refine ⟨[.bool s33.1], ⟨⟨_, rfl, ld_one na4 (own_cell hO (k := 0) rfl (j := 0) rfl)⟩, trivial⟩, ?_⟩; have hO := hO.drop 0
     have hO : Owns G75z w74z B (⟨117, 2, (s33.2.2).length, .map (some rq4), kvs kvI2 vvB (s33.2.2)⟩ :: ⟨25, 1, 1, .slice (some ⟨bq6, 0, none⟩) 1 1, [.slice as33_0 ns33_0 cs33_0]⟩ :: ⟨3, 1, ns33_0, .slice as33_0 ns33_0 cs33_0, clas33_0⟩ :: Lq) := hO
     have l0_3 := l0_2.trans leG75z
     exact ⟨_, _, l0_3, hS, hO, as33_0, ns33_0, cs33_0, clas33_0, rfl, rfl, hnhs33_0, hs33_0⟩
end Go.Proofs.Ytgplafckddpnkaa
