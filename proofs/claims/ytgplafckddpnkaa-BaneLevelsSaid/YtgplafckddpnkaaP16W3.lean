/-
  The walks: each Go function computes its plain function (printed by a program of ours).
-/
import Derived.Test.YtgplafckddpnkaaRd
import Derived.Test.YtgplafckddpnkaaIt
import Derived.Test.YtgplafckddpnkaaBaseL
import Derived.Test.YtgplafckddpnkaaP16W2
namespace Go.Proofs.Ytgplafckddpnkaa
open Go.RowKit
set_option linter.unusedVariables false

set_option maxRecDepth 20000
set_option linter.unusedVariables false
set_option maxHeartbeats 1000000 in
theorem f29_ok {G0 : Gm} {w0 : World} (hS0 : Sat G0 w0) {x0 : TBaneSea} {a1 : Option Addr} {n1 c1 : Nat} {a2 : Option Addr} {n2 c2 : Nat} {a3 : Option Addr} {n3 c3 : Nat} {x1 : (List Int)} {a4 : Option Addr} {n4 c4 : Nat} {x2 : Int} (h1 : RSl RInt 1 G0 a1 n1 c1 x0.Infested) (h2 : RSl RInt 1 G0 a2 n2 c2 x0.Clean) (h3 : RSl RTBaneTrip 4 G0 a3 n3 c3 x0.Trips) (h4 : RSl RInt 1 G0 a4 n4 c4 x1) {r : (List Int) × Int} (H : f29 x0 x1 x2 = some r) :
  Calls Try.prog 29 #[.agg #[.int .i64 x0.Islets, .slice a1 n1 c1, .slice a2 n2 c2, .slice a3 n3 c3, .int .i64 x0.Wait], .slice a4 n4 c4, .int .i64 x2] w0 (RetG G0 w0 (fun G v => ∃ (ra0 : Option Addr) (rn0 rc0 : Nat), v = .tuple #[.slice ra0 rn0 rc0, .int .i64 r.2] ∧ RSl RInt 1 G ra0 rn0 rc0 r.1)) := by
 have hS := Since.start hS0
 have hO : Owns G0 w0 w0.heap.size [] := Owns.nil (Nat.le_refl _)
 unfold f29 at H
 refine enter2 (N := 71) (shutG _ _ _) Try.func29 rfl rfl rfl rfl ?_; refine WC_seq ?_; refine WC_region ?_; refine WL_op rfl (OpP_newF (v := fun b => .pointer (some ⟨b, 0, none⟩)) (cs := [.int .i64 x0.Islets, .slice a1 n1 c1, .slice a2 n2 c2, .slice a3 n3 c3, .int .i64 x0.Wait]) (e := 46) (rn_boxA rfl) hS.sat rfl (fun b5 G7 w6 hg hcb5 => ?_)); have hS := hS.grow hg; have hO := hO.grow hg
 have leG7 := hg.le
 refine WL_op rfl (OpP_newF (v := fun b => .pointer (some ⟨b, 0, none⟩)) (cs := [.int .i64 x2]) (e := 3) (rn_box1 rfl rfl) hS.sat rfl (fun b8 G10 w9 hg hcb8 => ?_)); have hS := hS.grow hg; have hO := hO.grow hg
 have leG10 := hg.le
 refine WL_val (rn_assign (v := (.slice none 0 0)) rfl) rfl ?_; refine WL_val (rn_assign (v := (.int .i64 0)) rfl) rfl ?_; refine WL_nil ?_; refine WC_scope ?_; refine WC_seq ?_; refine WC_region ?_; refine WL_val (rn_loadA ag46 (cs := [.int .i64 x0.Islets, .slice a1 n1 c1, .slice a2 n2 c2, .slice a3 n3 c3, .int .i64 x0.Wait]) rfl rfl (fun j v hj => (hS.sat.le leG10).cell (hcb5.drop_take 0 5 j v hj))) rfl ?_; refine WL_val (rn_move (v := (.slice a4 n4 c4)) rfl) rfl ?_; obtain ⟨y11, hy11, H⟩ := bnd H
 have l0_2 := leG7.trans leG10
 refine WL_op rfl (OpP_callG cb73 (f73_ok (x0 := x0) (x1 := x1) hS.sat (h1.mono RInt_mono l0_2) (h2.mono RInt_mono l0_2) (h3.mono RTBaneTrip_mono l0_2) (h4.mono RInt_mono l0_2) hy11) rfl rfl (fun vy11 G13 w12 hg hvy11 => ?_)); obtain ⟨a14, n14, c14, a15, n15, c15, a16, n16, c16, ⟨⟩, h14, h15, h16⟩ := hvy11; have hS := hS.grow hg; have hO := hO.grow hg
 have leG13 := hg.le
 refine WL_val (rn_move (v := (.tuple #[.agg #[.int .i64 y11.1.BaneSea.Islets, .slice a14 n14 c14, .slice a15 n15 c15, .slice a16 n16 c16, .int .i64 y11.1.BaneSea.Wait, .int .i64 y11.1.shut], .bool y11.2])) rfl) rfl ?_; refine WL_val (rn_extract (v := (.agg #[.int .i64 y11.1.BaneSea.Islets, .slice a14 n14 c14, .slice a15 n15 c15, .slice a16 n16 c16, .int .i64 y11.1.BaneSea.Wait, .int .i64 y11.1.shut])) rfl rfl) rfl ?_; refine WL_val (rn_extract (v := (.bool y11.2)) rfl rfl) rfl ?_
 refine WL_op rfl (OpP_newO (v := fun b => .pointer (some ⟨b, 0, none⟩)) (cs := [.int .i64 0, .slice none 0 0, .slice none 0 0, .slice none 0 0, .int .i64 0, .int .i64 0]) (e := 111) (by kernel_rfl) hS.sat hO rfl 6 1 rfl (by decide) (fun b17 w18 hb hO => ?_))
 have hS := hS.keep hb; refine WL_op rfl (OpP_store (vs := [.int .i64 y11.1.BaneSea.Islets, .slice a14 n14 c14, .slice a15 n15 c15, .slice a16 n16 c16, .int .i64 y11.1.BaneSea.Wait, .int .i64 y11.1.shut]) sz111 hS hO (k := 0) rfl rfl rfl rfl rfl (one_all rfl) (Nat.le_of_ble_eq_true rfl) (fun w20 hS hO => ?_))
 have hO : Owns G13 w20 w0.heap.size ([⟨111, 6, 1, .slice (some ⟨b17, 0, none⟩) 1 1, [.int .i64 y11.1.BaneSea.Islets, .slice a14 n14 c14, .slice a15 n15 c15, .slice a16 n16 c16, .int .i64 y11.1.BaneSea.Wait, .int .i64 y11.1.shut]⟩]) := hO
 obtain ⟨G21, leG21, hS, hO, hqG21, _⟩ := hO.freeze hS (k := 0) rfl
 have hcG21 : Cells G21 b17 0 [.int .i64 y11.1.BaneSea.Islets, .slice a14 n14 c14, .slice a15 n15 c15, .slice a16 n16 c16, .int .i64 y11.1.BaneSea.Wait, .int .i64 y11.1.shut] := (hqG21 _ _ _ _ rfl)
 refine WL_val (rn_assign (v := (.bool y11.2)) rfl) rfl ?_; refine WL_nil ?_; refine WC_seq ?_; refine WC_seq ?_; obtain ⟨q22, hq22, H⟩ := bnd H; refine WC_cut (fun F w => ∃ (Fb : Fr) (G : Gm), F = upds Fb [(3, .pointer (some ⟨b5, 0, none⟩)), (5, .pointer (some ⟨b8, 0, none⟩)), (6, .slice none 0 0), (7, .int .i64 0), (8, .pointer (some ⟨b17, 0, none⟩)), (32, .bool q22)] ∧ Gle G21 G ∧ Since w0.heap.size G0 w0 G w ∧ Owns G w w0.heap.size []) ?_ ?_
 ·have Hoq22 := H; have H := hq22; refine WC_region ?_; refine WL_val (rn_move (v := (.bool y11.2)) rfl) rfl ?_; refine WL_val (rn_not rfl) rfl ?_; refine WL_val (rn_move (v := (.bool (!y11.2))) rfl) rfl ?_
  rcases bcases (!y11.2) with hb23 | hb23
  ·have H := ifT hb23 H; refine WL_guardN rfl hb23 rfl rfl rfl ?_; refine WL_guardN rfl hb23 rfl rfl rfl ?_; refine WL_guardN rfl hb23 rfl rfl rfl ?_; refine WL_guardN rfl hb23 rfl rfl rfl ?_; refine WL_guardN rfl hb23 rfl rfl rfl ?_; refine WL_guardN rfl hb23 rfl rfl rfl ?_; refine WL_val (rn_pickT (v := (.bool true)) rfl hb23 rfl) rfl ?_; refine WL_nil ?_
   have hO : Owns G21 w20 w0.heap.size ([]) := hO
   have H := Option.some.inj H; subst H
   exact ⟨_, G21, upds_self _ _ ⟨rfl, rfl, rfl, rfl, rfl, rfl, trivial⟩, Gle.refl _, hS, hO⟩
  ·have H := ifF hb23 H; refine WL_guardY rfl hb23 rfl rfl ?_
   have l2_4 := leG13.trans leG21
   refine WL_val (rn_load na3 rfl ((hS.sat.le l2_4).cell (hcb8 0 _ rfl))) rfl ?_; refine WL_guardY rfl hb23 rfl rfl ?_; refine WL_val (rn_fld fd46_0 rfl) rfl ?_; refine WL_guardY rfl hb23 rfl rfl ?_
   have l1_4 := leG10.trans l2_4
   refine WL_val (rn_load na3 rfl ((hS.sat.le l1_4).cell (hcb5 0 _ rfl))) rfl ?_; refine WL_guardY rfl hb23 rfl rfl ?_; refine WL_val (rn_sub rfl rfl) rfl ?_; refine WL_guardY rfl hb23 rfl rfl ?_; obtain ⟨y24, hy24, H⟩ := bnd H; refine WL_op rfl (OpP_callV cb66 (f66_ok (x0 := x2) (x1 := 0) (x2 := IntKind.i64.wrap (x0.Islets - 1)) hS.sat  hy24) rfl rfl (fun w25 hb => ?_)); have hS := hS.keep hb; have hO := hO.below hb; refine WL_guardY rfl hb23 rfl rfl ?_; refine WL_val (rn_not rfl) rfl ?_; refine WL_val (rn_pickF (v := (.bool (!y24))) rfl hb23 rfl) rfl ?_; refine WL_nil ?_
   have hO : Owns G21 w25 w0.heap.size ([]) := hO
   have H := Option.some.inj H; subst H
   exact ⟨_, G21, upds_self _ _ ⟨rfl, rfl, rfl, rfl, rfl, rfl, trivial⟩, Gle.refl _, hS, hO⟩
 ·rintro F w26 ⟨Fb, G27, rfl, leG27, hS, hO⟩
  refine WC_cond rfl (fun hb28 => ?_) (fun hb28 => ?_)
  ·have H := ifT hb28 H; refine WC_seq ?_; refine WC_region ?_; refine WL_val (rn_assign (v := (.slice none 0 0)) rfl) rfl ?_; refine WL_val (rn_assign (v := (.int .i64 2)) rfl) rfl ?_; refine WL_nil ?_; refine WC_ret ?_
   have H : some ([], 2) = some r := H
   have H := Option.some.inj H; subst H
   exact ⟨_, _, rfl, hS.toGrow, _, _, _, rfl, (RSl.nil RInt 1 G27 none)⟩
  ·have H := ifF hb28 H; refine WC_skip ?_; refine WC_seq ?_; refine WC_seq ?_; refine WC_region ?_; refine WL_val (rn_fld fd46_1 rfl) rfl ?_
   have l1_5 := ((leG10.trans leG13).trans leG21).trans leG27
   refine WL_val (rn_load na25 rfl ((hS.sat.le l1_5).cell (hcb5 1 _ rfl))) rfl ?_
   have l2_5 := (leG13.trans leG21).trans leG27
   refine WL_val (rn_load na3 rfl ((hS.sat.le l2_5).cell (hcb8 0 _ rfl))) rfl ?_; obtain ⟨y29, hy29, H⟩ := bnd H
   have l0_5 := l0_2.trans l2_5
   refine WL_op rfl (OpP_callV cb74 (f74_ok (x0 := x0.Infested) (x1 := x2) hS.sat (h1.mono RInt_mono l0_5) hy29) rfl rfl (fun w30 hb => ?_)); have hS := hS.keep hb; have hO := hO.below hb; refine WL_nil ?_; refine WC_cond rfl (fun hb31 => ?_) (fun hb31 => ?_)
   ·have H := ifT hb31 H; refine WC_seq ?_; refine WC_region ?_; refine WL_val (rn_assign (v := (.slice none 0 0)) rfl) rfl ?_; refine WL_val (rn_assign (v := (.int .i64 0)) rfl) rfl ?_; refine WL_nil ?_; refine WC_ret ?_
    have H : some ([], 0) = some r := H
    have H := Option.some.inj H; subst H
    exact ⟨_, _, rfl, hS.toGrow, _, _, _, rfl, (RSl.nil RInt 1 G27 none)⟩
   ·have H := ifF hb31 H; refine WC_skip ?_; refine WC_seq ?_; have hS := hS.keep (below_drew _); have hO := hO.below (below_drew _)
    refine WC_regionD mixedO (fun _ w => Sat G27 w ∧ True) (.fl 0 (.fl 2 (.two 1 (.two 3 (.two 4 (.on 5 (.on 6 .nil)) 5 (.on 4 (.on 6 .nil))) 5 (.on 3 (.on 4 (.on 6 .nil)))) 5 (.on 1 (.on 3 (.on 4 (.on 6 .nil))))))) (by kernel_rfl) rfl (by kernel_rfl) (fun _ => ⟨hS.sat, trivial⟩) ?_
    refine WD_val rfl (fun w hw => rn_loadA ag111 (cs := [.int .i64 y11.1.BaneSea.Islets, .slice a14 n14 c14, .slice a15 n15 c15, .slice a16 n16 c16, .int .i64 y11.1.BaneSea.Wait, .int .i64 y11.1.shut]) rfl rfl (fun j v hj => (hw.1.le leG27).cell (hcG21.drop_take 0 6 j v hj))) rfl ?_; refine WD_val rfl (fun w hw => rn_load na3 rfl ((hw.1.le l2_5).cell (hcb8 0 _ rfl))) rfl ?_; refine WD_two ?_ ?_
    ·obtain ⟨y32, hy32, H⟩ := bnd H
     have l3_5 := leG21.trans leG27
     refine WD_op rfl rfl (OpP_callG cb75 (f75_ok (x0 := y11.1) hS.sat (h14.mono RInt_mono l3_5) (h15.mono RInt_mono l3_5) (h16.mono RTBaneTrip_mono l3_5) hy32) rfl rfl (fun vy32 G34 w33 hg hvy32 => ?_)); obtain ⟨a35, n35, c35, ⟨⟩, h35⟩ := hvy32; have hS := hS.grow hg; have hO := hO.grow hg
     have leG34 := hg.le
     refine ⟨fun _ _ => ⟨hS.sat.le leG34, trivial⟩, ?_⟩; refine WD_two ?_ ?_
     ·obtain ⟨y36, hy36, H⟩ := bnd H; refine WD_op rfl rfl (OpP_idx sl25 h35 hy36 rfl rfl rfl ?_)
      rintro b37 o37 _ hcb37 _ ⟨⟩
      refine ⟨fun _ h => noneed (by kernel_rfl) h, ?_⟩
      refine WD_two ?_ ?_
      ·refine WD_op rfl rfl (OpP_val (rn_load na3 rfl (hS.sat.cell (hcb37 0 _ rfl))) rfl ?_)
       refine ⟨fun _ h => noneed (by kernel_rfl) h, ?_⟩
       refine WD_op rfl rfl (OpP_newO (v := fun b => .pointer (some ⟨b, 0, none⟩)) (cs := [.int .i64 0]) (e := 3) (by kernel_rfl) hS.sat hO rfl 1 1 rfl (by decide) (fun b38 w39 hb hO => ?_))
       have hS := hS.keep hb; refine ⟨fun _ _ => ⟨hS.sat.le leG34, trivial⟩, ?_⟩; refine WD_op rfl rfl (OpP_store (vs := [.int .i64 y36]) sz3 hS hO (k := 0) rfl rfl rfl rfl rfl (one_all rfl) (Nat.le_of_ble_eq_true rfl) (fun w41 hS hO => ?_))
       have hO : Owns G34 w41 w0.heap.size ([⟨3, 1, 1, .slice (some ⟨b38, 0, none⟩) 1 1, [.int .i64 y36]⟩]) := hO
       obtain ⟨G42, leG42, hS, hO, hqG42, _⟩ := hO.freeze hS (k := 0) rfl
       have hcG42 : Cells G42 b38 0 [.int .i64 y36] := (hqG42 _ _ _ _ rfl)
       refine ⟨fun _ h => noneed (by kernel_rfl) h, ?_⟩
       refine WD_nil ?_; refine WC_seq ?_; refine WC_seq ?_; refine WC_region ?_; refine WL_val (rn_load na3 rfl (hS.sat.cell (hcG42 0 _ rfl))) rfl ?_; refine WL_val (rn_lss rfl rfl) rfl ?_; refine WL_nil ?_; refine WC_cond rfl (fun hb43 => ?_) (fun hb43 => ?_)
       ·have H := ifT hb43 H; refine WC_seq ?_; refine WC_region ?_; refine WL_val (rn_assign (v := (.slice none 0 0)) rfl) rfl ?_; refine WL_val (rn_assign (v := (.int .i64 5)) rfl) rfl ?_; refine WL_nil ?_; refine WC_ret ?_
        have H : some ([], 5) = some r := H
        have H := Option.some.inj H; subst H
        exact ⟨_, _, rfl, hS.toGrow, _, _, _, rfl, (RSl.nil RInt 1 G42 none)⟩
       ·have H := ifF hb43 H; refine WC_skip ?_; refine WC_seq ?_; refine WC_region ?_
        refine WL_op rfl (OpP_newO (v := fun b => .pointer (some ⟨b, 0, none⟩)) (cs := [.slice none 0 0]) (e := 25) (by kernel_rfl) hS.sat hO rfl 1 1 rfl (by decide) (fun b44 w45 hb hO => ?_))
        have hS := hS.keep hb; refine WL_nil ?_; refine WC_seq ?_; refine WC_region ?_; refine WL_op rfl (OpP_makeMap (e := 117) hS hO rfl (fun r47 w48 hS hO => ?_))
        have hO : Owns G42 w48 w0.heap.size ([⟨117, 2, ([] : (List ((Int × Int) × Bool))).length, .map (some r47), kvs kvI2 vvB ([] : (List ((Int × Int) × Bool)))⟩, ⟨25, 1, 1, .slice (some ⟨b44, 0, none⟩) 1 1, [.slice none 0 0]⟩]) := hO
        refine WL_op rfl (OpP_newO (v := fun b => .pointer (some ⟨b, 0, none⟩)) (cs := [.map none]) (e := 114) (by kernel_rfl) hS.sat hO rfl 1 1 rfl (by decide) (fun b50 w51 hb hO => ?_))
        have hS := hS.keep hb; refine WL_op rfl (OpP_store (vs := [.map (some r47)]) sz114 hS hO (k := 0) rfl rfl rfl rfl rfl (one_all rfl) (Nat.le_of_ble_eq_true rfl) (fun w53 hS hO => ?_))
        have hO : Owns G42 w53 w0.heap.size ([⟨114, 1, 1, .slice (some ⟨b50, 0, none⟩) 1 1, [.map (some r47)]⟩, ⟨117, 2, ([] : (List ((Int × Int) × Bool))).length, .map (some r47), kvs kvI2 vvB ([] : (List ((Int × Int) × Bool)))⟩, ⟨25, 1, 1, .slice (some ⟨b44, 0, none⟩) 1 1, [.slice none 0 0]⟩]) := hO
        obtain ⟨G54, leG54, hS, hO, hqG54, _⟩ := hO.freeze hS (k := 0) rfl
        have hcG54 : Cells G54 b50 0 [.map (some r47)] := (hqG54 _ _ _ _ rfl)
        refine WL_nil ?_; refine WC_seq ?_; refine WC_region ?_
        refine WL_op rfl (OpP_newO (v := fun b => .pointer (some ⟨b, 0, none⟩)) (cs := [.nilFunc]) (e := 115) (by kernel_rfl) hS.sat hO rfl 1 1 rfl (by decide) (fun b55 w56 hb hO => ?_))
        have hS := hS.keep hb; refine WL_nil ?_; refine WC_seq ?_; refine WC_region ?_; have hO := hO.cons_nil 3 1; refine WL_val (v := (.func (.func 76) (([] : List Value)).toArray ([.pointer (some ⟨b5, 0, none⟩), .pointer (some ⟨b8, 0, none⟩), .pointer (some ⟨b38, 0, none⟩), .pointer (some ⟨b50, 0, none⟩), .pointer (some ⟨b17, 0, none⟩), .pointer (some ⟨b44, 0, none⟩), .pointer (some ⟨b55, 0, none⟩)] : List Value).toArray)) (rn_func (vs := []) (us := [.pointer (some ⟨b5, 0, none⟩), .pointer (some ⟨b8, 0, none⟩), .pointer (some ⟨b38, 0, none⟩), .pointer (some ⟨b50, 0, none⟩), .pointer (some ⟨b17, 0, none⟩), .pointer (some ⟨b44, 0, none⟩), .pointer (some ⟨b55, 0, none⟩)]) rfl rfl) rfl ?_; refine WL_op rfl (OpP_store (vs := [.func (.func 76) (([] : List Value)).toArray ([.pointer (some ⟨b5, 0, none⟩), .pointer (some ⟨b8, 0, none⟩), .pointer (some ⟨b38, 0, none⟩), .pointer (some ⟨b50, 0, none⟩), .pointer (some ⟨b17, 0, none⟩), .pointer (some ⟨b44, 0, none⟩), .pointer (some ⟨b55, 0, none⟩)] : List Value).toArray]) sz115 hS hO (k := 1) rfl rfl rfl rfl rfl (one_all rfl) (Nat.le_of_ble_eq_true rfl) (fun w59 hS hO => ?_))
        have hO : Owns G54 w59 w0.heap.size ([⟨3, 1, 0, .slice none 0 0, []⟩, ⟨115, 1, 1, .slice (some ⟨b55, 0, none⟩) 1 1, [.func (.func 76) (([] : List Value)).toArray ([.pointer (some ⟨b5, 0, none⟩), .pointer (some ⟨b8, 0, none⟩), .pointer (some ⟨b38, 0, none⟩), .pointer (some ⟨b50, 0, none⟩), .pointer (some ⟨b17, 0, none⟩), .pointer (some ⟨b44, 0, none⟩), .pointer (some ⟨b55, 0, none⟩)] : List Value).toArray]⟩, ⟨117, 2, ([] : (List ((Int × Int) × Bool))).length, .map (some r47), kvs kvI2 vvB ([] : (List ((Int × Int) × Bool)))⟩, ⟨25, 1, 1, .slice (some ⟨b44, 0, none⟩) 1 1, [.slice none 0 0]⟩]) := hO
        obtain ⟨G60, leG60, hS, hO, hqG60, _⟩ := hO.freeze hS (k := 1) rfl
        have hcG60 : Cells G60 b55 0 [.func (.func 76) (([] : List Value)).toArray ([.pointer (some ⟨b5, 0, none⟩), .pointer (some ⟨b8, 0, none⟩), .pointer (some ⟨b38, 0, none⟩), .pointer (some ⟨b50, 0, none⟩), .pointer (some ⟨b17, 0, none⟩), .pointer (some ⟨b44, 0, none⟩), .pointer (some ⟨b55, 0, none⟩)] : List Value).toArray] := (hqG60 _ _ _ _ rfl)
        refine WL_nil ?_; refine WC_seq ?_; refine WC_label ?_; refine WC_seq ?_; refine WC_seq ?_; refine WC_region ?_; refine WL_val (rn_fld fd46_3 rfl) rfl ?_
        have l1_9 := (((l1_5.trans leG34).trans leG42).trans leG54).trans leG60
        refine WL_val (rn_load na44 rfl ((hS.sat.le l1_9).cell (hcb5 3 _ rfl))) rfl ?_
        have l0_9 := (((l0_5.trans leG34).trans leG42).trans leG54).trans leG60
        refine WL_val (rn_len sl44 rfl rfl (h3.mono RTBaneTrip_mono l0_9).1) rfl ?_; refine WL_val (rn_move (v := (.int .i64 0)) rfl) rfl ?_; refine WL_nil ?_; obtain ⟨q63, hq63, H⟩ := bnd H; refine WC_cut (fun F w => ∃ (Fb : Fr) (G : Gm) (aq63_0 : Option Addr) (nq63_0 cq63_0 : Nat) (claq63_0 : List Value), F = upds Fb [(11, .pointer (some ⟨b44, 0, none⟩))] ∧ Gle G60 G ∧ Since w0.heap.size G0 w0 G w ∧ Owns G w w0.heap.size [⟨3, 1, nq63_0, .slice aq63_0 nq63_0 cq63_0, claq63_0⟩, ⟨117, 2, (q63.2).length, .map (some r47), kvs kvI2 vvB (q63.2)⟩, ⟨25, 1, 1, .slice (some ⟨b44, 0, none⟩) 1 1, [.slice aq63_0 nq63_0 cq63_0]⟩] ∧ nq63_0 = q63.1.length ∧ Rd RInt 1 G claq63_0 q63.1) ?_ ?_
        ·refine WC_block (WC_loop hq63 (fun s61 F w => ∃ (Fb : Fr) (G : Gm) (as61_0 : Option Addr) (ns61_0 cs61_0 : Nat) (clas61_0 : List Value), F = upds Fb [(3, .pointer (some ⟨b5, 0, none⟩)), (6, .slice none 0 0), (7, .int .i64 0), (8, .pointer (some ⟨b17, 0, none⟩)), (11, .pointer (some ⟨b44, 0, none⟩)), (13, .pointer (some ⟨b55, 0, none⟩)), (48, .int .i64 (x0.Trips.length : Int)), (49, .int .i64 s61.1)] ∧ Gle G60 G ∧ Since w0.heap.size G0 w0 G w ∧ Owns G w w0.heap.size [⟨3, 1, ns61_0, .slice as61_0 ns61_0 cs61_0, clas61_0⟩, ⟨117, 2, (s61.2.2).length, .map (some r47), kvs kvI2 vvB (s61.2.2)⟩, ⟨25, 1, 1, .slice (some ⟨b44, 0, none⟩) 1 1, [.slice as61_0 ns61_0 cs61_0]⟩] ∧ ns61_0 = s61.2.1.length ∧ Rd RInt 1 G clas61_0 s61.2.1) ?_ ?_)
         ·have hO : Owns G60 w59 w0.heap.size ([⟨3, 1, 0, .slice none 0 0, []⟩, ⟨117, 2, ([] : (List ((Int × Int) × Bool))).length, .map (some r47), kvs kvI2 vvB ([] : (List ((Int × Int) × Bool)))⟩, ⟨25, 1, 1, .slice (some ⟨b44, 0, none⟩) 1 1, [.slice none 0 0]⟩]) := hO
          exact ⟨_, G60, none, 0, 0, [], upds_self _ _ ⟨rfl, rfl, rfl, rfl, rfl, rfl, rfl, rfl, trivial⟩, Gle.refl _, hS, hO, rfl, ((Rd.nil RInt 1 G54).mono RInt_mono leG60)⟩
         ·rintro s61 F w65 t64 ⟨Fb, G66, as61_0, ns61_0, cs61_0, clas61_0, rfl, leG66, hS, hO, hnhs61_0, hs61_0⟩
          intro H1 hqq63
          have Hoq63 := H; have H := H1
          unfold f29_b0 at H
          refine WC_seq ?_; refine WC_region ?_; refine WL_val (rn_lss rfl rfl) rfl ?_; refine WL_nil ?_; refine WC_seq ?_; refine WC_cond rfl (fun hb67 => ?_) (fun hb67 => ?_)
          ·have H := ifT hb67 H; refine WC_skip ?_; refine WC_seq ?_; refine WC_block ?_; refine WC_seq ?_; refine WC_region ?_; refine WL_val (rn_move (v := (.int .i64 s61.1)) rfl) rfl ?_
           refine WL_op rfl (OpP_newO (v := fun b => .pointer (some ⟨b, 0, none⟩)) (cs := [.int .i64 0]) (e := 3) (by kernel_rfl) hS.sat hO rfl 1 1 rfl (by decide) (fun b68 w69 hb hO => ?_))
           have hS := hS.keep hb; refine WL_op rfl (OpP_store (vs := [.int .i64 s61.1]) sz3 hS hO (k := 0) rfl rfl rfl rfl rfl (one_all rfl) (Nat.le_of_ble_eq_true rfl) (fun w71 hS hO => ?_))
           have hO : Owns G66 w71 w0.heap.size ([⟨3, 1, 1, .slice (some ⟨b68, 0, none⟩) 1 1, [.int .i64 s61.1]⟩, ⟨3, 1, ns61_0, .slice as61_0 ns61_0 cs61_0, clas61_0⟩, ⟨117, 2, (s61.2.2).length, .map (some r47), kvs kvI2 vvB (s61.2.2)⟩, ⟨25, 1, 1, .slice (some ⟨b44, 0, none⟩) 1 1, [.slice as61_0 ns61_0 cs61_0]⟩]) := hO
           obtain ⟨G72, leG72, hS, hO, hqG72, _⟩ := hO.freeze hS (k := 0) rfl
           have hcG72 : Cells G72 b68 0 [.int .i64 s61.1] := (hqG72 _ _ _ _ rfl)
           refine WL_nil ?_; refine WC_seq ?_; refine WC_region ?_
           have l4_11 := (((((leG27.trans leG34).trans leG42).trans leG54).trans leG60).trans leG66).trans leG72
           refine WL_val (rn_loadA ag111 (cs := [.int .i64 y11.1.BaneSea.Islets, .slice a14 n14 c14, .slice a15 n15 c15, .slice a16 n16 c16, .int .i64 y11.1.BaneSea.Wait, .int .i64 y11.1.shut]) rfl rfl (fun j v hj => (hS.sat.le l4_11).cell (hcG21.drop_take 0 6 j v hj))) rfl ?_
           have l3_11 := (((((l3_5.trans leG34).trans leG42).trans leG54).trans leG60).trans leG66).trans leG72
           have hI73 := f77_it (x0 := y11.1) (a1 := a14) (n1 := n14) (c1 := c14) (a2 := a15) (n2 := n15) (c2 := c15) (a3 := a16) (n3 := n16) (c3 := c16) (h16.mono RTBaneTrip_mono l3_11)
           refine WL_val (rn_func (vs := [.agg #[.int .i64 y11.1.BaneSea.Islets, .slice a14 n14 c14, .slice a15 n15 c15, .slice a16 n16 c16, .int .i64 y11.1.BaneSea.Wait, .int .i64 y11.1.shut]]) (us := []) rfl rfl) rfl ?_; refine WL_nil ?_; refine WC_block ?_
           have hO : Owns G72 w71 w0.heap.size ([⟨3, 1, ns61_0, .slice as61_0 ns61_0 cs61_0, clas61_0⟩, ⟨117, 2, (s61.2.2).length, .map (some r47), kvs kvI2 vvB (s61.2.2)⟩, ⟨25, 1, 1, .slice (some ⟨b44, 0, none⟩) 1 1, [.slice as61_0 ns61_0 cs61_0]⟩]) := hO
           obtain ⟨q76, hq76, H⟩ := bnd H; refine WC_range (xs := openL y11.1.shut 0 y11.1.BaneSea.Trips) (enc := encT) (bd := f29_b1 s61 x0 x2 y11 y36) (fi := [.agg #[.int .i64 y11.1.BaneSea.Islets, .slice a14 n14 c14, .slice a15 n15 c15, .slice a16 n16 c16, .int .i64 y11.1.BaneSea.Wait, .int .i64 y11.1.shut]]) (ca := []) cb77 hI73 rfl (fun _ => rfl) rfl hq76 (fun (s74 : (List Int) × (List ((Int × Int) × Bool))) (G : Gm) (L : List Row) => ∃ (as74_0 : Option Addr) (ns74_0 cs74_0 : Nat) (clas74_0 : List Value), L = [⟨3, 1, ns74_0, .slice as74_0 ns74_0 cs74_0, clas74_0⟩, ⟨117, 2, (s74.2).length, .map (some r47), kvs kvI2 vvB (s74.2)⟩, ⟨25, 1, 1, .slice (some ⟨b44, 0, none⟩) 1 1, [.slice as74_0 ns74_0 cs74_0]⟩] ∧ ns74_0 = s74.1.length ∧ Rd RInt 1 G clas74_0 s74.1) (fun (p104 : (List Int) × (List ((Int × Int) × Bool))) (c105 : Code) (G : Gm) (L : List Row) => (∃ (s74 : (List Int) × (List ((Int × Int) × Bool))), ∃ (as74_0 : Option Addr) (ns74_0 cs74_0 : Nat) (clas74_0 : List Value), s74 = p104 ∧ c105 = (.exit 0) ∧ L = [⟨3, 1, ns74_0, .slice as74_0 ns74_0 cs74_0, clas74_0⟩, ⟨117, 2, (s74.2).length, .map (some r47), kvs kvI2 vvB (s74.2)⟩, ⟨25, 1, 1, .slice (some ⟨b44, 0, none⟩) 1 1, [.slice as74_0 ns74_0 cs74_0]⟩] ∧ ns74_0 = s74.1.length ∧ Rd RInt 1 G clas74_0 s74.1)) ?_ hS hO ⟨as61_0, ns61_0, cs61_0, clas61_0, rfl, hnhs61_0, (hs61_0.mono RInt_mono leG72)⟩ [0] ?_ ?_ ?_
           ·rintro s74 G1 G2 L hle ⟨as74_0, ns74_0, cs74_0, clas74_0, rfl, hnhs74_0, hs74_0⟩
            exact ⟨as74_0, ns74_0, cs74_0, clas74_0, rfl, hnhs74_0, hs74_0.mono RInt_mono hle⟩
           ·rintro l106 y75 s74 t77 G79 w78 L107 Lx80 leG79 hS hO ⟨as74_0, ns74_0, cs74_0, clas74_0, rfl, hnhs74_0, hs74_0⟩ H1 hqq76
            have hO : Owns G79 w78 w0.heap.size (⟨3, 1, ns74_0, .slice as74_0 ns74_0 cs74_0, clas74_0⟩ :: ⟨117, 2, (s74.2).length, .map (some r47), kvs kvI2 vvB (s74.2)⟩ :: ⟨25, 1, 1, .slice (some ⟨b44, 0, none⟩) 1 1, [.slice as74_0 ns74_0 cs74_0]⟩ :: Lx80) := hO
            have Hoq76 := H; have H := H1
            unfold f29_b1 at H
            refine WC_seq ?_; refine WC_region ?_; refine WL_val (rn_assign (v := (.int .i64 y75.1)) rfl) rfl ?_; refine WL_nil ?_; refine WC_region ?_
            refine WL_op rfl (OpP_newO (v := fun b => .pointer (some ⟨b, 0, none⟩)) (cs := [.int .i64 0, .int .i64 0, .int .i64 0, .int .i64 0]) (e := 109) (by kernel_rfl) hS.sat hO rfl 4 1 rfl (by decide) (fun b81 w82 hb hO => ?_))
            have hS := hS.keep hb; refine WL_op rfl (OpP_store (vs := [.int .i64 y75.2.Day, .int .i64 y75.2.From, .int .i64 y75.2.To, .int .i64 y75.2.Cost]) sz109 hS hO (k := 0) rfl rfl rfl rfl rfl (one_all rfl) (Nat.le_of_ble_eq_true rfl) (fun w84 hS hO => ?_))
            have hO : Owns G79 w84 w0.heap.size (⟨109, 4, 1, .slice (some ⟨b81, 0, none⟩) 1 1, [.int .i64 y75.2.Day, .int .i64 y75.2.From, .int .i64 y75.2.To, .int .i64 y75.2.Cost]⟩ :: ⟨3, 1, ns74_0, .slice as74_0 ns74_0 cs74_0, clas74_0⟩ :: ⟨117, 2, (s74.2).length, .map (some r47), kvs kvI2 vvB (s74.2)⟩ :: ⟨25, 1, 1, .slice (some ⟨b44, 0, none⟩) 1 1, [.slice as74_0 ns74_0 cs74_0]⟩ :: Lx80) := hO
            obtain ⟨G85, leG85, hS, hO, hqG85, _⟩ := hO.freeze hS (k := 0) rfl
            have hcG85 : Cells G85 b81 0 [.int .i64 y75.2.Day, .int .i64 y75.2.From, .int .i64 y75.2.To, .int .i64 y75.2.Cost] := (hqG85 _ _ _ _ rfl)
            refine WL_nil ?_
            intro w86 hfix
            have hS := hS.fix hfix; have hO := hO.fix hfix; obtain ⟨q87, hq87, H⟩ := bnd H; refine WC_cut (fun F w => ∃ (p88 : (List Int) × (List ((Int × Int) × Bool))) (Fb : Fr) (G : Gm) (ap88_0 : Option Addr) (np88_0 cp88_0 : Nat) (clap88_0 : List Value), q87 = .inl p88 ∧ F = upds Fb [] ∧ Gle G85 G ∧ Since w0.heap.size G0 w0 G w ∧ Owns G w w0.heap.size (⟨3, 1, np88_0, .slice ap88_0 np88_0 cp88_0, clap88_0⟩ :: ⟨117, 2, (p88.2).length, .map (some r47), kvs kvI2 vvB (p88.2)⟩ :: ⟨25, 1, 1, .slice (some ⟨b44, 0, none⟩) 1 1, [.slice ap88_0 np88_0 cp88_0]⟩ :: Lx80) ∧ np88_0 = p88.1.length ∧ Rd RInt 1 G clap88_0 p88.1) ?_ ?_
            ·have Hoq87 := H; have H := hq87; refine WC_block ?_; refine WC_seq ?_; refine WC_seq ?_; refine WC_region ?_; refine WL_val (rn_fld fd46_1 rfl) rfl ?_
             have l1_13 := (((l1_9.trans leG66).trans leG72).trans leG79).trans leG85
             refine WL_val (rn_load na25 rfl ((hS.sat.le l1_13).cell (hcb5 1 _ rfl))) rfl ?_; refine WL_val (rn_fld fd109_1 rfl) rfl ?_; refine WL_val (rn_load na3 rfl (hS.sat.cell (hcG85 1 _ rfl))) rfl ?_; obtain ⟨y89, hy89, H⟩ := bnd H
             have l0_13 := (((l0_9.trans leG66).trans leG72).trans leG79).trans leG85
             refine WL_op rfl (OpP_callV cb74 (f74_ok (x0 := x0.Infested) (x1 := y75.2.From) hS.sat (h1.mono RInt_mono l0_13) hy89) rfl rfl (fun w90 hb => ?_)); have hS := hS.keep hb; have hO := hO.below hb; refine WL_val (rn_not rfl) rfl ?_; refine WL_nil ?_; refine WC_cond rfl (fun hb91 => ?_) (fun hb91 => ?_)
             ·have H := ifT hb91 H; refine WC_exit rfl ?_
              have hO : Owns G85 w90 w0.heap.size (⟨3, 1, ns74_0, .slice as74_0 ns74_0 cs74_0, clas74_0⟩ :: ⟨117, 2, (s74.2).length, .map (some r47), kvs kvI2 vvB (s74.2)⟩ :: ⟨25, 1, 1, .slice (some ⟨b44, 0, none⟩) 1 1, [.slice as74_0 ns74_0 cs74_0]⟩ :: Lx80) := hO
              have H := Option.some.inj H; subst H
              exact ⟨_, _, G85, as74_0, ns74_0, cs74_0, clas74_0, rfl, rfl, Gle.refl _, hS, hO, hnhs74_0, (hs74_0.mono RInt_mono leG85)⟩
             ·have H := ifF hb91 H; refine WC_skip ?_; refine WC_seq ?_; refine WC_region ?_; refine WL_val (rn_move (v := (.int .i64 y75.1)) rfl) rfl ?_
              refine WL_op rfl (OpP_newO (v := fun b => .slice (some ⟨b, 0, none⟩) 1 1) (cs := [.int .i64 y75.1]) (e := 3) (by kernel_rfl) hS.sat hO rfl 1 1 rfl (by decide) (fun b92 w93 hb hO => ?_))
              have hS := hS.keep hb
              have hrb92 : Rd RInt 1 G85 [.int .i64 y75.1] [y75.1] := (Rd.cons (c := [.int .i64 y75.1]) rfl rfl (Rd.nil RInt 1 _))
              refine WL_op rfl (OpP_store (vs := [.slice (some ⟨b92, 0, none⟩) 1 1]) sz25 hS hO (k := 3) rfl rfl rfl rfl rfl (one_all rfl) (Nat.le_of_ble_eq_true rfl) (fun w95 hS hO => ?_))
              have hO : Owns G85 w95 w0.heap.size (⟨3, 1, 1, .slice (some ⟨b92, 0, none⟩) 1 1, [.int .i64 y75.1]⟩ :: ⟨3, 1, ns74_0, .slice as74_0 ns74_0 cs74_0, clas74_0⟩ :: ⟨117, 2, (s74.2).length, .map (some r47), kvs kvI2 vvB (s74.2)⟩ :: ⟨25, 1, 1, .slice (some ⟨b44, 0, none⟩) 1 1, [.slice (some ⟨b92, 0, none⟩) 1 1]⟩ :: Lx80) := hO
              refine WL_nil ?_; refine WC_seq ?_; refine WC_region ?_
              have l9_13 := ((leG66.trans leG72).trans leG79).trans leG85
              refine WL_val (rn_load na115 rfl ((hS.sat.le l9_13).cell (hcG60 0 _ rfl))) rfl ?_; refine WL_val (rn_move (v := (.int .i64 y75.1)) rfl) rfl ?_
              have l11_13 := leG79.trans leG85
              refine WL_val (rn_load na3 rfl ((hS.sat.le l11_13).cell (hcG72 0 _ rfl))) rfl ?_
              refine WL_val (v := (.agg #[.int .i64 y75.1, .int .i64 s61.1])) (by kernel_rfl) rfl ?_
              have hO := hO.front (k := 0) rfl; have hO := hO.front (k := 3) rfl; have hO := hO.front (k := 3) rfl
              have hO : Owns G85 w95 w0.heap.size (⟨117, 2, (s74.2).length, .map (some r47), kvs kvI2 vvB (s74.2)⟩ :: ⟨25, 1, 1, .slice (some ⟨b44, 0, none⟩) 1 1, [.slice (some ⟨b92, 0, none⟩) 1 1]⟩ :: ⟨3, 1, 1, .slice (some ⟨b92, 0, none⟩) 1 1, [.int .i64 y75.1]⟩ :: ⟨3, 1, ns74_0, .slice as74_0 ns74_0 cs74_0, clas74_0⟩ :: Lx80) := hO
              have l2_13 := ((((l2_5.trans leG34).trans leG42).trans leG54).trans leG60).trans l9_13
              have l7_13 := (leG54.trans leG60).trans l9_13
              have l8_13 := leG60.trans l9_13
              have l4_13 := l4_11.trans l11_13
              have l3_13 := l3_11.trans l11_13
              obtain ⟨y96, hy96, H⟩ := bnd H; refine WL_op rfl (OpP_lent (fi := []) (al := [.agg #[.int .i64 y75.1, .int .i64 s61.1]]) (ca := [.pointer (some ⟨b5, 0, none⟩), .pointer (some ⟨b8, 0, none⟩), .pointer (some ⟨b38, 0, none⟩), .pointer (some ⟨b50, 0, none⟩), .pointer (some ⟨b17, 0, none⟩), .pointer (some ⟨b44, 0, none⟩), .pointer (some ⟨b55, 0, none⟩)]) cb76 (f76_ok _ (x0 := (⟨y75.1, s61.1⟩ : TSpot)) (m4 := (s74.2)) (m6 := [y75.1]) hS hO (hcb5.mono l1_13) (hcb8.mono l2_13) (hcG42.mono l7_13) (hcG54.mono l8_13) (hcG21.mono l4_13) (hcG60.mono l9_13) (h1.mono RInt_mono l0_13) (h2.mono RInt_mono l0_13) (h3.mono RTBaneTrip_mono l0_13) (h14.mono RInt_mono l3_13) (h15.mono RInt_mono l3_13) (h16.mono RTBaneTrip_mono l3_13) rfl hrb92 hy96) rfl rfl rfl (fun vG98 G98 w97 L99 leG98 hS hO hvG98 => ?_)); obtain ⟨aG982, nG982, cG982, clG982, rfl, rfl, hnG982, hrG982⟩ := hvG98
              have hO : Owns G98 w97 w0.heap.size (⟨117, 2, (y96.2.1).length, .map (some r47), kvs kvI2 vvB (y96.2.1)⟩ :: ⟨25, 1, 1, .slice (some ⟨b44, 0, none⟩) 1 1, [.slice aG982 nG982 cG982]⟩ :: ⟨3, 1, nG982, .slice aG982 nG982 cG982, clG982⟩ :: ⟨3, 1, ns74_0, .slice as74_0 ns74_0 cs74_0, clas74_0⟩ :: Lx80) := hO
              refine WL_nil ?_; refine WC_cond rfl (fun hb100 => ?_) (fun hb100 => ?_)
              ·have H := ifT hb100 H; refine WC_exit rfl ?_; have hO := hO.drop 3; have hO := hO.front (k := 1) rfl; have hO := hO.front (k := 1) rfl; have hO := hO.front (k := 2) rfl
               have hO : Owns G98 w97 w0.heap.size (⟨3, 1, nG982, .slice aG982 nG982 cG982, clG982⟩ :: ⟨117, 2, (y96.2.1).length, .map (some r47), kvs kvI2 vvB (y96.2.1)⟩ :: ⟨25, 1, 1, .slice (some ⟨b44, 0, none⟩) 1 1, [.slice aG982 nG982 cG982]⟩ :: Lx80) := hO
               have hO : Owns G98 w97 w0.heap.size (⟨3, 1, nG982, .slice aG982 nG982 cG982, clG982⟩ :: ⟨117, 2, (y96.2.1).length, .map (some r47), kvs kvI2 vvB (y96.2.1)⟩ :: ⟨25, 1, 1, .slice (some ⟨b44, 0, none⟩) 1 1, [.slice aG982 nG982 cG982]⟩ :: Lx80) := hO
               have H := Option.some.inj H; subst H; have H := Hoq87; have H := Option.some.inj H; subst H
               have l12_14 := leG85.trans leG98
               exact ⟨_, rfl, _, [⟨3, 1, nG982, .slice aG982 nG982 cG982, clG982⟩, ⟨117, 2, (y96.2.1).length, .map (some r47), kvs kvI2 vvB (y96.2.1)⟩, ⟨25, 1, 1, .slice (some ⟨b44, 0, none⟩) 1 1, [.slice aG982 nG982 cG982]⟩], l12_14, hS, hO, ⟨_, aG982, nG982, cG982, clG982, rfl, rfl, rfl, hnG982, hrG982⟩⟩
              ·have H := ifF hb100 H; refine WC_skip ?_; have hO := hO.drop 3; have hO := hO.front (k := 1) rfl; have hO := hO.front (k := 1) rfl; have hO := hO.front (k := 2) rfl
               have hO : Owns G98 w97 w0.heap.size (⟨3, 1, nG982, .slice aG982 nG982 cG982, clG982⟩ :: ⟨117, 2, (y96.2.1).length, .map (some r47), kvs kvI2 vvB (y96.2.1)⟩ :: ⟨25, 1, 1, .slice (some ⟨b44, 0, none⟩) 1 1, [.slice aG982 nG982 cG982]⟩ :: Lx80) := hO
               have hO : Owns G98 w97 w0.heap.size (⟨3, 1, nG982, .slice aG982 nG982 cG982, clG982⟩ :: ⟨117, 2, (y96.2.1).length, .map (some r47), kvs kvI2 vvB (y96.2.1)⟩ :: ⟨25, 1, 1, .slice (some ⟨b44, 0, none⟩) 1 1, [.slice aG982 nG982 cG982]⟩ :: Lx80) := hO
               have H := Option.some.inj H; subst H
               exact ⟨_, _, G98, aG982, nG982, cG982, clG982, rfl, rfl, leG98, hS, hO, hnG982, hrG982⟩
            ·rintro F w101 ⟨p88, Fb, G102, ap88_0, np88_0, cp88_0, clap88_0, rfl, rfl, leG102, hS, hO, hnhp88_0, hp88_0⟩
             have hO : Owns G102 w101 w0.heap.size (⟨3, 1, np88_0, .slice ap88_0 np88_0 cp88_0, clap88_0⟩ :: ⟨117, 2, (p88.2).length, .map (some r47), kvs kvI2 vvB (p88.2)⟩ :: ⟨25, 1, 1, .slice (some ⟨b44, 0, none⟩) 1 1, [.slice ap88_0 np88_0 cp88_0]⟩ :: Lx80) := hO
             have H := Option.some.inj H; subst H
             have l12_14 := leG85.trans leG102
             exact ⟨_, rfl, _, [⟨3, 1, np88_0, .slice ap88_0 np88_0 cp88_0, clap88_0⟩, ⟨117, 2, (p88.2).length, .map (some r47), kvs kvI2 vvB (p88.2)⟩, ⟨25, 1, 1, .slice (some ⟨b44, 0, none⟩) 1 1, [.slice ap88_0 np88_0 cp88_0]⟩], l12_14, hS, hO, ⟨ap88_0, np88_0, cp88_0, clap88_0, rfl, hnhp88_0, hp88_0⟩⟩
           ·rintro s74 G109 w108 L110 hres leG109 hS hO ⟨as74_0, ns74_0, cs74_0, clas74_0, rfl, hnhs74_0, hs74_0⟩
            subst hres; refine WC_region ?_; refine WL_val (rn_add rfl rfl) rfl ?_; refine WL_val (rn_move (v := (.int .i64 (IntKind.i64.wrap (s61.1 + 1)))) rfl) rfl ?_; refine WL_nil ?_
            have hO : Owns G109 w108 w0.heap.size ([⟨3, 1, ns74_0, .slice as74_0 ns74_0 cs74_0, clas74_0⟩, ⟨117, 2, (s74.2).length, .map (some r47), kvs kvI2 vvB (s74.2)⟩, ⟨25, 1, 1, .slice (some ⟨b44, 0, none⟩) 1 1, [.slice as74_0 ns74_0 cs74_0]⟩]) := hO
            have H := Option.some.inj H; subst H; refine ⟨_, rfl, ?_⟩
            have l9_12 := (leG66.trans leG72).trans leG109
            exact ⟨_, G109, as74_0, ns74_0, cs74_0, clas74_0, upds_self _ _ ⟨rfl, rfl, rfl, rfl, rfl, rfl, rfl, rfl, trivial⟩, l9_12, hS, hO, hnhs74_0, hs74_0⟩
           ·rintro _ _ G109z w108z _ hres _ leG109z hS hO ⟨s74, as74_0, ns74_0, cs74_0, clas74_0, rfl, rfl, rfl, hnhs74_0, hs74_0⟩
            subst hres; refine WC_exit rfl ?_
            have hO : Owns G109z w108z w0.heap.size ([⟨3, 1, ns74_0, .slice as74_0 ns74_0 cs74_0, clas74_0⟩, ⟨117, 2, (s74.2).length, .map (some r47), kvs kvI2 vvB (s74.2)⟩, ⟨25, 1, 1, .slice (some ⟨b44, 0, none⟩) 1 1, [.slice as74_0 ns74_0 cs74_0]⟩]) := hO
            have H := Option.some.inj H; subst H
            have hres := hqq63 _ rfl
            subst hres
            have l9_12 := (leG66.trans leG72).trans leG109z
            exact ⟨_, G109z, as74_0, ns74_0, cs74_0, clas74_0, upds_self _ _ ⟨rfl, trivial⟩, l9_12, hS, hO, hnhs74_0, hs74_0⟩
          ·have H := ifF hb67 H; refine WC_exit rfl ?_
           have hO : Owns G66 w65 w0.heap.size ([⟨3, 1, ns61_0, .slice as61_0 ns61_0 cs61_0, clas61_0⟩, ⟨117, 2, (s61.2.2).length, .map (some r47), kvs kvI2 vvB (s61.2.2)⟩, ⟨25, 1, 1, .slice (some ⟨b44, 0, none⟩) 1 1, [.slice as61_0 ns61_0 cs61_0]⟩]) := hO
           have H := Option.some.inj H; subst H
           have hres := hqq63 _ rfl
           subst hres
           exact ⟨_, G66, as61_0, ns61_0, cs61_0, clas61_0, upds_self _ _ ⟨rfl, trivial⟩, leG66, hS, hO, hnhs61_0, hs61_0⟩
        ·rintro F w111 ⟨Fb, G112, aq63_0, nq63_0, cq63_0, claq63_0, rfl, leG112, hS, hO, hnhq63_0, hq63_0⟩
         refine WC_seq ?_; refine WC_region ?_; refine WL_val (rn_load na25 rfl (own_cell hO (k := 2) rfl (j := 0) rfl)) rfl ?_; refine WL_val (rn_assign (v := (.slice aq63_0 nq63_0 cq63_0)) rfl) rfl ?_; refine WL_val (rn_assign (v := (.int .i64 0)) rfl) rfl ?_; refine WL_nil ?_; refine WC_ret ?_; obtain ⟨G113, leG113, hS, hO, hfG113⟩ := hO.freezeS hS RInt_mono (k := 0) rfl hq63_0 hnhq63_0
         have H : some (q63.1, 0) = some r := H
         have H := Option.some.inj H; subst H
         exact ⟨_, _, rfl, hS.toGrow, _, _, _, rfl, hfG113⟩
      ·refine WD_op rfl rfl (OpP_newO (v := fun b => .pointer (some ⟨b, 0, none⟩)) (cs := [.int .i64 0]) (e := 3) (by kernel_rfl) hS.sat hO rfl 1 1 rfl (by decide) (fun b38 w39 hb hO => ?_))
       have hS := hS.keep hb; refine ⟨fun _ _ => ⟨hS.sat.le leG34, trivial⟩, ?_⟩; refine WD_op rfl rfl (OpP_val (rn_load na3 rfl (hS.sat.cell (hcb37 0 _ rfl))) rfl ?_)
       refine ⟨fun _ h => noneed (by kernel_rfl) h, ?_⟩
       refine WD_op rfl rfl (OpP_store (vs := [.int .i64 y36]) sz3 hS hO (k := 0) rfl rfl rfl rfl rfl (one_all rfl) (Nat.le_of_ble_eq_true rfl) (fun w41 hS hO => ?_))
       have hO : Owns G34 w41 w0.heap.size ([⟨3, 1, 1, .slice (some ⟨b38, 0, none⟩) 1 1, [.int .i64 y36]⟩]) := hO
       obtain ⟨G42, leG42, hS, hO, hqG42, _⟩ := hO.freeze hS (k := 0) rfl
       have hcG42 : Cells G42 b38 0 [.int .i64 y36] := (hqG42 _ _ _ _ rfl)
       refine ⟨fun _ h => noneed (by kernel_rfl) h, ?_⟩
       refine WD_nil ?_; refine WC_seq ?_; refine WC_seq ?_; refine WC_region ?_; refine WL_val (rn_load na3 rfl (hS.sat.cell (hcG42 0 _ rfl))) rfl ?_; refine WL_val (rn_lss rfl rfl) rfl ?_; refine WL_nil ?_; refine WC_cond rfl (fun hb43 => ?_) (fun hb43 => ?_)
       ·have H := ifT hb43 H; refine WC_seq ?_; refine WC_region ?_; refine WL_val (rn_assign (v := (.slice none 0 0)) rfl) rfl ?_; refine WL_val (rn_assign (v := (.int .i64 5)) rfl) rfl ?_; refine WL_nil ?_; refine WC_ret ?_
        have H : some ([], 5) = some r := H
        have H := Option.some.inj H; subst H
        exact ⟨_, _, rfl, hS.toGrow, _, _, _, rfl, (RSl.nil RInt 1 G42 none)⟩
       ·have H := ifF hb43 H; refine WC_skip ?_; refine WC_seq ?_; refine WC_region ?_
        refine WL_op rfl (OpP_newO (v := fun b => .pointer (some ⟨b, 0, none⟩)) (cs := [.slice none 0 0]) (e := 25) (by kernel_rfl) hS.sat hO rfl 1 1 rfl (by decide) (fun b44 w45 hb hO => ?_))
        have hS := hS.keep hb; refine WL_nil ?_; refine WC_seq ?_; refine WC_region ?_; refine WL_op rfl (OpP_makeMap (e := 117) hS hO rfl (fun r47 w48 hS hO => ?_))
        have hO : Owns G42 w48 w0.heap.size ([⟨117, 2, ([] : (List ((Int × Int) × Bool))).length, .map (some r47), kvs kvI2 vvB ([] : (List ((Int × Int) × Bool)))⟩, ⟨25, 1, 1, .slice (some ⟨b44, 0, none⟩) 1 1, [.slice none 0 0]⟩]) := hO
        refine WL_op rfl (OpP_newO (v := fun b => .pointer (some ⟨b, 0, none⟩)) (cs := [.map none]) (e := 114) (by kernel_rfl) hS.sat hO rfl 1 1 rfl (by decide) (fun b50 w51 hb hO => ?_))
        have hS := hS.keep hb; refine WL_op rfl (OpP_store (vs := [.map (some r47)]) sz114 hS hO (k := 0) rfl rfl rfl rfl rfl (one_all rfl) (Nat.le_of_ble_eq_true rfl) (fun w53 hS hO => ?_))
        have hO : Owns G42 w53 w0.heap.size ([⟨114, 1, 1, .slice (some ⟨b50, 0, none⟩) 1 1, [.map (some r47)]⟩, ⟨117, 2, ([] : (List ((Int × Int) × Bool))).length, .map (some r47), kvs kvI2 vvB ([] : (List ((Int × Int) × Bool)))⟩, ⟨25, 1, 1, .slice (some ⟨b44, 0, none⟩) 1 1, [.slice none 0 0]⟩]) := hO
        obtain ⟨G54, leG54, hS, hO, hqG54, _⟩ := hO.freeze hS (k := 0) rfl
        have hcG54 : Cells G54 b50 0 [.map (some r47)] := (hqG54 _ _ _ _ rfl)
        refine WL_nil ?_; refine WC_seq ?_; refine WC_region ?_
        refine WL_op rfl (OpP_newO (v := fun b => .pointer (some ⟨b, 0, none⟩)) (cs := [.nilFunc]) (e := 115) (by kernel_rfl) hS.sat hO rfl 1 1 rfl (by decide) (fun b55 w56 hb hO => ?_))
        have hS := hS.keep hb; refine WL_nil ?_; refine WC_seq ?_; refine WC_region ?_; have hO := hO.cons_nil 3 1; refine WL_val (v := (.func (.func 76) (([] : List Value)).toArray ([.pointer (some ⟨b5, 0, none⟩), .pointer (some ⟨b8, 0, none⟩), .pointer (some ⟨b38, 0, none⟩), .pointer (some ⟨b50, 0, none⟩), .pointer (some ⟨b17, 0, none⟩), .pointer (some ⟨b44, 0, none⟩), .pointer (some ⟨b55, 0, none⟩)] : List Value).toArray)) (rn_func (vs := []) (us := [.pointer (some ⟨b5, 0, none⟩), .pointer (some ⟨b8, 0, none⟩), .pointer (some ⟨b38, 0, none⟩), .pointer (some ⟨b50, 0, none⟩), .pointer (some ⟨b17, 0, none⟩), .pointer (some ⟨b44, 0, none⟩), .pointer (some ⟨b55, 0, none⟩)]) rfl rfl) rfl ?_; refine WL_op rfl (OpP_store (vs := [.func (.func 76) (([] : List Value)).toArray ([.pointer (some ⟨b5, 0, none⟩), .pointer (some ⟨b8, 0, none⟩), .pointer (some ⟨b38, 0, none⟩), .pointer (some ⟨b50, 0, none⟩), .pointer (some ⟨b17, 0, none⟩), .pointer (some ⟨b44, 0, none⟩), .pointer (some ⟨b55, 0, none⟩)] : List Value).toArray]) sz115 hS hO (k := 1) rfl rfl rfl rfl rfl (one_all rfl) (Nat.le_of_ble_eq_true rfl) (fun w59 hS hO => ?_))
        have hO : Owns G54 w59 w0.heap.size ([⟨3, 1, 0, .slice none 0 0, []⟩, ⟨115, 1, 1, .slice (some ⟨b55, 0, none⟩) 1 1, [.func (.func 76) (([] : List Value)).toArray ([.pointer (some ⟨b5, 0, none⟩), .pointer (some ⟨b8, 0, none⟩), .pointer (some ⟨b38, 0, none⟩), .pointer (some ⟨b50, 0, none⟩), .pointer (some ⟨b17, 0, none⟩), .pointer (some ⟨b44, 0, none⟩), .pointer (some ⟨b55, 0, none⟩)] : List Value).toArray]⟩, ⟨117, 2, ([] : (List ((Int × Int) × Bool))).length, .map (some r47), kvs kvI2 vvB ([] : (List ((Int × Int) × Bool)))⟩, ⟨25, 1, 1, .slice (some ⟨b44, 0, none⟩) 1 1, [.slice none 0 0]⟩]) := hO
        obtain ⟨G60, leG60, hS, hO, hqG60, _⟩ := hO.freeze hS (k := 1) rfl
        have hcG60 : Cells G60 b55 0 [.func (.func 76) (([] : List Value)).toArray ([.pointer (some ⟨b5, 0, none⟩), .pointer (some ⟨b8, 0, none⟩), .pointer (some ⟨b38, 0, none⟩), .pointer (some ⟨b50, 0, none⟩), .pointer (some ⟨b17, 0, none⟩), .pointer (some ⟨b44, 0, none⟩), .pointer (some ⟨b55, 0, none⟩)] : List Value).toArray] := (hqG60 _ _ _ _ rfl)
        refine WL_nil ?_; refine WC_seq ?_; refine WC_label ?_; refine WC_seq ?_; refine WC_seq ?_; refine WC_region ?_; refine WL_val (rn_fld fd46_3 rfl) rfl ?_
        have l1_9 := (((l1_5.trans leG34).trans leG42).trans leG54).trans leG60
        refine WL_val (rn_load na44 rfl ((hS.sat.le l1_9).cell (hcb5 3 _ rfl))) rfl ?_
        have l0_9 := (((l0_5.trans leG34).trans leG42).trans leG54).trans leG60
        refine WL_val (rn_len sl44 rfl rfl (h3.mono RTBaneTrip_mono l0_9).1) rfl ?_; refine WL_val (rn_move (v := (.int .i64 0)) rfl) rfl ?_; refine WL_nil ?_; obtain ⟨q63, hq63, H⟩ := bnd H; refine WC_cut (fun F w => ∃ (Fb : Fr) (G : Gm) (aq63_0 : Option Addr) (nq63_0 cq63_0 : Nat) (claq63_0 : List Value), F = upds Fb [(11, .pointer (some ⟨b44, 0, none⟩))] ∧ Gle G60 G ∧ Since w0.heap.size G0 w0 G w ∧ Owns G w w0.heap.size [⟨3, 1, nq63_0, .slice aq63_0 nq63_0 cq63_0, claq63_0⟩, ⟨117, 2, (q63.2).length, .map (some r47), kvs kvI2 vvB (q63.2)⟩, ⟨25, 1, 1, .slice (some ⟨b44, 0, none⟩) 1 1, [.slice aq63_0 nq63_0 cq63_0]⟩] ∧ nq63_0 = q63.1.length ∧ Rd RInt 1 G claq63_0 q63.1) ?_ ?_
        ·refine WC_block (WC_loop hq63 (fun s61 F w => ∃ (Fb : Fr) (G : Gm) (as61_0 : Option Addr) (ns61_0 cs61_0 : Nat) (clas61_0 : List Value), F = upds Fb [(3, .pointer (some ⟨b5, 0, none⟩)), (6, .slice none 0 0), (7, .int .i64 0), (8, .pointer (some ⟨b17, 0, none⟩)), (11, .pointer (some ⟨b44, 0, none⟩)), (13, .pointer (some ⟨b55, 0, none⟩)), (48, .int .i64 (x0.Trips.length : Int)), (49, .int .i64 s61.1)] ∧ Gle G60 G ∧ Since w0.heap.size G0 w0 G w ∧ Owns G w w0.heap.size [⟨3, 1, ns61_0, .slice as61_0 ns61_0 cs61_0, clas61_0⟩, ⟨117, 2, (s61.2.2).length, .map (some r47), kvs kvI2 vvB (s61.2.2)⟩, ⟨25, 1, 1, .slice (some ⟨b44, 0, none⟩) 1 1, [.slice as61_0 ns61_0 cs61_0]⟩] ∧ ns61_0 = s61.2.1.length ∧ Rd RInt 1 G clas61_0 s61.2.1) ?_ ?_)
         ·have hO : Owns G60 w59 w0.heap.size ([⟨3, 1, 0, .slice none 0 0, []⟩, ⟨117, 2, ([] : (List ((Int × Int) × Bool))).length, .map (some r47), kvs kvI2 vvB ([] : (List ((Int × Int) × Bool)))⟩, ⟨25, 1, 1, .slice (some ⟨b44, 0, none⟩) 1 1, [.slice none 0 0]⟩]) := hO
          exact ⟨_, G60, none, 0, 0, [], upds_self _ _ ⟨rfl, rfl, rfl, rfl, rfl, rfl, rfl, rfl, trivial⟩, Gle.refl _, hS, hO, rfl, ((Rd.nil RInt 1 G54).mono RInt_mono leG60)⟩
         ·rintro s61 F w65 t64 ⟨Fb, G66, as61_0, ns61_0, cs61_0, clas61_0, rfl, leG66, hS, hO, hnhs61_0, hs61_0⟩
          intro H1 hqq63
          have Hoq63 := H; have H := H1
          unfold f29_b0 at H
          refine WC_seq ?_; refine WC_region ?_; refine WL_val (rn_lss rfl rfl) rfl ?_; refine WL_nil ?_; refine WC_seq ?_; refine WC_cond rfl (fun hb67 => ?_) (fun hb67 => ?_)
          ·have H := ifT hb67 H; refine WC_skip ?_; refine WC_seq ?_; refine WC_block ?_; refine WC_seq ?_; refine WC_region ?_; refine WL_val (rn_move (v := (.int .i64 s61.1)) rfl) rfl ?_
           refine WL_op rfl (OpP_newO (v := fun b => .pointer (some ⟨b, 0, none⟩)) (cs := [.int .i64 0]) (e := 3) (by kernel_rfl) hS.sat hO rfl 1 1 rfl (by decide) (fun b68 w69 hb hO => ?_))
           have hS := hS.keep hb; refine WL_op rfl (OpP_store (vs := [.int .i64 s61.1]) sz3 hS hO (k := 0) rfl rfl rfl rfl rfl (one_all rfl) (Nat.le_of_ble_eq_true rfl) (fun w71 hS hO => ?_))
           have hO : Owns G66 w71 w0.heap.size ([⟨3, 1, 1, .slice (some ⟨b68, 0, none⟩) 1 1, [.int .i64 s61.1]⟩, ⟨3, 1, ns61_0, .slice as61_0 ns61_0 cs61_0, clas61_0⟩, ⟨117, 2, (s61.2.2).length, .map (some r47), kvs kvI2 vvB (s61.2.2)⟩, ⟨25, 1, 1, .slice (some ⟨b44, 0, none⟩) 1 1, [.slice as61_0 ns61_0 cs61_0]⟩]) := hO
           obtain ⟨G72, leG72, hS, hO, hqG72, _⟩ := hO.freeze hS (k := 0) rfl
           have hcG72 : Cells G72 b68 0 [.int .i64 s61.1] := (hqG72 _ _ _ _ rfl)
           refine WL_nil ?_; refine WC_seq ?_; refine WC_region ?_
           have l4_11 := (((((leG27.trans leG34).trans leG42).trans leG54).trans leG60).trans leG66).trans leG72
           refine WL_val (rn_loadA ag111 (cs := [.int .i64 y11.1.BaneSea.Islets, .slice a14 n14 c14, .slice a15 n15 c15, .slice a16 n16 c16, .int .i64 y11.1.BaneSea.Wait, .int .i64 y11.1.shut]) rfl rfl (fun j v hj => (hS.sat.le l4_11).cell (hcG21.drop_take 0 6 j v hj))) rfl ?_
           have l3_11 := (((((l3_5.trans leG34).trans leG42).trans leG54).trans leG60).trans leG66).trans leG72
           have hI73 := f77_it (x0 := y11.1) (a1 := a14) (n1 := n14) (c1 := c14) (a2 := a15) (n2 := n15) (c2 := c15) (a3 := a16) (n3 := n16) (c3 := c16) (h16.mono RTBaneTrip_mono l3_11)
           refine WL_val (rn_func (vs := [.agg #[.int .i64 y11.1.BaneSea.Islets, .slice a14 n14 c14, .slice a15 n15 c15, .slice a16 n16 c16, .int .i64 y11.1.BaneSea.Wait, .int .i64 y11.1.shut]]) (us := []) rfl rfl) rfl ?_; refine WL_nil ?_; refine WC_block ?_
           have hO : Owns G72 w71 w0.heap.size ([⟨3, 1, ns61_0, .slice as61_0 ns61_0 cs61_0, clas61_0⟩, ⟨117, 2, (s61.2.2).length, .map (some r47), kvs kvI2 vvB (s61.2.2)⟩, ⟨25, 1, 1, .slice (some ⟨b44, 0, none⟩) 1 1, [.slice as61_0 ns61_0 cs61_0]⟩]) := hO
           obtain ⟨q76, hq76, H⟩ := bnd H; refine WC_range (xs := openL y11.1.shut 0 y11.1.BaneSea.Trips) (enc := encT) (bd := f29_b1 s61 x0 x2 y11 y36) (fi := [.agg #[.int .i64 y11.1.BaneSea.Islets, .slice a14 n14 c14, .slice a15 n15 c15, .slice a16 n16 c16, .int .i64 y11.1.BaneSea.Wait, .int .i64 y11.1.shut]]) (ca := []) cb77 hI73 rfl (fun _ => rfl) rfl hq76 (fun (s74 : (List Int) × (List ((Int × Int) × Bool))) (G : Gm) (L : List Row) => ∃ (as74_0 : Option Addr) (ns74_0 cs74_0 : Nat) (clas74_0 : List Value), L = [⟨3, 1, ns74_0, .slice as74_0 ns74_0 cs74_0, clas74_0⟩, ⟨117, 2, (s74.2).length, .map (some r47), kvs kvI2 vvB (s74.2)⟩, ⟨25, 1, 1, .slice (some ⟨b44, 0, none⟩) 1 1, [.slice as74_0 ns74_0 cs74_0]⟩] ∧ ns74_0 = s74.1.length ∧ Rd RInt 1 G clas74_0 s74.1) (fun (p104 : (List Int) × (List ((Int × Int) × Bool))) (c105 : Code) (G : Gm) (L : List Row) => (∃ (s74 : (List Int) × (List ((Int × Int) × Bool))), ∃ (as74_0 : Option Addr) (ns74_0 cs74_0 : Nat) (clas74_0 : List Value), s74 = p104 ∧ c105 = (.exit 0) ∧ L = [⟨3, 1, ns74_0, .slice as74_0 ns74_0 cs74_0, clas74_0⟩, ⟨117, 2, (s74.2).length, .map (some r47), kvs kvI2 vvB (s74.2)⟩, ⟨25, 1, 1, .slice (some ⟨b44, 0, none⟩) 1 1, [.slice as74_0 ns74_0 cs74_0]⟩] ∧ ns74_0 = s74.1.length ∧ Rd RInt 1 G clas74_0 s74.1)) ?_ hS hO ⟨as61_0, ns61_0, cs61_0, clas61_0, rfl, hnhs61_0, (hs61_0.mono RInt_mono leG72)⟩ [0] ?_ ?_ ?_
           ·rintro s74 G1 G2 L hle ⟨as74_0, ns74_0, cs74_0, clas74_0, rfl, hnhs74_0, hs74_0⟩
            exact ⟨as74_0, ns74_0, cs74_0, clas74_0, rfl, hnhs74_0, hs74_0.mono RInt_mono hle⟩
           ·rintro l106 y75 s74 t77 G79 w78 L107 Lx80 leG79 hS hO ⟨as74_0, ns74_0, cs74_0, clas74_0, rfl, hnhs74_0, hs74_0⟩ H1 hqq76
            have hO : Owns G79 w78 w0.heap.size (⟨3, 1, ns74_0, .slice as74_0 ns74_0 cs74_0, clas74_0⟩ :: ⟨117, 2, (s74.2).length, .map (some r47), kvs kvI2 vvB (s74.2)⟩ :: ⟨25, 1, 1, .slice (some ⟨b44, 0, none⟩) 1 1, [.slice as74_0 ns74_0 cs74_0]⟩ :: Lx80) := hO
            have Hoq76 := H; have H := H1
            unfold f29_b1 at H
            refine WC_seq ?_; refine WC_region ?_; refine WL_val (rn_assign (v := (.int .i64 y75.1)) rfl) rfl ?_; refine WL_nil ?_; refine WC_region ?_
            refine WL_op rfl (OpP_newO (v := fun b => .pointer (some ⟨b, 0, none⟩)) (cs := [.int .i64 0, .int .i64 0, .int .i64 0, .int .i64 0]) (e := 109) (by kernel_rfl) hS.sat hO rfl 4 1 rfl (by decide) (fun b81 w82 hb hO => ?_))
            have hS := hS.keep hb; refine WL_op rfl (OpP_store (vs := [.int .i64 y75.2.Day, .int .i64 y75.2.From, .int .i64 y75.2.To, .int .i64 y75.2.Cost]) sz109 hS hO (k := 0) rfl rfl rfl rfl rfl (one_all rfl) (Nat.le_of_ble_eq_true rfl) (fun w84 hS hO => ?_))
            have hO : Owns G79 w84 w0.heap.size (⟨109, 4, 1, .slice (some ⟨b81, 0, none⟩) 1 1, [.int .i64 y75.2.Day, .int .i64 y75.2.From, .int .i64 y75.2.To, .int .i64 y75.2.Cost]⟩ :: ⟨3, 1, ns74_0, .slice as74_0 ns74_0 cs74_0, clas74_0⟩ :: ⟨117, 2, (s74.2).length, .map (some r47), kvs kvI2 vvB (s74.2)⟩ :: ⟨25, 1, 1, .slice (some ⟨b44, 0, none⟩) 1 1, [.slice as74_0 ns74_0 cs74_0]⟩ :: Lx80) := hO
            obtain ⟨G85, leG85, hS, hO, hqG85, _⟩ := hO.freeze hS (k := 0) rfl
            have hcG85 : Cells G85 b81 0 [.int .i64 y75.2.Day, .int .i64 y75.2.From, .int .i64 y75.2.To, .int .i64 y75.2.Cost] := (hqG85 _ _ _ _ rfl)
            refine WL_nil ?_
            intro w86 hfix
            have hS := hS.fix hfix; have hO := hO.fix hfix; obtain ⟨q87, hq87, H⟩ := bnd H; refine WC_cut (fun F w => ∃ (p88 : (List Int) × (List ((Int × Int) × Bool))) (Fb : Fr) (G : Gm) (ap88_0 : Option Addr) (np88_0 cp88_0 : Nat) (clap88_0 : List Value), q87 = .inl p88 ∧ F = upds Fb [] ∧ Gle G85 G ∧ Since w0.heap.size G0 w0 G w ∧ Owns G w w0.heap.size (⟨3, 1, np88_0, .slice ap88_0 np88_0 cp88_0, clap88_0⟩ :: ⟨117, 2, (p88.2).length, .map (some r47), kvs kvI2 vvB (p88.2)⟩ :: ⟨25, 1, 1, .slice (some ⟨b44, 0, none⟩) 1 1, [.slice ap88_0 np88_0 cp88_0]⟩ :: Lx80) ∧ np88_0 = p88.1.length ∧ Rd RInt 1 G clap88_0 p88.1) ?_ ?_
            ·have Hoq87 := H; have H := hq87; refine WC_block ?_; refine WC_seq ?_; refine WC_seq ?_; refine WC_region ?_; refine WL_val (rn_fld fd46_1 rfl) rfl ?_
             have l1_13 := (((l1_9.trans leG66).trans leG72).trans leG79).trans leG85
             refine WL_val (rn_load na25 rfl ((hS.sat.le l1_13).cell (hcb5 1 _ rfl))) rfl ?_; refine WL_val (rn_fld fd109_1 rfl) rfl ?_; refine WL_val (rn_load na3 rfl (hS.sat.cell (hcG85 1 _ rfl))) rfl ?_; obtain ⟨y89, hy89, H⟩ := bnd H
             have l0_13 := (((l0_9.trans leG66).trans leG72).trans leG79).trans leG85
             refine WL_op rfl (OpP_callV cb74 (f74_ok (x0 := x0.Infested) (x1 := y75.2.From) hS.sat (h1.mono RInt_mono l0_13) hy89) rfl rfl (fun w90 hb => ?_)); have hS := hS.keep hb; have hO := hO.below hb; refine WL_val (rn_not rfl) rfl ?_; refine WL_nil ?_; refine WC_cond rfl (fun hb91 => ?_) (fun hb91 => ?_)
             ·have H := ifT hb91 H; refine WC_exit rfl ?_
              have hO : Owns G85 w90 w0.heap.size (⟨3, 1, ns74_0, .slice as74_0 ns74_0 cs74_0, clas74_0⟩ :: ⟨117, 2, (s74.2).length, .map (some r47), kvs kvI2 vvB (s74.2)⟩ :: ⟨25, 1, 1, .slice (some ⟨b44, 0, none⟩) 1 1, [.slice as74_0 ns74_0 cs74_0]⟩ :: Lx80) := hO
              have H := Option.some.inj H; subst H
              exact ⟨_, _, G85, as74_0, ns74_0, cs74_0, clas74_0, rfl, rfl, Gle.refl _, hS, hO, hnhs74_0, (hs74_0.mono RInt_mono leG85)⟩
             ·have H := ifF hb91 H; refine WC_skip ?_; refine WC_seq ?_; refine WC_region ?_; refine WL_val (rn_move (v := (.int .i64 y75.1)) rfl) rfl ?_
              refine WL_op rfl (OpP_newO (v := fun b => .slice (some ⟨b, 0, none⟩) 1 1) (cs := [.int .i64 y75.1]) (e := 3) (by kernel_rfl) hS.sat hO rfl 1 1 rfl (by decide) (fun b92 w93 hb hO => ?_))
              have hS := hS.keep hb
              have hrb92 : Rd RInt 1 G85 [.int .i64 y75.1] [y75.1] := (Rd.cons (c := [.int .i64 y75.1]) rfl rfl (Rd.nil RInt 1 _))
              refine WL_op rfl (OpP_store (vs := [.slice (some ⟨b92, 0, none⟩) 1 1]) sz25 hS hO (k := 3) rfl rfl rfl rfl rfl (one_all rfl) (Nat.le_of_ble_eq_true rfl) (fun w95 hS hO => ?_))
              have hO : Owns G85 w95 w0.heap.size (⟨3, 1, 1, .slice (some ⟨b92, 0, none⟩) 1 1, [.int .i64 y75.1]⟩ :: ⟨3, 1, ns74_0, .slice as74_0 ns74_0 cs74_0, clas74_0⟩ :: ⟨117, 2, (s74.2).length, .map (some r47), kvs kvI2 vvB (s74.2)⟩ :: ⟨25, 1, 1, .slice (some ⟨b44, 0, none⟩) 1 1, [.slice (some ⟨b92, 0, none⟩) 1 1]⟩ :: Lx80) := hO
              refine WL_nil ?_; refine WC_seq ?_; refine WC_region ?_
              have l9_13 := ((leG66.trans leG72).trans leG79).trans leG85
              refine WL_val (rn_load na115 rfl ((hS.sat.le l9_13).cell (hcG60 0 _ rfl))) rfl ?_; refine WL_val (rn_move (v := (.int .i64 y75.1)) rfl) rfl ?_
              have l11_13 := leG79.trans leG85
              refine WL_val (rn_load na3 rfl ((hS.sat.le l11_13).cell (hcG72 0 _ rfl))) rfl ?_
              refine WL_val (v := (.agg #[.int .i64 y75.1, .int .i64 s61.1])) (by kernel_rfl) rfl ?_
              have hO := hO.front (k := 0) rfl; have hO := hO.front (k := 3) rfl; have hO := hO.front (k := 3) rfl
              have hO : Owns G85 w95 w0.heap.size (⟨117, 2, (s74.2).length, .map (some r47), kvs kvI2 vvB (s74.2)⟩ :: ⟨25, 1, 1, .slice (some ⟨b44, 0, none⟩) 1 1, [.slice (some ⟨b92, 0, none⟩) 1 1]⟩ :: ⟨3, 1, 1, .slice (some ⟨b92, 0, none⟩) 1 1, [.int .i64 y75.1]⟩ :: ⟨3, 1, ns74_0, .slice as74_0 ns74_0 cs74_0, clas74_0⟩ :: Lx80) := hO
              have l2_13 := ((((l2_5.trans leG34).trans leG42).trans leG54).trans leG60).trans l9_13
              have l7_13 := (leG54.trans leG60).trans l9_13
              have l8_13 := leG60.trans l9_13
              have l4_13 := l4_11.trans l11_13
              have l3_13 := l3_11.trans l11_13
              obtain ⟨y96, hy96, H⟩ := bnd H; refine WL_op rfl (OpP_lent (fi := []) (al := [.agg #[.int .i64 y75.1, .int .i64 s61.1]]) (ca := [.pointer (some ⟨b5, 0, none⟩), .pointer (some ⟨b8, 0, none⟩), .pointer (some ⟨b38, 0, none⟩), .pointer (some ⟨b50, 0, none⟩), .pointer (some ⟨b17, 0, none⟩), .pointer (some ⟨b44, 0, none⟩), .pointer (some ⟨b55, 0, none⟩)]) cb76 (f76_ok _ (x0 := (⟨y75.1, s61.1⟩ : TSpot)) (m4 := (s74.2)) (m6 := [y75.1]) hS hO (hcb5.mono l1_13) (hcb8.mono l2_13) (hcG42.mono l7_13) (hcG54.mono l8_13) (hcG21.mono l4_13) (hcG60.mono l9_13) (h1.mono RInt_mono l0_13) (h2.mono RInt_mono l0_13) (h3.mono RTBaneTrip_mono l0_13) (h14.mono RInt_mono l3_13) (h15.mono RInt_mono l3_13) (h16.mono RTBaneTrip_mono l3_13) rfl hrb92 hy96) rfl rfl rfl (fun vG98 G98 w97 L99 leG98 hS hO hvG98 => ?_)); obtain ⟨aG982, nG982, cG982, clG982, rfl, rfl, hnG982, hrG982⟩ := hvG98
              have hO : Owns G98 w97 w0.heap.size (⟨117, 2, (y96.2.1).length, .map (some r47), kvs kvI2 vvB (y96.2.1)⟩ :: ⟨25, 1, 1, .slice (some ⟨b44, 0, none⟩) 1 1, [.slice aG982 nG982 cG982]⟩ :: ⟨3, 1, nG982, .slice aG982 nG982 cG982, clG982⟩ :: ⟨3, 1, ns74_0, .slice as74_0 ns74_0 cs74_0, clas74_0⟩ :: Lx80) := hO
              refine WL_nil ?_; refine WC_cond rfl (fun hb100 => ?_) (fun hb100 => ?_)
              ·have H := ifT hb100 H; refine WC_exit rfl ?_; have hO := hO.drop 3; have hO := hO.front (k := 1) rfl; have hO := hO.front (k := 1) rfl; have hO := hO.front (k := 2) rfl
               have hO : Owns G98 w97 w0.heap.size (⟨3, 1, nG982, .slice aG982 nG982 cG982, clG982⟩ :: ⟨117, 2, (y96.2.1).length, .map (some r47), kvs kvI2 vvB (y96.2.1)⟩ :: ⟨25, 1, 1, .slice (some ⟨b44, 0, none⟩) 1 1, [.slice aG982 nG982 cG982]⟩ :: Lx80) := hO
               have hO : Owns G98 w97 w0.heap.size (⟨3, 1, nG982, .slice aG982 nG982 cG982, clG982⟩ :: ⟨117, 2, (y96.2.1).length, .map (some r47), kvs kvI2 vvB (y96.2.1)⟩ :: ⟨25, 1, 1, .slice (some ⟨b44, 0, none⟩) 1 1, [.slice aG982 nG982 cG982]⟩ :: Lx80) := hO
               have H := Option.some.inj H; subst H; have H := Hoq87; have H := Option.some.inj H; subst H
               have l12_14 := leG85.trans leG98
               exact ⟨_, rfl, _, [⟨3, 1, nG982, .slice aG982 nG982 cG982, clG982⟩, ⟨117, 2, (y96.2.1).length, .map (some r47), kvs kvI2 vvB (y96.2.1)⟩, ⟨25, 1, 1, .slice (some ⟨b44, 0, none⟩) 1 1, [.slice aG982 nG982 cG982]⟩], l12_14, hS, hO, ⟨_, aG982, nG982, cG982, clG982, rfl, rfl, rfl, hnG982, hrG982⟩⟩
              ·have H := ifF hb100 H; refine WC_skip ?_; have hO := hO.drop 3; have hO := hO.front (k := 1) rfl; have hO := hO.front (k := 1) rfl; have hO := hO.front (k := 2) rfl
               have hO : Owns G98 w97 w0.heap.size (⟨3, 1, nG982, .slice aG982 nG982 cG982, clG982⟩ :: ⟨117, 2, (y96.2.1).length, .map (some r47), kvs kvI2 vvB (y96.2.1)⟩ :: ⟨25, 1, 1, .slice (some ⟨b44, 0, none⟩) 1 1, [.slice aG982 nG982 cG982]⟩ :: Lx80) := hO
               have hO : Owns G98 w97 w0.heap.size (⟨3, 1, nG982, .slice aG982 nG982 cG982, clG982⟩ :: ⟨117, 2, (y96.2.1).length, .map (some r47), kvs kvI2 vvB (y96.2.1)⟩ :: ⟨25, 1, 1, .slice (some ⟨b44, 0, none⟩) 1 1, [.slice aG982 nG982 cG982]⟩ :: Lx80) := hO
               have H := Option.some.inj H; subst H
               exact ⟨_, _, G98, aG982, nG982, cG982, clG982, rfl, rfl, leG98, hS, hO, hnG982, hrG982⟩
            ·rintro F w101 ⟨p88, Fb, G102, ap88_0, np88_0, cp88_0, clap88_0, rfl, rfl, leG102, hS, hO, hnhp88_0, hp88_0⟩
             have hO : Owns G102 w101 w0.heap.size (⟨3, 1, np88_0, .slice ap88_0 np88_0 cp88_0, clap88_0⟩ :: ⟨117, 2, (p88.2).length, .map (some r47), kvs kvI2 vvB (p88.2)⟩ :: ⟨25, 1, 1, .slice (some ⟨b44, 0, none⟩) 1 1, [.slice ap88_0 np88_0 cp88_0]⟩ :: Lx80) := hO
             have H := Option.some.inj H; subst H
             have l12_14 := leG85.trans leG102
             exact ⟨_, rfl, _, [⟨3, 1, np88_0, .slice ap88_0 np88_0 cp88_0, clap88_0⟩, ⟨117, 2, (p88.2).length, .map (some r47), kvs kvI2 vvB (p88.2)⟩, ⟨25, 1, 1, .slice (some ⟨b44, 0, none⟩) 1 1, [.slice ap88_0 np88_0 cp88_0]⟩], l12_14, hS, hO, ⟨ap88_0, np88_0, cp88_0, clap88_0, rfl, hnhp88_0, hp88_0⟩⟩
           ·rintro s74 G109 w108 L110 hres leG109 hS hO ⟨as74_0, ns74_0, cs74_0, clas74_0, rfl, hnhs74_0, hs74_0⟩
            subst hres; refine WC_region ?_; refine WL_val (rn_add rfl rfl) rfl ?_; refine WL_val (rn_move (v := (.int .i64 (IntKind.i64.wrap (s61.1 + 1)))) rfl) rfl ?_; refine WL_nil ?_
            have hO : Owns G109 w108 w0.heap.size ([⟨3, 1, ns74_0, .slice as74_0 ns74_0 cs74_0, clas74_0⟩, ⟨117, 2, (s74.2).length, .map (some r47), kvs kvI2 vvB (s74.2)⟩, ⟨25, 1, 1, .slice (some ⟨b44, 0, none⟩) 1 1, [.slice as74_0 ns74_0 cs74_0]⟩]) := hO
            have H := Option.some.inj H; subst H; refine ⟨_, rfl, ?_⟩
            have l9_12 := (leG66.trans leG72).trans leG109
            exact ⟨_, G109, as74_0, ns74_0, cs74_0, clas74_0, upds_self _ _ ⟨rfl, rfl, rfl, rfl, rfl, rfl, rfl, rfl, trivial⟩, l9_12, hS, hO, hnhs74_0, hs74_0⟩
           ·rintro _ _ G109z w108z _ hres _ leG109z hS hO ⟨s74, as74_0, ns74_0, cs74_0, clas74_0, rfl, rfl, rfl, hnhs74_0, hs74_0⟩
            subst hres; refine WC_exit rfl ?_
            have hO : Owns G109z w108z w0.heap.size ([⟨3, 1, ns74_0, .slice as74_0 ns74_0 cs74_0, clas74_0⟩, ⟨117, 2, (s74.2).length, .map (some r47), kvs kvI2 vvB (s74.2)⟩, ⟨25, 1, 1, .slice (some ⟨b44, 0, none⟩) 1 1, [.slice as74_0 ns74_0 cs74_0]⟩]) := hO
            have H := Option.some.inj H; subst H
            have hres := hqq63 _ rfl
            subst hres
            have l9_12 := (leG66.trans leG72).trans leG109z
            exact ⟨_, G109z, as74_0, ns74_0, cs74_0, clas74_0, upds_self _ _ ⟨rfl, trivial⟩, l9_12, hS, hO, hnhs74_0, hs74_0⟩
          ·have H := ifF hb67 H; refine WC_exit rfl ?_
           have hO : Owns G66 w65 w0.heap.size ([⟨3, 1, ns61_0, .slice as61_0 ns61_0 cs61_0, clas61_0⟩, ⟨117, 2, (s61.2.2).length, .map (some r47), kvs kvI2 vvB (s61.2.2)⟩, ⟨25, 1, 1, .slice (some ⟨b44, 0, none⟩) 1 1, [.slice as61_0 ns61_0 cs61_0]⟩]) := hO
           have H := Option.some.inj H; subst H
           have hres := hqq63 _ rfl
           subst hres
           exact ⟨_, G66, as61_0, ns61_0, cs61_0, clas61_0, upds_self _ _ ⟨rfl, trivial⟩, leG66, hS, hO, hnhs61_0, hs61_0⟩
        ·rintro F w111 ⟨Fb, G112, aq63_0, nq63_0, cq63_0, claq63_0, rfl, leG112, hS, hO, hnhq63_0, hq63_0⟩
         refine WC_seq ?_; refine WC_region ?_; refine WL_val (rn_load na25 rfl (own_cell hO (k := 2) rfl (j := 0) rfl)) rfl ?_; refine WL_val (rn_assign (v := (.slice aq63_0 nq63_0 cq63_0)) rfl) rfl ?_; refine WL_val (rn_assign (v := (.int .i64 0)) rfl) rfl ?_; refine WL_nil ?_; refine WC_ret ?_; obtain ⟨G113, leG113, hS, hO, hfG113⟩ := hO.freezeS hS RInt_mono (k := 0) rfl hq63_0 hnhq63_0
         have H : some (q63.1, 0) = some r := H
         have H := Option.some.inj H; subst H
         exact ⟨_, _, rfl, hS.toGrow, _, _, _, rfl, hfG113⟩
     ·refine WD_op rfl rfl (OpP_newO (v := fun b => .pointer (some ⟨b, 0, none⟩)) (cs := [.int .i64 0]) (e := 3) (by kernel_rfl) hS.sat hO rfl 1 1 rfl (by decide) (fun b36 w37 hb hO => ?_))
      have hS := hS.keep hb; refine ⟨fun _ _ => ⟨hS.sat.le leG34, trivial⟩, ?_⟩; obtain ⟨y39, hy39, H⟩ := bnd H; refine WD_op rfl rfl (OpP_idx sl25 h35 hy39 rfl rfl rfl ?_)
      rintro b40 o40 _ hcb40 _ ⟨⟩
      refine ⟨fun _ h => noneed (by kernel_rfl) h, ?_⟩
      refine WD_op rfl rfl (OpP_val (rn_load na3 rfl (hS.sat.cell (hcb40 0 _ rfl))) rfl ?_)
      refine ⟨fun _ h => noneed (by kernel_rfl) h, ?_⟩
      refine WD_op rfl rfl (OpP_store (vs := [.int .i64 y39]) sz3 hS hO (k := 0) rfl rfl rfl rfl rfl (one_all rfl) (Nat.le_of_ble_eq_true rfl) (fun w41 hS hO => ?_))
      have hO : Owns G34 w41 w0.heap.size ([⟨3, 1, 1, .slice (some ⟨b36, 0, none⟩) 1 1, [.int .i64 y39]⟩]) := hO
      obtain ⟨G42, leG42, hS, hO, hqG42, _⟩ := hO.freeze hS (k := 0) rfl
      have hcG42 : Cells G42 b36 0 [.int .i64 y39] := (hqG42 _ _ _ _ rfl)
      refine ⟨fun _ h => noneed (by kernel_rfl) h, ?_⟩
      refine WD_nil ?_; refine WC_seq ?_; refine WC_seq ?_; refine WC_region ?_; refine WL_val (rn_load na3 rfl (hS.sat.cell (hcG42 0 _ rfl))) rfl ?_; refine WL_val (rn_lss rfl rfl) rfl ?_; refine WL_nil ?_; refine WC_cond rfl (fun hb43 => ?_) (fun hb43 => ?_)
      ·have H := ifT hb43 H; refine WC_seq ?_; refine WC_region ?_; refine WL_val (rn_assign (v := (.slice none 0 0)) rfl) rfl ?_; refine WL_val (rn_assign (v := (.int .i64 5)) rfl) rfl ?_; refine WL_nil ?_; refine WC_ret ?_
       have H : some ([], 5) = some r := H
       have H := Option.some.inj H; subst H
       exact ⟨_, _, rfl, hS.toGrow, _, _, _, rfl, (RSl.nil RInt 1 G42 none)⟩
      ·have H := ifF hb43 H; refine WC_skip ?_; refine WC_seq ?_; refine WC_region ?_
       refine WL_op rfl (OpP_newO (v := fun b => .pointer (some ⟨b, 0, none⟩)) (cs := [.slice none 0 0]) (e := 25) (by kernel_rfl) hS.sat hO rfl 1 1 rfl (by decide) (fun b44 w45 hb hO => ?_))
       have hS := hS.keep hb; refine WL_nil ?_; refine WC_seq ?_; refine WC_region ?_; refine WL_op rfl (OpP_makeMap (e := 117) hS hO rfl (fun r47 w48 hS hO => ?_))
       have hO : Owns G42 w48 w0.heap.size ([⟨117, 2, ([] : (List ((Int × Int) × Bool))).length, .map (some r47), kvs kvI2 vvB ([] : (List ((Int × Int) × Bool)))⟩, ⟨25, 1, 1, .slice (some ⟨b44, 0, none⟩) 1 1, [.slice none 0 0]⟩]) := hO
       refine WL_op rfl (OpP_newO (v := fun b => .pointer (some ⟨b, 0, none⟩)) (cs := [.map none]) (e := 114) (by kernel_rfl) hS.sat hO rfl 1 1 rfl (by decide) (fun b50 w51 hb hO => ?_))
       have hS := hS.keep hb; refine WL_op rfl (OpP_store (vs := [.map (some r47)]) sz114 hS hO (k := 0) rfl rfl rfl rfl rfl (one_all rfl) (Nat.le_of_ble_eq_true rfl) (fun w53 hS hO => ?_))
       have hO : Owns G42 w53 w0.heap.size ([⟨114, 1, 1, .slice (some ⟨b50, 0, none⟩) 1 1, [.map (some r47)]⟩, ⟨117, 2, ([] : (List ((Int × Int) × Bool))).length, .map (some r47), kvs kvI2 vvB ([] : (List ((Int × Int) × Bool)))⟩, ⟨25, 1, 1, .slice (some ⟨b44, 0, none⟩) 1 1, [.slice none 0 0]⟩]) := hO
       obtain ⟨G54, leG54, hS, hO, hqG54, _⟩ := hO.freeze hS (k := 0) rfl
       have hcG54 : Cells G54 b50 0 [.map (some r47)] := (hqG54 _ _ _ _ rfl)
       refine WL_nil ?_; refine WC_seq ?_; refine WC_region ?_
       refine WL_op rfl (OpP_newO (v := fun b => .pointer (some ⟨b, 0, none⟩)) (cs := [.nilFunc]) (e := 115) (by kernel_rfl) hS.sat hO rfl 1 1 rfl (by decide) (fun b55 w56 hb hO => ?_))
       have hS := hS.keep hb; refine WL_nil ?_; refine WC_seq ?_; refine WC_region ?_; have hO := hO.cons_nil 3 1; refine WL_val (v := (.func (.func 76) (([] : List Value)).toArray ([.pointer (some ⟨b5, 0, none⟩), .pointer (some ⟨b8, 0, none⟩), .pointer (some ⟨b36, 0, none⟩), .pointer (some ⟨b50, 0, none⟩), .pointer (some ⟨b17, 0, none⟩), .pointer (some ⟨b44, 0, none⟩), .pointer (some ⟨b55, 0, none⟩)] : List Value).toArray)) (rn_func (vs := []) (us := [.pointer (some ⟨b5, 0, none⟩), .pointer (some ⟨b8, 0, none⟩), .pointer (some ⟨b36, 0, none⟩), .pointer (some ⟨b50, 0, none⟩), .pointer (some ⟨b17, 0, none⟩), .pointer (some ⟨b44, 0, none⟩), .pointer (some ⟨b55, 0, none⟩)]) rfl rfl) rfl ?_; refine WL_op rfl (OpP_store (vs := [.func (.func 76) (([] : List Value)).toArray ([.pointer (some ⟨b5, 0, none⟩), .pointer (some ⟨b8, 0, none⟩), .pointer (some ⟨b36, 0, none⟩), .pointer (some ⟨b50, 0, none⟩), .pointer (some ⟨b17, 0, none⟩), .pointer (some ⟨b44, 0, none⟩), .pointer (some ⟨b55, 0, none⟩)] : List Value).toArray]) sz115 hS hO (k := 1) rfl rfl rfl rfl rfl (one_all rfl) (Nat.le_of_ble_eq_true rfl) (fun w59 hS hO => ?_))
       have hO : Owns G54 w59 w0.heap.size ([⟨3, 1, 0, .slice none 0 0, []⟩, ⟨115, 1, 1, .slice (some ⟨b55, 0, none⟩) 1 1, [.func (.func 76) (([] : List Value)).toArray ([.pointer (some ⟨b5, 0, none⟩), .pointer (some ⟨b8, 0, none⟩), .pointer (some ⟨b36, 0, none⟩), .pointer (some ⟨b50, 0, none⟩), .pointer (some ⟨b17, 0, none⟩), .pointer (some ⟨b44, 0, none⟩), .pointer (some ⟨b55, 0, none⟩)] : List Value).toArray]⟩, ⟨117, 2, ([] : (List ((Int × Int) × Bool))).length, .map (some r47), kvs kvI2 vvB ([] : (List ((Int × Int) × Bool)))⟩, ⟨25, 1, 1, .slice (some ⟨b44, 0, none⟩) 1 1, [.slice none 0 0]⟩]) := hO
       obtain ⟨G60, leG60, hS, hO, hqG60, _⟩ := hO.freeze hS (k := 1) rfl
       have hcG60 : Cells G60 b55 0 [.func (.func 76) (([] : List Value)).toArray ([.pointer (some ⟨b5, 0, none⟩), .pointer (some ⟨b8, 0, none⟩), .pointer (some ⟨b36, 0, none⟩), .pointer (some ⟨b50, 0, none⟩), .pointer (some ⟨b17, 0, none⟩), .pointer (some ⟨b44, 0, none⟩), .pointer (some ⟨b55, 0, none⟩)] : List Value).toArray] := (hqG60 _ _ _ _ rfl)
       refine WL_nil ?_; refine WC_seq ?_; refine WC_label ?_; refine WC_seq ?_; refine WC_seq ?_; refine WC_region ?_; refine WL_val (rn_fld fd46_3 rfl) rfl ?_
       have l1_9 := (((l1_5.trans leG34).trans leG42).trans leG54).trans leG60
       refine WL_val (rn_load na44 rfl ((hS.sat.le l1_9).cell (hcb5 3 _ rfl))) rfl ?_
       have l0_9 := (((l0_5.trans leG34).trans leG42).trans leG54).trans leG60
       refine WL_val (rn_len sl44 rfl rfl (h3.mono RTBaneTrip_mono l0_9).1) rfl ?_; refine WL_val (rn_move (v := (.int .i64 0)) rfl) rfl ?_; refine WL_nil ?_; obtain ⟨q63, hq63, H⟩ := bnd H; refine WC_cut (fun F w => ∃ (Fb : Fr) (G : Gm) (aq63_0 : Option Addr) (nq63_0 cq63_0 : Nat) (claq63_0 : List Value), F = upds Fb [(11, .pointer (some ⟨b44, 0, none⟩))] ∧ Gle G60 G ∧ Since w0.heap.size G0 w0 G w ∧ Owns G w w0.heap.size [⟨3, 1, nq63_0, .slice aq63_0 nq63_0 cq63_0, claq63_0⟩, ⟨117, 2, (q63.2).length, .map (some r47), kvs kvI2 vvB (q63.2)⟩, ⟨25, 1, 1, .slice (some ⟨b44, 0, none⟩) 1 1, [.slice aq63_0 nq63_0 cq63_0]⟩] ∧ nq63_0 = q63.1.length ∧ Rd RInt 1 G claq63_0 q63.1) ?_ ?_
       ·refine WC_block (WC_loop hq63 (fun s61 F w => ∃ (Fb : Fr) (G : Gm) (as61_0 : Option Addr) (ns61_0 cs61_0 : Nat) (clas61_0 : List Value), F = upds Fb [(3, .pointer (some ⟨b5, 0, none⟩)), (6, .slice none 0 0), (7, .int .i64 0), (8, .pointer (some ⟨b17, 0, none⟩)), (11, .pointer (some ⟨b44, 0, none⟩)), (13, .pointer (some ⟨b55, 0, none⟩)), (48, .int .i64 (x0.Trips.length : Int)), (49, .int .i64 s61.1)] ∧ Gle G60 G ∧ Since w0.heap.size G0 w0 G w ∧ Owns G w w0.heap.size [⟨3, 1, ns61_0, .slice as61_0 ns61_0 cs61_0, clas61_0⟩, ⟨117, 2, (s61.2.2).length, .map (some r47), kvs kvI2 vvB (s61.2.2)⟩, ⟨25, 1, 1, .slice (some ⟨b44, 0, none⟩) 1 1, [.slice as61_0 ns61_0 cs61_0]⟩] ∧ ns61_0 = s61.2.1.length ∧ Rd RInt 1 G clas61_0 s61.2.1) ?_ ?_)
        ·have hO : Owns G60 w59 w0.heap.size ([⟨3, 1, 0, .slice none 0 0, []⟩, ⟨117, 2, ([] : (List ((Int × Int) × Bool))).length, .map (some r47), kvs kvI2 vvB ([] : (List ((Int × Int) × Bool)))⟩, ⟨25, 1, 1, .slice (some ⟨b44, 0, none⟩) 1 1, [.slice none 0 0]⟩]) := hO
         exact ⟨_, G60, none, 0, 0, [], upds_self _ _ ⟨rfl, rfl, rfl, rfl, rfl, rfl, rfl, rfl, trivial⟩, Gle.refl _, hS, hO, rfl, ((Rd.nil RInt 1 G54).mono RInt_mono leG60)⟩
        ·rintro s61 F w65 t64 ⟨Fb, G66, as61_0, ns61_0, cs61_0, clas61_0, rfl, leG66, hS, hO, hnhs61_0, hs61_0⟩
         intro H1 hqq63
         have Hoq63 := H; have H := H1
         unfold f29_b0 at H
         refine WC_seq ?_; refine WC_region ?_; refine WL_val (rn_lss rfl rfl) rfl ?_; refine WL_nil ?_; refine WC_seq ?_; refine WC_cond rfl (fun hb67 => ?_) (fun hb67 => ?_)
         ·have H := ifT hb67 H; refine WC_skip ?_; refine WC_seq ?_; refine WC_block ?_; refine WC_seq ?_; refine WC_region ?_; refine WL_val (rn_move (v := (.int .i64 s61.1)) rfl) rfl ?_
          refine WL_op rfl (OpP_newO (v := fun b => .pointer (some ⟨b, 0, none⟩)) (cs := [.int .i64 0]) (e := 3) (by kernel_rfl) hS.sat hO rfl 1 1 rfl (by decide) (fun b68 w69 hb hO => ?_))
          have hS := hS.keep hb; refine WL_op rfl (OpP_store (vs := [.int .i64 s61.1]) sz3 hS hO (k := 0) rfl rfl rfl rfl rfl (one_all rfl) (Nat.le_of_ble_eq_true rfl) (fun w71 hS hO => ?_))
          have hO : Owns G66 w71 w0.heap.size ([⟨3, 1, 1, .slice (some ⟨b68, 0, none⟩) 1 1, [.int .i64 s61.1]⟩, ⟨3, 1, ns61_0, .slice as61_0 ns61_0 cs61_0, clas61_0⟩, ⟨117, 2, (s61.2.2).length, .map (some r47), kvs kvI2 vvB (s61.2.2)⟩, ⟨25, 1, 1, .slice (some ⟨b44, 0, none⟩) 1 1, [.slice as61_0 ns61_0 cs61_0]⟩]) := hO
          obtain ⟨G72, leG72, hS, hO, hqG72, _⟩ := hO.freeze hS (k := 0) rfl
          have hcG72 : Cells G72 b68 0 [.int .i64 s61.1] := (hqG72 _ _ _ _ rfl)
          refine WL_nil ?_; refine WC_seq ?_; refine WC_region ?_
          have l4_11 := (((((leG27.trans leG34).trans leG42).trans leG54).trans leG60).trans leG66).trans leG72
          refine WL_val (rn_loadA ag111 (cs := [.int .i64 y11.1.BaneSea.Islets, .slice a14 n14 c14, .slice a15 n15 c15, .slice a16 n16 c16, .int .i64 y11.1.BaneSea.Wait, .int .i64 y11.1.shut]) rfl rfl (fun j v hj => (hS.sat.le l4_11).cell (hcG21.drop_take 0 6 j v hj))) rfl ?_
          have l3_11 := (((((l3_5.trans leG34).trans leG42).trans leG54).trans leG60).trans leG66).trans leG72
          have hI73 := f77_it (x0 := y11.1) (a1 := a14) (n1 := n14) (c1 := c14) (a2 := a15) (n2 := n15) (c2 := c15) (a3 := a16) (n3 := n16) (c3 := c16) (h16.mono RTBaneTrip_mono l3_11)
          refine WL_val (rn_func (vs := [.agg #[.int .i64 y11.1.BaneSea.Islets, .slice a14 n14 c14, .slice a15 n15 c15, .slice a16 n16 c16, .int .i64 y11.1.BaneSea.Wait, .int .i64 y11.1.shut]]) (us := []) rfl rfl) rfl ?_; refine WL_nil ?_; refine WC_block ?_
          have hO : Owns G72 w71 w0.heap.size ([⟨3, 1, ns61_0, .slice as61_0 ns61_0 cs61_0, clas61_0⟩, ⟨117, 2, (s61.2.2).length, .map (some r47), kvs kvI2 vvB (s61.2.2)⟩, ⟨25, 1, 1, .slice (some ⟨b44, 0, none⟩) 1 1, [.slice as61_0 ns61_0 cs61_0]⟩]) := hO
          obtain ⟨q76, hq76, H⟩ := bnd H; refine WC_range (xs := openL y11.1.shut 0 y11.1.BaneSea.Trips) (enc := encT) (bd := f29_b1 s61 x0 x2 y11 y39) (fi := [.agg #[.int .i64 y11.1.BaneSea.Islets, .slice a14 n14 c14, .slice a15 n15 c15, .slice a16 n16 c16, .int .i64 y11.1.BaneSea.Wait, .int .i64 y11.1.shut]]) (ca := []) cb77 hI73 rfl (fun _ => rfl) rfl hq76 (fun (s74 : (List Int) × (List ((Int × Int) × Bool))) (G : Gm) (L : List Row) => ∃ (as74_0 : Option Addr) (ns74_0 cs74_0 : Nat) (clas74_0 : List Value), L = [⟨3, 1, ns74_0, .slice as74_0 ns74_0 cs74_0, clas74_0⟩, ⟨117, 2, (s74.2).length, .map (some r47), kvs kvI2 vvB (s74.2)⟩, ⟨25, 1, 1, .slice (some ⟨b44, 0, none⟩) 1 1, [.slice as74_0 ns74_0 cs74_0]⟩] ∧ ns74_0 = s74.1.length ∧ Rd RInt 1 G clas74_0 s74.1) (fun (p104 : (List Int) × (List ((Int × Int) × Bool))) (c105 : Code) (G : Gm) (L : List Row) => (∃ (s74 : (List Int) × (List ((Int × Int) × Bool))), ∃ (as74_0 : Option Addr) (ns74_0 cs74_0 : Nat) (clas74_0 : List Value), s74 = p104 ∧ c105 = (.exit 0) ∧ L = [⟨3, 1, ns74_0, .slice as74_0 ns74_0 cs74_0, clas74_0⟩, ⟨117, 2, (s74.2).length, .map (some r47), kvs kvI2 vvB (s74.2)⟩, ⟨25, 1, 1, .slice (some ⟨b44, 0, none⟩) 1 1, [.slice as74_0 ns74_0 cs74_0]⟩] ∧ ns74_0 = s74.1.length ∧ Rd RInt 1 G clas74_0 s74.1)) ?_ hS hO ⟨as61_0, ns61_0, cs61_0, clas61_0, rfl, hnhs61_0, (hs61_0.mono RInt_mono leG72)⟩ [0] ?_ ?_ ?_
          ·rintro s74 G1 G2 L hle ⟨as74_0, ns74_0, cs74_0, clas74_0, rfl, hnhs74_0, hs74_0⟩
           exact ⟨as74_0, ns74_0, cs74_0, clas74_0, rfl, hnhs74_0, hs74_0.mono RInt_mono hle⟩
          ·rintro l106 y75 s74 t77 G79 w78 L107 Lx80 leG79 hS hO ⟨as74_0, ns74_0, cs74_0, clas74_0, rfl, hnhs74_0, hs74_0⟩ H1 hqq76
           have hO : Owns G79 w78 w0.heap.size (⟨3, 1, ns74_0, .slice as74_0 ns74_0 cs74_0, clas74_0⟩ :: ⟨117, 2, (s74.2).length, .map (some r47), kvs kvI2 vvB (s74.2)⟩ :: ⟨25, 1, 1, .slice (some ⟨b44, 0, none⟩) 1 1, [.slice as74_0 ns74_0 cs74_0]⟩ :: Lx80) := hO
           have Hoq76 := H; have H := H1
           unfold f29_b1 at H
           refine WC_seq ?_; refine WC_region ?_; refine WL_val (rn_assign (v := (.int .i64 y75.1)) rfl) rfl ?_; refine WL_nil ?_; refine WC_region ?_
           refine WL_op rfl (OpP_newO (v := fun b => .pointer (some ⟨b, 0, none⟩)) (cs := [.int .i64 0, .int .i64 0, .int .i64 0, .int .i64 0]) (e := 109) (by kernel_rfl) hS.sat hO rfl 4 1 rfl (by decide) (fun b81 w82 hb hO => ?_))
           have hS := hS.keep hb; refine WL_op rfl (OpP_store (vs := [.int .i64 y75.2.Day, .int .i64 y75.2.From, .int .i64 y75.2.To, .int .i64 y75.2.Cost]) sz109 hS hO (k := 0) rfl rfl rfl rfl rfl (one_all rfl) (Nat.le_of_ble_eq_true rfl) (fun w84 hS hO => ?_))
           have hO : Owns G79 w84 w0.heap.size (⟨109, 4, 1, .slice (some ⟨b81, 0, none⟩) 1 1, [.int .i64 y75.2.Day, .int .i64 y75.2.From, .int .i64 y75.2.To, .int .i64 y75.2.Cost]⟩ :: ⟨3, 1, ns74_0, .slice as74_0 ns74_0 cs74_0, clas74_0⟩ :: ⟨117, 2, (s74.2).length, .map (some r47), kvs kvI2 vvB (s74.2)⟩ :: ⟨25, 1, 1, .slice (some ⟨b44, 0, none⟩) 1 1, [.slice as74_0 ns74_0 cs74_0]⟩ :: Lx80) := hO
           obtain ⟨G85, leG85, hS, hO, hqG85, _⟩ := hO.freeze hS (k := 0) rfl
           have hcG85 : Cells G85 b81 0 [.int .i64 y75.2.Day, .int .i64 y75.2.From, .int .i64 y75.2.To, .int .i64 y75.2.Cost] := (hqG85 _ _ _ _ rfl)
           refine WL_nil ?_
           intro w86 hfix
           have hS := hS.fix hfix; have hO := hO.fix hfix; obtain ⟨q87, hq87, H⟩ := bnd H; refine WC_cut (fun F w => ∃ (p88 : (List Int) × (List ((Int × Int) × Bool))) (Fb : Fr) (G : Gm) (ap88_0 : Option Addr) (np88_0 cp88_0 : Nat) (clap88_0 : List Value), q87 = .inl p88 ∧ F = upds Fb [] ∧ Gle G85 G ∧ Since w0.heap.size G0 w0 G w ∧ Owns G w w0.heap.size (⟨3, 1, np88_0, .slice ap88_0 np88_0 cp88_0, clap88_0⟩ :: ⟨117, 2, (p88.2).length, .map (some r47), kvs kvI2 vvB (p88.2)⟩ :: ⟨25, 1, 1, .slice (some ⟨b44, 0, none⟩) 1 1, [.slice ap88_0 np88_0 cp88_0]⟩ :: Lx80) ∧ np88_0 = p88.1.length ∧ Rd RInt 1 G clap88_0 p88.1) ?_ ?_
           ·have Hoq87 := H; have H := hq87; refine WC_block ?_; refine WC_seq ?_; refine WC_seq ?_; refine WC_region ?_; refine WL_val (rn_fld fd46_1 rfl) rfl ?_
            have l1_13 := (((l1_9.trans leG66).trans leG72).trans leG79).trans leG85
            refine WL_val (rn_load na25 rfl ((hS.sat.le l1_13).cell (hcb5 1 _ rfl))) rfl ?_; refine WL_val (rn_fld fd109_1 rfl) rfl ?_; refine WL_val (rn_load na3 rfl (hS.sat.cell (hcG85 1 _ rfl))) rfl ?_; obtain ⟨y89, hy89, H⟩ := bnd H
            have l0_13 := (((l0_9.trans leG66).trans leG72).trans leG79).trans leG85
            refine WL_op rfl (OpP_callV cb74 (f74_ok (x0 := x0.Infested) (x1 := y75.2.From) hS.sat (h1.mono RInt_mono l0_13) hy89) rfl rfl (fun w90 hb => ?_)); have hS := hS.keep hb; have hO := hO.below hb; refine WL_val (rn_not rfl) rfl ?_; refine WL_nil ?_; refine WC_cond rfl (fun hb91 => ?_) (fun hb91 => ?_)
            ·have H := ifT hb91 H; refine WC_exit rfl ?_
             have hO : Owns G85 w90 w0.heap.size (⟨3, 1, ns74_0, .slice as74_0 ns74_0 cs74_0, clas74_0⟩ :: ⟨117, 2, (s74.2).length, .map (some r47), kvs kvI2 vvB (s74.2)⟩ :: ⟨25, 1, 1, .slice (some ⟨b44, 0, none⟩) 1 1, [.slice as74_0 ns74_0 cs74_0]⟩ :: Lx80) := hO
             have H := Option.some.inj H; subst H
             exact ⟨_, _, G85, as74_0, ns74_0, cs74_0, clas74_0, rfl, rfl, Gle.refl _, hS, hO, hnhs74_0, (hs74_0.mono RInt_mono leG85)⟩
            ·have H := ifF hb91 H; refine WC_skip ?_; refine WC_seq ?_; refine WC_region ?_; refine WL_val (rn_move (v := (.int .i64 y75.1)) rfl) rfl ?_
             refine WL_op rfl (OpP_newO (v := fun b => .slice (some ⟨b, 0, none⟩) 1 1) (cs := [.int .i64 y75.1]) (e := 3) (by kernel_rfl) hS.sat hO rfl 1 1 rfl (by decide) (fun b92 w93 hb hO => ?_))
             have hS := hS.keep hb
             have hrb92 : Rd RInt 1 G85 [.int .i64 y75.1] [y75.1] := (Rd.cons (c := [.int .i64 y75.1]) rfl rfl (Rd.nil RInt 1 _))
             refine WL_op rfl (OpP_store (vs := [.slice (some ⟨b92, 0, none⟩) 1 1]) sz25 hS hO (k := 3) rfl rfl rfl rfl rfl (one_all rfl) (Nat.le_of_ble_eq_true rfl) (fun w95 hS hO => ?_))
             have hO : Owns G85 w95 w0.heap.size (⟨3, 1, 1, .slice (some ⟨b92, 0, none⟩) 1 1, [.int .i64 y75.1]⟩ :: ⟨3, 1, ns74_0, .slice as74_0 ns74_0 cs74_0, clas74_0⟩ :: ⟨117, 2, (s74.2).length, .map (some r47), kvs kvI2 vvB (s74.2)⟩ :: ⟨25, 1, 1, .slice (some ⟨b44, 0, none⟩) 1 1, [.slice (some ⟨b92, 0, none⟩) 1 1]⟩ :: Lx80) := hO
             refine WL_nil ?_; refine WC_seq ?_; refine WC_region ?_
             have l9_13 := ((leG66.trans leG72).trans leG79).trans leG85
             refine WL_val (rn_load na115 rfl ((hS.sat.le l9_13).cell (hcG60 0 _ rfl))) rfl ?_; refine WL_val (rn_move (v := (.int .i64 y75.1)) rfl) rfl ?_
             have l11_13 := leG79.trans leG85
             refine WL_val (rn_load na3 rfl ((hS.sat.le l11_13).cell (hcG72 0 _ rfl))) rfl ?_
             refine WL_val (v := (.agg #[.int .i64 y75.1, .int .i64 s61.1])) (by kernel_rfl) rfl ?_
             have hO := hO.front (k := 0) rfl; have hO := hO.front (k := 3) rfl; have hO := hO.front (k := 3) rfl
             have hO : Owns G85 w95 w0.heap.size (⟨117, 2, (s74.2).length, .map (some r47), kvs kvI2 vvB (s74.2)⟩ :: ⟨25, 1, 1, .slice (some ⟨b44, 0, none⟩) 1 1, [.slice (some ⟨b92, 0, none⟩) 1 1]⟩ :: ⟨3, 1, 1, .slice (some ⟨b92, 0, none⟩) 1 1, [.int .i64 y75.1]⟩ :: ⟨3, 1, ns74_0, .slice as74_0 ns74_0 cs74_0, clas74_0⟩ :: Lx80) := hO
             have l2_13 := ((((l2_5.trans leG34).trans leG42).trans leG54).trans leG60).trans l9_13
             have l7_13 := (leG54.trans leG60).trans l9_13
             have l8_13 := leG60.trans l9_13
             have l4_13 := l4_11.trans l11_13
             have l3_13 := l3_11.trans l11_13
             obtain ⟨y96, hy96, H⟩ := bnd H; refine WL_op rfl (OpP_lent (fi := []) (al := [.agg #[.int .i64 y75.1, .int .i64 s61.1]]) (ca := [.pointer (some ⟨b5, 0, none⟩), .pointer (some ⟨b8, 0, none⟩), .pointer (some ⟨b36, 0, none⟩), .pointer (some ⟨b50, 0, none⟩), .pointer (some ⟨b17, 0, none⟩), .pointer (some ⟨b44, 0, none⟩), .pointer (some ⟨b55, 0, none⟩)]) cb76 (f76_ok _ (x0 := (⟨y75.1, s61.1⟩ : TSpot)) (m4 := (s74.2)) (m6 := [y75.1]) hS hO (hcb5.mono l1_13) (hcb8.mono l2_13) (hcG42.mono l7_13) (hcG54.mono l8_13) (hcG21.mono l4_13) (hcG60.mono l9_13) (h1.mono RInt_mono l0_13) (h2.mono RInt_mono l0_13) (h3.mono RTBaneTrip_mono l0_13) (h14.mono RInt_mono l3_13) (h15.mono RInt_mono l3_13) (h16.mono RTBaneTrip_mono l3_13) rfl hrb92 hy96) rfl rfl rfl (fun vG98 G98 w97 L99 leG98 hS hO hvG98 => ?_)); obtain ⟨aG982, nG982, cG982, clG982, rfl, rfl, hnG982, hrG982⟩ := hvG98
             have hO : Owns G98 w97 w0.heap.size (⟨117, 2, (y96.2.1).length, .map (some r47), kvs kvI2 vvB (y96.2.1)⟩ :: ⟨25, 1, 1, .slice (some ⟨b44, 0, none⟩) 1 1, [.slice aG982 nG982 cG982]⟩ :: ⟨3, 1, nG982, .slice aG982 nG982 cG982, clG982⟩ :: ⟨3, 1, ns74_0, .slice as74_0 ns74_0 cs74_0, clas74_0⟩ :: Lx80) := hO
             refine WL_nil ?_; refine WC_cond rfl (fun hb100 => ?_) (fun hb100 => ?_)
             ·have H := ifT hb100 H; refine WC_exit rfl ?_; have hO := hO.drop 3; have hO := hO.front (k := 1) rfl; have hO := hO.front (k := 1) rfl; have hO := hO.front (k := 2) rfl
              have hO : Owns G98 w97 w0.heap.size (⟨3, 1, nG982, .slice aG982 nG982 cG982, clG982⟩ :: ⟨117, 2, (y96.2.1).length, .map (some r47), kvs kvI2 vvB (y96.2.1)⟩ :: ⟨25, 1, 1, .slice (some ⟨b44, 0, none⟩) 1 1, [.slice aG982 nG982 cG982]⟩ :: Lx80) := hO
              have hO : Owns G98 w97 w0.heap.size (⟨3, 1, nG982, .slice aG982 nG982 cG982, clG982⟩ :: ⟨117, 2, (y96.2.1).length, .map (some r47), kvs kvI2 vvB (y96.2.1)⟩ :: ⟨25, 1, 1, .slice (some ⟨b44, 0, none⟩) 1 1, [.slice aG982 nG982 cG982]⟩ :: Lx80) := hO
              have H := Option.some.inj H; subst H; have H := Hoq87; have H := Option.some.inj H; subst H
              have l12_14 := leG85.trans leG98
              exact ⟨_, rfl, _, [⟨3, 1, nG982, .slice aG982 nG982 cG982, clG982⟩, ⟨117, 2, (y96.2.1).length, .map (some r47), kvs kvI2 vvB (y96.2.1)⟩, ⟨25, 1, 1, .slice (some ⟨b44, 0, none⟩) 1 1, [.slice aG982 nG982 cG982]⟩], l12_14, hS, hO, ⟨_, aG982, nG982, cG982, clG982, rfl, rfl, rfl, hnG982, hrG982⟩⟩
             ·have H := ifF hb100 H; refine WC_skip ?_; have hO := hO.drop 3; have hO := hO.front (k := 1) rfl; have hO := hO.front (k := 1) rfl; have hO := hO.front (k := 2) rfl
              have hO : Owns G98 w97 w0.heap.size (⟨3, 1, nG982, .slice aG982 nG982 cG982, clG982⟩ :: ⟨117, 2, (y96.2.1).length, .map (some r47), kvs kvI2 vvB (y96.2.1)⟩ :: ⟨25, 1, 1, .slice (some ⟨b44, 0, none⟩) 1 1, [.slice aG982 nG982 cG982]⟩ :: Lx80) := hO
              have hO : Owns G98 w97 w0.heap.size (⟨3, 1, nG982, .slice aG982 nG982 cG982, clG982⟩ :: ⟨117, 2, (y96.2.1).length, .map (some r47), kvs kvI2 vvB (y96.2.1)⟩ :: ⟨25, 1, 1, .slice (some ⟨b44, 0, none⟩) 1 1, [.slice aG982 nG982 cG982]⟩ :: Lx80) := hO
              have H := Option.some.inj H; subst H
              exact ⟨_, _, G98, aG982, nG982, cG982, clG982, rfl, rfl, leG98, hS, hO, hnG982, hrG982⟩
           ·rintro F w101 ⟨p88, Fb, G102, ap88_0, np88_0, cp88_0, clap88_0, rfl, rfl, leG102, hS, hO, hnhp88_0, hp88_0⟩
            have hO : Owns G102 w101 w0.heap.size (⟨3, 1, np88_0, .slice ap88_0 np88_0 cp88_0, clap88_0⟩ :: ⟨117, 2, (p88.2).length, .map (some r47), kvs kvI2 vvB (p88.2)⟩ :: ⟨25, 1, 1, .slice (some ⟨b44, 0, none⟩) 1 1, [.slice ap88_0 np88_0 cp88_0]⟩ :: Lx80) := hO
            have H := Option.some.inj H; subst H
            have l12_14 := leG85.trans leG102
            exact ⟨_, rfl, _, [⟨3, 1, np88_0, .slice ap88_0 np88_0 cp88_0, clap88_0⟩, ⟨117, 2, (p88.2).length, .map (some r47), kvs kvI2 vvB (p88.2)⟩, ⟨25, 1, 1, .slice (some ⟨b44, 0, none⟩) 1 1, [.slice ap88_0 np88_0 cp88_0]⟩], l12_14, hS, hO, ⟨ap88_0, np88_0, cp88_0, clap88_0, rfl, hnhp88_0, hp88_0⟩⟩
          ·rintro s74 G109 w108 L110 hres leG109 hS hO ⟨as74_0, ns74_0, cs74_0, clas74_0, rfl, hnhs74_0, hs74_0⟩
           subst hres; refine WC_region ?_; refine WL_val (rn_add rfl rfl) rfl ?_; refine WL_val (rn_move (v := (.int .i64 (IntKind.i64.wrap (s61.1 + 1)))) rfl) rfl ?_; refine WL_nil ?_
           have hO : Owns G109 w108 w0.heap.size ([⟨3, 1, ns74_0, .slice as74_0 ns74_0 cs74_0, clas74_0⟩, ⟨117, 2, (s74.2).length, .map (some r47), kvs kvI2 vvB (s74.2)⟩, ⟨25, 1, 1, .slice (some ⟨b44, 0, none⟩) 1 1, [.slice as74_0 ns74_0 cs74_0]⟩]) := hO
           have H := Option.some.inj H; subst H; refine ⟨_, rfl, ?_⟩
           have l9_12 := (leG66.trans leG72).trans leG109
           exact ⟨_, G109, as74_0, ns74_0, cs74_0, clas74_0, upds_self _ _ ⟨rfl, rfl, rfl, rfl, rfl, rfl, rfl, rfl, trivial⟩, l9_12, hS, hO, hnhs74_0, hs74_0⟩
          ·rintro _ _ G109z w108z _ hres _ leG109z hS hO ⟨s74, as74_0, ns74_0, cs74_0, clas74_0, rfl, rfl, rfl, hnhs74_0, hs74_0⟩
           subst hres; refine WC_exit rfl ?_
           have hO : Owns G109z w108z w0.heap.size ([⟨3, 1, ns74_0, .slice as74_0 ns74_0 cs74_0, clas74_0⟩, ⟨117, 2, (s74.2).length, .map (some r47), kvs kvI2 vvB (s74.2)⟩, ⟨25, 1, 1, .slice (some ⟨b44, 0, none⟩) 1 1, [.slice as74_0 ns74_0 cs74_0]⟩]) := hO
           have H := Option.some.inj H; subst H
           have hres := hqq63 _ rfl
           subst hres
           have l9_12 := (leG66.trans leG72).trans leG109z
           exact ⟨_, G109z, as74_0, ns74_0, cs74_0, clas74_0, upds_self _ _ ⟨rfl, trivial⟩, l9_12, hS, hO, hnhs74_0, hs74_0⟩
         ·have H := ifF hb67 H; refine WC_exit rfl ?_
          have hO : Owns G66 w65 w0.heap.size ([⟨3, 1, ns61_0, .slice as61_0 ns61_0 cs61_0, clas61_0⟩, ⟨117, 2, (s61.2.2).length, .map (some r47), kvs kvI2 vvB (s61.2.2)⟩, ⟨25, 1, 1, .slice (some ⟨b44, 0, none⟩) 1 1, [.slice as61_0 ns61_0 cs61_0]⟩]) := hO
          have H := Option.some.inj H; subst H
          have hres := hqq63 _ rfl
          subst hres
          exact ⟨_, G66, as61_0, ns61_0, cs61_0, clas61_0, upds_self _ _ ⟨rfl, trivial⟩, leG66, hS, hO, hnhs61_0, hs61_0⟩
       ·rintro F w111 ⟨Fb, G112, aq63_0, nq63_0, cq63_0, claq63_0, rfl, leG112, hS, hO, hnhq63_0, hq63_0⟩
        refine WC_seq ?_; refine WC_region ?_; refine WL_val (rn_load na25 rfl (own_cell hO (k := 2) rfl (j := 0) rfl)) rfl ?_; refine WL_val (rn_assign (v := (.slice aq63_0 nq63_0 cq63_0)) rfl) rfl ?_; refine WL_val (rn_assign (v := (.int .i64 0)) rfl) rfl ?_; refine WL_nil ?_; refine WC_ret ?_; obtain ⟨G113, leG113, hS, hO, hfG113⟩ := hO.freezeS hS RInt_mono (k := 0) rfl hq63_0 hnhq63_0
        have H : some (q63.1, 0) = some r := H
        have H := Option.some.inj H; subst H
        exact ⟨_, _, rfl, hS.toGrow, _, _, _, rfl, hfG113⟩
    ·refine WD_op rfl rfl (OpP_newO (v := fun b => .pointer (some ⟨b, 0, none⟩)) (cs := [.int .i64 0]) (e := 3) (by kernel_rfl) hS.sat hO rfl 1 1 rfl (by decide) (fun b32 w33 hb hO => ?_))
     have hS := hS.keep hb; refine ⟨fun _ _ => ⟨hS.sat, trivial⟩, ?_⟩; obtain ⟨y35, hy35, H⟩ := bnd H
     have l3_5 := leG21.trans leG27
     refine WD_op rfl rfl (OpP_callG cb75 (f75_ok (x0 := y11.1) hS.sat (h14.mono RInt_mono l3_5) (h15.mono RInt_mono l3_5) (h16.mono RTBaneTrip_mono l3_5) hy35) rfl rfl (fun vy35 G37 w36 hg hvy35 => ?_)); obtain ⟨a38, n38, c38, ⟨⟩, h38⟩ := hvy35; have hS := hS.grow hg; have hO := hO.grow hg
     have leG37 := hg.le
     refine ⟨fun _ _ => ⟨hS.sat.le leG37, trivial⟩, ?_⟩; obtain ⟨y39, hy39, H⟩ := bnd H; refine WD_op rfl rfl (OpP_idx sl25 h38 hy39 rfl rfl rfl ?_)
     rintro b40 o40 _ hcb40 _ ⟨⟩
     refine ⟨fun _ h => noneed (by kernel_rfl) h, ?_⟩
     refine WD_op rfl rfl (OpP_val (rn_load na3 rfl (hS.sat.cell (hcb40 0 _ rfl))) rfl ?_)
     refine ⟨fun _ h => noneed (by kernel_rfl) h, ?_⟩
     refine WD_op rfl rfl (OpP_store (vs := [.int .i64 y39]) sz3 hS hO (k := 0) rfl rfl rfl rfl rfl (one_all rfl) (Nat.le_of_ble_eq_true rfl) (fun w41 hS hO => ?_))
     have hO : Owns G37 w41 w0.heap.size ([⟨3, 1, 1, .slice (some ⟨b32, 0, none⟩) 1 1, [.int .i64 y39]⟩]) := hO
     obtain ⟨G42, leG42, hS, hO, hqG42, _⟩ := hO.freeze hS (k := 0) rfl
     have hcG42 : Cells G42 b32 0 [.int .i64 y39] := (hqG42 _ _ _ _ rfl)
     refine ⟨fun _ h => noneed (by kernel_rfl) h, ?_⟩
     refine WD_nil ?_; refine WC_seq ?_; refine WC_seq ?_; refine WC_region ?_; refine WL_val (rn_load na3 rfl (hS.sat.cell (hcG42 0 _ rfl))) rfl ?_; refine WL_val (rn_lss rfl rfl) rfl ?_; refine WL_nil ?_; refine WC_cond rfl (fun hb43 => ?_) (fun hb43 => ?_)
     ·have H := ifT hb43 H; refine WC_seq ?_; refine WC_region ?_; refine WL_val (rn_assign (v := (.slice none 0 0)) rfl) rfl ?_; refine WL_val (rn_assign (v := (.int .i64 5)) rfl) rfl ?_; refine WL_nil ?_; refine WC_ret ?_
      have H : some ([], 5) = some r := H
      have H := Option.some.inj H; subst H
      exact ⟨_, _, rfl, hS.toGrow, _, _, _, rfl, (RSl.nil RInt 1 G42 none)⟩
     ·have H := ifF hb43 H; refine WC_skip ?_; refine WC_seq ?_; refine WC_region ?_
      refine WL_op rfl (OpP_newO (v := fun b => .pointer (some ⟨b, 0, none⟩)) (cs := [.slice none 0 0]) (e := 25) (by kernel_rfl) hS.sat hO rfl 1 1 rfl (by decide) (fun b44 w45 hb hO => ?_))
      have hS := hS.keep hb; refine WL_nil ?_; refine WC_seq ?_; refine WC_region ?_; refine WL_op rfl (OpP_makeMap (e := 117) hS hO rfl (fun r47 w48 hS hO => ?_))
      have hO : Owns G42 w48 w0.heap.size ([⟨117, 2, ([] : (List ((Int × Int) × Bool))).length, .map (some r47), kvs kvI2 vvB ([] : (List ((Int × Int) × Bool)))⟩, ⟨25, 1, 1, .slice (some ⟨b44, 0, none⟩) 1 1, [.slice none 0 0]⟩]) := hO
      refine WL_op rfl (OpP_newO (v := fun b => .pointer (some ⟨b, 0, none⟩)) (cs := [.map none]) (e := 114) (by kernel_rfl) hS.sat hO rfl 1 1 rfl (by decide) (fun b50 w51 hb hO => ?_))
      have hS := hS.keep hb; refine WL_op rfl (OpP_store (vs := [.map (some r47)]) sz114 hS hO (k := 0) rfl rfl rfl rfl rfl (one_all rfl) (Nat.le_of_ble_eq_true rfl) (fun w53 hS hO => ?_))
      have hO : Owns G42 w53 w0.heap.size ([⟨114, 1, 1, .slice (some ⟨b50, 0, none⟩) 1 1, [.map (some r47)]⟩, ⟨117, 2, ([] : (List ((Int × Int) × Bool))).length, .map (some r47), kvs kvI2 vvB ([] : (List ((Int × Int) × Bool)))⟩, ⟨25, 1, 1, .slice (some ⟨b44, 0, none⟩) 1 1, [.slice none 0 0]⟩]) := hO
      obtain ⟨G54, leG54, hS, hO, hqG54, _⟩ := hO.freeze hS (k := 0) rfl
      have hcG54 : Cells G54 b50 0 [.map (some r47)] := (hqG54 _ _ _ _ rfl)
      refine WL_nil ?_; refine WC_seq ?_; refine WC_region ?_
      refine WL_op rfl (OpP_newO (v := fun b => .pointer (some ⟨b, 0, none⟩)) (cs := [.nilFunc]) (e := 115) (by kernel_rfl) hS.sat hO rfl 1 1 rfl (by decide) (fun b55 w56 hb hO => ?_))
      have hS := hS.keep hb; refine WL_nil ?_; refine WC_seq ?_; refine WC_region ?_; have hO := hO.cons_nil 3 1; refine WL_val (v := (.func (.func 76) (([] : List Value)).toArray ([.pointer (some ⟨b5, 0, none⟩), .pointer (some ⟨b8, 0, none⟩), .pointer (some ⟨b32, 0, none⟩), .pointer (some ⟨b50, 0, none⟩), .pointer (some ⟨b17, 0, none⟩), .pointer (some ⟨b44, 0, none⟩), .pointer (some ⟨b55, 0, none⟩)] : List Value).toArray)) (rn_func (vs := []) (us := [.pointer (some ⟨b5, 0, none⟩), .pointer (some ⟨b8, 0, none⟩), .pointer (some ⟨b32, 0, none⟩), .pointer (some ⟨b50, 0, none⟩), .pointer (some ⟨b17, 0, none⟩), .pointer (some ⟨b44, 0, none⟩), .pointer (some ⟨b55, 0, none⟩)]) rfl rfl) rfl ?_; refine WL_op rfl (OpP_store (vs := [.func (.func 76) (([] : List Value)).toArray ([.pointer (some ⟨b5, 0, none⟩), .pointer (some ⟨b8, 0, none⟩), .pointer (some ⟨b32, 0, none⟩), .pointer (some ⟨b50, 0, none⟩), .pointer (some ⟨b17, 0, none⟩), .pointer (some ⟨b44, 0, none⟩), .pointer (some ⟨b55, 0, none⟩)] : List Value).toArray]) sz115 hS hO (k := 1) rfl rfl rfl rfl rfl (one_all rfl) (Nat.le_of_ble_eq_true rfl) (fun w59 hS hO => ?_))
      have hO : Owns G54 w59 w0.heap.size ([⟨3, 1, 0, .slice none 0 0, []⟩, ⟨115, 1, 1, .slice (some ⟨b55, 0, none⟩) 1 1, [.func (.func 76) (([] : List Value)).toArray ([.pointer (some ⟨b5, 0, none⟩), .pointer (some ⟨b8, 0, none⟩), .pointer (some ⟨b32, 0, none⟩), .pointer (some ⟨b50, 0, none⟩), .pointer (some ⟨b17, 0, none⟩), .pointer (some ⟨b44, 0, none⟩), .pointer (some ⟨b55, 0, none⟩)] : List Value).toArray]⟩, ⟨117, 2, ([] : (List ((Int × Int) × Bool))).length, .map (some r47), kvs kvI2 vvB ([] : (List ((Int × Int) × Bool)))⟩, ⟨25, 1, 1, .slice (some ⟨b44, 0, none⟩) 1 1, [.slice none 0 0]⟩]) := hO
      obtain ⟨G60, leG60, hS, hO, hqG60, _⟩ := hO.freeze hS (k := 1) rfl
      have hcG60 : Cells G60 b55 0 [.func (.func 76) (([] : List Value)).toArray ([.pointer (some ⟨b5, 0, none⟩), .pointer (some ⟨b8, 0, none⟩), .pointer (some ⟨b32, 0, none⟩), .pointer (some ⟨b50, 0, none⟩), .pointer (some ⟨b17, 0, none⟩), .pointer (some ⟨b44, 0, none⟩), .pointer (some ⟨b55, 0, none⟩)] : List Value).toArray] := (hqG60 _ _ _ _ rfl)
      refine WL_nil ?_; refine WC_seq ?_; refine WC_label ?_; refine WC_seq ?_; refine WC_seq ?_; refine WC_region ?_; refine WL_val (rn_fld fd46_3 rfl) rfl ?_
      have l1_9 := (((l1_5.trans leG37).trans leG42).trans leG54).trans leG60
      refine WL_val (rn_load na44 rfl ((hS.sat.le l1_9).cell (hcb5 3 _ rfl))) rfl ?_
      have l0_9 := (((l0_5.trans leG37).trans leG42).trans leG54).trans leG60
      refine WL_val (rn_len sl44 rfl rfl (h3.mono RTBaneTrip_mono l0_9).1) rfl ?_; refine WL_val (rn_move (v := (.int .i64 0)) rfl) rfl ?_; refine WL_nil ?_; obtain ⟨q63, hq63, H⟩ := bnd H; refine WC_cut (fun F w => ∃ (Fb : Fr) (G : Gm) (aq63_0 : Option Addr) (nq63_0 cq63_0 : Nat) (claq63_0 : List Value), F = upds Fb [(11, .pointer (some ⟨b44, 0, none⟩))] ∧ Gle G60 G ∧ Since w0.heap.size G0 w0 G w ∧ Owns G w w0.heap.size [⟨3, 1, nq63_0, .slice aq63_0 nq63_0 cq63_0, claq63_0⟩, ⟨117, 2, (q63.2).length, .map (some r47), kvs kvI2 vvB (q63.2)⟩, ⟨25, 1, 1, .slice (some ⟨b44, 0, none⟩) 1 1, [.slice aq63_0 nq63_0 cq63_0]⟩] ∧ nq63_0 = q63.1.length ∧ Rd RInt 1 G claq63_0 q63.1) ?_ ?_
      ·refine WC_block (WC_loop hq63 (fun s61 F w => ∃ (Fb : Fr) (G : Gm) (as61_0 : Option Addr) (ns61_0 cs61_0 : Nat) (clas61_0 : List Value), F = upds Fb [(3, .pointer (some ⟨b5, 0, none⟩)), (6, .slice none 0 0), (7, .int .i64 0), (8, .pointer (some ⟨b17, 0, none⟩)), (11, .pointer (some ⟨b44, 0, none⟩)), (13, .pointer (some ⟨b55, 0, none⟩)), (48, .int .i64 (x0.Trips.length : Int)), (49, .int .i64 s61.1)] ∧ Gle G60 G ∧ Since w0.heap.size G0 w0 G w ∧ Owns G w w0.heap.size [⟨3, 1, ns61_0, .slice as61_0 ns61_0 cs61_0, clas61_0⟩, ⟨117, 2, (s61.2.2).length, .map (some r47), kvs kvI2 vvB (s61.2.2)⟩, ⟨25, 1, 1, .slice (some ⟨b44, 0, none⟩) 1 1, [.slice as61_0 ns61_0 cs61_0]⟩] ∧ ns61_0 = s61.2.1.length ∧ Rd RInt 1 G clas61_0 s61.2.1) ?_ ?_)
       ·have hO : Owns G60 w59 w0.heap.size ([⟨3, 1, 0, .slice none 0 0, []⟩, ⟨117, 2, ([] : (List ((Int × Int) × Bool))).length, .map (some r47), kvs kvI2 vvB ([] : (List ((Int × Int) × Bool)))⟩, ⟨25, 1, 1, .slice (some ⟨b44, 0, none⟩) 1 1, [.slice none 0 0]⟩]) := hO
        exact ⟨_, G60, none, 0, 0, [], upds_self _ _ ⟨rfl, rfl, rfl, rfl, rfl, rfl, rfl, rfl, trivial⟩, Gle.refl _, hS, hO, rfl, ((Rd.nil RInt 1 G54).mono RInt_mono leG60)⟩
       ·rintro s61 F w65 t64 ⟨Fb, G66, as61_0, ns61_0, cs61_0, clas61_0, rfl, leG66, hS, hO, hnhs61_0, hs61_0⟩
        intro H1 hqq63
        have Hoq63 := H; have H := H1
        unfold f29_b0 at H
        refine WC_seq ?_; refine WC_region ?_; refine WL_val (rn_lss rfl rfl) rfl ?_; refine WL_nil ?_; refine WC_seq ?_; refine WC_cond rfl (fun hb67 => ?_) (fun hb67 => ?_)
        ·have H := ifT hb67 H; refine WC_skip ?_; refine WC_seq ?_; refine WC_block ?_; refine WC_seq ?_; refine WC_region ?_; refine WL_val (rn_move (v := (.int .i64 s61.1)) rfl) rfl ?_
         refine WL_op rfl (OpP_newO (v := fun b => .pointer (some ⟨b, 0, none⟩)) (cs := [.int .i64 0]) (e := 3) (by kernel_rfl) hS.sat hO rfl 1 1 rfl (by decide) (fun b68 w69 hb hO => ?_))
         have hS := hS.keep hb; refine WL_op rfl (OpP_store (vs := [.int .i64 s61.1]) sz3 hS hO (k := 0) rfl rfl rfl rfl rfl (one_all rfl) (Nat.le_of_ble_eq_true rfl) (fun w71 hS hO => ?_))
         have hO : Owns G66 w71 w0.heap.size ([⟨3, 1, 1, .slice (some ⟨b68, 0, none⟩) 1 1, [.int .i64 s61.1]⟩, ⟨3, 1, ns61_0, .slice as61_0 ns61_0 cs61_0, clas61_0⟩, ⟨117, 2, (s61.2.2).length, .map (some r47), kvs kvI2 vvB (s61.2.2)⟩, ⟨25, 1, 1, .slice (some ⟨b44, 0, none⟩) 1 1, [.slice as61_0 ns61_0 cs61_0]⟩]) := hO
         obtain ⟨G72, leG72, hS, hO, hqG72, _⟩ := hO.freeze hS (k := 0) rfl
         have hcG72 : Cells G72 b68 0 [.int .i64 s61.1] := (hqG72 _ _ _ _ rfl)
         refine WL_nil ?_; refine WC_seq ?_; refine WC_region ?_
         have l4_11 := (((((leG27.trans leG37).trans leG42).trans leG54).trans leG60).trans leG66).trans leG72
         refine WL_val (rn_loadA ag111 (cs := [.int .i64 y11.1.BaneSea.Islets, .slice a14 n14 c14, .slice a15 n15 c15, .slice a16 n16 c16, .int .i64 y11.1.BaneSea.Wait, .int .i64 y11.1.shut]) rfl rfl (fun j v hj => (hS.sat.le l4_11).cell (hcG21.drop_take 0 6 j v hj))) rfl ?_
         have l3_11 := (((((l3_5.trans leG37).trans leG42).trans leG54).trans leG60).trans leG66).trans leG72
         have hI73 := f77_it (x0 := y11.1) (a1 := a14) (n1 := n14) (c1 := c14) (a2 := a15) (n2 := n15) (c2 := c15) (a3 := a16) (n3 := n16) (c3 := c16) (h16.mono RTBaneTrip_mono l3_11)
         refine WL_val (rn_func (vs := [.agg #[.int .i64 y11.1.BaneSea.Islets, .slice a14 n14 c14, .slice a15 n15 c15, .slice a16 n16 c16, .int .i64 y11.1.BaneSea.Wait, .int .i64 y11.1.shut]]) (us := []) rfl rfl) rfl ?_; refine WL_nil ?_; refine WC_block ?_
         have hO : Owns G72 w71 w0.heap.size ([⟨3, 1, ns61_0, .slice as61_0 ns61_0 cs61_0, clas61_0⟩, ⟨117, 2, (s61.2.2).length, .map (some r47), kvs kvI2 vvB (s61.2.2)⟩, ⟨25, 1, 1, .slice (some ⟨b44, 0, none⟩) 1 1, [.slice as61_0 ns61_0 cs61_0]⟩]) := hO
         obtain ⟨q76, hq76, H⟩ := bnd H; refine WC_range (xs := openL y11.1.shut 0 y11.1.BaneSea.Trips) (enc := encT) (bd := f29_b1 s61 x0 x2 y11 y39) (fi := [.agg #[.int .i64 y11.1.BaneSea.Islets, .slice a14 n14 c14, .slice a15 n15 c15, .slice a16 n16 c16, .int .i64 y11.1.BaneSea.Wait, .int .i64 y11.1.shut]]) (ca := []) cb77 hI73 rfl (fun _ => rfl) rfl hq76 (fun (s74 : (List Int) × (List ((Int × Int) × Bool))) (G : Gm) (L : List Row) => ∃ (as74_0 : Option Addr) (ns74_0 cs74_0 : Nat) (clas74_0 : List Value), L = [⟨3, 1, ns74_0, .slice as74_0 ns74_0 cs74_0, clas74_0⟩, ⟨117, 2, (s74.2).length, .map (some r47), kvs kvI2 vvB (s74.2)⟩, ⟨25, 1, 1, .slice (some ⟨b44, 0, none⟩) 1 1, [.slice as74_0 ns74_0 cs74_0]⟩] ∧ ns74_0 = s74.1.length ∧ Rd RInt 1 G clas74_0 s74.1) (fun (p104 : (List Int) × (List ((Int × Int) × Bool))) (c105 : Code) (G : Gm) (L : List Row) => (∃ (s74 : (List Int) × (List ((Int × Int) × Bool))), ∃ (as74_0 : Option Addr) (ns74_0 cs74_0 : Nat) (clas74_0 : List Value), s74 = p104 ∧ c105 = (.exit 0) ∧ L = [⟨3, 1, ns74_0, .slice as74_0 ns74_0 cs74_0, clas74_0⟩, ⟨117, 2, (s74.2).length, .map (some r47), kvs kvI2 vvB (s74.2)⟩, ⟨25, 1, 1, .slice (some ⟨b44, 0, none⟩) 1 1, [.slice as74_0 ns74_0 cs74_0]⟩] ∧ ns74_0 = s74.1.length ∧ Rd RInt 1 G clas74_0 s74.1)) ?_ hS hO ⟨as61_0, ns61_0, cs61_0, clas61_0, rfl, hnhs61_0, (hs61_0.mono RInt_mono leG72)⟩ [0] ?_ ?_ ?_
         ·rintro s74 G1 G2 L hle ⟨as74_0, ns74_0, cs74_0, clas74_0, rfl, hnhs74_0, hs74_0⟩
          exact ⟨as74_0, ns74_0, cs74_0, clas74_0, rfl, hnhs74_0, hs74_0.mono RInt_mono hle⟩
         ·rintro l106 y75 s74 t77 G79 w78 L107 Lx80 leG79 hS hO ⟨as74_0, ns74_0, cs74_0, clas74_0, rfl, hnhs74_0, hs74_0⟩ H1 hqq76
          have hO : Owns G79 w78 w0.heap.size (⟨3, 1, ns74_0, .slice as74_0 ns74_0 cs74_0, clas74_0⟩ :: ⟨117, 2, (s74.2).length, .map (some r47), kvs kvI2 vvB (s74.2)⟩ :: ⟨25, 1, 1, .slice (some ⟨b44, 0, none⟩) 1 1, [.slice as74_0 ns74_0 cs74_0]⟩ :: Lx80) := hO
          have Hoq76 := H; have H := H1
          unfold f29_b1 at H
          refine WC_seq ?_; refine WC_region ?_; refine WL_val (rn_assign (v := (.int .i64 y75.1)) rfl) rfl ?_; refine WL_nil ?_; refine WC_region ?_
          refine WL_op rfl (OpP_newO (v := fun b => .pointer (some ⟨b, 0, none⟩)) (cs := [.int .i64 0, .int .i64 0, .int .i64 0, .int .i64 0]) (e := 109) (by kernel_rfl) hS.sat hO rfl 4 1 rfl (by decide) (fun b81 w82 hb hO => ?_))
          have hS := hS.keep hb; refine WL_op rfl (OpP_store (vs := [.int .i64 y75.2.Day, .int .i64 y75.2.From, .int .i64 y75.2.To, .int .i64 y75.2.Cost]) sz109 hS hO (k := 0) rfl rfl rfl rfl rfl (one_all rfl) (Nat.le_of_ble_eq_true rfl) (fun w84 hS hO => ?_))
          have hO : Owns G79 w84 w0.heap.size (⟨109, 4, 1, .slice (some ⟨b81, 0, none⟩) 1 1, [.int .i64 y75.2.Day, .int .i64 y75.2.From, .int .i64 y75.2.To, .int .i64 y75.2.Cost]⟩ :: ⟨3, 1, ns74_0, .slice as74_0 ns74_0 cs74_0, clas74_0⟩ :: ⟨117, 2, (s74.2).length, .map (some r47), kvs kvI2 vvB (s74.2)⟩ :: ⟨25, 1, 1, .slice (some ⟨b44, 0, none⟩) 1 1, [.slice as74_0 ns74_0 cs74_0]⟩ :: Lx80) := hO
          obtain ⟨G85, leG85, hS, hO, hqG85, _⟩ := hO.freeze hS (k := 0) rfl
          have hcG85 : Cells G85 b81 0 [.int .i64 y75.2.Day, .int .i64 y75.2.From, .int .i64 y75.2.To, .int .i64 y75.2.Cost] := (hqG85 _ _ _ _ rfl)
          refine WL_nil ?_
          intro w86 hfix
          have hS := hS.fix hfix; have hO := hO.fix hfix; obtain ⟨q87, hq87, H⟩ := bnd H; refine WC_cut (fun F w => ∃ (p88 : (List Int) × (List ((Int × Int) × Bool))) (Fb : Fr) (G : Gm) (ap88_0 : Option Addr) (np88_0 cp88_0 : Nat) (clap88_0 : List Value), q87 = .inl p88 ∧ F = upds Fb [] ∧ Gle G85 G ∧ Since w0.heap.size G0 w0 G w ∧ Owns G w w0.heap.size (⟨3, 1, np88_0, .slice ap88_0 np88_0 cp88_0, clap88_0⟩ :: ⟨117, 2, (p88.2).length, .map (some r47), kvs kvI2 vvB (p88.2)⟩ :: ⟨25, 1, 1, .slice (some ⟨b44, 0, none⟩) 1 1, [.slice ap88_0 np88_0 cp88_0]⟩ :: Lx80) ∧ np88_0 = p88.1.length ∧ Rd RInt 1 G clap88_0 p88.1) ?_ ?_
          ·have Hoq87 := H; have H := hq87; refine WC_block ?_; refine WC_seq ?_; refine WC_seq ?_; refine WC_region ?_; refine WL_val (rn_fld fd46_1 rfl) rfl ?_
           have l1_13 := (((l1_9.trans leG66).trans leG72).trans leG79).trans leG85
           refine WL_val (rn_load na25 rfl ((hS.sat.le l1_13).cell (hcb5 1 _ rfl))) rfl ?_; refine WL_val (rn_fld fd109_1 rfl) rfl ?_; refine WL_val (rn_load na3 rfl (hS.sat.cell (hcG85 1 _ rfl))) rfl ?_; obtain ⟨y89, hy89, H⟩ := bnd H
           have l0_13 := (((l0_9.trans leG66).trans leG72).trans leG79).trans leG85
           refine WL_op rfl (OpP_callV cb74 (f74_ok (x0 := x0.Infested) (x1 := y75.2.From) hS.sat (h1.mono RInt_mono l0_13) hy89) rfl rfl (fun w90 hb => ?_)); have hS := hS.keep hb; have hO := hO.below hb; refine WL_val (rn_not rfl) rfl ?_; refine WL_nil ?_; refine WC_cond rfl (fun hb91 => ?_) (fun hb91 => ?_)
           ·have H := ifT hb91 H; refine WC_exit rfl ?_
            have hO : Owns G85 w90 w0.heap.size (⟨3, 1, ns74_0, .slice as74_0 ns74_0 cs74_0, clas74_0⟩ :: ⟨117, 2, (s74.2).length, .map (some r47), kvs kvI2 vvB (s74.2)⟩ :: ⟨25, 1, 1, .slice (some ⟨b44, 0, none⟩) 1 1, [.slice as74_0 ns74_0 cs74_0]⟩ :: Lx80) := hO
            have H := Option.some.inj H; subst H
            exact ⟨_, _, G85, as74_0, ns74_0, cs74_0, clas74_0, rfl, rfl, Gle.refl _, hS, hO, hnhs74_0, (hs74_0.mono RInt_mono leG85)⟩
           ·have H := ifF hb91 H; refine WC_skip ?_; refine WC_seq ?_; refine WC_region ?_; refine WL_val (rn_move (v := (.int .i64 y75.1)) rfl) rfl ?_
            refine WL_op rfl (OpP_newO (v := fun b => .slice (some ⟨b, 0, none⟩) 1 1) (cs := [.int .i64 y75.1]) (e := 3) (by kernel_rfl) hS.sat hO rfl 1 1 rfl (by decide) (fun b92 w93 hb hO => ?_))
            have hS := hS.keep hb
            have hrb92 : Rd RInt 1 G85 [.int .i64 y75.1] [y75.1] := (Rd.cons (c := [.int .i64 y75.1]) rfl rfl (Rd.nil RInt 1 _))
            refine WL_op rfl (OpP_store (vs := [.slice (some ⟨b92, 0, none⟩) 1 1]) sz25 hS hO (k := 3) rfl rfl rfl rfl rfl (one_all rfl) (Nat.le_of_ble_eq_true rfl) (fun w95 hS hO => ?_))
            have hO : Owns G85 w95 w0.heap.size (⟨3, 1, 1, .slice (some ⟨b92, 0, none⟩) 1 1, [.int .i64 y75.1]⟩ :: ⟨3, 1, ns74_0, .slice as74_0 ns74_0 cs74_0, clas74_0⟩ :: ⟨117, 2, (s74.2).length, .map (some r47), kvs kvI2 vvB (s74.2)⟩ :: ⟨25, 1, 1, .slice (some ⟨b44, 0, none⟩) 1 1, [.slice (some ⟨b92, 0, none⟩) 1 1]⟩ :: Lx80) := hO
            refine WL_nil ?_; refine WC_seq ?_; refine WC_region ?_
            have l9_13 := ((leG66.trans leG72).trans leG79).trans leG85
            refine WL_val (rn_load na115 rfl ((hS.sat.le l9_13).cell (hcG60 0 _ rfl))) rfl ?_; refine WL_val (rn_move (v := (.int .i64 y75.1)) rfl) rfl ?_
            have l11_13 := leG79.trans leG85
            refine WL_val (rn_load na3 rfl ((hS.sat.le l11_13).cell (hcG72 0 _ rfl))) rfl ?_
            refine WL_val (v := (.agg #[.int .i64 y75.1, .int .i64 s61.1])) (by kernel_rfl) rfl ?_
            have hO := hO.front (k := 0) rfl; have hO := hO.front (k := 3) rfl; have hO := hO.front (k := 3) rfl
            have hO : Owns G85 w95 w0.heap.size (⟨117, 2, (s74.2).length, .map (some r47), kvs kvI2 vvB (s74.2)⟩ :: ⟨25, 1, 1, .slice (some ⟨b44, 0, none⟩) 1 1, [.slice (some ⟨b92, 0, none⟩) 1 1]⟩ :: ⟨3, 1, 1, .slice (some ⟨b92, 0, none⟩) 1 1, [.int .i64 y75.1]⟩ :: ⟨3, 1, ns74_0, .slice as74_0 ns74_0 cs74_0, clas74_0⟩ :: Lx80) := hO
            have l2_13 := ((((l2_5.trans leG37).trans leG42).trans leG54).trans leG60).trans l9_13
            have l7_13 := (leG54.trans leG60).trans l9_13
            have l8_13 := leG60.trans l9_13
            have l4_13 := l4_11.trans l11_13
            have l3_13 := l3_11.trans l11_13
            obtain ⟨y96, hy96, H⟩ := bnd H; refine WL_op rfl (OpP_lent (fi := []) (al := [.agg #[.int .i64 y75.1, .int .i64 s61.1]]) (ca := [.pointer (some ⟨b5, 0, none⟩), .pointer (some ⟨b8, 0, none⟩), .pointer (some ⟨b32, 0, none⟩), .pointer (some ⟨b50, 0, none⟩), .pointer (some ⟨b17, 0, none⟩), .pointer (some ⟨b44, 0, none⟩), .pointer (some ⟨b55, 0, none⟩)]) cb76 (f76_ok _ (x0 := (⟨y75.1, s61.1⟩ : TSpot)) (m4 := (s74.2)) (m6 := [y75.1]) hS hO (hcb5.mono l1_13) (hcb8.mono l2_13) (hcG42.mono l7_13) (hcG54.mono l8_13) (hcG21.mono l4_13) (hcG60.mono l9_13) (h1.mono RInt_mono l0_13) (h2.mono RInt_mono l0_13) (h3.mono RTBaneTrip_mono l0_13) (h14.mono RInt_mono l3_13) (h15.mono RInt_mono l3_13) (h16.mono RTBaneTrip_mono l3_13) rfl hrb92 hy96) rfl rfl rfl (fun vG98 G98 w97 L99 leG98 hS hO hvG98 => ?_)); obtain ⟨aG982, nG982, cG982, clG982, rfl, rfl, hnG982, hrG982⟩ := hvG98
            have hO : Owns G98 w97 w0.heap.size (⟨117, 2, (y96.2.1).length, .map (some r47), kvs kvI2 vvB (y96.2.1)⟩ :: ⟨25, 1, 1, .slice (some ⟨b44, 0, none⟩) 1 1, [.slice aG982 nG982 cG982]⟩ :: ⟨3, 1, nG982, .slice aG982 nG982 cG982, clG982⟩ :: ⟨3, 1, ns74_0, .slice as74_0 ns74_0 cs74_0, clas74_0⟩ :: Lx80) := hO
            refine WL_nil ?_; refine WC_cond rfl (fun hb100 => ?_) (fun hb100 => ?_)
            ·have H := ifT hb100 H; refine WC_exit rfl ?_; have hO := hO.drop 3; have hO := hO.front (k := 1) rfl; have hO := hO.front (k := 1) rfl; have hO := hO.front (k := 2) rfl
             have hO : Owns G98 w97 w0.heap.size (⟨3, 1, nG982, .slice aG982 nG982 cG982, clG982⟩ :: ⟨117, 2, (y96.2.1).length, .map (some r47), kvs kvI2 vvB (y96.2.1)⟩ :: ⟨25, 1, 1, .slice (some ⟨b44, 0, none⟩) 1 1, [.slice aG982 nG982 cG982]⟩ :: Lx80) := hO
             have hO : Owns G98 w97 w0.heap.size (⟨3, 1, nG982, .slice aG982 nG982 cG982, clG982⟩ :: ⟨117, 2, (y96.2.1).length, .map (some r47), kvs kvI2 vvB (y96.2.1)⟩ :: ⟨25, 1, 1, .slice (some ⟨b44, 0, none⟩) 1 1, [.slice aG982 nG982 cG982]⟩ :: Lx80) := hO
             have H := Option.some.inj H; subst H; have H := Hoq87; have H := Option.some.inj H; subst H
             have l12_14 := leG85.trans leG98
             exact ⟨_, rfl, _, [⟨3, 1, nG982, .slice aG982 nG982 cG982, clG982⟩, ⟨117, 2, (y96.2.1).length, .map (some r47), kvs kvI2 vvB (y96.2.1)⟩, ⟨25, 1, 1, .slice (some ⟨b44, 0, none⟩) 1 1, [.slice aG982 nG982 cG982]⟩], l12_14, hS, hO, ⟨_, aG982, nG982, cG982, clG982, rfl, rfl, rfl, hnG982, hrG982⟩⟩
            ·have H := ifF hb100 H; refine WC_skip ?_; have hO := hO.drop 3; have hO := hO.front (k := 1) rfl; have hO := hO.front (k := 1) rfl; have hO := hO.front (k := 2) rfl
             have hO : Owns G98 w97 w0.heap.size (⟨3, 1, nG982, .slice aG982 nG982 cG982, clG982⟩ :: ⟨117, 2, (y96.2.1).length, .map (some r47), kvs kvI2 vvB (y96.2.1)⟩ :: ⟨25, 1, 1, .slice (some ⟨b44, 0, none⟩) 1 1, [.slice aG982 nG982 cG982]⟩ :: Lx80) := hO
             have hO : Owns G98 w97 w0.heap.size (⟨3, 1, nG982, .slice aG982 nG982 cG982, clG982⟩ :: ⟨117, 2, (y96.2.1).length, .map (some r47), kvs kvI2 vvB (y96.2.1)⟩ :: ⟨25, 1, 1, .slice (some ⟨b44, 0, none⟩) 1 1, [.slice aG982 nG982 cG982]⟩ :: Lx80) := hO
             have H := Option.some.inj H; subst H
             exact ⟨_, _, G98, aG982, nG982, cG982, clG982, rfl, rfl, leG98, hS, hO, hnG982, hrG982⟩
          ·rintro F w101 ⟨p88, Fb, G102, ap88_0, np88_0, cp88_0, clap88_0, rfl, rfl, leG102, hS, hO, hnhp88_0, hp88_0⟩
           have hO : Owns G102 w101 w0.heap.size (⟨3, 1, np88_0, .slice ap88_0 np88_0 cp88_0, clap88_0⟩ :: ⟨117, 2, (p88.2).length, .map (some r47), kvs kvI2 vvB (p88.2)⟩ :: ⟨25, 1, 1, .slice (some ⟨b44, 0, none⟩) 1 1, [.slice ap88_0 np88_0 cp88_0]⟩ :: Lx80) := hO
           have H := Option.some.inj H; subst H
           have l12_14 := leG85.trans leG102
           exact ⟨_, rfl, _, [⟨3, 1, np88_0, .slice ap88_0 np88_0 cp88_0, clap88_0⟩, ⟨117, 2, (p88.2).length, .map (some r47), kvs kvI2 vvB (p88.2)⟩, ⟨25, 1, 1, .slice (some ⟨b44, 0, none⟩) 1 1, [.slice ap88_0 np88_0 cp88_0]⟩], l12_14, hS, hO, ⟨ap88_0, np88_0, cp88_0, clap88_0, rfl, hnhp88_0, hp88_0⟩⟩
         ·rintro s74 G109 w108 L110 hres leG109 hS hO ⟨as74_0, ns74_0, cs74_0, clas74_0, rfl, hnhs74_0, hs74_0⟩
          subst hres; refine WC_region ?_; refine WL_val (rn_add rfl rfl) rfl ?_; refine WL_val (rn_move (v := (.int .i64 (IntKind.i64.wrap (s61.1 + 1)))) rfl) rfl ?_; refine WL_nil ?_
          have hO : Owns G109 w108 w0.heap.size ([⟨3, 1, ns74_0, .slice as74_0 ns74_0 cs74_0, clas74_0⟩, ⟨117, 2, (s74.2).length, .map (some r47), kvs kvI2 vvB (s74.2)⟩, ⟨25, 1, 1, .slice (some ⟨b44, 0, none⟩) 1 1, [.slice as74_0 ns74_0 cs74_0]⟩]) := hO
          have H := Option.some.inj H; subst H; refine ⟨_, rfl, ?_⟩
          have l9_12 := (leG66.trans leG72).trans leG109
          exact ⟨_, G109, as74_0, ns74_0, cs74_0, clas74_0, upds_self _ _ ⟨rfl, rfl, rfl, rfl, rfl, rfl, rfl, rfl, trivial⟩, l9_12, hS, hO, hnhs74_0, hs74_0⟩
         ·rintro _ _ G109z w108z _ hres _ leG109z hS hO ⟨s74, as74_0, ns74_0, cs74_0, clas74_0, rfl, rfl, rfl, hnhs74_0, hs74_0⟩
          subst hres; refine WC_exit rfl ?_
          have hO : Owns G109z w108z w0.heap.size ([⟨3, 1, ns74_0, .slice as74_0 ns74_0 cs74_0, clas74_0⟩, ⟨117, 2, (s74.2).length, .map (some r47), kvs kvI2 vvB (s74.2)⟩, ⟨25, 1, 1, .slice (some ⟨b44, 0, none⟩) 1 1, [.slice as74_0 ns74_0 cs74_0]⟩]) := hO
          have H := Option.some.inj H; subst H
          have hres := hqq63 _ rfl
          subst hres
          have l9_12 := (leG66.trans leG72).trans leG109z
          exact ⟨_, G109z, as74_0, ns74_0, cs74_0, clas74_0, upds_self _ _ ⟨rfl, trivial⟩, l9_12, hS, hO, hnhs74_0, hs74_0⟩
        ·have H := ifF hb67 H; refine WC_exit rfl ?_
         have hO : Owns G66 w65 w0.heap.size ([⟨3, 1, ns61_0, .slice as61_0 ns61_0 cs61_0, clas61_0⟩, ⟨117, 2, (s61.2.2).length, .map (some r47), kvs kvI2 vvB (s61.2.2)⟩, ⟨25, 1, 1, .slice (some ⟨b44, 0, none⟩) 1 1, [.slice as61_0 ns61_0 cs61_0]⟩]) := hO
         have H := Option.some.inj H; subst H
         have hres := hqq63 _ rfl
         subst hres
         exact ⟨_, G66, as61_0, ns61_0, cs61_0, clas61_0, upds_self _ _ ⟨rfl, trivial⟩, leG66, hS, hO, hnhs61_0, hs61_0⟩
      ·rintro F w111 ⟨Fb, G112, aq63_0, nq63_0, cq63_0, claq63_0, rfl, leG112, hS, hO, hnhq63_0, hq63_0⟩
       refine WC_seq ?_; refine WC_region ?_; refine WL_val (rn_load na25 rfl (own_cell hO (k := 2) rfl (j := 0) rfl)) rfl ?_; refine WL_val (rn_assign (v := (.slice aq63_0 nq63_0 cq63_0)) rfl) rfl ?_; refine WL_val (rn_assign (v := (.int .i64 0)) rfl) rfl ?_; refine WL_nil ?_; refine WC_ret ?_; obtain ⟨G113, leG113, hS, hO, hfG113⟩ := hO.freezeS hS RInt_mono (k := 0) rfl hq63_0 hnhq63_0
       have H : some (q63.1, 0) = some r := H
       have H := Option.some.inj H; subst H
       exact ⟨_, _, rfl, hS.toGrow, _, _, _, rfl, hfG113⟩
set_option maxHeartbeats 1000000 in
theorem f105_ok {G0 : Gm} {w0 : World} (hS0 : Sat G0 w0) {x0 : Int} {x1 : Int}  {r : (List Int)} (H : f105 x0 x1 = some r) :
  Calls Try.prog 105 #[.int .i64 x0, .int .i64 x1] w0 (RetG G0 w0 (fun G v => ∃ (ra0 : Option Addr) (rn0 rc0 : Nat), v = .slice ra0 rn0 rc0 ∧ RSl RInt 1 G ra0 rn0 rc0 r)) := by
 have hS := Since.start hS0
 have hO : Owns G0 w0 w0.heap.size [] := Owns.nil (Nat.le_refl _)
 unfold f105 at H
 refine enter1 (N := 22) (shutG _ _ _) Try.func105 rfl rfl rfl rfl ?_; refine WC_seq ?_; refine WC_region ?_; refine WL_val (rn_assign (v := (.slice none 0 0)) rfl) rfl ?_; refine WL_nil ?_; refine WC_seq ?_; refine WC_region ?_; refine WL_val (rn_assign (v := (.slice none 0 0)) rfl) rfl ?_; refine WL_nil ?_; refine WC_seq ?_; refine WC_seq ?_; refine WC_region ?_; refine WL_val (rn_move (v := (.int .i64 x1)) rfl) rfl ?_; refine WL_val (rn_move (v := (.int .i64 0)) rfl) rfl ?_; refine WL_nil ?_; have hO := hO.cons_nil 3 1; obtain ⟨q4, hq4, H⟩ := bnd H; refine WC_cut (fun F w => ∃ (Fb : Fr) (G : Gm) (aq4_0 : Option Addr) (nq4_0 cq4_0 : Nat) (claq4_0 : List Value), F = upds Fb [(5, .slice aq4_0 nq4_0 cq4_0)] ∧ Gle G0 G ∧ Since w0.heap.size G0 w0 G w ∧ Owns G w w0.heap.size [⟨3, 1, nq4_0, .slice aq4_0 nq4_0 cq4_0, claq4_0⟩] ∧ nq4_0 = q4.length ∧ Rd RInt 1 G claq4_0 q4) ?_ ?_
 ·refine WC_block (WC_loop hq4 (fun s2 F w => ∃ (Fb : Fr) (G : Gm) (as2_0 : Option Addr) (ns2_0 cs2_0 : Nat) (clas2_0 : List Value), F = upds Fb [(0, .int .i64 x0), (5, .slice as2_0 ns2_0 cs2_0), (7, .int .i64 x1), (8, .int .i64 s2.2)] ∧ Gle G0 G ∧ Since w0.heap.size G0 w0 G w ∧ Owns G w w0.heap.size [⟨3, 1, ns2_0, .slice as2_0 ns2_0 cs2_0, clas2_0⟩] ∧ ns2_0 = s2.1.length ∧ Rd RInt 1 G clas2_0 s2.1) ?_ ?_)
  ·have hO : Owns G0 w0 w0.heap.size ([⟨3, 1, 0, .slice none 0 0, []⟩]) := hO
   exact ⟨_, G0, none, 0, 0, [], upds_self _ _ ⟨rfl, rfl, rfl, rfl, trivial⟩, Gle.refl _, hS, hO, rfl, (Rd.nil RInt 1 G0)⟩
  ·rintro s2 F w6 t5 ⟨Fb, G7, as2_0, ns2_0, cs2_0, clas2_0, rfl, leG7, hS, hO, hnhs2_0, hs2_0⟩
   intro H1 hqq4
   have Hoq4 := H; have H := H1
   unfold f105_b0 at H
   refine WC_seq ?_; refine WC_region ?_; refine WL_val (rn_lss rfl rfl) rfl ?_; refine WL_nil ?_; refine WC_seq ?_; refine WC_cond rfl (fun hb8 => ?_) (fun hb8 => ?_)
   ·have H := ifT hb8 H; refine WC_skip ?_; refine WC_seq ?_; obtain ⟨q9, hq9, H⟩ := bnd H; refine WC_cut (fun F w => ∃ (Fb : Fr) (G : Gm) (aq9_0 : Option Addr) (nq9_0 cq9_0 : Nat) (claq9_0 : List Value), F = upds Fb [(0, .int .i64 x0), (5, .slice aq9_0 nq9_0 cq9_0), (7, .int .i64 x1), (8, .int .i64 s2.2)] ∧ Gle G7 G ∧ Since w0.heap.size G0 w0 G w ∧ Owns G w w0.heap.size [⟨3, 1, nq9_0, .slice aq9_0 nq9_0 cq9_0, claq9_0⟩] ∧ nq9_0 = q9.length ∧ Rd RInt 1 G claq9_0 q9) ?_ ?_
    ·have Hoq9 := H; have H := hq9; refine WC_block ?_; refine WC_seq ?_; refine WC_region ?_; refine WL_val (rn_move (v := (.int .i64 s2.2)) rfl) rfl ?_; refine WL_val (rn_assign (v := (.int .i64 s2.2)) rfl) rfl ?_; refine WL_nil ?_; refine WC_seq ?_; refine WC_region ?_; refine WL_val (rn_move (v := (.int .i64 x0)) rfl) rfl ?_; refine WL_val (rn_move (v := (.int .i64 s2.2)) rfl) rfl ?_; obtain ⟨y10, hy10, H⟩ := bnd H; refine WL_val (rn_shr rfl rfl hy10) rfl ?_; refine WL_val (rn_and rfl rfl) rfl ?_; refine WL_val (rn_eql rfl rfl) rfl ?_; refine WL_nil ?_; refine WC_cond rfl (fun hb11 => ?_) (fun hb11 => ?_)
     ·have H := ifT hb11 H; refine WC_region ?_; refine WL_val (rn_move (v := (.slice as2_0 ns2_0 cs2_0)) rfl) rfl ?_; refine WL_val (rn_move (v := (.int .i64 s2.2)) rfl) rfl ?_
      refine WL_op rfl (OpP_newF (v := fun b => .slice (some ⟨b, 0, none⟩) 1 1) (cs := [.int .i64 s2.2]) (e := 3) (by kernel_rfl) hS.sat rfl (fun b12 G14 w13 hg hcb12 => ?_))
      have hS := hS.grow hg; have hO := hO.grow hg
      have leG14 := hg.le
      have hfb12 : RSl RInt 1 G14 (some ⟨b12, 0, none⟩) 1 1 [s2.2] := RSl.of_rd hcb12 (Rd.cons (c := [.int .i64 s2.2]) rfl rfl (Rd.nil RInt 1 _)) rfl (by decide)
      obtain ⟨y15, hy15, H⟩ := bnd H; refine WL_op rfl (OpP_append (k := 0) sl25 RInt_one hS hO rfl hnhs2_0 (hs2_0.mono RInt_mono leG14) hfb12 hy15 rfl rfl rfl rfl rfl (fun aw16 cw16 w16 clw16 hS hO hrw16 => ?_))
      have hO : Owns G14 w16 w0.heap.size ([⟨3, 1, y15.length, .slice aw16 y15.length cw16, clw16⟩]) := hO
      refine WL_val (rn_assign (v := (.slice aw16 y15.length cw16)) rfl) rfl ?_; refine WL_nil ?_
      have hO : Owns G14 w16 w0.heap.size ([⟨3, 1, y15.length, .slice aw16 y15.length cw16, clw16⟩]) := hO
      have H := Option.some.inj H; subst H
      exact ⟨_, G14, aw16, y15.length, cw16, clw16, upds_self _ _ ⟨rfl, rfl, rfl, rfl, trivial⟩, leG14, hS, hO, rfl, hrw16⟩
     ·have H := ifF hb11 H; refine WC_skip ?_
      have hO : Owns G7 w6 w0.heap.size ([⟨3, 1, ns2_0, .slice as2_0 ns2_0 cs2_0, clas2_0⟩]) := hO
      have H := Option.some.inj H; subst H
      exact ⟨_, G7, as2_0, ns2_0, cs2_0, clas2_0, upds_self _ _ ⟨rfl, rfl, rfl, rfl, trivial⟩, Gle.refl _, hS, hO, hnhs2_0, hs2_0⟩
    ·rintro F w17 ⟨Fb, G18, aq9_0, nq9_0, cq9_0, claq9_0, rfl, leG18, hS, hO, hnhq9_0, hq9_0⟩
     refine WC_region ?_; refine WL_val (rn_add rfl rfl) rfl ?_; refine WL_val (rn_move (v := (.int .i64 (IntKind.i64.wrap (s2.2 + 1)))) rfl) rfl ?_; refine WL_nil ?_
     have hO : Owns G18 w17 w0.heap.size ([⟨3, 1, nq9_0, .slice aq9_0 nq9_0 cq9_0, claq9_0⟩]) := hO
     have H := Option.some.inj H; subst H; refine ⟨_, rfl, ?_⟩
     have l0_2 := leG7.trans leG18
     exact ⟨_, G18, aq9_0, nq9_0, cq9_0, claq9_0, upds_self _ _ ⟨rfl, rfl, rfl, rfl, trivial⟩, l0_2, hS, hO, hnhq9_0, hq9_0⟩
   ·have H := ifF hb8 H; refine WC_exit rfl ?_
    have hO : Owns G7 w6 w0.heap.size ([⟨3, 1, ns2_0, .slice as2_0 ns2_0 cs2_0, clas2_0⟩]) := hO
    have H := Option.some.inj H; subst H
    have hres := hqq4 _ rfl
    subst hres
    exact ⟨_, G7, as2_0, ns2_0, cs2_0, clas2_0, upds_self _ _ ⟨rfl, trivial⟩, leG7, hS, hO, hnhs2_0, hs2_0⟩
 ·rintro F w19 ⟨Fb, G20, aq4_0, nq4_0, cq4_0, claq4_0, rfl, leG20, hS, hO, hnhq4_0, hq4_0⟩
  refine WC_seq ?_; refine WC_region ?_; refine WL_val (rn_move (v := (.slice aq4_0 nq4_0 cq4_0)) rfl) rfl ?_; refine WL_val (rn_assign (v := (.slice aq4_0 nq4_0 cq4_0)) rfl) rfl ?_; refine WL_nil ?_; refine WC_ret ?_; obtain ⟨G21, leG21, hS, hO, hfG21⟩ := hO.freezeS hS RInt_mono (k := 0) rfl hq4_0 hnhq4_0
  have H : some q4 = some r := H
  have H := Option.some.inj H; subst H
  exact ⟨_, _, rfl, hS.toGrow, _, _, _, rfl, hfG21⟩
set_option maxHeartbeats 1000000 in
theorem f113_ok {G0 : Gm} {w0 : World} (hS0 : Sat G0 w0) {x0 : (List Int)} {a1 : Option Addr} {n1 c1 : Nat} (h1 : RSl RInt 1 G0 a1 n1 c1 x0) {r : Int} (H : f113 x0 = some r) :
  Calls Try.prog 113 #[.slice a1 n1 c1] w0 (RetV w0 (.int .i64 r)) := by
 have hS := Since.start hS0
 have hO : Owns G0 w0 w0.heap.size [] := Owns.nil (Nat.le_refl _)
 unfold f113 at H
 refine enter1 (N := 18) (shutV _ _) Try.func113 rfl rfl rfl rfl ?_; refine WC_seq ?_; refine WC_region ?_; refine WL_val (rn_assign (v := (.int .i64 0)) rfl) rfl ?_; refine WL_nil ?_; refine WC_seq ?_; refine WC_region ?_; refine WL_val (rn_assign (v := (.int .i64 0)) rfl) rfl ?_; refine WL_nil ?_; refine WC_seq ?_; refine WC_seq ?_; refine WC_region ?_; refine WL_val (rn_move (v := (.slice a1 n1 c1)) rfl) rfl ?_; refine WL_val (rn_len sl25 rfl rfl h1.1) rfl ?_; refine WL_val (rn_move (v := (.int .i64 0)) rfl) rfl ?_; refine WL_nil ?_; obtain ⟨q4, hq4, H⟩ := bnd H; refine WC_cut (fun F w => ∃ (p3 : Unit) (Fb : Fr), q4 = .inl p3 ∧ F = upds Fb [(3, .int .i64 0)] ∧ w0 = w) ?_ ?_
 ·refine WC_block (WC_loop hq4 (fun s2 F w => ∃ (Fb : Fr), F = upds Fb [(3, .int .i64 0), (6, .slice a1 n1 c1), (7, .int .i64 (x0.length : Int)), (8, .int .i64 s2)] ∧ w0 = w) ?_ ?_)
  ·exact ⟨_, upds_self _ _ ⟨rfl, rfl, rfl, rfl, trivial⟩, rfl⟩
  ·rintro s2 F wl t5 ⟨Fb, rfl, rfl⟩
   intro H1 hqq4
   have Hoq4 := H; have H := H1
   unfold f113_b0 at H
   refine WC_seq ?_; refine WC_region ?_; refine WL_val (rn_lss rfl rfl) rfl ?_; refine WL_nil ?_; refine WC_seq ?_; refine WC_cond rfl (fun hb8 => ?_) (fun hb8 => ?_)
   ·have H := ifT hb8 H; refine WC_skip ?_; refine WC_seq ?_; refine WC_block ?_; refine WC_seq ?_; refine WC_region ?_; obtain ⟨y9, hy9, H⟩ := bnd H; refine WL_idx sl25 h1 hy9 rfl rfl rfl ?_
    rintro b10 o10 _ hcb10 _ ⟨⟩
    refine WL_val (rn_load na3 rfl (hS.sat.cell (hcb10 0 _ rfl))) rfl ?_; refine WL_val (rn_assign (v := (.int .i64 y9)) rfl) rfl ?_; refine WL_nil ?_; refine WC_seq ?_; refine WC_region ?_; refine WL_val (rn_move (v := (.int .i64 y9)) rfl) rfl ?_; refine WL_val (rn_move (v := (.int .i64 0)) rfl) rfl ?_; refine WL_val (rn_neq rfl rfl) rfl ?_; refine WL_nil ?_; refine WC_cond rfl (fun hb11 => ?_) (fun hb11 => ?_)
    ·have H := ifT hb11 H; refine WC_seq ?_; refine WC_region ?_; refine WL_val (rn_move (v := (.int .i64 y9)) rfl) rfl ?_; refine WL_val (rn_assign (v := (.int .i64 y9)) rfl) rfl ?_; refine WL_nil ?_; refine WC_ret ?_; have H := Option.some.inj H; subst H
     have hres := hqq4 _ rfl
     subst hres; have H := Hoq4
     have H : some y9 = some r := H
     have H := Option.some.inj H; subst H
     exact ⟨rfl, hS.below⟩
    ·have H := ifF hb11 H; refine WC_skip ?_; refine WC_region ?_; refine WL_val (rn_add rfl rfl) rfl ?_; refine WL_val (rn_move (v := (.int .i64 (IntKind.i64.wrap (s2 + 1)))) rfl) rfl ?_; refine WL_nil ?_; have H := Option.some.inj H; subst H; refine ⟨_, rfl, ?_⟩
     exact ⟨_, upds_self _ _ ⟨rfl, rfl, rfl, rfl, trivial⟩, rfl⟩
   ·have H := ifF hb8 H; refine WC_exit rfl ?_; have H := Option.some.inj H; subst H
    have hres := hqq4 _ rfl
    subst hres
    exact ⟨_, _, rfl, upds_self _ _ ⟨rfl, trivial⟩, rfl⟩
 ·rintro F wl ⟨p3, Fb, rfl, rfl, rfl⟩
  refine WC_seq ?_; refine WC_region ?_; refine WL_val (rn_move (v := (.int .i64 0)) rfl) rfl ?_; refine WL_val (rn_assign (v := (.int .i64 0)) rfl) rfl ?_; refine WL_nil ?_; refine WC_ret ?_
  have H : some 0 = some r := H
  have H := Option.some.inj H; subst H
  exact ⟨rfl, hS.below⟩
set_option maxHeartbeats 1000000 in
theorem f117_ok {G0 : Gm} {w0 : World} (hS0 : Sat G0 w0) {x0 : Int}  {r : Bool} (H : f117 x0 = some r) :
  Calls Try.prog 117 #[.int .i64 x0] w0 (RetV w0 (.bool r)) := by
 have hS := Since.start hS0
 have hO : Owns G0 w0 w0.heap.size [] := Owns.nil (Nat.le_refl _)
 unfold f117 at H
 refine enter1 (N := 6) (shutV _ _) Try.func117 rfl rfl rfl rfl ?_; refine WC_seq ?_; refine WC_region ?_; refine WL_val (rn_assign (v := (.bool false)) rfl) rfl ?_; refine WL_nil ?_; refine WC_seq ?_; refine WC_region ?_; refine WL_val (rn_move (v := (.int .i64 x0)) rfl) rfl ?_; refine WL_val (rn_move (v := (.int .i64 x0)) rfl) rfl ?_; refine WL_val (rn_neq rfl rfl) rfl ?_; refine WL_val (rn_assign (v := (.bool (x0 != x0))) rfl) rfl ?_; refine WL_nil ?_; refine WC_ret ?_
 have H : some (x0 != x0) = some r := H
 have H := Option.some.inj H; subst H
 exact ⟨rfl, hS.below⟩
set_option maxHeartbeats 1000000 in
theorem f114_ok {G0 : Gm} {w0 : World} (hS0 : Sat G0 w0) {x0 : Int} {x1 : Int}  {r : Int} (H : f114 x0 x1 = some r) :
  Calls Try.prog 114 #[.int .i64 x0, .int .i64 x1] w0 (RetV w0 (.int .i64 r)) := by
 have hS := Since.start hS0
 have hO : Owns G0 w0 w0.heap.size [] := Owns.nil (Nat.le_refl _)
 unfold f114 at H
 refine enter1 (N := 20) (shutV _ _) Try.func114 rfl rfl rfl rfl ?_; refine WC_seq ?_; refine WC_region ?_; refine WL_val (rn_assign (v := (.int .i64 0)) rfl) rfl ?_; refine WL_nil ?_; refine WC_seq ?_; refine WC_region ?_; refine WL_val (rn_move (v := (.int .i64 x0)) rfl) rfl ?_; obtain ⟨y1, hy1, H⟩ := bnd H; refine WL_op rfl (OpP_callV cb117 (f117_ok (x0 := x0) hS.sat  hy1) rfl rfl (fun w2 hb => ?_)); have hS := hS.keep hb; have hO := hO.below hb; refine WL_val (rn_assign (v := (.bool y1)) rfl) rfl ?_; refine WL_nil ?_; refine WC_seq ?_; refine WC_region ?_; refine WL_val (rn_move (v := (.int .i64 x1)) rfl) rfl ?_; obtain ⟨y3, hy3, H⟩ := bnd H; refine WL_op rfl (OpP_callV cb117 (f117_ok (x0 := x1) hS.sat  hy3) rfl rfl (fun w4 hb => ?_)); have hS := hS.keep hb; have hO := hO.below hb; refine WL_val (rn_assign (v := (.bool y3)) rfl) rfl ?_; refine WL_nil ?_; refine WC_seq ?_; refine WC_seq ?_; refine WC_region ?_; refine WL_val (rn_move (v := (.bool y1)) rfl) rfl ?_; refine WL_nil ?_; refine WC_cond rfl (fun hb5 => ?_) (fun hb5 => ?_)
 ·have H := ifT hb5 H; refine WC_seq ?_; refine WC_seq ?_; refine WC_region ?_; refine WL_val (rn_move (v := (.bool y3)) rfl) rfl ?_; refine WL_nil ?_; refine WC_cond rfl (fun hb6 => ?_) (fun hb6 => ?_)
  ·have H := ifT hb6 H; refine WC_seq ?_; refine WC_region ?_; refine WL_val (rn_assign (v := (.int .i64 0)) rfl) rfl ?_; refine WL_nil ?_; refine WC_ret ?_
   have H : some 0 = some r := H
   have H := Option.some.inj H; subst H
   exact ⟨rfl, hS.below⟩
  ·have H := ifF hb6 H; refine WC_skip ?_; refine WC_seq ?_; refine WC_region ?_; refine WL_val (rn_assign (v := (.int .i64 (-1))) rfl) rfl ?_; refine WL_nil ?_; refine WC_ret ?_
   have H : some (-1) = some r := H
   have H := Option.some.inj H; subst H
   exact ⟨rfl, hS.below⟩
 ·have H := ifF hb5 H; refine WC_skip ?_; refine WC_seq ?_; refine WC_seq ?_; refine WC_region ?_; refine WL_val (rn_move (v := (.bool y3)) rfl) rfl ?_; refine WL_nil ?_; refine WC_cond rfl (fun hb7 => ?_) (fun hb7 => ?_)
  ·have H := ifT hb7 H; refine WC_seq ?_; refine WC_region ?_; refine WL_val (rn_assign (v := (.int .i64 1)) rfl) rfl ?_; refine WL_nil ?_; refine WC_ret ?_
   have H : some 1 = some r := H
   have H := Option.some.inj H; subst H
   exact ⟨rfl, hS.below⟩
  ·have H := ifF hb7 H; refine WC_skip ?_; refine WC_seq ?_; refine WC_seq ?_; refine WC_region ?_; refine WL_val (rn_move (v := (.int .i64 x0)) rfl) rfl ?_; refine WL_val (rn_move (v := (.int .i64 x1)) rfl) rfl ?_; refine WL_val (rn_lss rfl rfl) rfl ?_; refine WL_nil ?_; refine WC_cond rfl (fun hb8 => ?_) (fun hb8 => ?_)
   ·have H := ifT hb8 H; refine WC_seq ?_; refine WC_region ?_; refine WL_val (rn_assign (v := (.int .i64 (-1))) rfl) rfl ?_; refine WL_nil ?_; refine WC_ret ?_
    have H : some (-1) = some r := H
    have H := Option.some.inj H; subst H
    exact ⟨rfl, hS.below⟩
   ·have H := ifF hb8 H; refine WC_skip ?_; refine WC_seq ?_; refine WC_seq ?_; refine WC_region ?_; refine WL_val (rn_move (v := (.int .i64 x0)) rfl) rfl ?_; refine WL_val (rn_move (v := (.int .i64 x1)) rfl) rfl ?_; refine WL_val (rn_gtr rfl rfl) rfl ?_; refine WL_nil ?_; refine WC_cond rfl (fun hb9 => ?_) (fun hb9 => ?_)
    ·have H := ifT hb9 H; refine WC_seq ?_; refine WC_region ?_; refine WL_val (rn_assign (v := (.int .i64 1)) rfl) rfl ?_; refine WL_nil ?_; refine WC_ret ?_
     have H : some 1 = some r := H
     have H := Option.some.inj H; subst H
     exact ⟨rfl, hS.below⟩
    ·have H := ifF hb9 H; refine WC_skip ?_; refine WC_seq ?_; refine WC_region ?_; refine WL_val (rn_assign (v := (.int .i64 0)) rfl) rfl ?_; refine WL_nil ?_; refine WC_ret ?_
     have H : some 0 = some r := H
     have H := Option.some.inj H; subst H
     exact ⟨rfl, hS.below⟩
set_option maxHeartbeats 1000000 in
theorem f115_ok {G0 : Gm} {w0 : World} (hS0 : Sat G0 w0) {x0 : (List Int)} {a1 : Option Addr} {n1 c1 : Nat} {x1 : (List Int)} {a2 : Option Addr} {n2 c2 : Nat} (h1 : RSl RInt 1 G0 a1 n1 c1 x0) (h2 : RSl RInt 1 G0 a2 n2 c2 x1) {r : Int} (H : f115 x0 x1 = some r) :
  Calls Try.prog 115 #[.slice a1 n1 c1, .slice a2 n2 c2] w0 (RetV w0 (.int .i64 r)) := by
 have hS := Since.start hS0
 have hO : Owns G0 w0 w0.heap.size [] := Owns.nil (Nat.le_refl _)
 unfold f115 at H
 refine enter1 (N := 36) (shutV _ _) Try.func115 rfl rfl rfl rfl ?_; refine WC_seq ?_; refine WC_region ?_; refine WL_val (rn_assign (v := (.int .i64 0)) rfl) rfl ?_; refine WL_nil ?_; refine WC_seq ?_; refine WC_seq ?_; refine WC_region ?_; refine WL_val (rn_move (v := (.slice a1 n1 c1)) rfl) rfl ?_; refine WL_val (rn_len sl25 rfl rfl h1.1) rfl ?_; refine WL_val (rn_move (v := (.int .i64 0)) rfl) rfl ?_; refine WL_nil ?_; obtain ⟨q5, hq5, H⟩ := bnd H; refine WC_cut (fun F w => ∃ (p4 : Unit) (Fb : Fr) (G : Gm), q5 = .inl p4 ∧ F = upds Fb [(0, .slice a1 n1 c1), (1, .slice a2 n2 c2)] ∧ Gle G0 G ∧ Since w0.heap.size G0 w0 G w ∧ Owns G w w0.heap.size []) ?_ ?_
 ·refine WC_block (WC_loop hq5 (fun s3 F w => ∃ (Fb : Fr) (G : Gm), F = upds Fb [(0, .slice a1 n1 c1), (1, .slice a2 n2 c2), (9, .slice a1 n1 c1), (10, .int .i64 (x0.length : Int)), (11, .int .i64 s3)] ∧ Gle G0 G ∧ Since w0.heap.size G0 w0 G w ∧ Owns G w w0.heap.size []) ?_ ?_)
  ·have hO : Owns G0 w0 w0.heap.size ([]) := hO
   exact ⟨_, G0, upds_self _ _ ⟨rfl, rfl, rfl, rfl, rfl, trivial⟩, Gle.refl _, hS, hO⟩
  ·rintro s3 F w7 t6 ⟨Fb, G8, rfl, leG8, hS, hO⟩
   intro H1 hqq5
   have Hoq5 := H; have H := H1
   unfold f115_b0 at H
   refine WC_seq ?_; refine WC_region ?_; refine WL_val (rn_lss rfl rfl) rfl ?_; refine WL_nil ?_; refine WC_seq ?_; refine WC_cond rfl (fun hb9 => ?_) (fun hb9 => ?_)
   ·have H := ifT hb9 H; refine WC_skip ?_; refine WC_seq ?_; refine WC_block ?_; refine WC_seq ?_; refine WC_region ?_; refine WL_val (rn_move (v := (.int .i64 s3)) rfl) rfl ?_; obtain ⟨y10, hy10, H⟩ := bnd H; refine WL_idx sl25 (h1.mono RInt_mono leG8) hy10 rfl rfl rfl ?_
    rintro b11 o11 _ hcb11 _ ⟨⟩
    refine WL_val (rn_load na3 rfl (hS.sat.cell (hcb11 0 _ rfl))) rfl ?_; refine WL_val (rn_assign (v := (.int .i64 s3)) rfl) rfl ?_; refine WL_val (rn_assign (v := (.int .i64 y10)) rfl) rfl ?_; refine WL_nil ?_; refine WC_seq ?_; refine WC_seq ?_; refine WC_region ?_; refine WL_val (rn_move (v := (.int .i64 s3)) rfl) rfl ?_; refine WL_val (rn_move (v := (.slice a2 n2 c2)) rfl) rfl ?_; refine WL_val (rn_len sl25 rfl rfl (h2.mono RInt_mono leG8).1) rfl ?_; refine WL_val (rn_geq rfl rfl) rfl ?_; refine WL_nil ?_; refine WC_cond rfl (fun hb12 => ?_) (fun hb12 => ?_)
    ·have H := ifT hb12 H; refine WC_seq ?_; refine WC_region ?_; refine WL_val (rn_assign (v := (.int .i64 1)) rfl) rfl ?_; refine WL_nil ?_; refine WC_ret ?_; have H := Option.some.inj H; subst H
     have hres := hqq5 _ rfl
     subst hres; have H := Hoq5
     have H : some 1 = some r := H
     have H := Option.some.inj H; subst H
     exact ⟨rfl, hS.below⟩
    ·have H := ifF hb12 H; refine WC_skip ?_; refine WC_seq ?_; refine WC_region ?_; refine WL_val (rn_move (v := (.slice a2 n2 c2)) rfl) rfl ?_; refine WL_val (rn_move (v := (.int .i64 s3)) rfl) rfl ?_; obtain ⟨y13, hy13, H⟩ := bnd H; refine WL_idx sl25 (h2.mono RInt_mono leG8) hy13 rfl rfl rfl ?_
     rintro b14 o14 _ hcb14 _ ⟨⟩
     refine WL_val (rn_load na3 rfl (hS.sat.cell (hcb14 0 _ rfl))) rfl ?_; refine WL_val (rn_assign (v := (.int .i64 y13)) rfl) rfl ?_; refine WL_nil ?_; refine WC_seq ?_; refine WC_region ?_; refine WL_val (rn_move (v := (.int .i64 y10)) rfl) rfl ?_; refine WL_val (rn_move (v := (.int .i64 y13)) rfl) rfl ?_; obtain ⟨y15, hy15, H⟩ := bnd H; refine WL_op rfl (OpP_callV cb114 (f114_ok (x0 := y10) (x1 := y13) hS.sat  hy15) rfl rfl (fun w16 hb => ?_)); have hS := hS.keep hb; have hO := hO.below hb; refine WL_val (rn_assign (v := (.int .i64 y15)) rfl) rfl ?_; refine WL_nil ?_; refine WC_seq ?_; refine WC_region ?_; refine WL_val (rn_move (v := (.int .i64 y15)) rfl) rfl ?_; refine WL_val (rn_neq rfl rfl) rfl ?_; refine WL_nil ?_; refine WC_cond rfl (fun hb17 => ?_) (fun hb17 => ?_)
     ·have H := ifT hb17 H; refine WC_seq ?_; refine WC_region ?_; refine WL_val (rn_move (v := (.int .i64 y15)) rfl) rfl ?_; refine WL_val (rn_assign (v := (.int .i64 y15)) rfl) rfl ?_; refine WL_nil ?_; refine WC_ret ?_; have H := Option.some.inj H; subst H
      have hres := hqq5 _ rfl
      subst hres; have H := Hoq5
      have H : some y15 = some r := H
      have H := Option.some.inj H; subst H
      exact ⟨rfl, hS.below⟩
     ·have H := ifF hb17 H; refine WC_skip ?_; refine WC_region ?_; refine WL_val (rn_add rfl rfl) rfl ?_; refine WL_val (rn_move (v := (.int .i64 (IntKind.i64.wrap (s3 + 1)))) rfl) rfl ?_; refine WL_nil ?_
      have hO : Owns G8 w16 w0.heap.size ([]) := hO
      have H := Option.some.inj H; subst H; refine ⟨_, rfl, ?_⟩
      exact ⟨_, G8, upds_self _ _ ⟨rfl, rfl, rfl, rfl, rfl, trivial⟩, leG8, hS, hO⟩
   ·have H := ifF hb9 H; refine WC_exit rfl ?_
    have hO : Owns G8 w7 w0.heap.size ([]) := hO
    have H := Option.some.inj H; subst H
    have hres := hqq5 _ rfl
    subst hres
    exact ⟨_, _, G8, rfl, upds_self _ _ ⟨rfl, rfl, trivial⟩, leG8, hS, hO⟩
 ·rintro F w18 ⟨p4, Fb, G19, rfl, rfl, leG19, hS, hO⟩
  refine WC_seq ?_; refine WC_seq ?_; refine WC_region ?_; refine WL_val (rn_move (v := (.slice a1 n1 c1)) rfl) rfl ?_; refine WL_val (rn_len sl25 rfl rfl (h1.mono RInt_mono leG19).1) rfl ?_; refine WL_val (rn_move (v := (.slice a2 n2 c2)) rfl) rfl ?_; refine WL_val (rn_len sl25 rfl rfl (h2.mono RInt_mono leG19).1) rfl ?_; refine WL_val (rn_lss rfl rfl) rfl ?_; refine WL_nil ?_; refine WC_cond rfl (fun hb20 => ?_) (fun hb20 => ?_)
  ·have H := ifT hb20 H; refine WC_seq ?_; refine WC_region ?_; refine WL_val (rn_assign (v := (.int .i64 (-1))) rfl) rfl ?_; refine WL_nil ?_; refine WC_ret ?_
   have H : some (-1) = some r := H
   have H := Option.some.inj H; subst H
   exact ⟨rfl, hS.below⟩
  ·have H := ifF hb20 H; refine WC_skip ?_; refine WC_seq ?_; refine WC_region ?_; refine WL_val (rn_assign (v := (.int .i64 0)) rfl) rfl ?_; refine WL_nil ?_; refine WC_ret ?_
   have H : some 0 = some r := H
   have H := Option.some.inj H; subst H
   exact ⟨rfl, hS.below⟩
set_option maxHeartbeats 1000000 in
theorem f106_ok {G0 : Gm} {w0 : World} (hS0 : Sat G0 w0) {x0 : TChoice} {a1 : Option Addr} {n1 c1 : Nat} {x1 : TChoice} {a2 : Option Addr} {n2 c2 : Nat} (h1 : RSl RInt 1 G0 a1 n1 c1 x0.list) (h2 : RSl RInt 1 G0 a2 n2 c2 x1.list) {r : Bool} (H : f106 x0 x1 = some r) :
  Calls Try.prog 106 #[.agg #[.int .i64 x0.cost, .slice a1 n1 c1], .agg #[.int .i64 x1.cost, .slice a2 n2 c2]] w0 (RetV w0 (.bool r)) := by
 have hS := Since.start hS0
 have hO : Owns G0 w0 w0.heap.size [] := Owns.nil (Nat.le_refl _)
 unfold f106 at H
 refine enter1 (N := 25) (shutV _ _) Try.func106 rfl rfl rfl rfl ?_; refine WC_seq ?_; refine WC_region ?_; refine WL_op rfl (OpP_newF (v := fun b => .pointer (some ⟨b, 0, none⟩)) (cs := [.int .i64 x0.cost, .slice a1 n1 c1]) (e := 121) (rn_boxA rfl) hS.sat rfl (fun b3 G5 w4 hg hcb3 => ?_)); have hS := hS.grow hg; have hO := hO.grow hg
 have leG5 := hg.le
 refine WL_op rfl (OpP_newF (v := fun b => .pointer (some ⟨b, 0, none⟩)) (cs := [.int .i64 x1.cost, .slice a2 n2 c2]) (e := 121) (rn_boxA rfl) hS.sat rfl (fun b6 G8 w7 hg hcb6 => ?_)); have hS := hS.grow hg; have hO := hO.grow hg
 have leG8 := hg.le
 refine WL_val (rn_assign (v := (.bool false)) rfl) rfl ?_; refine WL_nil ?_; refine WC_seq ?_; have hS := hS.keep (below_drew _); have hO := hO.below (below_drew _)
 refine WC_regionD mixedO (fun _ w => Sat G8 w ∧ True) (.fl 0 (.fl 1 (.fl 2 (.fl 3 (.fl 5 (.fl 6 (.fl 7 (.fl 8 (.fl 9 (.fl 10 (.fl 12 (.fl 13 (.fl 14 (.fl 15 (.on 4 (.on 11 (.on 16 (.on 17 (.on 18 (.on 19 (.on 20 .nil))))))))))))))))))))) (by kernel_rfl) rfl (by kernel_rfl) (fun _ => ⟨hS.sat, trivial⟩) ?_
 refine WD_val rfl (fun w hw => rn_fld fd121_0 rfl) rfl ?_; refine WD_val rfl (fun w hw => rn_load na3 rfl ((hw.1.le leG8).cell (hcb3 0 _ rfl))) rfl ?_; refine WD_val rfl (fun w hw => rn_fld fd121_0 rfl) rfl ?_; refine WD_val rfl (fun w hw => rn_load na3 rfl (hw.1.cell (hcb6 0 _ rfl))) rfl ?_; refine WD_val rfl (fun w hw => rn_fld fd121_1 rfl) rfl ?_; refine WD_val rfl (fun w hw => rn_load na25 rfl ((hw.1.le leG8).cell (hcb3 1 _ rfl))) rfl ?_
 have l0_2 := leG5.trans leG8
 refine WD_val rfl (fun w hw => rn_len sl25 rfl rfl (h1.mono RInt_mono l0_2).1) rfl ?_; refine WD_val rfl (fun w hw => rn_fld fd121_1 rfl) rfl ?_; refine WD_val rfl (fun w hw => rn_load na25 rfl (hw.1.cell (hcb6 1 _ rfl))) rfl ?_; refine WD_val rfl (fun w hw => rn_len sl25 rfl rfl (h2.mono RInt_mono l0_2).1) rfl ?_; refine WD_val rfl (fun w hw => rn_fld fd121_1 rfl) rfl ?_; refine WD_val rfl (fun w hw => rn_load na25 rfl ((hw.1.le leG8).cell (hcb3 1 _ rfl))) rfl ?_; refine WD_val rfl (fun w hw => rn_fld fd121_1 rfl) rfl ?_; refine WD_val rfl (fun w hw => rn_load na25 rfl (hw.1.cell (hcb6 1 _ rfl))) rfl ?_; obtain ⟨y9, hy9, H⟩ := bnd H; refine WD_op rfl rfl (OpP_callV cb114 (f114_ok (x0 := x0.cost) (x1 := x1.cost) hS.sat  hy9) rfl rfl (fun w10 hb => ?_)); have hS := hS.keep hb; have hO := hO.below hb; refine ⟨fun _ _ => ⟨hS.sat, trivial⟩, ?_⟩; obtain ⟨y11, hy11, H⟩ := bnd H; refine WD_op rfl rfl (OpP_callV cb114 (f114_ok (x0 := (x0.list.length : Int)) (x1 := (x1.list.length : Int)) hS.sat  hy11) rfl rfl (fun w12 hb => ?_)); have hS := hS.keep hb; have hO := hO.below hb; refine ⟨fun _ _ => ⟨hS.sat, trivial⟩, ?_⟩; obtain ⟨y13, hy13, H⟩ := bnd H; refine WD_op rfl rfl (OpP_callV cb115 (f115_ok (x0 := x0.list) (x1 := x1.list) hS.sat (h1.mono RInt_mono l0_2) (h2.mono RInt_mono l0_2) hy13) rfl rfl (fun w14 hb => ?_)); have hS := hS.keep hb; have hO := hO.below hb
 refine ⟨fun _ h => noneed (by kernel_rfl) h, ?_⟩
 refine WD_op rfl rfl (OpP_newF (v := fun b => .slice (some ⟨b, 0, none⟩) 3 3) (cs := [.int .i64 y9, .int .i64 y11, .int .i64 y13]) (e := 3) (by kernel_rfl) hS.sat rfl (fun b15 G17 w16 hg hcb15 => ?_))
 have hS := hS.grow hg; have hO := hO.grow hg
 have leG17 := hg.le
 have hfb15 : RSl RInt 1 G17 (some ⟨b15, 0, none⟩) 3 3 [y9, y11, y13] := RSl.of_rd hcb15 (Rd.cons (c := [.int .i64 y9]) rfl rfl (Rd.cons (c := [.int .i64 y11]) rfl rfl (Rd.cons (c := [.int .i64 y13]) rfl rfl (Rd.nil RInt 1 _)))) rfl (by decide)
 refine ⟨fun _ h => noneed (by kernel_rfl) h, ?_⟩
 obtain ⟨y18, hy18, H⟩ := bnd H; refine WD_op rfl rfl (OpP_callV cb113 (f113_ok (x0 := [y9, y11, y13]) hS.sat hfb15 hy18) rfl rfl (fun w19 hb => ?_)); have hS := hS.keep hb; have hO := hO.below hb
 refine ⟨fun _ h => noneed (by kernel_rfl) h, ?_⟩
 refine WD_op rfl rfl (OpP_val (rn_lss rfl rfl) rfl ?_)
 refine ⟨fun _ h => noneed (by kernel_rfl) h, ?_⟩
 refine WD_op rfl rfl (OpP_val (rn_assign (v := (.bool (decide (y18 < 0)))) rfl) rfl ?_)
 refine ⟨fun _ h => noneed (by kernel_rfl) h, ?_⟩
 refine WD_nil ?_; refine WC_ret ?_
 have H : some (decide (y18 < 0)) = some r := H
 have H := Option.some.inj H; subst H
 exact ⟨rfl, hS.below⟩
set_option maxHeartbeats 1000000 in
theorem f80_ok {G0 : Gm} {w0 : World} (hS0 : Sat G0 w0) {x0 : (List TBaneTrip)} {a1 : Option Addr} {n1 c1 : Nat} {x1 : (TBaneTrip → Option Int)} {k2 : Nat} {fi2 ca2 : List Value} {x2 : (Int → Option Bool)} {k3 : Nat} {fi3 ca3 : List Value} (h1 : RSl RTBaneTrip 4 G0 a1 n1 c1 x0) (hf2 : FnOk124 G0 k2 fi2 ca2 x1) (hf3 : FnOk125 G0 k3 fi3 ca3 x2) {r : TChoice × Bool} (H : f80 x0 x1 x2 = some r) :
  Calls Try.prog 80 #[.slice a1 n1 c1, .func (.func k2) (fi2).toArray (ca2).toArray, .func (.func k3) (fi3).toArray (ca3).toArray] w0 (RetG G0 w0 (fun G v => ∃ (ra0 : Option Addr) (rn0 rc0 : Nat), v = .tuple #[.agg #[.int .i64 r.1.cost, .slice ra0 rn0 rc0], .bool r.2] ∧ RSl RInt 1 G ra0 rn0 rc0 r.1.list)) := by
 have hS := Since.start hS0
 have hO : Owns G0 w0 w0.heap.size [] := Owns.nil (Nat.le_refl _)
 unfold f80 at H
 refine enterG (N := 59) (shutG _ _ _) [.cell 6 121, .tmp 7] Try.func80 rfl rfl rfl rfl ?_; refine WC_seq ?_; refine WC_region ?_
 refine WL_op rfl (OpP_newO (v := fun b => .pointer (some ⟨b, 0, none⟩)) (cs := [.int .i64 0, .slice none 0 0]) (e := 121) (by kernel_rfl) hS.sat hO rfl 2 1 rfl (by decide) (fun b4 w5 hb hO => ?_))
 have hS := hS.keep hb; refine WL_val (rn_assign (v := (.bool false)) rfl) rfl ?_; refine WL_nil ?_; refine WC_seq ?_; refine WC_region ?_
 refine WL_op rfl (OpP_newO (v := fun b => .pointer (some ⟨b, 0, none⟩)) (cs := [.int .i64 0, .slice none 0 0]) (e := 121) (by kernel_rfl) hS.sat hO rfl 2 1 rfl (by decide) (fun b7 w8 hb hO => ?_))
 have hS := hS.keep hb; refine WL_nil ?_; refine WC_seq ?_; refine WC_region ?_; refine WL_val (rn_assign (v := (.bool false)) rfl) rfl ?_; refine WL_nil ?_; refine WC_seq ?_; refine WC_seq ?_; refine WC_region ?_; refine WL_val (rn_move (v := (.slice a1 n1 c1)) rfl) rfl ?_; refine WL_val (rn_len sl44 rfl rfl h1.1) rfl ?_; obtain ⟨y10, hy10, H⟩ := bnd H; refine WL_val (rn_shl rfl rfl hy10) rfl ?_; refine WL_val (rn_move (v := (.int .i64 0)) rfl) rfl ?_; refine WL_nil ?_; obtain ⟨q13, hq13, H⟩ := bnd H; refine WC_cut (fun F w => ∃ (Fb : Fr) (G : Gm) (aq13_0 : Option Addr) (nq13_0 cq13_0 : Nat) (aq13_1 : Option Addr) (nq13_1 cq13_1 : Nat), F = upds Fb [(6, .pointer (some ⟨b4, 0, none⟩)), (8, .pointer (some ⟨b7, 0, none⟩)), (9, .bool q13.1)] ∧ Gle G0 G ∧ Since w0.heap.size G0 w0 G w ∧ Owns G w w0.heap.size [⟨121, 2, 1, .slice (some ⟨b7, 0, none⟩) 1 1, [.int .i64 q13.2.1.cost, .slice aq13_0 nq13_0 cq13_0]⟩, ⟨121, 2, 1, .slice (some ⟨b4, 0, none⟩) 1 1, [.int .i64 q13.2.2.cost, .slice aq13_1 nq13_1 cq13_1]⟩] ∧ RSl RInt 1 G aq13_0 nq13_0 cq13_0 q13.2.1.list ∧ RSl RInt 1 G aq13_1 nq13_1 cq13_1 q13.2.2.list) ?_ ?_
 ·refine WC_block (WC_loop hq13 (fun s11 F w => ∃ (Fb : Fr) (G : Gm) (as11_0 : Option Addr) (ns11_0 cs11_0 : Nat) (as11_1 : Option Addr) (ns11_1 cs11_1 : Nat), F = upds Fb [(0, .slice a1 n1 c1), (1, .func (.func k2) (fi2).toArray (ca2).toArray), (2, .func (.func k3) (fi3).toArray (ca3).toArray), (6, .pointer (some ⟨b4, 0, none⟩)), (8, .pointer (some ⟨b7, 0, none⟩)), (9, .bool s11.1), (16, .int .i64 y10), (17, .int .i64 s11.2.1)] ∧ Gle G0 G ∧ Since w0.heap.size G0 w0 G w ∧ Owns G w w0.heap.size [⟨121, 2, 1, .slice (some ⟨b7, 0, none⟩) 1 1, [.int .i64 s11.2.2.1.cost, .slice as11_0 ns11_0 cs11_0]⟩, ⟨121, 2, 1, .slice (some ⟨b4, 0, none⟩) 1 1, [.int .i64 s11.2.2.2.cost, .slice as11_1 ns11_1 cs11_1]⟩] ∧ RSl RInt 1 G as11_0 ns11_0 cs11_0 s11.2.2.1.list ∧ RSl RInt 1 G as11_1 ns11_1 cs11_1 s11.2.2.2.list) ?_ ?_)
  ·have hO : Owns G0 w8 w0.heap.size ([⟨121, 2, 1, .slice (some ⟨b7, 0, none⟩) 1 1, [.int .i64 0, .slice none 0 0]⟩, ⟨121, 2, 1, .slice (some ⟨b4, 0, none⟩) 1 1, [.int .i64 0, .slice none 0 0]⟩]) := hO
   exact ⟨_, G0, none, 0, 0, none, 0, 0, upds_self _ _ ⟨rfl, rfl, rfl, rfl, rfl, rfl, rfl, rfl, trivial⟩, Gle.refl _, hS, hO, (RSl.nil _ _ _ _), (RSl.nil _ _ _ _)⟩
  ·rintro s11 F w15 t14 ⟨Fb, G16, as11_0, ns11_0, cs11_0, as11_1, ns11_1, cs11_1, rfl, leG16, hS, hO, hs11_0, hs11_1⟩
   intro H1 hqq13
   have Hoq13 := H; have H := H1
   unfold f80_b0 at H
   refine WC_seq ?_; refine WC_region ?_; refine WL_val (rn_lss rfl rfl) rfl ?_; refine WL_nil ?_; refine WC_seq ?_; refine WC_cond rfl (fun hb17 => ?_) (fun hb17 => ?_)
   ·have H := ifT hb17 H; refine WC_skip ?_; refine WC_seq ?_; obtain ⟨q18, hq18, H⟩ := bnd H; refine WC_cut (fun F w => ∃ (Fb : Fr) (G : Gm) (aq18_0 : Option Addr) (nq18_0 cq18_0 : Nat) (aq18_1 : Option Addr) (nq18_1 cq18_1 : Nat), F = upds Fb [(0, .slice a1 n1 c1), (1, .func (.func k2) (fi2).toArray (ca2).toArray), (2, .func (.func k3) (fi3).toArray (ca3).toArray), (6, .pointer (some ⟨b4, 0, none⟩)), (8, .pointer (some ⟨b7, 0, none⟩)), (9, .bool q18.1), (16, .int .i64 y10), (17, .int .i64 s11.2.1)] ∧ Gle G16 G ∧ Since w0.heap.size G0 w0 G w ∧ Owns G w w0.heap.size [⟨121, 2, 1, .slice (some ⟨b7, 0, none⟩) 1 1, [.int .i64 q18.2.1.cost, .slice aq18_0 nq18_0 cq18_0]⟩, ⟨121, 2, 1, .slice (some ⟨b4, 0, none⟩) 1 1, [.int .i64 q18.2.2.cost, .slice aq18_1 nq18_1 cq18_1]⟩] ∧ RSl RInt 1 G aq18_0 nq18_0 cq18_0 q18.2.1.list ∧ RSl RInt 1 G aq18_1 nq18_1 cq18_1 q18.2.2.list) ?_ ?_
    ·have Hoq18 := H; have H := hq18; refine WC_block ?_; refine WC_seq ?_; refine WC_region ?_; refine WL_val (rn_move (v := (.int .i64 s11.2.1)) rfl) rfl ?_; refine WL_val (rn_assign (v := (.int .i64 s11.2.1)) rfl) rfl ?_; refine WL_nil ?_; refine WC_seq ?_; refine WC_region ?_; refine WL_val (rn_move (v := (.int .i64 s11.2.1)) rfl) rfl ?_; refine WL_val (rn_move (v := (.slice a1 n1 c1)) rfl) rfl ?_; refine WL_val (rn_len sl44 rfl rfl (h1.mono RTBaneTrip_mono leG16).1) rfl ?_; obtain ⟨y19, hy19, H⟩ := bnd H; refine WL_op rfl (OpP_callG cb105 (f105_ok (x0 := s11.2.1) (x1 := (x0.length : Int)) hS.sat  hy19) rfl rfl (fun vy19 G21 w20 hg hvy19 => ?_)); obtain ⟨a22, n22, c22, ⟨⟩, h22⟩ := hvy19; have hS := hS.grow hg; have hO := hO.grow hg
     have leG21 := hg.le
     refine WL_val (v := (.agg #[.int .i64 0, .slice a22 n22 c22])) (by kernel_rfl) rfl ?_
     refine WL_op rfl (OpP_newO (v := fun b => .pointer (some ⟨b, 0, none⟩)) (cs := [.int .i64 0, .slice none 0 0]) (e := 121) (by kernel_rfl) hS.sat hO rfl 2 1 rfl (by decide) (fun b23 w24 hb hO => ?_))
     have hS := hS.keep hb; refine WL_op rfl (OpP_store (vs := [.int .i64 0, .slice a22 n22 c22]) sz121 hS hO (k := 0) rfl rfl rfl rfl rfl (one_all rfl) (Nat.le_of_ble_eq_true rfl) (fun w26 hS hO => ?_))
     have hO : Owns G21 w26 w0.heap.size ([⟨121, 2, 1, .slice (some ⟨b23, 0, none⟩) 1 1, [.int .i64 0, .slice a22 n22 c22]⟩, ⟨121, 2, 1, .slice (some ⟨b7, 0, none⟩) 1 1, [.int .i64 s11.2.2.1.cost, .slice as11_0 ns11_0 cs11_0]⟩, ⟨121, 2, 1, .slice (some ⟨b4, 0, none⟩) 1 1, [.int .i64 s11.2.2.2.cost, .slice as11_1 ns11_1 cs11_1]⟩]) := hO
     refine WL_nil ?_; refine WC_seq ?_; refine WC_seq ?_; refine WC_region ?_; refine WL_val (rn_fld fd121_1 rfl) rfl ?_; refine WL_val (rn_load na25 rfl (own_cell hO (k := 0) rfl (j := 1) rfl)) rfl ?_; refine WL_val (rn_len sl25 rfl rfl h22.1) rfl ?_; refine WL_val (rn_move (v := (.int .i64 0)) rfl) rfl ?_; refine WL_nil ?_; obtain ⟨q29, hq29, H⟩ := bnd H; refine WC_cut (fun F w => ∃ (Fb : Fr) (G : Gm) (aq29_0 : Option Addr) (nq29_0 cq29_0 : Nat) (aq29_1 : Option Addr) (nq29_1 cq29_1 : Nat) (aq29_2 : Option Addr) (nq29_2 cq29_2 : Nat), F = upds Fb [(0, .slice a1 n1 c1), (1, .func (.func k2) (fi2).toArray (ca2).toArray), (2, .func (.func k3) (fi3).toArray (ca3).toArray), (6, .pointer (some ⟨b4, 0, none⟩)), (8, .pointer (some ⟨b7, 0, none⟩)), (9, .bool s11.1), (10, .int .i64 s11.2.1), (11, .pointer (some ⟨b23, 0, none⟩)), (16, .int .i64 y10), (17, .int .i64 s11.2.1)] ∧ Gle G21 G ∧ Since w0.heap.size G0 w0 G w ∧ Owns G w w0.heap.size [⟨121, 2, 1, .slice (some ⟨b23, 0, none⟩) 1 1, [.int .i64 q29.1.cost, .slice aq29_0 nq29_0 cq29_0]⟩, ⟨121, 2, 1, .slice (some ⟨b7, 0, none⟩) 1 1, [.int .i64 q29.2.1.cost, .slice aq29_1 nq29_1 cq29_1]⟩, ⟨121, 2, 1, .slice (some ⟨b4, 0, none⟩) 1 1, [.int .i64 q29.2.2.cost, .slice aq29_2 nq29_2 cq29_2]⟩] ∧ RSl RInt 1 G aq29_0 nq29_0 cq29_0 q29.1.list ∧ RSl RInt 1 G aq29_1 nq29_1 cq29_1 q29.2.1.list ∧ RSl RInt 1 G aq29_2 nq29_2 cq29_2 q29.2.2.list) ?_ ?_
     ·refine WC_block (WC_loop hq29 (fun s27 F w => ∃ (Fb : Fr) (G : Gm) (as27_0 : Option Addr) (ns27_0 cs27_0 : Nat) (as27_1 : Option Addr) (ns27_1 cs27_1 : Nat) (as27_2 : Option Addr) (ns27_2 cs27_2 : Nat), F = upds Fb [(0, .slice a1 n1 c1), (1, .func (.func k2) (fi2).toArray (ca2).toArray), (2, .func (.func k3) (fi3).toArray (ca3).toArray), (6, .pointer (some ⟨b4, 0, none⟩)), (8, .pointer (some ⟨b7, 0, none⟩)), (9, .bool s11.1), (10, .int .i64 s11.2.1), (11, .pointer (some ⟨b23, 0, none⟩)), (16, .int .i64 y10), (17, .int .i64 s11.2.1), (26, .slice a22 n22 c22), (27, .int .i64 (y19.length : Int)), (28, .int .i64 s27.1)] ∧ Gle G21 G ∧ Since w0.heap.size G0 w0 G w ∧ Owns G w w0.heap.size [⟨121, 2, 1, .slice (some ⟨b23, 0, none⟩) 1 1, [.int .i64 s27.2.1.cost, .slice as27_0 ns27_0 cs27_0]⟩, ⟨121, 2, 1, .slice (some ⟨b7, 0, none⟩) 1 1, [.int .i64 s27.2.2.1.cost, .slice as27_1 ns27_1 cs27_1]⟩, ⟨121, 2, 1, .slice (some ⟨b4, 0, none⟩) 1 1, [.int .i64 s27.2.2.2.cost, .slice as27_2 ns27_2 cs27_2]⟩] ∧ RSl RInt 1 G as27_0 ns27_0 cs27_0 s27.2.1.list ∧ RSl RInt 1 G as27_1 ns27_1 cs27_1 s27.2.2.1.list ∧ RSl RInt 1 G as27_2 ns27_2 cs27_2 s27.2.2.2.list) ?_ ?_)
      ·have hO : Owns G21 w26 w0.heap.size ([⟨121, 2, 1, .slice (some ⟨b23, 0, none⟩) 1 1, [.int .i64 0, .slice a22 n22 c22]⟩, ⟨121, 2, 1, .slice (some ⟨b7, 0, none⟩) 1 1, [.int .i64 s11.2.2.1.cost, .slice as11_0 ns11_0 cs11_0]⟩, ⟨121, 2, 1, .slice (some ⟨b4, 0, none⟩) 1 1, [.int .i64 s11.2.2.2.cost, .slice as11_1 ns11_1 cs11_1]⟩]) := hO
       exact ⟨_, G21, a22, n22, c22, as11_0, ns11_0, cs11_0, as11_1, ns11_1, cs11_1, upds_self _ _ ⟨rfl, rfl, rfl, rfl, rfl, rfl, rfl, rfl, rfl, rfl, rfl, rfl, rfl, trivial⟩, Gle.refl _, hS, hO, h22, (hs11_0.mono RInt_mono leG21), (hs11_1.mono RInt_mono leG21)⟩
      ·rintro s27 F w31 t30 ⟨Fb, G32, as27_0, ns27_0, cs27_0, as27_1, ns27_1, cs27_1, as27_2, ns27_2, cs27_2, rfl, leG32, hS, hO, hs27_0, hs27_1, hs27_2⟩
       intro H1 hqq29
       have Hoq29 := H; have H := H1
       unfold f80_b1 at H
       refine WC_seq ?_; refine WC_region ?_; refine WL_val (rn_lss rfl rfl) rfl ?_; refine WL_nil ?_; refine WC_seq ?_; refine WC_cond rfl (fun hb33 => ?_) (fun hb33 => ?_)
       ·have H := ifT hb33 H; refine WC_skip ?_; refine WC_seq ?_; refine WC_block ?_; refine WC_seq ?_; refine WC_region ?_; obtain ⟨y34, hy34, H⟩ := bnd H; refine WL_idx sl25 (h22.mono RInt_mono leG32) hy34 rfl rfl rfl ?_
        rintro b35 o35 _ hcb35 _ ⟨⟩
        refine WL_val (rn_load na3 rfl (hS.sat.cell (hcb35 0 _ rfl))) rfl ?_; refine WL_val (rn_assign (v := (.int .i64 y34)) rfl) rfl ?_; refine WL_nil ?_; have hS := hS.keep (below_drew _); have hO := hO.below (below_drew _)
        refine WC_regionD mixedO (fun _ w => Sat G32 w ∧ Owns G32 w w0.heap.size [⟨121, 2, 1, .slice (some ⟨b23, 0, none⟩) 1 1, [.int .i64 s27.2.1.cost, .slice as27_0 ns27_0 cs27_0]⟩, ⟨121, 2, 1, .slice (some ⟨b7, 0, none⟩) 1 1, [.int .i64 s27.2.2.1.cost, .slice as27_1 ns27_1 cs27_1]⟩, ⟨121, 2, 1, .slice (some ⟨b4, 0, none⟩) 1 1, [.int .i64 s27.2.2.2.cost, .slice as27_2 ns27_2 cs27_2]⟩]) (.fl 0 (.fl 1 (.fl 2 (.fl 3 (.on 4 (.on 5 (.on 6 (.on 7 (.on 8 (.on 9 (.on 10 .nil))))))))))) (by kernel_rfl) rfl (by kernel_rfl) (fun _ => ⟨hS.sat, hO⟩) ?_
        refine WD_val rfl (fun w hw => rn_fld fd121_0 rfl) rfl ?_; refine WD_val rfl (fun w hw => rn_load na3 rfl (own_cell hw.2 (k := 0) rfl (j := 0) rfl)) rfl ?_; refine WD_val rfl (fun w hw => rn_move (v := (.func (.func k2) (fi2).toArray (ca2).toArray)) rfl) rfl ?_; refine WD_val rfl (fun w hw => rn_move (v := (.slice a1 n1 c1)) rfl) rfl ?_; refine WD_op rfl rfl (OpP_val (rn_move (v := (.int .i64 y34)) rfl) rfl ?_); refine ⟨fun _ _ => ⟨hS.sat, hO⟩, ?_⟩; obtain ⟨y36, hy36, H⟩ := bnd H
        have l0_3 := (leG16.trans leG21).trans leG32
        refine WD_op rfl rfl (OpP_idx sl44 (h1.mono RTBaneTrip_mono l0_3) hy36 rfl rfl rfl ?_)
        rintro b37 o37 _ hcb37 _ ⟨⟩
        refine ⟨fun _ _ => ⟨hS.sat, hO⟩, ?_⟩; refine WD_op rfl rfl (OpP_val (rn_loadA ag109 (cs := [.int .i64 y36.Day, .int .i64 y36.From, .int .i64 y36.To, .int .i64 y36.Cost]) rfl rfl (fun j v hj => hS.sat.cell (hcb37.drop_take 0 4 j v hj))) rfl ?_); refine ⟨fun _ _ => ⟨hS.sat, hO⟩, ?_⟩; obtain ⟨y38, hy38, H⟩ := bnd H; refine WD_op rfl rfl (OpP_callVF hf2.1 (hf2.2 _ _ l0_3 hS.sat y36 _  hy38) rfl rfl rfl (fun w39 hb => ?_)); have hS := hS.keep hb; have hO := hO.below hb; refine ⟨fun _ _ => ⟨hS.sat, hO⟩, ?_⟩; refine WD_op rfl rfl (OpP_val (rn_add rfl rfl) rfl ?_)
        refine ⟨fun _ h => noneed (by kernel_rfl) h, ?_⟩
        refine WD_op rfl rfl (OpP_val (rn_fld fd121_0 rfl) rfl ?_)
        refine ⟨fun _ h => noneed (by kernel_rfl) h, ?_⟩
        refine WD_op rfl rfl (OpP_store (vs := [.int .i64 (IntKind.i64.wrap (s27.2.1.cost + y38))]) sz3 hS hO (k := 0) rfl rfl rfl rfl rfl (one_all rfl) (Nat.le_of_ble_eq_true rfl) (fun w40 hS hO => ?_))
        have hO : Owns G32 w40 w0.heap.size ([⟨121, 2, 1, .slice (some ⟨b23, 0, none⟩) 1 1, [.int .i64 (IntKind.i64.wrap (s27.2.1.cost + y38)), .slice as27_0 ns27_0 cs27_0]⟩, ⟨121, 2, 1, .slice (some ⟨b7, 0, none⟩) 1 1, [.int .i64 s27.2.2.1.cost, .slice as27_1 ns27_1 cs27_1]⟩, ⟨121, 2, 1, .slice (some ⟨b4, 0, none⟩) 1 1, [.int .i64 s27.2.2.2.cost, .slice as27_2 ns27_2 cs27_2]⟩]) := hO
        refine ⟨fun _ h => noneed (by kernel_rfl) h, ?_⟩
        refine WD_nil ?_; refine WC_region ?_; refine WL_val (rn_add rfl rfl) rfl ?_; refine WL_val (rn_move (v := (.int .i64 (IntKind.i64.wrap (s27.1 + 1)))) rfl) rfl ?_; refine WL_nil ?_
        have hO : Owns G32 w40 w0.heap.size ([⟨121, 2, 1, .slice (some ⟨b23, 0, none⟩) 1 1, [.int .i64 (IntKind.i64.wrap (s27.2.1.cost + y38)), .slice as27_0 ns27_0 cs27_0]⟩, ⟨121, 2, 1, .slice (some ⟨b7, 0, none⟩) 1 1, [.int .i64 s27.2.2.1.cost, .slice as27_1 ns27_1 cs27_1]⟩, ⟨121, 2, 1, .slice (some ⟨b4, 0, none⟩) 1 1, [.int .i64 s27.2.2.2.cost, .slice as27_2 ns27_2 cs27_2]⟩]) := hO
        have H := Option.some.inj H; subst H; refine ⟨_, rfl, ?_⟩
        exact ⟨_, G32, as27_0, ns27_0, cs27_0, as27_1, ns27_1, cs27_1, as27_2, ns27_2, cs27_2, upds_self _ _ ⟨rfl, rfl, rfl, rfl, rfl, rfl, rfl, rfl, rfl, rfl, rfl, rfl, rfl, trivial⟩, leG32, hS, hO, hs27_0, hs27_1, hs27_2⟩
       ·have H := ifF hb33 H; refine WC_exit rfl ?_
        have hO : Owns G32 w31 w0.heap.size ([⟨121, 2, 1, .slice (some ⟨b23, 0, none⟩) 1 1, [.int .i64 s27.2.1.cost, .slice as27_0 ns27_0 cs27_0]⟩, ⟨121, 2, 1, .slice (some ⟨b7, 0, none⟩) 1 1, [.int .i64 s27.2.2.1.cost, .slice as27_1 ns27_1 cs27_1]⟩, ⟨121, 2, 1, .slice (some ⟨b4, 0, none⟩) 1 1, [.int .i64 s27.2.2.2.cost, .slice as27_2 ns27_2 cs27_2]⟩]) := hO
        have H := Option.some.inj H; subst H
        have hres := hqq29 _ rfl
        subst hres
        exact ⟨_, G32, as27_0, ns27_0, cs27_0, as27_1, ns27_1, cs27_1, as27_2, ns27_2, cs27_2, upds_self _ _ ⟨rfl, rfl, rfl, rfl, rfl, rfl, rfl, rfl, rfl, rfl, trivial⟩, leG32, hS, hO, hs27_0, hs27_1, hs27_2⟩
     ·rintro F w41 ⟨Fb, G42, aq29_0, nq29_0, cq29_0, aq29_1, nq29_1, cq29_1, aq29_2, nq29_2, cq29_2, rfl, leG42, hS, hO, hq29_0, hq29_1, hq29_2⟩
      refine WC_seq ?_; obtain ⟨q43, hq43, H⟩ := bnd H; refine WC_cut (fun F w => ∃ (Fb : Fr) (G : Gm), F = upds Fb [(0, .slice a1 n1 c1), (1, .func (.func k2) (fi2).toArray (ca2).toArray), (2, .func (.func k3) (fi3).toArray (ca3).toArray), (6, .pointer (some ⟨b4, 0, none⟩)), (8, .pointer (some ⟨b7, 0, none⟩)), (9, .bool s11.1), (11, .pointer (some ⟨b23, 0, none⟩)), (16, .int .i64 y10), (17, .int .i64 s11.2.1), (54, .bool q43)] ∧ Gle G42 G ∧ Since w0.heap.size G0 w0 G w ∧ Owns G w w0.heap.size [⟨121, 2, 1, .slice (some ⟨b23, 0, none⟩) 1 1, [.int .i64 q29.1.cost, .slice aq29_0 nq29_0 cq29_0]⟩, ⟨121, 2, 1, .slice (some ⟨b7, 0, none⟩) 1 1, [.int .i64 q29.2.1.cost, .slice aq29_1 nq29_1 cq29_1]⟩, ⟨121, 2, 1, .slice (some ⟨b4, 0, none⟩) 1 1, [.int .i64 q29.2.2.cost, .slice aq29_2 nq29_2 cq29_2]⟩]) ?_ ?_
      ·have Hoq43 := H; have H := hq43; refine WC_region ?_; refine WL_val (rn_move (v := (.bool s11.1)) rfl) rfl ?_; refine WL_val (rn_not rfl) rfl ?_; refine WL_val (rn_move (v := (.bool (!s11.1))) rfl) rfl ?_
       rcases bcases (!s11.1) with hb44 | hb44
       ·have H := ifT hb44 H; refine WL_guardN rfl hb44 rfl rfl rfl ?_; refine WL_guardN rfl hb44 rfl rfl rfl ?_; refine WL_guardN rfl hb44 rfl rfl rfl ?_; refine WL_val (rn_pickT (v := (.bool true)) rfl hb44 rfl) rfl ?_; refine WL_val (rn_move (v := (.bool true)) rfl) rfl ?_; refine WL_guardY rfl rfl rfl rfl ?_; refine WL_val (rn_move (v := (.func (.func k3) (fi3).toArray (ca3).toArray)) rfl) rfl ?_; refine WL_guardY rfl rfl rfl rfl ?_; refine WL_val (rn_move (v := (.int .i64 s11.2.1)) rfl) rfl ?_; refine WL_guardY rfl rfl rfl rfl ?_; obtain ⟨y45, hy45, H⟩ := bnd H
        have l0_3 := (leG16.trans leG21).trans leG42
        refine WL_op rfl (OpP_callVF hf3.1 (hf3.2 _ _ l0_3 hS.sat s11.2.1 _  hy45) rfl rfl rfl (fun w46 hb => ?_)); have hS := hS.keep hb; have hO := hO.below hb; refine WL_val (rn_pickT (v := (.bool y45)) rfl rfl rfl) rfl ?_; refine WL_nil ?_
        have hO : Owns G42 w46 w0.heap.size ([⟨121, 2, 1, .slice (some ⟨b23, 0, none⟩) 1 1, [.int .i64 q29.1.cost, .slice aq29_0 nq29_0 cq29_0]⟩, ⟨121, 2, 1, .slice (some ⟨b7, 0, none⟩) 1 1, [.int .i64 q29.2.1.cost, .slice aq29_1 nq29_1 cq29_1]⟩, ⟨121, 2, 1, .slice (some ⟨b4, 0, none⟩) 1 1, [.int .i64 q29.2.2.cost, .slice aq29_2 nq29_2 cq29_2]⟩]) := hO
        have H := Option.some.inj H; subst H
        exact ⟨_, G42, upds_self _ _ ⟨rfl, rfl, rfl, rfl, rfl, rfl, rfl, rfl, rfl, rfl, trivial⟩, Gle.refl _, hS, hO⟩
       ·have H := ifF hb44 H; refine WL_guardY rfl hb44 rfl rfl ?_; refine WL_val (rn_loadA ag121 (cs := [.int .i64 q29.1.cost, .slice aq29_0 nq29_0 cq29_0]) rfl rfl (fun j v hj => own_sub hO (k := 0) rfl 0 2 j v hj)) rfl ?_; refine WL_guardY rfl hb44 rfl rfl ?_; refine WL_val (rn_loadA ag121 (cs := [.int .i64 q29.2.1.cost, .slice aq29_1 nq29_1 cq29_1]) rfl rfl (fun j v hj => own_sub hO (k := 1) rfl 0 2 j v hj)) rfl ?_; refine WL_guardY rfl hb44 rfl rfl ?_; obtain ⟨y47, hy47, H⟩ := bnd H; refine WL_op rfl (OpP_callV cb106 (f106_ok (x0 := q29.1) (x1 := q29.2.1) hS.sat hq29_0 hq29_1 hy47) rfl rfl (fun w48 hb => ?_)); have hS := hS.keep hb; have hO := hO.below hb; refine WL_val (rn_pickF (v := (.bool y47)) rfl hb44 rfl) rfl ?_; refine WL_val (rn_move (v := (.bool y47)) rfl) rfl ?_
        rcases bcases y47 with hb49 | hb49
        ·have H := ifT hb49 H; refine WL_guardY rfl hb49 rfl rfl ?_; refine WL_val (rn_move (v := (.func (.func k3) (fi3).toArray (ca3).toArray)) rfl) rfl ?_; refine WL_guardY rfl hb49 rfl rfl ?_; refine WL_val (rn_move (v := (.int .i64 s11.2.1)) rfl) rfl ?_; refine WL_guardY rfl hb49 rfl rfl ?_; obtain ⟨y50, hy50, H⟩ := bnd H
         have l0_3 := (leG16.trans leG21).trans leG42
         refine WL_op rfl (OpP_callVF hf3.1 (hf3.2 _ _ l0_3 hS.sat s11.2.1 _  hy50) rfl rfl rfl (fun w51 hb => ?_)); have hS := hS.keep hb; have hO := hO.below hb; refine WL_val (rn_pickT (v := (.bool y50)) rfl hb49 rfl) rfl ?_; refine WL_nil ?_
         have hO : Owns G42 w51 w0.heap.size ([⟨121, 2, 1, .slice (some ⟨b23, 0, none⟩) 1 1, [.int .i64 q29.1.cost, .slice aq29_0 nq29_0 cq29_0]⟩, ⟨121, 2, 1, .slice (some ⟨b7, 0, none⟩) 1 1, [.int .i64 q29.2.1.cost, .slice aq29_1 nq29_1 cq29_1]⟩, ⟨121, 2, 1, .slice (some ⟨b4, 0, none⟩) 1 1, [.int .i64 q29.2.2.cost, .slice aq29_2 nq29_2 cq29_2]⟩]) := hO
         have H := Option.some.inj H; subst H
         exact ⟨_, G42, upds_self _ _ ⟨rfl, rfl, rfl, rfl, rfl, rfl, rfl, rfl, rfl, rfl, trivial⟩, Gle.refl _, hS, hO⟩
        ·have H := ifF hb49 H; refine WL_guardN rfl hb49 rfl rfl rfl ?_; refine WL_guardN rfl hb49 rfl rfl rfl ?_; refine WL_guardN rfl hb49 rfl rfl rfl ?_; refine WL_val (rn_pickF (v := (.bool false)) rfl hb49 rfl) rfl ?_; refine WL_nil ?_
         have hO : Owns G42 w48 w0.heap.size ([⟨121, 2, 1, .slice (some ⟨b23, 0, none⟩) 1 1, [.int .i64 q29.1.cost, .slice aq29_0 nq29_0 cq29_0]⟩, ⟨121, 2, 1, .slice (some ⟨b7, 0, none⟩) 1 1, [.int .i64 q29.2.1.cost, .slice aq29_1 nq29_1 cq29_1]⟩, ⟨121, 2, 1, .slice (some ⟨b4, 0, none⟩) 1 1, [.int .i64 q29.2.2.cost, .slice aq29_2 nq29_2 cq29_2]⟩]) := hO
         have H := Option.some.inj H; subst H
         exact ⟨_, G42, upds_self _ _ ⟨rfl, rfl, rfl, rfl, rfl, rfl, rfl, rfl, rfl, rfl, trivial⟩, Gle.refl _, hS, hO⟩
      ·rintro F w52 ⟨Fb, G53, rfl, leG53, hS, hO⟩
       refine WC_cond rfl (fun hb54 => ?_) (fun hb54 => ?_)
       ·have H := ifT hb54 H; refine WC_region ?_; refine WL_val (rn_loadA ag121 (cs := [.int .i64 q29.1.cost, .slice aq29_0 nq29_0 cq29_0]) rfl rfl (fun j v hj => own_sub hO (k := 0) rfl 0 2 j v hj)) rfl ?_; refine WL_op rfl (OpP_store (vs := [.int .i64 q29.1.cost, .slice aq29_0 nq29_0 cq29_0]) sz121 hS hO (k := 1) rfl rfl rfl rfl rfl (one_all rfl) (Nat.le_of_ble_eq_true rfl) (fun w55 hS hO => ?_))
        have hO : Owns G53 w55 w0.heap.size ([⟨121, 2, 1, .slice (some ⟨b23, 0, none⟩) 1 1, [.int .i64 q29.1.cost, .slice aq29_0 nq29_0 cq29_0]⟩, ⟨121, 2, 1, .slice (some ⟨b7, 0, none⟩) 1 1, [.int .i64 q29.1.cost, .slice aq29_0 nq29_0 cq29_0]⟩, ⟨121, 2, 1, .slice (some ⟨b4, 0, none⟩) 1 1, [.int .i64 q29.2.2.cost, .slice aq29_2 nq29_2 cq29_2]⟩]) := hO
        refine WL_val (rn_assign (v := (.bool true)) rfl) rfl ?_; refine WL_nil ?_; have hO := hO.drop 0
        have hO : Owns G53 w55 w0.heap.size ([⟨121, 2, 1, .slice (some ⟨b7, 0, none⟩) 1 1, [.int .i64 q29.1.cost, .slice aq29_0 nq29_0 cq29_0]⟩, ⟨121, 2, 1, .slice (some ⟨b4, 0, none⟩) 1 1, [.int .i64 q29.2.2.cost, .slice aq29_2 nq29_2 cq29_2]⟩]) := hO
        have H := Option.some.inj H; subst H
        have l1_4 := (leG21.trans leG42).trans leG53
        exact ⟨_, G53, aq29_0, nq29_0, cq29_0, aq29_2, nq29_2, cq29_2, upds_self _ _ ⟨rfl, rfl, rfl, rfl, rfl, rfl, rfl, rfl, trivial⟩, l1_4, hS, hO, (hq29_0.mono RInt_mono leG53), (hq29_2.mono RInt_mono leG53)⟩
       ·have H := ifF hb54 H; refine WC_skip ?_; have hO := hO.drop 0
        have hO : Owns G53 w52 w0.heap.size ([⟨121, 2, 1, .slice (some ⟨b7, 0, none⟩) 1 1, [.int .i64 q29.2.1.cost, .slice aq29_1 nq29_1 cq29_1]⟩, ⟨121, 2, 1, .slice (some ⟨b4, 0, none⟩) 1 1, [.int .i64 q29.2.2.cost, .slice aq29_2 nq29_2 cq29_2]⟩]) := hO
        have H := Option.some.inj H; subst H
        have l1_4 := (leG21.trans leG42).trans leG53
        exact ⟨_, G53, aq29_1, nq29_1, cq29_1, aq29_2, nq29_2, cq29_2, upds_self _ _ ⟨rfl, rfl, rfl, rfl, rfl, rfl, rfl, rfl, trivial⟩, l1_4, hS, hO, (hq29_1.mono RInt_mono leG53), (hq29_2.mono RInt_mono leG53)⟩
    ·rintro F w56 ⟨Fb, G57, aq18_0, nq18_0, cq18_0, aq18_1, nq18_1, cq18_1, rfl, leG57, hS, hO, hq18_0, hq18_1⟩
     refine WC_region ?_; refine WL_val (rn_add rfl rfl) rfl ?_; refine WL_val (rn_move (v := (.int .i64 (IntKind.i64.wrap (s11.2.1 + 1)))) rfl) rfl ?_; refine WL_nil ?_
     have hO : Owns G57 w56 w0.heap.size ([⟨121, 2, 1, .slice (some ⟨b7, 0, none⟩) 1 1, [.int .i64 q18.2.1.cost, .slice aq18_0 nq18_0 cq18_0]⟩, ⟨121, 2, 1, .slice (some ⟨b4, 0, none⟩) 1 1, [.int .i64 q18.2.2.cost, .slice aq18_1 nq18_1 cq18_1]⟩]) := hO
     have H := Option.some.inj H; subst H; refine ⟨_, rfl, ?_⟩
     have l0_2 := leG16.trans leG57
     exact ⟨_, G57, aq18_0, nq18_0, cq18_0, aq18_1, nq18_1, cq18_1, upds_self _ _ ⟨rfl, rfl, rfl, rfl, rfl, rfl, rfl, rfl, trivial⟩, l0_2, hS, hO, hq18_0, hq18_1⟩
   ·have H := ifF hb17 H; refine WC_exit rfl ?_
    have hO : Owns G16 w15 w0.heap.size ([⟨121, 2, 1, .slice (some ⟨b7, 0, none⟩) 1 1, [.int .i64 s11.2.2.1.cost, .slice as11_0 ns11_0 cs11_0]⟩, ⟨121, 2, 1, .slice (some ⟨b4, 0, none⟩) 1 1, [.int .i64 s11.2.2.2.cost, .slice as11_1 ns11_1 cs11_1]⟩]) := hO
    have H := Option.some.inj H; subst H
    have hres := hqq13 _ rfl
    subst hres
    exact ⟨_, G16, as11_0, ns11_0, cs11_0, as11_1, ns11_1, cs11_1, upds_self _ _ ⟨rfl, rfl, rfl, trivial⟩, leG16, hS, hO, hs11_0, hs11_1⟩
 ·rintro F w58 ⟨Fb, G59, aq13_0, nq13_0, cq13_0, aq13_1, nq13_1, cq13_1, rfl, leG59, hS, hO, hq13_0, hq13_1⟩
  refine WC_seq ?_; refine WC_region ?_; refine WL_val (rn_loadA ag121 (cs := [.int .i64 q13.2.1.cost, .slice aq13_0 nq13_0 cq13_0]) rfl rfl (fun j v hj => own_sub hO (k := 0) rfl 0 2 j v hj)) rfl ?_; refine WL_val (rn_move (v := (.bool q13.1)) rfl) rfl ?_; refine WL_op rfl (OpP_store (vs := [.int .i64 q13.2.1.cost, .slice aq13_0 nq13_0 cq13_0]) sz121 hS hO (k := 1) rfl rfl rfl rfl rfl (one_all rfl) (Nat.le_of_ble_eq_true rfl) (fun w60 hS hO => ?_))
  have hO : Owns G59 w60 w0.heap.size ([⟨121, 2, 1, .slice (some ⟨b7, 0, none⟩) 1 1, [.int .i64 q13.2.1.cost, .slice aq13_0 nq13_0 cq13_0]⟩, ⟨121, 2, 1, .slice (some ⟨b4, 0, none⟩) 1 1, [.int .i64 q13.2.1.cost, .slice aq13_0 nq13_0 cq13_0]⟩]) := hO
  obtain ⟨G61, leG61, hS, hO, hqG61, _⟩ := hO.freeze hS (k := 1) rfl
  have hcG61 : Cells G61 b4 0 [.int .i64 q13.2.1.cost, .slice aq13_0 nq13_0 cq13_0] := (hqG61 _ _ _ _ rfl)
  refine WL_val (rn_assign (v := (.bool q13.1)) rfl) rfl ?_; refine WL_nil ?_; refine WC_ret ?_
  have H : some (q13.2.1, q13.1) = some r := H
  have H := Option.some.inj H; subst H
  exact ⟨[.agg #[.int .i64 q13.2.1.cost, .slice aq13_0 nq13_0 cq13_0], .bool q13.1], ⟨⟨_, rfl, ld_agg (cs := [.int .i64 q13.2.1.cost, .slice aq13_0 nq13_0 cq13_0]) ag121 rfl (fun j v hj => hS.sat.cell (hcG61 j v hj))⟩, rfl, trivial⟩, ⟨_, _, rfl, hS.toGrow, _, _, _, rfl, (hq13_0.mono RInt_mono leG61)⟩⟩
set_option maxHeartbeats 1000000 in
theorem f81_ok {G0 : Gm} {w0 : World} (hS0 : Sat G0 w0) {x0 : TBaneTrip}  {r : Int} (H : f81 x0 = some r) :
  Calls Try.prog 81 #[.agg #[.int .i64 x0.Day, .int .i64 x0.From, .int .i64 x0.To, .int .i64 x0.Cost]] w0 (RetV w0 (.int .i64 r)) := by
 have hS := Since.start hS0
 have hO : Owns G0 w0 w0.heap.size [] := Owns.nil (Nat.le_refl _)
 unfold f81 at H
 refine enter1 (N := 5) (shutV _ _) Try.func81 rfl rfl rfl rfl ?_; refine WC_seq ?_; refine WC_region ?_; refine WL_op rfl (OpP_newF (v := fun b => .pointer (some ⟨b, 0, none⟩)) (cs := [.int .i64 x0.Day, .int .i64 x0.From, .int .i64 x0.To, .int .i64 x0.Cost]) (e := 109) (rn_boxA rfl) hS.sat rfl (fun b1 G3 w2 hg hcb1 => ?_)); have hS := hS.grow hg; have hO := hO.grow hg
 have leG3 := hg.le
 refine WL_val (rn_assign (v := (.int .i64 0)) rfl) rfl ?_; refine WL_nil ?_; refine WC_seq ?_; refine WC_region ?_; refine WL_val (rn_fld fd109_3 rfl) rfl ?_; refine WL_val (rn_load na3 rfl (hS.sat.cell (hcb1 3 _ rfl))) rfl ?_; refine WL_val (rn_assign (v := (.int .i64 x0.Cost)) rfl) rfl ?_; refine WL_nil ?_; refine WC_ret ?_
 have H : some x0.Cost = some r := H
 have H := Option.some.inj H; subst H
 exact ⟨rfl, hS.below⟩
set_option maxHeartbeats 1000000 in
theorem f116_ok {G0 : Gm} {w0 : World} (hS0 : Sat G0 w0) {x0 : (List Int)} {a1 : Option Addr} {n1 c1 : Nat} {x1 : (Int → Option Bool)} {k2 : Nat} {fi2 ca2 : List Value} (h1 : RSl RInt 1 G0 a1 n1 c1 x0) (hf2 : FnOk125 G0 k2 fi2 ca2 x1) {r : Int} (H : f116 x0 x1 = some r) :
  Calls Try.prog 116 #[.slice a1 n1 c1, .func (.func k2) (fi2).toArray (ca2).toArray] w0 (RetV w0 (.int .i64 r)) := by
 have hS := Since.start hS0
 have hO : Owns G0 w0 w0.heap.size [] := Owns.nil (Nat.le_refl _)
 unfold f116 at H
 refine enter1 (N := 19) (shutV _ _) Try.func116 rfl rfl rfl rfl ?_; refine WC_seq ?_; refine WC_region ?_; refine WL_val (rn_assign (v := (.int .i64 0)) rfl) rfl ?_; refine WL_nil ?_; refine WC_seq ?_; refine WC_seq ?_; refine WC_region ?_; refine WL_val (rn_move (v := (.slice a1 n1 c1)) rfl) rfl ?_; refine WL_val (rn_len sl25 rfl rfl h1.1) rfl ?_; refine WL_val (rn_move (v := (.int .i64 0)) rfl) rfl ?_; refine WL_nil ?_; obtain ⟨q5, hq5, H⟩ := bnd H; refine WC_cut (fun F w => ∃ (p4 : Unit) (Fb : Fr) (G : Gm), q5 = .inl p4 ∧ F = upds Fb [] ∧ Gle G0 G ∧ Since w0.heap.size G0 w0 G w ∧ Owns G w w0.heap.size []) ?_ ?_
 ·refine WC_block (WC_loop hq5 (fun s3 F w => ∃ (Fb : Fr) (G : Gm), F = upds Fb [(0, .slice a1 n1 c1), (1, .func (.func k2) (fi2).toArray (ca2).toArray), (7, .int .i64 (x0.length : Int)), (8, .int .i64 s3)] ∧ Gle G0 G ∧ Since w0.heap.size G0 w0 G w ∧ Owns G w w0.heap.size []) ?_ ?_)
  ·have hO : Owns G0 w0 w0.heap.size ([]) := hO
   exact ⟨_, G0, upds_self _ _ ⟨rfl, rfl, rfl, rfl, trivial⟩, Gle.refl _, hS, hO⟩
  ·rintro s3 F w7 t6 ⟨Fb, G8, rfl, leG8, hS, hO⟩
   intro H1 hqq5
   have Hoq5 := H; have H := H1
   unfold f116_b0 at H
   refine WC_seq ?_; refine WC_region ?_; refine WL_val (rn_lss rfl rfl) rfl ?_; refine WL_nil ?_; refine WC_seq ?_; refine WC_cond rfl (fun hb9 => ?_) (fun hb9 => ?_)
   ·have H := ifT hb9 H; refine WC_skip ?_; refine WC_seq ?_; refine WC_block ?_; refine WC_seq ?_; refine WC_region ?_; refine WL_val (rn_move (v := (.int .i64 s3)) rfl) rfl ?_; refine WL_val (rn_assign (v := (.int .i64 s3)) rfl) rfl ?_; refine WL_nil ?_; refine WC_seq ?_; refine WC_region ?_; refine WL_val (rn_move (v := (.func (.func k2) (fi2).toArray (ca2).toArray)) rfl) rfl ?_; refine WL_val (rn_move (v := (.slice a1 n1 c1)) rfl) rfl ?_; refine WL_val (rn_move (v := (.int .i64 s3)) rfl) rfl ?_; obtain ⟨y10, hy10, H⟩ := bnd H; refine WL_idx sl25 (h1.mono RInt_mono leG8) hy10 rfl rfl rfl ?_
    rintro b11 o11 _ hcb11 _ ⟨⟩
    refine WL_val (rn_load na3 rfl (hS.sat.cell (hcb11 0 _ rfl))) rfl ?_; obtain ⟨y12, hy12, H⟩ := bnd H; refine WL_op rfl (OpP_callVF hf2.1 (hf2.2 _ _ leG8 hS.sat y10 _  hy12) rfl rfl rfl (fun w13 hb => ?_)); have hS := hS.keep hb; have hO := hO.below hb; refine WL_nil ?_; refine WC_cond rfl (fun hb14 => ?_) (fun hb14 => ?_)
    ·have H := ifT hb14 H; refine WC_seq ?_; refine WC_region ?_; refine WL_val (rn_move (v := (.int .i64 s3)) rfl) rfl ?_; refine WL_val (rn_assign (v := (.int .i64 s3)) rfl) rfl ?_; refine WL_nil ?_; refine WC_ret ?_; have H := Option.some.inj H; subst H
     have hres := hqq5 _ rfl
     subst hres; have H := Hoq5
     have H : some s3 = some r := H
     have H := Option.some.inj H; subst H
     exact ⟨rfl, hS.below⟩
    ·have H := ifF hb14 H; refine WC_skip ?_; refine WC_region ?_; refine WL_val (rn_add rfl rfl) rfl ?_; refine WL_val (rn_move (v := (.int .i64 (IntKind.i64.wrap (s3 + 1)))) rfl) rfl ?_; refine WL_nil ?_
     have hO : Owns G8 w13 w0.heap.size ([]) := hO
     have H := Option.some.inj H; subst H; refine ⟨_, rfl, ?_⟩
     exact ⟨_, G8, upds_self _ _ ⟨rfl, rfl, rfl, rfl, trivial⟩, leG8, hS, hO⟩
   ·have H := ifF hb9 H; refine WC_exit rfl ?_
    have hO : Owns G8 w7 w0.heap.size ([]) := hO
    have H := Option.some.inj H; subst H
    have hres := hqq5 _ rfl
    subst hres
    exact ⟨_, _, G8, rfl, rfl, leG8, hS, hO⟩
 ·rintro F w15 ⟨p4, Fb, G16, rfl, rfl, leG16, hS, hO⟩
  refine WC_seq ?_; refine WC_region ?_; refine WL_val (rn_assign (v := (.int .i64 (-1))) rfl) rfl ?_; refine WL_nil ?_; refine WC_ret ?_
  have H : some (-1) = some r := H
  have H := Option.some.inj H; subst H
  exact ⟨rfl, hS.below⟩
set_option maxHeartbeats 1000000 in
theorem f107_ok {G0 : Gm} {w0 : World} (hS0 : Sat G0 w0) {x0 : (List Int)} {a1 : Option Addr} {n1 c1 : Nat} {x1 : (Int → Option Bool)} {k2 : Nat} {fi2 ca2 : List Value} (h1 : RSl RInt 1 G0 a1 n1 c1 x0) (hf2 : FnOk125 G0 k2 fi2 ca2 x1) {r : Bool} (H : f107 x0 x1 = some r) :
  Calls Try.prog 107 #[.slice a1 n1 c1, .func (.func k2) (fi2).toArray (ca2).toArray] w0 (RetV w0 (.bool r)) := by
 have hS := Since.start hS0
 have hO : Owns G0 w0 w0.heap.size [] := Owns.nil (Nat.le_refl _)
 unfold f107 at H
 refine enter1 (N := 9) (shutV _ _) Try.func107 rfl rfl rfl rfl ?_; refine WC_seq ?_; refine WC_region ?_; refine WL_val (rn_assign (v := (.bool false)) rfl) rfl ?_; refine WL_nil ?_; refine WC_seq ?_; refine WC_region ?_; refine WL_val (rn_move (v := (.slice a1 n1 c1)) rfl) rfl ?_; refine WL_val (rn_move (v := (.func (.func k2) (fi2).toArray (ca2).toArray)) rfl) rfl ?_; obtain ⟨y3, hy3, H⟩ := bnd H; refine WL_op rfl (OpP_callV cb116 (f116_ok (x0 := x0) (x1 := x1) hS.sat h1 hf2 hy3) rfl rfl (fun w4 hb => ?_)); have hS := hS.keep hb; have hO := hO.below hb; refine WL_val (rn_geq rfl rfl) rfl ?_; refine WL_val (rn_assign (v := (.bool (decide (0 ≤ y3)))) rfl) rfl ?_; refine WL_nil ?_; refine WC_ret ?_
 have H : some (decide (0 ≤ y3)) = some r := H
 have H := Option.some.inj H; subst H
 exact ⟨rfl, hS.below⟩
set_option maxHeartbeats 1000000 in
theorem f108_ok {G0 : Gm} {w0 : World} (hS0 : Sat G0 w0) {x0 : Int} {x1 : (List Int)} {bq1 : Nat} {a1 : Option Addr} {n1 c1 : Nat} (hcq1 : Cells G0 bq1 0 [.slice a1 n1 c1]) (h1 : RSl RInt 1 G0 a1 n1 c1 x1) {r : Bool} (H : f108 x0 x1 = some r) :
  Calls Try.prog 108 #[.int .i64 x0, .pointer (some ⟨bq1, 0, none⟩)] w0 (RetV w0 (.bool r)) := by
 have hS := Since.start hS0
 have hO : Owns G0 w0 w0.heap.size [] := Owns.nil (Nat.le_refl _)
 unfold f108 at H
 refine enter1 (N := 9) (shutV _ _) Try.func108 rfl rfl rfl rfl ?_; refine WC_seq ?_; refine WC_region ?_; refine WL_val (rn_assign (v := (.bool false)) rfl) rfl ?_; refine WL_nil ?_; refine WC_seq ?_; refine WC_region ?_; refine WL_val (rn_load na25 rfl (hS.sat.cell (hcq1 0 _ rfl))) rfl ?_; refine WL_val (rn_move (v := (.int .i64 x0)) rfl) rfl ?_; obtain ⟨y2, hy2, H⟩ := bnd H; refine WL_idx sl25 h1 hy2 rfl rfl rfl ?_
 rintro b3 o3 _ hcb3 _ ⟨⟩
 refine WL_val (rn_load na3 rfl (hS.sat.cell (hcb3 0 _ rfl))) rfl ?_; refine WL_val (rn_geq rfl rfl) rfl ?_; refine WL_val (rn_assign (v := (.bool (decide (0 ≤ y2)))) rfl) rfl ?_; refine WL_nil ?_; refine WC_ret ?_
 have H : some (decide (0 ≤ y2)) = some r := H
 have H := Option.some.inj H; subst H
 exact ⟨rfl, hS.below⟩
set_option maxHeartbeats 1000000 in
theorem f83_ok {G0 : Gm} {w0 : World} (hS0 : Sat G0 w0) {x0 : TSea} {a1 : Option Addr} {n1 c1 : Nat} {a2 : Option Addr} {n2 c2 : Nat} {a3 : Option Addr} {n3 c3 : Nat} (h1 : RSl RInt 1 G0 a1 n1 c1 x0.BaneSea.Infested) (h2 : RSl RInt 1 G0 a2 n2 c2 x0.BaneSea.Clean) (h3 : RSl RTBaneTrip 4 G0 a3 n3 c3 x0.BaneSea.Trips) {r : Bool} (H : f83 x0 = some r) :
  Calls Try.prog 83 #[.agg #[.int .i64 x0.BaneSea.Islets, .slice a1 n1 c1, .slice a2 n2 c2, .slice a3 n3 c3, .int .i64 x0.BaneSea.Wait, .int .i64 x0.shut]] w0 (RetV w0 (.bool r)) := by
 have hS := Since.start hS0
 have hO : Owns G0 w0 w0.heap.size [] := Owns.nil (Nat.le_refl _)
 unfold f83 at H
 refine enter1 (N := 12) (shutV _ _) Try.func83 rfl rfl rfl rfl ?_; refine WC_seq ?_; refine WC_region ?_; refine WL_op rfl (OpP_newF (v := fun b => .pointer (some ⟨b, 0, none⟩)) (cs := [.int .i64 x0.BaneSea.Islets, .slice a1 n1 c1, .slice a2 n2 c2, .slice a3 n3 c3, .int .i64 x0.BaneSea.Wait, .int .i64 x0.shut]) (e := 111) (rn_boxA rfl) hS.sat rfl (fun b4 G6 w5 hg hcb4 => ?_)); have hS := hS.grow hg; have hO := hO.grow hg
 have leG6 := hg.le
 refine WL_val (rn_assign (v := (.bool false)) rfl) rfl ?_; refine WL_nil ?_; refine WC_seq ?_; refine WC_region ?_; refine WL_val (rn_loadA ag111 (cs := [.int .i64 x0.BaneSea.Islets, .slice a1 n1 c1, .slice a2 n2 c2, .slice a3 n3 c3, .int .i64 x0.BaneSea.Wait, .int .i64 x0.shut]) rfl rfl (fun j v hj => hS.sat.cell (hcb4.drop_take 0 6 j v hj))) rfl ?_; obtain ⟨y7, hy7, H⟩ := bnd H; refine WL_op rfl (OpP_callG cb75 (f75_ok (x0 := x0) hS.sat (h1.mono RInt_mono leG6) (h2.mono RInt_mono leG6) (h3.mono RTBaneTrip_mono leG6) hy7) rfl rfl (fun vy7 G9 w8 hg hvy7 => ?_)); obtain ⟨a10, n10, c10, ⟨⟩, h10⟩ := hvy7; have hS := hS.grow hg; have hO := hO.grow hg
 have leG9 := hg.le
 refine WL_op rfl (OpP_newO (v := fun b => .pointer (some ⟨b, 0, none⟩)) (cs := [.slice none 0 0]) (e := 25) (by kernel_rfl) hS.sat hO rfl 1 1 rfl (by decide) (fun b11 w12 hb hO => ?_))
 have hS := hS.keep hb; refine WL_op rfl (OpP_store (vs := [.slice a10 n10 c10]) sz25 hS hO (k := 0) rfl rfl rfl rfl rfl (one_all rfl) (Nat.le_of_ble_eq_true rfl) (fun w14 hS hO => ?_))
 have hO : Owns G9 w14 w0.heap.size ([⟨25, 1, 1, .slice (some ⟨b11, 0, none⟩) 1 1, [.slice a10 n10 c10]⟩]) := hO
 obtain ⟨G15, leG15, hS, hO, hqG15, _⟩ := hO.freeze hS (k := 0) rfl
 have hcG15 : Cells G15 b11 0 [.slice a10 n10 c10] := (hqG15 _ _ _ _ rfl)
 refine WL_nil ?_; refine WC_seq ?_; refine WC_region ?_; refine WL_val (rn_fld fd111_0 rfl) rfl ?_; refine WL_val (rn_fld fd46_2 rfl) rfl ?_
 have l1_3 := leG9.trans leG15
 refine WL_val (rn_load na25 rfl ((hS.sat.le l1_3).cell (hcb4 2 _ rfl))) rfl ?_
 have hF16 : FnOk125 G15 108 [] [.pointer (some ⟨b11, 0, none⟩)] (fun (z0 : Int) => f108 z0 y7) := ⟨cb108, fun G1 W1 hl hw z0 r1 H1 => f108_ok (x0 := z0) (x1 := y7) hw (hcG15.mono hl) ((h10.mono RInt_mono leG15).mono RInt_mono hl) H1⟩
 refine WL_val (rn_func (vs := []) (us := [.pointer (some ⟨b11, 0, none⟩)]) rfl rfl) rfl ?_; obtain ⟨y17, hy17, H⟩ := bnd H
 have l0_3 := leG6.trans l1_3
 refine WL_op rfl (OpP_callV cb107 (f107_ok (x0 := x0.BaneSea.Clean) (x1 := (fun (z0 : Int) => f108 z0 y7)) hS.sat (h2.mono RInt_mono l0_3) hF16 hy17) rfl rfl (fun w18 hb => ?_)); have hS := hS.keep hb; have hO := hO.below hb; refine WL_val (rn_not rfl) rfl ?_; refine WL_val (rn_assign (v := (.bool (!y17))) rfl) rfl ?_; refine WL_nil ?_; refine WC_ret ?_
 have H : some (!y17) = some r := H
 have H := Option.some.inj H; subst H
 exact ⟨rfl, hS.below⟩
set_option maxHeartbeats 1000000 in
theorem f82_ok {G0 : Gm} {w0 : World} (hS0 : Sat G0 w0) {x0 : Int} {x1 : TBaneSea} {bq1 : Nat} {a1 : Option Addr} {n1 c1 : Nat} {a2 : Option Addr} {n2 c2 : Nat} {a3 : Option Addr} {n3 c3 : Nat} (hcq1 : Cells G0 bq1 0 [.int .i64 x1.Islets, .slice a1 n1 c1, .slice a2 n2 c2, .slice a3 n3 c3, .int .i64 x1.Wait]) (h1 : RSl RInt 1 G0 a1 n1 c1 x1.Infested) (h2 : RSl RInt 1 G0 a2 n2 c2 x1.Clean) (h3 : RSl RTBaneTrip 4 G0 a3 n3 c3 x1.Trips) {r : Bool} (H : f82 x0 x1 = some r) :
  Calls Try.prog 82 #[.int .i64 x0, .pointer (some ⟨bq1, 0, none⟩)] w0 (RetV w0 (.bool r)) := by
 have hS := Since.start hS0
 have hO : Owns G0 w0 w0.heap.size [] := Owns.nil (Nat.le_refl _)
 unfold f82 at H
 refine enter1 (N := 8) (shutV _ _) Try.func82 rfl rfl rfl rfl ?_; refine WC_seq ?_; refine WC_region ?_; refine WL_val (rn_assign (v := (.bool false)) rfl) rfl ?_; refine WL_nil ?_; refine WC_seq ?_; refine WC_region ?_; refine WL_val (rn_loadA ag46 (cs := [.int .i64 x1.Islets, .slice a1 n1 c1, .slice a2 n2 c2, .slice a3 n3 c3, .int .i64 x1.Wait]) rfl rfl (fun j v hj => hS.sat.cell (hcq1.drop_take 0 5 j v hj))) rfl ?_; refine WL_val (rn_move (v := (.int .i64 x0)) rfl) rfl ?_
 refine WL_val (v := (.agg #[.int .i64 x1.Islets, .slice a1 n1 c1, .slice a2 n2 c2, .slice a3 n3 c3, .int .i64 x1.Wait, .int .i64 x0])) (by kernel_rfl) rfl ?_
 obtain ⟨y4, hy4, H⟩ := bnd H; refine WL_op rfl (OpP_callV cb83 (f83_ok (x0 := (⟨x1, x0⟩ : TSea)) hS.sat h1 h2 h3 hy4) rfl rfl (fun w5 hb => ?_)); have hS := hS.keep hb; have hO := hO.below hb; refine WL_val (rn_assign (v := (.bool y4)) rfl) rfl ?_; refine WL_nil ?_; refine WC_ret ?_
 have H : some y4 = some r := H
 have H := Option.some.inj H; subst H
 exact ⟨rfl, hS.below⟩
set_option maxHeartbeats 1000000 in
theorem f33_ok {G0 : Gm} {w0 : World} (hS0 : Sat G0 w0) {x0 : TBaneSea} {a1 : Option Addr} {n1 c1 : Nat} {a2 : Option Addr} {n2 c2 : Nat} {a3 : Option Addr} {n3 c3 : Nat} (h1 : RSl RInt 1 G0 a1 n1 c1 x0.Infested) (h2 : RSl RInt 1 G0 a2 n2 c2 x0.Clean) (h3 : RSl RTBaneTrip 4 G0 a3 n3 c3 x0.Trips) {r : (List Int) × Int × Int} (H : f33 x0 = some r) :
  Calls Try.prog 33 #[.agg #[.int .i64 x0.Islets, .slice a1 n1 c1, .slice a2 n2 c2, .slice a3 n3 c3, .int .i64 x0.Wait]] w0 (RetG G0 w0 (fun G v => ∃ (ra0 : Option Addr) (rn0 rc0 : Nat), v = .tuple #[.slice ra0 rn0 rc0, .int .i64 r.2.1, .int .i64 r.2.2] ∧ RSl RInt 1 G ra0 rn0 rc0 r.1)) := by
 have hS := Since.start hS0
 have hO : Owns G0 w0 w0.heap.size [] := Owns.nil (Nat.le_refl _)
 unfold f33 at H
 refine enter3 (N := 23) (shutG _ _ _) Try.func33 rfl rfl rfl rfl ?_; refine WC_seq ?_; refine WC_region ?_; refine WL_op rfl (OpP_newF (v := fun b => .pointer (some ⟨b, 0, none⟩)) (cs := [.int .i64 x0.Islets, .slice a1 n1 c1, .slice a2 n2 c2, .slice a3 n3 c3, .int .i64 x0.Wait]) (e := 46) (rn_boxA rfl) hS.sat rfl (fun b4 G6 w5 hg hcb4 => ?_)); have hS := hS.grow hg; have hO := hO.grow hg
 have leG6 := hg.le
 refine WL_val (rn_assign (v := (.slice none 0 0)) rfl) rfl ?_; refine WL_val (rn_assign (v := (.int .i64 0)) rfl) rfl ?_; refine WL_val (rn_assign (v := (.int .i64 0)) rfl) rfl ?_; refine WL_nil ?_; refine WC_seq ?_; refine WC_seq ?_; refine WC_region ?_; refine WL_val (rn_loadA ag46 (cs := [.int .i64 x0.Islets, .slice a1 n1 c1, .slice a2 n2 c2, .slice a3 n3 c3, .int .i64 x0.Wait]) rfl rfl (fun j v hj => hS.sat.cell (hcb4.drop_take 0 5 j v hj))) rfl ?_; obtain ⟨y7, hy7, H⟩ := bnd H; refine WL_op rfl (OpP_callV cb79 (f79_ok (x0 := x0) hS.sat (h1.mono RInt_mono leG6) (h2.mono RInt_mono leG6) (h3.mono RTBaneTrip_mono leG6) hy7) rfl rfl (fun w8 hb => ?_)); have hS := hS.keep hb; have hO := hO.below hb; refine WL_val (rn_not rfl) rfl ?_; refine WL_nil ?_; refine WC_cond rfl (fun hb9 => ?_) (fun hb9 => ?_)
 ·have H := ifT hb9 H; refine WC_seq ?_; refine WC_region ?_; refine WL_val (rn_assign (v := (.slice none 0 0)) rfl) rfl ?_; refine WL_val (rn_assign (v := (.int .i64 0)) rfl) rfl ?_; refine WL_val (rn_assign (v := (.int .i64 2)) rfl) rfl ?_; refine WL_nil ?_; refine WC_ret ?_
  have H : some ([], 0, 2) = some r := H
  have H := Option.some.inj H; subst H
  exact ⟨_, _, rfl, hS.toGrow, _, _, _, rfl, (RSl.nil RInt 1 G6 none)⟩
 ·have H := ifF hb9 H; refine WC_skip ?_; refine WC_seq ?_; refine WC_region ?_; refine WL_val (rn_fld fd46_3 rfl) rfl ?_; refine WL_val (rn_load na44 rfl (hS.sat.cell (hcb4 3 _ rfl))) rfl ?_
  have hF10 : FnOk125 G6 82 [] [.pointer (some ⟨b4, 0, none⟩)] (fun (z0 : Int) => f82 z0 x0) := ⟨cb82, fun G1 W1 hl hw z0 r1 H1 => f82_ok (x0 := z0) (x1 := x0) hw (hcb4.mono hl) ((h1.mono RInt_mono leG6).mono RInt_mono hl) ((h2.mono RInt_mono leG6).mono RInt_mono hl) ((h3.mono RTBaneTrip_mono leG6).mono RTBaneTrip_mono hl) H1⟩
  refine WL_val (rn_func (vs := []) (us := [.pointer (some ⟨b4, 0, none⟩)]) rfl rfl) rfl ?_
  have hF11 : FnOk124 G6 81 [] [] (fun (z0 : TBaneTrip) => f81 z0) := ⟨cb81, fun G1 W1 hl hw z0 r1 H1 => f81_ok (x0 := z0) hw  H1⟩
  obtain ⟨y12, hy12, H⟩ := bnd H; refine WL_op rfl (OpP_callG cb80 (f80_ok (x0 := x0.Trips) (x1 := (fun (z0 : TBaneTrip) => f81 z0)) (x2 := (fun (z0 : Int) => f82 z0 x0)) hS.sat (h3.mono RTBaneTrip_mono leG6) hF11 hF10 hy12) rfl rfl (fun vy12 G14 w13 hg hvy12 => ?_)); obtain ⟨a15, n15, c15, ⟨⟩, h15⟩ := hvy12; have hS := hS.grow hg; have hO := hO.grow hg
  have leG14 := hg.le
  refine WL_val (rn_move (v := (.tuple #[.agg #[.int .i64 y12.1.cost, .slice a15 n15 c15], .bool y12.2])) rfl) rfl ?_; refine WL_val (rn_extract (v := (.agg #[.int .i64 y12.1.cost, .slice a15 n15 c15])) rfl rfl) rfl ?_; refine WL_val (rn_extract (v := (.bool y12.2)) rfl rfl) rfl ?_
  refine WL_op rfl (OpP_newO (v := fun b => .pointer (some ⟨b, 0, none⟩)) (cs := [.int .i64 0, .slice none 0 0]) (e := 121) (by kernel_rfl) hS.sat hO rfl 2 1 rfl (by decide) (fun b16 w17 hb hO => ?_))
  have hS := hS.keep hb; refine WL_op rfl (OpP_store (vs := [.int .i64 y12.1.cost, .slice a15 n15 c15]) sz121 hS hO (k := 0) rfl rfl rfl rfl rfl (one_all rfl) (Nat.le_of_ble_eq_true rfl) (fun w19 hS hO => ?_))
  have hO : Owns G14 w19 w0.heap.size ([⟨121, 2, 1, .slice (some ⟨b16, 0, none⟩) 1 1, [.int .i64 y12.1.cost, .slice a15 n15 c15]⟩]) := hO
  obtain ⟨G20, leG20, hS, hO, hqG20, _⟩ := hO.freeze hS (k := 0) rfl
  have hcG20 : Cells G20 b16 0 [.int .i64 y12.1.cost, .slice a15 n15 c15] := (hqG20 _ _ _ _ rfl)
  refine WL_val (rn_assign (v := (.bool y12.2)) rfl) rfl ?_; refine WL_nil ?_; refine WC_seq ?_; refine WC_seq ?_; refine WC_region ?_; refine WL_val (rn_move (v := (.bool y12.2)) rfl) rfl ?_; refine WL_val (rn_not rfl) rfl ?_; refine WL_nil ?_; refine WC_cond rfl (fun hb21 => ?_) (fun hb21 => ?_)
  ·have H := ifT hb21 H; refine WC_seq ?_; refine WC_region ?_; refine WL_val (rn_assign (v := (.slice none 0 0)) rfl) rfl ?_; refine WL_val (rn_assign (v := (.int .i64 0)) rfl) rfl ?_; refine WL_val (rn_assign (v := (.int .i64 5)) rfl) rfl ?_; refine WL_nil ?_; refine WC_ret ?_
   have H : some ([], 0, 5) = some r := H
   have H := Option.some.inj H; subst H
   exact ⟨_, _, rfl, hS.toGrow, _, _, _, rfl, (RSl.nil RInt 1 G20 none)⟩
  ·have H := ifF hb21 H; refine WC_skip ?_; refine WC_seq ?_; have hS := hS.keep (below_drew _); have hO := hO.below (below_drew _)
   refine WC_regionD mixedO (fun _ w => Sat G20 w ∧ True) (.fl 0 (.fl 1 (.fl 2 (.fl 3 (.on 4 (.on 5 (.on 6 .nil))))))) (by kernel_rfl) rfl (by kernel_rfl) (fun _ => ⟨hS.sat, trivial⟩) ?_
   refine WD_val rfl (fun w hw => rn_fld fd121_1 rfl) rfl ?_; refine WD_val rfl (fun w hw => rn_load na25 rfl (hw.1.cell (hcG20 1 _ rfl))) rfl ?_; refine WD_val rfl (fun w hw => rn_fld fd121_0 rfl) rfl ?_; refine WD_val rfl (fun w hw => rn_load na3 rfl (hw.1.cell (hcG20 0 _ rfl))) rfl ?_; refine WD_op rfl rfl (OpP_val (rn_assign (v := (.slice a15 n15 c15)) rfl) rfl ?_); refine ⟨fun _ _ => ⟨hS.sat, trivial⟩, ?_⟩; refine WD_op rfl rfl (OpP_val (rn_assign (v := (.int .i64 y12.1.cost)) rfl) rfl ?_)
   refine ⟨fun _ h => noneed (by kernel_rfl) h, ?_⟩
   refine WD_op rfl rfl (OpP_val (rn_assign (v := (.int .i64 0)) rfl) rfl ?_)
   refine ⟨fun _ h => noneed (by kernel_rfl) h, ?_⟩
   refine WD_nil ?_; refine WC_ret ?_
   have H : some (y12.1.list, y12.1.cost, 0) = some r := H
   have H := Option.some.inj H; subst H
   exact ⟨_, _, rfl, hS.toGrow, _, _, _, rfl, (h15.mono RInt_mono leG20)⟩
set_option maxHeartbeats 1000000 in
theorem f34_ok {G0 : Gm} {w0 : World} (hS0 : Sat G0 w0) {x0 : TBaneSea} {a1 : Option Addr} {n1 c1 : Nat} {a2 : Option Addr} {n2 c2 : Nat} {a3 : Option Addr} {n3 c3 : Nat} (h1 : RSl RInt 1 G0 a1 n1 c1 x0.Infested) (h2 : RSl RInt 1 G0 a2 n2 c2 x0.Clean) (h3 : RSl RTBaneTrip 4 G0 a3 n3 c3 x0.Trips) {r : Int × Int} (H : f34 x0 = some r) :
  Calls Try.prog 34 #[.agg #[.int .i64 x0.Islets, .slice a1 n1 c1, .slice a2 n2 c2, .slice a3 n3 c3, .int .i64 x0.Wait]] w0 (RetV w0 (.tuple #[.int .i64 r.1, .int .i64 r.2])) := by
 have hS := Since.start hS0
 have hO : Owns G0 w0 w0.heap.size [] := Owns.nil (Nat.le_refl _)
 unfold f34 at H
 refine enter2 (N := 20) (shutV _ _) Try.func34 rfl rfl rfl rfl ?_; refine WC_seq ?_; refine WC_region ?_; refine WL_op rfl (OpP_newF (v := fun b => .pointer (some ⟨b, 0, none⟩)) (cs := [.int .i64 x0.Islets, .slice a1 n1 c1, .slice a2 n2 c2, .slice a3 n3 c3, .int .i64 x0.Wait]) (e := 46) (rn_boxA rfl) hS.sat rfl (fun b4 G6 w5 hg hcb4 => ?_)); have hS := hS.grow hg; have hO := hO.grow hg
 have leG6 := hg.le
 refine WL_val (rn_assign (v := (.int .i64 0)) rfl) rfl ?_; refine WL_val (rn_assign (v := (.int .i64 0)) rfl) rfl ?_; refine WL_nil ?_; refine WC_seq ?_; refine WC_seq ?_; refine WC_region ?_; refine WL_val (rn_loadA ag46 (cs := [.int .i64 x0.Islets, .slice a1 n1 c1, .slice a2 n2 c2, .slice a3 n3 c3, .int .i64 x0.Wait]) rfl rfl (fun j v hj => hS.sat.cell (hcb4.drop_take 0 5 j v hj))) rfl ?_; obtain ⟨y7, hy7, H⟩ := bnd H; refine WL_op rfl (OpP_callV cb79 (f79_ok (x0 := x0) hS.sat (h1.mono RInt_mono leG6) (h2.mono RInt_mono leG6) (h3.mono RTBaneTrip_mono leG6) hy7) rfl rfl (fun w8 hb => ?_)); have hS := hS.keep hb; have hO := hO.below hb; refine WL_val (rn_not rfl) rfl ?_; refine WL_nil ?_; refine WC_cond rfl (fun hb9 => ?_) (fun hb9 => ?_)
 ·have H := ifT hb9 H; refine WC_seq ?_; refine WC_region ?_; refine WL_val (rn_assign (v := (.int .i64 0)) rfl) rfl ?_; refine WL_val (rn_assign (v := (.int .i64 2)) rfl) rfl ?_; refine WL_nil ?_; refine WC_ret ?_
  have H : some (0, 2) = some r := H
  have H := Option.some.inj H; subst H
  exact ⟨rfl, hS.below⟩
 ·have H := ifF hb9 H; refine WC_skip ?_; refine WC_seq ?_; refine WC_seq ?_; refine WC_region ?_; refine WL_val (rn_move (v := (.int .i64 0)) rfl) rfl ?_; refine WL_nil ?_; obtain ⟨q12, hq12, H⟩ := bnd H; refine WC_cut (fun F w => ∃ (p11 : Unit) (Fb : Fr) (G : Gm), q12 = .inl p11 ∧ F = upds Fb [] ∧ Gle G6 G ∧ Since w0.heap.size G0 w0 G w ∧ Owns G w w0.heap.size []) ?_ ?_
  ·refine WC_block (WC_loop hq12 (fun s10 F w => ∃ (Fb : Fr) (G : Gm), F = upds Fb [(1, .pointer (some ⟨b4, 0, none⟩)), (9, .int .i64 s10)] ∧ Gle G6 G ∧ Since w0.heap.size G0 w0 G w ∧ Owns G w w0.heap.size []) ?_ ?_)
   ·have hO : Owns G6 w8 w0.heap.size ([]) := hO
    exact ⟨_, G6, upds_self _ _ ⟨rfl, rfl, trivial⟩, Gle.refl _, hS, hO⟩
   ·rintro s10 F w14 t13 ⟨Fb, G15, rfl, leG15, hS, hO⟩
    intro H1 hqq12
    have Hoq12 := H; have H := H1
    unfold f34_b0 at H
    refine WC_seq ?_; refine WC_region ?_; refine WL_val (rn_lss rfl rfl) rfl ?_; refine WL_nil ?_; refine WC_seq ?_; refine WC_cond rfl (fun hb16 => ?_) (fun hb16 => ?_)
    ·have H := ifT hb16 H; refine WC_skip ?_; refine WC_seq ?_; refine WC_block ?_; refine WC_seq ?_; refine WC_region ?_; refine WL_val (rn_move (v := (.int .i64 s10)) rfl) rfl ?_; refine WL_val (rn_assign (v := (.int .i64 s10)) rfl) rfl ?_; refine WL_nil ?_; refine WC_seq ?_; refine WC_region ?_; refine WL_val (rn_loadA ag46 (cs := [.int .i64 x0.Islets, .slice a1 n1 c1, .slice a2 n2 c2, .slice a3 n3 c3, .int .i64 x0.Wait]) rfl rfl (fun j v hj => (hS.sat.le leG15).cell (hcb4.drop_take 0 5 j v hj))) rfl ?_
     refine WL_op rfl (OpP_newO (v := fun b => .pointer (some ⟨b, 0, none⟩)) (cs := [.int .i64 0, .slice none 0 0, .slice none 0 0, .slice none 0 0, .int .i64 0]) (e := 46) (by kernel_rfl) hS.sat hO rfl 5 1 rfl (by decide) (fun b17 w18 hb hO => ?_))
     have hS := hS.keep hb; refine WL_op rfl (OpP_store (vs := [.int .i64 x0.Islets, .slice a1 n1 c1, .slice a2 n2 c2, .slice a3 n3 c3, .int .i64 x0.Wait]) sz46 hS hO (k := 0) rfl rfl rfl rfl rfl (one_all rfl) (Nat.le_of_ble_eq_true rfl) (fun w20 hS hO => ?_))
     have hO : Owns G15 w20 w0.heap.size ([⟨46, 5, 1, .slice (some ⟨b17, 0, none⟩) 1 1, [.int .i64 x0.Islets, .slice a1 n1 c1, .slice a2 n2 c2, .slice a3 n3 c3, .int .i64 x0.Wait]⟩]) := hO
     refine WL_nil ?_; refine WC_seq ?_; refine WC_region ?_; refine WL_val (rn_move (v := (.int .i64 s10)) rfl) rfl ?_; refine WL_val (rn_fld fd46_4 rfl) rfl ?_; refine WL_op rfl (OpP_store (vs := [.int .i64 s10]) sz3 hS hO (k := 0) rfl rfl rfl rfl rfl (one_all rfl) (Nat.le_of_ble_eq_true rfl) (fun w21 hS hO => ?_))
     have hO : Owns G15 w21 w0.heap.size ([⟨46, 5, 1, .slice (some ⟨b17, 0, none⟩) 1 1, [.int .i64 x0.Islets, .slice a1 n1 c1, .slice a2 n2 c2, .slice a3 n3 c3, .int .i64 s10]⟩]) := hO
     refine WL_nil ?_; refine WC_seq ?_; refine WC_region ?_; refine WL_val (rn_loadA ag46 (cs := [.int .i64 x0.Islets, .slice a1 n1 c1, .slice a2 n2 c2, .slice a3 n3 c3, .int .i64 s10]) rfl rfl (fun j v hj => own_sub hO (k := 0) rfl 0 5 j v hj)) rfl ?_
     refine WL_val (v := (.agg #[.int .i64 x0.Islets, .slice a1 n1 c1, .slice a2 n2 c2, .slice a3 n3 c3, .int .i64 s10, .int .i64 0])) (by kernel_rfl) rfl ?_
     obtain ⟨y22, hy22, H⟩ := bnd H
     have l0_2 := leG6.trans leG15
     refine WL_op rfl (OpP_callV cb83 (f83_ok (x0 := (⟨(⟨x0.Islets, x0.Infested, x0.Clean, x0.Trips, s10⟩ : TBaneSea), 0⟩ : TSea)) hS.sat (h1.mono RInt_mono l0_2) (h2.mono RInt_mono l0_2) (h3.mono RTBaneTrip_mono l0_2) hy22) rfl rfl (fun w23 hb => ?_)); have hS := hS.keep hb; have hO := hO.below hb; refine WL_nil ?_; refine WC_cond rfl (fun hb24 => ?_) (fun hb24 => ?_)
     ·have H := ifT hb24 H; refine WC_seq ?_; refine WC_region ?_; refine WL_val (rn_move (v := (.int .i64 s10)) rfl) rfl ?_; refine WL_val (rn_assign (v := (.int .i64 s10)) rfl) rfl ?_; refine WL_val (rn_assign (v := (.int .i64 0)) rfl) rfl ?_; refine WL_nil ?_; refine WC_ret ?_; have H := Option.some.inj H; subst H
      have hres := hqq12 _ rfl
      subst hres; have H := Hoq12
      have H : some (s10, 0) = some r := H
      have H := Option.some.inj H; subst H
      exact ⟨rfl, hS.below⟩
     ·have H := ifF hb24 H; refine WC_skip ?_; refine WC_region ?_; refine WL_val (rn_add rfl rfl) rfl ?_; refine WL_val (rn_move (v := (.int .i64 (IntKind.i64.wrap (s10 + 1)))) rfl) rfl ?_; refine WL_nil ?_; have hO := hO.drop 0
      have hO : Owns G15 w23 w0.heap.size ([]) := hO
      have H := Option.some.inj H; subst H; refine ⟨_, rfl, ?_⟩
      exact ⟨_, G15, upds_self _ _ ⟨rfl, rfl, trivial⟩, leG15, hS, hO⟩
    ·have H := ifF hb16 H; refine WC_exit rfl ?_
     have hO : Owns G15 w14 w0.heap.size ([]) := hO
     have H := Option.some.inj H; subst H
     have hres := hqq12 _ rfl
     subst hres
     exact ⟨_, _, G15, rfl, rfl, leG15, hS, hO⟩
  ·rintro F w25 ⟨p11, Fb, G26, rfl, rfl, leG26, hS, hO⟩
   refine WC_seq ?_; refine WC_region ?_; refine WL_val (rn_assign (v := (.int .i64 0)) rfl) rfl ?_; refine WL_val (rn_assign (v := (.int .i64 5)) rfl) rfl ?_; refine WL_nil ?_; refine WC_ret ?_
   have H : some (0, 5) = some r := H
   have H := Option.some.inj H; subst H
   exact ⟨rfl, hS.below⟩
set_option maxHeartbeats 1000000 in
theorem f39_ok {G0 : Gm} {w0 : World} (hS0 : Sat G0 w0) {x0 : TBaneSea} {a1 : Option Addr} {n1 c1 : Nat} {a2 : Option Addr} {n2 c2 : Nat} {a3 : Option Addr} {n3 c3 : Nat} {x1 : (List Int)} {a4 : Option Addr} {n4 c4 : Nat} (h1 : RSl RInt 1 G0 a1 n1 c1 x0.Infested) (h2 : RSl RInt 1 G0 a2 n2 c2 x0.Clean) (h3 : RSl RTBaneTrip 4 G0 a3 n3 c3 x0.Trips) (h4 : RSl RInt 1 G0 a4 n4 c4 x1) {r : (List Int) × Int} (H : f39 x0 x1 = some r) :
  Calls Try.prog 39 #[.agg #[.int .i64 x0.Islets, .slice a1 n1 c1, .slice a2 n2 c2, .slice a3 n3 c3, .int .i64 x0.Wait], .slice a4 n4 c4] w0 (RetG G0 w0 (fun G v => ∃ (ra0 : Option Addr) (rn0 rc0 : Nat), v = .tuple #[.slice ra0 rn0 rc0, .int .i64 r.2] ∧ RSl RInt 1 G ra0 rn0 rc0 r.1)) := by
 have hS := Since.start hS0
 have hO : Owns G0 w0 w0.heap.size [] := Owns.nil (Nat.le_refl _)
 unfold f39 at H
 refine enter2 (N := 18) (shutG _ _ _) Try.func39 rfl rfl rfl rfl ?_; refine WC_seq ?_; refine WC_region ?_; refine WL_op rfl (OpP_newF (v := fun b => .pointer (some ⟨b, 0, none⟩)) (cs := [.int .i64 x0.Islets, .slice a1 n1 c1, .slice a2 n2 c2, .slice a3 n3 c3, .int .i64 x0.Wait]) (e := 46) (rn_boxA rfl) hS.sat rfl (fun b5 G7 w6 hg hcb5 => ?_)); have hS := hS.grow hg; have hO := hO.grow hg
 have leG7 := hg.le
 refine WL_val (rn_assign (v := (.slice none 0 0)) rfl) rfl ?_; refine WL_val (rn_assign (v := (.int .i64 0)) rfl) rfl ?_; refine WL_nil ?_; refine WC_seq ?_; refine WC_region ?_; refine WL_val (rn_loadA ag46 (cs := [.int .i64 x0.Islets, .slice a1 n1 c1, .slice a2 n2 c2, .slice a3 n3 c3, .int .i64 x0.Wait]) rfl rfl (fun j v hj => hS.sat.cell (hcb5.drop_take 0 5 j v hj))) rfl ?_; refine WL_val (rn_move (v := (.slice a4 n4 c4)) rfl) rfl ?_; obtain ⟨y8, hy8, H⟩ := bnd H; refine WL_op rfl (OpP_callG cb73 (f73_ok (x0 := x0) (x1 := x1) hS.sat (h1.mono RInt_mono leG7) (h2.mono RInt_mono leG7) (h3.mono RTBaneTrip_mono leG7) (h4.mono RInt_mono leG7) hy8) rfl rfl (fun vy8 G10 w9 hg hvy8 => ?_)); obtain ⟨a11, n11, c11, a12, n12, c12, a13, n13, c13, ⟨⟩, h11, h12, h13⟩ := hvy8; have hS := hS.grow hg; have hO := hO.grow hg
 have leG10 := hg.le
 refine WL_val (rn_move (v := (.tuple #[.agg #[.int .i64 y8.1.BaneSea.Islets, .slice a11 n11 c11, .slice a12 n12 c12, .slice a13 n13 c13, .int .i64 y8.1.BaneSea.Wait, .int .i64 y8.1.shut], .bool y8.2])) rfl) rfl ?_; refine WL_val (rn_extract (v := (.agg #[.int .i64 y8.1.BaneSea.Islets, .slice a11 n11 c11, .slice a12 n12 c12, .slice a13 n13 c13, .int .i64 y8.1.BaneSea.Wait, .int .i64 y8.1.shut])) rfl rfl) rfl ?_; refine WL_val (rn_extract (v := (.bool y8.2)) rfl rfl) rfl ?_
 refine WL_op rfl (OpP_newO (v := fun b => .pointer (some ⟨b, 0, none⟩)) (cs := [.int .i64 0, .slice none 0 0, .slice none 0 0, .slice none 0 0, .int .i64 0, .int .i64 0]) (e := 111) (by kernel_rfl) hS.sat hO rfl 6 1 rfl (by decide) (fun b14 w15 hb hO => ?_))
 have hS := hS.keep hb; refine WL_op rfl (OpP_store (vs := [.int .i64 y8.1.BaneSea.Islets, .slice a11 n11 c11, .slice a12 n12 c12, .slice a13 n13 c13, .int .i64 y8.1.BaneSea.Wait, .int .i64 y8.1.shut]) sz111 hS hO (k := 0) rfl rfl rfl rfl rfl (one_all rfl) (Nat.le_of_ble_eq_true rfl) (fun w17 hS hO => ?_))
 have hO : Owns G10 w17 w0.heap.size ([⟨111, 6, 1, .slice (some ⟨b14, 0, none⟩) 1 1, [.int .i64 y8.1.BaneSea.Islets, .slice a11 n11 c11, .slice a12 n12 c12, .slice a13 n13 c13, .int .i64 y8.1.BaneSea.Wait, .int .i64 y8.1.shut]⟩]) := hO
 obtain ⟨G18, leG18, hS, hO, hqG18, _⟩ := hO.freeze hS (k := 0) rfl
 have hcG18 : Cells G18 b14 0 [.int .i64 y8.1.BaneSea.Islets, .slice a11 n11 c11, .slice a12 n12 c12, .slice a13 n13 c13, .int .i64 y8.1.BaneSea.Wait, .int .i64 y8.1.shut] := (hqG18 _ _ _ _ rfl)
 refine WL_val (rn_assign (v := (.bool y8.2)) rfl) rfl ?_; refine WL_nil ?_; refine WC_seq ?_; refine WC_seq ?_; refine WC_region ?_; refine WL_val (rn_move (v := (.bool y8.2)) rfl) rfl ?_; refine WL_val (rn_not rfl) rfl ?_; refine WL_nil ?_; refine WC_cond rfl (fun hb19 => ?_) (fun hb19 => ?_)
 ·have H := ifT hb19 H; refine WC_seq ?_; refine WC_region ?_; refine WL_val (rn_assign (v := (.slice none 0 0)) rfl) rfl ?_; refine WL_val (rn_assign (v := (.int .i64 2)) rfl) rfl ?_; refine WL_nil ?_; refine WC_ret ?_
  have H : some ([], 2) = some r := H
  have H := Option.some.inj H; subst H
  exact ⟨_, _, rfl, hS.toGrow, _, _, _, rfl, (RSl.nil RInt 1 G18 none)⟩
 ·have H := ifF hb19 H; refine WC_skip ?_; refine WC_seq ?_; refine WC_region ?_; refine WL_val (rn_loadA ag111 (cs := [.int .i64 y8.1.BaneSea.Islets, .slice a11 n11 c11, .slice a12 n12 c12, .slice a13 n13 c13, .int .i64 y8.1.BaneSea.Wait, .int .i64 y8.1.shut]) rfl rfl (fun j v hj => hS.sat.cell (hcG18.drop_take 0 6 j v hj))) rfl ?_; obtain ⟨y20, hy20, H⟩ := bnd H; refine WL_op rfl (OpP_callG cb75 (f75_ok (x0 := y8.1) hS.sat (h11.mono RInt_mono leG18) (h12.mono RInt_mono leG18) (h13.mono RTBaneTrip_mono leG18) hy20) rfl rfl (fun vy20 G22 w21 hg hvy20 => ?_)); obtain ⟨a23, n23, c23, ⟨⟩, h23⟩ := hvy20; have hS := hS.grow hg; have hO := hO.grow hg
  have leG22 := hg.le
  refine WL_val (rn_assign (v := (.slice a23 n23 c23)) rfl) rfl ?_; refine WL_val (rn_assign (v := (.int .i64 0)) rfl) rfl ?_; refine WL_nil ?_; refine WC_ret ?_
  have H : some (y20, 0) = some r := H
  have H := Option.some.inj H; subst H
  exact ⟨_, _, rfl, hS.toGrow, _, _, _, rfl, h23⟩
end Go.Proofs.Ytgplafckddpnkaa
