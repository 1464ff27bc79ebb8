/-
  The walks: each Go function computes its plain function (printed by a program of ours).
-/
import Derived.Test.YtcaflmilfhhikaaDoorFm
import Derived.Test.YtcaflmilfhhikaaDoorRd
import Derived.Test.YtcaflmilfhhikaaDoorBaseQ
import Derived.Test.YtcaflmilfhhikaaDoorIt
import Derived.Test.YtcaflmilfhhikaaDoorLib
import Derived.Test.YtcaflmilfhhikaaDoorBu
import Derived.Test.YtcaflmilfhhikaaDoorP8W3
namespace Go.Proofs.YtcaflmilfhhikaaDoor
open Go.RowKit
set_option linter.unusedVariables false

set_option maxRecDepth 20000
set_option linter.unusedVariables false
set_option maxHeartbeats 1000000 in
theorem f8m_ok {G0 : Gm} {w0 : World} (hS0 : Sat G0 w0) {x0 : TLandBook} {a1 : Option Addr} {n1 c1 : Nat} {a2 : Option Addr} {n2 c2 : Nat} {a3 : Option Addr} {n3 c3 : Nat} {x1 : TLandMemory} {x2 : Int} (hT : TabG Tryd.prog G0) (h1 : RSl RTLandPerson 2 G0 a1 n1 c1 x0.People) (h2 : RSl RTLandEvent 2 G0 a2 n2 c2 x0.Events) (h3 : RSl RTLandMemory 4 G0 a3 n3 c3 x0.Memories) {r : Bool} (H : f8m x0 x1 x2 = some r) :
  Calls Tryd.prog 8 #[.agg #[.slice a1 n1 c1, .slice a2 n2 c2, .slice a3 n3 c3], .agg #[.int .i64 x1.From, .int .i64 x1.To, .int .i64 x1.Years.Low, .int .i64 x1.Years.High], .int .i64 x2] w0 (RetV w0 (.bool r)) := by
 have hS := Since.start hS0
 have hO : Owns G0 w0 w0.heap.size [] := Owns.nil (Nat.le_refl _)
 unfold f8m at H
 refine enter1 (N := 149) (shutV _ _) Tryd.func8 rfl rfl rfl rfl ?_; refine WC_seq ?_; refine WC_region ?_; refine WL_op rfl (OpP_newF (v := fun b => .pointer (some ⟨b, 0, none⟩)) (cs := [.slice a1 n1 c1, .slice a2 n2 c2, .slice a3 n3 c3]) (e := 26) (rn_boxA rfl) hS.sat rfl (fun b4 G6 w5 hg hcb4 => ?_)); have hS := hS.grow hg; have hO := hO.grow hg
 have leG6 := hg.le
 refine WL_op rfl (OpP_newF (v := fun b => .pointer (some ⟨b, 0, none⟩)) (cs := [.int .i64 x1.From, .int .i64 x1.To, .int .i64 x1.Years.Low, .int .i64 x1.Years.High]) (e := 46) (rn_boxA rfl) hS.sat rfl (fun b7 G9 w8 hg hcb7 => ?_)); have hS := hS.grow hg; have hO := hO.grow hg
 have leG9 := hg.le
 refine WL_val (rn_assign (v := (.bool false)) rfl) rfl ?_; refine WL_nil ?_; refine WC_seq ?_; refine WC_region ?_; refine WL_val (rn_loadA ag26 (cs := [.slice a1 n1 c1, .slice a2 n2 c2, .slice a3 n3 c3]) rfl rfl (fun j v hj => (hS.sat.le leG9).cell (hcb4.drop_take 0 3 j v hj))) rfl ?_
 refine WL_op rfl (OpP_newO (v := fun b => .pointer (some ⟨b, 0, none⟩)) (cs := [.slice none 0 0, .slice none 0 0, .slice none 0 0]) (e := 26) (by kernel_rfl) hS.sat hO rfl 3 1 rfl (by decide) (fun b10 w11 hb hO => ?_))
 have hS := hS.keep hb; refine WL_op rfl (OpP_store (vs := [.slice a1 n1 c1, .slice a2 n2 c2, .slice a3 n3 c3]) sz26 hS hO (k := 0) rfl rfl rfl rfl rfl (one_all rfl) (Nat.le_of_ble_eq_true rfl) (fun w13 hS hO => ?_))
 have hO : Owns G9 w13 w0.heap.size ([⟨26, 3, 1, .slice (some ⟨b10, 0, none⟩) 1 1, [.slice a1 n1 c1, .slice a2 n2 c2, .slice a3 n3 c3]⟩]) := hO
 refine WL_nil ?_; refine WC_seq ?_; have hS := hS.keep (below_drew _); have hO := hO.below (below_drew _)
 refine WC_regionD mixedO (fun _ w => Sat G9 w ∧ True) (.fl 0 (.fl 1 (.fl 3 (.two 2 (.on 4 (.on 5 (.on 6 (.on 7 .nil)))) 4 (.on 2 (.on 5 (.on 6 (.on 7 .nil)))))))) (by kernel_rfl) rfl (by kernel_rfl) (fun _ => ⟨hS.sat, trivial⟩) ?_
 refine WD_val rfl (fun w hw => rn_fld fd26_2 rfl) rfl ?_; refine WD_val rfl (fun w hw => rn_load na24 rfl ((hw.1.le leG9).cell (hcb4 2 _ rfl))) rfl ?_; refine WD_val rfl (fun w hw => rn_loadA ag46 (cs := [.int .i64 x1.From, .int .i64 x1.To, .int .i64 x1.Years.Low, .int .i64 x1.Years.High]) rfl rfl (fun j v hj => hw.1.cell (hcb7.drop_take 0 4 j v hj))) rfl ?_; refine WD_two ?_ ?_
 ·have hO := hO.cons_nil 46 4; obtain ⟨y15, hy15, H⟩ := bnd H
  have l0_2 := leG6.trans leG9
  refine WD_op rfl rfl (OpP_appendB (k := 0) sl24 RTLandMemory_one hS hO rfl rfl (Rd.nil RTLandMemory 4 G9) (h3.mono RTLandMemory_mono l0_2) hy15 rfl rfl rfl rfl rfl rfl (fun aw16 cw16 w16 clw16 hS hO hrw16 => ?_))
  have hO : Owns G9 w16 w0.heap.size ([⟨46, 4, y15.length, .slice aw16 y15.length cw16, clw16⟩, ⟨26, 3, 1, .slice (some ⟨b10, 0, none⟩) 1 1, [.slice a1 n1 c1, .slice a2 n2 c2, .slice a3 n3 c3]⟩]) := hO
  refine ⟨fun _ _ => ⟨hS.sat, trivial⟩, ?_⟩
  refine WD_op rfl rfl (OpP_newF (v := fun b => .slice (some ⟨b, 0, none⟩) 1 1) (cs := [.int .i64 x1.From, .int .i64 x1.To, .int .i64 x1.Years.Low, .int .i64 x1.Years.High]) (e := 46) (by kernel_rfl) hS.sat rfl (fun b17 G19 w18 hg hcb17 => ?_))
  have hS := hS.grow hg; have hO := hO.grow hg
  have leG19 := hg.le
  have hfb17 : RSl RTLandMemory 4 G19 (some ⟨b17, 0, none⟩) 1 1 [x1] := RSl.of_rd hcb17 (Rd.cons (c := [.int .i64 x1.From, .int .i64 x1.To, .int .i64 x1.Years.Low, .int .i64 x1.Years.High]) rfl rfl (Rd.nil RTLandMemory 4 _)) rfl (by decide)
  refine ⟨fun _ _ => ⟨hS.sat.le leG19, trivial⟩, ?_⟩; obtain ⟨y20, hy20, H⟩ := bnd H; refine WD_op rfl rfl (OpP_appendB (k := 0) sl24 RTLandMemory_one hS hO rfl rfl (hrw16.mono RTLandMemory_mono leG19) hfb17 hy20 rfl rfl rfl rfl rfl rfl (fun aw21 cw21 w21 clw21 hS hO hrw21 => ?_))
  have hO : Owns G19 w21 w0.heap.size ([⟨46, 4, y20.length, .slice aw21 y20.length cw21, clw21⟩, ⟨26, 3, 1, .slice (some ⟨b10, 0, none⟩) 1 1, [.slice a1 n1 c1, .slice a2 n2 c2, .slice a3 n3 c3]⟩]) := hO
  refine ⟨fun _ h => noneed (by kernel_rfl) h, ?_⟩
  refine WD_op rfl rfl (OpP_val (rn_fld fd26_2 rfl) rfl ?_)
  refine ⟨fun _ h => noneed (by kernel_rfl) h, ?_⟩
  refine WD_op rfl rfl (OpP_store (vs := [.slice aw21 y20.length cw21]) sz24 hS hO (k := 1) rfl rfl rfl rfl rfl (one_all rfl) (Nat.le_of_ble_eq_true rfl) (fun w22 hS hO => ?_))
  have hO : Owns G19 w22 w0.heap.size ([⟨46, 4, y20.length, .slice aw21 y20.length cw21, clw21⟩, ⟨26, 3, 1, .slice (some ⟨b10, 0, none⟩) 1 1, [.slice a1 n1 c1, .slice a2 n2 c2, .slice aw21 y20.length cw21]⟩]) := hO
  refine ⟨fun _ h => noneed (by kernel_rfl) h, ?_⟩
  refine WD_nil ?_; refine WC_seq ?_; refine WC_seq ?_; obtain ⟨q23, hq23, H⟩ := bnd H; refine WC_cut (fun F w => ∃ (Fb : Fr) (G : Gm), F = upds Fb [(2, .int .i64 x2), (3, .pointer (some ⟨b4, 0, none⟩)), (7, .pointer (some ⟨b10, 0, none⟩)), (44, .bool q23)] ∧ Gle G19 G ∧ Since w0.heap.size G0 w0 G w ∧ Owns G w w0.heap.size [⟨46, 4, y20.length, .slice aw21 y20.length cw21, clw21⟩, ⟨26, 3, 1, .slice (some ⟨b10, 0, none⟩) 1 1, [.slice a1 n1 c1, .slice a2 n2 c2, .slice aw21 y20.length cw21]⟩]) ?_ ?_
  ·have Hoq23 := H; have H := hq23; refine WC_region ?_
   have l1_3 := leG9.trans leG19
   refine WL_val (rn_loadA ag26 (cs := [.slice a1 n1 c1, .slice a2 n2 c2, .slice a3 n3 c3]) rfl rfl (fun j v hj => (hS.sat.le l1_3).cell (hcb4.drop_take 0 3 j v hj))) rfl ?_; obtain ⟨y24, hy24, H⟩ := bnd H
   have l0_3 := l0_2.trans leG19
   refine WL_op rfl (OpP_callV cb14 (f14_ok (x0 := x0) hS.sat (h1.mono RTLandPerson_mono l0_3) (h2.mono RTLandEvent_mono l0_3) (h3.mono RTLandMemory_mono l0_3) hy24) rfl rfl (fun w25 hb => ?_)); have hS := hS.keep hb; have hO := hO.below hb; refine WL_val (rn_not rfl) rfl ?_; refine WL_val (rn_move (v := (.bool (!y24))) rfl) rfl ?_
   rcases bcases (!y24) with hb26 | hb26
   ·have H := ifT hb26 H; refine WL_guardN rfl hb26 rfl rfl rfl ?_; refine WL_guardN rfl hb26 rfl rfl rfl ?_; refine WL_guardN rfl hb26 rfl rfl rfl ?_; refine WL_val (rn_pickT (v := (.bool true)) rfl hb26 rfl) rfl ?_; refine WL_val (rn_move (v := (.bool true)) rfl) rfl ?_; refine WL_guardN rfl rfl rfl rfl rfl ?_; refine WL_guardN rfl rfl rfl rfl rfl ?_; refine WL_guardN rfl rfl rfl rfl rfl ?_; refine WL_val (rn_pickT (v := (.bool true)) rfl rfl rfl) rfl ?_; refine WL_val (rn_move (v := (.bool true)) rfl) rfl ?_; refine WL_guardN rfl rfl rfl rfl rfl ?_; refine WL_guardN rfl rfl rfl rfl rfl ?_; refine WL_guardN rfl rfl rfl rfl rfl ?_; refine WL_val (rn_pickT (v := (.bool true)) rfl rfl rfl) rfl ?_; refine WL_nil ?_
    have hO : Owns G19 w25 w0.heap.size ([⟨46, 4, y20.length, .slice aw21 y20.length cw21, clw21⟩, ⟨26, 3, 1, .slice (some ⟨b10, 0, none⟩) 1 1, [.slice a1 n1 c1, .slice a2 n2 c2, .slice aw21 y20.length cw21]⟩]) := hO
    have H := Option.some.inj H; subst H
    exact ⟨_, G19, upds_self _ _ ⟨rfl, rfl, rfl, rfl, trivial⟩, Gle.refl _, hS, hO⟩
   ·have H := ifF hb26 H; refine WL_guardY rfl hb26 rfl rfl ?_; refine WL_val (rn_loadA ag26 (cs := [.slice a1 n1 c1, .slice a2 n2 c2, .slice a3 n3 c3]) rfl rfl (fun j v hj => (hS.sat.le l1_3).cell (hcb4.drop_take 0 3 j v hj))) rfl ?_; refine WL_guardY rfl hb26 rfl rfl ?_; obtain ⟨y27, hy27, H⟩ := bnd H; refine WL_op rfl (OpP_callV cb18 (f18_ok (x0 := x0) hS.sat (h1.mono RTLandPerson_mono l0_3) (h2.mono RTLandEvent_mono l0_3) (h3.mono RTLandMemory_mono l0_3) hy27) rfl rfl (fun w28 hb => ?_)); have hS := hS.keep hb; have hO := hO.below hb; refine WL_guardY rfl hb26 rfl rfl ?_; refine WL_val (rn_not rfl) rfl ?_; refine WL_val (rn_pickF (v := (.bool (!y27))) rfl hb26 rfl) rfl ?_; refine WL_val (rn_move (v := (.bool (!y27))) rfl) rfl ?_
    rcases bcases (!y27) with hb29 | hb29
    ·have H := ifT hb29 H; refine WL_guardN rfl hb29 rfl rfl rfl ?_; refine WL_guardN rfl hb29 rfl rfl rfl ?_; refine WL_guardN rfl hb29 rfl rfl rfl ?_; refine WL_val (rn_pickT (v := (.bool true)) rfl hb29 rfl) rfl ?_; refine WL_val (rn_move (v := (.bool true)) rfl) rfl ?_; refine WL_guardN rfl rfl rfl rfl rfl ?_; refine WL_guardN rfl rfl rfl rfl rfl ?_; refine WL_guardN rfl rfl rfl rfl rfl ?_; refine WL_val (rn_pickT (v := (.bool true)) rfl rfl rfl) rfl ?_; refine WL_nil ?_
     have hO : Owns G19 w28 w0.heap.size ([⟨46, 4, y20.length, .slice aw21 y20.length cw21, clw21⟩, ⟨26, 3, 1, .slice (some ⟨b10, 0, none⟩) 1 1, [.slice a1 n1 c1, .slice a2 n2 c2, .slice aw21 y20.length cw21]⟩]) := hO
     have H := Option.some.inj H; subst H
     exact ⟨_, G19, upds_self _ _ ⟨rfl, rfl, rfl, rfl, trivial⟩, Gle.refl _, hS, hO⟩
    ·have H := ifF hb29 H; refine WL_guardY rfl hb29 rfl rfl ?_; refine WL_val (rn_loadA ag26 (cs := [.slice a1 n1 c1, .slice a2 n2 c2, .slice aw21 y20.length cw21]) rfl rfl (fun j v hj => own_sub hO (k := 1) rfl 0 3 j v hj)) rfl ?_; refine WL_guardY rfl hb29 rfl rfl ?_; obtain ⟨y30, hy30, H⟩ := bnd H; obtain ⟨Gv31, leGv31, hSGv31, hOGv31, hvGv31⟩ := hO.freezeS hS RTLandMemory_mono (k := 0) rfl hrw21 rfl; refine WL_op rfl (OpP_callV cb18 (f18_ok (x0 := (⟨x0.People, x0.Events, y20⟩ : TLandBook)) hSGv31.sat ((h1.mono RTLandPerson_mono l0_3).mono RTLandPerson_mono leGv31) ((h2.mono RTLandEvent_mono l0_3).mono RTLandEvent_mono leGv31) hvGv31 hy30) rfl rfl (fun w32 hb => ?_)); have hS := hS.keep hb; have hO := hO.below hb; refine WL_guardY rfl hb29 rfl rfl ?_; refine WL_val (rn_not rfl) rfl ?_; refine WL_val (rn_pickF (v := (.bool (!y30))) rfl hb29 rfl) rfl ?_; refine WL_val (rn_move (v := (.bool (!y30))) rfl) rfl ?_
     rcases bcases (!y30) with hb33 | hb33
     ·have H := ifT hb33 H; refine WL_guardN rfl hb33 rfl rfl rfl ?_; refine WL_guardN rfl hb33 rfl rfl rfl ?_; refine WL_guardN rfl hb33 rfl rfl rfl ?_; refine WL_val (rn_pickT (v := (.bool true)) rfl hb33 rfl) rfl ?_; refine WL_nil ?_
      have hO : Owns G19 w32 w0.heap.size ([⟨46, 4, y20.length, .slice aw21 y20.length cw21, clw21⟩, ⟨26, 3, 1, .slice (some ⟨b10, 0, none⟩) 1 1, [.slice a1 n1 c1, .slice a2 n2 c2, .slice aw21 y20.length cw21]⟩]) := hO
      have H := Option.some.inj H; subst H
      exact ⟨_, G19, upds_self _ _ ⟨rfl, rfl, rfl, rfl, trivial⟩, Gle.refl _, hS, hO⟩
     ·have H := ifF hb33 H; refine WL_guardY rfl hb33 rfl rfl ?_; refine WL_val (rn_move (v := (.int .i64 x2)) rfl) rfl ?_; refine WL_guardY rfl hb33 rfl rfl ?_; obtain ⟨y34, hy34, H⟩ := bnd H; refine WL_op rfl (OpP_callV cb33 (f33_ok (x0 := x2) hS.sat  hy34) rfl rfl (fun w35 hb => ?_)); have hS := hS.keep hb; have hO := hO.below hb; refine WL_guardY rfl hb33 rfl rfl ?_; refine WL_val (rn_not rfl) rfl ?_; refine WL_val (rn_pickF (v := (.bool (!y34))) rfl hb33 rfl) rfl ?_; refine WL_nil ?_
      have hO : Owns G19 w35 w0.heap.size ([⟨46, 4, y20.length, .slice aw21 y20.length cw21, clw21⟩, ⟨26, 3, 1, .slice (some ⟨b10, 0, none⟩) 1 1, [.slice a1 n1 c1, .slice a2 n2 c2, .slice aw21 y20.length cw21]⟩]) := hO
      have H := Option.some.inj H; subst H
      exact ⟨_, G19, upds_self _ _ ⟨rfl, rfl, rfl, rfl, trivial⟩, Gle.refl _, hS, hO⟩
  ·rintro F w36 ⟨Fb, G37, rfl, leG37, hS, hO⟩
   refine WC_cond rfl (fun hb38 => ?_) (fun hb38 => ?_)
   ·have H := ifT hb38 H; refine WC_seq ?_; refine WC_region ?_; obtain ⟨y39, hy39, H⟩ := bnd H
    have l0_4 := (l0_2.trans leG19).trans leG37
    refine WL_op rfl (OpP_callV cb15 (f15_ok  hS.sat (hT.mono l0_4)  hy39) rfl rfl (fun w40 hb => ?_)); have hS := hS.keep hb; have hO := hO.below hb; refine WL_val (rn_assign (v := (.bool y39)) rfl) rfl ?_; refine WL_nil ?_; refine WC_ret ?_
    have H : some y39 = some r := H
    have H := Option.some.inj H; subst H
    exact ⟨rfl, hS.below⟩
   ·have H := ifF hb38 H; refine WC_skip ?_; refine WC_seq ?_; refine WC_region ?_
    have l1_4 := (leG9.trans leG19).trans leG37
    refine WL_val (rn_loadA ag26 (cs := [.slice a1 n1 c1, .slice a2 n2 c2, .slice a3 n3 c3]) rfl rfl (fun j v hj => (hS.sat.le l1_4).cell (hcb4.drop_take 0 3 j v hj))) rfl ?_; obtain ⟨y41, hy41, H⟩ := bnd H
    have l0_4 := (l0_2.trans leG19).trans leG37
    refine WL_op rfl (OpP_callG cb34 (f34_ok (x0 := x0) hS.sat (h1.mono RTLandPerson_mono l0_4) (h2.mono RTLandEvent_mono l0_4) (h3.mono RTLandMemory_mono l0_4) hy41) rfl rfl (fun vy41 G43 w42 hg hvy41 => ?_)); obtain ⟨a44, n44, c44, ⟨⟩, h44⟩ := hvy41; have hS := hS.grow hg; have hO := hO.grow hg
    have leG43 := hg.le
    refine WL_val (rn_move (v := (.tuple #[.slice a44 n44 c44, .int .i64 y41.2])) rfl) rfl ?_; refine WL_val (rn_extract (v := (.slice a44 n44 c44)) rfl rfl) rfl ?_; refine WL_val (rn_extract (v := (.int .i64 y41.2)) rfl rfl) rfl ?_; refine WL_val (rn_assign (v := (.slice a44 n44 c44)) rfl) rfl ?_; refine WL_val (rn_assign (v := (.int .i64 y41.2)) rfl) rfl ?_; refine WL_nil ?_; refine WC_seq ?_; refine WC_region ?_; refine WL_val (rn_loadA ag26 (cs := [.slice a1 n1 c1, .slice a2 n2 c2, .slice aw21 y20.length cw21]) rfl rfl (fun j v hj => own_sub hO (k := 1) rfl 0 3 j v hj)) rfl ?_
    have l3_5 := leG37.trans leG43
    obtain ⟨G45, leG45, hS, hO, hfG45⟩ := hO.freezeS hS RTLandMemory_mono (k := 0) rfl (hrw21.mono RTLandMemory_mono l3_5) rfl; obtain ⟨y46, hy46, H⟩ := bnd H
    have l0_6 := (l0_4.trans leG43).trans leG45
    refine WL_op rfl (OpP_callG cb34 (f34_ok (x0 := (⟨x0.People, x0.Events, y20⟩ : TLandBook)) hS.sat (h1.mono RTLandPerson_mono l0_6) (h2.mono RTLandEvent_mono l0_6) hfG45 hy46) rfl rfl (fun vy46 G48 w47 hg hvy46 => ?_)); obtain ⟨a49, n49, c49, ⟨⟩, h49⟩ := hvy46; have hS := hS.grow hg; have hO := hO.grow hg
    have leG48 := hg.le
    refine WL_val (rn_move (v := (.tuple #[.slice a49 n49 c49, .int .i64 y46.2])) rfl) rfl ?_; refine WL_val (rn_extract (v := (.slice a49 n49 c49)) rfl rfl) rfl ?_; refine WL_val (rn_extract (v := (.int .i64 y46.2)) rfl rfl) rfl ?_; refine WL_val (rn_assign (v := (.slice a49 n49 c49)) rfl) rfl ?_; refine WL_val (rn_assign (v := (.int .i64 y46.2)) rfl) rfl ?_; refine WL_nil ?_; refine WC_seq ?_; refine WC_region ?_
    have l1_7 := ((l1_4.trans leG43).trans leG45).trans leG48
    refine WL_val (rn_loadA ag26 (cs := [.slice a1 n1 c1, .slice a2 n2 c2, .slice a3 n3 c3]) rfl rfl (fun j v hj => (hS.sat.le l1_7).cell (hcb4.drop_take 0 3 j v hj))) rfl ?_; refine WL_val (rn_move (v := (.int .i64 x2)) rfl) rfl ?_; obtain ⟨y50, hy50, H⟩ := bnd H
    have l0_7 := l0_6.trans leG48
    refine WL_op rfl (OpP_callG cb35 (f35_ok (x0 := x0) (x1 := x2) hS.sat (h1.mono RTLandPerson_mono l0_7) (h2.mono RTLandEvent_mono l0_7) (h3.mono RTLandMemory_mono l0_7) hy50) rfl rfl (fun vy50 G52 w51 hg hvy50 => ?_)); obtain ⟨a53, n53, c53, ⟨⟩, h53⟩ := hvy50; have hS := hS.grow hg; have hO := hO.grow hg
    have leG52 := hg.le
    refine WL_val (rn_move (v := (.tuple #[.slice a53 n53 c53, .int .i64 y50.2.1, .int .i64 y50.2.2])) rfl) rfl ?_; refine WL_val (rn_extract (v := (.slice a53 n53 c53)) rfl rfl) rfl ?_; refine WL_val (rn_extract (v := (.int .i64 y50.2.1)) rfl rfl) rfl ?_; refine WL_val (rn_extract (v := (.int .i64 y50.2.2)) rfl rfl) rfl ?_; refine WL_val (rn_assign (v := (.slice a53 n53 c53)) rfl) rfl ?_; refine WL_val (rn_assign (v := (.int .i64 y50.2.1)) rfl) rfl ?_; refine WL_val (rn_assign (v := (.int .i64 y50.2.2)) rfl) rfl ?_; refine WL_nil ?_; refine WC_seq ?_; refine WC_region ?_; refine WL_val (rn_loadA ag26 (cs := [.slice a1 n1 c1, .slice a2 n2 c2, .slice aw21 y20.length cw21]) rfl rfl (fun j v hj => own_sub hO (k := 0) rfl 0 3 j v hj)) rfl ?_; refine WL_val (rn_move (v := (.int .i64 x2)) rfl) rfl ?_; obtain ⟨y54, hy54, H⟩ := bnd H
    have l0_8 := l0_7.trans leG52
    have l6_8 := leG48.trans leG52
    refine WL_op rfl (OpP_callG cb35 (f35_ok (x0 := (⟨x0.People, x0.Events, y20⟩ : TLandBook)) (x1 := x2) hS.sat (h1.mono RTLandPerson_mono l0_8) (h2.mono RTLandEvent_mono l0_8) (hfG45.mono RTLandMemory_mono l6_8) hy54) rfl rfl (fun vy54 G56 w55 hg hvy54 => ?_)); obtain ⟨a57, n57, c57, ⟨⟩, h57⟩ := hvy54; have hS := hS.grow hg; have hO := hO.grow hg
    have leG56 := hg.le
    refine WL_val (rn_move (v := (.tuple #[.slice a57 n57 c57, .int .i64 y54.2.1, .int .i64 y54.2.2])) rfl) rfl ?_; refine WL_val (rn_extract (v := (.slice a57 n57 c57)) rfl rfl) rfl ?_; refine WL_val (rn_extract (v := (.int .i64 y54.2.1)) rfl rfl) rfl ?_; refine WL_val (rn_extract (v := (.int .i64 y54.2.2)) rfl rfl) rfl ?_; refine WL_val (rn_assign (v := (.slice a57 n57 c57)) rfl) rfl ?_; refine WL_val (rn_assign (v := (.int .i64 y54.2.1)) rfl) rfl ?_; refine WL_val (rn_assign (v := (.int .i64 y54.2.2)) rfl) rfl ?_; refine WL_nil ?_; refine WC_seq ?_; refine WC_seq ?_; refine WC_region ?_; refine WL_val (rn_move (v := (.int .i64 y41.2)) rfl) rfl ?_; refine WL_val (rn_neq rfl rfl) rfl ?_; refine WL_nil ?_; refine WC_cond rfl (fun hb58 => ?_) (fun hb58 => ?_)
    ·have H := ifT hb58 H; refine WC_seq ?_; obtain ⟨q59, hq59, H⟩ := bnd H; refine WC_cut (fun F w => ∃ (Fb : Fr) (G : Gm), F = upds Fb [(6, .bool q59)] ∧ Gle G56 G ∧ Since w0.heap.size G0 w0 G w ∧ Owns G w w0.heap.size [⟨26, 3, 1, .slice (some ⟨b10, 0, none⟩) 1 1, [.slice a1 n1 c1, .slice a2 n2 c2, .slice aw21 y20.length cw21]⟩]) ?_ ?_
     ·have Hoq59 := H; have H := hq59; refine WC_region ?_; refine WL_val (rn_move (v := (.int .i64 y41.2)) rfl) rfl ?_; refine WL_val (rn_eql rfl rfl) rfl ?_; refine WL_val (rn_move (v := (.bool (y41.2 == 7))) rfl) rfl ?_
      rcases bcases (y41.2 == 7) with hb60 | hb60
      ·have H := ifT hb60 H; refine WL_guardY rfl hb60 rfl rfl ?_; refine WL_val (rn_move (v := (.int .i64 y46.2)) rfl) rfl ?_; refine WL_guardY rfl hb60 rfl rfl ?_; refine WL_val (rn_eql rfl rfl) rfl ?_; refine WL_val (rn_pickT (v := (.bool (y46.2 == 7))) rfl hb60 rfl) rfl ?_; refine WL_val (rn_move (v := (.bool (y46.2 == 7))) rfl) rfl ?_
       rcases bcases (y46.2 == 7) with hb61 | hb61
       ·have H := ifT hb61 H; refine WL_guardY rfl hb61 rfl rfl ?_; obtain ⟨y62, hy62, H⟩ := bnd H
        have l0_9 := l0_8.trans leG56
        refine WL_op rfl (OpP_callV cb15 (f15_ok  hS.sat (hT.mono l0_9)  hy62) rfl rfl (fun w63 hb => ?_)); have hS := hS.keep hb; have hO := hO.below hb; refine WL_val (rn_pickT (v := (.bool y62)) rfl hb61 rfl) rfl ?_; refine WL_val (rn_assign (v := (.bool y62)) rfl) rfl ?_; refine WL_nil ?_
        have hO : Owns G56 w63 w0.heap.size ([⟨26, 3, 1, .slice (some ⟨b10, 0, none⟩) 1 1, [.slice a1 n1 c1, .slice a2 n2 c2, .slice aw21 y20.length cw21]⟩]) := hO
        have H := Option.some.inj H; subst H
        exact ⟨_, G56, upds_self _ _ ⟨rfl, trivial⟩, Gle.refl _, hS, hO⟩
       ·have H := ifF hb61 H; refine WL_guardN rfl hb61 rfl rfl rfl ?_; refine WL_val (rn_pickF (v := (.bool false)) rfl hb61 rfl) rfl ?_; refine WL_val (rn_assign (v := (.bool false)) rfl) rfl ?_; refine WL_nil ?_
        have hO : Owns G56 w55 w0.heap.size ([⟨26, 3, 1, .slice (some ⟨b10, 0, none⟩) 1 1, [.slice a1 n1 c1, .slice a2 n2 c2, .slice aw21 y20.length cw21]⟩]) := hO
        have H := Option.some.inj H; subst H
        exact ⟨_, G56, upds_self _ _ ⟨rfl, trivial⟩, Gle.refl _, hS, hO⟩
      ·have H := ifF hb60 H; refine WL_guardN rfl hb60 rfl rfl rfl ?_; refine WL_guardN rfl hb60 rfl rfl rfl ?_; refine WL_val (rn_pickF (v := (.bool false)) rfl hb60 rfl) rfl ?_; refine WL_val (rn_move (v := (.bool false)) rfl) rfl ?_; refine WL_guardN rfl rfl rfl rfl rfl ?_; refine WL_val (rn_pickF (v := (.bool false)) rfl rfl rfl) rfl ?_; refine WL_val (rn_assign (v := (.bool false)) rfl) rfl ?_; refine WL_nil ?_
       have hO : Owns G56 w55 w0.heap.size ([⟨26, 3, 1, .slice (some ⟨b10, 0, none⟩) 1 1, [.slice a1 n1 c1, .slice a2 n2 c2, .slice aw21 y20.length cw21]⟩]) := hO
       have H := Option.some.inj H; subst H
       exact ⟨_, G56, upds_self _ _ ⟨rfl, trivial⟩, Gle.refl _, hS, hO⟩
     ·rintro F w64 ⟨Fb, G65, rfl, leG65, hS, hO⟩
      refine WC_ret ?_
      have H : some q59 = some r := H
      have H := Option.some.inj H; subst H
      exact ⟨rfl, hS.below⟩
    ·have H := ifF hb58 H; refine WC_skip ?_; refine WC_seq ?_; refine WC_seq ?_; refine WC_region ?_; refine WL_val (rn_move (v := (.int .i64 y46.2)) rfl) rfl ?_; refine WL_val (rn_neq rfl rfl) rfl ?_; refine WL_nil ?_; refine WC_cond rfl (fun hb66 => ?_) (fun hb66 => ?_)
     ·have H := ifT hb66 H; refine WC_seq ?_; obtain ⟨q67, hq67, H⟩ := bnd H; refine WC_cut (fun F w => ∃ (Fb : Fr) (G : Gm), F = upds Fb [(6, .bool q67)] ∧ Gle G56 G ∧ Since w0.heap.size G0 w0 G w ∧ Owns G w w0.heap.size [⟨26, 3, 1, .slice (some ⟨b10, 0, none⟩) 1 1, [.slice a1 n1 c1, .slice a2 n2 c2, .slice aw21 y20.length cw21]⟩]) ?_ ?_
      ·have Hoq67 := H; have H := hq67; refine WC_region ?_; refine WL_val (rn_move (v := (.int .i64 y46.2)) rfl) rfl ?_; refine WL_val (rn_eql rfl rfl) rfl ?_; refine WL_val (rn_move (v := (.bool (y46.2 == 7))) rfl) rfl ?_
       rcases bcases (y46.2 == 7) with hb68 | hb68
       ·have H := ifT hb68 H; refine WL_guardY rfl hb68 rfl rfl ?_; refine WL_val (rn_move (v := (.int .i64 y54.2.2)) rfl) rfl ?_; refine WL_guardY rfl hb68 rfl rfl ?_; refine WL_val (rn_eql rfl rfl) rfl ?_; refine WL_val (rn_pickT (v := (.bool (y54.2.2 == 7))) rfl hb68 rfl) rfl ?_; refine WL_val (rn_move (v := (.bool (y54.2.2 == 7))) rfl) rfl ?_
        rcases bcases (y54.2.2 == 7) with hb69 | hb69
        ·have H := ifT hb69 H; refine WL_guardY rfl hb69 rfl rfl ?_; obtain ⟨y70, hy70, H⟩ := bnd H
         have l0_9 := l0_8.trans leG56
         refine WL_op rfl (OpP_callV cb15 (f15_ok  hS.sat (hT.mono l0_9)  hy70) rfl rfl (fun w71 hb => ?_)); have hS := hS.keep hb; have hO := hO.below hb; refine WL_val (rn_pickT (v := (.bool y70)) rfl hb69 rfl) rfl ?_; refine WL_val (rn_assign (v := (.bool y70)) rfl) rfl ?_; refine WL_nil ?_
         have hO : Owns G56 w71 w0.heap.size ([⟨26, 3, 1, .slice (some ⟨b10, 0, none⟩) 1 1, [.slice a1 n1 c1, .slice a2 n2 c2, .slice aw21 y20.length cw21]⟩]) := hO
         have H := Option.some.inj H; subst H
         exact ⟨_, G56, upds_self _ _ ⟨rfl, trivial⟩, Gle.refl _, hS, hO⟩
        ·have H := ifF hb69 H; refine WL_guardN rfl hb69 rfl rfl rfl ?_; refine WL_val (rn_pickF (v := (.bool false)) rfl hb69 rfl) rfl ?_; refine WL_val (rn_assign (v := (.bool false)) rfl) rfl ?_; refine WL_nil ?_
         have hO : Owns G56 w55 w0.heap.size ([⟨26, 3, 1, .slice (some ⟨b10, 0, none⟩) 1 1, [.slice a1 n1 c1, .slice a2 n2 c2, .slice aw21 y20.length cw21]⟩]) := hO
         have H := Option.some.inj H; subst H
         exact ⟨_, G56, upds_self _ _ ⟨rfl, trivial⟩, Gle.refl _, hS, hO⟩
       ·have H := ifF hb68 H; refine WL_guardN rfl hb68 rfl rfl rfl ?_; refine WL_guardN rfl hb68 rfl rfl rfl ?_; refine WL_val (rn_pickF (v := (.bool false)) rfl hb68 rfl) rfl ?_; refine WL_val (rn_move (v := (.bool false)) rfl) rfl ?_; refine WL_guardN rfl rfl rfl rfl rfl ?_; refine WL_val (rn_pickF (v := (.bool false)) rfl rfl rfl) rfl ?_; refine WL_val (rn_assign (v := (.bool false)) rfl) rfl ?_; refine WL_nil ?_
        have hO : Owns G56 w55 w0.heap.size ([⟨26, 3, 1, .slice (some ⟨b10, 0, none⟩) 1 1, [.slice a1 n1 c1, .slice a2 n2 c2, .slice aw21 y20.length cw21]⟩]) := hO
        have H := Option.some.inj H; subst H
        exact ⟨_, G56, upds_self _ _ ⟨rfl, trivial⟩, Gle.refl _, hS, hO⟩
      ·rintro F w72 ⟨Fb, G73, rfl, leG73, hS, hO⟩
       refine WC_ret ?_
       have H : some q67 = some r := H
       have H := Option.some.inj H; subst H
       exact ⟨rfl, hS.below⟩
     ·have H := ifF hb66 H; refine WC_skip ?_; refine WC_seq ?_; refine WC_seq ?_; refine WC_region ?_; refine WL_val (rn_move (v := (.slice a44 n44 c44)) rfl) rfl ?_
      have l5_9 := (leG45.trans l6_8).trans leG56
      refine WL_val (rn_len sl47 rfl rfl (h44.mono RTSpan_mono l5_9).1) rfl ?_; refine WL_val (rn_move (v := (.slice a49 n49 c49)) rfl) rfl ?_
      have l7_9 := leG52.trans leG56
      refine WL_val (rn_len sl47 rfl rfl (h49.mono RTSpan_mono l7_9).1) rfl ?_; refine WL_val (rn_neq rfl rfl) rfl ?_; refine WL_nil ?_; refine WC_cond rfl (fun hb74 => ?_) (fun hb74 => ?_)
      ·have H := ifT hb74 H; refine WC_seq ?_; refine WC_region ?_; refine WL_val (rn_assign (v := (.bool false)) rfl) rfl ?_; refine WL_nil ?_; refine WC_ret ?_
       have H : some false = some r := H
       have H := Option.some.inj H; subst H
       exact ⟨rfl, hS.below⟩
      ·have H := ifF hb74 H; refine WC_skip ?_; refine WC_seq ?_; refine WC_seq ?_; refine WC_region ?_; refine WL_val (rn_assign (v := (.int .i64 0)) rfl) rfl ?_; refine WL_nil ?_; obtain ⟨q77, hq77, H⟩ := bnd H; refine WC_cut (fun F w => ∃ (p76 : TLandBook) (Fb : Fr) (G : Gm) (ap76_0 : Option Addr) (np76_0 cp76_0 : Nat) (ap76_1 : Option Addr) (np76_1 cp76_1 : Nat) (ap76_2 : Option Addr) (np76_2 cp76_2 : Nat), q77 = .inl p76 ∧ F = upds Fb [(12, .slice a53 n53 c53), (13, .int .i64 y50.2.1), (14, .int .i64 y50.2.2), (15, .slice a57 n57 c57), (16, .int .i64 y54.2.1), (17, .int .i64 y54.2.2)] ∧ Gle G56 G ∧ Since w0.heap.size G0 w0 G w ∧ Owns G w w0.heap.size [⟨26, 3, 1, .slice (some ⟨b10, 0, none⟩) 1 1, [.slice ap76_0 np76_0 cp76_0, .slice ap76_1 np76_1 cp76_1, .slice ap76_2 np76_2 cp76_2]⟩] ∧ RSl RTLandPerson 2 G ap76_0 np76_0 cp76_0 p76.People ∧ RSl RTLandEvent 2 G ap76_1 np76_1 cp76_1 p76.Events ∧ RSl RTLandMemory 4 G ap76_2 np76_2 cp76_2 p76.Memories) ?_ ?_
       ·refine WC_block (WC_loop hq77 (fun s75 F w => ∃ (Fb : Fr) (G : Gm) (as75_0 : Option Addr) (ns75_0 cs75_0 : Nat) (as75_1 : Option Addr) (ns75_1 cs75_1 : Nat) (as75_2 : Option Addr) (ns75_2 cs75_2 : Nat), F = upds Fb [(8, .slice a44 n44 c44), (10, .slice a49 n49 c49), (12, .slice a53 n53 c53), (13, .int .i64 y50.2.1), (14, .int .i64 y50.2.2), (15, .slice a57 n57 c57), (16, .int .i64 y54.2.1), (17, .int .i64 y54.2.2), (18, .int .i64 s75.1)] ∧ Gle G56 G ∧ Since w0.heap.size G0 w0 G w ∧ Owns G w w0.heap.size [⟨26, 3, 1, .slice (some ⟨b10, 0, none⟩) 1 1, [.slice as75_0 ns75_0 cs75_0, .slice as75_1 ns75_1 cs75_1, .slice as75_2 ns75_2 cs75_2]⟩] ∧ RSl RTLandPerson 2 G as75_0 ns75_0 cs75_0 s75.2.People ∧ RSl RTLandEvent 2 G as75_1 ns75_1 cs75_1 s75.2.Events ∧ RSl RTLandMemory 4 G as75_2 ns75_2 cs75_2 s75.2.Memories) ?_ ?_)
        ·have hO : Owns G56 w55 w0.heap.size ([⟨26, 3, 1, .slice (some ⟨b10, 0, none⟩) 1 1, [.slice a1 n1 c1, .slice a2 n2 c2, .slice aw21 y20.length cw21]⟩]) := hO
         have l0_9 := l0_8.trans leG56
         have l6_9 := l6_8.trans leG56
         exact ⟨_, G56, a1, n1, c1, a2, n2, c2, aw21, y20.length, cw21, upds_self _ _ ⟨rfl, rfl, rfl, rfl, rfl, rfl, rfl, rfl, rfl, trivial⟩, Gle.refl _, hS, hO, (h1.mono RTLandPerson_mono l0_9), (h2.mono RTLandEvent_mono l0_9), (hfG45.mono RTLandMemory_mono l6_9)⟩
        ·rintro s75 F w79 t78 ⟨Fb, G80, as75_0, ns75_0, cs75_0, as75_1, ns75_1, cs75_1, as75_2, ns75_2, cs75_2, rfl, leG80, hS, hO, hs75_0, hs75_1, hs75_2⟩
         intro H1 hqq77
         have Hoq77 := H; have H := H1
         unfold f8m_b0 at H
         refine WC_seq ?_; refine WC_seq ?_; refine WC_region ?_; refine WL_val (rn_move (v := (.int .i64 s75.1)) rfl) rfl ?_; refine WL_val (rn_move (v := (.slice a44 n44 c44)) rfl) rfl ?_
         have l5_10 := l5_9.trans leG80
         refine WL_val (rn_len sl47 rfl rfl (h44.mono RTSpan_mono l5_10).1) rfl ?_; refine WL_val (rn_lss rfl rfl) rfl ?_; refine WL_nil ?_; refine WC_cond rfl (fun hb81 => ?_) (fun hb81 => ?_)
         ·have H := ifT hb81 H; refine WC_skip ?_; refine WC_seq ?_; refine WC_block ?_; refine WC_seq ?_; obtain ⟨q82, hq82, H⟩ := bnd H; refine WC_cut (fun F w => ∃ (Fb : Fr) (G : Gm), F = upds Fb [(8, .slice a44 n44 c44), (10, .slice a49 n49 c49), (12, .slice a53 n53 c53), (13, .int .i64 y50.2.1), (14, .int .i64 y50.2.2), (15, .slice a57 n57 c57), (16, .int .i64 y54.2.1), (17, .int .i64 y54.2.2), (18, .int .i64 s75.1), (126, .bool q82)] ∧ Gle G80 G ∧ Since w0.heap.size G0 w0 G w ∧ Owns G w w0.heap.size [⟨26, 3, 1, .slice (some ⟨b10, 0, none⟩) 1 1, [.slice as75_0 ns75_0 cs75_0, .slice as75_1 ns75_1 cs75_1, .slice as75_2 ns75_2 cs75_2]⟩]) ?_ ?_
          ·have Hoq82 := H; have H := hq82; have hS := hS.keep (below_drew _); have hO := hO.below (below_drew _)
           refine WC_regionD mixedO (fun _ w => Sat G80 w ∧ Owns G80 w w0.heap.size [⟨26, 3, 1, .slice (some ⟨b10, 0, none⟩) 1 1, [.slice as75_0 ns75_0 cs75_0, .slice as75_1 ns75_1 cs75_1, .slice as75_2 ns75_2 cs75_2]⟩]) (.fl 0 (.fl 1 (.fl 2 (.fl 3 (.fl 4 (.fl 5 (.on 6 (.on 7 (.on 8 (.on 9 (.on 10 (.on 11 (.fl 12 (.fl 13 (.fl 14 (.fl 15 (.fl 16 (.fl 17 (.on 18 (.on 19 (.on 20 (.on 21 (.on 22 (.on 23 .nil)))))))))))))))))))))))) (by kernel_rfl) rfl (by kernel_rfl) (fun _ => ⟨hS.sat, hO⟩) ?_
           refine WD_val rfl (fun w hw => rn_move (v := (.slice a49 n49 c49)) rfl) rfl ?_; refine WD_val rfl (fun w hw => rn_move (v := (.int .i64 s75.1)) rfl) rfl ?_; obtain ⟨y83, hy83, H⟩ := bnd H
           have l7_10 := l7_9.trans leG80
           refine WD_idx rfl sl47 (h49.mono RTSpan_mono l7_10) hy83 rfl rfl rfl ?_
           rintro b84 o84 _ hcb84 _ ⟨⟩
           refine WD_val rfl (fun w hw => rn_fld fd44_0 rfl) rfl ?_; refine WD_val rfl (fun w hw => rn_load na3 rfl (hw.1.cell (hcb84 0 _ rfl))) rfl ?_; refine WD_val rfl (fun w hw => rn_move (v := (.slice a44 n44 c44)) rfl) rfl ?_; refine WD_op rfl rfl (OpP_val (rn_move (v := (.int .i64 s75.1)) rfl) rfl ?_); refine ⟨fun _ _ => ⟨hS.sat, hO⟩, ?_⟩; obtain ⟨y85, hy85, H⟩ := bnd H; refine WD_op rfl rfl (OpP_idx sl47 (h44.mono RTSpan_mono l5_10) hy85 rfl rfl rfl ?_)
           rintro b86 o86 _ hcb86 _ ⟨⟩
           refine ⟨fun _ _ => ⟨hS.sat, hO⟩, ?_⟩; refine WD_op rfl rfl (OpP_val (rn_fld fd44_0 rfl) rfl ?_); refine ⟨fun _ _ => ⟨hS.sat, hO⟩, ?_⟩; refine WD_op rfl rfl (OpP_val (rn_load na3 rfl (hS.sat.cell (hcb86 0 _ rfl))) rfl ?_); refine ⟨fun _ _ => ⟨hS.sat, hO⟩, ?_⟩; refine WD_op rfl rfl (OpP_val (rn_lss rfl rfl) rfl ?_); refine ⟨fun _ _ => ⟨hS.sat, hO⟩, ?_⟩; refine WD_op rfl rfl (OpP_val (rn_move (v := (.bool (decide (y83.Low < y85.Low)))) rfl) rfl ?_); refine ⟨fun _ _ => ⟨hS.sat, hO⟩, ?_⟩
           rcases bcases (decide (y83.Low < y85.Low)) with hb87 | hb87
           ·have H := ifT hb87 H; refine WD_skip rfl rfl hb87 rfl rfl rfl ?_; refine WD_skip rfl rfl hb87 rfl rfl rfl ?_; refine WD_skip rfl rfl hb87 rfl rfl rfl ?_; refine WD_skip rfl rfl hb87 rfl rfl rfl ?_; refine WD_skip rfl rfl hb87 rfl rfl rfl ?_; refine WD_skip rfl rfl hb87 rfl rfl rfl ?_; refine WD_skipS rfl rfl hb87 rfl rfl rfl (fun _ _ => ⟨hS.sat, hO⟩) ?_; refine WD_skipS rfl rfl hb87 rfl rfl rfl (fun _ _ => ⟨hS.sat, hO⟩) ?_; refine WD_skipS rfl rfl hb87 rfl rfl rfl (fun _ _ => ⟨hS.sat, hO⟩) ?_; refine WD_skipS rfl rfl hb87 rfl rfl rfl (fun _ _ => ⟨hS.sat, hO⟩) ?_
            refine WD_skipS rfl rfl hb87 rfl rfl rfl (fun _ h => noneed (by kernel_rfl) h) ?_
            refine WD_op rfl rfl (OpP_val (rn_pickT (v := (.bool true)) rfl hb87 rfl) rfl ?_)
            refine ⟨fun _ h => noneed (by kernel_rfl) h, ?_⟩
            refine WD_nil ?_
            have hO : Owns G80 w79.drew w0.heap.size ([⟨26, 3, 1, .slice (some ⟨b10, 0, none⟩) 1 1, [.slice as75_0 ns75_0 cs75_0, .slice as75_1 ns75_1 cs75_1, .slice as75_2 ns75_2 cs75_2]⟩]) := hO
            have H := Option.some.inj H; subst H
            exact ⟨_, G80, upds_self _ _ ⟨rfl, rfl, rfl, rfl, rfl, rfl, rfl, rfl, rfl, rfl, trivial⟩, Gle.refl _, hS, hO⟩
           ·have H := ifF hb87 H; refine WD_valY rfl rfl hb87 rfl rfl (fun w hw => rn_move (v := (.slice a49 n49 c49)) rfl) rfl ?_; refine WD_valY rfl rfl hb87 rfl rfl (fun w hw => rn_move (v := (.int .i64 s75.1)) rfl) rfl ?_; refine WD_idxY rfl rfl hb87 rfl rfl sl47 (h49.mono RTSpan_mono l7_10) hy83 rfl rfl rfl ?_
            rintro b88 o88 _ hcb88 _ ⟨⟩
            refine WD_valY rfl rfl hb87 rfl rfl (fun w hw => rn_fld fd44_1 rfl) rfl ?_; refine WD_valY rfl rfl hb87 rfl rfl (fun w hw => rn_load na3 rfl (hw.1.cell (hcb88 1 _ rfl))) rfl ?_; refine WD_valY rfl rfl hb87 rfl rfl (fun w hw => rn_move (v := (.slice a44 n44 c44)) rfl) rfl ?_; refine WD_opY rfl rfl rfl hb87 rfl rfl (OpP_val (rn_move (v := (.int .i64 s75.1)) rfl) rfl ?_); refine ⟨fun _ _ => ⟨hS.sat, hO⟩, ?_⟩; refine WD_opY rfl rfl rfl hb87 rfl rfl (OpP_idx sl47 (h44.mono RTSpan_mono l5_10) hy85 rfl rfl rfl ?_)
            rintro b89 o89 _ hcb89 _ ⟨⟩
            refine ⟨fun _ _ => ⟨hS.sat, hO⟩, ?_⟩; refine WD_opY rfl rfl rfl hb87 rfl rfl (OpP_val (rn_fld fd44_1 rfl) rfl ?_); refine ⟨fun _ _ => ⟨hS.sat, hO⟩, ?_⟩; refine WD_opY rfl rfl rfl hb87 rfl rfl (OpP_val (rn_load na3 rfl (hS.sat.cell (hcb89 1 _ rfl))) rfl ?_); refine ⟨fun _ _ => ⟨hS.sat, hO⟩, ?_⟩; refine WD_opY rfl rfl rfl hb87 rfl rfl (OpP_val (rn_gtr rfl rfl) rfl ?_)
            refine ⟨fun _ h => noneed (by kernel_rfl) h, ?_⟩
            refine WD_op rfl rfl (OpP_val (rn_pickF (v := (.bool (decide (y85.High < y83.High)))) rfl hb87 rfl) rfl ?_)
            refine ⟨fun _ h => noneed (by kernel_rfl) h, ?_⟩
            refine WD_nil ?_
            have hO : Owns G80 w79.drew w0.heap.size ([⟨26, 3, 1, .slice (some ⟨b10, 0, none⟩) 1 1, [.slice as75_0 ns75_0 cs75_0, .slice as75_1 ns75_1 cs75_1, .slice as75_2 ns75_2 cs75_2]⟩]) := hO
            have H := Option.some.inj H; subst H
            exact ⟨_, G80, upds_self _ _ ⟨rfl, rfl, rfl, rfl, rfl, rfl, rfl, rfl, rfl, rfl, trivial⟩, Gle.refl _, hS, hO⟩
          ·rintro F w90 ⟨Fb, G91, rfl, leG91, hS, hO⟩
           refine WC_cond rfl (fun hb92 => ?_) (fun hb92 => ?_)
           ·have H := ifT hb92 H; refine WC_seq ?_; refine WC_region ?_; refine WL_val (rn_assign (v := (.bool false)) rfl) rfl ?_; refine WL_nil ?_; refine WC_ret ?_; have H := Option.some.inj H; subst H
            have hres := hqq77 _ rfl
            subst hres; have H := Hoq77
            have H : some false = some r := H
            have H := Option.some.inj H; subst H
            exact ⟨rfl, hS.below⟩
           ·have H := ifF hb92 H; refine WC_skip ?_; refine WC_region ?_; refine WL_val (rn_move (v := (.int .i64 s75.1)) rfl) rfl ?_; refine WL_val (rn_add rfl rfl) rfl ?_; refine WL_val (rn_assign (v := (.int .i64 (IntKind.i64.wrap (s75.1 + 1)))) rfl) rfl ?_; refine WL_nil ?_
            have hO : Owns G91 w90 w0.heap.size ([⟨26, 3, 1, .slice (some ⟨b10, 0, none⟩) 1 1, [.slice as75_0 ns75_0 cs75_0, .slice as75_1 ns75_1 cs75_1, .slice as75_2 ns75_2 cs75_2]⟩]) := hO
            have H := Option.some.inj H; subst H; refine ⟨_, rfl, ?_⟩
            have l9_11 := leG80.trans leG91
            exact ⟨_, G91, as75_0, ns75_0, cs75_0, as75_1, ns75_1, cs75_1, as75_2, ns75_2, cs75_2, upds_self _ _ ⟨rfl, rfl, rfl, rfl, rfl, rfl, rfl, rfl, rfl, trivial⟩, l9_11, hS, hO, (hs75_0.mono RTLandPerson_mono leG91), (hs75_1.mono RTLandEvent_mono leG91), (hs75_2.mono RTLandMemory_mono leG91)⟩
         ·have H := ifF hb81 H; refine WC_exit rfl ?_
          have hO : Owns G80 w79 w0.heap.size ([⟨26, 3, 1, .slice (some ⟨b10, 0, none⟩) 1 1, [.slice as75_0 ns75_0 cs75_0, .slice as75_1 ns75_1 cs75_1, .slice as75_2 ns75_2 cs75_2]⟩]) := hO
          have H := Option.some.inj H; subst H
          have hres := hqq77 _ rfl
          subst hres
          exact ⟨_, _, G80, as75_0, ns75_0, cs75_0, as75_1, ns75_1, cs75_1, as75_2, ns75_2, cs75_2, rfl, upds_self _ _ ⟨rfl, rfl, rfl, rfl, rfl, rfl, trivial⟩, leG80, hS, hO, hs75_0, hs75_1, hs75_2⟩
       ·rintro F w93 ⟨p76, Fb, G94, ap76_0, np76_0, cp76_0, ap76_1, np76_1, cp76_1, ap76_2, np76_2, cp76_2, rfl, rfl, leG94, hS, hO, hp76_0, hp76_1, hp76_2⟩
        refine WC_seq ?_; refine WC_seq ?_; refine WC_region ?_; refine WL_val (rn_move (v := (.int .i64 y50.2.2)) rfl) rfl ?_; refine WL_val (rn_neq rfl rfl) rfl ?_; refine WL_nil ?_; refine WC_cond rfl (fun hb95 => ?_) (fun hb95 => ?_)
        ·have H := ifT hb95 H; refine WC_seq ?_; obtain ⟨q96, hq96, H⟩ := bnd H; refine WC_cut (fun F w => ∃ (Fb : Fr) (G : Gm), F = upds Fb [(6, .bool q96)] ∧ Gle G94 G ∧ Since w0.heap.size G0 w0 G w ∧ Owns G w w0.heap.size [⟨26, 3, 1, .slice (some ⟨b10, 0, none⟩) 1 1, [.slice ap76_0 np76_0 cp76_0, .slice ap76_1 np76_1 cp76_1, .slice ap76_2 np76_2 cp76_2]⟩]) ?_ ?_
         ·have Hoq96 := H; have H := hq96; refine WC_region ?_; refine WL_val (rn_move (v := (.int .i64 y50.2.2)) rfl) rfl ?_; refine WL_val (rn_eql rfl rfl) rfl ?_; refine WL_val (rn_move (v := (.bool (y50.2.2 == 8))) rfl) rfl ?_
          rcases bcases (y50.2.2 == 8) with hb97 | hb97
          ·have H := ifT hb97 H; refine WL_guardY rfl hb97 rfl rfl ?_; obtain ⟨y98, hy98, H⟩ := bnd H
           have l0_10 := (l0_8.trans leG56).trans leG94
           refine WL_op rfl (OpP_callV cb15 (f15_ok  hS.sat (hT.mono l0_10)  hy98) rfl rfl (fun w99 hb => ?_)); have hS := hS.keep hb; have hO := hO.below hb; refine WL_val (rn_pickT (v := (.bool y98)) rfl hb97 rfl) rfl ?_; refine WL_val (rn_assign (v := (.bool y98)) rfl) rfl ?_; refine WL_nil ?_
           have hO : Owns G94 w99 w0.heap.size ([⟨26, 3, 1, .slice (some ⟨b10, 0, none⟩) 1 1, [.slice ap76_0 np76_0 cp76_0, .slice ap76_1 np76_1 cp76_1, .slice ap76_2 np76_2 cp76_2]⟩]) := hO
           have H := Option.some.inj H; subst H
           exact ⟨_, G94, upds_self _ _ ⟨rfl, trivial⟩, Gle.refl _, hS, hO⟩
          ·have H := ifF hb97 H; refine WL_guardN rfl hb97 rfl rfl rfl ?_; refine WL_val (rn_pickF (v := (.bool false)) rfl hb97 rfl) rfl ?_; refine WL_val (rn_assign (v := (.bool false)) rfl) rfl ?_; refine WL_nil ?_
           have hO : Owns G94 w93 w0.heap.size ([⟨26, 3, 1, .slice (some ⟨b10, 0, none⟩) 1 1, [.slice ap76_0 np76_0 cp76_0, .slice ap76_1 np76_1 cp76_1, .slice ap76_2 np76_2 cp76_2]⟩]) := hO
           have H := Option.some.inj H; subst H
           exact ⟨_, G94, upds_self _ _ ⟨rfl, trivial⟩, Gle.refl _, hS, hO⟩
         ·rintro F w100 ⟨Fb, G101, rfl, leG101, hS, hO⟩
          refine WC_ret ?_
          have H : some q96 = some r := H
          have H := Option.some.inj H; subst H
          exact ⟨rfl, hS.below⟩
        ·have H := ifF hb95 H; refine WC_skip ?_; refine WC_seq ?_; obtain ⟨q102, hq102, H⟩ := bnd H; refine WC_cut (fun F w => ∃ (Fb : Fr) (G : Gm), F = upds Fb [(6, .bool q102)] ∧ Gle G94 G ∧ Since w0.heap.size G0 w0 G w ∧ Owns G w w0.heap.size [⟨26, 3, 1, .slice (some ⟨b10, 0, none⟩) 1 1, [.slice ap76_0 np76_0 cp76_0, .slice ap76_1 np76_1 cp76_1, .slice ap76_2 np76_2 cp76_2]⟩]) ?_ ?_
         ·have Hoq102 := H; have H := hq102; refine WC_region ?_; refine WL_val (rn_move (v := (.int .i64 y54.2.2)) rfl) rfl ?_; refine WL_val (rn_eql rfl rfl) rfl ?_; refine WL_val (rn_move (v := (.bool (y54.2.2 == 0))) rfl) rfl ?_
          rcases bcases (y54.2.2 == 0) with hb103 | hb103
          ·have H := ifT hb103 H; refine WL_guardY rfl hb103 rfl rfl ?_; refine WL_val (rn_move (v := (.int .i64 y50.2.1)) rfl) rfl ?_; refine WL_guardY rfl hb103 rfl rfl ?_; refine WL_val (rn_move (v := (.int .i64 y54.2.1)) rfl) rfl ?_; refine WL_guardY rfl hb103 rfl rfl ?_; refine WL_val (rn_eql rfl rfl) rfl ?_; refine WL_val (rn_pickT (v := (.bool (y50.2.1 == y54.2.1))) rfl hb103 rfl) rfl ?_; refine WL_val (rn_move (v := (.bool (y50.2.1 == y54.2.1))) rfl) rfl ?_
           rcases bcases (y50.2.1 == y54.2.1) with hb104 | hb104
           ·have H := ifT hb104 H; refine WL_guardY rfl hb104 rfl rfl ?_; refine WL_val (rn_move (v := (.slice a53 n53 c53)) rfl) rfl ?_; refine WL_guardY rfl hb104 rfl rfl ?_; refine WL_val (rn_move (v := (.slice a57 n57 c57)) rfl) rfl ?_; refine WL_guardY rfl hb104 rfl rfl ?_; obtain ⟨y105, hy105, H⟩ := bnd H
            have l8_10 := leG56.trans leG94
            refine WL_op rfl (OpP_callV cb20 (f20_ok (x0 := y50.1) (x1 := y54.1) hS.sat (h53.mono RInt_mono l8_10) (h57.mono RInt_mono leG94) hy105) rfl rfl (fun w106 hb => ?_)); have hS := hS.keep hb; have hO := hO.below hb; refine WL_val (rn_pickT (v := (.bool y105)) rfl hb104 rfl) rfl ?_; refine WL_val (rn_move (v := (.bool y105)) rfl) rfl ?_
            rcases bcases y105 with hb107 | hb107
            ·have H := ifT hb107 H; refine WL_guardY rfl hb107 rfl rfl ?_; obtain ⟨y108, hy108, H⟩ := bnd H
             have l0_10 := l0_8.trans l8_10
             refine WL_op rfl (OpP_callV cb15 (f15_ok  hS.sat (hT.mono l0_10)  hy108) rfl rfl (fun w109 hb => ?_)); have hS := hS.keep hb; have hO := hO.below hb; refine WL_val (rn_pickT (v := (.bool y108)) rfl hb107 rfl) rfl ?_; refine WL_val (rn_assign (v := (.bool y108)) rfl) rfl ?_; refine WL_nil ?_
             have hO : Owns G94 w109 w0.heap.size ([⟨26, 3, 1, .slice (some ⟨b10, 0, none⟩) 1 1, [.slice ap76_0 np76_0 cp76_0, .slice ap76_1 np76_1 cp76_1, .slice ap76_2 np76_2 cp76_2]⟩]) := hO
             have H := Option.some.inj H; subst H
             exact ⟨_, G94, upds_self _ _ ⟨rfl, trivial⟩, Gle.refl _, hS, hO⟩
            ·have H := ifF hb107 H; refine WL_guardN rfl hb107 rfl rfl rfl ?_; refine WL_val (rn_pickF (v := (.bool false)) rfl hb107 rfl) rfl ?_; refine WL_val (rn_assign (v := (.bool false)) rfl) rfl ?_; refine WL_nil ?_
             have hO : Owns G94 w106 w0.heap.size ([⟨26, 3, 1, .slice (some ⟨b10, 0, none⟩) 1 1, [.slice ap76_0 np76_0 cp76_0, .slice ap76_1 np76_1 cp76_1, .slice ap76_2 np76_2 cp76_2]⟩]) := hO
             have H := Option.some.inj H; subst H
             exact ⟨_, G94, upds_self _ _ ⟨rfl, trivial⟩, Gle.refl _, hS, hO⟩
           ·have H := ifF hb104 H; refine WL_guardN rfl hb104 rfl rfl rfl ?_; refine WL_guardN rfl hb104 rfl rfl rfl ?_; refine WL_guardN rfl hb104 rfl rfl rfl ?_; refine WL_val (rn_pickF (v := (.bool false)) rfl hb104 rfl) rfl ?_; refine WL_val (rn_move (v := (.bool false)) rfl) rfl ?_; refine WL_guardN rfl rfl rfl rfl rfl ?_; refine WL_val (rn_pickF (v := (.bool false)) rfl rfl rfl) rfl ?_; refine WL_val (rn_assign (v := (.bool false)) rfl) rfl ?_; refine WL_nil ?_
            have hO : Owns G94 w93 w0.heap.size ([⟨26, 3, 1, .slice (some ⟨b10, 0, none⟩) 1 1, [.slice ap76_0 np76_0 cp76_0, .slice ap76_1 np76_1 cp76_1, .slice ap76_2 np76_2 cp76_2]⟩]) := hO
            have H := Option.some.inj H; subst H
            exact ⟨_, G94, upds_self _ _ ⟨rfl, trivial⟩, Gle.refl _, hS, hO⟩
          ·have H := ifF hb103 H; refine WL_guardN rfl hb103 rfl rfl rfl ?_; refine WL_guardN rfl hb103 rfl rfl rfl ?_; refine WL_guardN rfl hb103 rfl rfl rfl ?_; refine WL_val (rn_pickF (v := (.bool false)) rfl hb103 rfl) rfl ?_; refine WL_val (rn_move (v := (.bool false)) rfl) rfl ?_; refine WL_guardN rfl rfl rfl rfl rfl ?_; refine WL_guardN rfl rfl rfl rfl rfl ?_; refine WL_guardN rfl rfl rfl rfl rfl ?_; refine WL_val (rn_pickF (v := (.bool false)) rfl rfl rfl) rfl ?_; refine WL_val (rn_move (v := (.bool false)) rfl) rfl ?_; refine WL_guardN rfl rfl rfl rfl rfl ?_; refine WL_val (rn_pickF (v := (.bool false)) rfl rfl rfl) rfl ?_; refine WL_val (rn_assign (v := (.bool false)) rfl) rfl ?_; refine WL_nil ?_
           have hO : Owns G94 w93 w0.heap.size ([⟨26, 3, 1, .slice (some ⟨b10, 0, none⟩) 1 1, [.slice ap76_0 np76_0 cp76_0, .slice ap76_1 np76_1 cp76_1, .slice ap76_2 np76_2 cp76_2]⟩]) := hO
           have H := Option.some.inj H; subst H
           exact ⟨_, G94, upds_self _ _ ⟨rfl, trivial⟩, Gle.refl _, hS, hO⟩
         ·rintro F w110 ⟨Fb, G111, rfl, leG111, hS, hO⟩
          refine WC_ret ?_
          have H : some q102 = some r := H
          have H := Option.some.inj H; subst H
          exact ⟨rfl, hS.below⟩
 ·refine WD_op rfl rfl (OpP_newF (v := fun b => .slice (some ⟨b, 0, none⟩) 1 1) (cs := [.int .i64 x1.From, .int .i64 x1.To, .int .i64 x1.Years.Low, .int .i64 x1.Years.High]) (e := 46) (by kernel_rfl) hS.sat rfl (fun b14 G16 w15 hg hcb14 => ?_))
  have hS := hS.grow hg; have hO := hO.grow hg
  have leG16 := hg.le
  have hfb14 : RSl RTLandMemory 4 G16 (some ⟨b14, 0, none⟩) 1 1 [x1] := RSl.of_rd hcb14 (Rd.cons (c := [.int .i64 x1.From, .int .i64 x1.To, .int .i64 x1.Years.Low, .int .i64 x1.Years.High]) rfl rfl (Rd.nil RTLandMemory 4 _)) rfl (by decide)
  refine ⟨fun _ _ => ⟨hS.sat.le leG16, trivial⟩, ?_⟩; have hO := hO.cons_nil 46 4; obtain ⟨y18, hy18, H⟩ := bnd H
  have l0_3 := (leG6.trans leG9).trans leG16
  refine WD_op rfl rfl (OpP_appendB (k := 0) sl24 RTLandMemory_one hS hO rfl rfl (Rd.nil RTLandMemory 4 G16) (h3.mono RTLandMemory_mono l0_3) hy18 rfl rfl rfl rfl rfl rfl (fun aw19 cw19 w19 clw19 hS hO hrw19 => ?_))
  have hO : Owns G16 w19 w0.heap.size ([⟨46, 4, y18.length, .slice aw19 y18.length cw19, clw19⟩, ⟨26, 3, 1, .slice (some ⟨b10, 0, none⟩) 1 1, [.slice a1 n1 c1, .slice a2 n2 c2, .slice a3 n3 c3]⟩]) := hO
  refine ⟨fun _ _ => ⟨hS.sat.le leG16, trivial⟩, ?_⟩; obtain ⟨y20, hy20, H⟩ := bnd H; refine WD_op rfl rfl (OpP_appendB (k := 0) sl24 RTLandMemory_one hS hO rfl rfl hrw19 hfb14 hy20 rfl rfl rfl rfl rfl rfl (fun aw21 cw21 w21 clw21 hS hO hrw21 => ?_))
  have hO : Owns G16 w21 w0.heap.size ([⟨46, 4, y20.length, .slice aw21 y20.length cw21, clw21⟩, ⟨26, 3, 1, .slice (some ⟨b10, 0, none⟩) 1 1, [.slice a1 n1 c1, .slice a2 n2 c2, .slice a3 n3 c3]⟩]) := hO
  refine ⟨fun _ h => noneed (by kernel_rfl) h, ?_⟩
  refine WD_op rfl rfl (OpP_val (rn_fld fd26_2 rfl) rfl ?_)
  refine ⟨fun _ h => noneed (by kernel_rfl) h, ?_⟩
  refine WD_op rfl rfl (OpP_store (vs := [.slice aw21 y20.length cw21]) sz24 hS hO (k := 1) rfl rfl rfl rfl rfl (one_all rfl) (Nat.le_of_ble_eq_true rfl) (fun w22 hS hO => ?_))
  have hO : Owns G16 w22 w0.heap.size ([⟨46, 4, y20.length, .slice aw21 y20.length cw21, clw21⟩, ⟨26, 3, 1, .slice (some ⟨b10, 0, none⟩) 1 1, [.slice a1 n1 c1, .slice a2 n2 c2, .slice aw21 y20.length cw21]⟩]) := hO
  refine ⟨fun _ h => noneed (by kernel_rfl) h, ?_⟩
  refine WD_nil ?_; refine WC_seq ?_; refine WC_seq ?_; obtain ⟨q23, hq23, H⟩ := bnd H; refine WC_cut (fun F w => ∃ (Fb : Fr) (G : Gm), F = upds Fb [(2, .int .i64 x2), (3, .pointer (some ⟨b4, 0, none⟩)), (7, .pointer (some ⟨b10, 0, none⟩)), (44, .bool q23)] ∧ Gle G16 G ∧ Since w0.heap.size G0 w0 G w ∧ Owns G w w0.heap.size [⟨46, 4, y20.length, .slice aw21 y20.length cw21, clw21⟩, ⟨26, 3, 1, .slice (some ⟨b10, 0, none⟩) 1 1, [.slice a1 n1 c1, .slice a2 n2 c2, .slice aw21 y20.length cw21]⟩]) ?_ ?_
  ·have Hoq23 := H; have H := hq23; refine WC_region ?_
   have l1_3 := leG9.trans leG16
   refine WL_val (rn_loadA ag26 (cs := [.slice a1 n1 c1, .slice a2 n2 c2, .slice a3 n3 c3]) rfl rfl (fun j v hj => (hS.sat.le l1_3).cell (hcb4.drop_take 0 3 j v hj))) rfl ?_; obtain ⟨y24, hy24, H⟩ := bnd H; refine WL_op rfl (OpP_callV cb14 (f14_ok (x0 := x0) hS.sat (h1.mono RTLandPerson_mono l0_3) (h2.mono RTLandEvent_mono l0_3) (h3.mono RTLandMemory_mono l0_3) hy24) rfl rfl (fun w25 hb => ?_)); have hS := hS.keep hb; have hO := hO.below hb; refine WL_val (rn_not rfl) rfl ?_; refine WL_val (rn_move (v := (.bool (!y24))) rfl) rfl ?_
   rcases bcases (!y24) with hb26 | hb26
   ·have H := ifT hb26 H; refine WL_guardN rfl hb26 rfl rfl rfl ?_; refine WL_guardN rfl hb26 rfl rfl rfl ?_; refine WL_guardN rfl hb26 rfl rfl rfl ?_; refine WL_val (rn_pickT (v := (.bool true)) rfl hb26 rfl) rfl ?_; refine WL_val (rn_move (v := (.bool true)) rfl) rfl ?_; refine WL_guardN rfl rfl rfl rfl rfl ?_; refine WL_guardN rfl rfl rfl rfl rfl ?_; refine WL_guardN rfl rfl rfl rfl rfl ?_; refine WL_val (rn_pickT (v := (.bool true)) rfl rfl rfl) rfl ?_; refine WL_val (rn_move (v := (.bool true)) rfl) rfl ?_; refine WL_guardN rfl rfl rfl rfl rfl ?_; refine WL_guardN rfl rfl rfl rfl rfl ?_; refine WL_guardN rfl rfl rfl rfl rfl ?_; refine WL_val (rn_pickT (v := (.bool true)) rfl rfl rfl) rfl ?_; refine WL_nil ?_
    have hO : Owns G16 w25 w0.heap.size ([⟨46, 4, y20.length, .slice aw21 y20.length cw21, clw21⟩, ⟨26, 3, 1, .slice (some ⟨b10, 0, none⟩) 1 1, [.slice a1 n1 c1, .slice a2 n2 c2, .slice aw21 y20.length cw21]⟩]) := hO
    have H := Option.some.inj H; subst H
    exact ⟨_, G16, upds_self _ _ ⟨rfl, rfl, rfl, rfl, trivial⟩, Gle.refl _, hS, hO⟩
   ·have H := ifF hb26 H; refine WL_guardY rfl hb26 rfl rfl ?_; refine WL_val (rn_loadA ag26 (cs := [.slice a1 n1 c1, .slice a2 n2 c2, .slice a3 n3 c3]) rfl rfl (fun j v hj => (hS.sat.le l1_3).cell (hcb4.drop_take 0 3 j v hj))) rfl ?_; refine WL_guardY rfl hb26 rfl rfl ?_; obtain ⟨y27, hy27, H⟩ := bnd H; refine WL_op rfl (OpP_callV cb18 (f18_ok (x0 := x0) hS.sat (h1.mono RTLandPerson_mono l0_3) (h2.mono RTLandEvent_mono l0_3) (h3.mono RTLandMemory_mono l0_3) hy27) rfl rfl (fun w28 hb => ?_)); have hS := hS.keep hb; have hO := hO.below hb; refine WL_guardY rfl hb26 rfl rfl ?_; refine WL_val (rn_not rfl) rfl ?_; refine WL_val (rn_pickF (v := (.bool (!y27))) rfl hb26 rfl) rfl ?_; refine WL_val (rn_move (v := (.bool (!y27))) rfl) rfl ?_
    rcases bcases (!y27) with hb29 | hb29
    ·have H := ifT hb29 H; refine WL_guardN rfl hb29 rfl rfl rfl ?_; refine WL_guardN rfl hb29 rfl rfl rfl ?_; refine WL_guardN rfl hb29 rfl rfl rfl ?_; refine WL_val (rn_pickT (v := (.bool true)) rfl hb29 rfl) rfl ?_; refine WL_val (rn_move (v := (.bool true)) rfl) rfl ?_; refine WL_guardN rfl rfl rfl rfl rfl ?_; refine WL_guardN rfl rfl rfl rfl rfl ?_; refine WL_guardN rfl rfl rfl rfl rfl ?_; refine WL_val (rn_pickT (v := (.bool true)) rfl rfl rfl) rfl ?_; refine WL_nil ?_
     have hO : Owns G16 w28 w0.heap.size ([⟨46, 4, y20.length, .slice aw21 y20.length cw21, clw21⟩, ⟨26, 3, 1, .slice (some ⟨b10, 0, none⟩) 1 1, [.slice a1 n1 c1, .slice a2 n2 c2, .slice aw21 y20.length cw21]⟩]) := hO
     have H := Option.some.inj H; subst H
     exact ⟨_, G16, upds_self _ _ ⟨rfl, rfl, rfl, rfl, trivial⟩, Gle.refl _, hS, hO⟩
    ·have H := ifF hb29 H; refine WL_guardY rfl hb29 rfl rfl ?_; refine WL_val (rn_loadA ag26 (cs := [.slice a1 n1 c1, .slice a2 n2 c2, .slice aw21 y20.length cw21]) rfl rfl (fun j v hj => own_sub hO (k := 1) rfl 0 3 j v hj)) rfl ?_; refine WL_guardY rfl hb29 rfl rfl ?_; obtain ⟨y30, hy30, H⟩ := bnd H; obtain ⟨Gv31, leGv31, hSGv31, hOGv31, hvGv31⟩ := hO.freezeS hS RTLandMemory_mono (k := 0) rfl hrw21 rfl; refine WL_op rfl (OpP_callV cb18 (f18_ok (x0 := (⟨x0.People, x0.Events, y20⟩ : TLandBook)) hSGv31.sat ((h1.mono RTLandPerson_mono l0_3).mono RTLandPerson_mono leGv31) ((h2.mono RTLandEvent_mono l0_3).mono RTLandEvent_mono leGv31) hvGv31 hy30) rfl rfl (fun w32 hb => ?_)); have hS := hS.keep hb; have hO := hO.below hb; refine WL_guardY rfl hb29 rfl rfl ?_; refine WL_val (rn_not rfl) rfl ?_; refine WL_val (rn_pickF (v := (.bool (!y30))) rfl hb29 rfl) rfl ?_; refine WL_val (rn_move (v := (.bool (!y30))) rfl) rfl ?_
     rcases bcases (!y30) with hb33 | hb33
     ·have H := ifT hb33 H; refine WL_guardN rfl hb33 rfl rfl rfl ?_; refine WL_guardN rfl hb33 rfl rfl rfl ?_; refine WL_guardN rfl hb33 rfl rfl rfl ?_; refine WL_val (rn_pickT (v := (.bool true)) rfl hb33 rfl) rfl ?_; refine WL_nil ?_
      have hO : Owns G16 w32 w0.heap.size ([⟨46, 4, y20.length, .slice aw21 y20.length cw21, clw21⟩, ⟨26, 3, 1, .slice (some ⟨b10, 0, none⟩) 1 1, [.slice a1 n1 c1, .slice a2 n2 c2, .slice aw21 y20.length cw21]⟩]) := hO
      have H := Option.some.inj H; subst H
      exact ⟨_, G16, upds_self _ _ ⟨rfl, rfl, rfl, rfl, trivial⟩, Gle.refl _, hS, hO⟩
     ·have H := ifF hb33 H; refine WL_guardY rfl hb33 rfl rfl ?_; refine WL_val (rn_move (v := (.int .i64 x2)) rfl) rfl ?_; refine WL_guardY rfl hb33 rfl rfl ?_; obtain ⟨y34, hy34, H⟩ := bnd H; refine WL_op rfl (OpP_callV cb33 (f33_ok (x0 := x2) hS.sat  hy34) rfl rfl (fun w35 hb => ?_)); have hS := hS.keep hb; have hO := hO.below hb; refine WL_guardY rfl hb33 rfl rfl ?_; refine WL_val (rn_not rfl) rfl ?_; refine WL_val (rn_pickF (v := (.bool (!y34))) rfl hb33 rfl) rfl ?_; refine WL_nil ?_
      have hO : Owns G16 w35 w0.heap.size ([⟨46, 4, y20.length, .slice aw21 y20.length cw21, clw21⟩, ⟨26, 3, 1, .slice (some ⟨b10, 0, none⟩) 1 1, [.slice a1 n1 c1, .slice a2 n2 c2, .slice aw21 y20.length cw21]⟩]) := hO
      have H := Option.some.inj H; subst H
      exact ⟨_, G16, upds_self _ _ ⟨rfl, rfl, rfl, rfl, trivial⟩, Gle.refl _, hS, hO⟩
  ·rintro F w36 ⟨Fb, G37, rfl, leG37, hS, hO⟩
   refine WC_cond rfl (fun hb38 => ?_) (fun hb38 => ?_)
   ·have H := ifT hb38 H; refine WC_seq ?_; refine WC_region ?_; obtain ⟨y39, hy39, H⟩ := bnd H
    have l0_4 := l0_3.trans leG37
    refine WL_op rfl (OpP_callV cb15 (f15_ok  hS.sat (hT.mono l0_4)  hy39) rfl rfl (fun w40 hb => ?_)); have hS := hS.keep hb; have hO := hO.below hb; refine WL_val (rn_assign (v := (.bool y39)) rfl) rfl ?_; refine WL_nil ?_; refine WC_ret ?_
    have H : some y39 = some r := H
    have H := Option.some.inj H; subst H
    exact ⟨rfl, hS.below⟩
   ·have H := ifF hb38 H; refine WC_skip ?_; refine WC_seq ?_; refine WC_region ?_
    have l1_4 := (leG9.trans leG16).trans leG37
    refine WL_val (rn_loadA ag26 (cs := [.slice a1 n1 c1, .slice a2 n2 c2, .slice a3 n3 c3]) rfl rfl (fun j v hj => (hS.sat.le l1_4).cell (hcb4.drop_take 0 3 j v hj))) rfl ?_; obtain ⟨y41, hy41, H⟩ := bnd H
    have l0_4 := l0_3.trans leG37
    refine WL_op rfl (OpP_callG cb34 (f34_ok (x0 := x0) hS.sat (h1.mono RTLandPerson_mono l0_4) (h2.mono RTLandEvent_mono l0_4) (h3.mono RTLandMemory_mono l0_4) hy41) rfl rfl (fun vy41 G43 w42 hg hvy41 => ?_)); obtain ⟨a44, n44, c44, ⟨⟩, h44⟩ := hvy41; have hS := hS.grow hg; have hO := hO.grow hg
    have leG43 := hg.le
    refine WL_val (rn_move (v := (.tuple #[.slice a44 n44 c44, .int .i64 y41.2])) rfl) rfl ?_; refine WL_val (rn_extract (v := (.slice a44 n44 c44)) rfl rfl) rfl ?_; refine WL_val (rn_extract (v := (.int .i64 y41.2)) rfl rfl) rfl ?_; refine WL_val (rn_assign (v := (.slice a44 n44 c44)) rfl) rfl ?_; refine WL_val (rn_assign (v := (.int .i64 y41.2)) rfl) rfl ?_; refine WL_nil ?_; refine WC_seq ?_; refine WC_region ?_; refine WL_val (rn_loadA ag26 (cs := [.slice a1 n1 c1, .slice a2 n2 c2, .slice aw21 y20.length cw21]) rfl rfl (fun j v hj => own_sub hO (k := 1) rfl 0 3 j v hj)) rfl ?_
    have l3_5 := leG37.trans leG43
    obtain ⟨G45, leG45, hS, hO, hfG45⟩ := hO.freezeS hS RTLandMemory_mono (k := 0) rfl (hrw21.mono RTLandMemory_mono l3_5) rfl; obtain ⟨y46, hy46, H⟩ := bnd H
    have l0_6 := (l0_4.trans leG43).trans leG45
    refine WL_op rfl (OpP_callG cb34 (f34_ok (x0 := (⟨x0.People, x0.Events, y20⟩ : TLandBook)) hS.sat (h1.mono RTLandPerson_mono l0_6) (h2.mono RTLandEvent_mono l0_6) hfG45 hy46) rfl rfl (fun vy46 G48 w47 hg hvy46 => ?_)); obtain ⟨a49, n49, c49, ⟨⟩, h49⟩ := hvy46; have hS := hS.grow hg; have hO := hO.grow hg
    have leG48 := hg.le
    refine WL_val (rn_move (v := (.tuple #[.slice a49 n49 c49, .int .i64 y46.2])) rfl) rfl ?_; refine WL_val (rn_extract (v := (.slice a49 n49 c49)) rfl rfl) rfl ?_; refine WL_val (rn_extract (v := (.int .i64 y46.2)) rfl rfl) rfl ?_; refine WL_val (rn_assign (v := (.slice a49 n49 c49)) rfl) rfl ?_; refine WL_val (rn_assign (v := (.int .i64 y46.2)) rfl) rfl ?_; refine WL_nil ?_; refine WC_seq ?_; refine WC_region ?_
    have l1_7 := ((l1_4.trans leG43).trans leG45).trans leG48
    refine WL_val (rn_loadA ag26 (cs := [.slice a1 n1 c1, .slice a2 n2 c2, .slice a3 n3 c3]) rfl rfl (fun j v hj => (hS.sat.le l1_7).cell (hcb4.drop_take 0 3 j v hj))) rfl ?_; refine WL_val (rn_move (v := (.int .i64 x2)) rfl) rfl ?_; obtain ⟨y50, hy50, H⟩ := bnd H
    have l0_7 := l0_6.trans leG48
    refine WL_op rfl (OpP_callG cb35 (f35_ok (x0 := x0) (x1 := x2) hS.sat (h1.mono RTLandPerson_mono l0_7) (h2.mono RTLandEvent_mono l0_7) (h3.mono RTLandMemory_mono l0_7) hy50) rfl rfl (fun vy50 G52 w51 hg hvy50 => ?_)); obtain ⟨a53, n53, c53, ⟨⟩, h53⟩ := hvy50; have hS := hS.grow hg; have hO := hO.grow hg
    have leG52 := hg.le
    refine WL_val (rn_move (v := (.tuple #[.slice a53 n53 c53, .int .i64 y50.2.1, .int .i64 y50.2.2])) rfl) rfl ?_; refine WL_val (rn_extract (v := (.slice a53 n53 c53)) rfl rfl) rfl ?_; refine WL_val (rn_extract (v := (.int .i64 y50.2.1)) rfl rfl) rfl ?_; refine WL_val (rn_extract (v := (.int .i64 y50.2.2)) rfl rfl) rfl ?_; refine WL_val (rn_assign (v := (.slice a53 n53 c53)) rfl) rfl ?_; refine WL_val (rn_assign (v := (.int .i64 y50.2.1)) rfl) rfl ?_; refine WL_val (rn_assign (v := (.int .i64 y50.2.2)) rfl) rfl ?_; refine WL_nil ?_; refine WC_seq ?_; refine WC_region ?_; refine WL_val (rn_loadA ag26 (cs := [.slice a1 n1 c1, .slice a2 n2 c2, .slice aw21 y20.length cw21]) rfl rfl (fun j v hj => own_sub hO (k := 0) rfl 0 3 j v hj)) rfl ?_; refine WL_val (rn_move (v := (.int .i64 x2)) rfl) rfl ?_; obtain ⟨y54, hy54, H⟩ := bnd H
    have l0_8 := l0_7.trans leG52
    have l6_8 := leG48.trans leG52
    refine WL_op rfl (OpP_callG cb35 (f35_ok (x0 := (⟨x0.People, x0.Events, y20⟩ : TLandBook)) (x1 := x2) hS.sat (h1.mono RTLandPerson_mono l0_8) (h2.mono RTLandEvent_mono l0_8) (hfG45.mono RTLandMemory_mono l6_8) hy54) rfl rfl (fun vy54 G56 w55 hg hvy54 => ?_)); obtain ⟨a57, n57, c57, ⟨⟩, h57⟩ := hvy54; have hS := hS.grow hg; have hO := hO.grow hg
    have leG56 := hg.le
    refine WL_val (rn_move (v := (.tuple #[.slice a57 n57 c57, .int .i64 y54.2.1, .int .i64 y54.2.2])) rfl) rfl ?_; refine WL_val (rn_extract (v := (.slice a57 n57 c57)) rfl rfl) rfl ?_; refine WL_val (rn_extract (v := (.int .i64 y54.2.1)) rfl rfl) rfl ?_; refine WL_val (rn_extract (v := (.int .i64 y54.2.2)) rfl rfl) rfl ?_; refine WL_val (rn_assign (v := (.slice a57 n57 c57)) rfl) rfl ?_; refine WL_val (rn_assign (v := (.int .i64 y54.2.1)) rfl) rfl ?_; refine WL_val (rn_assign (v := (.int .i64 y54.2.2)) rfl) rfl ?_; refine WL_nil ?_; refine WC_seq ?_; refine WC_seq ?_; refine WC_region ?_; refine WL_val (rn_move (v := (.int .i64 y41.2)) rfl) rfl ?_; refine WL_val (rn_neq rfl rfl) rfl ?_; refine WL_nil ?_; refine WC_cond rfl (fun hb58 => ?_) (fun hb58 => ?_)
    ·have H := ifT hb58 H; refine WC_seq ?_; obtain ⟨q59, hq59, H⟩ := bnd H; refine WC_cut (fun F w => ∃ (Fb : Fr) (G : Gm), F = upds Fb [(6, .bool q59)] ∧ Gle G56 G ∧ Since w0.heap.size G0 w0 G w ∧ Owns G w w0.heap.size [⟨26, 3, 1, .slice (some ⟨b10, 0, none⟩) 1 1, [.slice a1 n1 c1, .slice a2 n2 c2, .slice aw21 y20.length cw21]⟩]) ?_ ?_
     ·have Hoq59 := H; have H := hq59; refine WC_region ?_; refine WL_val (rn_move (v := (.int .i64 y41.2)) rfl) rfl ?_; refine WL_val (rn_eql rfl rfl) rfl ?_; refine WL_val (rn_move (v := (.bool (y41.2 == 7))) rfl) rfl ?_
      rcases bcases (y41.2 == 7) with hb60 | hb60
      ·have H := ifT hb60 H; refine WL_guardY rfl hb60 rfl rfl ?_; refine WL_val (rn_move (v := (.int .i64 y46.2)) rfl) rfl ?_; refine WL_guardY rfl hb60 rfl rfl ?_; refine WL_val (rn_eql rfl rfl) rfl ?_; refine WL_val (rn_pickT (v := (.bool (y46.2 == 7))) rfl hb60 rfl) rfl ?_; refine WL_val (rn_move (v := (.bool (y46.2 == 7))) rfl) rfl ?_
       rcases bcases (y46.2 == 7) with hb61 | hb61
       ·have H := ifT hb61 H; refine WL_guardY rfl hb61 rfl rfl ?_; obtain ⟨y62, hy62, H⟩ := bnd H
        have l0_9 := l0_8.trans leG56
        refine WL_op rfl (OpP_callV cb15 (f15_ok  hS.sat (hT.mono l0_9)  hy62) rfl rfl (fun w63 hb => ?_)); have hS := hS.keep hb; have hO := hO.below hb; refine WL_val (rn_pickT (v := (.bool y62)) rfl hb61 rfl) rfl ?_; refine WL_val (rn_assign (v := (.bool y62)) rfl) rfl ?_; refine WL_nil ?_
        have hO : Owns G56 w63 w0.heap.size ([⟨26, 3, 1, .slice (some ⟨b10, 0, none⟩) 1 1, [.slice a1 n1 c1, .slice a2 n2 c2, .slice aw21 y20.length cw21]⟩]) := hO
        have H := Option.some.inj H; subst H
        exact ⟨_, G56, upds_self _ _ ⟨rfl, trivial⟩, Gle.refl _, hS, hO⟩
       ·have H := ifF hb61 H; refine WL_guardN rfl hb61 rfl rfl rfl ?_; refine WL_val (rn_pickF (v := (.bool false)) rfl hb61 rfl) rfl ?_; refine WL_val (rn_assign (v := (.bool false)) rfl) rfl ?_; refine WL_nil ?_
        have hO : Owns G56 w55 w0.heap.size ([⟨26, 3, 1, .slice (some ⟨b10, 0, none⟩) 1 1, [.slice a1 n1 c1, .slice a2 n2 c2, .slice aw21 y20.length cw21]⟩]) := hO
        have H := Option.some.inj H; subst H
        exact ⟨_, G56, upds_self _ _ ⟨rfl, trivial⟩, Gle.refl _, hS, hO⟩
      ·have H := ifF hb60 H; refine WL_guardN rfl hb60 rfl rfl rfl ?_; refine WL_guardN rfl hb60 rfl rfl rfl ?_; refine WL_val (rn_pickF (v := (.bool false)) rfl hb60 rfl) rfl ?_; refine WL_val (rn_move (v := (.bool false)) rfl) rfl ?_; refine WL_guardN rfl rfl rfl rfl rfl ?_; refine WL_val (rn_pickF (v := (.bool false)) rfl rfl rfl) rfl ?_; refine WL_val (rn_assign (v := (.bool false)) rfl) rfl ?_; refine WL_nil ?_
       have hO : Owns G56 w55 w0.heap.size ([⟨26, 3, 1, .slice (some ⟨b10, 0, none⟩) 1 1, [.slice a1 n1 c1, .slice a2 n2 c2, .slice aw21 y20.length cw21]⟩]) := hO
       have H := Option.some.inj H; subst H
       exact ⟨_, G56, upds_self _ _ ⟨rfl, trivial⟩, Gle.refl _, hS, hO⟩
     ·rintro F w64 ⟨Fb, G65, rfl, leG65, hS, hO⟩
      refine WC_ret ?_
      have H : some q59 = some r := H
      have H := Option.some.inj H; subst H
      exact ⟨rfl, hS.below⟩
    ·have H := ifF hb58 H; refine WC_skip ?_; refine WC_seq ?_; refine WC_seq ?_; refine WC_region ?_; refine WL_val (rn_move (v := (.int .i64 y46.2)) rfl) rfl ?_; refine WL_val (rn_neq rfl rfl) rfl ?_; refine WL_nil ?_; refine WC_cond rfl (fun hb66 => ?_) (fun hb66 => ?_)
     ·have H := ifT hb66 H; refine WC_seq ?_; obtain ⟨q67, hq67, H⟩ := bnd H; refine WC_cut (fun F w => ∃ (Fb : Fr) (G : Gm), F = upds Fb [(6, .bool q67)] ∧ Gle G56 G ∧ Since w0.heap.size G0 w0 G w ∧ Owns G w w0.heap.size [⟨26, 3, 1, .slice (some ⟨b10, 0, none⟩) 1 1, [.slice a1 n1 c1, .slice a2 n2 c2, .slice aw21 y20.length cw21]⟩]) ?_ ?_
      ·have Hoq67 := H; have H := hq67; refine WC_region ?_; refine WL_val (rn_move (v := (.int .i64 y46.2)) rfl) rfl ?_; refine WL_val (rn_eql rfl rfl) rfl ?_; refine WL_val (rn_move (v := (.bool (y46.2 == 7))) rfl) rfl ?_
       rcases bcases (y46.2 == 7) with hb68 | hb68
       ·have H := ifT hb68 H; refine WL_guardY rfl hb68 rfl rfl ?_; refine WL_val (rn_move (v := (.int .i64 y54.2.2)) rfl) rfl ?_; refine WL_guardY rfl hb68 rfl rfl ?_; refine WL_val (rn_eql rfl rfl) rfl ?_; refine WL_val (rn_pickT (v := (.bool (y54.2.2 == 7))) rfl hb68 rfl) rfl ?_; refine WL_val (rn_move (v := (.bool (y54.2.2 == 7))) rfl) rfl ?_
        rcases bcases (y54.2.2 == 7) with hb69 | hb69
        ·have H := ifT hb69 H; refine WL_guardY rfl hb69 rfl rfl ?_; obtain ⟨y70, hy70, H⟩ := bnd H
         have l0_9 := l0_8.trans leG56
         refine WL_op rfl (OpP_callV cb15 (f15_ok  hS.sat (hT.mono l0_9)  hy70) rfl rfl (fun w71 hb => ?_)); have hS := hS.keep hb; have hO := hO.below hb; refine WL_val (rn_pickT (v := (.bool y70)) rfl hb69 rfl) rfl ?_; refine WL_val (rn_assign (v := (.bool y70)) rfl) rfl ?_; refine WL_nil ?_
         have hO : Owns G56 w71 w0.heap.size ([⟨26, 3, 1, .slice (some ⟨b10, 0, none⟩) 1 1, [.slice a1 n1 c1, .slice a2 n2 c2, .slice aw21 y20.length cw21]⟩]) := hO
         have H := Option.some.inj H; subst H
         exact ⟨_, G56, upds_self _ _ ⟨rfl, trivial⟩, Gle.refl _, hS, hO⟩
        ·have H := ifF hb69 H; refine WL_guardN rfl hb69 rfl rfl rfl ?_; refine WL_val (rn_pickF (v := (.bool false)) rfl hb69 rfl) rfl ?_; refine WL_val (rn_assign (v := (.bool false)) rfl) rfl ?_; refine WL_nil ?_
         have hO : Owns G56 w55 w0.heap.size ([⟨26, 3, 1, .slice (some ⟨b10, 0, none⟩) 1 1, [.slice a1 n1 c1, .slice a2 n2 c2, .slice aw21 y20.length cw21]⟩]) := hO
         have H := Option.some.inj H; subst H
         exact ⟨_, G56, upds_self _ _ ⟨rfl, trivial⟩, Gle.refl _, hS, hO⟩
       ·have H := ifF hb68 H; refine WL_guardN rfl hb68 rfl rfl rfl ?_; refine WL_guardN rfl hb68 rfl rfl rfl ?_; refine WL_val (rn_pickF (v := (.bool false)) rfl hb68 rfl) rfl ?_; refine WL_val (rn_move (v := (.bool false)) rfl) rfl ?_; refine WL_guardN rfl rfl rfl rfl rfl ?_; refine WL_val (rn_pickF (v := (.bool false)) rfl rfl rfl) rfl ?_; refine WL_val (rn_assign (v := (.bool false)) rfl) rfl ?_; refine WL_nil ?_
        have hO : Owns G56 w55 w0.heap.size ([⟨26, 3, 1, .slice (some ⟨b10, 0, none⟩) 1 1, [.slice a1 n1 c1, .slice a2 n2 c2, .slice aw21 y20.length cw21]⟩]) := hO
        have H := Option.some.inj H; subst H
        exact ⟨_, G56, upds_self _ _ ⟨rfl, trivial⟩, Gle.refl _, hS, hO⟩
      ·rintro F w72 ⟨Fb, G73, rfl, leG73, hS, hO⟩
       refine WC_ret ?_
       have H : some q67 = some r := H
       have H := Option.some.inj H; subst H
       exact ⟨rfl, hS.below⟩
     ·have H := ifF hb66 H; refine WC_skip ?_; refine WC_seq ?_; refine WC_seq ?_; refine WC_region ?_; refine WL_val (rn_move (v := (.slice a44 n44 c44)) rfl) rfl ?_
      have l5_9 := (leG45.trans l6_8).trans leG56
      refine WL_val (rn_len sl47 rfl rfl (h44.mono RTSpan_mono l5_9).1) rfl ?_; refine WL_val (rn_move (v := (.slice a49 n49 c49)) rfl) rfl ?_
      have l7_9 := leG52.trans leG56
      refine WL_val (rn_len sl47 rfl rfl (h49.mono RTSpan_mono l7_9).1) rfl ?_; refine WL_val (rn_neq rfl rfl) rfl ?_; refine WL_nil ?_; refine WC_cond rfl (fun hb74 => ?_) (fun hb74 => ?_)
      ·have H := ifT hb74 H; refine WC_seq ?_; refine WC_region ?_; refine WL_val (rn_assign (v := (.bool false)) rfl) rfl ?_; refine WL_nil ?_; refine WC_ret ?_
       have H : some false = some r := H
       have H := Option.some.inj H; subst H
       exact ⟨rfl, hS.below⟩
      ·have H := ifF hb74 H; refine WC_skip ?_; refine WC_seq ?_; refine WC_seq ?_; refine WC_region ?_; refine WL_val (rn_assign (v := (.int .i64 0)) rfl) rfl ?_; refine WL_nil ?_; obtain ⟨q77, hq77, H⟩ := bnd H; refine WC_cut (fun F w => ∃ (p76 : TLandBook) (Fb : Fr) (G : Gm) (ap76_0 : Option Addr) (np76_0 cp76_0 : Nat) (ap76_1 : Option Addr) (np76_1 cp76_1 : Nat) (ap76_2 : Option Addr) (np76_2 cp76_2 : Nat), q77 = .inl p76 ∧ F = upds Fb [(12, .slice a53 n53 c53), (13, .int .i64 y50.2.1), (14, .int .i64 y50.2.2), (15, .slice a57 n57 c57), (16, .int .i64 y54.2.1), (17, .int .i64 y54.2.2)] ∧ Gle G56 G ∧ Since w0.heap.size G0 w0 G w ∧ Owns G w w0.heap.size [⟨26, 3, 1, .slice (some ⟨b10, 0, none⟩) 1 1, [.slice ap76_0 np76_0 cp76_0, .slice ap76_1 np76_1 cp76_1, .slice ap76_2 np76_2 cp76_2]⟩] ∧ RSl RTLandPerson 2 G ap76_0 np76_0 cp76_0 p76.People ∧ RSl RTLandEvent 2 G ap76_1 np76_1 cp76_1 p76.Events ∧ RSl RTLandMemory 4 G ap76_2 np76_2 cp76_2 p76.Memories) ?_ ?_
       ·refine WC_block (WC_loop hq77 (fun s75 F w => ∃ (Fb : Fr) (G : Gm) (as75_0 : Option Addr) (ns75_0 cs75_0 : Nat) (as75_1 : Option Addr) (ns75_1 cs75_1 : Nat) (as75_2 : Option Addr) (ns75_2 cs75_2 : Nat), F = upds Fb [(8, .slice a44 n44 c44), (10, .slice a49 n49 c49), (12, .slice a53 n53 c53), (13, .int .i64 y50.2.1), (14, .int .i64 y50.2.2), (15, .slice a57 n57 c57), (16, .int .i64 y54.2.1), (17, .int .i64 y54.2.2), (18, .int .i64 s75.1)] ∧ Gle G56 G ∧ Since w0.heap.size G0 w0 G w ∧ Owns G w w0.heap.size [⟨26, 3, 1, .slice (some ⟨b10, 0, none⟩) 1 1, [.slice as75_0 ns75_0 cs75_0, .slice as75_1 ns75_1 cs75_1, .slice as75_2 ns75_2 cs75_2]⟩] ∧ RSl RTLandPerson 2 G as75_0 ns75_0 cs75_0 s75.2.People ∧ RSl RTLandEvent 2 G as75_1 ns75_1 cs75_1 s75.2.Events ∧ RSl RTLandMemory 4 G as75_2 ns75_2 cs75_2 s75.2.Memories) ?_ ?_)
        ·have hO : Owns G56 w55 w0.heap.size ([⟨26, 3, 1, .slice (some ⟨b10, 0, none⟩) 1 1, [.slice a1 n1 c1, .slice a2 n2 c2, .slice aw21 y20.length cw21]⟩]) := hO
         have l0_9 := l0_8.trans leG56
         have l6_9 := l6_8.trans leG56
         exact ⟨_, G56, a1, n1, c1, a2, n2, c2, aw21, y20.length, cw21, upds_self _ _ ⟨rfl, rfl, rfl, rfl, rfl, rfl, rfl, rfl, rfl, trivial⟩, Gle.refl _, hS, hO, (h1.mono RTLandPerson_mono l0_9), (h2.mono RTLandEvent_mono l0_9), (hfG45.mono RTLandMemory_mono l6_9)⟩
        ·rintro s75 F w79 t78 ⟨Fb, G80, as75_0, ns75_0, cs75_0, as75_1, ns75_1, cs75_1, as75_2, ns75_2, cs75_2, rfl, leG80, hS, hO, hs75_0, hs75_1, hs75_2⟩
         intro H1 hqq77
         have Hoq77 := H; have H := H1
         unfold f8m_b0 at H
         refine WC_seq ?_; refine WC_seq ?_; refine WC_region ?_; refine WL_val (rn_move (v := (.int .i64 s75.1)) rfl) rfl ?_; refine WL_val (rn_move (v := (.slice a44 n44 c44)) rfl) rfl ?_
         have l5_10 := l5_9.trans leG80
         refine WL_val (rn_len sl47 rfl rfl (h44.mono RTSpan_mono l5_10).1) rfl ?_; refine WL_val (rn_lss rfl rfl) rfl ?_; refine WL_nil ?_; refine WC_cond rfl (fun hb81 => ?_) (fun hb81 => ?_)
         ·have H := ifT hb81 H; refine WC_skip ?_; refine WC_seq ?_; refine WC_block ?_; refine WC_seq ?_; obtain ⟨q82, hq82, H⟩ := bnd H; refine WC_cut (fun F w => ∃ (Fb : Fr) (G : Gm), F = upds Fb [(8, .slice a44 n44 c44), (10, .slice a49 n49 c49), (12, .slice a53 n53 c53), (13, .int .i64 y50.2.1), (14, .int .i64 y50.2.2), (15, .slice a57 n57 c57), (16, .int .i64 y54.2.1), (17, .int .i64 y54.2.2), (18, .int .i64 s75.1), (126, .bool q82)] ∧ Gle G80 G ∧ Since w0.heap.size G0 w0 G w ∧ Owns G w w0.heap.size [⟨26, 3, 1, .slice (some ⟨b10, 0, none⟩) 1 1, [.slice as75_0 ns75_0 cs75_0, .slice as75_1 ns75_1 cs75_1, .slice as75_2 ns75_2 cs75_2]⟩]) ?_ ?_
          ·have Hoq82 := H; have H := hq82; have hS := hS.keep (below_drew _); have hO := hO.below (below_drew _)
           refine WC_regionD mixedO (fun _ w => Sat G80 w ∧ Owns G80 w w0.heap.size [⟨26, 3, 1, .slice (some ⟨b10, 0, none⟩) 1 1, [.slice as75_0 ns75_0 cs75_0, .slice as75_1 ns75_1 cs75_1, .slice as75_2 ns75_2 cs75_2]⟩]) (.fl 0 (.fl 1 (.fl 2 (.fl 3 (.fl 4 (.fl 5 (.on 6 (.on 7 (.on 8 (.on 9 (.on 10 (.on 11 (.fl 12 (.fl 13 (.fl 14 (.fl 15 (.fl 16 (.fl 17 (.on 18 (.on 19 (.on 20 (.on 21 (.on 22 (.on 23 .nil)))))))))))))))))))))))) (by kernel_rfl) rfl (by kernel_rfl) (fun _ => ⟨hS.sat, hO⟩) ?_
           refine WD_val rfl (fun w hw => rn_move (v := (.slice a49 n49 c49)) rfl) rfl ?_; refine WD_val rfl (fun w hw => rn_move (v := (.int .i64 s75.1)) rfl) rfl ?_; obtain ⟨y83, hy83, H⟩ := bnd H
           have l7_10 := l7_9.trans leG80
           refine WD_idx rfl sl47 (h49.mono RTSpan_mono l7_10) hy83 rfl rfl rfl ?_
           rintro b84 o84 _ hcb84 _ ⟨⟩
           refine WD_val rfl (fun w hw => rn_fld fd44_0 rfl) rfl ?_; refine WD_val rfl (fun w hw => rn_load na3 rfl (hw.1.cell (hcb84 0 _ rfl))) rfl ?_; refine WD_val rfl (fun w hw => rn_move (v := (.slice a44 n44 c44)) rfl) rfl ?_; refine WD_op rfl rfl (OpP_val (rn_move (v := (.int .i64 s75.1)) rfl) rfl ?_); refine ⟨fun _ _ => ⟨hS.sat, hO⟩, ?_⟩; obtain ⟨y85, hy85, H⟩ := bnd H; refine WD_op rfl rfl (OpP_idx sl47 (h44.mono RTSpan_mono l5_10) hy85 rfl rfl rfl ?_)
           rintro b86 o86 _ hcb86 _ ⟨⟩
           refine ⟨fun _ _ => ⟨hS.sat, hO⟩, ?_⟩; refine WD_op rfl rfl (OpP_val (rn_fld fd44_0 rfl) rfl ?_); refine ⟨fun _ _ => ⟨hS.sat, hO⟩, ?_⟩; refine WD_op rfl rfl (OpP_val (rn_load na3 rfl (hS.sat.cell (hcb86 0 _ rfl))) rfl ?_); refine ⟨fun _ _ => ⟨hS.sat, hO⟩, ?_⟩; refine WD_op rfl rfl (OpP_val (rn_lss rfl rfl) rfl ?_); refine ⟨fun _ _ => ⟨hS.sat, hO⟩, ?_⟩; refine WD_op rfl rfl (OpP_val (rn_move (v := (.bool (decide (y83.Low < y85.Low)))) rfl) rfl ?_); refine ⟨fun _ _ => ⟨hS.sat, hO⟩, ?_⟩
           rcases bcases (decide (y83.Low < y85.Low)) with hb87 | hb87
           ·have H := ifT hb87 H; refine WD_skip rfl rfl hb87 rfl rfl rfl ?_; refine WD_skip rfl rfl hb87 rfl rfl rfl ?_; refine WD_skip rfl rfl hb87 rfl rfl rfl ?_; refine WD_skip rfl rfl hb87 rfl rfl rfl ?_; refine WD_skip rfl rfl hb87 rfl rfl rfl ?_; refine WD_skip rfl rfl hb87 rfl rfl rfl ?_; refine WD_skipS rfl rfl hb87 rfl rfl rfl (fun _ _ => ⟨hS.sat, hO⟩) ?_; refine WD_skipS rfl rfl hb87 rfl rfl rfl (fun _ _ => ⟨hS.sat, hO⟩) ?_; refine WD_skipS rfl rfl hb87 rfl rfl rfl (fun _ _ => ⟨hS.sat, hO⟩) ?_; refine WD_skipS rfl rfl hb87 rfl rfl rfl (fun _ _ => ⟨hS.sat, hO⟩) ?_
            refine WD_skipS rfl rfl hb87 rfl rfl rfl (fun _ h => noneed (by kernel_rfl) h) ?_
            refine WD_op rfl rfl (OpP_val (rn_pickT (v := (.bool true)) rfl hb87 rfl) rfl ?_)
            refine ⟨fun _ h => noneed (by kernel_rfl) h, ?_⟩
            refine WD_nil ?_
            have hO : Owns G80 w79.drew w0.heap.size ([⟨26, 3, 1, .slice (some ⟨b10, 0, none⟩) 1 1, [.slice as75_0 ns75_0 cs75_0, .slice as75_1 ns75_1 cs75_1, .slice as75_2 ns75_2 cs75_2]⟩]) := hO
            have H := Option.some.inj H; subst H
            exact ⟨_, G80, upds_self _ _ ⟨rfl, rfl, rfl, rfl, rfl, rfl, rfl, rfl, rfl, rfl, trivial⟩, Gle.refl _, hS, hO⟩
           ·have H := ifF hb87 H; refine WD_valY rfl rfl hb87 rfl rfl (fun w hw => rn_move (v := (.slice a49 n49 c49)) rfl) rfl ?_; refine WD_valY rfl rfl hb87 rfl rfl (fun w hw => rn_move (v := (.int .i64 s75.1)) rfl) rfl ?_; refine WD_idxY rfl rfl hb87 rfl rfl sl47 (h49.mono RTSpan_mono l7_10) hy83 rfl rfl rfl ?_
            rintro b88 o88 _ hcb88 _ ⟨⟩
            refine WD_valY rfl rfl hb87 rfl rfl (fun w hw => rn_fld fd44_1 rfl) rfl ?_; refine WD_valY rfl rfl hb87 rfl rfl (fun w hw => rn_load na3 rfl (hw.1.cell (hcb88 1 _ rfl))) rfl ?_; refine WD_valY rfl rfl hb87 rfl rfl (fun w hw => rn_move (v := (.slice a44 n44 c44)) rfl) rfl ?_; refine WD_opY rfl rfl rfl hb87 rfl rfl (OpP_val (rn_move (v := (.int .i64 s75.1)) rfl) rfl ?_); refine ⟨fun _ _ => ⟨hS.sat, hO⟩, ?_⟩; refine WD_opY rfl rfl rfl hb87 rfl rfl (OpP_idx sl47 (h44.mono RTSpan_mono l5_10) hy85 rfl rfl rfl ?_)
            rintro b89 o89 _ hcb89 _ ⟨⟩
            refine ⟨fun _ _ => ⟨hS.sat, hO⟩, ?_⟩; refine WD_opY rfl rfl rfl hb87 rfl rfl (OpP_val (rn_fld fd44_1 rfl) rfl ?_); refine ⟨fun _ _ => ⟨hS.sat, hO⟩, ?_⟩; refine WD_opY rfl rfl rfl hb87 rfl rfl (OpP_val (rn_load na3 rfl (hS.sat.cell (hcb89 1 _ rfl))) rfl ?_); refine ⟨fun _ _ => ⟨hS.sat, hO⟩, ?_⟩; refine WD_opY rfl rfl rfl hb87 rfl rfl (OpP_val (rn_gtr rfl rfl) rfl ?_)
            refine ⟨fun _ h => noneed (by kernel_rfl) h, ?_⟩
            refine WD_op rfl rfl (OpP_val (rn_pickF (v := (.bool (decide (y85.High < y83.High)))) rfl hb87 rfl) rfl ?_)
            refine ⟨fun _ h => noneed (by kernel_rfl) h, ?_⟩
            refine WD_nil ?_
            have hO : Owns G80 w79.drew w0.heap.size ([⟨26, 3, 1, .slice (some ⟨b10, 0, none⟩) 1 1, [.slice as75_0 ns75_0 cs75_0, .slice as75_1 ns75_1 cs75_1, .slice as75_2 ns75_2 cs75_2]⟩]) := hO
            have H := Option.some.inj H; subst H
            exact ⟨_, G80, upds_self _ _ ⟨rfl, rfl, rfl, rfl, rfl, rfl, rfl, rfl, rfl, rfl, trivial⟩, Gle.refl _, hS, hO⟩
          ·rintro F w90 ⟨Fb, G91, rfl, leG91, hS, hO⟩
           refine WC_cond rfl (fun hb92 => ?_) (fun hb92 => ?_)
           ·have H := ifT hb92 H; refine WC_seq ?_; refine WC_region ?_; refine WL_val (rn_assign (v := (.bool false)) rfl) rfl ?_; refine WL_nil ?_; refine WC_ret ?_; have H := Option.some.inj H; subst H
            have hres := hqq77 _ rfl
            subst hres; have H := Hoq77
            have H : some false = some r := H
            have H := Option.some.inj H; subst H
            exact ⟨rfl, hS.below⟩
           ·have H := ifF hb92 H; refine WC_skip ?_; refine WC_region ?_; refine WL_val (rn_move (v := (.int .i64 s75.1)) rfl) rfl ?_; refine WL_val (rn_add rfl rfl) rfl ?_; refine WL_val (rn_assign (v := (.int .i64 (IntKind.i64.wrap (s75.1 + 1)))) rfl) rfl ?_; refine WL_nil ?_
            have hO : Owns G91 w90 w0.heap.size ([⟨26, 3, 1, .slice (some ⟨b10, 0, none⟩) 1 1, [.slice as75_0 ns75_0 cs75_0, .slice as75_1 ns75_1 cs75_1, .slice as75_2 ns75_2 cs75_2]⟩]) := hO
            have H := Option.some.inj H; subst H; refine ⟨_, rfl, ?_⟩
            have l9_11 := leG80.trans leG91
            exact ⟨_, G91, as75_0, ns75_0, cs75_0, as75_1, ns75_1, cs75_1, as75_2, ns75_2, cs75_2, upds_self _ _ ⟨rfl, rfl, rfl, rfl, rfl, rfl, rfl, rfl, rfl, trivial⟩, l9_11, hS, hO, (hs75_0.mono RTLandPerson_mono leG91), (hs75_1.mono RTLandEvent_mono leG91), (hs75_2.mono RTLandMemory_mono leG91)⟩
         ·have H := ifF hb81 H; refine WC_exit rfl ?_
          have hO : Owns G80 w79 w0.heap.size ([⟨26, 3, 1, .slice (some ⟨b10, 0, none⟩) 1 1, [.slice as75_0 ns75_0 cs75_0, .slice as75_1 ns75_1 cs75_1, .slice as75_2 ns75_2 cs75_2]⟩]) := hO
          have H := Option.some.inj H; subst H
          have hres := hqq77 _ rfl
          subst hres
          exact ⟨_, _, G80, as75_0, ns75_0, cs75_0, as75_1, ns75_1, cs75_1, as75_2, ns75_2, cs75_2, rfl, upds_self _ _ ⟨rfl, rfl, rfl, rfl, rfl, rfl, trivial⟩, leG80, hS, hO, hs75_0, hs75_1, hs75_2⟩
       ·rintro F w93 ⟨p76, Fb, G94, ap76_0, np76_0, cp76_0, ap76_1, np76_1, cp76_1, ap76_2, np76_2, cp76_2, rfl, rfl, leG94, hS, hO, hp76_0, hp76_1, hp76_2⟩
        refine WC_seq ?_; refine WC_seq ?_; refine WC_region ?_; refine WL_val (rn_move (v := (.int .i64 y50.2.2)) rfl) rfl ?_; refine WL_val (rn_neq rfl rfl) rfl ?_; refine WL_nil ?_; refine WC_cond rfl (fun hb95 => ?_) (fun hb95 => ?_)
        ·have H := ifT hb95 H; refine WC_seq ?_; obtain ⟨q96, hq96, H⟩ := bnd H; refine WC_cut (fun F w => ∃ (Fb : Fr) (G : Gm), F = upds Fb [(6, .bool q96)] ∧ Gle G94 G ∧ Since w0.heap.size G0 w0 G w ∧ Owns G w w0.heap.size [⟨26, 3, 1, .slice (some ⟨b10, 0, none⟩) 1 1, [.slice ap76_0 np76_0 cp76_0, .slice ap76_1 np76_1 cp76_1, .slice ap76_2 np76_2 cp76_2]⟩]) ?_ ?_
         ·have Hoq96 := H; have H := hq96; refine WC_region ?_; refine WL_val (rn_move (v := (.int .i64 y50.2.2)) rfl) rfl ?_; refine WL_val (rn_eql rfl rfl) rfl ?_; refine WL_val (rn_move (v := (.bool (y50.2.2 == 8))) rfl) rfl ?_
          rcases bcases (y50.2.2 == 8) with hb97 | hb97
          ·have H := ifT hb97 H; refine WL_guardY rfl hb97 rfl rfl ?_; obtain ⟨y98, hy98, H⟩ := bnd H
           have l0_10 := (l0_8.trans leG56).trans leG94
           refine WL_op rfl (OpP_callV cb15 (f15_ok  hS.sat (hT.mono l0_10)  hy98) rfl rfl (fun w99 hb => ?_)); have hS := hS.keep hb; have hO := hO.below hb; refine WL_val (rn_pickT (v := (.bool y98)) rfl hb97 rfl) rfl ?_; refine WL_val (rn_assign (v := (.bool y98)) rfl) rfl ?_; refine WL_nil ?_
           have hO : Owns G94 w99 w0.heap.size ([⟨26, 3, 1, .slice (some ⟨b10, 0, none⟩) 1 1, [.slice ap76_0 np76_0 cp76_0, .slice ap76_1 np76_1 cp76_1, .slice ap76_2 np76_2 cp76_2]⟩]) := hO
           have H := Option.some.inj H; subst H
           exact ⟨_, G94, upds_self _ _ ⟨rfl, trivial⟩, Gle.refl _, hS, hO⟩
          ·have H := ifF hb97 H; refine WL_guardN rfl hb97 rfl rfl rfl ?_; refine WL_val (rn_pickF (v := (.bool false)) rfl hb97 rfl) rfl ?_; refine WL_val (rn_assign (v := (.bool false)) rfl) rfl ?_; refine WL_nil ?_
           have hO : Owns G94 w93 w0.heap.size ([⟨26, 3, 1, .slice (some ⟨b10, 0, none⟩) 1 1, [.slice ap76_0 np76_0 cp76_0, .slice ap76_1 np76_1 cp76_1, .slice ap76_2 np76_2 cp76_2]⟩]) := hO
           have H := Option.some.inj H; subst H
           exact ⟨_, G94, upds_self _ _ ⟨rfl, trivial⟩, Gle.refl _, hS, hO⟩
         ·rintro F w100 ⟨Fb, G101, rfl, leG101, hS, hO⟩
          refine WC_ret ?_
          have H : some q96 = some r := H
          have H := Option.some.inj H; subst H
          exact ⟨rfl, hS.below⟩
        ·have H := ifF hb95 H; refine WC_skip ?_; refine WC_seq ?_; obtain ⟨q102, hq102, H⟩ := bnd H; refine WC_cut (fun F w => ∃ (Fb : Fr) (G : Gm), F = upds Fb [(6, .bool q102)] ∧ Gle G94 G ∧ Since w0.heap.size G0 w0 G w ∧ Owns G w w0.heap.size [⟨26, 3, 1, .slice (some ⟨b10, 0, none⟩) 1 1, [.slice ap76_0 np76_0 cp76_0, .slice ap76_1 np76_1 cp76_1, .slice ap76_2 np76_2 cp76_2]⟩]) ?_ ?_
         ·have Hoq102 := H; have H := hq102; refine WC_region ?_; refine WL_val (rn_move (v := (.int .i64 y54.2.2)) rfl) rfl ?_; refine WL_val (rn_eql rfl rfl) rfl ?_; refine WL_val (rn_move (v := (.bool (y54.2.2 == 0))) rfl) rfl ?_
          rcases bcases (y54.2.2 == 0) with hb103 | hb103
          ·have H := ifT hb103 H; refine WL_guardY rfl hb103 rfl rfl ?_; refine WL_val (rn_move (v := (.int .i64 y50.2.1)) rfl) rfl ?_; refine WL_guardY rfl hb103 rfl rfl ?_; refine WL_val (rn_move (v := (.int .i64 y54.2.1)) rfl) rfl ?_; refine WL_guardY rfl hb103 rfl rfl ?_; refine WL_val (rn_eql rfl rfl) rfl ?_; refine WL_val (rn_pickT (v := (.bool (y50.2.1 == y54.2.1))) rfl hb103 rfl) rfl ?_; refine WL_val (rn_move (v := (.bool (y50.2.1 == y54.2.1))) rfl) rfl ?_
           rcases bcases (y50.2.1 == y54.2.1) with hb104 | hb104
           ·have H := ifT hb104 H; refine WL_guardY rfl hb104 rfl rfl ?_; refine WL_val (rn_move (v := (.slice a53 n53 c53)) rfl) rfl ?_; refine WL_guardY rfl hb104 rfl rfl ?_; refine WL_val (rn_move (v := (.slice a57 n57 c57)) rfl) rfl ?_; refine WL_guardY rfl hb104 rfl rfl ?_; obtain ⟨y105, hy105, H⟩ := bnd H
            have l8_10 := leG56.trans leG94
            refine WL_op rfl (OpP_callV cb20 (f20_ok (x0 := y50.1) (x1 := y54.1) hS.sat (h53.mono RInt_mono l8_10) (h57.mono RInt_mono leG94) hy105) rfl rfl (fun w106 hb => ?_)); have hS := hS.keep hb; have hO := hO.below hb; refine WL_val (rn_pickT (v := (.bool y105)) rfl hb104 rfl) rfl ?_; refine WL_val (rn_move (v := (.bool y105)) rfl) rfl ?_
            rcases bcases y105 with hb107 | hb107
            ·have H := ifT hb107 H; refine WL_guardY rfl hb107 rfl rfl ?_; obtain ⟨y108, hy108, H⟩ := bnd H
             have l0_10 := l0_8.trans l8_10
             refine WL_op rfl (OpP_callV cb15 (f15_ok  hS.sat (hT.mono l0_10)  hy108) rfl rfl (fun w109 hb => ?_)); have hS := hS.keep hb; have hO := hO.below hb; refine WL_val (rn_pickT (v := (.bool y108)) rfl hb107 rfl) rfl ?_; refine WL_val (rn_assign (v := (.bool y108)) rfl) rfl ?_; refine WL_nil ?_
             have hO : Owns G94 w109 w0.heap.size ([⟨26, 3, 1, .slice (some ⟨b10, 0, none⟩) 1 1, [.slice ap76_0 np76_0 cp76_0, .slice ap76_1 np76_1 cp76_1, .slice ap76_2 np76_2 cp76_2]⟩]) := hO
             have H := Option.some.inj H; subst H
             exact ⟨_, G94, upds_self _ _ ⟨rfl, trivial⟩, Gle.refl _, hS, hO⟩
            ·have H := ifF hb107 H; refine WL_guardN rfl hb107 rfl rfl rfl ?_; refine WL_val (rn_pickF (v := (.bool false)) rfl hb107 rfl) rfl ?_; refine WL_val (rn_assign (v := (.bool false)) rfl) rfl ?_; refine WL_nil ?_
             have hO : Owns G94 w106 w0.heap.size ([⟨26, 3, 1, .slice (some ⟨b10, 0, none⟩) 1 1, [.slice ap76_0 np76_0 cp76_0, .slice ap76_1 np76_1 cp76_1, .slice ap76_2 np76_2 cp76_2]⟩]) := hO
             have H := Option.some.inj H; subst H
             exact ⟨_, G94, upds_self _ _ ⟨rfl, trivial⟩, Gle.refl _, hS, hO⟩
           ·have H := ifF hb104 H; refine WL_guardN rfl hb104 rfl rfl rfl ?_; refine WL_guardN rfl hb104 rfl rfl rfl ?_; refine WL_guardN rfl hb104 rfl rfl rfl ?_; refine WL_val (rn_pickF (v := (.bool false)) rfl hb104 rfl) rfl ?_; refine WL_val (rn_move (v := (.bool false)) rfl) rfl ?_; refine WL_guardN rfl rfl rfl rfl rfl ?_; refine WL_val (rn_pickF (v := (.bool false)) rfl rfl rfl) rfl ?_; refine WL_val (rn_assign (v := (.bool false)) rfl) rfl ?_; refine WL_nil ?_
            have hO : Owns G94 w93 w0.heap.size ([⟨26, 3, 1, .slice (some ⟨b10, 0, none⟩) 1 1, [.slice ap76_0 np76_0 cp76_0, .slice ap76_1 np76_1 cp76_1, .slice ap76_2 np76_2 cp76_2]⟩]) := hO
            have H := Option.some.inj H; subst H
            exact ⟨_, G94, upds_self _ _ ⟨rfl, trivial⟩, Gle.refl _, hS, hO⟩
          ·have H := ifF hb103 H; refine WL_guardN rfl hb103 rfl rfl rfl ?_; refine WL_guardN rfl hb103 rfl rfl rfl ?_; refine WL_guardN rfl hb103 rfl rfl rfl ?_; refine WL_val (rn_pickF (v := (.bool false)) rfl hb103 rfl) rfl ?_; refine WL_val (rn_move (v := (.bool false)) rfl) rfl ?_; refine WL_guardN rfl rfl rfl rfl rfl ?_; refine WL_guardN rfl rfl rfl rfl rfl ?_; refine WL_guardN rfl rfl rfl rfl rfl ?_; refine WL_val (rn_pickF (v := (.bool false)) rfl rfl rfl) rfl ?_; refine WL_val (rn_move (v := (.bool false)) rfl) rfl ?_; refine WL_guardN rfl rfl rfl rfl rfl ?_; refine WL_val (rn_pickF (v := (.bool false)) rfl rfl rfl) rfl ?_; refine WL_val (rn_assign (v := (.bool false)) rfl) rfl ?_; refine WL_nil ?_
           have hO : Owns G94 w93 w0.heap.size ([⟨26, 3, 1, .slice (some ⟨b10, 0, none⟩) 1 1, [.slice ap76_0 np76_0 cp76_0, .slice ap76_1 np76_1 cp76_1, .slice ap76_2 np76_2 cp76_2]⟩]) := hO
           have H := Option.some.inj H; subst H
           exact ⟨_, G94, upds_self _ _ ⟨rfl, trivial⟩, Gle.refl _, hS, hO⟩
         ·rintro F w110 ⟨Fb, G111, rfl, leG111, hS, hO⟩
          refine WC_ret ?_
          have H : some q102 = some r := H
          have H := Option.some.inj H; subst H
          exact ⟨rfl, hS.below⟩
end Go.Proofs.YtcaflmilfhhikaaDoor
