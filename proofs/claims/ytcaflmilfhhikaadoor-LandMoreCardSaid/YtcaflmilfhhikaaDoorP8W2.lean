/-
  The walks: each Go function computes its plain function (printed by a program of ours).
-/
import Derived.Test.YtcaflmilfhhikaaDoorFm
import Derived.Test.YtcaflmilfhhikaaDoorRd
import Derived.Test.YtcaflmilfhhikaaDoorBaseQ
import Derived.Test.YtcaflmilfhhikaaDoorIt
import Derived.Test.YtcaflmilfhhikaaDoorLib
import Derived.Test.YtcaflmilfhhikaaDoorBu
import Derived.Test.YtcaflmilfhhikaaDoorP8W1
namespace Go.Proofs.YtcaflmilfhhikaaDoor
open Go.RowKit
set_option linter.unusedVariables false

set_option maxRecDepth 20000
set_option linter.unusedVariables false
set_option maxHeartbeats 1000000 in
theorem f69_ok {G0 : Gm} {w0 : World} (hS0 : Sat G0 w0) {x0 : TLandBook} {a1 : Option Addr} {n1 c1 : Nat} {a2 : Option Addr} {n2 c2 : Nat} {a3 : Option Addr} {n3 c3 : Nat} {x1 : Bool} (h1 : RSl RTLandPerson 2 G0 a1 n1 c1 x0.People) (h2 : RSl RTLandEvent 2 G0 a2 n2 c2 x0.Events) (h3 : RSl RTLandMemory 4 G0 a3 n3 c3 x0.Memories) {r : (Tb 64) × Int} (H : f69 x0 x1 = some r) :
  Calls Tryd.prog 69 #[.agg #[.slice a1 n1 c1, .slice a2 n2 c2, .slice a3 n3 c3], .bool x1] w0 (RetV w0 (.tuple #[.agg (cellsT r.1).toArray, .int .i64 r.2])) := by
 have hS := Since.start hS0
 have hO : Owns G0 w0 w0.heap.size [] := Owns.nil (Nat.le_refl _)
 unfold f69 at H
 refine enterG (N := 29) (shutV _ _) [.cell 4 95, .tmp 5] Tryd.func69 rfl rfl rfl rfl ?_; refine WC_seq ?_; refine WC_region ?_; refine WL_op rfl (OpP_newF (v := fun b => .pointer (some ⟨b, 0, none⟩)) (cs := [.slice a1 n1 c1, .slice a2 n2 c2, .slice a3 n3 c3]) (e := 26) (rn_boxA rfl) hS.sat rfl (fun b4 G6 w5 hg hcb4 => ?_)); have hS := hS.grow hg; have hO := hO.grow hg
 have leG6 := hg.le
 refine WL_op rfl (OpP_newO (v := fun b => .pointer (some ⟨b, 0, none⟩)) (cs := (cellsT (Tb.zero 64))) (e := 95) (by kernel_rfl) hS.sat hO rfl 64 1 (cellsT_len _) (by decide) (fun b7 w8 hb hO => ?_))
 have hS := hS.keep hb; refine WL_val (rn_assign (v := (.int .i64 0)) rfl) rfl ?_; refine WL_nil ?_; refine WC_seq ?_; refine WC_seq ?_; obtain ⟨q10, hq10, H⟩ := bnd H; refine WC_cut (fun F w => ∃ (Fb : Fr) (G : Gm), F = upds Fb [(2, .pointer (some ⟨b4, 0, none⟩)), (4, .pointer (some ⟨b7, 0, none⟩)), (14, .bool q10)] ∧ Gle G6 G ∧ Since w0.heap.size G0 w0 G w ∧ Owns G w w0.heap.size [⟨95, 64, 1, .slice (some ⟨b7, 0, none⟩) 1 1, cellsT (Tb.zero 64)⟩]) ?_ ?_
 ·have Hoq10 := H; have H := hq10; refine WC_region ?_; refine WL_val (rn_loadA ag26 (cs := [.slice a1 n1 c1, .slice a2 n2 c2, .slice a3 n3 c3]) rfl rfl (fun j v hj => hS.sat.cell (hcb4.drop_take 0 3 j v hj))) rfl ?_; obtain ⟨y11, hy11, H⟩ := bnd H; refine WL_op rfl (OpP_callV cb51 (f51_ok (x0 := x0) hS.sat (h1.mono RTLandPerson_mono leG6) (h2.mono RTLandEvent_mono leG6) (h3.mono RTLandMemory_mono leG6) hy11) rfl rfl (fun w12 hb => ?_)); have hS := hS.keep hb; have hO := hO.below hb; refine WL_val (rn_not rfl) rfl ?_; refine WL_val (rn_move (v := (.bool (!y11))) rfl) rfl ?_
  rcases bcases (!y11) with hb13 | hb13
  ·have H := ifT hb13 H; refine WL_guardN rfl hb13 rfl rfl rfl ?_; refine WL_guardN rfl hb13 rfl rfl rfl ?_; refine WL_val (rn_pickT (v := (.bool true)) rfl hb13 rfl) rfl ?_; refine WL_nil ?_
   have hO : Owns G6 w12 w0.heap.size ([⟨95, 64, 1, .slice (some ⟨b7, 0, none⟩) 1 1, cellsT (Tb.zero 64)⟩]) := hO
   have H := Option.some.inj H; subst H
   exact ⟨_, G6, upds_self _ _ ⟨rfl, rfl, rfl, trivial⟩, Gle.refl _, hS, hO⟩
  ·have H := ifF hb13 H; refine WL_guardY rfl hb13 rfl rfl ?_; refine WL_val (rn_move (v := (.bool x1)) rfl) rfl ?_; refine WL_guardY rfl hb13 rfl rfl ?_; refine WL_val (rn_not rfl) rfl ?_; refine WL_val (rn_pickF (v := (.bool (!x1))) rfl hb13 rfl) rfl ?_; refine WL_nil ?_
   have hO : Owns G6 w12 w0.heap.size ([⟨95, 64, 1, .slice (some ⟨b7, 0, none⟩) 1 1, cellsT (Tb.zero 64)⟩]) := hO
   have H := Option.some.inj H; subst H
   exact ⟨_, G6, upds_self _ _ ⟨rfl, rfl, rfl, trivial⟩, Gle.refl _, hS, hO⟩
 ·rintro F w14 ⟨Fb, G15, rfl, leG15, hS, hO⟩
  refine WC_cond rfl (fun hb16 => ?_) (fun hb16 => ?_)
  ·have H := ifT hb16 H; refine WC_seq ?_; refine WC_region ?_
   refine WL_val (v := (.agg (cellsT (Tb.zero 64)).toArray)) (by kernel_rfl) rfl ?_
   refine WL_op rfl (OpP_storeTT sz95 hS hO (k := 0) rfl rfl rfl (fun w17 hS hO => ?_))
   have hO : Owns G15 w17 w0.heap.size ([⟨95, 64, 1, .slice (some ⟨b7, 0, none⟩) 1 1, cellsT (Tb.zero 64)⟩]) := hO
   refine WL_val (rn_assign (v := (.int .i64 2)) rfl) rfl ?_; refine WL_nil ?_; refine WC_ret ?_
   have H : some (Tb.zero 64, 2) = some r := H
   have H := Option.some.inj H; subst H
   exact ⟨[.agg (cellsT (Tb.zero 64)).toArray, .int .i64 2], ⟨⟨_, rfl, ld_agg (cs := (cellsT (Tb.zero 64))) ag95 (cellsT_len _) (fun j v hj => by rw [Nat.zero_add]; exact own_cell hO (k := 0) rfl hj)⟩, rfl, trivial⟩, ⟨rfl, hS.below⟩⟩
  ·have H := ifF hb16 H; refine WC_skip ?_; refine WC_seq ?_; have hS := hS.keep (below_drew _); have hO := hO.below (below_drew _)
   refine WC_regionD mixedO (fun _ w => Sat G15 w ∧ Owns G15 w w0.heap.size [⟨95, 64, 1, .slice (some ⟨b7, 0, none⟩) 1 1, cellsT (Tb.zero 64)⟩]) (.fl 0 (.fl 2 (.two 1 (.two 3 (.two 4 (.two 5 (.fl 6 (.fl 7 (.fl 8 (.on 9 (.on 10 (.on 11 .nil)))))) 9 (.on 5 (.on 6 (.fl 7 (.fl 8 (.on 10 (.on 11 .nil))))))) 9 (.on 4 (.on 5 (.on 6 (.fl 7 (.fl 8 (.on 10 (.on 11 .nil)))))))) 9 (.on 3 (.on 4 (.on 5 (.on 6 (.fl 7 (.fl 8 (.on 10 (.on 11 .nil))))))))) 9 (.on 1 (.on 3 (.on 4 (.on 5 (.on 6 (.fl 7 (.fl 8 (.on 10 (.on 11 .nil)))))))))))) (by kernel_rfl) rfl (by kernel_rfl) (fun _ => ⟨hS.sat, hO⟩) ?_
   refine WD_val rfl (fun w hw => rn_loadA ag26 (cs := [.slice a1 n1 c1, .slice a2 n2 c2, .slice a3 n3 c3]) rfl rfl (fun j v hj => (hw.1.le leG15).cell (hcb4.drop_take 0 3 j v hj))) rfl ?_; refine WD_val rfl (fun w hw => rn_loadA ag26 (cs := [.slice a1 n1 c1, .slice a2 n2 c2, .slice a3 n3 c3]) rfl rfl (fun j v hj => (hw.1.le leG15).cell (hcb4.drop_take 0 3 j v hj))) rfl ?_; refine WD_two ?_ ?_
   ·refine WD_op rfl rfl (OpP_in1 (N' := 7) [.agg #[.slice a1 n1 c1, .slice a2 n2 c2, .slice a3 n3 c3]] cb52 Tryd.func52 rfl rfl rfl rfl rfl rfl ?_); refine WC_seq ?_; refine WC_region ?_; refine WL_op rfl (OpP_newF (v := fun b => .pointer (some ⟨b, 0, none⟩)) (cs := [.slice a1 n1 c1, .slice a2 n2 c2, .slice a3 n3 c3]) (e := 26) (rn_boxA rfl) hS.sat rfl (fun b18 G20 w19 hg hcb18 => ?_)); have hS := hS.grow hg; have hO := hO.grow hg
    have leG20 := hg.le
    refine WL_val (rn_assign (v := (.pointer none)) rfl) rfl ?_; refine WL_nil ?_; refine WC_seq ?_; refine WC_region ?_; refine WL_val (rn_loadA ag26 (cs := [.slice a1 n1 c1, .slice a2 n2 c2, .slice a3 n3 c3]) rfl rfl (fun j v hj => hS.sat.cell (hcb18.drop_take 0 3 j v hj))) rfl ?_; refine WL_op rfl (OpP_makeMap (e := 77) hS hO rfl (fun r21 w22 hS hO => ?_))
    have hO : Owns G20 w22 w0.heap.size ([⟨77, 2, ([] : (List (Int × Bool))).length, .map (some r21), kvs kvI vvB ([] : (List (Int × Bool)))⟩, ⟨95, 64, 1, .slice (some ⟨b7, 0, none⟩) 1 1, cellsT (Tb.zero 64)⟩]) := hO
    refine WL_val (v := (.agg #[.slice a1 n1 c1, .slice a2 n2 c2, .slice a3 n3 c3, .map (some r21)])) (by kernel_rfl) rfl ?_
    refine WL_op rfl (OpP_newF (v := fun b => .pointer (some ⟨b, 0, none⟩)) (cs := [.slice a1 n1 c1, .slice a2 n2 c2, .slice a3 n3 c3, .map (some r21)]) (e := 107) (rn_boxA rfl) hS.sat rfl (fun b24 G26 w25 hg hcb24 => ?_)); have hS := hS.grow hg; have hO := hO.grow hg
    have leG26 := hg.le
    refine WL_val (rn_assign (v := (.pointer (some ⟨b24, 0, none⟩))) rfl) rfl ?_; refine WL_nil ?_; refine WC_ret ?_; refine ⟨(.pointer (some ⟨b24, 0, none⟩)), rfl, ?_⟩
    have hO : Owns G26 w25 w0.heap.size ([⟨77, 2, ([] : (List (Int × Bool))).length, .map (some r21), kvs kvI vvB ([] : (List (Int × Bool)))⟩, ⟨95, 64, 1, .slice (some ⟨b7, 0, none⟩) 1 1, cellsT (Tb.zero 64)⟩]) := hO
    have l2_4 := leG20.trans leG26
    refine ⟨fun _ _ => ⟨hS.sat.le l2_4, (hO.drop 0).le l2_4⟩, ?_⟩; refine WD_two ?_ ?_
    ·refine WD_op rfl rfl (OpP_in1 (N' := 7) [.agg #[.slice a1 n1 c1, .slice a2 n2 c2, .slice a3 n3 c3]] cb52 Tryd.func52 rfl rfl rfl rfl rfl rfl ?_); refine WC_seq ?_; refine WC_region ?_; refine WL_op rfl (OpP_newF (v := fun b => .pointer (some ⟨b, 0, none⟩)) (cs := [.slice a1 n1 c1, .slice a2 n2 c2, .slice a3 n3 c3]) (e := 26) (rn_boxA rfl) hS.sat rfl (fun b27 G29 w28 hg hcb27 => ?_)); have hS := hS.grow hg; have hO := hO.grow hg
     have leG29 := hg.le
     refine WL_val (rn_assign (v := (.pointer none)) rfl) rfl ?_; refine WL_nil ?_; refine WC_seq ?_; refine WC_region ?_; refine WL_val (rn_loadA ag26 (cs := [.slice a1 n1 c1, .slice a2 n2 c2, .slice a3 n3 c3]) rfl rfl (fun j v hj => hS.sat.cell (hcb27.drop_take 0 3 j v hj))) rfl ?_; refine WL_op rfl (OpP_makeMap (e := 77) hS hO rfl (fun r30 w31 hS hO => ?_))
     have hO : Owns G29 w31 w0.heap.size ([⟨77, 2, ([] : (List (Int × Bool))).length, .map (some r30), kvs kvI vvB ([] : (List (Int × Bool)))⟩, ⟨77, 2, ([] : (List (Int × Bool))).length, .map (some r21), kvs kvI vvB ([] : (List (Int × Bool)))⟩, ⟨95, 64, 1, .slice (some ⟨b7, 0, none⟩) 1 1, cellsT (Tb.zero 64)⟩]) := hO
     refine WL_val (v := (.agg #[.slice a1 n1 c1, .slice a2 n2 c2, .slice a3 n3 c3, .map (some r30)])) (by kernel_rfl) rfl ?_
     refine WL_op rfl (OpP_newF (v := fun b => .pointer (some ⟨b, 0, none⟩)) (cs := [.slice a1 n1 c1, .slice a2 n2 c2, .slice a3 n3 c3, .map (some r30)]) (e := 107) (rn_boxA rfl) hS.sat rfl (fun b33 G35 w34 hg hcb33 => ?_)); have hS := hS.grow hg; have hO := hO.grow hg
     have leG35 := hg.le
     refine WL_val (rn_assign (v := (.pointer (some ⟨b33, 0, none⟩))) rfl) rfl ?_; refine WL_nil ?_; refine WC_ret ?_; refine ⟨(.pointer (some ⟨b33, 0, none⟩)), rfl, ?_⟩
     have hO : Owns G35 w34 w0.heap.size ([⟨77, 2, ([] : (List (Int × Bool))).length, .map (some r30), kvs kvI vvB ([] : (List (Int × Bool)))⟩, ⟨77, 2, ([] : (List (Int × Bool))).length, .map (some r21), kvs kvI vvB ([] : (List (Int × Bool)))⟩, ⟨95, 64, 1, .slice (some ⟨b7, 0, none⟩) 1 1, cellsT (Tb.zero 64)⟩]) := hO
     have l2_6 := (l2_4.trans leG29).trans leG35
     refine ⟨fun _ _ => ⟨hS.sat.le l2_6, ((hO.drop 1).drop 0).le l2_6⟩, ?_⟩; refine WD_two ?_ ?_
     ·have l0_6 := (leG6.trans leG15).trans l2_6
      obtain ⟨y36, hy36, H⟩ := bnd H
      have hx38 := f54_ok (x0 := x0) hS.sat hcb33 (h1.mono RTLandPerson_mono l0_6) (h2.mono RTLandEvent_mono l0_6) (h3.mono RTLandMemory_mono l0_6) hy36
      refine WD_op rfl rfl (OpP_callV cb54 hx38 rfl rfl (fun w37 hb => ?_)); have hS := hS.keep hb; have hO := hO.below hb; refine ⟨fun _ _ => ⟨hS.sat.le l2_6, ((hO.drop 1).drop 0).le l2_6⟩, ?_⟩; refine WD_two ?_ ?_
      ·have l4_6 := leG29.trans leG35
       obtain ⟨y39, hy39, H⟩ := bnd H
       have hx41 := f79_ok (x0 := x0) (x1 := y36) hS.sat (hcb24.mono l4_6) (h1.mono RTLandPerson_mono l0_6) (h2.mono RTLandEvent_mono l0_6) (h3.mono RTLandMemory_mono l0_6) hy39
       refine WD_op rfl rfl (OpP_callV cb79 hx41 rfl rfl (fun w40 hb => ?_)); have hS := hS.keep hb; have hO := hO.below hb; refine ⟨fun _ _ => ⟨hS.sat.le l2_6, ((hO.drop 1).drop 0).le l2_6⟩, ?_⟩; refine WD_val rfl (fun w hw => rn_move (v := (.tuple #[.agg (cellsT y39.1).toArray, .bool y39.2])) rfl) rfl ?_; refine WD_val rfl (fun w hw => rn_extract (v := (.agg (cellsT y39.1).toArray)) rfl rfl) rfl ?_; refine WD_val rfl (fun w hw => rn_extract (v := (.bool y39.2)) rfl rfl) rfl ?_
       refine WD_op rfl rfl (OpP_newO (v := fun b => .pointer (some ⟨b, 0, none⟩)) (cs := (cellsT (Tb.zero 64))) (e := 95) (by kernel_rfl) hS.sat hO rfl 64 1 (cellsT_len _) (by decide) (fun b42 w43 hb hO => ?_))
       have hS := hS.keep hb; refine ⟨fun _ _ => ⟨hS.sat.le l2_6, (((hO.drop 2).drop 1).drop 0).le l2_6⟩, ?_⟩; refine WD_op rfl rfl (OpP_storeTT sz95 hS hO (k := 0) rfl rfl rfl (fun w45 hS hO => ?_))
       have hO : Owns G35 w45 w0.heap.size ([⟨95, 64, 1, .slice (some ⟨b42, 0, none⟩) 1 1, cellsT y39.1⟩, ⟨77, 2, ([] : (List (Int × Bool))).length, .map (some r30), kvs kvI vvB ([] : (List (Int × Bool)))⟩, ⟨77, 2, ([] : (List (Int × Bool))).length, .map (some r21), kvs kvI vvB ([] : (List (Int × Bool)))⟩, ⟨95, 64, 1, .slice (some ⟨b7, 0, none⟩) 1 1, cellsT (Tb.zero 64)⟩]) := hO
       refine ⟨fun _ _ => ⟨hS.sat.le l2_6, (((hO.drop 2).drop 1).drop 0).le l2_6⟩, ?_⟩; refine WD_op rfl rfl (OpP_val (rn_assign (v := (.bool y39.2)) rfl) rfl ?_)
       refine ⟨fun _ h => noneed (by kernel_rfl) h, ?_⟩
       refine WD_nil ?_; refine WC_seq ?_; refine WC_seq ?_; refine WC_region ?_; refine WL_val (rn_move (v := (.bool y39.2)) rfl) rfl ?_; refine WL_val (rn_not rfl) rfl ?_; refine WL_nil ?_; refine WC_cond rfl (fun hb46 => ?_) (fun hb46 => ?_)
       ·have H := ifT hb46 H; refine WC_seq ?_; refine WC_region ?_
        refine WL_val (v := (.agg (cellsT (Tb.zero 64)).toArray)) (by kernel_rfl) rfl ?_
        refine WL_op rfl (OpP_storeTT sz95 hS hO (k := 3) rfl rfl rfl (fun w47 hS hO => ?_))
        have hO : Owns G35 w47 w0.heap.size ([⟨95, 64, 1, .slice (some ⟨b42, 0, none⟩) 1 1, cellsT y39.1⟩, ⟨77, 2, ([] : (List (Int × Bool))).length, .map (some r30), kvs kvI vvB ([] : (List (Int × Bool)))⟩, ⟨77, 2, ([] : (List (Int × Bool))).length, .map (some r21), kvs kvI vvB ([] : (List (Int × Bool)))⟩, ⟨95, 64, 1, .slice (some ⟨b7, 0, none⟩) 1 1, cellsT (Tb.zero 64)⟩]) := hO
        refine WL_val (rn_assign (v := (.int .i64 7)) rfl) rfl ?_; refine WL_nil ?_; refine WC_ret ?_
        have H : some (Tb.zero 64, 7) = some r := H
        have H := Option.some.inj H; subst H
        exact ⟨[.agg (cellsT (Tb.zero 64)).toArray, .int .i64 7], ⟨⟨_, rfl, ld_agg (cs := (cellsT (Tb.zero 64))) ag95 (cellsT_len _) (fun j v hj => by rw [Nat.zero_add]; exact own_cell hO (k := 3) rfl hj)⟩, rfl, trivial⟩, ⟨rfl, hS.below⟩⟩
       ·have H := ifF hb46 H; refine WC_skip ?_; refine WC_seq ?_; refine WC_region ?_; refine WL_val (rn_loadT ag95 hO (k := 0) rfl rfl) rfl ?_; refine WL_op rfl (OpP_storeTT sz95 hS hO (k := 3) rfl rfl rfl (fun w48 hS hO => ?_))
        have hO : Owns G35 w48 w0.heap.size ([⟨95, 64, 1, .slice (some ⟨b42, 0, none⟩) 1 1, cellsT y39.1⟩, ⟨77, 2, ([] : (List (Int × Bool))).length, .map (some r30), kvs kvI vvB ([] : (List (Int × Bool)))⟩, ⟨77, 2, ([] : (List (Int × Bool))).length, .map (some r21), kvs kvI vvB ([] : (List (Int × Bool)))⟩, ⟨95, 64, 1, .slice (some ⟨b7, 0, none⟩) 1 1, cellsT y39.1⟩]) := hO
        refine WL_val (rn_assign (v := (.int .i64 0)) rfl) rfl ?_; refine WL_nil ?_; refine WC_ret ?_
        have H : some (y39.1, 0) = some r := H
        have H := Option.some.inj H; subst H
        exact ⟨[.agg (cellsT y39.1).toArray, .int .i64 0], ⟨⟨_, rfl, ld_agg (cs := (cellsT y39.1)) ag95 (cellsT_len _) (fun j v hj => by rw [Nat.zero_add]; exact own_cell hO (k := 3) rfl hj)⟩, rfl, trivial⟩, ⟨rfl, hS.below⟩⟩
      ·refine WD_op rfl rfl (OpP_newO (v := fun b => .pointer (some ⟨b, 0, none⟩)) (cs := (cellsT (Tb.zero 64))) (e := 95) (by kernel_rfl) hS.sat hO rfl 64 1 (cellsT_len _) (by decide) (fun b39 w40 hb hO => ?_))
       have hS := hS.keep hb; refine ⟨fun _ _ => ⟨hS.sat.le l2_6, (((hO.drop 2).drop 1).drop 0).le l2_6⟩, ?_⟩
       have l4_6 := leG29.trans leG35
       obtain ⟨y42, hy42, H⟩ := bnd H
       have hx44 := f79_ok (x0 := x0) (x1 := y36) hS.sat (hcb24.mono l4_6) (h1.mono RTLandPerson_mono l0_6) (h2.mono RTLandEvent_mono l0_6) (h3.mono RTLandMemory_mono l0_6) hy42
       refine WD_op rfl rfl (OpP_callV cb79 hx44 rfl rfl (fun w43 hb => ?_)); have hS := hS.keep hb; have hO := hO.below hb; refine ⟨fun _ _ => ⟨hS.sat.le l2_6, (((hO.drop 2).drop 1).drop 0).le l2_6⟩, ?_⟩; refine WD_op rfl rfl (OpP_val (rn_move (v := (.tuple #[.agg (cellsT y42.1).toArray, .bool y42.2])) rfl) rfl ?_); refine ⟨fun _ _ => ⟨hS.sat.le l2_6, (((hO.drop 2).drop 1).drop 0).le l2_6⟩, ?_⟩; refine WD_val rfl (fun w hw => rn_extract (v := (.agg (cellsT y42.1).toArray)) rfl rfl) rfl ?_; refine WD_val rfl (fun w hw => rn_extract (v := (.bool y42.2)) rfl rfl) rfl ?_; refine WD_op rfl rfl (OpP_storeTT sz95 hS hO (k := 0) rfl rfl rfl (fun w45 hS hO => ?_))
       have hO : Owns G35 w45 w0.heap.size ([⟨95, 64, 1, .slice (some ⟨b39, 0, none⟩) 1 1, cellsT y42.1⟩, ⟨77, 2, ([] : (List (Int × Bool))).length, .map (some r30), kvs kvI vvB ([] : (List (Int × Bool)))⟩, ⟨77, 2, ([] : (List (Int × Bool))).length, .map (some r21), kvs kvI vvB ([] : (List (Int × Bool)))⟩, ⟨95, 64, 1, .slice (some ⟨b7, 0, none⟩) 1 1, cellsT (Tb.zero 64)⟩]) := hO
       refine ⟨fun _ _ => ⟨hS.sat.le l2_6, (((hO.drop 2).drop 1).drop 0).le l2_6⟩, ?_⟩; refine WD_op rfl rfl (OpP_val (rn_assign (v := (.bool y42.2)) rfl) rfl ?_)
       refine ⟨fun _ h => noneed (by kernel_rfl) h, ?_⟩
       refine WD_nil ?_; refine WC_seq ?_; refine WC_seq ?_; refine WC_region ?_; refine WL_val (rn_move (v := (.bool y42.2)) rfl) rfl ?_; refine WL_val (rn_not rfl) rfl ?_; refine WL_nil ?_; refine WC_cond rfl (fun hb46 => ?_) (fun hb46 => ?_)
       ·have H := ifT hb46 H; refine WC_seq ?_; refine WC_region ?_
        refine WL_val (v := (.agg (cellsT (Tb.zero 64)).toArray)) (by kernel_rfl) rfl ?_
        refine WL_op rfl (OpP_storeTT sz95 hS hO (k := 3) rfl rfl rfl (fun w47 hS hO => ?_))
        have hO : Owns G35 w47 w0.heap.size ([⟨95, 64, 1, .slice (some ⟨b39, 0, none⟩) 1 1, cellsT y42.1⟩, ⟨77, 2, ([] : (List (Int × Bool))).length, .map (some r30), kvs kvI vvB ([] : (List (Int × Bool)))⟩, ⟨77, 2, ([] : (List (Int × Bool))).length, .map (some r21), kvs kvI vvB ([] : (List (Int × Bool)))⟩, ⟨95, 64, 1, .slice (some ⟨b7, 0, none⟩) 1 1, cellsT (Tb.zero 64)⟩]) := hO
        refine WL_val (rn_assign (v := (.int .i64 7)) rfl) rfl ?_; refine WL_nil ?_; refine WC_ret ?_
        have H : some (Tb.zero 64, 7) = some r := H
        have H := Option.some.inj H; subst H
        exact ⟨[.agg (cellsT (Tb.zero 64)).toArray, .int .i64 7], ⟨⟨_, rfl, ld_agg (cs := (cellsT (Tb.zero 64))) ag95 (cellsT_len _) (fun j v hj => by rw [Nat.zero_add]; exact own_cell hO (k := 3) rfl hj)⟩, rfl, trivial⟩, ⟨rfl, hS.below⟩⟩
       ·have H := ifF hb46 H; refine WC_skip ?_; refine WC_seq ?_; refine WC_region ?_; refine WL_val (rn_loadT ag95 hO (k := 0) rfl rfl) rfl ?_; refine WL_op rfl (OpP_storeTT sz95 hS hO (k := 3) rfl rfl rfl (fun w48 hS hO => ?_))
        have hO : Owns G35 w48 w0.heap.size ([⟨95, 64, 1, .slice (some ⟨b39, 0, none⟩) 1 1, cellsT y42.1⟩, ⟨77, 2, ([] : (List (Int × Bool))).length, .map (some r30), kvs kvI vvB ([] : (List (Int × Bool)))⟩, ⟨77, 2, ([] : (List (Int × Bool))).length, .map (some r21), kvs kvI vvB ([] : (List (Int × Bool)))⟩, ⟨95, 64, 1, .slice (some ⟨b7, 0, none⟩) 1 1, cellsT y42.1⟩]) := hO
        refine WL_val (rn_assign (v := (.int .i64 0)) rfl) rfl ?_; refine WL_nil ?_; refine WC_ret ?_
        have H : some (y42.1, 0) = some r := H
        have H := Option.some.inj H; subst H
        exact ⟨[.agg (cellsT y42.1).toArray, .int .i64 0], ⟨⟨_, rfl, ld_agg (cs := (cellsT y42.1)) ag95 (cellsT_len _) (fun j v hj => by rw [Nat.zero_add]; exact own_cell hO (k := 3) rfl hj)⟩, rfl, trivial⟩, ⟨rfl, hS.below⟩⟩
     ·refine WD_op rfl rfl (OpP_newO (v := fun b => .pointer (some ⟨b, 0, none⟩)) (cs := (cellsT (Tb.zero 64))) (e := 95) (by kernel_rfl) hS.sat hO rfl 64 1 (cellsT_len _) (by decide) (fun b36 w37 hb hO => ?_))
      have hS := hS.keep hb; refine ⟨fun _ _ => ⟨hS.sat.le l2_6, (((hO.drop 2).drop 1).drop 0).le l2_6⟩, ?_⟩
      have l0_6 := (leG6.trans leG15).trans l2_6
      obtain ⟨y39, hy39, H⟩ := bnd H
      have hx41 := f54_ok (x0 := x0) hS.sat hcb33 (h1.mono RTLandPerson_mono l0_6) (h2.mono RTLandEvent_mono l0_6) (h3.mono RTLandMemory_mono l0_6) hy39
      refine WD_op rfl rfl (OpP_callV cb54 hx41 rfl rfl (fun w40 hb => ?_)); have hS := hS.keep hb; have hO := hO.below hb; refine ⟨fun _ _ => ⟨hS.sat.le l2_6, (((hO.drop 2).drop 1).drop 0).le l2_6⟩, ?_⟩
      have l4_6 := leG29.trans leG35
      obtain ⟨y42, hy42, H⟩ := bnd H
      have hx44 := f79_ok (x0 := x0) (x1 := y39) hS.sat (hcb24.mono l4_6) (h1.mono RTLandPerson_mono l0_6) (h2.mono RTLandEvent_mono l0_6) (h3.mono RTLandMemory_mono l0_6) hy42
      refine WD_op rfl rfl (OpP_callV cb79 hx44 rfl rfl (fun w43 hb => ?_)); have hS := hS.keep hb; have hO := hO.below hb; refine ⟨fun _ _ => ⟨hS.sat.le l2_6, (((hO.drop 2).drop 1).drop 0).le l2_6⟩, ?_⟩; refine WD_op rfl rfl (OpP_val (rn_move (v := (.tuple #[.agg (cellsT y42.1).toArray, .bool y42.2])) rfl) rfl ?_); refine ⟨fun _ _ => ⟨hS.sat.le l2_6, (((hO.drop 2).drop 1).drop 0).le l2_6⟩, ?_⟩; refine WD_val rfl (fun w hw => rn_extract (v := (.agg (cellsT y42.1).toArray)) rfl rfl) rfl ?_; refine WD_val rfl (fun w hw => rn_extract (v := (.bool y42.2)) rfl rfl) rfl ?_; refine WD_op rfl rfl (OpP_storeTT sz95 hS hO (k := 0) rfl rfl rfl (fun w45 hS hO => ?_))
      have hO : Owns G35 w45 w0.heap.size ([⟨95, 64, 1, .slice (some ⟨b36, 0, none⟩) 1 1, cellsT y42.1⟩, ⟨77, 2, ([] : (List (Int × Bool))).length, .map (some r30), kvs kvI vvB ([] : (List (Int × Bool)))⟩, ⟨77, 2, ([] : (List (Int × Bool))).length, .map (some r21), kvs kvI vvB ([] : (List (Int × Bool)))⟩, ⟨95, 64, 1, .slice (some ⟨b7, 0, none⟩) 1 1, cellsT (Tb.zero 64)⟩]) := hO
      refine ⟨fun _ _ => ⟨hS.sat.le l2_6, (((hO.drop 2).drop 1).drop 0).le l2_6⟩, ?_⟩; refine WD_op rfl rfl (OpP_val (rn_assign (v := (.bool y42.2)) rfl) rfl ?_)
      refine ⟨fun _ h => noneed (by kernel_rfl) h, ?_⟩
      refine WD_nil ?_; refine WC_seq ?_; refine WC_seq ?_; refine WC_region ?_; refine WL_val (rn_move (v := (.bool y42.2)) rfl) rfl ?_; refine WL_val (rn_not rfl) rfl ?_; refine WL_nil ?_; refine WC_cond rfl (fun hb46 => ?_) (fun hb46 => ?_)
      ·have H := ifT hb46 H; refine WC_seq ?_; refine WC_region ?_
       refine WL_val (v := (.agg (cellsT (Tb.zero 64)).toArray)) (by kernel_rfl) rfl ?_
       refine WL_op rfl (OpP_storeTT sz95 hS hO (k := 3) rfl rfl rfl (fun w47 hS hO => ?_))
       have hO : Owns G35 w47 w0.heap.size ([⟨95, 64, 1, .slice (some ⟨b36, 0, none⟩) 1 1, cellsT y42.1⟩, ⟨77, 2, ([] : (List (Int × Bool))).length, .map (some r30), kvs kvI vvB ([] : (List (Int × Bool)))⟩, ⟨77, 2, ([] : (List (Int × Bool))).length, .map (some r21), kvs kvI vvB ([] : (List (Int × Bool)))⟩, ⟨95, 64, 1, .slice (some ⟨b7, 0, none⟩) 1 1, cellsT (Tb.zero 64)⟩]) := hO
       refine WL_val (rn_assign (v := (.int .i64 7)) rfl) rfl ?_; refine WL_nil ?_; refine WC_ret ?_
       have H : some (Tb.zero 64, 7) = some r := H
       have H := Option.some.inj H; subst H
       exact ⟨[.agg (cellsT (Tb.zero 64)).toArray, .int .i64 7], ⟨⟨_, rfl, ld_agg (cs := (cellsT (Tb.zero 64))) ag95 (cellsT_len _) (fun j v hj => by rw [Nat.zero_add]; exact own_cell hO (k := 3) rfl hj)⟩, rfl, trivial⟩, ⟨rfl, hS.below⟩⟩
      ·have H := ifF hb46 H; refine WC_skip ?_; refine WC_seq ?_; refine WC_region ?_; refine WL_val (rn_loadT ag95 hO (k := 0) rfl rfl) rfl ?_; refine WL_op rfl (OpP_storeTT sz95 hS hO (k := 3) rfl rfl rfl (fun w48 hS hO => ?_))
       have hO : Owns G35 w48 w0.heap.size ([⟨95, 64, 1, .slice (some ⟨b36, 0, none⟩) 1 1, cellsT y42.1⟩, ⟨77, 2, ([] : (List (Int × Bool))).length, .map (some r30), kvs kvI vvB ([] : (List (Int × Bool)))⟩, ⟨77, 2, ([] : (List (Int × Bool))).length, .map (some r21), kvs kvI vvB ([] : (List (Int × Bool)))⟩, ⟨95, 64, 1, .slice (some ⟨b7, 0, none⟩) 1 1, cellsT y42.1⟩]) := hO
       refine WL_val (rn_assign (v := (.int .i64 0)) rfl) rfl ?_; refine WL_nil ?_; refine WC_ret ?_
       have H : some (y42.1, 0) = some r := H
       have H := Option.some.inj H; subst H
       exact ⟨[.agg (cellsT y42.1).toArray, .int .i64 0], ⟨⟨_, rfl, ld_agg (cs := (cellsT y42.1)) ag95 (cellsT_len _) (fun j v hj => by rw [Nat.zero_add]; exact own_cell hO (k := 3) rfl hj)⟩, rfl, trivial⟩, ⟨rfl, hS.below⟩⟩
    ·refine WD_op rfl rfl (OpP_newO (v := fun b => .pointer (some ⟨b, 0, none⟩)) (cs := (cellsT (Tb.zero 64))) (e := 95) (by kernel_rfl) hS.sat hO rfl 64 1 (cellsT_len _) (by decide) (fun b27 w28 hb hO => ?_))
     have hS := hS.keep hb; refine ⟨fun _ _ => ⟨hS.sat.le l2_4, ((hO.drop 1).drop 0).le l2_4⟩, ?_⟩; refine WD_op rfl rfl (OpP_in1 (N' := 7) [.agg #[.slice a1 n1 c1, .slice a2 n2 c2, .slice a3 n3 c3]] cb52 Tryd.func52 rfl rfl rfl rfl rfl rfl ?_); refine WC_seq ?_; refine WC_region ?_; refine WL_op rfl (OpP_newF (v := fun b => .pointer (some ⟨b, 0, none⟩)) (cs := [.slice a1 n1 c1, .slice a2 n2 c2, .slice a3 n3 c3]) (e := 26) (rn_boxA rfl) hS.sat rfl (fun b30 G32 w31 hg hcb30 => ?_)); have hS := hS.grow hg; have hO := hO.grow hg
     have leG32 := hg.le
     refine WL_val (rn_assign (v := (.pointer none)) rfl) rfl ?_; refine WL_nil ?_; refine WC_seq ?_; refine WC_region ?_; refine WL_val (rn_loadA ag26 (cs := [.slice a1 n1 c1, .slice a2 n2 c2, .slice a3 n3 c3]) rfl rfl (fun j v hj => hS.sat.cell (hcb30.drop_take 0 3 j v hj))) rfl ?_; refine WL_op rfl (OpP_makeMap (e := 77) hS hO rfl (fun r33 w34 hS hO => ?_))
     have hO : Owns G32 w34 w0.heap.size ([⟨77, 2, ([] : (List (Int × Bool))).length, .map (some r33), kvs kvI vvB ([] : (List (Int × Bool)))⟩, ⟨95, 64, 1, .slice (some ⟨b27, 0, none⟩) 1 1, cellsT (Tb.zero 64)⟩, ⟨77, 2, ([] : (List (Int × Bool))).length, .map (some r21), kvs kvI vvB ([] : (List (Int × Bool)))⟩, ⟨95, 64, 1, .slice (some ⟨b7, 0, none⟩) 1 1, cellsT (Tb.zero 64)⟩]) := hO
     refine WL_val (v := (.agg #[.slice a1 n1 c1, .slice a2 n2 c2, .slice a3 n3 c3, .map (some r33)])) (by kernel_rfl) rfl ?_
     refine WL_op rfl (OpP_newF (v := fun b => .pointer (some ⟨b, 0, none⟩)) (cs := [.slice a1 n1 c1, .slice a2 n2 c2, .slice a3 n3 c3, .map (some r33)]) (e := 107) (rn_boxA rfl) hS.sat rfl (fun b36 G38 w37 hg hcb36 => ?_)); have hS := hS.grow hg; have hO := hO.grow hg
     have leG38 := hg.le
     refine WL_val (rn_assign (v := (.pointer (some ⟨b36, 0, none⟩))) rfl) rfl ?_; refine WL_nil ?_; refine WC_ret ?_; refine ⟨(.pointer (some ⟨b36, 0, none⟩)), rfl, ?_⟩
     have hO : Owns G38 w37 w0.heap.size ([⟨77, 2, ([] : (List (Int × Bool))).length, .map (some r33), kvs kvI vvB ([] : (List (Int × Bool)))⟩, ⟨95, 64, 1, .slice (some ⟨b27, 0, none⟩) 1 1, cellsT (Tb.zero 64)⟩, ⟨77, 2, ([] : (List (Int × Bool))).length, .map (some r21), kvs kvI vvB ([] : (List (Int × Bool)))⟩, ⟨95, 64, 1, .slice (some ⟨b7, 0, none⟩) 1 1, cellsT (Tb.zero 64)⟩]) := hO
     have l2_6 := (l2_4.trans leG32).trans leG38
     refine ⟨fun _ _ => ⟨hS.sat.le l2_6, (((hO.drop 2).drop 1).drop 0).le l2_6⟩, ?_⟩
     have l0_6 := (leG6.trans leG15).trans l2_6
     obtain ⟨y39, hy39, H⟩ := bnd H
     have hx41 := f54_ok (x0 := x0) hS.sat hcb36 (h1.mono RTLandPerson_mono l0_6) (h2.mono RTLandEvent_mono l0_6) (h3.mono RTLandMemory_mono l0_6) hy39
     refine WD_op rfl rfl (OpP_callV cb54 hx41 rfl rfl (fun w40 hb => ?_)); have hS := hS.keep hb; have hO := hO.below hb; refine ⟨fun _ _ => ⟨hS.sat.le l2_6, (((hO.drop 2).drop 1).drop 0).le l2_6⟩, ?_⟩
     have l4_6 := leG32.trans leG38
     obtain ⟨y42, hy42, H⟩ := bnd H
     have hx44 := f79_ok (x0 := x0) (x1 := y39) hS.sat (hcb24.mono l4_6) (h1.mono RTLandPerson_mono l0_6) (h2.mono RTLandEvent_mono l0_6) (h3.mono RTLandMemory_mono l0_6) hy42
     refine WD_op rfl rfl (OpP_callV cb79 hx44 rfl rfl (fun w43 hb => ?_)); have hS := hS.keep hb; have hO := hO.below hb; refine ⟨fun _ _ => ⟨hS.sat.le l2_6, (((hO.drop 2).drop 1).drop 0).le l2_6⟩, ?_⟩; refine WD_op rfl rfl (OpP_val (rn_move (v := (.tuple #[.agg (cellsT y42.1).toArray, .bool y42.2])) rfl) rfl ?_); refine ⟨fun _ _ => ⟨hS.sat.le l2_6, (((hO.drop 2).drop 1).drop 0).le l2_6⟩, ?_⟩; refine WD_val rfl (fun w hw => rn_extract (v := (.agg (cellsT y42.1).toArray)) rfl rfl) rfl ?_; refine WD_val rfl (fun w hw => rn_extract (v := (.bool y42.2)) rfl rfl) rfl ?_; refine WD_op rfl rfl (OpP_storeTT sz95 hS hO (k := 1) rfl rfl rfl (fun w45 hS hO => ?_))
     have hO : Owns G38 w45 w0.heap.size ([⟨77, 2, ([] : (List (Int × Bool))).length, .map (some r33), kvs kvI vvB ([] : (List (Int × Bool)))⟩, ⟨95, 64, 1, .slice (some ⟨b27, 0, none⟩) 1 1, cellsT y42.1⟩, ⟨77, 2, ([] : (List (Int × Bool))).length, .map (some r21), kvs kvI vvB ([] : (List (Int × Bool)))⟩, ⟨95, 64, 1, .slice (some ⟨b7, 0, none⟩) 1 1, cellsT (Tb.zero 64)⟩]) := hO
     refine ⟨fun _ _ => ⟨hS.sat.le l2_6, (((hO.drop 2).drop 1).drop 0).le l2_6⟩, ?_⟩; refine WD_op rfl rfl (OpP_val (rn_assign (v := (.bool y42.2)) rfl) rfl ?_)
     refine ⟨fun _ h => noneed (by kernel_rfl) h, ?_⟩
     refine WD_nil ?_; refine WC_seq ?_; refine WC_seq ?_; refine WC_region ?_; refine WL_val (rn_move (v := (.bool y42.2)) rfl) rfl ?_; refine WL_val (rn_not rfl) rfl ?_; refine WL_nil ?_; refine WC_cond rfl (fun hb46 => ?_) (fun hb46 => ?_)
     ·have H := ifT hb46 H; refine WC_seq ?_; refine WC_region ?_
      refine WL_val (v := (.agg (cellsT (Tb.zero 64)).toArray)) (by kernel_rfl) rfl ?_
      refine WL_op rfl (OpP_storeTT sz95 hS hO (k := 3) rfl rfl rfl (fun w47 hS hO => ?_))
      have hO : Owns G38 w47 w0.heap.size ([⟨77, 2, ([] : (List (Int × Bool))).length, .map (some r33), kvs kvI vvB ([] : (List (Int × Bool)))⟩, ⟨95, 64, 1, .slice (some ⟨b27, 0, none⟩) 1 1, cellsT y42.1⟩, ⟨77, 2, ([] : (List (Int × Bool))).length, .map (some r21), kvs kvI vvB ([] : (List (Int × Bool)))⟩, ⟨95, 64, 1, .slice (some ⟨b7, 0, none⟩) 1 1, cellsT (Tb.zero 64)⟩]) := hO
      refine WL_val (rn_assign (v := (.int .i64 7)) rfl) rfl ?_; refine WL_nil ?_; refine WC_ret ?_
      have H : some (Tb.zero 64, 7) = some r := H
      have H := Option.some.inj H; subst H
      exact ⟨[.agg (cellsT (Tb.zero 64)).toArray, .int .i64 7], ⟨⟨_, rfl, ld_agg (cs := (cellsT (Tb.zero 64))) ag95 (cellsT_len _) (fun j v hj => by rw [Nat.zero_add]; exact own_cell hO (k := 3) rfl hj)⟩, rfl, trivial⟩, ⟨rfl, hS.below⟩⟩
     ·have H := ifF hb46 H; refine WC_skip ?_; refine WC_seq ?_; refine WC_region ?_; refine WL_val (rn_loadT ag95 hO (k := 1) rfl rfl) rfl ?_; refine WL_op rfl (OpP_storeTT sz95 hS hO (k := 3) rfl rfl rfl (fun w48 hS hO => ?_))
      have hO : Owns G38 w48 w0.heap.size ([⟨77, 2, ([] : (List (Int × Bool))).length, .map (some r33), kvs kvI vvB ([] : (List (Int × Bool)))⟩, ⟨95, 64, 1, .slice (some ⟨b27, 0, none⟩) 1 1, cellsT y42.1⟩, ⟨77, 2, ([] : (List (Int × Bool))).length, .map (some r21), kvs kvI vvB ([] : (List (Int × Bool)))⟩, ⟨95, 64, 1, .slice (some ⟨b7, 0, none⟩) 1 1, cellsT y42.1⟩]) := hO
      refine WL_val (rn_assign (v := (.int .i64 0)) rfl) rfl ?_; refine WL_nil ?_; refine WC_ret ?_
      have H : some (y42.1, 0) = some r := H
      have H := Option.some.inj H; subst H
      exact ⟨[.agg (cellsT y42.1).toArray, .int .i64 0], ⟨⟨_, rfl, ld_agg (cs := (cellsT y42.1)) ag95 (cellsT_len _) (fun j v hj => by rw [Nat.zero_add]; exact own_cell hO (k := 3) rfl hj)⟩, rfl, trivial⟩, ⟨rfl, hS.below⟩⟩
   ·refine WD_op rfl rfl (OpP_newO (v := fun b => .pointer (some ⟨b, 0, none⟩)) (cs := (cellsT (Tb.zero 64))) (e := 95) (by kernel_rfl) hS.sat hO rfl 64 1 (cellsT_len _) (by decide) (fun b18 w19 hb hO => ?_))
    have hS := hS.keep hb; refine ⟨fun _ _ => ⟨hS.sat, (hO.drop 0)⟩, ?_⟩; refine WD_op rfl rfl (OpP_in1 (N' := 7) [.agg #[.slice a1 n1 c1, .slice a2 n2 c2, .slice a3 n3 c3]] cb52 Tryd.func52 rfl rfl rfl rfl rfl rfl ?_); refine WC_seq ?_; refine WC_region ?_; refine WL_op rfl (OpP_newF (v := fun b => .pointer (some ⟨b, 0, none⟩)) (cs := [.slice a1 n1 c1, .slice a2 n2 c2, .slice a3 n3 c3]) (e := 26) (rn_boxA rfl) hS.sat rfl (fun b21 G23 w22 hg hcb21 => ?_)); have hS := hS.grow hg; have hO := hO.grow hg
    have leG23 := hg.le
    refine WL_val (rn_assign (v := (.pointer none)) rfl) rfl ?_; refine WL_nil ?_; refine WC_seq ?_; refine WC_region ?_; refine WL_val (rn_loadA ag26 (cs := [.slice a1 n1 c1, .slice a2 n2 c2, .slice a3 n3 c3]) rfl rfl (fun j v hj => hS.sat.cell (hcb21.drop_take 0 3 j v hj))) rfl ?_; refine WL_op rfl (OpP_makeMap (e := 77) hS hO rfl (fun r24 w25 hS hO => ?_))
    have hO : Owns G23 w25 w0.heap.size ([⟨77, 2, ([] : (List (Int × Bool))).length, .map (some r24), kvs kvI vvB ([] : (List (Int × Bool)))⟩, ⟨95, 64, 1, .slice (some ⟨b18, 0, none⟩) 1 1, cellsT (Tb.zero 64)⟩, ⟨95, 64, 1, .slice (some ⟨b7, 0, none⟩) 1 1, cellsT (Tb.zero 64)⟩]) := hO
    refine WL_val (v := (.agg #[.slice a1 n1 c1, .slice a2 n2 c2, .slice a3 n3 c3, .map (some r24)])) (by kernel_rfl) rfl ?_
    refine WL_op rfl (OpP_newF (v := fun b => .pointer (some ⟨b, 0, none⟩)) (cs := [.slice a1 n1 c1, .slice a2 n2 c2, .slice a3 n3 c3, .map (some r24)]) (e := 107) (rn_boxA rfl) hS.sat rfl (fun b27 G29 w28 hg hcb27 => ?_)); have hS := hS.grow hg; have hO := hO.grow hg
    have leG29 := hg.le
    refine WL_val (rn_assign (v := (.pointer (some ⟨b27, 0, none⟩))) rfl) rfl ?_; refine WL_nil ?_; refine WC_ret ?_; refine ⟨(.pointer (some ⟨b27, 0, none⟩)), rfl, ?_⟩
    have hO : Owns G29 w28 w0.heap.size ([⟨77, 2, ([] : (List (Int × Bool))).length, .map (some r24), kvs kvI vvB ([] : (List (Int × Bool)))⟩, ⟨95, 64, 1, .slice (some ⟨b18, 0, none⟩) 1 1, cellsT (Tb.zero 64)⟩, ⟨95, 64, 1, .slice (some ⟨b7, 0, none⟩) 1 1, cellsT (Tb.zero 64)⟩]) := hO
    have l2_4 := leG23.trans leG29
    refine ⟨fun _ _ => ⟨hS.sat.le l2_4, ((hO.drop 1).drop 0).le l2_4⟩, ?_⟩; refine WD_op rfl rfl (OpP_in1 (N' := 7) [.agg #[.slice a1 n1 c1, .slice a2 n2 c2, .slice a3 n3 c3]] cb52 Tryd.func52 rfl rfl rfl rfl rfl rfl ?_); refine WC_seq ?_; refine WC_region ?_; refine WL_op rfl (OpP_newF (v := fun b => .pointer (some ⟨b, 0, none⟩)) (cs := [.slice a1 n1 c1, .slice a2 n2 c2, .slice a3 n3 c3]) (e := 26) (rn_boxA rfl) hS.sat rfl (fun b30 G32 w31 hg hcb30 => ?_)); have hS := hS.grow hg; have hO := hO.grow hg
    have leG32 := hg.le
    refine WL_val (rn_assign (v := (.pointer none)) rfl) rfl ?_; refine WL_nil ?_; refine WC_seq ?_; refine WC_region ?_; refine WL_val (rn_loadA ag26 (cs := [.slice a1 n1 c1, .slice a2 n2 c2, .slice a3 n3 c3]) rfl rfl (fun j v hj => hS.sat.cell (hcb30.drop_take 0 3 j v hj))) rfl ?_; refine WL_op rfl (OpP_makeMap (e := 77) hS hO rfl (fun r33 w34 hS hO => ?_))
    have hO : Owns G32 w34 w0.heap.size ([⟨77, 2, ([] : (List (Int × Bool))).length, .map (some r33), kvs kvI vvB ([] : (List (Int × Bool)))⟩, ⟨77, 2, ([] : (List (Int × Bool))).length, .map (some r24), kvs kvI vvB ([] : (List (Int × Bool)))⟩, ⟨95, 64, 1, .slice (some ⟨b18, 0, none⟩) 1 1, cellsT (Tb.zero 64)⟩, ⟨95, 64, 1, .slice (some ⟨b7, 0, none⟩) 1 1, cellsT (Tb.zero 64)⟩]) := hO
    refine WL_val (v := (.agg #[.slice a1 n1 c1, .slice a2 n2 c2, .slice a3 n3 c3, .map (some r33)])) (by kernel_rfl) rfl ?_
    refine WL_op rfl (OpP_newF (v := fun b => .pointer (some ⟨b, 0, none⟩)) (cs := [.slice a1 n1 c1, .slice a2 n2 c2, .slice a3 n3 c3, .map (some r33)]) (e := 107) (rn_boxA rfl) hS.sat rfl (fun b36 G38 w37 hg hcb36 => ?_)); have hS := hS.grow hg; have hO := hO.grow hg
    have leG38 := hg.le
    refine WL_val (rn_assign (v := (.pointer (some ⟨b36, 0, none⟩))) rfl) rfl ?_; refine WL_nil ?_; refine WC_ret ?_; refine ⟨(.pointer (some ⟨b36, 0, none⟩)), rfl, ?_⟩
    have hO : Owns G38 w37 w0.heap.size ([⟨77, 2, ([] : (List (Int × Bool))).length, .map (some r33), kvs kvI vvB ([] : (List (Int × Bool)))⟩, ⟨77, 2, ([] : (List (Int × Bool))).length, .map (some r24), kvs kvI vvB ([] : (List (Int × Bool)))⟩, ⟨95, 64, 1, .slice (some ⟨b18, 0, none⟩) 1 1, cellsT (Tb.zero 64)⟩, ⟨95, 64, 1, .slice (some ⟨b7, 0, none⟩) 1 1, cellsT (Tb.zero 64)⟩]) := hO
    have l2_6 := (l2_4.trans leG32).trans leG38
    refine ⟨fun _ _ => ⟨hS.sat.le l2_6, (((hO.drop 2).drop 1).drop 0).le l2_6⟩, ?_⟩
    have l0_6 := (leG6.trans leG15).trans l2_6
    obtain ⟨y39, hy39, H⟩ := bnd H
    have hx41 := f54_ok (x0 := x0) hS.sat hcb36 (h1.mono RTLandPerson_mono l0_6) (h2.mono RTLandEvent_mono l0_6) (h3.mono RTLandMemory_mono l0_6) hy39
    refine WD_op rfl rfl (OpP_callV cb54 hx41 rfl rfl (fun w40 hb => ?_)); have hS := hS.keep hb; have hO := hO.below hb; refine ⟨fun _ _ => ⟨hS.sat.le l2_6, (((hO.drop 2).drop 1).drop 0).le l2_6⟩, ?_⟩
    have l4_6 := leG32.trans leG38
    obtain ⟨y42, hy42, H⟩ := bnd H
    have hx44 := f79_ok (x0 := x0) (x1 := y39) hS.sat (hcb27.mono l4_6) (h1.mono RTLandPerson_mono l0_6) (h2.mono RTLandEvent_mono l0_6) (h3.mono RTLandMemory_mono l0_6) hy42
    refine WD_op rfl rfl (OpP_callV cb79 hx44 rfl rfl (fun w43 hb => ?_)); have hS := hS.keep hb; have hO := hO.below hb; refine ⟨fun _ _ => ⟨hS.sat.le l2_6, (((hO.drop 2).drop 1).drop 0).le l2_6⟩, ?_⟩; refine WD_op rfl rfl (OpP_val (rn_move (v := (.tuple #[.agg (cellsT y42.1).toArray, .bool y42.2])) rfl) rfl ?_); refine ⟨fun _ _ => ⟨hS.sat.le l2_6, (((hO.drop 2).drop 1).drop 0).le l2_6⟩, ?_⟩; refine WD_val rfl (fun w hw => rn_extract (v := (.agg (cellsT y42.1).toArray)) rfl rfl) rfl ?_; refine WD_val rfl (fun w hw => rn_extract (v := (.bool y42.2)) rfl rfl) rfl ?_; refine WD_op rfl rfl (OpP_storeTT sz95 hS hO (k := 2) rfl rfl rfl (fun w45 hS hO => ?_))
    have hO : Owns G38 w45 w0.heap.size ([⟨77, 2, ([] : (List (Int × Bool))).length, .map (some r33), kvs kvI vvB ([] : (List (Int × Bool)))⟩, ⟨77, 2, ([] : (List (Int × Bool))).length, .map (some r24), kvs kvI vvB ([] : (List (Int × Bool)))⟩, ⟨95, 64, 1, .slice (some ⟨b18, 0, none⟩) 1 1, cellsT y42.1⟩, ⟨95, 64, 1, .slice (some ⟨b7, 0, none⟩) 1 1, cellsT (Tb.zero 64)⟩]) := hO
    refine ⟨fun _ _ => ⟨hS.sat.le l2_6, (((hO.drop 2).drop 1).drop 0).le l2_6⟩, ?_⟩; refine WD_op rfl rfl (OpP_val (rn_assign (v := (.bool y42.2)) rfl) rfl ?_)
    refine ⟨fun _ h => noneed (by kernel_rfl) h, ?_⟩
    refine WD_nil ?_; refine WC_seq ?_; refine WC_seq ?_; refine WC_region ?_; refine WL_val (rn_move (v := (.bool y42.2)) rfl) rfl ?_; refine WL_val (rn_not rfl) rfl ?_; refine WL_nil ?_; refine WC_cond rfl (fun hb46 => ?_) (fun hb46 => ?_)
    ·have H := ifT hb46 H; refine WC_seq ?_; refine WC_region ?_
     refine WL_val (v := (.agg (cellsT (Tb.zero 64)).toArray)) (by kernel_rfl) rfl ?_
     refine WL_op rfl (OpP_storeTT sz95 hS hO (k := 3) rfl rfl rfl (fun w47 hS hO => ?_))
     have hO : Owns G38 w47 w0.heap.size ([⟨77, 2, ([] : (List (Int × Bool))).length, .map (some r33), kvs kvI vvB ([] : (List (Int × Bool)))⟩, ⟨77, 2, ([] : (List (Int × Bool))).length, .map (some r24), kvs kvI vvB ([] : (List (Int × Bool)))⟩, ⟨95, 64, 1, .slice (some ⟨b18, 0, none⟩) 1 1, cellsT y42.1⟩, ⟨95, 64, 1, .slice (some ⟨b7, 0, none⟩) 1 1, cellsT (Tb.zero 64)⟩]) := hO
     refine WL_val (rn_assign (v := (.int .i64 7)) rfl) rfl ?_; refine WL_nil ?_; refine WC_ret ?_
     have H : some (Tb.zero 64, 7) = some r := H
     have H := Option.some.inj H; subst H
     exact ⟨[.agg (cellsT (Tb.zero 64)).toArray, .int .i64 7], ⟨⟨_, rfl, ld_agg (cs := (cellsT (Tb.zero 64))) ag95 (cellsT_len _) (fun j v hj => by rw [Nat.zero_add]; exact own_cell hO (k := 3) rfl hj)⟩, rfl, trivial⟩, ⟨rfl, hS.below⟩⟩
    ·have H := ifF hb46 H; refine WC_skip ?_; refine WC_seq ?_; refine WC_region ?_; refine WL_val (rn_loadT ag95 hO (k := 2) rfl rfl) rfl ?_; refine WL_op rfl (OpP_storeTT sz95 hS hO (k := 3) rfl rfl rfl (fun w48 hS hO => ?_))
     have hO : Owns G38 w48 w0.heap.size ([⟨77, 2, ([] : (List (Int × Bool))).length, .map (some r33), kvs kvI vvB ([] : (List (Int × Bool)))⟩, ⟨77, 2, ([] : (List (Int × Bool))).length, .map (some r24), kvs kvI vvB ([] : (List (Int × Bool)))⟩, ⟨95, 64, 1, .slice (some ⟨b18, 0, none⟩) 1 1, cellsT y42.1⟩, ⟨95, 64, 1, .slice (some ⟨b7, 0, none⟩) 1 1, cellsT y42.1⟩]) := hO
     refine WL_val (rn_assign (v := (.int .i64 0)) rfl) rfl ?_; refine WL_nil ?_; refine WC_ret ?_
     have H : some (y42.1, 0) = some r := H
     have H := Option.some.inj H; subst H
     exact ⟨[.agg (cellsT y42.1).toArray, .int .i64 0], ⟨⟨_, rfl, ld_agg (cs := (cellsT y42.1)) ag95 (cellsT_len _) (fun j v hj => by rw [Nat.zero_add]; exact own_cell hO (k := 3) rfl hj)⟩, rfl, trivial⟩, ⟨rfl, hS.below⟩⟩
set_option maxHeartbeats 1000000 in
theorem f70_ok {G0 : Gm} {w0 : World} (hS0 : Sat G0 w0) {x0 : (Tb 64)} {x1 : Int} {x2 : Int}  {r : TSpan} (H : f70 x0 x1 x2 = some r) :
  Calls Tryd.prog 70 #[.agg (cellsT x0).toArray, .int .i64 x1, .int .i64 x2] w0 (RetV w0 (.agg #[.int .i64 r.Low, .int .i64 r.High])) := by
 have hS := Since.start hS0
 have hO : Owns G0 w0 w0.heap.size [] := Owns.nil (Nat.le_refl _)
 unfold f70 at H
 refine enterG (N := 19) (shutV _ _) [.cell 6 44] Tryd.func70 rfl rfl rfl rfl ?_; refine WC_seq ?_; refine WC_region ?_; refine WL_op rfl (OpP_newF (v := fun b => .pointer (some ⟨b, 0, none⟩)) (cs := (cellsT x0)) (e := 95) (rn_boxA rfl) hS.sat rfl (fun b1 G3 w2 hg hcb1 => ?_)); have hS := hS.grow hg; have hO := hO.grow hg
 have leG3 := hg.le
 refine WL_op rfl (OpP_newO (v := fun b => .pointer (some ⟨b, 0, none⟩)) (cs := [.int .i64 0, .int .i64 0]) (e := 44) (by kernel_rfl) hS.sat hO rfl 2 1 rfl (by decide) (fun b4 w5 hb hO => ?_))
 have hS := hS.keep hb; refine WL_nil ?_; refine WC_seq ?_; have hS := hS.keep (below_drew _); have hO := hO.below (below_drew _)
 refine WC_regionD mixedO (fun _ w => Sat G3 w ∧ Owns G3 w w0.heap.size [⟨44, 2, 1, .slice (some ⟨b4, 0, none⟩) 1 1, [.int .i64 0, .int .i64 0]⟩]) (.fl 0 (.fl 1 (.fl 2 (.fl 3 (.fl 4 (.fl 5 (.fl 6 (.fl 7 (.on 8 (.on 9 (.on 10 (.on 11 (.on 12 .nil))))))))))))) (by kernel_rfl) rfl (by kernel_rfl) (fun _ => ⟨hS.sat, hO⟩) ?_
 refine WD_val rfl (fun w hw => rn_move (v := (.int .i64 x2)) rfl) rfl ?_; refine WD_val rfl (fun w hw => rn_move (v := (.int .i64 x1)) rfl) rfl ?_; obtain ⟨j7, hj7, H⟩ := bnd H; refine WD_val rfl (fun w hw => rn_idxA ar95 rfl rfl hj7) rfl ?_; obtain ⟨j8, hj8, H⟩ := bnd H
 have hl9 : 0 + j7 * 8 + j8 * 1 < 64 := by have := (ckI_some hj7).2; have := (ckI_some hj8).2; omega
 refine WD_val rfl (fun w hw => rn_idxA ar93 rfl rfl hj8) rfl ?_; refine WD_val rfl (fun w hw => rn_load na3 rfl (tab_cellG (hw.1) hcb1 hl9)) rfl ?_; refine WD_val rfl (fun w hw => rn_neg rfl) rfl ?_; refine WD_val rfl (fun w hw => rn_move (v := (.int .i64 x1)) rfl) rfl ?_; refine WD_val rfl (fun w hw => rn_move (v := (.int .i64 x2)) rfl) rfl ?_; obtain ⟨j10, hj10, H⟩ := bnd H; refine WD_op rfl rfl (OpP_val (rn_idxA ar95 rfl rfl hj10) rfl ?_); refine ⟨fun _ _ => ⟨hS.sat, hO⟩, ?_⟩; obtain ⟨j11, hj11, H⟩ := bnd H
 have hl12 : 0 + j10 * 8 + j11 * 1 < 64 := by have := (ckI_some hj10).2; have := (ckI_some hj11).2; omega
 refine WD_op rfl rfl (OpP_val (rn_idxA ar93 rfl rfl hj11) rfl ?_); refine ⟨fun _ _ => ⟨hS.sat, hO⟩, ?_⟩; refine WD_op rfl rfl (OpP_val (rn_load na3 rfl (tab_cellG (hS.sat) hcb1 hl12)) rfl ?_); refine ⟨fun _ _ => ⟨hS.sat, hO⟩, ?_⟩
 refine WD_op rfl rfl (OpP_val (v := (.agg #[.int .i64 (IntKind.i64.wrap (0 - (tget x0 (0 + j7 * 8 + j8 * 1)))), .int .i64 (tget x0 (0 + j10 * 8 + j11 * 1))])) (by kernel_rfl) rfl ?_)
 refine ⟨fun _ h => noneed (by kernel_rfl) h, ?_⟩
 refine WD_op rfl rfl (OpP_store (vs := [.int .i64 (IntKind.i64.wrap (0 - (tget x0 (0 + j7 * 8 + j8 * 1)))), .int .i64 (tget x0 (0 + j10 * 8 + j11 * 1))]) sz44 hS hO (k := 0) rfl rfl rfl rfl rfl (one_all rfl) (Nat.le_of_ble_eq_true rfl) (fun w13 hS hO => ?_))
 have hO : Owns G3 w13 w0.heap.size ([⟨44, 2, 1, .slice (some ⟨b4, 0, none⟩) 1 1, [.int .i64 (IntKind.i64.wrap (0 - (tget x0 (0 + j7 * 8 + j8 * 1)))), .int .i64 (tget x0 (0 + j10 * 8 + j11 * 1))]⟩]) := hO
 obtain ⟨G14, leG14, hS, hO, hqG14, _⟩ := hO.freeze hS (k := 0) rfl
 have hcG14 : Cells G14 b4 0 [.int .i64 (IntKind.i64.wrap (0 - (tget x0 (0 + j7 * 8 + j8 * 1)))), .int .i64 (tget x0 (0 + j10 * 8 + j11 * 1))] := (hqG14 _ _ _ _ rfl)
 refine ⟨fun _ h => noneed (by kernel_rfl) h, ?_⟩
 refine WD_nil ?_; refine WC_ret ?_
 have H : some (⟨IntKind.i64.wrap (0 - (tget x0 (0 + j7 * 8 + j8 * 1))), tget x0 (0 + j10 * 8 + j11 * 1)⟩ : TSpan) = some r := H
 have H := Option.some.inj H; subst H
 exact ⟨[.agg #[.int .i64 (IntKind.i64.wrap (0 - (tget x0 (0 + j7 * 8 + j8 * 1)))), .int .i64 (tget x0 (0 + j10 * 8 + j11 * 1))]], ⟨⟨_, rfl, ld_agg (cs := [.int .i64 (IntKind.i64.wrap (0 - (tget x0 (0 + j7 * 8 + j8 * 1)))), .int .i64 (tget x0 (0 + j10 * 8 + j11 * 1))]) ag44 rfl (fun j v hj => hS.sat.cell (hcG14 j v hj))⟩, trivial⟩, ⟨rfl, hS.below⟩⟩
set_option maxHeartbeats 1000000 in
theorem f28_ok {G0 : Gm} {w0 : World} (hS0 : Sat G0 w0) {x0 : TLandBook} {a1 : Option Addr} {n1 c1 : Nat} {a2 : Option Addr} {n2 c2 : Nat} {a3 : Option Addr} {n3 c3 : Nat} (h1 : RSl RTLandPerson 2 G0 a1 n1 c1 x0.People) (h2 : RSl RTLandEvent 2 G0 a2 n2 c2 x0.Events) (h3 : RSl RTLandMemory 4 G0 a3 n3 c3 x0.Memories) {r : (List Int) × Int} (H : f28 x0 = some r) :
  Calls Tryd.prog 28 #[.agg #[.slice a1 n1 c1, .slice a2 n2 c2, .slice a3 n3 c3]] w0 (RetG G0 w0 (fun G v => ∃ (ra0 : Option Addr) (rn0 rc0 : Nat), v = .tuple #[.slice ra0 rn0 rc0, .int .i64 r.2] ∧ RSl RInt 1 G ra0 rn0 rc0 r.1)) := by
 have hS := Since.start hS0
 have hO : Owns G0 w0 w0.heap.size [] := Owns.nil (Nat.le_refl _)
 unfold f28 at H
 refine enter2 (N := 31) (shutG _ _ _) Tryd.func28 rfl rfl rfl rfl ?_; refine WC_seq ?_; refine WC_region ?_; refine WL_op rfl (OpP_newF (v := fun b => .pointer (some ⟨b, 0, none⟩)) (cs := [.slice a1 n1 c1, .slice a2 n2 c2, .slice a3 n3 c3]) (e := 26) (rn_boxA rfl) hS.sat rfl (fun b4 G6 w5 hg hcb4 => ?_)); have hS := hS.grow hg; have hO := hO.grow hg
 have leG6 := hg.le
 refine WL_val (rn_assign (v := (.slice none 0 0)) rfl) rfl ?_; refine WL_val (rn_assign (v := (.int .i64 0)) rfl) rfl ?_; refine WL_nil ?_; refine WC_seq ?_; refine WC_region ?_; refine WL_val (rn_loadA ag26 (cs := [.slice a1 n1 c1, .slice a2 n2 c2, .slice a3 n3 c3]) rfl rfl (fun j v hj => hS.sat.cell (hcb4.drop_take 0 3 j v hj))) rfl ?_; obtain ⟨y7, hy7, H⟩ := bnd H; refine WL_op rfl (OpP_callV cb69 (f69_ok (x0 := x0) (x1 := true) hS.sat (h1.mono RTLandPerson_mono leG6) (h2.mono RTLandEvent_mono leG6) (h3.mono RTLandMemory_mono leG6) hy7) rfl rfl (fun w8 hb => ?_)); have hS := hS.keep hb; have hO := hO.below hb; refine WL_val (rn_move (v := (.tuple #[.agg (cellsT y7.1).toArray, .int .i64 y7.2])) rfl) rfl ?_; refine WL_val (rn_extract (v := (.agg (cellsT y7.1).toArray)) rfl rfl) rfl ?_; refine WL_val (rn_extract (v := (.int .i64 y7.2)) rfl rfl) rfl ?_
 refine WL_op rfl (OpP_newO (v := fun b => .pointer (some ⟨b, 0, none⟩)) (cs := (cellsT (Tb.zero 64))) (e := 95) (by kernel_rfl) hS.sat hO rfl 64 1 (cellsT_len _) (by decide) (fun b9 w10 hb hO => ?_))
 have hS := hS.keep hb; refine WL_op rfl (OpP_storeTT sz95 hS hO (k := 0) rfl rfl rfl (fun w12 hS hO => ?_))
 have hO : Owns G6 w12 w0.heap.size ([⟨95, 64, 1, .slice (some ⟨b9, 0, none⟩) 1 1, cellsT y7.1⟩]) := hO
 refine WL_val (rn_assign (v := (.int .i64 y7.2)) rfl) rfl ?_; refine WL_nil ?_; refine WC_seq ?_; refine WC_seq ?_; refine WC_region ?_; refine WL_val (rn_move (v := (.int .i64 y7.2)) rfl) rfl ?_; refine WL_val (rn_neq rfl rfl) rfl ?_; refine WL_nil ?_; refine WC_cond rfl (fun hb13 => ?_) (fun hb13 => ?_)
 ·have H := ifT hb13 H; refine WC_seq ?_; refine WC_region ?_; refine WL_val (rn_move (v := (.int .i64 y7.2)) rfl) rfl ?_; refine WL_val (rn_assign (v := (.slice none 0 0)) rfl) rfl ?_; refine WL_val (rn_assign (v := (.int .i64 y7.2)) rfl) rfl ?_; refine WL_nil ?_; refine WC_ret ?_
  have H : some ([], y7.2) = some r := H
  have H := Option.some.inj H; subst H
  exact ⟨_, _, rfl, hS.toGrow, _, _, _, rfl, (RSl.nil RInt 1 G6 none)⟩
 ·have H := ifF hb13 H; refine WC_skip ?_; refine WC_seq ?_; refine WC_region ?_; refine WL_val (rn_assign (v := (.slice none 0 0)) rfl) rfl ?_; refine WL_nil ?_; refine WC_seq ?_; refine WC_seq ?_; refine WC_region ?_; refine WL_val (rn_fld fd26_1 rfl) rfl ?_; refine WL_val (rn_load na23 rfl (hS.sat.cell (hcb4 1 _ rfl))) rfl ?_; refine WL_val (rn_len sl23 rfl rfl (h2.mono RTLandEvent_mono leG6).1) rfl ?_; refine WL_val (rn_move (v := (.int .i64 0)) rfl) rfl ?_; refine WL_nil ?_; have hO := hO.cons_nil 3 1; obtain ⟨q17, hq17, H⟩ := bnd H; refine WC_cut (fun F w => ∃ (Fb : Fr) (G : Gm) (aq17_0 : Option Addr) (nq17_0 cq17_0 : Nat) (claq17_0 : List Value), F = upds Fb [(6, .slice aq17_0 nq17_0 cq17_0)] ∧ Gle G6 G ∧ Since w0.heap.size G0 w0 G w ∧ Owns G w w0.heap.size [⟨3, 1, nq17_0, .slice aq17_0 nq17_0 cq17_0, claq17_0⟩, ⟨95, 64, 1, .slice (some ⟨b9, 0, none⟩) 1 1, cellsT q17.2⟩] ∧ nq17_0 = q17.1.length ∧ Rd RInt 1 G claq17_0 q17.1) ?_ ?_
  ·refine WC_block (WC_loop hq17 (fun s15 F w => ∃ (Fb : Fr) (G : Gm) (as15_0 : Option Addr) (ns15_0 cs15_0 : Nat) (clas15_0 : List Value), F = upds Fb [(4, .pointer (some ⟨b9, 0, none⟩)), (6, .slice as15_0 ns15_0 cs15_0), (18, .int .i64 (x0.Events.length : Int)), (19, .int .i64 s15.2.1)] ∧ Gle G6 G ∧ Since w0.heap.size G0 w0 G w ∧ Owns G w w0.heap.size [⟨3, 1, ns15_0, .slice as15_0 ns15_0 cs15_0, clas15_0⟩, ⟨95, 64, 1, .slice (some ⟨b9, 0, none⟩) 1 1, cellsT s15.2.2⟩] ∧ ns15_0 = s15.1.length ∧ Rd RInt 1 G clas15_0 s15.1) ?_ ?_)
   ·have hO : Owns G6 w12 w0.heap.size ([⟨3, 1, 0, .slice none 0 0, []⟩, ⟨95, 64, 1, .slice (some ⟨b9, 0, none⟩) 1 1, cellsT y7.1⟩]) := hO
    exact ⟨_, G6, none, 0, 0, [], upds_self _ _ ⟨rfl, rfl, rfl, rfl, trivial⟩, Gle.refl _, hS, hO, rfl, (Rd.nil RInt 1 G6)⟩
   ·rintro s15 F w19 t18 ⟨Fb, G20, as15_0, ns15_0, cs15_0, clas15_0, rfl, leG20, hS, hO, hnhs15_0, hs15_0⟩
    intro H1 hqq17
    have Hoq17 := H; have H := H1
    unfold f28_b0 at H
    refine WC_seq ?_; refine WC_region ?_; refine WL_val (rn_lss rfl rfl) rfl ?_; refine WL_nil ?_; refine WC_seq ?_; refine WC_cond rfl (fun hb21 => ?_) (fun hb21 => ?_)
    ·have H := ifT hb21 H; refine WC_skip ?_; refine WC_seq ?_; refine WC_block ?_; refine WC_seq ?_; refine WC_region ?_; refine WL_val (rn_move (v := (.int .i64 s15.2.1)) rfl) rfl ?_; refine WL_val (rn_assign (v := (.int .i64 s15.2.1)) rfl) rfl ?_; refine WL_nil ?_; refine WC_region ?_; refine WL_val (rn_move (v := (.slice as15_0 ns15_0 cs15_0)) rfl) rfl ?_; refine WL_val (rn_loadT ag95 hO (k := 1) rfl rfl) rfl ?_; refine WL_val (rn_move (v := (.int .i64 s15.2.1)) rfl) rfl ?_; obtain ⟨y22, hy22, H⟩ := bnd H; refine WL_op rfl (OpP_callV cb70 (f70_ok (x0 := s15.2.2) (x1 := 7) (x2 := s15.2.1) hS.sat  hy22) rfl rfl (fun w23 hb => ?_)); have hS := hS.keep hb; have hO := hO.below hb
     refine WL_val (v := (.int .i64 y22.Low)) (by kernel_rfl) rfl ?_
     refine WL_op rfl (OpP_newF (v := fun b => .slice (some ⟨b, 0, none⟩) 1 1) (cs := [.int .i64 y22.Low]) (e := 3) (by kernel_rfl) hS.sat rfl (fun b24 G26 w25 hg hcb24 => ?_))
     have hS := hS.grow hg; have hO := hO.grow hg
     have leG26 := hg.le
     have hfb24 : RSl RInt 1 G26 (some ⟨b24, 0, none⟩) 1 1 [y22.Low] := RSl.of_rd hcb24 (Rd.cons (c := [.int .i64 y22.Low]) rfl rfl (Rd.nil RInt 1 _)) rfl (by decide)
     obtain ⟨y27, hy27, H⟩ := bnd H; refine WL_op rfl (OpP_append (k := 0) sl29 RInt_one hS hO rfl hnhs15_0 (hs15_0.mono RInt_mono leG26) hfb24 hy27 rfl rfl rfl rfl rfl (fun aw28 cw28 w28 clw28 hS hO hrw28 => ?_))
     have hO : Owns G26 w28 w0.heap.size ([⟨3, 1, y27.length, .slice aw28 y27.length cw28, clw28⟩, ⟨95, 64, 1, .slice (some ⟨b9, 0, none⟩) 1 1, cellsT s15.2.2⟩]) := hO
     refine WL_val (rn_assign (v := (.slice aw28 y27.length cw28)) rfl) rfl ?_; refine WL_nil ?_; refine WC_region ?_; refine WL_val (rn_add rfl rfl) rfl ?_; refine WL_val (rn_move (v := (.int .i64 (IntKind.i64.wrap (s15.2.1 + 1)))) rfl) rfl ?_; refine WL_nil ?_
     have hO : Owns G26 w28 w0.heap.size ([⟨3, 1, y27.length, .slice aw28 y27.length cw28, clw28⟩, ⟨95, 64, 1, .slice (some ⟨b9, 0, none⟩) 1 1, cellsT s15.2.2⟩]) := hO
     have H := Option.some.inj H; subst H; refine ⟨_, rfl, ?_⟩
     have l1_3 := leG20.trans leG26
     exact ⟨_, G26, aw28, y27.length, cw28, clw28, upds_self _ _ ⟨rfl, rfl, rfl, rfl, trivial⟩, l1_3, hS, hO, rfl, hrw28⟩
    ·have H := ifF hb21 H; refine WC_exit rfl ?_
     have hO : Owns G20 w19 w0.heap.size ([⟨3, 1, ns15_0, .slice as15_0 ns15_0 cs15_0, clas15_0⟩, ⟨95, 64, 1, .slice (some ⟨b9, 0, none⟩) 1 1, cellsT s15.2.2⟩]) := hO
     have H := Option.some.inj H; subst H
     have hres := hqq17 _ rfl
     subst hres
     exact ⟨_, G20, as15_0, ns15_0, cs15_0, clas15_0, upds_self _ _ ⟨rfl, trivial⟩, leG20, hS, hO, hnhs15_0, hs15_0⟩
  ·rintro F w29 ⟨Fb, G30, aq17_0, nq17_0, cq17_0, claq17_0, rfl, leG30, hS, hO, hnhq17_0, hq17_0⟩
   refine WC_seq ?_; refine WC_region ?_; refine WL_val (rn_move (v := (.slice aq17_0 nq17_0 cq17_0)) rfl) rfl ?_; refine WL_val (rn_assign (v := (.slice aq17_0 nq17_0 cq17_0)) rfl) rfl ?_; refine WL_val (rn_assign (v := (.int .i64 0)) rfl) rfl ?_; refine WL_nil ?_; refine WC_ret ?_; obtain ⟨G31, leG31, hS, hO, hfG31⟩ := hO.freezeS hS RInt_mono (k := 0) rfl hq17_0 hnhq17_0
   have H : some (q17.1, 0) = some r := H
   have H := Option.some.inj H; subst H
   exact ⟨_, _, rfl, hS.toGrow, _, _, _, rfl, hfG31⟩
set_option maxHeartbeats 1000000 in
theorem f73_ok {G0 : Gm} {w0 : World} (hS0 : Sat G0 w0) {x0 : TLandBook} {bq0 : Nat} {rm4 : Nat} {a1 : Option Addr} {n1 c1 : Nat} {a2 : Option Addr} {n2 c2 : Nat} {a3 : Option Addr} {n3 c3 : Nat} {x1 : Int} {x2 : Int} (hcq0 : Cells G0 bq0 0 [.slice a1 n1 c1, .slice a2 n2 c2, .slice a3 n3 c3, .map (some rm4)]) (h1 : RSl RTLandPerson 2 G0 a1 n1 c1 x0.People) (h2 : RSl RTLandEvent 2 G0 a2 n2 c2 x0.Events) (h3 : RSl RTLandMemory 4 G0 a3 n3 c3 x0.Memories) {r : Bool} (H : f73 x0 x1 x2 = some r) :
  Calls Tryd.prog 73 #[.pointer (some ⟨bq0, 0, none⟩), .int .i64 x1, .int .i64 x2] w0 (RetV w0 (.bool r)) := by
 have hS := Since.start hS0
 have hO : Owns G0 w0 w0.heap.size [] := Owns.nil (Nat.le_refl _)
 unfold f73 at H
 refine enter1 (N := 29) (shutV _ _) Tryd.func73 rfl rfl rfl rfl ?_; refine WC_seq ?_; refine WC_region ?_; refine WL_val (rn_assign (v := (.bool false)) rfl) rfl ?_; refine WL_nil ?_; refine WC_seq ?_; refine WC_seq ?_; refine WC_region ?_; refine WL_val (rn_move (v := (.pointer (some ⟨bq0, 0, none⟩))) rfl) rfl ?_; refine WL_val (v := (.func (.func 86) ([.pointer (some ⟨bq0, 0, none⟩)] : List Value).toArray ([] : List Value).toArray)) (rn_func (vs := [.pointer (some ⟨bq0, 0, none⟩)]) (us := []) rfl rfl) rfl ?_; refine WL_val (rn_move (v := (.pointer (some ⟨bq0, 0, none⟩))) rfl) rfl ?_; refine WL_val (v := (.func (.func 87) ([.pointer (some ⟨bq0, 0, none⟩)] : List Value).toArray ([] : List Value).toArray)) (rn_func (vs := [.pointer (some ⟨bq0, 0, none⟩)]) (us := []) rfl rfl) rfl ?_; refine WL_val (rn_move (v := (.pointer (some ⟨bq0, 0, none⟩))) rfl) rfl ?_; refine WL_val (v := (.func (.func 88) ([.pointer (some ⟨bq0, 0, none⟩)] : List Value).toArray ([] : List Value).toArray)) (rn_func (vs := [.pointer (some ⟨bq0, 0, none⟩)]) (us := []) rfl rfl) rfl ?_
 refine WL_val (v := (.agg #[.func (.func 86) ([.pointer (some ⟨bq0, 0, none⟩)] : List Value).toArray ([] : List Value).toArray, .func (.func 87) ([.pointer (some ⟨bq0, 0, none⟩)] : List Value).toArray ([] : List Value).toArray, .func (.func 88) ([.pointer (some ⟨bq0, 0, none⟩)] : List Value).toArray ([] : List Value).toArray])) (by kernel_rfl) rfl ?_
 refine WL_val (rn_move (v := (.int .i64 0)) rfl) rfl ?_; refine WL_nil ?_; refine WC_block (WC_loopI ?_); refine WI_step ?_; refine WC_seq ?_; refine WC_region ?_
 refine WL_val (v := (.bool true)) (by kernel_rfl) rfl ?_
 refine WL_nil ?_; refine WC_seq ?_; refine WC_condT _ rfl rfl ?_; refine WC_skip ?_; refine WC_seq ?_; refine WC_block ?_; refine WC_seq ?_; refine WC_region ?_
 refine WL_val (v := (.func (.func 86) ([.pointer (some ⟨bq0, 0, none⟩)] : List Value).toArray ([] : List Value).toArray)) (by kernel_rfl) rfl ?_
 refine WL_val (rn_assign (v := (.func (.func 86) ([.pointer (some ⟨bq0, 0, none⟩)] : List Value).toArray ([] : List Value).toArray)) rfl) rfl ?_; refine WL_nil ?_; refine WC_seq ?_; obtain ⟨q5, hq5, H⟩ := bnd H; refine WC_cut (fun F w => ∃ (Fb : Fr), F = upds Fb [(1, .int .i64 x1), (2, .int .i64 x2), (15, .agg #[.func (.func 86) ([.pointer (some ⟨bq0, 0, none⟩)] : List Value).toArray ([] : List Value).toArray, .func (.func 87) ([.pointer (some ⟨bq0, 0, none⟩)] : List Value).toArray ([] : List Value).toArray, .func (.func 88) ([.pointer (some ⟨bq0, 0, none⟩)] : List Value).toArray ([] : List Value).toArray]), (16, .int .i64 0), (27, .bool q5)] ∧ w0 = w) ?_ ?_
 ·have Hoq5 := H; have H := hq5; refine WC_region ?_; refine WL_val (rn_move (v := (.int .i64 x1)) rfl) rfl ?_; refine WL_val (rn_move (v := (.int .i64 x2)) rfl) rfl ?_; refine WL_val (rn_neq rfl rfl) rfl ?_; refine WL_val (rn_move (v := (.bool (x1 != x2))) rfl) rfl ?_
  rcases bcases (x1 != x2) with hb6 | hb6
  ·have H := ifT hb6 H; refine WL_guardY rfl hb6 rfl rfl ?_; refine WL_val (rn_move (v := (.func (.func 86) ([.pointer (some ⟨bq0, 0, none⟩)] : List Value).toArray ([] : List Value).toArray)) rfl) rfl ?_; refine WL_guardY rfl hb6 rfl rfl ?_; refine WL_val (rn_move (v := (.int .i64 x1)) rfl) rfl ?_; refine WL_guardY rfl hb6 rfl rfl ?_; refine WL_val (rn_move (v := (.int .i64 x2)) rfl) rfl ?_; refine WL_guardY rfl hb6 rfl rfl ?_; refine WL_op rfl (OpP_inC1 (N' := 18) (fi := [.pointer (some ⟨bq0, 0, none⟩)]) (al := [.int .i64 x1, .int .i64 x2]) (ca := []) cb86 Tryd.func86 rfl rfl rfl rfl rfl rfl rfl ?_); refine WC_seq ?_; refine WC_region ?_; refine WL_val (rn_assign (v := (.bool false)) rfl) rfl ?_; refine WL_nil ?_; refine WC_seq ?_; refine WC_region ?_; refine WL_val (rn_move (v := (.pointer (some ⟨bq0, 0, none⟩))) rfl) rfl ?_
   refine WL_val (v := (.pointer (some ⟨bq0, 0, none⟩))) (by kernel_rfl) rfl ?_
   refine WL_val (rn_fld fd107_0 rfl) rfl ?_; refine WL_val (rn_fld fd26_0 rfl) rfl ?_; refine WL_val (rn_load na22 rfl (hS.sat.cell (hcq0 0 _ rfl))) rfl ?_; refine WL_val (rn_move (v := (.int .i64 x1)) rfl) rfl ?_; obtain ⟨y7, hy7, H⟩ := bnd H; refine WL_idx sl22 h1 hy7 rfl rfl rfl ?_
   rintro b8 o8 _ hcb8 _ ⟨⟩
   refine WL_val (rn_fld fd85_0 rfl) rfl ?_; refine WL_val (rn_load na3 rfl (hS.sat.cell (hcb8 0 _ rfl))) rfl ?_; refine WL_val (rn_move (v := (.int .i64 x2)) rfl) rfl ?_; refine WL_val (rn_eql rfl rfl) rfl ?_; refine WL_val (rn_assign (v := (.bool (y7.Mother == x2))) rfl) rfl ?_; refine WL_nil ?_; refine WC_ret ?_; refine ⟨(.bool (y7.Mother == x2)), rfl, ?_⟩
   have hO : Owns G0 w0 w0.heap.size ([]) := hO
   refine WL_val (rn_pickT (v := (.bool (y7.Mother == x2))) rfl hb6 rfl) rfl ?_; refine WL_nil ?_; have H := Option.some.inj H; subst H
   exact ⟨_, upds_self _ _ ⟨rfl, rfl, rfl, rfl, rfl, trivial⟩, rfl⟩
  ·have H := ifF hb6 H; refine WL_guardN rfl hb6 rfl rfl rfl ?_; refine WL_guardN rfl hb6 rfl rfl rfl ?_; refine WL_guardN rfl hb6 rfl rfl rfl ?_; refine WL_guardN rfl hb6 rfl rfl rfl ?_; refine WL_val (rn_pickF (v := (.bool false)) rfl hb6 rfl) rfl ?_; refine WL_nil ?_; have H := Option.some.inj H; subst H
   exact ⟨_, upds_self _ _ ⟨rfl, rfl, rfl, rfl, rfl, trivial⟩, rfl⟩
 ·rintro F wl ⟨Fb, rfl, rfl⟩
  refine WC_cond rfl (fun hb11 => ?_) (fun hb11 => ?_)
  ·have H := ifT hb11 H; refine WC_seq ?_; refine WC_region ?_; refine WL_val (rn_assign (v := (.bool true)) rfl) rfl ?_; refine WL_nil ?_; refine WC_ret ?_
   have H : some true = some r := H
   have H := Option.some.inj H; subst H
   exact ⟨rfl, hS.below⟩
  ·have H := ifF hb11 H; refine WC_skip ?_; refine WC_region ?_
   refine WL_val (v := (.int .i64 1)) (by kernel_rfl) rfl ?_
   refine WL_val (rn_move (v := (.int .i64 1)) rfl) rfl ?_; refine WL_nil ?_; refine WI_step ?_; refine WC_seq ?_; refine WC_region ?_
   refine WL_val (v := (.bool true)) (by kernel_rfl) rfl ?_
   refine WL_nil ?_; refine WC_seq ?_; refine WC_condT _ rfl rfl ?_; refine WC_skip ?_; refine WC_seq ?_; refine WC_block ?_; refine WC_seq ?_; refine WC_region ?_
   refine WL_val (v := (.func (.func 87) ([.pointer (some ⟨bq0, 0, none⟩)] : List Value).toArray ([] : List Value).toArray)) (by kernel_rfl) rfl ?_
   refine WL_val (rn_assign (v := (.func (.func 87) ([.pointer (some ⟨bq0, 0, none⟩)] : List Value).toArray ([] : List Value).toArray)) rfl) rfl ?_; refine WL_nil ?_; refine WC_seq ?_; obtain ⟨q12, hq12, H⟩ := bnd H; refine WC_cut (fun F w => ∃ (Fb : Fr), F = upds Fb [(1, .int .i64 x1), (2, .int .i64 x2), (15, .agg #[.func (.func 86) ([.pointer (some ⟨bq0, 0, none⟩)] : List Value).toArray ([] : List Value).toArray, .func (.func 87) ([.pointer (some ⟨bq0, 0, none⟩)] : List Value).toArray ([] : List Value).toArray, .func (.func 88) ([.pointer (some ⟨bq0, 0, none⟩)] : List Value).toArray ([] : List Value).toArray]), (16, .int .i64 1), (27, .bool q12)] ∧ w0 = w) ?_ ?_
   ·have Hoq12 := H; have H := hq12; refine WC_region ?_; refine WL_val (rn_move (v := (.int .i64 x1)) rfl) rfl ?_; refine WL_val (rn_move (v := (.int .i64 x2)) rfl) rfl ?_; refine WL_val (rn_neq rfl rfl) rfl ?_; refine WL_val (rn_move (v := (.bool (x1 != x2))) rfl) rfl ?_
    rcases bcases (x1 != x2) with hb13 | hb13
    ·have H := ifT hb13 H; refine WL_guardY rfl hb13 rfl rfl ?_; refine WL_val (rn_move (v := (.func (.func 87) ([.pointer (some ⟨bq0, 0, none⟩)] : List Value).toArray ([] : List Value).toArray)) rfl) rfl ?_; refine WL_guardY rfl hb13 rfl rfl ?_; refine WL_val (rn_move (v := (.int .i64 x1)) rfl) rfl ?_; refine WL_guardY rfl hb13 rfl rfl ?_; refine WL_val (rn_move (v := (.int .i64 x2)) rfl) rfl ?_; refine WL_guardY rfl hb13 rfl rfl ?_; refine WL_op rfl (OpP_inC1 (N' := 18) (fi := [.pointer (some ⟨bq0, 0, none⟩)]) (al := [.int .i64 x1, .int .i64 x2]) (ca := []) cb87 Tryd.func87 rfl rfl rfl rfl rfl rfl rfl ?_); refine WC_seq ?_; refine WC_region ?_; refine WL_val (rn_assign (v := (.bool false)) rfl) rfl ?_; refine WL_nil ?_; refine WC_seq ?_; refine WC_region ?_; refine WL_val (rn_move (v := (.pointer (some ⟨bq0, 0, none⟩))) rfl) rfl ?_
     refine WL_val (v := (.pointer (some ⟨bq0, 0, none⟩))) (by kernel_rfl) rfl ?_
     refine WL_val (rn_fld fd107_0 rfl) rfl ?_; refine WL_val (rn_fld fd26_0 rfl) rfl ?_; refine WL_val (rn_load na22 rfl (hS.sat.cell (hcq0 0 _ rfl))) rfl ?_; refine WL_val (rn_move (v := (.int .i64 x1)) rfl) rfl ?_; obtain ⟨y14, hy14, H⟩ := bnd H; refine WL_idx sl22 h1 hy14 rfl rfl rfl ?_
     rintro b15 o15 _ hcb15 _ ⟨⟩
     refine WL_val (rn_fld fd85_1 rfl) rfl ?_; refine WL_val (rn_load na3 rfl (hS.sat.cell (hcb15 1 _ rfl))) rfl ?_; refine WL_val (rn_move (v := (.int .i64 x2)) rfl) rfl ?_; refine WL_val (rn_eql rfl rfl) rfl ?_; refine WL_val (rn_assign (v := (.bool (y14.Adopted == x2))) rfl) rfl ?_; refine WL_nil ?_; refine WC_ret ?_; refine ⟨(.bool (y14.Adopted == x2)), rfl, ?_⟩
     have hO : Owns G0 w0 w0.heap.size ([]) := hO
     refine WL_val (rn_pickT (v := (.bool (y14.Adopted == x2))) rfl hb13 rfl) rfl ?_; refine WL_nil ?_; have H := Option.some.inj H; subst H
     exact ⟨_, upds_self _ _ ⟨rfl, rfl, rfl, rfl, rfl, trivial⟩, rfl⟩
    ·have H := ifF hb13 H; refine WL_guardN rfl hb13 rfl rfl rfl ?_; refine WL_guardN rfl hb13 rfl rfl rfl ?_; refine WL_guardN rfl hb13 rfl rfl rfl ?_; refine WL_guardN rfl hb13 rfl rfl rfl ?_; refine WL_val (rn_pickF (v := (.bool false)) rfl hb13 rfl) rfl ?_; refine WL_nil ?_; have H := Option.some.inj H; subst H
     exact ⟨_, upds_self _ _ ⟨rfl, rfl, rfl, rfl, rfl, trivial⟩, rfl⟩
   ·rintro F wl ⟨Fb, rfl, rfl⟩
    refine WC_cond rfl (fun hb18 => ?_) (fun hb18 => ?_)
    ·have H := ifT hb18 H; refine WC_seq ?_; refine WC_region ?_; refine WL_val (rn_assign (v := (.bool true)) rfl) rfl ?_; refine WL_nil ?_; refine WC_ret ?_
     have H : some true = some r := H
     have H := Option.some.inj H; subst H
     exact ⟨rfl, hS.below⟩
    ·have H := ifF hb18 H; refine WC_skip ?_; refine WC_region ?_
     refine WL_val (v := (.int .i64 2)) (by kernel_rfl) rfl ?_
     refine WL_val (rn_move (v := (.int .i64 2)) rfl) rfl ?_; refine WL_nil ?_; refine WI_step ?_; refine WC_seq ?_; refine WC_region ?_
     refine WL_val (v := (.bool true)) (by kernel_rfl) rfl ?_
     refine WL_nil ?_; refine WC_seq ?_; refine WC_condT _ rfl rfl ?_; refine WC_skip ?_; refine WC_seq ?_; refine WC_block ?_; refine WC_seq ?_; refine WC_region ?_
     refine WL_val (v := (.func (.func 88) ([.pointer (some ⟨bq0, 0, none⟩)] : List Value).toArray ([] : List Value).toArray)) (by kernel_rfl) rfl ?_
     refine WL_val (rn_assign (v := (.func (.func 88) ([.pointer (some ⟨bq0, 0, none⟩)] : List Value).toArray ([] : List Value).toArray)) rfl) rfl ?_; refine WL_nil ?_; refine WC_seq ?_; obtain ⟨q19, hq19, H⟩ := bnd H; refine WC_cut (fun F w => ∃ (Fb : Fr), F = upds Fb [(1, .int .i64 x1), (2, .int .i64 x2), (15, .agg #[.func (.func 86) ([.pointer (some ⟨bq0, 0, none⟩)] : List Value).toArray ([] : List Value).toArray, .func (.func 87) ([.pointer (some ⟨bq0, 0, none⟩)] : List Value).toArray ([] : List Value).toArray, .func (.func 88) ([.pointer (some ⟨bq0, 0, none⟩)] : List Value).toArray ([] : List Value).toArray]), (16, .int .i64 2), (27, .bool q19)] ∧ w0 = w) ?_ ?_
     ·have Hoq19 := H; have H := hq19; refine WC_region ?_; refine WL_val (rn_move (v := (.int .i64 x1)) rfl) rfl ?_; refine WL_val (rn_move (v := (.int .i64 x2)) rfl) rfl ?_; refine WL_val (rn_neq rfl rfl) rfl ?_; refine WL_val (rn_move (v := (.bool (x1 != x2))) rfl) rfl ?_
      rcases bcases (x1 != x2) with hb20 | hb20
      ·have H := ifT hb20 H; refine WL_guardY rfl hb20 rfl rfl ?_; refine WL_val (rn_move (v := (.func (.func 88) ([.pointer (some ⟨bq0, 0, none⟩)] : List Value).toArray ([] : List Value).toArray)) rfl) rfl ?_; refine WL_guardY rfl hb20 rfl rfl ?_; refine WL_val (rn_move (v := (.int .i64 x1)) rfl) rfl ?_; refine WL_guardY rfl hb20 rfl rfl ?_; refine WL_val (rn_move (v := (.int .i64 x2)) rfl) rfl ?_; refine WL_guardY rfl hb20 rfl rfl ?_; refine WL_op rfl (OpP_inC1 (N' := 32) (fi := [.pointer (some ⟨bq0, 0, none⟩)]) (al := [.int .i64 x1, .int .i64 x2]) (ca := []) cb88 Tryd.func88 rfl rfl rfl rfl rfl rfl rfl ?_); refine WC_seq ?_; refine WC_region ?_; refine WL_val (rn_assign (v := (.bool false)) rfl) rfl ?_; refine WL_nil ?_; refine WC_seq ?_; refine WC_region ?_; refine WL_val (rn_move (v := (.pointer (some ⟨bq0, 0, none⟩))) rfl) rfl ?_
       refine WL_val (v := (.pointer (some ⟨bq0, 0, none⟩))) (by kernel_rfl) rfl ?_
       refine WL_val (rn_fld fd107_0 rfl) rfl ?_; refine WL_val (rn_fld fd26_0 rfl) rfl ?_; refine WL_val (rn_load na22 rfl (hS.sat.cell (hcq0 0 _ rfl))) rfl ?_; refine WL_val (rn_move (v := (.int .i64 x1)) rfl) rfl ?_; obtain ⟨y21, hy21, H⟩ := bnd H; refine WL_idx sl22 h1 hy21 rfl rfl rfl ?_
       rintro b22 o22 _ hcb22 _ ⟨⟩
       refine WL_val (rn_fld fd85_0 rfl) rfl ?_; refine WL_val (rn_load na3 rfl (hS.sat.cell (hcb22 0 _ rfl))) rfl ?_; refine WL_val (rn_assign (v := (.int .i64 y21.Mother)) rfl) rfl ?_; refine WL_nil ?_; refine WC_seq ?_; obtain ⟨q23, hq23, H⟩ := bnd H; refine WC_cut (fun F w => ∃ (Fb : Fr), F = upds Fb [(6, .bool q23)] ∧ w0 = w) ?_ ?_
       ·have Hoq23 := H; have H := hq23; refine WC_region ?_; refine WL_val (rn_move (v := (.int .i64 y21.Mother)) rfl) rfl ?_; refine WL_val (rn_neq rfl rfl) rfl ?_; refine WL_val (rn_move (v := (.bool (y21.Mother != (-1)))) rfl) rfl ?_
        rcases bcases (y21.Mother != (-1)) with hb24 | hb24
        ·have H := ifT hb24 H; refine WL_guardY rfl hb24 rfl rfl ?_; refine WL_val (rn_move (v := (.int .i64 y21.Mother)) rfl) rfl ?_; refine WL_guardY rfl hb24 rfl rfl ?_; refine WL_val (rn_move (v := (.pointer (some ⟨bq0, 0, none⟩))) rfl) rfl ?_; refine WL_guardY rfl hb24 rfl rfl ?_
         refine WL_val (v := (.pointer (some ⟨bq0, 0, none⟩))) (by kernel_rfl) rfl ?_
         refine WL_guardY rfl hb24 rfl rfl ?_; refine WL_val (rn_fld fd107_0 rfl) rfl ?_; refine WL_guardY rfl hb24 rfl rfl ?_; refine WL_val (rn_fld fd26_0 rfl) rfl ?_; refine WL_guardY rfl hb24 rfl rfl ?_; refine WL_val (rn_load na22 rfl (hS.sat.cell (hcq0 0 _ rfl))) rfl ?_; refine WL_guardY rfl hb24 rfl rfl ?_; refine WL_val (rn_move (v := (.int .i64 x2)) rfl) rfl ?_; refine WL_guardY rfl hb24 rfl rfl ?_; obtain ⟨y25, hy25, H⟩ := bnd H; refine WL_idx sl22 h1 hy25 rfl rfl rfl ?_
         rintro b26 o26 _ hcb26 _ ⟨⟩
         refine WL_guardY rfl hb24 rfl rfl ?_; refine WL_val (rn_fld fd85_0 rfl) rfl ?_; refine WL_guardY rfl hb24 rfl rfl ?_; refine WL_val (rn_load na3 rfl (hS.sat.cell (hcb26 0 _ rfl))) rfl ?_; refine WL_guardY rfl hb24 rfl rfl ?_; refine WL_val (rn_eql rfl rfl) rfl ?_; refine WL_val (rn_pickT (v := (.bool (y21.Mother == y25.Mother))) rfl hb24 rfl) rfl ?_; refine WL_val (rn_assign (v := (.bool (y21.Mother == y25.Mother))) rfl) rfl ?_; refine WL_nil ?_; have H := Option.some.inj H; subst H
         exact ⟨_, upds_self _ _ ⟨rfl, trivial⟩, rfl⟩
        ·have H := ifF hb24 H; refine WL_guardN rfl hb24 rfl rfl rfl ?_; refine WL_guardN rfl hb24 rfl rfl rfl ?_; refine WL_guardN rfl hb24 rfl rfl rfl ?_; refine WL_guardN rfl hb24 rfl rfl rfl ?_; refine WL_guardN rfl hb24 rfl rfl rfl ?_; refine WL_guardN rfl hb24 rfl rfl rfl ?_; refine WL_guardN rfl hb24 rfl rfl rfl ?_; refine WL_guardN rfl hb24 rfl rfl rfl ?_; refine WL_guardN rfl hb24 rfl rfl rfl ?_; refine WL_guardN rfl hb24 rfl rfl rfl ?_; refine WL_guardN rfl hb24 rfl rfl rfl ?_; refine WL_val (rn_pickF (v := (.bool false)) rfl hb24 rfl) rfl ?_; refine WL_val (rn_assign (v := (.bool false)) rfl) rfl ?_; refine WL_nil ?_; have H := Option.some.inj H; subst H
         exact ⟨_, upds_self _ _ ⟨rfl, trivial⟩, rfl⟩
       ·rintro F wl ⟨Fb, rfl, rfl⟩
        refine WC_ret ?_; refine ⟨(.bool q23), rfl, ?_⟩
        have hO : Owns G0 w0 w0.heap.size ([]) := hO
        refine WL_val (rn_pickT (v := (.bool q23)) rfl hb20 rfl) rfl ?_; refine WL_nil ?_; have H := Option.some.inj H; subst H
        exact ⟨_, upds_self _ _ ⟨rfl, rfl, rfl, rfl, rfl, trivial⟩, rfl⟩
      ·have H := ifF hb20 H; refine WL_guardN rfl hb20 rfl rfl rfl ?_; refine WL_guardN rfl hb20 rfl rfl rfl ?_; refine WL_guardN rfl hb20 rfl rfl rfl ?_; refine WL_guardN rfl hb20 rfl rfl rfl ?_; refine WL_val (rn_pickF (v := (.bool false)) rfl hb20 rfl) rfl ?_; refine WL_nil ?_; have H := Option.some.inj H; subst H
       exact ⟨_, upds_self _ _ ⟨rfl, rfl, rfl, rfl, rfl, trivial⟩, rfl⟩
     ·rintro F wl ⟨Fb, rfl, rfl⟩
      refine WC_cond rfl (fun hb31 => ?_) (fun hb31 => ?_)
      ·have H := ifT hb31 H; refine WC_seq ?_; refine WC_region ?_; refine WL_val (rn_assign (v := (.bool true)) rfl) rfl ?_; refine WL_nil ?_; refine WC_ret ?_
       have H : some true = some r := H
       have H := Option.some.inj H; subst H
       exact ⟨rfl, hS.below⟩
      ·have H := ifF hb31 H; refine WC_skip ?_; refine WC_region ?_
       refine WL_val (v := (.int .i64 3)) (by kernel_rfl) rfl ?_
       refine WL_val (rn_move (v := (.int .i64 3)) rfl) rfl ?_; refine WL_nil ?_; refine WI_step ?_; refine WC_seq ?_; refine WC_region ?_
       refine WL_val (v := (.bool false)) (by kernel_rfl) rfl ?_
       refine WL_nil ?_; refine WC_seq ?_; refine WC_condF _ rfl rfl ?_; refine WC_exit rfl ?_; refine WC_seq ?_; refine WC_region ?_; refine WL_val (rn_assign (v := (.bool false)) rfl) rfl ?_; refine WL_nil ?_; refine WC_ret ?_
       have H : some false = some r := H
       have H := Option.some.inj H; subst H
       exact ⟨rfl, hS.below⟩
set_option maxHeartbeats 1000000 in
theorem f35_ok {G0 : Gm} {w0 : World} (hS0 : Sat G0 w0) {x0 : TLandBook} {a1 : Option Addr} {n1 c1 : Nat} {a2 : Option Addr} {n2 c2 : Nat} {a3 : Option Addr} {n3 c3 : Nat} {x1 : Int} (h1 : RSl RTLandPerson 2 G0 a1 n1 c1 x0.People) (h2 : RSl RTLandEvent 2 G0 a2 n2 c2 x0.Events) (h3 : RSl RTLandMemory 4 G0 a3 n3 c3 x0.Memories) {r : (List Int) × Int × Int} (H : f35 x0 x1 = some r) :
  Calls Tryd.prog 35 #[.agg #[.slice a1 n1 c1, .slice a2 n2 c2, .slice a3 n3 c3], .int .i64 x1] w0 (RetG G0 w0 (fun G v => ∃ (ra0 : Option Addr) (rn0 rc0 : Nat), v = .tuple #[.slice ra0 rn0 rc0, .int .i64 r.2.1, .int .i64 r.2.2] ∧ RSl RInt 1 G ra0 rn0 rc0 r.1)) := by
 have hS := Since.start hS0
 have hO : Owns G0 w0 w0.heap.size [] := Owns.nil (Nat.le_refl _)
 unfold f35 at H
 refine enter3 (N := 105) (shutG _ _ _) Tryd.func35 rfl rfl rfl rfl ?_; refine WC_seq ?_; refine WC_region ?_; refine WL_op rfl (OpP_newF (v := fun b => .pointer (some ⟨b, 0, none⟩)) (cs := [.slice a1 n1 c1, .slice a2 n2 c2, .slice a3 n3 c3]) (e := 26) (rn_boxA rfl) hS.sat rfl (fun b4 G6 w5 hg hcb4 => ?_)); have hS := hS.grow hg; have hO := hO.grow hg
 have leG6 := hg.le
 refine WL_val (rn_assign (v := (.slice none 0 0)) rfl) rfl ?_; refine WL_val (rn_assign (v := (.int .i64 0)) rfl) rfl ?_; refine WL_val (rn_assign (v := (.int .i64 0)) rfl) rfl ?_; refine WL_nil ?_; refine WC_seq ?_; have hS := hS.keep (below_drew _); have hO := hO.below (below_drew _)
 refine WC_regionD mixedO (fun _ w => Sat G6 w ∧ True) (.fl 0 (.fl 1 (.two 2 (.two 3 (.fl 4 (.fl 5 (.fl 6 (.on 7 (.on 8 (.on 9 .nil)))))) 7 (.on 3 (.on 4 (.fl 5 (.fl 6 (.on 8 (.on 9 .nil))))))) 7 (.on 2 (.on 3 (.on 4 (.fl 5 (.fl 6 (.on 8 (.on 9 .nil)))))))))) (by kernel_rfl) rfl (by kernel_rfl) (fun _ => ⟨hS.sat, trivial⟩) ?_
 refine WD_val rfl (fun w hw => rn_loadA ag26 (cs := [.slice a1 n1 c1, .slice a2 n2 c2, .slice a3 n3 c3]) rfl rfl (fun j v hj => hw.1.cell (hcb4.drop_take 0 3 j v hj))) rfl ?_; refine WD_val rfl (fun w hw => rn_move (v := (.int .i64 x1)) rfl) rfl ?_; refine WD_two ?_ ?_
 ·obtain ⟨y7, hy7, H⟩ := bnd H; refine WD_op rfl rfl (OpP_callV cb66 (f66_ok (x0 := x1) (x1 := 0) (x2 := 5) hS.sat  hy7) rfl rfl (fun w8 hb => ?_)); have hS := hS.keep hb; have hO := hO.below hb; refine ⟨fun _ _ => ⟨hS.sat, trivial⟩, ?_⟩; refine WD_two ?_ ?_
  ·obtain ⟨y9, hy9, H⟩ := bnd H; refine WD_op rfl rfl (OpP_callV cb69 (f69_ok (x0 := x0) (x1 := y7) hS.sat (h1.mono RTLandPerson_mono leG6) (h2.mono RTLandEvent_mono leG6) (h3.mono RTLandMemory_mono leG6) hy9) rfl rfl (fun w10 hb => ?_)); have hS := hS.keep hb; have hO := hO.below hb; refine ⟨fun _ _ => ⟨hS.sat, trivial⟩, ?_⟩; refine WD_val rfl (fun w hw => rn_move (v := (.tuple #[.agg (cellsT y9.1).toArray, .int .i64 y9.2])) rfl) rfl ?_; refine WD_val rfl (fun w hw => rn_extract (v := (.agg (cellsT y9.1).toArray)) rfl rfl) rfl ?_; refine WD_val rfl (fun w hw => rn_extract (v := (.int .i64 y9.2)) rfl rfl) rfl ?_
   refine WD_op rfl rfl (OpP_newO (v := fun b => .pointer (some ⟨b, 0, none⟩)) (cs := (cellsT (Tb.zero 64))) (e := 95) (by kernel_rfl) hS.sat hO rfl 64 1 (cellsT_len _) (by decide) (fun b11 w12 hb hO => ?_))
   have hS := hS.keep hb; refine ⟨fun _ _ => ⟨hS.sat, trivial⟩, ?_⟩; refine WD_op rfl rfl (OpP_storeTT sz95 hS hO (k := 0) rfl rfl rfl (fun w14 hS hO => ?_))
   have hO : Owns G6 w14 w0.heap.size ([⟨95, 64, 1, .slice (some ⟨b11, 0, none⟩) 1 1, cellsT y9.1⟩]) := hO
   refine ⟨fun _ _ => ⟨hS.sat, trivial⟩, ?_⟩; refine WD_op rfl rfl (OpP_val (rn_assign (v := (.int .i64 y9.2)) rfl) rfl ?_)
   refine ⟨fun _ h => noneed (by kernel_rfl) h, ?_⟩
   refine WD_nil ?_; refine WC_seq ?_; refine WC_seq ?_; refine WC_region ?_; refine WL_val (rn_move (v := (.int .i64 y9.2)) rfl) rfl ?_; refine WL_val (rn_neq rfl rfl) rfl ?_; refine WL_nil ?_; refine WC_cond rfl (fun hb15 => ?_) (fun hb15 => ?_)
   ·have H := ifT hb15 H; refine WC_seq ?_; refine WC_region ?_; refine WL_val (rn_move (v := (.int .i64 y9.2)) rfl) rfl ?_; refine WL_val (rn_assign (v := (.slice none 0 0)) rfl) rfl ?_; refine WL_val (rn_assign (v := (.int .i64 0)) rfl) rfl ?_; refine WL_val (rn_assign (v := (.int .i64 y9.2)) rfl) rfl ?_; refine WL_nil ?_; refine WC_ret ?_
    have H : some ([], 0, y9.2) = some r := H
    have H := Option.some.inj H; subst H
    exact ⟨_, _, rfl, hS.toGrow, _, _, _, rfl, (RSl.nil RInt 1 G6 none)⟩
   ·have H := ifF hb15 H; refine WC_skip ?_; refine WC_seq ?_; refine WC_region ?_; refine WL_val (rn_assign (v := (.slice none 0 0)) rfl) rfl ?_; refine WL_nil ?_; refine WC_seq ?_; refine WC_seq ?_; refine WC_region ?_; refine WL_val (rn_fld fd26_1 rfl) rfl ?_; refine WL_val (rn_load na23 rfl (hS.sat.cell (hcb4 1 _ rfl))) rfl ?_; refine WL_val (rn_len sl23 rfl rfl (h2.mono RTLandEvent_mono leG6).1) rfl ?_; refine WL_val (rn_move (v := (.int .i64 0)) rfl) rfl ?_; refine WL_nil ?_; have hO := hO.cons_nil 3 1; obtain ⟨q19, hq19, H⟩ := bnd H; refine WC_cut (fun F w => ∃ (p18 : (List Int) × (Tb 64)) (Fb : Fr) (G : Gm) (ap18_0 : Option Addr) (np18_0 cp18_0 : Nat) (clap18_0 : List Value), q19 = .inl p18 ∧ F = upds Fb [(2, .pointer (some ⟨b4, 0, none⟩)), (9, .slice ap18_0 np18_0 cp18_0)] ∧ Gle G6 G ∧ Since w0.heap.size G0 w0 G w ∧ Owns G w w0.heap.size [⟨3, 1, np18_0, .slice ap18_0 np18_0 cp18_0, clap18_0⟩, ⟨95, 64, 1, .slice (some ⟨b11, 0, none⟩) 1 1, cellsT p18.2⟩] ∧ np18_0 = p18.1.length ∧ Rd RInt 1 G clap18_0 p18.1) ?_ ?_
    ·refine WC_block (WC_loop hq19 (fun s17 F w => ∃ (Fb : Fr) (G : Gm) (as17_0 : Option Addr) (ns17_0 cs17_0 : Nat) (clas17_0 : List Value), F = upds Fb [(1, .int .i64 x1), (2, .pointer (some ⟨b4, 0, none⟩)), (7, .pointer (some ⟨b11, 0, none⟩)), (9, .slice as17_0 ns17_0 cs17_0), (28, .slice a2 n2 c2), (29, .int .i64 (x0.Events.length : Int)), (30, .int .i64 s17.2.1)] ∧ Gle G6 G ∧ Since w0.heap.size G0 w0 G w ∧ Owns G w w0.heap.size [⟨3, 1, ns17_0, .slice as17_0 ns17_0 cs17_0, clas17_0⟩, ⟨95, 64, 1, .slice (some ⟨b11, 0, none⟩) 1 1, cellsT s17.2.2⟩] ∧ ns17_0 = s17.1.length ∧ Rd RInt 1 G clas17_0 s17.1) ?_ ?_)
     ·have hO : Owns G6 w14 w0.heap.size ([⟨3, 1, 0, .slice none 0 0, []⟩, ⟨95, 64, 1, .slice (some ⟨b11, 0, none⟩) 1 1, cellsT y9.1⟩]) := hO
      exact ⟨_, G6, none, 0, 0, [], upds_self _ _ ⟨rfl, rfl, rfl, rfl, rfl, rfl, rfl, trivial⟩, Gle.refl _, hS, hO, rfl, (Rd.nil RInt 1 G6)⟩
     ·rintro s17 F w21 t20 ⟨Fb, G22, as17_0, ns17_0, cs17_0, clas17_0, rfl, leG22, hS, hO, hnhs17_0, hs17_0⟩
      intro H1 hqq19
      have Hoq19 := H; have H := H1
      unfold f35_b0 at H
      refine WC_seq ?_; refine WC_region ?_; refine WL_val (rn_lss rfl rfl) rfl ?_; refine WL_nil ?_; refine WC_seq ?_; refine WC_cond rfl (fun hb23 => ?_) (fun hb23 => ?_)
      ·have H := ifT hb23 H; refine WC_skip ?_; refine WC_seq ?_; obtain ⟨q24, hq24, H⟩ := bnd H; refine WC_cut (fun F w => ∃ (p25 : (List Int) × (Tb 64)) (Fb : Fr) (G : Gm) (ap25_0 : Option Addr) (np25_0 cp25_0 : Nat) (clap25_0 : List Value), q24 = .inl p25 ∧ F = upds Fb [(1, .int .i64 x1), (2, .pointer (some ⟨b4, 0, none⟩)), (7, .pointer (some ⟨b11, 0, none⟩)), (9, .slice ap25_0 np25_0 cp25_0), (28, .slice a2 n2 c2), (29, .int .i64 (x0.Events.length : Int)), (30, .int .i64 s17.2.1)] ∧ Gle G22 G ∧ Since w0.heap.size G0 w0 G w ∧ Owns G w w0.heap.size [⟨3, 1, np25_0, .slice ap25_0 np25_0 cp25_0, clap25_0⟩, ⟨95, 64, 1, .slice (some ⟨b11, 0, none⟩) 1 1, cellsT p25.2⟩] ∧ np25_0 = p25.1.length ∧ Rd RInt 1 G clap25_0 p25.1) ?_ ?_
       ·have Hoq24 := H; have H := hq24; refine WC_block ?_; refine WC_seq ?_; refine WC_region ?_; refine WL_val (rn_move (v := (.int .i64 s17.2.1)) rfl) rfl ?_; obtain ⟨y26, hy26, H⟩ := bnd H
        have l0_2 := leG6.trans leG22
        refine WL_idx sl23 (h2.mono RTLandEvent_mono l0_2) hy26 rfl rfl rfl ?_
        rintro b27 o27 _ hcb27 _ ⟨⟩
        refine WL_val (rn_loadA ag69 (cs := [.int .i64 y26.Strip, .int .i64 y26.Holder]) rfl rfl (fun j v hj => hS.sat.cell (hcb27.drop_take 0 2 j v hj))) rfl ?_
        refine WL_op rfl (OpP_newO (v := fun b => .pointer (some ⟨b, 0, none⟩)) (cs := [.int .i64 0, .int .i64 0]) (e := 69) (by kernel_rfl) hS.sat hO rfl 2 1 rfl (by decide) (fun b28 w29 hb hO => ?_))
        have hS := hS.keep hb; refine WL_val (rn_assign (v := (.int .i64 s17.2.1)) rfl) rfl ?_; refine WL_op rfl (OpP_store (vs := [.int .i64 y26.Strip, .int .i64 y26.Holder]) sz69 hS hO (k := 0) rfl rfl rfl rfl rfl (one_all rfl) (Nat.le_of_ble_eq_true rfl) (fun w31 hS hO => ?_))
        have hO : Owns G22 w31 w0.heap.size ([⟨69, 2, 1, .slice (some ⟨b28, 0, none⟩) 1 1, [.int .i64 y26.Strip, .int .i64 y26.Holder]⟩, ⟨3, 1, ns17_0, .slice as17_0 ns17_0 cs17_0, clas17_0⟩, ⟨95, 64, 1, .slice (some ⟨b11, 0, none⟩) 1 1, cellsT s17.2.2⟩]) := hO
        obtain ⟨G32, leG32, hS, hO, hqG32, _⟩ := hO.freeze hS (k := 0) rfl
        have hcG32 : Cells G32 b28 0 [.int .i64 y26.Strip, .int .i64 y26.Holder] := (hqG32 _ _ _ _ rfl)
        refine WL_nil ?_; refine WC_seq ?_; refine WC_seq ?_; refine WC_region ?_; refine WL_val (rn_fld fd69_0 rfl) rfl ?_; refine WL_val (rn_load na3 rfl (hS.sat.cell (hcG32 0 _ rfl))) rfl ?_; refine WL_val (rn_move (v := (.int .i64 x1)) rfl) rfl ?_; refine WL_val (rn_neq rfl rfl) rfl ?_; refine WL_nil ?_; refine WC_cond rfl (fun hb33 => ?_) (fun hb33 => ?_)
        ·have H := ifT hb33 H; refine WC_exit rfl ?_
         have hO : Owns G32 w31 w0.heap.size ([⟨3, 1, ns17_0, .slice as17_0 ns17_0 cs17_0, clas17_0⟩, ⟨95, 64, 1, .slice (some ⟨b11, 0, none⟩) 1 1, cellsT s17.2.2⟩]) := hO
         have H := Option.some.inj H; subst H
         exact ⟨_, _, G32, as17_0, ns17_0, cs17_0, clas17_0, rfl, upds_self _ _ ⟨rfl, rfl, rfl, rfl, rfl, rfl, rfl, trivial⟩, leG32, hS, hO, hnhs17_0, (hs17_0.mono RInt_mono leG32)⟩
        ·have H := ifF hb33 H; refine WC_skip ?_; refine WC_seq ?_; refine WC_region ?_; refine WL_val (rn_move (v := (.slice as17_0 ns17_0 cs17_0)) rfl) rfl ?_; refine WL_val (rn_len (m := s17.1.length) sl29 rfl rfl hnhs17_0) rfl ?_; refine WL_val (rn_assign (v := (.int .i64 (s17.1.length : Int))) rfl) rfl ?_; refine WL_nil ?_; refine WC_seq ?_; refine WC_seq ?_; refine WC_region ?_; refine WL_val (rn_move (v := (.slice as17_0 ns17_0 cs17_0)) rfl) rfl ?_; refine WL_val (rn_len (m := s17.1.length) sl29 rfl rfl hnhs17_0) rfl ?_; refine WL_val (rn_move (v := (.int .i64 0)) rfl) rfl ?_; refine WL_nil ?_; obtain ⟨q36, hq36, H⟩ := bnd H; refine WC_cut (fun F w => ∃ (p35 : Int × (Tb 64)) (Fb : Fr) (G : Gm), q36 = .inl p35 ∧ F = upds Fb [(1, .int .i64 x1), (2, .pointer (some ⟨b4, 0, none⟩)), (7, .pointer (some ⟨b11, 0, none⟩)), (9, .slice as17_0 ns17_0 cs17_0), (10, .int .i64 s17.2.1), (12, .int .i64 p35.1), (28, .slice a2 n2 c2), (29, .int .i64 (x0.Events.length : Int)), (30, .int .i64 s17.2.1)] ∧ Gle G32 G ∧ Since w0.heap.size G0 w0 G w ∧ Owns G w w0.heap.size [⟨3, 1, ns17_0, .slice as17_0 ns17_0 cs17_0, clas17_0⟩, ⟨95, 64, 1, .slice (some ⟨b11, 0, none⟩) 1 1, cellsT p35.2⟩]) ?_ ?_
         ·refine WC_block (WC_loop hq36 (fun s34 F w => ∃ (Fb : Fr) (G : Gm), F = upds Fb [(1, .int .i64 x1), (2, .pointer (some ⟨b4, 0, none⟩)), (7, .pointer (some ⟨b11, 0, none⟩)), (9, .slice as17_0 ns17_0 cs17_0), (10, .int .i64 s17.2.1), (12, .int .i64 s34.1), (28, .slice a2 n2 c2), (29, .int .i64 (x0.Events.length : Int)), (30, .int .i64 s17.2.1), (41, .slice as17_0 ns17_0 cs17_0), (42, .int .i64 (s17.1.length : Int)), (43, .int .i64 s34.2.1)] ∧ Gle G32 G ∧ Since w0.heap.size G0 w0 G w ∧ Owns G w w0.heap.size [⟨3, 1, ns17_0, .slice as17_0 ns17_0 cs17_0, clas17_0⟩, ⟨95, 64, 1, .slice (some ⟨b11, 0, none⟩) 1 1, cellsT s34.2.2⟩]) ?_ ?_)
          ·have hO : Owns G32 w31 w0.heap.size ([⟨3, 1, ns17_0, .slice as17_0 ns17_0 cs17_0, clas17_0⟩, ⟨95, 64, 1, .slice (some ⟨b11, 0, none⟩) 1 1, cellsT s17.2.2⟩]) := hO
           exact ⟨_, G32, upds_self _ _ ⟨rfl, rfl, rfl, rfl, rfl, rfl, rfl, rfl, rfl, rfl, rfl, rfl, trivial⟩, Gle.refl _, hS, hO⟩
          ·rintro s34 F w38 t37 ⟨Fb, G39, rfl, leG39, hS, hO⟩
           intro H1 hqq36
           have Hoq36 := H; have H := H1
           unfold f35_b1 at H
           refine WC_seq ?_; refine WC_region ?_; refine WL_val (rn_lss rfl rfl) rfl ?_; refine WL_nil ?_; refine WC_seq ?_; refine WC_cond rfl (fun hb40 => ?_) (fun hb40 => ?_)
           ·have H := ifT hb40 H; refine WC_skip ?_; refine WC_seq ?_; obtain ⟨q41, hq41, H⟩ := bnd H; refine WC_cut (fun F w => ∃ (p42 : Int) (Fb : Fr) (G : Gm), q41 = .inl p42 ∧ F = upds Fb [(1, .int .i64 x1), (2, .pointer (some ⟨b4, 0, none⟩)), (7, .pointer (some ⟨b11, 0, none⟩)), (9, .slice as17_0 ns17_0 cs17_0), (10, .int .i64 s17.2.1), (12, .int .i64 p42), (28, .slice a2 n2 c2), (29, .int .i64 (x0.Events.length : Int)), (30, .int .i64 s17.2.1), (41, .slice as17_0 ns17_0 cs17_0), (42, .int .i64 (s17.1.length : Int)), (43, .int .i64 s34.2.1)] ∧ Gle G39 G ∧ Since w0.heap.size G0 w0 G w ∧ Owns G w w0.heap.size [⟨3, 1, ns17_0, .slice as17_0 ns17_0 cs17_0, clas17_0⟩, ⟨95, 64, 1, .slice (some ⟨b11, 0, none⟩) 1 1, cellsT s34.2.2⟩]) ?_ ?_
            ·have Hoq41 := H; have H := hq41; refine WC_block ?_; refine WC_seq ?_; refine WC_region ?_; refine WL_val (rn_move (v := (.int .i64 s34.2.1)) rfl) rfl ?_; obtain ⟨y43, hy43, H⟩ := bnd H
             have l2_4 := leG32.trans leG39
             refine WL_idxO sl29 hO (k := 0) rfl hnhs17_0 (hs17_0.mono RInt_mono l2_4) hy43 rfl rfl rfl ?_
             rintro b44 ob44 _ hb44 _ hcb44 ⟨⟩
             refine WL_val (rn_load na3 rfl (own_cellB hO (k := 0) rfl hb44 _ 0 (hcb44 0 _ rfl))) rfl ?_; refine WL_val (rn_assign (v := (.int .i64 s34.2.1)) rfl) rfl ?_; refine WL_val (rn_assign (v := (.int .i64 y43)) rfl) rfl ?_; refine WL_nil ?_; refine WC_block ?_; refine WC_seq ?_; refine WC_region ?_; refine WL_val (rn_loadT ag95 hO (k := 1) rfl rfl) rfl ?_; refine WL_val (rn_move (v := (.int .i64 s17.2.1)) rfl) rfl ?_; refine WL_val (rn_move (v := (.int .i64 y43)) rfl) rfl ?_; obtain ⟨y45, hy45, H⟩ := bnd H; refine WL_op rfl (OpP_callV cb70 (f70_ok (x0 := s34.2.2) (x1 := s17.2.1) (x2 := y43) hS.sat  hy45) rfl rfl (fun w46 hb => ?_)); have hS := hS.keep hb; have hO := hO.below hb
             refine WL_val (v := (.int .i64 y45.Low)) (by kernel_rfl) rfl ?_
             refine WL_val (rn_gtr rfl rfl) rfl ?_; refine WL_val (rn_assign (v := (.bool (decide (0 < y45.Low)))) rfl) rfl ?_; refine WL_nil ?_; refine WC_cond rfl (fun hb47 => ?_) (fun hb47 => ?_)
             ·have H := ifT hb47 H; refine WC_region ?_; refine WL_val (rn_move (v := (.int .i64 s34.1)) rfl) rfl ?_; refine WL_val (rn_move (v := (.int .i64 s34.2.1)) rfl) rfl ?_; refine WL_val (rn_min rfl rfl) rfl ?_; refine WL_val (rn_assign (v := (.int .i64 (if s34.2.1 < s34.1 then s34.2.1 else s34.1))) rfl) rfl ?_; refine WL_nil ?_
              have hO : Owns G39 w46 w0.heap.size ([⟨3, 1, ns17_0, .slice as17_0 ns17_0 cs17_0, clas17_0⟩, ⟨95, 64, 1, .slice (some ⟨b11, 0, none⟩) 1 1, cellsT s34.2.2⟩]) := hO
              have H := Option.some.inj H; subst H
              exact ⟨_, _, G39, rfl, upds_self _ _ ⟨rfl, rfl, rfl, rfl, rfl, rfl, rfl, rfl, rfl, rfl, rfl, rfl, trivial⟩, Gle.refl _, hS, hO⟩
             ·have H := ifF hb47 H; refine WC_seq ?_; refine WC_region ?_; refine WL_val (rn_loadT ag95 hO (k := 1) rfl rfl) rfl ?_; refine WL_val (rn_move (v := (.int .i64 y43)) rfl) rfl ?_; refine WL_val (rn_move (v := (.int .i64 s17.2.1)) rfl) rfl ?_; obtain ⟨y48, hy48, H⟩ := bnd H; refine WL_op rfl (OpP_callV cb70 (f70_ok (x0 := s34.2.2) (x1 := y43) (x2 := s17.2.1) hS.sat  hy48) rfl rfl (fun w49 hb => ?_)); have hS := hS.keep hb; have hO := hO.below hb
              refine WL_val (v := (.int .i64 y48.Low)) (by kernel_rfl) rfl ?_
              refine WL_val (rn_leq rfl rfl) rfl ?_; refine WL_val (rn_assign (v := (.bool (decide (y48.Low ≤ 0)))) rfl) rfl ?_; refine WL_nil ?_; refine WC_cond rfl (fun hb50 => ?_) (fun hb50 => ?_)
              ·have H := ifT hb50 H; refine WC_seq ?_; refine WC_region ?_; refine WL_val (rn_assign (v := (.slice none 0 0)) rfl) rfl ?_; refine WL_val (rn_assign (v := (.int .i64 0)) rfl) rfl ?_; refine WL_val (rn_assign (v := (.int .i64 8)) rfl) rfl ?_; refine WL_nil ?_; refine WC_ret ?_; have H := Option.some.inj H; subst H; have H := Hoq41; have H := Option.some.inj H; subst H
               have hres := hqq36 _ rfl
               subst hres; have H := Hoq36; have H := Option.some.inj H; subst H; have H := Hoq24; have H := Option.some.inj H; subst H
               have hres := hqq19 _ rfl
               subst hres; have H := Hoq19
               have H : some ([], 0, 8) = some r := H
               have H := Option.some.inj H; subst H
               exact ⟨_, _, rfl, hS.toGrow, _, _, _, rfl, (RSl.nil RInt 1 G39 none)⟩
              ·have H := ifF hb50 H; refine WC_skip ?_
               have hO : Owns G39 w49 w0.heap.size ([⟨3, 1, ns17_0, .slice as17_0 ns17_0 cs17_0, clas17_0⟩, ⟨95, 64, 1, .slice (some ⟨b11, 0, none⟩) 1 1, cellsT s34.2.2⟩]) := hO
               have H := Option.some.inj H; subst H
               exact ⟨_, _, G39, rfl, upds_self _ _ ⟨rfl, rfl, rfl, rfl, rfl, rfl, rfl, rfl, rfl, rfl, rfl, rfl, trivial⟩, Gle.refl _, hS, hO⟩
            ·rintro F w51 ⟨p42, Fb, G52, rfl, rfl, leG52, hS, hO⟩
             refine WC_region ?_; refine WL_val (rn_add rfl rfl) rfl ?_; refine WL_val (rn_move (v := (.int .i64 (IntKind.i64.wrap (s34.2.1 + 1)))) rfl) rfl ?_; refine WL_nil ?_
             have hO : Owns G52 w51 w0.heap.size ([⟨3, 1, ns17_0, .slice as17_0 ns17_0 cs17_0, clas17_0⟩, ⟨95, 64, 1, .slice (some ⟨b11, 0, none⟩) 1 1, cellsT s34.2.2⟩]) := hO
             have H := Option.some.inj H; subst H; refine ⟨_, rfl, ?_⟩
             have l3_5 := leG39.trans leG52
             exact ⟨_, G52, upds_self _ _ ⟨rfl, rfl, rfl, rfl, rfl, rfl, rfl, rfl, rfl, rfl, rfl, rfl, trivial⟩, l3_5, hS, hO⟩
           ·have H := ifF hb40 H; refine WC_exit rfl ?_
            have hO : Owns G39 w38 w0.heap.size ([⟨3, 1, ns17_0, .slice as17_0 ns17_0 cs17_0, clas17_0⟩, ⟨95, 64, 1, .slice (some ⟨b11, 0, none⟩) 1 1, cellsT s34.2.2⟩]) := hO
            have H := Option.some.inj H; subst H
            have hres := hqq36 _ rfl
            subst hres
            exact ⟨_, _, G39, rfl, upds_self _ _ ⟨rfl, rfl, rfl, rfl, rfl, rfl, rfl, rfl, rfl, trivial⟩, leG39, hS, hO⟩
         ·rintro F w54 ⟨p35, Fb, G55, rfl, rfl, leG55, hS, hO⟩
          refine WC_region ?_; refine WL_val (rn_move (v := (.slice as17_0 ns17_0 cs17_0)) rfl) rfl ?_; refine WL_val (rn_move (v := (.int .i64 p35.1)) rfl) rfl ?_; refine WL_val (rn_move (v := (.int .i64 s17.2.1)) rfl) rfl ?_
          refine WL_op rfl (OpP_newO (v := fun b => .slice (some ⟨b, 0, none⟩) 1 1) (cs := [.int .i64 s17.2.1]) (e := 3) (by kernel_rfl) hS.sat hO rfl 1 1 rfl (by decide) (fun b56 w57 hb hO => ?_))
          have hS := hS.keep hb
          have hrb56 : Rd RInt 1 G55 [.int .i64 s17.2.1] [s17.2.1] := (Rd.cons (c := [.int .i64 s17.2.1]) rfl rfl (Rd.nil RInt 1 _))
          have hO := hO.front (k := 0) rfl; have hO := hO.front (k := 1) rfl
          have hO : Owns G55 w57 w0.heap.size ([⟨3, 1, ns17_0, .slice as17_0 ns17_0 cs17_0, clas17_0⟩, ⟨3, 1, 1, .slice (some ⟨b56, 0, none⟩) 1 1, [.int .i64 s17.2.1]⟩, ⟨95, 64, 1, .slice (some ⟨b11, 0, none⟩) 1 1, cellsT p35.2⟩]) := hO
          obtain ⟨y59, hy59, H⟩ := bnd H
          have l2_4 := leG32.trans leG55
          refine WL_op rfl (OpP_lent (fi := []) (al := [.slice as17_0 ns17_0 cs17_0, .int .i64 p35.1, .slice (some ⟨b56, 0, none⟩) 1 1]) (ca := []) cb72 (f72_ok (i := p35.1) (x := s17.2.1) hS hO hnhs17_0 (hs17_0.mono RInt_mono l2_4) hy59) rfl rfl rfl (fun vG61 G61 w60 L62 leG61 hS hO hvG61 => ?_)); obtain ⟨aw60, cw60, clw60, rfl, rfl, hrw60⟩ := hvG61
          have hO : Owns G61 w60 w0.heap.size ([⟨3, 1, y59.length, .slice aw60 y59.length cw60, clw60⟩, ⟨3, 1, 1, .slice (some ⟨b56, 0, none⟩) 1 1, [.int .i64 s17.2.1]⟩, ⟨95, 64, 1, .slice (some ⟨b11, 0, none⟩) 1 1, cellsT p35.2⟩]) := hO
          have hO := hO.drop 1
          have hO : Owns G61 w60 w0.heap.size ([⟨3, 1, y59.length, .slice aw60 y59.length cw60, clw60⟩, ⟨95, 64, 1, .slice (some ⟨b11, 0, none⟩) 1 1, cellsT p35.2⟩]) := hO
          refine WL_val (rn_assign (v := (.slice aw60 y59.length cw60)) rfl) rfl ?_; refine WL_nil ?_
          have hO : Owns G61 w60 w0.heap.size ([⟨3, 1, y59.length, .slice aw60 y59.length cw60, clw60⟩, ⟨95, 64, 1, .slice (some ⟨b11, 0, none⟩) 1 1, cellsT p35.2⟩]) := hO
          have H := Option.some.inj H; subst H
          have l2_5 := l2_4.trans leG61
          exact ⟨_, _, G61, aw60, y59.length, cw60, clw60, rfl, upds_self _ _ ⟨rfl, rfl, rfl, rfl, rfl, rfl, rfl, trivial⟩, l2_5, hS, hO, rfl, hrw60⟩
       ·rintro F w64 ⟨p25, Fb, G65, ap25_0, np25_0, cp25_0, clap25_0, rfl, rfl, leG65, hS, hO, hnhp25_0, hp25_0⟩
        refine WC_region ?_; refine WL_val (rn_add rfl rfl) rfl ?_; refine WL_val (rn_move (v := (.int .i64 (IntKind.i64.wrap (s17.2.1 + 1)))) rfl) rfl ?_; refine WL_nil ?_
        have hO : Owns G65 w64 w0.heap.size ([⟨3, 1, np25_0, .slice ap25_0 np25_0 cp25_0, clap25_0⟩, ⟨95, 64, 1, .slice (some ⟨b11, 0, none⟩) 1 1, cellsT p25.2⟩]) := hO
        have H := Option.some.inj H; subst H; refine ⟨_, rfl, ?_⟩
        have l1_3 := leG22.trans leG65
        exact ⟨_, G65, ap25_0, np25_0, cp25_0, clap25_0, upds_self _ _ ⟨rfl, rfl, rfl, rfl, rfl, rfl, rfl, trivial⟩, l1_3, hS, hO, hnhp25_0, hp25_0⟩
      ·have H := ifF hb23 H; refine WC_exit rfl ?_
       have hO : Owns G22 w21 w0.heap.size ([⟨3, 1, ns17_0, .slice as17_0 ns17_0 cs17_0, clas17_0⟩, ⟨95, 64, 1, .slice (some ⟨b11, 0, none⟩) 1 1, cellsT s17.2.2⟩]) := hO
       have H := Option.some.inj H; subst H
       have hres := hqq19 _ rfl
       subst hres
       exact ⟨_, _, G22, as17_0, ns17_0, cs17_0, clas17_0, rfl, upds_self _ _ ⟨rfl, rfl, trivial⟩, leG22, hS, hO, hnhs17_0, hs17_0⟩
    ·rintro F w67 ⟨p18, Fb, G68, ap18_0, np18_0, cp18_0, clap18_0, rfl, rfl, leG68, hS, hO, hnhp18_0, hp18_0⟩
     refine WC_seq ?_; refine WC_region ?_; refine WL_val (rn_loadA ag26 (cs := [.slice a1 n1 c1, .slice a2 n2 c2, .slice a3 n3 c3]) rfl rfl (fun j v hj => (hS.sat.le leG68).cell (hcb4.drop_take 0 3 j v hj))) rfl ?_; refine WL_op rfl (OpP_in1 (N' := 7) [.agg #[.slice a1 n1 c1, .slice a2 n2 c2, .slice a3 n3 c3]] cb52 Tryd.func52 rfl rfl rfl rfl rfl rfl ?_); refine WC_seq ?_; refine WC_region ?_; refine WL_op rfl (OpP_newF (v := fun b => .pointer (some ⟨b, 0, none⟩)) (cs := [.slice a1 n1 c1, .slice a2 n2 c2, .slice a3 n3 c3]) (e := 26) (rn_boxA rfl) hS.sat rfl (fun b69 G71 w70 hg hcb69 => ?_)); have hS := hS.grow hg; have hO := hO.grow hg
     have leG71 := hg.le
     refine WL_val (rn_assign (v := (.pointer none)) rfl) rfl ?_; refine WL_nil ?_; refine WC_seq ?_; refine WC_region ?_; refine WL_val (rn_loadA ag26 (cs := [.slice a1 n1 c1, .slice a2 n2 c2, .slice a3 n3 c3]) rfl rfl (fun j v hj => hS.sat.cell (hcb69.drop_take 0 3 j v hj))) rfl ?_; refine WL_op rfl (OpP_makeMap (e := 77) hS hO rfl (fun r72 w73 hS hO => ?_))
     have hO : Owns G71 w73 w0.heap.size ([⟨77, 2, ([] : (List (Int × Bool))).length, .map (some r72), kvs kvI vvB ([] : (List (Int × Bool)))⟩, ⟨3, 1, np18_0, .slice ap18_0 np18_0 cp18_0, clap18_0⟩, ⟨95, 64, 1, .slice (some ⟨b11, 0, none⟩) 1 1, cellsT p18.2⟩]) := hO
     refine WL_val (v := (.agg #[.slice a1 n1 c1, .slice a2 n2 c2, .slice a3 n3 c3, .map (some r72)])) (by kernel_rfl) rfl ?_
     refine WL_op rfl (OpP_newF (v := fun b => .pointer (some ⟨b, 0, none⟩)) (cs := [.slice a1 n1 c1, .slice a2 n2 c2, .slice a3 n3 c3, .map (some r72)]) (e := 107) (rn_boxA rfl) hS.sat rfl (fun b75 G77 w76 hg hcb75 => ?_)); have hS := hS.grow hg; have hO := hO.grow hg
     have leG77 := hg.le
     refine WL_val (rn_assign (v := (.pointer (some ⟨b75, 0, none⟩))) rfl) rfl ?_; refine WL_nil ?_; refine WC_ret ?_; refine ⟨(.pointer (some ⟨b75, 0, none⟩)), rfl, ?_⟩
     have hO : Owns G77 w76 w0.heap.size ([⟨77, 2, ([] : (List (Int × Bool))).length, .map (some r72), kvs kvI vvB ([] : (List (Int × Bool)))⟩, ⟨3, 1, np18_0, .slice ap18_0 np18_0 cp18_0, clap18_0⟩, ⟨95, 64, 1, .slice (some ⟨b11, 0, none⟩) 1 1, cellsT p18.2⟩]) := hO
     refine WL_val (rn_assign (v := (.pointer (some ⟨b75, 0, none⟩))) rfl) rfl ?_; refine WL_nil ?_; refine WC_seq ?_; refine WC_seq ?_; refine WC_region ?_; refine WL_val (rn_assign (v := (.int .i64 1)) rfl) rfl ?_; refine WL_nil ?_; obtain ⟨q80, hq80, H⟩ := bnd H; refine WC_cut (fun F w => ∃ (p79 : (Tb 64) × (List (Int × Bool))) (Fb : Fr) (G : Gm), q80 = .inl p79 ∧ F = upds Fb [(9, .slice ap18_0 np18_0 cp18_0)] ∧ Gle G77 G ∧ Since w0.heap.size G0 w0 G w ∧ Owns G w w0.heap.size [⟨77, 2, (p79.2).length, .map (some r72), kvs kvI vvB (p79.2)⟩, ⟨3, 1, np18_0, .slice ap18_0 np18_0 cp18_0, clap18_0⟩, ⟨95, 64, 1, .slice (some ⟨b11, 0, none⟩) 1 1, cellsT p79.1⟩]) ?_ ?_
     ·refine WC_block (WC_loop hq80 (fun s78 F w => ∃ (Fb : Fr) (G : Gm), F = upds Fb [(2, .pointer (some ⟨b4, 0, none⟩)), (9, .slice ap18_0 np18_0 cp18_0), (15, .pointer (some ⟨b75, 0, none⟩)), (16, .int .i64 s78.1)] ∧ Gle G77 G ∧ Since w0.heap.size G0 w0 G w ∧ Owns G w w0.heap.size [⟨77, 2, (s78.2.2).length, .map (some r72), kvs kvI vvB (s78.2.2)⟩, ⟨3, 1, np18_0, .slice ap18_0 np18_0 cp18_0, clap18_0⟩, ⟨95, 64, 1, .slice (some ⟨b11, 0, none⟩) 1 1, cellsT s78.2.1⟩]) ?_ ?_)
      ·have hO : Owns G77 w76 w0.heap.size ([⟨77, 2, ([] : (List (Int × Bool))).length, .map (some r72), kvs kvI vvB ([] : (List (Int × Bool)))⟩, ⟨3, 1, np18_0, .slice ap18_0 np18_0 cp18_0, clap18_0⟩, ⟨95, 64, 1, .slice (some ⟨b11, 0, none⟩) 1 1, cellsT p18.2⟩]) := hO
       exact ⟨_, G77, upds_self _ _ ⟨rfl, rfl, rfl, rfl, trivial⟩, Gle.refl _, hS, hO⟩
      ·rintro s78 F w82 t81 ⟨Fb, G83, rfl, leG83, hS, hO⟩
       intro H1 hqq80
       have Hoq80 := H; have H := H1
       unfold f35_b2 at H
       refine WC_seq ?_; refine WC_seq ?_; refine WC_region ?_; refine WL_val (rn_move (v := (.int .i64 s78.1)) rfl) rfl ?_; refine WL_val (rn_move (v := (.slice ap18_0 np18_0 cp18_0)) rfl) rfl ?_; refine WL_val (rn_len (m := p18.1.length) sl29 rfl rfl hnhp18_0) rfl ?_; refine WL_val (rn_lss rfl rfl) rfl ?_; refine WL_nil ?_; refine WC_cond rfl (fun hb84 => ?_) (fun hb84 => ?_)
       ·have H := ifT hb84 H; refine WC_skip ?_; refine WC_seq ?_; refine WC_block ?_; refine WC_seq ?_; have hS := hS.keep (below_drew _); have hO := hO.below (below_drew _)
        refine WC_regionD mixedO (fun _ w => Sat G83 w ∧ Owns G83 w w0.heap.size [⟨77, 2, (s78.2.2).length, .map (some r72), kvs kvI vvB (s78.2.2)⟩, ⟨3, 1, np18_0, .slice ap18_0 np18_0 cp18_0, clap18_0⟩, ⟨95, 64, 1, .slice (some ⟨b11, 0, none⟩) 1 1, cellsT s78.2.1⟩]) (.fl 0 (.fl 1 (.fl 2 (.fl 3 (.fl 4 (.fl 5 (.fl 6 (.fl 7 (.fl 8 (.fl 9 (.fl 10 (.fl 11 (.fl 12 (.on 13 (.on 14 (.on 15 (.on 16 (.on 17 (.on 18 (.on 19 (.on 20 (.on 21 .nil)))))))))))))))))))))) (by kernel_rfl) rfl (by kernel_rfl) (fun _ => ⟨hS.sat, hO⟩) ?_
        refine WD_val rfl (fun w hw => rn_move (v := (.pointer (some ⟨b75, 0, none⟩))) rfl) rfl ?_; refine WD_val rfl (fun w hw => rn_fld fd26_1 rfl) rfl ?_; refine WD_val rfl (fun w hw => rn_load na23 rfl ((hw.1.le (((leG68.trans leG71).trans leG77).trans leG83)).cell (hcb4 1 _ rfl))) rfl ?_; refine WD_val rfl (fun w hw => rn_move (v := (.slice ap18_0 np18_0 cp18_0)) rfl) rfl ?_; refine WD_val rfl (fun w hw => rn_move (v := (.int .i64 s78.1)) rfl) rfl ?_; obtain ⟨y85, hy85, H⟩ := bnd H
        have l2_5 := (leG71.trans leG77).trans leG83
        refine WD_idxO rfl sl29 hO (k := 1) rfl hnhp18_0 (hp18_0.mono RInt_mono l2_5) hy85 rfl rfl rfl ?_
        rintro b86 ob86 _ hb86 _ hcb86 ⟨⟩
        refine WD_val rfl (fun w hw => rn_load na3 rfl (own_cellB hw.2 (k := 1) rfl hb86 _ 0 (hcb86 0 _ rfl))) rfl ?_; obtain ⟨y87, hy87, H⟩ := bnd H
        have l0_5 := (leG6.trans leG68).trans l2_5
        refine WD_idx rfl sl23 (h2.mono RTLandEvent_mono l0_5) hy87 rfl rfl rfl ?_
        rintro b88 o88 _ hcb88 _ ⟨⟩
        refine WD_val rfl (fun w hw => rn_fld fd69_1 rfl) rfl ?_; refine WD_val rfl (fun w hw => rn_load na3 rfl (hw.1.cell (hcb88 1 _ rfl))) rfl ?_; refine WD_val rfl (fun w hw => rn_fld fd26_1 rfl) rfl ?_; refine WD_val rfl (fun w hw => rn_load na23 rfl ((hw.1.le (leG68.trans l2_5)).cell (hcb4 1 _ rfl))) rfl ?_; refine WD_val rfl (fun w hw => rn_move (v := (.slice ap18_0 np18_0 cp18_0)) rfl) rfl ?_; refine WD_op rfl rfl (OpP_val (rn_move (v := (.int .i64 s78.1)) rfl) rfl ?_); refine ⟨fun _ _ => ⟨hS.sat, hO⟩, ?_⟩; refine WD_op rfl rfl (OpP_val (rn_sub rfl rfl) rfl ?_); refine ⟨fun _ _ => ⟨hS.sat, hO⟩, ?_⟩; obtain ⟨y89, hy89, H⟩ := bnd H; refine WD_op rfl rfl (OpP_idxO sl29 hO (k := 1) rfl hnhp18_0 (hp18_0.mono RInt_mono l2_5) hy89 rfl rfl rfl ?_)
        rintro b90 ob90 _ hb90 _ hcb90 ⟨⟩
        refine ⟨fun _ _ => ⟨hS.sat, hO⟩, ?_⟩; refine WD_op rfl rfl (OpP_val (rn_load na3 rfl (own_cellB hO (k := 1) rfl hb90 _ 0 (hcb90 0 _ rfl))) rfl ?_); refine ⟨fun _ _ => ⟨hS.sat, hO⟩, ?_⟩; obtain ⟨y91, hy91, H⟩ := bnd H; refine WD_op rfl rfl (OpP_idx sl23 (h2.mono RTLandEvent_mono l0_5) hy91 rfl rfl rfl ?_)
        rintro b92 o92 _ hcb92 _ ⟨⟩
        refine ⟨fun _ _ => ⟨hS.sat, hO⟩, ?_⟩; refine WD_op rfl rfl (OpP_val (rn_fld fd69_1 rfl) rfl ?_); refine ⟨fun _ _ => ⟨hS.sat, hO⟩, ?_⟩; refine WD_op rfl rfl (OpP_val (rn_load na3 rfl (hS.sat.cell (hcb92 1 _ rfl))) rfl ?_); refine ⟨fun _ _ => ⟨hS.sat, hO⟩, ?_⟩; obtain ⟨y93, hy93, H⟩ := bnd H
        have hx95 := f73_ok (x0 := x0) (x1 := y87.Holder) (x2 := y91.Holder) hS.sat (hcb75.mono leG83) (h1.mono RTLandPerson_mono l0_5) (h2.mono RTLandEvent_mono l0_5) (h3.mono RTLandMemory_mono l0_5) hy93
        refine WD_op rfl rfl (OpP_callV cb73 hx95 rfl rfl (fun w94 hb => ?_)); have hS := hS.keep hb; have hO := hO.below hb
        refine ⟨fun _ h => noneed (by kernel_rfl) h, ?_⟩
        refine WD_op rfl rfl (OpP_val (rn_not rfl) rfl ?_)
        refine ⟨fun _ h => noneed (by kernel_rfl) h, ?_⟩
        refine WD_nil ?_; refine WC_cond rfl (fun hb96 => ?_) (fun hb96 => ?_)
        ·have H := ifT hb96 H; refine WC_seq ?_; refine WC_region ?_; refine WL_val (rn_move (v := (.slice ap18_0 np18_0 cp18_0)) rfl) rfl ?_; refine WL_val (rn_move (v := (.int .i64 s78.1)) rfl) rfl ?_; refine WL_val (rn_assign (v := (.slice ap18_0 np18_0 cp18_0)) rfl) rfl ?_; refine WL_val (rn_assign (v := (.int .i64 s78.1)) rfl) rfl ?_; refine WL_val (rn_assign (v := (.int .i64 0)) rfl) rfl ?_; refine WL_nil ?_; refine WC_ret ?_; obtain ⟨G97, leG97, hS, hO, hfG97⟩ := hO.freezeS hS RInt_mono (k := 1) rfl (hp18_0.mono RInt_mono l2_5) hnhp18_0; have H := Option.some.inj H; subst H
         have hres := hqq80 _ rfl
         subst hres; have H := Hoq80
         have H : some (p18.1, s78.1, 0) = some r := H
         have H := Option.some.inj H; subst H
         exact ⟨_, _, rfl, hS.toGrow, _, _, _, rfl, hfG97⟩
        ·have H := ifF hb96 H; refine WC_skip ?_; refine WC_region ?_; refine WL_val (rn_move (v := (.int .i64 s78.1)) rfl) rfl ?_; refine WL_val (rn_add rfl rfl) rfl ?_; refine WL_val (rn_assign (v := (.int .i64 (IntKind.i64.wrap (s78.1 + 1)))) rfl) rfl ?_; refine WL_nil ?_
         have hO : Owns G83 w94 w0.heap.size ([⟨77, 2, (s78.2.2).length, .map (some r72), kvs kvI vvB (s78.2.2)⟩, ⟨3, 1, np18_0, .slice ap18_0 np18_0 cp18_0, clap18_0⟩, ⟨95, 64, 1, .slice (some ⟨b11, 0, none⟩) 1 1, cellsT s78.2.1⟩]) := hO
         have H := Option.some.inj H; subst H; refine ⟨_, rfl, ?_⟩
         exact ⟨_, G83, upds_self _ _ ⟨rfl, rfl, rfl, rfl, trivial⟩, leG83, hS, hO⟩
       ·have H := ifF hb84 H; refine WC_exit rfl ?_
        have hO : Owns G83 w82 w0.heap.size ([⟨77, 2, (s78.2.2).length, .map (some r72), kvs kvI vvB (s78.2.2)⟩, ⟨3, 1, np18_0, .slice ap18_0 np18_0 cp18_0, clap18_0⟩, ⟨95, 64, 1, .slice (some ⟨b11, 0, none⟩) 1 1, cellsT s78.2.1⟩]) := hO
        have H := Option.some.inj H; subst H
        have hres := hqq80 _ rfl
        subst hres
        exact ⟨_, _, G83, rfl, upds_self _ _ ⟨rfl, trivial⟩, leG83, hS, hO⟩
     ·rintro F w98 ⟨p79, Fb, G99, rfl, rfl, leG99, hS, hO⟩
      refine WC_seq ?_; refine WC_region ?_; refine WL_val (rn_move (v := (.slice ap18_0 np18_0 cp18_0)) rfl) rfl ?_; refine WL_val (rn_assign (v := (.slice ap18_0 np18_0 cp18_0)) rfl) rfl ?_; refine WL_val (rn_assign (v := (.int .i64 (-1))) rfl) rfl ?_; refine WL_val (rn_assign (v := (.int .i64 0)) rfl) rfl ?_; refine WL_nil ?_; refine WC_ret ?_
      have l2_5 := (leG71.trans leG77).trans leG99
      obtain ⟨G100, leG100, hS, hO, hfG100⟩ := hO.freezeS hS RInt_mono (k := 1) rfl (hp18_0.mono RInt_mono l2_5) hnhp18_0
      have H : some (p18.1, (-1), 0) = some r := H
      have H := Option.some.inj H; subst H
      exact ⟨_, _, rfl, hS.toGrow, _, _, _, rfl, hfG100⟩
  ·refine WD_op rfl rfl (OpP_newO (v := fun b => .pointer (some ⟨b, 0, none⟩)) (cs := (cellsT (Tb.zero 64))) (e := 95) (by kernel_rfl) hS.sat hO rfl 64 1 (cellsT_len _) (by decide) (fun b9 w10 hb hO => ?_))
   have hS := hS.keep hb; refine ⟨fun _ _ => ⟨hS.sat, trivial⟩, ?_⟩; obtain ⟨y12, hy12, H⟩ := bnd H; refine WD_op rfl rfl (OpP_callV cb69 (f69_ok (x0 := x0) (x1 := y7) hS.sat (h1.mono RTLandPerson_mono leG6) (h2.mono RTLandEvent_mono leG6) (h3.mono RTLandMemory_mono leG6) hy12) rfl rfl (fun w13 hb => ?_)); have hS := hS.keep hb; have hO := hO.below hb; refine ⟨fun _ _ => ⟨hS.sat, trivial⟩, ?_⟩; refine WD_op rfl rfl (OpP_val (rn_move (v := (.tuple #[.agg (cellsT y12.1).toArray, .int .i64 y12.2])) rfl) rfl ?_); refine ⟨fun _ _ => ⟨hS.sat, trivial⟩, ?_⟩; refine WD_val rfl (fun w hw => rn_extract (v := (.agg (cellsT y12.1).toArray)) rfl rfl) rfl ?_; refine WD_val rfl (fun w hw => rn_extract (v := (.int .i64 y12.2)) rfl rfl) rfl ?_; refine WD_op rfl rfl (OpP_storeTT sz95 hS hO (k := 0) rfl rfl rfl (fun w14 hS hO => ?_))
   have hO : Owns G6 w14 w0.heap.size ([⟨95, 64, 1, .slice (some ⟨b9, 0, none⟩) 1 1, cellsT y12.1⟩]) := hO
   refine ⟨fun _ _ => ⟨hS.sat, trivial⟩, ?_⟩; refine WD_op rfl rfl (OpP_val (rn_assign (v := (.int .i64 y12.2)) rfl) rfl ?_)
   refine ⟨fun _ h => noneed (by kernel_rfl) h, ?_⟩
   refine WD_nil ?_; refine WC_seq ?_; refine WC_seq ?_; refine WC_region ?_; refine WL_val (rn_move (v := (.int .i64 y12.2)) rfl) rfl ?_; refine WL_val (rn_neq rfl rfl) rfl ?_; refine WL_nil ?_; refine WC_cond rfl (fun hb15 => ?_) (fun hb15 => ?_)
   ·have H := ifT hb15 H; refine WC_seq ?_; refine WC_region ?_; refine WL_val (rn_move (v := (.int .i64 y12.2)) rfl) rfl ?_; refine WL_val (rn_assign (v := (.slice none 0 0)) rfl) rfl ?_; refine WL_val (rn_assign (v := (.int .i64 0)) rfl) rfl ?_; refine WL_val (rn_assign (v := (.int .i64 y12.2)) rfl) rfl ?_; refine WL_nil ?_; refine WC_ret ?_
    have H : some ([], 0, y12.2) = some r := H
    have H := Option.some.inj H; subst H
    exact ⟨_, _, rfl, hS.toGrow, _, _, _, rfl, (RSl.nil RInt 1 G6 none)⟩
   ·have H := ifF hb15 H; refine WC_skip ?_; refine WC_seq ?_; refine WC_region ?_; refine WL_val (rn_assign (v := (.slice none 0 0)) rfl) rfl ?_; refine WL_nil ?_; refine WC_seq ?_; refine WC_seq ?_; refine WC_region ?_; refine WL_val (rn_fld fd26_1 rfl) rfl ?_; refine WL_val (rn_load na23 rfl (hS.sat.cell (hcb4 1 _ rfl))) rfl ?_; refine WL_val (rn_len sl23 rfl rfl (h2.mono RTLandEvent_mono leG6).1) rfl ?_; refine WL_val (rn_move (v := (.int .i64 0)) rfl) rfl ?_; refine WL_nil ?_; have hO := hO.cons_nil 3 1; obtain ⟨q19, hq19, H⟩ := bnd H; refine WC_cut (fun F w => ∃ (p18 : (List Int) × (Tb 64)) (Fb : Fr) (G : Gm) (ap18_0 : Option Addr) (np18_0 cp18_0 : Nat) (clap18_0 : List Value), q19 = .inl p18 ∧ F = upds Fb [(2, .pointer (some ⟨b4, 0, none⟩)), (9, .slice ap18_0 np18_0 cp18_0)] ∧ Gle G6 G ∧ Since w0.heap.size G0 w0 G w ∧ Owns G w w0.heap.size [⟨3, 1, np18_0, .slice ap18_0 np18_0 cp18_0, clap18_0⟩, ⟨95, 64, 1, .slice (some ⟨b9, 0, none⟩) 1 1, cellsT p18.2⟩] ∧ np18_0 = p18.1.length ∧ Rd RInt 1 G clap18_0 p18.1) ?_ ?_
    ·refine WC_block (WC_loop hq19 (fun s17 F w => ∃ (Fb : Fr) (G : Gm) (as17_0 : Option Addr) (ns17_0 cs17_0 : Nat) (clas17_0 : List Value), F = upds Fb [(1, .int .i64 x1), (2, .pointer (some ⟨b4, 0, none⟩)), (7, .pointer (some ⟨b9, 0, none⟩)), (9, .slice as17_0 ns17_0 cs17_0), (28, .slice a2 n2 c2), (29, .int .i64 (x0.Events.length : Int)), (30, .int .i64 s17.2.1)] ∧ Gle G6 G ∧ Since w0.heap.size G0 w0 G w ∧ Owns G w w0.heap.size [⟨3, 1, ns17_0, .slice as17_0 ns17_0 cs17_0, clas17_0⟩, ⟨95, 64, 1, .slice (some ⟨b9, 0, none⟩) 1 1, cellsT s17.2.2⟩] ∧ ns17_0 = s17.1.length ∧ Rd RInt 1 G clas17_0 s17.1) ?_ ?_)
     ·have hO : Owns G6 w14 w0.heap.size ([⟨3, 1, 0, .slice none 0 0, []⟩, ⟨95, 64, 1, .slice (some ⟨b9, 0, none⟩) 1 1, cellsT y12.1⟩]) := hO
      exact ⟨_, G6, none, 0, 0, [], upds_self _ _ ⟨rfl, rfl, rfl, rfl, rfl, rfl, rfl, trivial⟩, Gle.refl _, hS, hO, rfl, (Rd.nil RInt 1 G6)⟩
     ·rintro s17 F w21 t20 ⟨Fb, G22, as17_0, ns17_0, cs17_0, clas17_0, rfl, leG22, hS, hO, hnhs17_0, hs17_0⟩
      intro H1 hqq19
      have Hoq19 := H; have H := H1
      unfold f35_b0 at H
      refine WC_seq ?_; refine WC_region ?_; refine WL_val (rn_lss rfl rfl) rfl ?_; refine WL_nil ?_; refine WC_seq ?_; refine WC_cond rfl (fun hb23 => ?_) (fun hb23 => ?_)
      ·have H := ifT hb23 H; refine WC_skip ?_; refine WC_seq ?_; obtain ⟨q24, hq24, H⟩ := bnd H; refine WC_cut (fun F w => ∃ (p25 : (List Int) × (Tb 64)) (Fb : Fr) (G : Gm) (ap25_0 : Option Addr) (np25_0 cp25_0 : Nat) (clap25_0 : List Value), q24 = .inl p25 ∧ F = upds Fb [(1, .int .i64 x1), (2, .pointer (some ⟨b4, 0, none⟩)), (7, .pointer (some ⟨b9, 0, none⟩)), (9, .slice ap25_0 np25_0 cp25_0), (28, .slice a2 n2 c2), (29, .int .i64 (x0.Events.length : Int)), (30, .int .i64 s17.2.1)] ∧ Gle G22 G ∧ Since w0.heap.size G0 w0 G w ∧ Owns G w w0.heap.size [⟨3, 1, np25_0, .slice ap25_0 np25_0 cp25_0, clap25_0⟩, ⟨95, 64, 1, .slice (some ⟨b9, 0, none⟩) 1 1, cellsT p25.2⟩] ∧ np25_0 = p25.1.length ∧ Rd RInt 1 G clap25_0 p25.1) ?_ ?_
       ·have Hoq24 := H; have H := hq24; refine WC_block ?_; refine WC_seq ?_; refine WC_region ?_; refine WL_val (rn_move (v := (.int .i64 s17.2.1)) rfl) rfl ?_; obtain ⟨y26, hy26, H⟩ := bnd H
        have l0_2 := leG6.trans leG22
        refine WL_idx sl23 (h2.mono RTLandEvent_mono l0_2) hy26 rfl rfl rfl ?_
        rintro b27 o27 _ hcb27 _ ⟨⟩
        refine WL_val (rn_loadA ag69 (cs := [.int .i64 y26.Strip, .int .i64 y26.Holder]) rfl rfl (fun j v hj => hS.sat.cell (hcb27.drop_take 0 2 j v hj))) rfl ?_
        refine WL_op rfl (OpP_newO (v := fun b => .pointer (some ⟨b, 0, none⟩)) (cs := [.int .i64 0, .int .i64 0]) (e := 69) (by kernel_rfl) hS.sat hO rfl 2 1 rfl (by decide) (fun b28 w29 hb hO => ?_))
        have hS := hS.keep hb; refine WL_val (rn_assign (v := (.int .i64 s17.2.1)) rfl) rfl ?_; refine WL_op rfl (OpP_store (vs := [.int .i64 y26.Strip, .int .i64 y26.Holder]) sz69 hS hO (k := 0) rfl rfl rfl rfl rfl (one_all rfl) (Nat.le_of_ble_eq_true rfl) (fun w31 hS hO => ?_))
        have hO : Owns G22 w31 w0.heap.size ([⟨69, 2, 1, .slice (some ⟨b28, 0, none⟩) 1 1, [.int .i64 y26.Strip, .int .i64 y26.Holder]⟩, ⟨3, 1, ns17_0, .slice as17_0 ns17_0 cs17_0, clas17_0⟩, ⟨95, 64, 1, .slice (some ⟨b9, 0, none⟩) 1 1, cellsT s17.2.2⟩]) := hO
        obtain ⟨G32, leG32, hS, hO, hqG32, _⟩ := hO.freeze hS (k := 0) rfl
        have hcG32 : Cells G32 b28 0 [.int .i64 y26.Strip, .int .i64 y26.Holder] := (hqG32 _ _ _ _ rfl)
        refine WL_nil ?_; refine WC_seq ?_; refine WC_seq ?_; refine WC_region ?_; refine WL_val (rn_fld fd69_0 rfl) rfl ?_; refine WL_val (rn_load na3 rfl (hS.sat.cell (hcG32 0 _ rfl))) rfl ?_; refine WL_val (rn_move (v := (.int .i64 x1)) rfl) rfl ?_; refine WL_val (rn_neq rfl rfl) rfl ?_; refine WL_nil ?_; refine WC_cond rfl (fun hb33 => ?_) (fun hb33 => ?_)
        ·have H := ifT hb33 H; refine WC_exit rfl ?_
         have hO : Owns G32 w31 w0.heap.size ([⟨3, 1, ns17_0, .slice as17_0 ns17_0 cs17_0, clas17_0⟩, ⟨95, 64, 1, .slice (some ⟨b9, 0, none⟩) 1 1, cellsT s17.2.2⟩]) := hO
         have H := Option.some.inj H; subst H
         exact ⟨_, _, G32, as17_0, ns17_0, cs17_0, clas17_0, rfl, upds_self _ _ ⟨rfl, rfl, rfl, rfl, rfl, rfl, rfl, trivial⟩, leG32, hS, hO, hnhs17_0, (hs17_0.mono RInt_mono leG32)⟩
        ·have H := ifF hb33 H; refine WC_skip ?_; refine WC_seq ?_; refine WC_region ?_; refine WL_val (rn_move (v := (.slice as17_0 ns17_0 cs17_0)) rfl) rfl ?_; refine WL_val (rn_len (m := s17.1.length) sl29 rfl rfl hnhs17_0) rfl ?_; refine WL_val (rn_assign (v := (.int .i64 (s17.1.length : Int))) rfl) rfl ?_; refine WL_nil ?_; refine WC_seq ?_; refine WC_seq ?_; refine WC_region ?_; refine WL_val (rn_move (v := (.slice as17_0 ns17_0 cs17_0)) rfl) rfl ?_; refine WL_val (rn_len (m := s17.1.length) sl29 rfl rfl hnhs17_0) rfl ?_; refine WL_val (rn_move (v := (.int .i64 0)) rfl) rfl ?_; refine WL_nil ?_; obtain ⟨q36, hq36, H⟩ := bnd H; refine WC_cut (fun F w => ∃ (p35 : Int × (Tb 64)) (Fb : Fr) (G : Gm), q36 = .inl p35 ∧ F = upds Fb [(1, .int .i64 x1), (2, .pointer (some ⟨b4, 0, none⟩)), (7, .pointer (some ⟨b9, 0, none⟩)), (9, .slice as17_0 ns17_0 cs17_0), (10, .int .i64 s17.2.1), (12, .int .i64 p35.1), (28, .slice a2 n2 c2), (29, .int .i64 (x0.Events.length : Int)), (30, .int .i64 s17.2.1)] ∧ Gle G32 G ∧ Since w0.heap.size G0 w0 G w ∧ Owns G w w0.heap.size [⟨3, 1, ns17_0, .slice as17_0 ns17_0 cs17_0, clas17_0⟩, ⟨95, 64, 1, .slice (some ⟨b9, 0, none⟩) 1 1, cellsT p35.2⟩]) ?_ ?_
         ·refine WC_block (WC_loop hq36 (fun s34 F w => ∃ (Fb : Fr) (G : Gm), F = upds Fb [(1, .int .i64 x1), (2, .pointer (some ⟨b4, 0, none⟩)), (7, .pointer (some ⟨b9, 0, none⟩)), (9, .slice as17_0 ns17_0 cs17_0), (10, .int .i64 s17.2.1), (12, .int .i64 s34.1), (28, .slice a2 n2 c2), (29, .int .i64 (x0.Events.length : Int)), (30, .int .i64 s17.2.1), (41, .slice as17_0 ns17_0 cs17_0), (42, .int .i64 (s17.1.length : Int)), (43, .int .i64 s34.2.1)] ∧ Gle G32 G ∧ Since w0.heap.size G0 w0 G w ∧ Owns G w w0.heap.size [⟨3, 1, ns17_0, .slice as17_0 ns17_0 cs17_0, clas17_0⟩, ⟨95, 64, 1, .slice (some ⟨b9, 0, none⟩) 1 1, cellsT s34.2.2⟩]) ?_ ?_)
          ·have hO : Owns G32 w31 w0.heap.size ([⟨3, 1, ns17_0, .slice as17_0 ns17_0 cs17_0, clas17_0⟩, ⟨95, 64, 1, .slice (some ⟨b9, 0, none⟩) 1 1, cellsT s17.2.2⟩]) := hO
           exact ⟨_, G32, upds_self _ _ ⟨rfl, rfl, rfl, rfl, rfl, rfl, rfl, rfl, rfl, rfl, rfl, rfl, trivial⟩, Gle.refl _, hS, hO⟩
          ·rintro s34 F w38 t37 ⟨Fb, G39, rfl, leG39, hS, hO⟩
           intro H1 hqq36
           have Hoq36 := H; have H := H1
           unfold f35_b1 at H
           refine WC_seq ?_; refine WC_region ?_; refine WL_val (rn_lss rfl rfl) rfl ?_; refine WL_nil ?_; refine WC_seq ?_; refine WC_cond rfl (fun hb40 => ?_) (fun hb40 => ?_)
           ·have H := ifT hb40 H; refine WC_skip ?_; refine WC_seq ?_; obtain ⟨q41, hq41, H⟩ := bnd H; refine WC_cut (fun F w => ∃ (p42 : Int) (Fb : Fr) (G : Gm), q41 = .inl p42 ∧ F = upds Fb [(1, .int .i64 x1), (2, .pointer (some ⟨b4, 0, none⟩)), (7, .pointer (some ⟨b9, 0, none⟩)), (9, .slice as17_0 ns17_0 cs17_0), (10, .int .i64 s17.2.1), (12, .int .i64 p42), (28, .slice a2 n2 c2), (29, .int .i64 (x0.Events.length : Int)), (30, .int .i64 s17.2.1), (41, .slice as17_0 ns17_0 cs17_0), (42, .int .i64 (s17.1.length : Int)), (43, .int .i64 s34.2.1)] ∧ Gle G39 G ∧ Since w0.heap.size G0 w0 G w ∧ Owns G w w0.heap.size [⟨3, 1, ns17_0, .slice as17_0 ns17_0 cs17_0, clas17_0⟩, ⟨95, 64, 1, .slice (some ⟨b9, 0, none⟩) 1 1, cellsT s34.2.2⟩]) ?_ ?_
            ·have Hoq41 := H; have H := hq41; refine WC_block ?_; refine WC_seq ?_; refine WC_region ?_; refine WL_val (rn_move (v := (.int .i64 s34.2.1)) rfl) rfl ?_; obtain ⟨y43, hy43, H⟩ := bnd H
             have l2_4 := leG32.trans leG39
             refine WL_idxO sl29 hO (k := 0) rfl hnhs17_0 (hs17_0.mono RInt_mono l2_4) hy43 rfl rfl rfl ?_
             rintro b44 ob44 _ hb44 _ hcb44 ⟨⟩
             refine WL_val (rn_load na3 rfl (own_cellB hO (k := 0) rfl hb44 _ 0 (hcb44 0 _ rfl))) rfl ?_; refine WL_val (rn_assign (v := (.int .i64 s34.2.1)) rfl) rfl ?_; refine WL_val (rn_assign (v := (.int .i64 y43)) rfl) rfl ?_; refine WL_nil ?_; refine WC_block ?_; refine WC_seq ?_; refine WC_region ?_; refine WL_val (rn_loadT ag95 hO (k := 1) rfl rfl) rfl ?_; refine WL_val (rn_move (v := (.int .i64 s17.2.1)) rfl) rfl ?_; refine WL_val (rn_move (v := (.int .i64 y43)) rfl) rfl ?_; obtain ⟨y45, hy45, H⟩ := bnd H; refine WL_op rfl (OpP_callV cb70 (f70_ok (x0 := s34.2.2) (x1 := s17.2.1) (x2 := y43) hS.sat  hy45) rfl rfl (fun w46 hb => ?_)); have hS := hS.keep hb; have hO := hO.below hb
             refine WL_val (v := (.int .i64 y45.Low)) (by kernel_rfl) rfl ?_
             refine WL_val (rn_gtr rfl rfl) rfl ?_; refine WL_val (rn_assign (v := (.bool (decide (0 < y45.Low)))) rfl) rfl ?_; refine WL_nil ?_; refine WC_cond rfl (fun hb47 => ?_) (fun hb47 => ?_)
             ·have H := ifT hb47 H; refine WC_region ?_; refine WL_val (rn_move (v := (.int .i64 s34.1)) rfl) rfl ?_; refine WL_val (rn_move (v := (.int .i64 s34.2.1)) rfl) rfl ?_; refine WL_val (rn_min rfl rfl) rfl ?_; refine WL_val (rn_assign (v := (.int .i64 (if s34.2.1 < s34.1 then s34.2.1 else s34.1))) rfl) rfl ?_; refine WL_nil ?_
              have hO : Owns G39 w46 w0.heap.size ([⟨3, 1, ns17_0, .slice as17_0 ns17_0 cs17_0, clas17_0⟩, ⟨95, 64, 1, .slice (some ⟨b9, 0, none⟩) 1 1, cellsT s34.2.2⟩]) := hO
              have H := Option.some.inj H; subst H
              exact ⟨_, _, G39, rfl, upds_self _ _ ⟨rfl, rfl, rfl, rfl, rfl, rfl, rfl, rfl, rfl, rfl, rfl, rfl, trivial⟩, Gle.refl _, hS, hO⟩
             ·have H := ifF hb47 H; refine WC_seq ?_; refine WC_region ?_; refine WL_val (rn_loadT ag95 hO (k := 1) rfl rfl) rfl ?_; refine WL_val (rn_move (v := (.int .i64 y43)) rfl) rfl ?_; refine WL_val (rn_move (v := (.int .i64 s17.2.1)) rfl) rfl ?_; obtain ⟨y48, hy48, H⟩ := bnd H; refine WL_op rfl (OpP_callV cb70 (f70_ok (x0 := s34.2.2) (x1 := y43) (x2 := s17.2.1) hS.sat  hy48) rfl rfl (fun w49 hb => ?_)); have hS := hS.keep hb; have hO := hO.below hb
              refine WL_val (v := (.int .i64 y48.Low)) (by kernel_rfl) rfl ?_
              refine WL_val (rn_leq rfl rfl) rfl ?_; refine WL_val (rn_assign (v := (.bool (decide (y48.Low ≤ 0)))) rfl) rfl ?_; refine WL_nil ?_; refine WC_cond rfl (fun hb50 => ?_) (fun hb50 => ?_)
              ·have H := ifT hb50 H; refine WC_seq ?_; refine WC_region ?_; refine WL_val (rn_assign (v := (.slice none 0 0)) rfl) rfl ?_; refine WL_val (rn_assign (v := (.int .i64 0)) rfl) rfl ?_; refine WL_val (rn_assign (v := (.int .i64 8)) rfl) rfl ?_; refine WL_nil ?_; refine WC_ret ?_; have H := Option.some.inj H; subst H; have H := Hoq41; have H := Option.some.inj H; subst H
               have hres := hqq36 _ rfl
               subst hres; have H := Hoq36; have H := Option.some.inj H; subst H; have H := Hoq24; have H := Option.some.inj H; subst H
               have hres := hqq19 _ rfl
               subst hres; have H := Hoq19
               have H : some ([], 0, 8) = some r := H
               have H := Option.some.inj H; subst H
               exact ⟨_, _, rfl, hS.toGrow, _, _, _, rfl, (RSl.nil RInt 1 G39 none)⟩
              ·have H := ifF hb50 H; refine WC_skip ?_
               have hO : Owns G39 w49 w0.heap.size ([⟨3, 1, ns17_0, .slice as17_0 ns17_0 cs17_0, clas17_0⟩, ⟨95, 64, 1, .slice (some ⟨b9, 0, none⟩) 1 1, cellsT s34.2.2⟩]) := hO
               have H := Option.some.inj H; subst H
               exact ⟨_, _, G39, rfl, upds_self _ _ ⟨rfl, rfl, rfl, rfl, rfl, rfl, rfl, rfl, rfl, rfl, rfl, rfl, trivial⟩, Gle.refl _, hS, hO⟩
            ·rintro F w51 ⟨p42, Fb, G52, rfl, rfl, leG52, hS, hO⟩
             refine WC_region ?_; refine WL_val (rn_add rfl rfl) rfl ?_; refine WL_val (rn_move (v := (.int .i64 (IntKind.i64.wrap (s34.2.1 + 1)))) rfl) rfl ?_; refine WL_nil ?_
             have hO : Owns G52 w51 w0.heap.size ([⟨3, 1, ns17_0, .slice as17_0 ns17_0 cs17_0, clas17_0⟩, ⟨95, 64, 1, .slice (some ⟨b9, 0, none⟩) 1 1, cellsT s34.2.2⟩]) := hO
             have H := Option.some.inj H; subst H; refine ⟨_, rfl, ?_⟩
             have l3_5 := leG39.trans leG52
             exact ⟨_, G52, upds_self _ _ ⟨rfl, rfl, rfl, rfl, rfl, rfl, rfl, rfl, rfl, rfl, rfl, rfl, trivial⟩, l3_5, hS, hO⟩
           ·have H := ifF hb40 H; refine WC_exit rfl ?_
            have hO : Owns G39 w38 w0.heap.size ([⟨3, 1, ns17_0, .slice as17_0 ns17_0 cs17_0, clas17_0⟩, ⟨95, 64, 1, .slice (some ⟨b9, 0, none⟩) 1 1, cellsT s34.2.2⟩]) := hO
            have H := Option.some.inj H; subst H
            have hres := hqq36 _ rfl
            subst hres
            exact ⟨_, _, G39, rfl, upds_self _ _ ⟨rfl, rfl, rfl, rfl, rfl, rfl, rfl, rfl, rfl, trivial⟩, leG39, hS, hO⟩
         ·rintro F w54 ⟨p35, Fb, G55, rfl, rfl, leG55, hS, hO⟩
          refine WC_region ?_; refine WL_val (rn_move (v := (.slice as17_0 ns17_0 cs17_0)) rfl) rfl ?_; refine WL_val (rn_move (v := (.int .i64 p35.1)) rfl) rfl ?_; refine WL_val (rn_move (v := (.int .i64 s17.2.1)) rfl) rfl ?_
          refine WL_op rfl (OpP_newO (v := fun b => .slice (some ⟨b, 0, none⟩) 1 1) (cs := [.int .i64 s17.2.1]) (e := 3) (by kernel_rfl) hS.sat hO rfl 1 1 rfl (by decide) (fun b56 w57 hb hO => ?_))
          have hS := hS.keep hb
          have hrb56 : Rd RInt 1 G55 [.int .i64 s17.2.1] [s17.2.1] := (Rd.cons (c := [.int .i64 s17.2.1]) rfl rfl (Rd.nil RInt 1 _))
          have hO := hO.front (k := 0) rfl; have hO := hO.front (k := 1) rfl
          have hO : Owns G55 w57 w0.heap.size ([⟨3, 1, ns17_0, .slice as17_0 ns17_0 cs17_0, clas17_0⟩, ⟨3, 1, 1, .slice (some ⟨b56, 0, none⟩) 1 1, [.int .i64 s17.2.1]⟩, ⟨95, 64, 1, .slice (some ⟨b9, 0, none⟩) 1 1, cellsT p35.2⟩]) := hO
          obtain ⟨y59, hy59, H⟩ := bnd H
          have l2_4 := leG32.trans leG55
          refine WL_op rfl (OpP_lent (fi := []) (al := [.slice as17_0 ns17_0 cs17_0, .int .i64 p35.1, .slice (some ⟨b56, 0, none⟩) 1 1]) (ca := []) cb72 (f72_ok (i := p35.1) (x := s17.2.1) hS hO hnhs17_0 (hs17_0.mono RInt_mono l2_4) hy59) rfl rfl rfl (fun vG61 G61 w60 L62 leG61 hS hO hvG61 => ?_)); obtain ⟨aw60, cw60, clw60, rfl, rfl, hrw60⟩ := hvG61
          have hO : Owns G61 w60 w0.heap.size ([⟨3, 1, y59.length, .slice aw60 y59.length cw60, clw60⟩, ⟨3, 1, 1, .slice (some ⟨b56, 0, none⟩) 1 1, [.int .i64 s17.2.1]⟩, ⟨95, 64, 1, .slice (some ⟨b9, 0, none⟩) 1 1, cellsT p35.2⟩]) := hO
          have hO := hO.drop 1
          have hO : Owns G61 w60 w0.heap.size ([⟨3, 1, y59.length, .slice aw60 y59.length cw60, clw60⟩, ⟨95, 64, 1, .slice (some ⟨b9, 0, none⟩) 1 1, cellsT p35.2⟩]) := hO
          refine WL_val (rn_assign (v := (.slice aw60 y59.length cw60)) rfl) rfl ?_; refine WL_nil ?_
          have hO : Owns G61 w60 w0.heap.size ([⟨3, 1, y59.length, .slice aw60 y59.length cw60, clw60⟩, ⟨95, 64, 1, .slice (some ⟨b9, 0, none⟩) 1 1, cellsT p35.2⟩]) := hO
          have H := Option.some.inj H; subst H
          have l2_5 := l2_4.trans leG61
          exact ⟨_, _, G61, aw60, y59.length, cw60, clw60, rfl, upds_self _ _ ⟨rfl, rfl, rfl, rfl, rfl, rfl, rfl, trivial⟩, l2_5, hS, hO, rfl, hrw60⟩
       ·rintro F w64 ⟨p25, Fb, G65, ap25_0, np25_0, cp25_0, clap25_0, rfl, rfl, leG65, hS, hO, hnhp25_0, hp25_0⟩
        refine WC_region ?_; refine WL_val (rn_add rfl rfl) rfl ?_; refine WL_val (rn_move (v := (.int .i64 (IntKind.i64.wrap (s17.2.1 + 1)))) rfl) rfl ?_; refine WL_nil ?_
        have hO : Owns G65 w64 w0.heap.size ([⟨3, 1, np25_0, .slice ap25_0 np25_0 cp25_0, clap25_0⟩, ⟨95, 64, 1, .slice (some ⟨b9, 0, none⟩) 1 1, cellsT p25.2⟩]) := hO
        have H := Option.some.inj H; subst H; refine ⟨_, rfl, ?_⟩
        have l1_3 := leG22.trans leG65
        exact ⟨_, G65, ap25_0, np25_0, cp25_0, clap25_0, upds_self _ _ ⟨rfl, rfl, rfl, rfl, rfl, rfl, rfl, trivial⟩, l1_3, hS, hO, hnhp25_0, hp25_0⟩
      ·have H := ifF hb23 H; refine WC_exit rfl ?_
       have hO : Owns G22 w21 w0.heap.size ([⟨3, 1, ns17_0, .slice as17_0 ns17_0 cs17_0, clas17_0⟩, ⟨95, 64, 1, .slice (some ⟨b9, 0, none⟩) 1 1, cellsT s17.2.2⟩]) := hO
       have H := Option.some.inj H; subst H
       have hres := hqq19 _ rfl
       subst hres
       exact ⟨_, _, G22, as17_0, ns17_0, cs17_0, clas17_0, rfl, upds_self _ _ ⟨rfl, rfl, trivial⟩, leG22, hS, hO, hnhs17_0, hs17_0⟩
    ·rintro F w67 ⟨p18, Fb, G68, ap18_0, np18_0, cp18_0, clap18_0, rfl, rfl, leG68, hS, hO, hnhp18_0, hp18_0⟩
     refine WC_seq ?_; refine WC_region ?_; refine WL_val (rn_loadA ag26 (cs := [.slice a1 n1 c1, .slice a2 n2 c2, .slice a3 n3 c3]) rfl rfl (fun j v hj => (hS.sat.le leG68).cell (hcb4.drop_take 0 3 j v hj))) rfl ?_; refine WL_op rfl (OpP_in1 (N' := 7) [.agg #[.slice a1 n1 c1, .slice a2 n2 c2, .slice a3 n3 c3]] cb52 Tryd.func52 rfl rfl rfl rfl rfl rfl ?_); refine WC_seq ?_; refine WC_region ?_; refine WL_op rfl (OpP_newF (v := fun b => .pointer (some ⟨b, 0, none⟩)) (cs := [.slice a1 n1 c1, .slice a2 n2 c2, .slice a3 n3 c3]) (e := 26) (rn_boxA rfl) hS.sat rfl (fun b69 G71 w70 hg hcb69 => ?_)); have hS := hS.grow hg; have hO := hO.grow hg
     have leG71 := hg.le
     refine WL_val (rn_assign (v := (.pointer none)) rfl) rfl ?_; refine WL_nil ?_; refine WC_seq ?_; refine WC_region ?_; refine WL_val (rn_loadA ag26 (cs := [.slice a1 n1 c1, .slice a2 n2 c2, .slice a3 n3 c3]) rfl rfl (fun j v hj => hS.sat.cell (hcb69.drop_take 0 3 j v hj))) rfl ?_; refine WL_op rfl (OpP_makeMap (e := 77) hS hO rfl (fun r72 w73 hS hO => ?_))
     have hO : Owns G71 w73 w0.heap.size ([⟨77, 2, ([] : (List (Int × Bool))).length, .map (some r72), kvs kvI vvB ([] : (List (Int × Bool)))⟩, ⟨3, 1, np18_0, .slice ap18_0 np18_0 cp18_0, clap18_0⟩, ⟨95, 64, 1, .slice (some ⟨b9, 0, none⟩) 1 1, cellsT p18.2⟩]) := hO
     refine WL_val (v := (.agg #[.slice a1 n1 c1, .slice a2 n2 c2, .slice a3 n3 c3, .map (some r72)])) (by kernel_rfl) rfl ?_
     refine WL_op rfl (OpP_newF (v := fun b => .pointer (some ⟨b, 0, none⟩)) (cs := [.slice a1 n1 c1, .slice a2 n2 c2, .slice a3 n3 c3, .map (some r72)]) (e := 107) (rn_boxA rfl) hS.sat rfl (fun b75 G77 w76 hg hcb75 => ?_)); have hS := hS.grow hg; have hO := hO.grow hg
     have leG77 := hg.le
     refine WL_val (rn_assign (v := (.pointer (some ⟨b75, 0, none⟩))) rfl) rfl ?_; refine WL_nil ?_; refine WC_ret ?_; refine ⟨(.pointer (some ⟨b75, 0, none⟩)), rfl, ?_⟩
     have hO : Owns G77 w76 w0.heap.size ([⟨77, 2, ([] : (List (Int × Bool))).length, .map (some r72), kvs kvI vvB ([] : (List (Int × Bool)))⟩, ⟨3, 1, np18_0, .slice ap18_0 np18_0 cp18_0, clap18_0⟩, ⟨95, 64, 1, .slice (some ⟨b9, 0, none⟩) 1 1, cellsT p18.2⟩]) := hO
     refine WL_val (rn_assign (v := (.pointer (some ⟨b75, 0, none⟩))) rfl) rfl ?_; refine WL_nil ?_; refine WC_seq ?_; refine WC_seq ?_; refine WC_region ?_; refine WL_val (rn_assign (v := (.int .i64 1)) rfl) rfl ?_; refine WL_nil ?_; obtain ⟨q80, hq80, H⟩ := bnd H; refine WC_cut (fun F w => ∃ (p79 : (Tb 64) × (List (Int × Bool))) (Fb : Fr) (G : Gm), q80 = .inl p79 ∧ F = upds Fb [(9, .slice ap18_0 np18_0 cp18_0)] ∧ Gle G77 G ∧ Since w0.heap.size G0 w0 G w ∧ Owns G w w0.heap.size [⟨77, 2, (p79.2).length, .map (some r72), kvs kvI vvB (p79.2)⟩, ⟨3, 1, np18_0, .slice ap18_0 np18_0 cp18_0, clap18_0⟩, ⟨95, 64, 1, .slice (some ⟨b9, 0, none⟩) 1 1, cellsT p79.1⟩]) ?_ ?_
     ·refine WC_block (WC_loop hq80 (fun s78 F w => ∃ (Fb : Fr) (G : Gm), F = upds Fb [(2, .pointer (some ⟨b4, 0, none⟩)), (9, .slice ap18_0 np18_0 cp18_0), (15, .pointer (some ⟨b75, 0, none⟩)), (16, .int .i64 s78.1)] ∧ Gle G77 G ∧ Since w0.heap.size G0 w0 G w ∧ Owns G w w0.heap.size [⟨77, 2, (s78.2.2).length, .map (some r72), kvs kvI vvB (s78.2.2)⟩, ⟨3, 1, np18_0, .slice ap18_0 np18_0 cp18_0, clap18_0⟩, ⟨95, 64, 1, .slice (some ⟨b9, 0, none⟩) 1 1, cellsT s78.2.1⟩]) ?_ ?_)
      ·have hO : Owns G77 w76 w0.heap.size ([⟨77, 2, ([] : (List (Int × Bool))).length, .map (some r72), kvs kvI vvB ([] : (List (Int × Bool)))⟩, ⟨3, 1, np18_0, .slice ap18_0 np18_0 cp18_0, clap18_0⟩, ⟨95, 64, 1, .slice (some ⟨b9, 0, none⟩) 1 1, cellsT p18.2⟩]) := hO
       exact ⟨_, G77, upds_self _ _ ⟨rfl, rfl, rfl, rfl, trivial⟩, Gle.refl _, hS, hO⟩
      ·rintro s78 F w82 t81 ⟨Fb, G83, rfl, leG83, hS, hO⟩
       intro H1 hqq80
       have Hoq80 := H; have H := H1
       unfold f35_b2 at H
       refine WC_seq ?_; refine WC_seq ?_; refine WC_region ?_; refine WL_val (rn_move (v := (.int .i64 s78.1)) rfl) rfl ?_; refine WL_val (rn_move (v := (.slice ap18_0 np18_0 cp18_0)) rfl) rfl ?_; refine WL_val (rn_len (m := p18.1.length) sl29 rfl rfl hnhp18_0) rfl ?_; refine WL_val (rn_lss rfl rfl) rfl ?_; refine WL_nil ?_; refine WC_cond rfl (fun hb84 => ?_) (fun hb84 => ?_)
       ·have H := ifT hb84 H; refine WC_skip ?_; refine WC_seq ?_; refine WC_block ?_; refine WC_seq ?_; have hS := hS.keep (below_drew _); have hO := hO.below (below_drew _)
        refine WC_regionD mixedO (fun _ w => Sat G83 w ∧ Owns G83 w w0.heap.size [⟨77, 2, (s78.2.2).length, .map (some r72), kvs kvI vvB (s78.2.2)⟩, ⟨3, 1, np18_0, .slice ap18_0 np18_0 cp18_0, clap18_0⟩, ⟨95, 64, 1, .slice (some ⟨b9, 0, none⟩) 1 1, cellsT s78.2.1⟩]) (.fl 0 (.fl 1 (.fl 2 (.fl 3 (.fl 4 (.fl 5 (.fl 6 (.fl 7 (.fl 8 (.fl 9 (.fl 10 (.fl 11 (.fl 12 (.on 13 (.on 14 (.on 15 (.on 16 (.on 17 (.on 18 (.on 19 (.on 20 (.on 21 .nil)))))))))))))))))))))) (by kernel_rfl) rfl (by kernel_rfl) (fun _ => ⟨hS.sat, hO⟩) ?_
        refine WD_val rfl (fun w hw => rn_move (v := (.pointer (some ⟨b75, 0, none⟩))) rfl) rfl ?_; refine WD_val rfl (fun w hw => rn_fld fd26_1 rfl) rfl ?_; refine WD_val rfl (fun w hw => rn_load na23 rfl ((hw.1.le (((leG68.trans leG71).trans leG77).trans leG83)).cell (hcb4 1 _ rfl))) rfl ?_; refine WD_val rfl (fun w hw => rn_move (v := (.slice ap18_0 np18_0 cp18_0)) rfl) rfl ?_; refine WD_val rfl (fun w hw => rn_move (v := (.int .i64 s78.1)) rfl) rfl ?_; obtain ⟨y85, hy85, H⟩ := bnd H
        have l2_5 := (leG71.trans leG77).trans leG83
        refine WD_idxO rfl sl29 hO (k := 1) rfl hnhp18_0 (hp18_0.mono RInt_mono l2_5) hy85 rfl rfl rfl ?_
        rintro b86 ob86 _ hb86 _ hcb86 ⟨⟩
        refine WD_val rfl (fun w hw => rn_load na3 rfl (own_cellB hw.2 (k := 1) rfl hb86 _ 0 (hcb86 0 _ rfl))) rfl ?_; obtain ⟨y87, hy87, H⟩ := bnd H
        have l0_5 := (leG6.trans leG68).trans l2_5
        refine WD_idx rfl sl23 (h2.mono RTLandEvent_mono l0_5) hy87 rfl rfl rfl ?_
        rintro b88 o88 _ hcb88 _ ⟨⟩
        refine WD_val rfl (fun w hw => rn_fld fd69_1 rfl) rfl ?_; refine WD_val rfl (fun w hw => rn_load na3 rfl (hw.1.cell (hcb88 1 _ rfl))) rfl ?_; refine WD_val rfl (fun w hw => rn_fld fd26_1 rfl) rfl ?_; refine WD_val rfl (fun w hw => rn_load na23 rfl ((hw.1.le (leG68.trans l2_5)).cell (hcb4 1 _ rfl))) rfl ?_; refine WD_val rfl (fun w hw => rn_move (v := (.slice ap18_0 np18_0 cp18_0)) rfl) rfl ?_; refine WD_op rfl rfl (OpP_val (rn_move (v := (.int .i64 s78.1)) rfl) rfl ?_); refine ⟨fun _ _ => ⟨hS.sat, hO⟩, ?_⟩; refine WD_op rfl rfl (OpP_val (rn_sub rfl rfl) rfl ?_); refine ⟨fun _ _ => ⟨hS.sat, hO⟩, ?_⟩; obtain ⟨y89, hy89, H⟩ := bnd H; refine WD_op rfl rfl (OpP_idxO sl29 hO (k := 1) rfl hnhp18_0 (hp18_0.mono RInt_mono l2_5) hy89 rfl rfl rfl ?_)
        rintro b90 ob90 _ hb90 _ hcb90 ⟨⟩
        refine ⟨fun _ _ => ⟨hS.sat, hO⟩, ?_⟩; refine WD_op rfl rfl (OpP_val (rn_load na3 rfl (own_cellB hO (k := 1) rfl hb90 _ 0 (hcb90 0 _ rfl))) rfl ?_); refine ⟨fun _ _ => ⟨hS.sat, hO⟩, ?_⟩; obtain ⟨y91, hy91, H⟩ := bnd H; refine WD_op rfl rfl (OpP_idx sl23 (h2.mono RTLandEvent_mono l0_5) hy91 rfl rfl rfl ?_)
        rintro b92 o92 _ hcb92 _ ⟨⟩
        refine ⟨fun _ _ => ⟨hS.sat, hO⟩, ?_⟩; refine WD_op rfl rfl (OpP_val (rn_fld fd69_1 rfl) rfl ?_); refine ⟨fun _ _ => ⟨hS.sat, hO⟩, ?_⟩; refine WD_op rfl rfl (OpP_val (rn_load na3 rfl (hS.sat.cell (hcb92 1 _ rfl))) rfl ?_); refine ⟨fun _ _ => ⟨hS.sat, hO⟩, ?_⟩; obtain ⟨y93, hy93, H⟩ := bnd H
        have hx95 := f73_ok (x0 := x0) (x1 := y87.Holder) (x2 := y91.Holder) hS.sat (hcb75.mono leG83) (h1.mono RTLandPerson_mono l0_5) (h2.mono RTLandEvent_mono l0_5) (h3.mono RTLandMemory_mono l0_5) hy93
        refine WD_op rfl rfl (OpP_callV cb73 hx95 rfl rfl (fun w94 hb => ?_)); have hS := hS.keep hb; have hO := hO.below hb
        refine ⟨fun _ h => noneed (by kernel_rfl) h, ?_⟩
        refine WD_op rfl rfl (OpP_val (rn_not rfl) rfl ?_)
        refine ⟨fun _ h => noneed (by kernel_rfl) h, ?_⟩
        refine WD_nil ?_; refine WC_cond rfl (fun hb96 => ?_) (fun hb96 => ?_)
        ·have H := ifT hb96 H; refine WC_seq ?_; refine WC_region ?_; refine WL_val (rn_move (v := (.slice ap18_0 np18_0 cp18_0)) rfl) rfl ?_; refine WL_val (rn_move (v := (.int .i64 s78.1)) rfl) rfl ?_; refine WL_val (rn_assign (v := (.slice ap18_0 np18_0 cp18_0)) rfl) rfl ?_; refine WL_val (rn_assign (v := (.int .i64 s78.1)) rfl) rfl ?_; refine WL_val (rn_assign (v := (.int .i64 0)) rfl) rfl ?_; refine WL_nil ?_; refine WC_ret ?_; obtain ⟨G97, leG97, hS, hO, hfG97⟩ := hO.freezeS hS RInt_mono (k := 1) rfl (hp18_0.mono RInt_mono l2_5) hnhp18_0; have H := Option.some.inj H; subst H
         have hres := hqq80 _ rfl
         subst hres; have H := Hoq80
         have H : some (p18.1, s78.1, 0) = some r := H
         have H := Option.some.inj H; subst H
         exact ⟨_, _, rfl, hS.toGrow, _, _, _, rfl, hfG97⟩
        ·have H := ifF hb96 H; refine WC_skip ?_; refine WC_region ?_; refine WL_val (rn_move (v := (.int .i64 s78.1)) rfl) rfl ?_; refine WL_val (rn_add rfl rfl) rfl ?_; refine WL_val (rn_assign (v := (.int .i64 (IntKind.i64.wrap (s78.1 + 1)))) rfl) rfl ?_; refine WL_nil ?_
         have hO : Owns G83 w94 w0.heap.size ([⟨77, 2, (s78.2.2).length, .map (some r72), kvs kvI vvB (s78.2.2)⟩, ⟨3, 1, np18_0, .slice ap18_0 np18_0 cp18_0, clap18_0⟩, ⟨95, 64, 1, .slice (some ⟨b9, 0, none⟩) 1 1, cellsT s78.2.1⟩]) := hO
         have H := Option.some.inj H; subst H; refine ⟨_, rfl, ?_⟩
         exact ⟨_, G83, upds_self _ _ ⟨rfl, rfl, rfl, rfl, trivial⟩, leG83, hS, hO⟩
       ·have H := ifF hb84 H; refine WC_exit rfl ?_
        have hO : Owns G83 w82 w0.heap.size ([⟨77, 2, (s78.2.2).length, .map (some r72), kvs kvI vvB (s78.2.2)⟩, ⟨3, 1, np18_0, .slice ap18_0 np18_0 cp18_0, clap18_0⟩, ⟨95, 64, 1, .slice (some ⟨b9, 0, none⟩) 1 1, cellsT s78.2.1⟩]) := hO
        have H := Option.some.inj H; subst H
        have hres := hqq80 _ rfl
        subst hres
        exact ⟨_, _, G83, rfl, upds_self _ _ ⟨rfl, trivial⟩, leG83, hS, hO⟩
     ·rintro F w98 ⟨p79, Fb, G99, rfl, rfl, leG99, hS, hO⟩
      refine WC_seq ?_; refine WC_region ?_; refine WL_val (rn_move (v := (.slice ap18_0 np18_0 cp18_0)) rfl) rfl ?_; refine WL_val (rn_assign (v := (.slice ap18_0 np18_0 cp18_0)) rfl) rfl ?_; refine WL_val (rn_assign (v := (.int .i64 (-1))) rfl) rfl ?_; refine WL_val (rn_assign (v := (.int .i64 0)) rfl) rfl ?_; refine WL_nil ?_; refine WC_ret ?_
      have l2_5 := (leG71.trans leG77).trans leG99
      obtain ⟨G100, leG100, hS, hO, hfG100⟩ := hO.freezeS hS RInt_mono (k := 1) rfl (hp18_0.mono RInt_mono l2_5) hnhp18_0
      have H : some (p18.1, (-1), 0) = some r := H
      have H := Option.some.inj H; subst H
      exact ⟨_, _, rfl, hS.toGrow, _, _, _, rfl, hfG100⟩
 ·refine WD_op rfl rfl (OpP_newO (v := fun b => .pointer (some ⟨b, 0, none⟩)) (cs := (cellsT (Tb.zero 64))) (e := 95) (by kernel_rfl) hS.sat hO rfl 64 1 (cellsT_len _) (by decide) (fun b7 w8 hb hO => ?_))
  have hS := hS.keep hb; refine ⟨fun _ _ => ⟨hS.sat, trivial⟩, ?_⟩; obtain ⟨y10, hy10, H⟩ := bnd H; refine WD_op rfl rfl (OpP_callV cb66 (f66_ok (x0 := x1) (x1 := 0) (x2 := 5) hS.sat  hy10) rfl rfl (fun w11 hb => ?_)); have hS := hS.keep hb; have hO := hO.below hb; refine ⟨fun _ _ => ⟨hS.sat, trivial⟩, ?_⟩; obtain ⟨y12, hy12, H⟩ := bnd H; refine WD_op rfl rfl (OpP_callV cb69 (f69_ok (x0 := x0) (x1 := y10) hS.sat (h1.mono RTLandPerson_mono leG6) (h2.mono RTLandEvent_mono leG6) (h3.mono RTLandMemory_mono leG6) hy12) rfl rfl (fun w13 hb => ?_)); have hS := hS.keep hb; have hO := hO.below hb; refine ⟨fun _ _ => ⟨hS.sat, trivial⟩, ?_⟩; refine WD_op rfl rfl (OpP_val (rn_move (v := (.tuple #[.agg (cellsT y12.1).toArray, .int .i64 y12.2])) rfl) rfl ?_); refine ⟨fun _ _ => ⟨hS.sat, trivial⟩, ?_⟩; refine WD_val rfl (fun w hw => rn_extract (v := (.agg (cellsT y12.1).toArray)) rfl rfl) rfl ?_; refine WD_val rfl (fun w hw => rn_extract (v := (.int .i64 y12.2)) rfl rfl) rfl ?_; refine WD_op rfl rfl (OpP_storeTT sz95 hS hO (k := 0) rfl rfl rfl (fun w14 hS hO => ?_))
  have hO : Owns G6 w14 w0.heap.size ([⟨95, 64, 1, .slice (some ⟨b7, 0, none⟩) 1 1, cellsT y12.1⟩]) := hO
  refine ⟨fun _ _ => ⟨hS.sat, trivial⟩, ?_⟩; refine WD_op rfl rfl (OpP_val (rn_assign (v := (.int .i64 y12.2)) rfl) rfl ?_)
  refine ⟨fun _ h => noneed (by kernel_rfl) h, ?_⟩
  refine WD_nil ?_; refine WC_seq ?_; refine WC_seq ?_; refine WC_region ?_; refine WL_val (rn_move (v := (.int .i64 y12.2)) rfl) rfl ?_; refine WL_val (rn_neq rfl rfl) rfl ?_; refine WL_nil ?_; refine WC_cond rfl (fun hb15 => ?_) (fun hb15 => ?_)
  ·have H := ifT hb15 H; refine WC_seq ?_; refine WC_region ?_; refine WL_val (rn_move (v := (.int .i64 y12.2)) rfl) rfl ?_; refine WL_val (rn_assign (v := (.slice none 0 0)) rfl) rfl ?_; refine WL_val (rn_assign (v := (.int .i64 0)) rfl) rfl ?_; refine WL_val (rn_assign (v := (.int .i64 y12.2)) rfl) rfl ?_; refine WL_nil ?_; refine WC_ret ?_
   have H : some ([], 0, y12.2) = some r := H
   have H := Option.some.inj H; subst H
   exact ⟨_, _, rfl, hS.toGrow, _, _, _, rfl, (RSl.nil RInt 1 G6 none)⟩
  ·have H := ifF hb15 H; refine WC_skip ?_; refine WC_seq ?_; refine WC_region ?_; refine WL_val (rn_assign (v := (.slice none 0 0)) rfl) rfl ?_; refine WL_nil ?_; refine WC_seq ?_; refine WC_seq ?_; refine WC_region ?_; refine WL_val (rn_fld fd26_1 rfl) rfl ?_; refine WL_val (rn_load na23 rfl (hS.sat.cell (hcb4 1 _ rfl))) rfl ?_; refine WL_val (rn_len sl23 rfl rfl (h2.mono RTLandEvent_mono leG6).1) rfl ?_; refine WL_val (rn_move (v := (.int .i64 0)) rfl) rfl ?_; refine WL_nil ?_; have hO := hO.cons_nil 3 1; obtain ⟨q19, hq19, H⟩ := bnd H; refine WC_cut (fun F w => ∃ (p18 : (List Int) × (Tb 64)) (Fb : Fr) (G : Gm) (ap18_0 : Option Addr) (np18_0 cp18_0 : Nat) (clap18_0 : List Value), q19 = .inl p18 ∧ F = upds Fb [(2, .pointer (some ⟨b4, 0, none⟩)), (9, .slice ap18_0 np18_0 cp18_0)] ∧ Gle G6 G ∧ Since w0.heap.size G0 w0 G w ∧ Owns G w w0.heap.size [⟨3, 1, np18_0, .slice ap18_0 np18_0 cp18_0, clap18_0⟩, ⟨95, 64, 1, .slice (some ⟨b7, 0, none⟩) 1 1, cellsT p18.2⟩] ∧ np18_0 = p18.1.length ∧ Rd RInt 1 G clap18_0 p18.1) ?_ ?_
   ·refine WC_block (WC_loop hq19 (fun s17 F w => ∃ (Fb : Fr) (G : Gm) (as17_0 : Option Addr) (ns17_0 cs17_0 : Nat) (clas17_0 : List Value), F = upds Fb [(1, .int .i64 x1), (2, .pointer (some ⟨b4, 0, none⟩)), (7, .pointer (some ⟨b7, 0, none⟩)), (9, .slice as17_0 ns17_0 cs17_0), (28, .slice a2 n2 c2), (29, .int .i64 (x0.Events.length : Int)), (30, .int .i64 s17.2.1)] ∧ Gle G6 G ∧ Since w0.heap.size G0 w0 G w ∧ Owns G w w0.heap.size [⟨3, 1, ns17_0, .slice as17_0 ns17_0 cs17_0, clas17_0⟩, ⟨95, 64, 1, .slice (some ⟨b7, 0, none⟩) 1 1, cellsT s17.2.2⟩] ∧ ns17_0 = s17.1.length ∧ Rd RInt 1 G clas17_0 s17.1) ?_ ?_)
    ·have hO : Owns G6 w14 w0.heap.size ([⟨3, 1, 0, .slice none 0 0, []⟩, ⟨95, 64, 1, .slice (some ⟨b7, 0, none⟩) 1 1, cellsT y12.1⟩]) := hO
     exact ⟨_, G6, none, 0, 0, [], upds_self _ _ ⟨rfl, rfl, rfl, rfl, rfl, rfl, rfl, trivial⟩, Gle.refl _, hS, hO, rfl, (Rd.nil RInt 1 G6)⟩
    ·rintro s17 F w21 t20 ⟨Fb, G22, as17_0, ns17_0, cs17_0, clas17_0, rfl, leG22, hS, hO, hnhs17_0, hs17_0⟩
     intro H1 hqq19
     have Hoq19 := H; have H := H1
     unfold f35_b0 at H
     refine WC_seq ?_; refine WC_region ?_; refine WL_val (rn_lss rfl rfl) rfl ?_; refine WL_nil ?_; refine WC_seq ?_; refine WC_cond rfl (fun hb23 => ?_) (fun hb23 => ?_)
     ·have H := ifT hb23 H; refine WC_skip ?_; refine WC_seq ?_; obtain ⟨q24, hq24, H⟩ := bnd H; refine WC_cut (fun F w => ∃ (p25 : (List Int) × (Tb 64)) (Fb : Fr) (G : Gm) (ap25_0 : Option Addr) (np25_0 cp25_0 : Nat) (clap25_0 : List Value), q24 = .inl p25 ∧ F = upds Fb [(1, .int .i64 x1), (2, .pointer (some ⟨b4, 0, none⟩)), (7, .pointer (some ⟨b7, 0, none⟩)), (9, .slice ap25_0 np25_0 cp25_0), (28, .slice a2 n2 c2), (29, .int .i64 (x0.Events.length : Int)), (30, .int .i64 s17.2.1)] ∧ Gle G22 G ∧ Since w0.heap.size G0 w0 G w ∧ Owns G w w0.heap.size [⟨3, 1, np25_0, .slice ap25_0 np25_0 cp25_0, clap25_0⟩, ⟨95, 64, 1, .slice (some ⟨b7, 0, none⟩) 1 1, cellsT p25.2⟩] ∧ np25_0 = p25.1.length ∧ Rd RInt 1 G clap25_0 p25.1) ?_ ?_
      ·have Hoq24 := H; have H := hq24; refine WC_block ?_; refine WC_seq ?_; refine WC_region ?_; refine WL_val (rn_move (v := (.int .i64 s17.2.1)) rfl) rfl ?_; obtain ⟨y26, hy26, H⟩ := bnd H
       have l0_2 := leG6.trans leG22
       refine WL_idx sl23 (h2.mono RTLandEvent_mono l0_2) hy26 rfl rfl rfl ?_
       rintro b27 o27 _ hcb27 _ ⟨⟩
       refine WL_val (rn_loadA ag69 (cs := [.int .i64 y26.Strip, .int .i64 y26.Holder]) rfl rfl (fun j v hj => hS.sat.cell (hcb27.drop_take 0 2 j v hj))) rfl ?_
       refine WL_op rfl (OpP_newO (v := fun b => .pointer (some ⟨b, 0, none⟩)) (cs := [.int .i64 0, .int .i64 0]) (e := 69) (by kernel_rfl) hS.sat hO rfl 2 1 rfl (by decide) (fun b28 w29 hb hO => ?_))
       have hS := hS.keep hb; refine WL_val (rn_assign (v := (.int .i64 s17.2.1)) rfl) rfl ?_; refine WL_op rfl (OpP_store (vs := [.int .i64 y26.Strip, .int .i64 y26.Holder]) sz69 hS hO (k := 0) rfl rfl rfl rfl rfl (one_all rfl) (Nat.le_of_ble_eq_true rfl) (fun w31 hS hO => ?_))
       have hO : Owns G22 w31 w0.heap.size ([⟨69, 2, 1, .slice (some ⟨b28, 0, none⟩) 1 1, [.int .i64 y26.Strip, .int .i64 y26.Holder]⟩, ⟨3, 1, ns17_0, .slice as17_0 ns17_0 cs17_0, clas17_0⟩, ⟨95, 64, 1, .slice (some ⟨b7, 0, none⟩) 1 1, cellsT s17.2.2⟩]) := hO
       obtain ⟨G32, leG32, hS, hO, hqG32, _⟩ := hO.freeze hS (k := 0) rfl
       have hcG32 : Cells G32 b28 0 [.int .i64 y26.Strip, .int .i64 y26.Holder] := (hqG32 _ _ _ _ rfl)
       refine WL_nil ?_; refine WC_seq ?_; refine WC_seq ?_; refine WC_region ?_; refine WL_val (rn_fld fd69_0 rfl) rfl ?_; refine WL_val (rn_load na3 rfl (hS.sat.cell (hcG32 0 _ rfl))) rfl ?_; refine WL_val (rn_move (v := (.int .i64 x1)) rfl) rfl ?_; refine WL_val (rn_neq rfl rfl) rfl ?_; refine WL_nil ?_; refine WC_cond rfl (fun hb33 => ?_) (fun hb33 => ?_)
       ·have H := ifT hb33 H; refine WC_exit rfl ?_
        have hO : Owns G32 w31 w0.heap.size ([⟨3, 1, ns17_0, .slice as17_0 ns17_0 cs17_0, clas17_0⟩, ⟨95, 64, 1, .slice (some ⟨b7, 0, none⟩) 1 1, cellsT s17.2.2⟩]) := hO
        have H := Option.some.inj H; subst H
        exact ⟨_, _, G32, as17_0, ns17_0, cs17_0, clas17_0, rfl, upds_self _ _ ⟨rfl, rfl, rfl, rfl, rfl, rfl, rfl, trivial⟩, leG32, hS, hO, hnhs17_0, (hs17_0.mono RInt_mono leG32)⟩
       ·have H := ifF hb33 H; refine WC_skip ?_; refine WC_seq ?_; refine WC_region ?_; refine WL_val (rn_move (v := (.slice as17_0 ns17_0 cs17_0)) rfl) rfl ?_; refine WL_val (rn_len (m := s17.1.length) sl29 rfl rfl hnhs17_0) rfl ?_; refine WL_val (rn_assign (v := (.int .i64 (s17.1.length : Int))) rfl) rfl ?_; refine WL_nil ?_; refine WC_seq ?_; refine WC_seq ?_; refine WC_region ?_; refine WL_val (rn_move (v := (.slice as17_0 ns17_0 cs17_0)) rfl) rfl ?_; refine WL_val (rn_len (m := s17.1.length) sl29 rfl rfl hnhs17_0) rfl ?_; refine WL_val (rn_move (v := (.int .i64 0)) rfl) rfl ?_; refine WL_nil ?_; obtain ⟨q36, hq36, H⟩ := bnd H; refine WC_cut (fun F w => ∃ (p35 : Int × (Tb 64)) (Fb : Fr) (G : Gm), q36 = .inl p35 ∧ F = upds Fb [(1, .int .i64 x1), (2, .pointer (some ⟨b4, 0, none⟩)), (7, .pointer (some ⟨b7, 0, none⟩)), (9, .slice as17_0 ns17_0 cs17_0), (10, .int .i64 s17.2.1), (12, .int .i64 p35.1), (28, .slice a2 n2 c2), (29, .int .i64 (x0.Events.length : Int)), (30, .int .i64 s17.2.1)] ∧ Gle G32 G ∧ Since w0.heap.size G0 w0 G w ∧ Owns G w w0.heap.size [⟨3, 1, ns17_0, .slice as17_0 ns17_0 cs17_0, clas17_0⟩, ⟨95, 64, 1, .slice (some ⟨b7, 0, none⟩) 1 1, cellsT p35.2⟩]) ?_ ?_
        ·refine WC_block (WC_loop hq36 (fun s34 F w => ∃ (Fb : Fr) (G : Gm), F = upds Fb [(1, .int .i64 x1), (2, .pointer (some ⟨b4, 0, none⟩)), (7, .pointer (some ⟨b7, 0, none⟩)), (9, .slice as17_0 ns17_0 cs17_0), (10, .int .i64 s17.2.1), (12, .int .i64 s34.1), (28, .slice a2 n2 c2), (29, .int .i64 (x0.Events.length : Int)), (30, .int .i64 s17.2.1), (41, .slice as17_0 ns17_0 cs17_0), (42, .int .i64 (s17.1.length : Int)), (43, .int .i64 s34.2.1)] ∧ Gle G32 G ∧ Since w0.heap.size G0 w0 G w ∧ Owns G w w0.heap.size [⟨3, 1, ns17_0, .slice as17_0 ns17_0 cs17_0, clas17_0⟩, ⟨95, 64, 1, .slice (some ⟨b7, 0, none⟩) 1 1, cellsT s34.2.2⟩]) ?_ ?_)
         ·have hO : Owns G32 w31 w0.heap.size ([⟨3, 1, ns17_0, .slice as17_0 ns17_0 cs17_0, clas17_0⟩, ⟨95, 64, 1, .slice (some ⟨b7, 0, none⟩) 1 1, cellsT s17.2.2⟩]) := hO
          exact ⟨_, G32, upds_self _ _ ⟨rfl, rfl, rfl, rfl, rfl, rfl, rfl, rfl, rfl, rfl, rfl, rfl, trivial⟩, Gle.refl _, hS, hO⟩
         ·rintro s34 F w38 t37 ⟨Fb, G39, rfl, leG39, hS, hO⟩
          intro H1 hqq36
          have Hoq36 := H; have H := H1
          unfold f35_b1 at H
          refine WC_seq ?_; refine WC_region ?_; refine WL_val (rn_lss rfl rfl) rfl ?_; refine WL_nil ?_; refine WC_seq ?_; refine WC_cond rfl (fun hb40 => ?_) (fun hb40 => ?_)
          ·have H := ifT hb40 H; refine WC_skip ?_; refine WC_seq ?_; obtain ⟨q41, hq41, H⟩ := bnd H; refine WC_cut (fun F w => ∃ (p42 : Int) (Fb : Fr) (G : Gm), q41 = .inl p42 ∧ F = upds Fb [(1, .int .i64 x1), (2, .pointer (some ⟨b4, 0, none⟩)), (7, .pointer (some ⟨b7, 0, none⟩)), (9, .slice as17_0 ns17_0 cs17_0), (10, .int .i64 s17.2.1), (12, .int .i64 p42), (28, .slice a2 n2 c2), (29, .int .i64 (x0.Events.length : Int)), (30, .int .i64 s17.2.1), (41, .slice as17_0 ns17_0 cs17_0), (42, .int .i64 (s17.1.length : Int)), (43, .int .i64 s34.2.1)] ∧ Gle G39 G ∧ Since w0.heap.size G0 w0 G w ∧ Owns G w w0.heap.size [⟨3, 1, ns17_0, .slice as17_0 ns17_0 cs17_0, clas17_0⟩, ⟨95, 64, 1, .slice (some ⟨b7, 0, none⟩) 1 1, cellsT s34.2.2⟩]) ?_ ?_
           ·have Hoq41 := H; have H := hq41; refine WC_block ?_; refine WC_seq ?_; refine WC_region ?_; refine WL_val (rn_move (v := (.int .i64 s34.2.1)) rfl) rfl ?_; obtain ⟨y43, hy43, H⟩ := bnd H
            have l2_4 := leG32.trans leG39
            refine WL_idxO sl29 hO (k := 0) rfl hnhs17_0 (hs17_0.mono RInt_mono l2_4) hy43 rfl rfl rfl ?_
            rintro b44 ob44 _ hb44 _ hcb44 ⟨⟩
            refine WL_val (rn_load na3 rfl (own_cellB hO (k := 0) rfl hb44 _ 0 (hcb44 0 _ rfl))) rfl ?_; refine WL_val (rn_assign (v := (.int .i64 s34.2.1)) rfl) rfl ?_; refine WL_val (rn_assign (v := (.int .i64 y43)) rfl) rfl ?_; refine WL_nil ?_; refine WC_block ?_; refine WC_seq ?_; refine WC_region ?_; refine WL_val (rn_loadT ag95 hO (k := 1) rfl rfl) rfl ?_; refine WL_val (rn_move (v := (.int .i64 s17.2.1)) rfl) rfl ?_; refine WL_val (rn_move (v := (.int .i64 y43)) rfl) rfl ?_; obtain ⟨y45, hy45, H⟩ := bnd H; refine WL_op rfl (OpP_callV cb70 (f70_ok (x0 := s34.2.2) (x1 := s17.2.1) (x2 := y43) hS.sat  hy45) rfl rfl (fun w46 hb => ?_)); have hS := hS.keep hb; have hO := hO.below hb
            refine WL_val (v := (.int .i64 y45.Low)) (by kernel_rfl) rfl ?_
            refine WL_val (rn_gtr rfl rfl) rfl ?_; refine WL_val (rn_assign (v := (.bool (decide (0 < y45.Low)))) rfl) rfl ?_; refine WL_nil ?_; refine WC_cond rfl (fun hb47 => ?_) (fun hb47 => ?_)
            ·have H := ifT hb47 H; refine WC_region ?_; refine WL_val (rn_move (v := (.int .i64 s34.1)) rfl) rfl ?_; refine WL_val (rn_move (v := (.int .i64 s34.2.1)) rfl) rfl ?_; refine WL_val (rn_min rfl rfl) rfl ?_; refine WL_val (rn_assign (v := (.int .i64 (if s34.2.1 < s34.1 then s34.2.1 else s34.1))) rfl) rfl ?_; refine WL_nil ?_
             have hO : Owns G39 w46 w0.heap.size ([⟨3, 1, ns17_0, .slice as17_0 ns17_0 cs17_0, clas17_0⟩, ⟨95, 64, 1, .slice (some ⟨b7, 0, none⟩) 1 1, cellsT s34.2.2⟩]) := hO
             have H := Option.some.inj H; subst H
             exact ⟨_, _, G39, rfl, upds_self _ _ ⟨rfl, rfl, rfl, rfl, rfl, rfl, rfl, rfl, rfl, rfl, rfl, rfl, trivial⟩, Gle.refl _, hS, hO⟩
            ·have H := ifF hb47 H; refine WC_seq ?_; refine WC_region ?_; refine WL_val (rn_loadT ag95 hO (k := 1) rfl rfl) rfl ?_; refine WL_val (rn_move (v := (.int .i64 y43)) rfl) rfl ?_; refine WL_val (rn_move (v := (.int .i64 s17.2.1)) rfl) rfl ?_; obtain ⟨y48, hy48, H⟩ := bnd H; refine WL_op rfl (OpP_callV cb70 (f70_ok (x0 := s34.2.2) (x1 := y43) (x2 := s17.2.1) hS.sat  hy48) rfl rfl (fun w49 hb => ?_)); have hS := hS.keep hb; have hO := hO.below hb
             refine WL_val (v := (.int .i64 y48.Low)) (by kernel_rfl) rfl ?_
             refine WL_val (rn_leq rfl rfl) rfl ?_; refine WL_val (rn_assign (v := (.bool (decide (y48.Low ≤ 0)))) rfl) rfl ?_; refine WL_nil ?_; refine WC_cond rfl (fun hb50 => ?_) (fun hb50 => ?_)
             ·have H := ifT hb50 H; refine WC_seq ?_; refine WC_region ?_; refine WL_val (rn_assign (v := (.slice none 0 0)) rfl) rfl ?_; refine WL_val (rn_assign (v := (.int .i64 0)) rfl) rfl ?_; refine WL_val (rn_assign (v := (.int .i64 8)) rfl) rfl ?_; refine WL_nil ?_; refine WC_ret ?_; have H := Option.some.inj H; subst H; have H := Hoq41; have H := Option.some.inj H; subst H
              have hres := hqq36 _ rfl
              subst hres; have H := Hoq36; have H := Option.some.inj H; subst H; have H := Hoq24; have H := Option.some.inj H; subst H
              have hres := hqq19 _ rfl
              subst hres; have H := Hoq19
              have H : some ([], 0, 8) = some r := H
              have H := Option.some.inj H; subst H
              exact ⟨_, _, rfl, hS.toGrow, _, _, _, rfl, (RSl.nil RInt 1 G39 none)⟩
             ·have H := ifF hb50 H; refine WC_skip ?_
              have hO : Owns G39 w49 w0.heap.size ([⟨3, 1, ns17_0, .slice as17_0 ns17_0 cs17_0, clas17_0⟩, ⟨95, 64, 1, .slice (some ⟨b7, 0, none⟩) 1 1, cellsT s34.2.2⟩]) := hO
              have H := Option.some.inj H; subst H
              exact ⟨_, _, G39, rfl, upds_self _ _ ⟨rfl, rfl, rfl, rfl, rfl, rfl, rfl, rfl, rfl, rfl, rfl, rfl, trivial⟩, Gle.refl _, hS, hO⟩
           ·rintro F w51 ⟨p42, Fb, G52, rfl, rfl, leG52, hS, hO⟩
            refine WC_region ?_; refine WL_val (rn_add rfl rfl) rfl ?_; refine WL_val (rn_move (v := (.int .i64 (IntKind.i64.wrap (s34.2.1 + 1)))) rfl) rfl ?_; refine WL_nil ?_
            have hO : Owns G52 w51 w0.heap.size ([⟨3, 1, ns17_0, .slice as17_0 ns17_0 cs17_0, clas17_0⟩, ⟨95, 64, 1, .slice (some ⟨b7, 0, none⟩) 1 1, cellsT s34.2.2⟩]) := hO
            have H := Option.some.inj H; subst H; refine ⟨_, rfl, ?_⟩
            have l3_5 := leG39.trans leG52
            exact ⟨_, G52, upds_self _ _ ⟨rfl, rfl, rfl, rfl, rfl, rfl, rfl, rfl, rfl, rfl, rfl, rfl, trivial⟩, l3_5, hS, hO⟩
          ·have H := ifF hb40 H; refine WC_exit rfl ?_
           have hO : Owns G39 w38 w0.heap.size ([⟨3, 1, ns17_0, .slice as17_0 ns17_0 cs17_0, clas17_0⟩, ⟨95, 64, 1, .slice (some ⟨b7, 0, none⟩) 1 1, cellsT s34.2.2⟩]) := hO
           have H := Option.some.inj H; subst H
           have hres := hqq36 _ rfl
           subst hres
           exact ⟨_, _, G39, rfl, upds_self _ _ ⟨rfl, rfl, rfl, rfl, rfl, rfl, rfl, rfl, rfl, trivial⟩, leG39, hS, hO⟩
        ·rintro F w54 ⟨p35, Fb, G55, rfl, rfl, leG55, hS, hO⟩
         refine WC_region ?_; refine WL_val (rn_move (v := (.slice as17_0 ns17_0 cs17_0)) rfl) rfl ?_; refine WL_val (rn_move (v := (.int .i64 p35.1)) rfl) rfl ?_; refine WL_val (rn_move (v := (.int .i64 s17.2.1)) rfl) rfl ?_
         refine WL_op rfl (OpP_newO (v := fun b => .slice (some ⟨b, 0, none⟩) 1 1) (cs := [.int .i64 s17.2.1]) (e := 3) (by kernel_rfl) hS.sat hO rfl 1 1 rfl (by decide) (fun b56 w57 hb hO => ?_))
         have hS := hS.keep hb
         have hrb56 : Rd RInt 1 G55 [.int .i64 s17.2.1] [s17.2.1] := (Rd.cons (c := [.int .i64 s17.2.1]) rfl rfl (Rd.nil RInt 1 _))
         have hO := hO.front (k := 0) rfl; have hO := hO.front (k := 1) rfl
         have hO : Owns G55 w57 w0.heap.size ([⟨3, 1, ns17_0, .slice as17_0 ns17_0 cs17_0, clas17_0⟩, ⟨3, 1, 1, .slice (some ⟨b56, 0, none⟩) 1 1, [.int .i64 s17.2.1]⟩, ⟨95, 64, 1, .slice (some ⟨b7, 0, none⟩) 1 1, cellsT p35.2⟩]) := hO
         obtain ⟨y59, hy59, H⟩ := bnd H
         have l2_4 := leG32.trans leG55
         refine WL_op rfl (OpP_lent (fi := []) (al := [.slice as17_0 ns17_0 cs17_0, .int .i64 p35.1, .slice (some ⟨b56, 0, none⟩) 1 1]) (ca := []) cb72 (f72_ok (i := p35.1) (x := s17.2.1) hS hO hnhs17_0 (hs17_0.mono RInt_mono l2_4) hy59) rfl rfl rfl (fun vG61 G61 w60 L62 leG61 hS hO hvG61 => ?_)); obtain ⟨aw60, cw60, clw60, rfl, rfl, hrw60⟩ := hvG61
         have hO : Owns G61 w60 w0.heap.size ([⟨3, 1, y59.length, .slice aw60 y59.length cw60, clw60⟩, ⟨3, 1, 1, .slice (some ⟨b56, 0, none⟩) 1 1, [.int .i64 s17.2.1]⟩, ⟨95, 64, 1, .slice (some ⟨b7, 0, none⟩) 1 1, cellsT p35.2⟩]) := hO
         have hO := hO.drop 1
         have hO : Owns G61 w60 w0.heap.size ([⟨3, 1, y59.length, .slice aw60 y59.length cw60, clw60⟩, ⟨95, 64, 1, .slice (some ⟨b7, 0, none⟩) 1 1, cellsT p35.2⟩]) := hO
         refine WL_val (rn_assign (v := (.slice aw60 y59.length cw60)) rfl) rfl ?_; refine WL_nil ?_
         have hO : Owns G61 w60 w0.heap.size ([⟨3, 1, y59.length, .slice aw60 y59.length cw60, clw60⟩, ⟨95, 64, 1, .slice (some ⟨b7, 0, none⟩) 1 1, cellsT p35.2⟩]) := hO
         have H := Option.some.inj H; subst H
         have l2_5 := l2_4.trans leG61
         exact ⟨_, _, G61, aw60, y59.length, cw60, clw60, rfl, upds_self _ _ ⟨rfl, rfl, rfl, rfl, rfl, rfl, rfl, trivial⟩, l2_5, hS, hO, rfl, hrw60⟩
      ·rintro F w64 ⟨p25, Fb, G65, ap25_0, np25_0, cp25_0, clap25_0, rfl, rfl, leG65, hS, hO, hnhp25_0, hp25_0⟩
       refine WC_region ?_; refine WL_val (rn_add rfl rfl) rfl ?_; refine WL_val (rn_move (v := (.int .i64 (IntKind.i64.wrap (s17.2.1 + 1)))) rfl) rfl ?_; refine WL_nil ?_
       have hO : Owns G65 w64 w0.heap.size ([⟨3, 1, np25_0, .slice ap25_0 np25_0 cp25_0, clap25_0⟩, ⟨95, 64, 1, .slice (some ⟨b7, 0, none⟩) 1 1, cellsT p25.2⟩]) := hO
       have H := Option.some.inj H; subst H; refine ⟨_, rfl, ?_⟩
       have l1_3 := leG22.trans leG65
       exact ⟨_, G65, ap25_0, np25_0, cp25_0, clap25_0, upds_self _ _ ⟨rfl, rfl, rfl, rfl, rfl, rfl, rfl, trivial⟩, l1_3, hS, hO, hnhp25_0, hp25_0⟩
     ·have H := ifF hb23 H; refine WC_exit rfl ?_
      have hO : Owns G22 w21 w0.heap.size ([⟨3, 1, ns17_0, .slice as17_0 ns17_0 cs17_0, clas17_0⟩, ⟨95, 64, 1, .slice (some ⟨b7, 0, none⟩) 1 1, cellsT s17.2.2⟩]) := hO
      have H := Option.some.inj H; subst H
      have hres := hqq19 _ rfl
      subst hres
      exact ⟨_, _, G22, as17_0, ns17_0, cs17_0, clas17_0, rfl, upds_self _ _ ⟨rfl, rfl, trivial⟩, leG22, hS, hO, hnhs17_0, hs17_0⟩
   ·rintro F w67 ⟨p18, Fb, G68, ap18_0, np18_0, cp18_0, clap18_0, rfl, rfl, leG68, hS, hO, hnhp18_0, hp18_0⟩
    refine WC_seq ?_; refine WC_region ?_; refine WL_val (rn_loadA ag26 (cs := [.slice a1 n1 c1, .slice a2 n2 c2, .slice a3 n3 c3]) rfl rfl (fun j v hj => (hS.sat.le leG68).cell (hcb4.drop_take 0 3 j v hj))) rfl ?_; refine WL_op rfl (OpP_in1 (N' := 7) [.agg #[.slice a1 n1 c1, .slice a2 n2 c2, .slice a3 n3 c3]] cb52 Tryd.func52 rfl rfl rfl rfl rfl rfl ?_); refine WC_seq ?_; refine WC_region ?_; refine WL_op rfl (OpP_newF (v := fun b => .pointer (some ⟨b, 0, none⟩)) (cs := [.slice a1 n1 c1, .slice a2 n2 c2, .slice a3 n3 c3]) (e := 26) (rn_boxA rfl) hS.sat rfl (fun b69 G71 w70 hg hcb69 => ?_)); have hS := hS.grow hg; have hO := hO.grow hg
    have leG71 := hg.le
    refine WL_val (rn_assign (v := (.pointer none)) rfl) rfl ?_; refine WL_nil ?_; refine WC_seq ?_; refine WC_region ?_; refine WL_val (rn_loadA ag26 (cs := [.slice a1 n1 c1, .slice a2 n2 c2, .slice a3 n3 c3]) rfl rfl (fun j v hj => hS.sat.cell (hcb69.drop_take 0 3 j v hj))) rfl ?_; refine WL_op rfl (OpP_makeMap (e := 77) hS hO rfl (fun r72 w73 hS hO => ?_))
    have hO : Owns G71 w73 w0.heap.size ([⟨77, 2, ([] : (List (Int × Bool))).length, .map (some r72), kvs kvI vvB ([] : (List (Int × Bool)))⟩, ⟨3, 1, np18_0, .slice ap18_0 np18_0 cp18_0, clap18_0⟩, ⟨95, 64, 1, .slice (some ⟨b7, 0, none⟩) 1 1, cellsT p18.2⟩]) := hO
    refine WL_val (v := (.agg #[.slice a1 n1 c1, .slice a2 n2 c2, .slice a3 n3 c3, .map (some r72)])) (by kernel_rfl) rfl ?_
    refine WL_op rfl (OpP_newF (v := fun b => .pointer (some ⟨b, 0, none⟩)) (cs := [.slice a1 n1 c1, .slice a2 n2 c2, .slice a3 n3 c3, .map (some r72)]) (e := 107) (rn_boxA rfl) hS.sat rfl (fun b75 G77 w76 hg hcb75 => ?_)); have hS := hS.grow hg; have hO := hO.grow hg
    have leG77 := hg.le
    refine WL_val (rn_assign (v := (.pointer (some ⟨b75, 0, none⟩))) rfl) rfl ?_; refine WL_nil ?_; refine WC_ret ?_; refine ⟨(.pointer (some ⟨b75, 0, none⟩)), rfl, ?_⟩
    have hO : Owns G77 w76 w0.heap.size ([⟨77, 2, ([] : (List (Int × Bool))).length, .map (some r72), kvs kvI vvB ([] : (List (Int × Bool)))⟩, ⟨3, 1, np18_0, .slice ap18_0 np18_0 cp18_0, clap18_0⟩, ⟨95, 64, 1, .slice (some ⟨b7, 0, none⟩) 1 1, cellsT p18.2⟩]) := hO
    refine WL_val (rn_assign (v := (.pointer (some ⟨b75, 0, none⟩))) rfl) rfl ?_; refine WL_nil ?_; refine WC_seq ?_; refine WC_seq ?_; refine WC_region ?_; refine WL_val (rn_assign (v := (.int .i64 1)) rfl) rfl ?_; refine WL_nil ?_; obtain ⟨q80, hq80, H⟩ := bnd H; refine WC_cut (fun F w => ∃ (p79 : (Tb 64) × (List (Int × Bool))) (Fb : Fr) (G : Gm), q80 = .inl p79 ∧ F = upds Fb [(9, .slice ap18_0 np18_0 cp18_0)] ∧ Gle G77 G ∧ Since w0.heap.size G0 w0 G w ∧ Owns G w w0.heap.size [⟨77, 2, (p79.2).length, .map (some r72), kvs kvI vvB (p79.2)⟩, ⟨3, 1, np18_0, .slice ap18_0 np18_0 cp18_0, clap18_0⟩, ⟨95, 64, 1, .slice (some ⟨b7, 0, none⟩) 1 1, cellsT p79.1⟩]) ?_ ?_
    ·refine WC_block (WC_loop hq80 (fun s78 F w => ∃ (Fb : Fr) (G : Gm), F = upds Fb [(2, .pointer (some ⟨b4, 0, none⟩)), (9, .slice ap18_0 np18_0 cp18_0), (15, .pointer (some ⟨b75, 0, none⟩)), (16, .int .i64 s78.1)] ∧ Gle G77 G ∧ Since w0.heap.size G0 w0 G w ∧ Owns G w w0.heap.size [⟨77, 2, (s78.2.2).length, .map (some r72), kvs kvI vvB (s78.2.2)⟩, ⟨3, 1, np18_0, .slice ap18_0 np18_0 cp18_0, clap18_0⟩, ⟨95, 64, 1, .slice (some ⟨b7, 0, none⟩) 1 1, cellsT s78.2.1⟩]) ?_ ?_)
     ·have hO : Owns G77 w76 w0.heap.size ([⟨77, 2, ([] : (List (Int × Bool))).length, .map (some r72), kvs kvI vvB ([] : (List (Int × Bool)))⟩, ⟨3, 1, np18_0, .slice ap18_0 np18_0 cp18_0, clap18_0⟩, ⟨95, 64, 1, .slice (some ⟨b7, 0, none⟩) 1 1, cellsT p18.2⟩]) := hO
      exact ⟨_, G77, upds_self _ _ ⟨rfl, rfl, rfl, rfl, trivial⟩, Gle.refl _, hS, hO⟩
     ·rintro s78 F w82 t81 ⟨Fb, G83, rfl, leG83, hS, hO⟩
      intro H1 hqq80
      have Hoq80 := H; have H := H1
      unfold f35_b2 at H
      refine WC_seq ?_; refine WC_seq ?_; refine WC_region ?_; refine WL_val (rn_move (v := (.int .i64 s78.1)) rfl) rfl ?_; refine WL_val (rn_move (v := (.slice ap18_0 np18_0 cp18_0)) rfl) rfl ?_; refine WL_val (rn_len (m := p18.1.length) sl29 rfl rfl hnhp18_0) rfl ?_; refine WL_val (rn_lss rfl rfl) rfl ?_; refine WL_nil ?_; refine WC_cond rfl (fun hb84 => ?_) (fun hb84 => ?_)
      ·have H := ifT hb84 H; refine WC_skip ?_; refine WC_seq ?_; refine WC_block ?_; refine WC_seq ?_; have hS := hS.keep (below_drew _); have hO := hO.below (below_drew _)
       refine WC_regionD mixedO (fun _ w => Sat G83 w ∧ Owns G83 w w0.heap.size [⟨77, 2, (s78.2.2).length, .map (some r72), kvs kvI vvB (s78.2.2)⟩, ⟨3, 1, np18_0, .slice ap18_0 np18_0 cp18_0, clap18_0⟩, ⟨95, 64, 1, .slice (some ⟨b7, 0, none⟩) 1 1, cellsT s78.2.1⟩]) (.fl 0 (.fl 1 (.fl 2 (.fl 3 (.fl 4 (.fl 5 (.fl 6 (.fl 7 (.fl 8 (.fl 9 (.fl 10 (.fl 11 (.fl 12 (.on 13 (.on 14 (.on 15 (.on 16 (.on 17 (.on 18 (.on 19 (.on 20 (.on 21 .nil)))))))))))))))))))))) (by kernel_rfl) rfl (by kernel_rfl) (fun _ => ⟨hS.sat, hO⟩) ?_
       refine WD_val rfl (fun w hw => rn_move (v := (.pointer (some ⟨b75, 0, none⟩))) rfl) rfl ?_; refine WD_val rfl (fun w hw => rn_fld fd26_1 rfl) rfl ?_; refine WD_val rfl (fun w hw => rn_load na23 rfl ((hw.1.le (((leG68.trans leG71).trans leG77).trans leG83)).cell (hcb4 1 _ rfl))) rfl ?_; refine WD_val rfl (fun w hw => rn_move (v := (.slice ap18_0 np18_0 cp18_0)) rfl) rfl ?_; refine WD_val rfl (fun w hw => rn_move (v := (.int .i64 s78.1)) rfl) rfl ?_; obtain ⟨y85, hy85, H⟩ := bnd H
       have l2_5 := (leG71.trans leG77).trans leG83
       refine WD_idxO rfl sl29 hO (k := 1) rfl hnhp18_0 (hp18_0.mono RInt_mono l2_5) hy85 rfl rfl rfl ?_
       rintro b86 ob86 _ hb86 _ hcb86 ⟨⟩
       refine WD_val rfl (fun w hw => rn_load na3 rfl (own_cellB hw.2 (k := 1) rfl hb86 _ 0 (hcb86 0 _ rfl))) rfl ?_; obtain ⟨y87, hy87, H⟩ := bnd H
       have l0_5 := (leG6.trans leG68).trans l2_5
       refine WD_idx rfl sl23 (h2.mono RTLandEvent_mono l0_5) hy87 rfl rfl rfl ?_
       rintro b88 o88 _ hcb88 _ ⟨⟩
       refine WD_val rfl (fun w hw => rn_fld fd69_1 rfl) rfl ?_; refine WD_val rfl (fun w hw => rn_load na3 rfl (hw.1.cell (hcb88 1 _ rfl))) rfl ?_; refine WD_val rfl (fun w hw => rn_fld fd26_1 rfl) rfl ?_; refine WD_val rfl (fun w hw => rn_load na23 rfl ((hw.1.le (leG68.trans l2_5)).cell (hcb4 1 _ rfl))) rfl ?_; refine WD_val rfl (fun w hw => rn_move (v := (.slice ap18_0 np18_0 cp18_0)) rfl) rfl ?_; refine WD_op rfl rfl (OpP_val (rn_move (v := (.int .i64 s78.1)) rfl) rfl ?_); refine ⟨fun _ _ => ⟨hS.sat, hO⟩, ?_⟩; refine WD_op rfl rfl (OpP_val (rn_sub rfl rfl) rfl ?_); refine ⟨fun _ _ => ⟨hS.sat, hO⟩, ?_⟩; obtain ⟨y89, hy89, H⟩ := bnd H; refine WD_op rfl rfl (OpP_idxO sl29 hO (k := 1) rfl hnhp18_0 (hp18_0.mono RInt_mono l2_5) hy89 rfl rfl rfl ?_)
       rintro b90 ob90 _ hb90 _ hcb90 ⟨⟩
       refine ⟨fun _ _ => ⟨hS.sat, hO⟩, ?_⟩; refine WD_op rfl rfl (OpP_val (rn_load na3 rfl (own_cellB hO (k := 1) rfl hb90 _ 0 (hcb90 0 _ rfl))) rfl ?_); refine ⟨fun _ _ => ⟨hS.sat, hO⟩, ?_⟩; obtain ⟨y91, hy91, H⟩ := bnd H; refine WD_op rfl rfl (OpP_idx sl23 (h2.mono RTLandEvent_mono l0_5) hy91 rfl rfl rfl ?_)
       rintro b92 o92 _ hcb92 _ ⟨⟩
       refine ⟨fun _ _ => ⟨hS.sat, hO⟩, ?_⟩; refine WD_op rfl rfl (OpP_val (rn_fld fd69_1 rfl) rfl ?_); refine ⟨fun _ _ => ⟨hS.sat, hO⟩, ?_⟩; refine WD_op rfl rfl (OpP_val (rn_load na3 rfl (hS.sat.cell (hcb92 1 _ rfl))) rfl ?_); refine ⟨fun _ _ => ⟨hS.sat, hO⟩, ?_⟩; obtain ⟨y93, hy93, H⟩ := bnd H
       have hx95 := f73_ok (x0 := x0) (x1 := y87.Holder) (x2 := y91.Holder) hS.sat (hcb75.mono leG83) (h1.mono RTLandPerson_mono l0_5) (h2.mono RTLandEvent_mono l0_5) (h3.mono RTLandMemory_mono l0_5) hy93
       refine WD_op rfl rfl (OpP_callV cb73 hx95 rfl rfl (fun w94 hb => ?_)); have hS := hS.keep hb; have hO := hO.below hb
       refine ⟨fun _ h => noneed (by kernel_rfl) h, ?_⟩
       refine WD_op rfl rfl (OpP_val (rn_not rfl) rfl ?_)
       refine ⟨fun _ h => noneed (by kernel_rfl) h, ?_⟩
       refine WD_nil ?_; refine WC_cond rfl (fun hb96 => ?_) (fun hb96 => ?_)
       ·have H := ifT hb96 H; refine WC_seq ?_; refine WC_region ?_; refine WL_val (rn_move (v := (.slice ap18_0 np18_0 cp18_0)) rfl) rfl ?_; refine WL_val (rn_move (v := (.int .i64 s78.1)) rfl) rfl ?_; refine WL_val (rn_assign (v := (.slice ap18_0 np18_0 cp18_0)) rfl) rfl ?_; refine WL_val (rn_assign (v := (.int .i64 s78.1)) rfl) rfl ?_; refine WL_val (rn_assign (v := (.int .i64 0)) rfl) rfl ?_; refine WL_nil ?_; refine WC_ret ?_; obtain ⟨G97, leG97, hS, hO, hfG97⟩ := hO.freezeS hS RInt_mono (k := 1) rfl (hp18_0.mono RInt_mono l2_5) hnhp18_0; have H := Option.some.inj H; subst H
        have hres := hqq80 _ rfl
        subst hres; have H := Hoq80
        have H : some (p18.1, s78.1, 0) = some r := H
        have H := Option.some.inj H; subst H
        exact ⟨_, _, rfl, hS.toGrow, _, _, _, rfl, hfG97⟩
       ·have H := ifF hb96 H; refine WC_skip ?_; refine WC_region ?_; refine WL_val (rn_move (v := (.int .i64 s78.1)) rfl) rfl ?_; refine WL_val (rn_add rfl rfl) rfl ?_; refine WL_val (rn_assign (v := (.int .i64 (IntKind.i64.wrap (s78.1 + 1)))) rfl) rfl ?_; refine WL_nil ?_
        have hO : Owns G83 w94 w0.heap.size ([⟨77, 2, (s78.2.2).length, .map (some r72), kvs kvI vvB (s78.2.2)⟩, ⟨3, 1, np18_0, .slice ap18_0 np18_0 cp18_0, clap18_0⟩, ⟨95, 64, 1, .slice (some ⟨b7, 0, none⟩) 1 1, cellsT s78.2.1⟩]) := hO
        have H := Option.some.inj H; subst H; refine ⟨_, rfl, ?_⟩
        exact ⟨_, G83, upds_self _ _ ⟨rfl, rfl, rfl, rfl, trivial⟩, leG83, hS, hO⟩
      ·have H := ifF hb84 H; refine WC_exit rfl ?_
       have hO : Owns G83 w82 w0.heap.size ([⟨77, 2, (s78.2.2).length, .map (some r72), kvs kvI vvB (s78.2.2)⟩, ⟨3, 1, np18_0, .slice ap18_0 np18_0 cp18_0, clap18_0⟩, ⟨95, 64, 1, .slice (some ⟨b7, 0, none⟩) 1 1, cellsT s78.2.1⟩]) := hO
       have H := Option.some.inj H; subst H
       have hres := hqq80 _ rfl
       subst hres
       exact ⟨_, _, G83, rfl, upds_self _ _ ⟨rfl, trivial⟩, leG83, hS, hO⟩
    ·rintro F w98 ⟨p79, Fb, G99, rfl, rfl, leG99, hS, hO⟩
     refine WC_seq ?_; refine WC_region ?_; refine WL_val (rn_move (v := (.slice ap18_0 np18_0 cp18_0)) rfl) rfl ?_; refine WL_val (rn_assign (v := (.slice ap18_0 np18_0 cp18_0)) rfl) rfl ?_; refine WL_val (rn_assign (v := (.int .i64 (-1))) rfl) rfl ?_; refine WL_val (rn_assign (v := (.int .i64 0)) rfl) rfl ?_; refine WL_nil ?_; refine WC_ret ?_
     have l2_5 := (leG71.trans leG77).trans leG99
     obtain ⟨G100, leG100, hS, hO, hfG100⟩ := hO.freezeS hS RInt_mono (k := 1) rfl (hp18_0.mono RInt_mono l2_5) hnhp18_0
     have H : some (p18.1, (-1), 0) = some r := H
     have H := Option.some.inj H; subst H
     exact ⟨_, _, rfl, hS.toGrow, _, _, _, rfl, hfG100⟩
set_option maxHeartbeats 1000000 in
theorem f43_ok {G0 : Gm} {w0 : World} (hS0 : Sat G0 w0) {x0 : TLandBook} {a1 : Option Addr} {n1 c1 : Nat} {a2 : Option Addr} {n2 c2 : Nat} {a3 : Option Addr} {n3 c3 : Nat} {x1 : Int} {x2 : Int} (h1 : RSl RTLandPerson 2 G0 a1 n1 c1 x0.People) (h2 : RSl RTLandEvent 2 G0 a2 n2 c2 x0.Events) (h3 : RSl RTLandMemory 4 G0 a3 n3 c3 x0.Memories) {r : TSpan × Int} (H : f43 x0 x1 x2 = some r) :
  Calls Tryd.prog 43 #[.agg #[.slice a1 n1 c1, .slice a2 n2 c2, .slice a3 n3 c3], .int .i64 x1, .int .i64 x2] w0 (RetV w0 (.tuple #[.agg #[.int .i64 r.1.Low, .int .i64 r.1.High], .int .i64 r.2])) := by
 have hS := Since.start hS0
 have hO : Owns G0 w0 w0.heap.size [] := Owns.nil (Nat.le_refl _)
 unfold f43 at H
 refine enterG (N := 37) (shutV _ _) [.cell 6 44, .tmp 7] Tryd.func43 rfl rfl rfl rfl ?_; refine WC_seq ?_; refine WC_region ?_; refine WL_op rfl (OpP_newF (v := fun b => .pointer (some ⟨b, 0, none⟩)) (cs := [.slice a1 n1 c1, .slice a2 n2 c2, .slice a3 n3 c3]) (e := 26) (rn_boxA rfl) hS.sat rfl (fun b4 G6 w5 hg hcb4 => ?_)); have hS := hS.grow hg; have hO := hO.grow hg
 have leG6 := hg.le
 refine WL_op rfl (OpP_newO (v := fun b => .pointer (some ⟨b, 0, none⟩)) (cs := [.int .i64 0, .int .i64 0]) (e := 44) (by kernel_rfl) hS.sat hO rfl 2 1 rfl (by decide) (fun b7 w8 hb hO => ?_))
 have hS := hS.keep hb; refine WL_val (rn_assign (v := (.int .i64 0)) rfl) rfl ?_; refine WL_nil ?_; refine WC_seq ?_; have hS := hS.keep (below_drew _); have hO := hO.below (below_drew _)
 refine WC_regionD mixedO (fun _ w => Sat G6 w ∧ Owns G6 w w0.heap.size [⟨44, 2, 1, .slice (some ⟨b7, 0, none⟩) 1 1, [.int .i64 0, .int .i64 0]⟩]) (.fl 0 (.fl 1 (.fl 2 (.fl 3 (.fl 4 (.fl 5 (.two 6 (.fl 7 (.fl 8 (.fl 9 (.fl 10 (.fl 11 (.fl 12 (.two 13 (.fl 14 (.two 15 (.fl 16 (.fl 17 (.fl 18 (.on 19 (.on 20 (.on 21 .nil)))))) 19 (.on 15 (.on 16 (.fl 17 (.fl 18 (.on 20 (.on 21 .nil)))))))) 19 (.on 13 (.on 14 (.on 15 (.on 16 (.fl 17 (.fl 18 (.on 20 (.on 21 .nil))))))))))))))) 19 (.on 6 (.on 7 (.fl 8 (.on 9 (.on 10 (.on 11 (.on 12 (.on 13 (.on 14 (.on 15 (.on 16 (.fl 17 (.fl 18 (.on 20 (.on 21 .nil)))))))))))))))))))))) (by kernel_rfl) rfl (by kernel_rfl) (fun _ => ⟨hS.sat, hO⟩) ?_
 refine WD_val rfl (fun w hw => rn_loadA ag26 (cs := [.slice a1 n1 c1, .slice a2 n2 c2, .slice a3 n3 c3]) rfl rfl (fun j v hj => hw.1.cell (hcb4.drop_take 0 3 j v hj))) rfl ?_; refine WD_val rfl (fun w hw => rn_move (v := (.int .i64 x1)) rfl) rfl ?_; refine WD_val rfl (fun w hw => rn_fld fd26_1 rfl) rfl ?_; refine WD_val rfl (fun w hw => rn_load na23 rfl (hw.1.cell (hcb4 1 _ rfl))) rfl ?_; refine WD_val rfl (fun w hw => rn_len sl23 rfl rfl (h2.mono RTLandEvent_mono leG6).1) rfl ?_; refine WD_val rfl (fun w hw => rn_sub rfl rfl) rfl ?_; refine WD_two ?_ ?_
 ·obtain ⟨y10, hy10, H⟩ := bnd H; refine WD_op rfl rfl (OpP_callV cb66 (f66_ok (x0 := x1) (x1 := 0) (x2 := IntKind.i64.wrap ((x0.Events.length : Int) - 1)) hS.sat  hy10) rfl rfl (fun w11 hb => ?_)); have hS := hS.keep hb; have hO := hO.below hb; refine ⟨fun _ _ => ⟨hS.sat, hO⟩, ?_⟩; refine WD_val rfl (fun w hw => rn_move (v := (.bool y10)) rfl) rfl ?_
  rcases bcases y10 with hb12 | hb12
  ·have H := ifT hb12 H; refine WD_valY rfl rfl hb12 rfl rfl (fun w hw => rn_move (v := (.int .i64 x2)) rfl) rfl ?_; refine WD_valY rfl rfl hb12 rfl rfl (fun w hw => rn_fld fd26_1 rfl) rfl ?_; refine WD_valY rfl rfl hb12 rfl rfl (fun w hw => rn_load na23 rfl (hw.1.cell (hcb4 1 _ rfl))) rfl ?_; refine WD_valY rfl rfl hb12 rfl rfl (fun w hw => rn_len sl23 rfl rfl (h2.mono RTLandEvent_mono leG6).1) rfl ?_; refine WD_valY rfl rfl hb12 rfl rfl (fun w hw => rn_sub rfl rfl) rfl ?_; refine WD_two ?_ ?_
   ·obtain ⟨y13, hy13, H⟩ := bnd H; refine WD_opY rfl rfl rfl hb12 rfl rfl (OpP_callV cb66 (f66_ok (x0 := x2) (x1 := 0) (x2 := IntKind.i64.wrap ((x0.Events.length : Int) - 1)) hS.sat  hy13) rfl rfl (fun w14 hb => ?_)); have hS := hS.keep hb; have hO := hO.below hb; refine ⟨fun _ _ => ⟨hS.sat, hO⟩, ?_⟩; refine WD_val rfl (fun w hw => rn_pickT (v := (.bool y13)) rfl hb12 rfl) rfl ?_; refine WD_two ?_ ?_
    ·obtain ⟨y15, hy15, H⟩ := bnd H; refine WD_op rfl rfl (OpP_callV cb69 (f69_ok (x0 := x0) (x1 := y13) hS.sat (h1.mono RTLandPerson_mono leG6) (h2.mono RTLandEvent_mono leG6) (h3.mono RTLandMemory_mono leG6) hy15) rfl rfl (fun w16 hb => ?_)); have hS := hS.keep hb; have hO := hO.below hb; refine ⟨fun _ _ => ⟨hS.sat, hO⟩, ?_⟩; refine WD_val rfl (fun w hw => rn_move (v := (.tuple #[.agg (cellsT y15.1).toArray, .int .i64 y15.2])) rfl) rfl ?_; refine WD_val rfl (fun w hw => rn_extract (v := (.agg (cellsT y15.1).toArray)) rfl rfl) rfl ?_; refine WD_val rfl (fun w hw => rn_extract (v := (.int .i64 y15.2)) rfl rfl) rfl ?_
     refine WD_op rfl rfl (OpP_newO (v := fun b => .pointer (some ⟨b, 0, none⟩)) (cs := (cellsT (Tb.zero 64))) (e := 95) (by kernel_rfl) hS.sat hO rfl 64 1 (cellsT_len _) (by decide) (fun b17 w18 hb hO => ?_))
     have hS := hS.keep hb; refine ⟨fun _ _ => ⟨hS.sat, (hO.drop 0)⟩, ?_⟩; refine WD_op rfl rfl (OpP_storeTT sz95 hS hO (k := 0) rfl rfl rfl (fun w20 hS hO => ?_))
     have hO : Owns G6 w20 w0.heap.size ([⟨95, 64, 1, .slice (some ⟨b17, 0, none⟩) 1 1, cellsT y15.1⟩, ⟨44, 2, 1, .slice (some ⟨b7, 0, none⟩) 1 1, [.int .i64 0, .int .i64 0]⟩]) := hO
     refine ⟨fun _ _ => ⟨hS.sat, (hO.drop 0)⟩, ?_⟩; refine WD_op rfl rfl (OpP_val (rn_assign (v := (.int .i64 y15.2)) rfl) rfl ?_)
     refine ⟨fun _ h => noneed (by kernel_rfl) h, ?_⟩
     refine WD_nil ?_; refine WC_seq ?_; refine WC_seq ?_; refine WC_region ?_; refine WL_val (rn_move (v := (.int .i64 y15.2)) rfl) rfl ?_; refine WL_val (rn_neq rfl rfl) rfl ?_; refine WL_nil ?_; refine WC_cond rfl (fun hb21 => ?_) (fun hb21 => ?_)
     ·have H := ifT hb21 H; refine WC_seq ?_; refine WC_region ?_
      refine WL_val (v := (.agg #[.int .i64 0, .int .i64 0])) (by kernel_rfl) rfl ?_
      refine WL_val (rn_move (v := (.int .i64 y15.2)) rfl) rfl ?_; refine WL_op rfl (OpP_store (vs := [.int .i64 0, .int .i64 0]) sz44 hS hO (k := 1) rfl rfl rfl rfl rfl (one_all rfl) (Nat.le_of_ble_eq_true rfl) (fun w22 hS hO => ?_))
      have hO : Owns G6 w22 w0.heap.size ([⟨95, 64, 1, .slice (some ⟨b17, 0, none⟩) 1 1, cellsT y15.1⟩, ⟨44, 2, 1, .slice (some ⟨b7, 0, none⟩) 1 1, [.int .i64 0, .int .i64 0]⟩]) := hO
      refine WL_val (rn_assign (v := (.int .i64 y15.2)) rfl) rfl ?_; refine WL_nil ?_; refine WC_ret ?_
      have H : some ((⟨0, 0⟩ : TSpan), y15.2) = some r := H
      have H := Option.some.inj H; subst H
      exact ⟨[.agg #[.int .i64 0, .int .i64 0], .int .i64 y15.2], ⟨⟨_, rfl, ld_agg (cs := [.int .i64 0, .int .i64 0]) ag44 rfl (fun j v hj => own_sub hO (k := 1) rfl 0 2 j v hj)⟩, rfl, trivial⟩, ⟨rfl, hS.below⟩⟩
     ·have H := ifF hb21 H; refine WC_skip ?_; refine WC_seq ?_; refine WC_region ?_; refine WL_val (rn_loadT ag95 hO (k := 0) rfl rfl) rfl ?_; refine WL_val (rn_move (v := (.int .i64 x1)) rfl) rfl ?_; refine WL_val (rn_move (v := (.int .i64 x2)) rfl) rfl ?_; obtain ⟨y23, hy23, H⟩ := bnd H; refine WL_op rfl (OpP_callV cb70 (f70_ok (x0 := y15.1) (x1 := x1) (x2 := x2) hS.sat  hy23) rfl rfl (fun w24 hb => ?_)); have hS := hS.keep hb; have hO := hO.below hb; refine WL_op rfl (OpP_store (vs := [.int .i64 y23.Low, .int .i64 y23.High]) sz44 hS hO (k := 1) rfl rfl rfl rfl rfl (one_all rfl) (Nat.le_of_ble_eq_true rfl) (fun w25 hS hO => ?_))
      have hO : Owns G6 w25 w0.heap.size ([⟨95, 64, 1, .slice (some ⟨b17, 0, none⟩) 1 1, cellsT y15.1⟩, ⟨44, 2, 1, .slice (some ⟨b7, 0, none⟩) 1 1, [.int .i64 y23.Low, .int .i64 y23.High]⟩]) := hO
      refine WL_val (rn_assign (v := (.int .i64 0)) rfl) rfl ?_; refine WL_nil ?_; refine WC_ret ?_
      have H : some (y23, 0) = some r := H
      have H := Option.some.inj H; subst H
      exact ⟨[.agg #[.int .i64 y23.Low, .int .i64 y23.High], .int .i64 0], ⟨⟨_, rfl, ld_agg (cs := [.int .i64 y23.Low, .int .i64 y23.High]) ag44 rfl (fun j v hj => own_sub hO (k := 1) rfl 0 2 j v hj)⟩, rfl, trivial⟩, ⟨rfl, hS.below⟩⟩
    ·refine WD_op rfl rfl (OpP_newO (v := fun b => .pointer (some ⟨b, 0, none⟩)) (cs := (cellsT (Tb.zero 64))) (e := 95) (by kernel_rfl) hS.sat hO rfl 64 1 (cellsT_len _) (by decide) (fun b15 w16 hb hO => ?_))
     have hS := hS.keep hb; refine ⟨fun _ _ => ⟨hS.sat, (hO.drop 0)⟩, ?_⟩; obtain ⟨y18, hy18, H⟩ := bnd H; refine WD_op rfl rfl (OpP_callV cb69 (f69_ok (x0 := x0) (x1 := y13) hS.sat (h1.mono RTLandPerson_mono leG6) (h2.mono RTLandEvent_mono leG6) (h3.mono RTLandMemory_mono leG6) hy18) rfl rfl (fun w19 hb => ?_)); have hS := hS.keep hb; have hO := hO.below hb; refine ⟨fun _ _ => ⟨hS.sat, (hO.drop 0)⟩, ?_⟩; refine WD_op rfl rfl (OpP_val (rn_move (v := (.tuple #[.agg (cellsT y18.1).toArray, .int .i64 y18.2])) rfl) rfl ?_); refine ⟨fun _ _ => ⟨hS.sat, (hO.drop 0)⟩, ?_⟩; refine WD_val rfl (fun w hw => rn_extract (v := (.agg (cellsT y18.1).toArray)) rfl rfl) rfl ?_; refine WD_val rfl (fun w hw => rn_extract (v := (.int .i64 y18.2)) rfl rfl) rfl ?_; refine WD_op rfl rfl (OpP_storeTT sz95 hS hO (k := 0) rfl rfl rfl (fun w20 hS hO => ?_))
     have hO : Owns G6 w20 w0.heap.size ([⟨95, 64, 1, .slice (some ⟨b15, 0, none⟩) 1 1, cellsT y18.1⟩, ⟨44, 2, 1, .slice (some ⟨b7, 0, none⟩) 1 1, [.int .i64 0, .int .i64 0]⟩]) := hO
     refine ⟨fun _ _ => ⟨hS.sat, (hO.drop 0)⟩, ?_⟩; refine WD_op rfl rfl (OpP_val (rn_assign (v := (.int .i64 y18.2)) rfl) rfl ?_)
     refine ⟨fun _ h => noneed (by kernel_rfl) h, ?_⟩
     refine WD_nil ?_; refine WC_seq ?_; refine WC_seq ?_; refine WC_region ?_; refine WL_val (rn_move (v := (.int .i64 y18.2)) rfl) rfl ?_; refine WL_val (rn_neq rfl rfl) rfl ?_; refine WL_nil ?_; refine WC_cond rfl (fun hb21 => ?_) (fun hb21 => ?_)
     ·have H := ifT hb21 H; refine WC_seq ?_; refine WC_region ?_
      refine WL_val (v := (.agg #[.int .i64 0, .int .i64 0])) (by kernel_rfl) rfl ?_
      refine WL_val (rn_move (v := (.int .i64 y18.2)) rfl) rfl ?_; refine WL_op rfl (OpP_store (vs := [.int .i64 0, .int .i64 0]) sz44 hS hO (k := 1) rfl rfl rfl rfl rfl (one_all rfl) (Nat.le_of_ble_eq_true rfl) (fun w22 hS hO => ?_))
      have hO : Owns G6 w22 w0.heap.size ([⟨95, 64, 1, .slice (some ⟨b15, 0, none⟩) 1 1, cellsT y18.1⟩, ⟨44, 2, 1, .slice (some ⟨b7, 0, none⟩) 1 1, [.int .i64 0, .int .i64 0]⟩]) := hO
      refine WL_val (rn_assign (v := (.int .i64 y18.2)) rfl) rfl ?_; refine WL_nil ?_; refine WC_ret ?_
      have H : some ((⟨0, 0⟩ : TSpan), y18.2) = some r := H
      have H := Option.some.inj H; subst H
      exact ⟨[.agg #[.int .i64 0, .int .i64 0], .int .i64 y18.2], ⟨⟨_, rfl, ld_agg (cs := [.int .i64 0, .int .i64 0]) ag44 rfl (fun j v hj => own_sub hO (k := 1) rfl 0 2 j v hj)⟩, rfl, trivial⟩, ⟨rfl, hS.below⟩⟩
     ·have H := ifF hb21 H; refine WC_skip ?_; refine WC_seq ?_; refine WC_region ?_; refine WL_val (rn_loadT ag95 hO (k := 0) rfl rfl) rfl ?_; refine WL_val (rn_move (v := (.int .i64 x1)) rfl) rfl ?_; refine WL_val (rn_move (v := (.int .i64 x2)) rfl) rfl ?_; obtain ⟨y23, hy23, H⟩ := bnd H; refine WL_op rfl (OpP_callV cb70 (f70_ok (x0 := y18.1) (x1 := x1) (x2 := x2) hS.sat  hy23) rfl rfl (fun w24 hb => ?_)); have hS := hS.keep hb; have hO := hO.below hb; refine WL_op rfl (OpP_store (vs := [.int .i64 y23.Low, .int .i64 y23.High]) sz44 hS hO (k := 1) rfl rfl rfl rfl rfl (one_all rfl) (Nat.le_of_ble_eq_true rfl) (fun w25 hS hO => ?_))
      have hO : Owns G6 w25 w0.heap.size ([⟨95, 64, 1, .slice (some ⟨b15, 0, none⟩) 1 1, cellsT y18.1⟩, ⟨44, 2, 1, .slice (some ⟨b7, 0, none⟩) 1 1, [.int .i64 y23.Low, .int .i64 y23.High]⟩]) := hO
      refine WL_val (rn_assign (v := (.int .i64 0)) rfl) rfl ?_; refine WL_nil ?_; refine WC_ret ?_
      have H : some (y23, 0) = some r := H
      have H := Option.some.inj H; subst H
      exact ⟨[.agg #[.int .i64 y23.Low, .int .i64 y23.High], .int .i64 0], ⟨⟨_, rfl, ld_agg (cs := [.int .i64 y23.Low, .int .i64 y23.High]) ag44 rfl (fun j v hj => own_sub hO (k := 1) rfl 0 2 j v hj)⟩, rfl, trivial⟩, ⟨rfl, hS.below⟩⟩
   ·refine WD_op rfl rfl (OpP_newO (v := fun b => .pointer (some ⟨b, 0, none⟩)) (cs := (cellsT (Tb.zero 64))) (e := 95) (by kernel_rfl) hS.sat hO rfl 64 1 (cellsT_len _) (by decide) (fun b13 w14 hb hO => ?_))
    have hS := hS.keep hb; refine ⟨fun _ _ => ⟨hS.sat, (hO.drop 0)⟩, ?_⟩; obtain ⟨y16, hy16, H⟩ := bnd H; refine WD_opY rfl rfl rfl hb12 rfl rfl (OpP_callV cb66 (f66_ok (x0 := x2) (x1 := 0) (x2 := IntKind.i64.wrap ((x0.Events.length : Int) - 1)) hS.sat  hy16) rfl rfl (fun w17 hb => ?_)); have hS := hS.keep hb; have hO := hO.below hb; refine ⟨fun _ _ => ⟨hS.sat, (hO.drop 0)⟩, ?_⟩; refine WD_op rfl rfl (OpP_val (rn_pickT (v := (.bool y16)) rfl hb12 rfl) rfl ?_); refine ⟨fun _ _ => ⟨hS.sat, (hO.drop 0)⟩, ?_⟩; obtain ⟨y18, hy18, H⟩ := bnd H; refine WD_op rfl rfl (OpP_callV cb69 (f69_ok (x0 := x0) (x1 := y16) hS.sat (h1.mono RTLandPerson_mono leG6) (h2.mono RTLandEvent_mono leG6) (h3.mono RTLandMemory_mono leG6) hy18) rfl rfl (fun w19 hb => ?_)); have hS := hS.keep hb; have hO := hO.below hb; refine ⟨fun _ _ => ⟨hS.sat, (hO.drop 0)⟩, ?_⟩; refine WD_op rfl rfl (OpP_val (rn_move (v := (.tuple #[.agg (cellsT y18.1).toArray, .int .i64 y18.2])) rfl) rfl ?_); refine ⟨fun _ _ => ⟨hS.sat, (hO.drop 0)⟩, ?_⟩; refine WD_val rfl (fun w hw => rn_extract (v := (.agg (cellsT y18.1).toArray)) rfl rfl) rfl ?_; refine WD_val rfl (fun w hw => rn_extract (v := (.int .i64 y18.2)) rfl rfl) rfl ?_; refine WD_op rfl rfl (OpP_storeTT sz95 hS hO (k := 0) rfl rfl rfl (fun w20 hS hO => ?_))
    have hO : Owns G6 w20 w0.heap.size ([⟨95, 64, 1, .slice (some ⟨b13, 0, none⟩) 1 1, cellsT y18.1⟩, ⟨44, 2, 1, .slice (some ⟨b7, 0, none⟩) 1 1, [.int .i64 0, .int .i64 0]⟩]) := hO
    refine ⟨fun _ _ => ⟨hS.sat, (hO.drop 0)⟩, ?_⟩; refine WD_op rfl rfl (OpP_val (rn_assign (v := (.int .i64 y18.2)) rfl) rfl ?_)
    refine ⟨fun _ h => noneed (by kernel_rfl) h, ?_⟩
    refine WD_nil ?_; refine WC_seq ?_; refine WC_seq ?_; refine WC_region ?_; refine WL_val (rn_move (v := (.int .i64 y18.2)) rfl) rfl ?_; refine WL_val (rn_neq rfl rfl) rfl ?_; refine WL_nil ?_; refine WC_cond rfl (fun hb21 => ?_) (fun hb21 => ?_)
    ·have H := ifT hb21 H; refine WC_seq ?_; refine WC_region ?_
     refine WL_val (v := (.agg #[.int .i64 0, .int .i64 0])) (by kernel_rfl) rfl ?_
     refine WL_val (rn_move (v := (.int .i64 y18.2)) rfl) rfl ?_; refine WL_op rfl (OpP_store (vs := [.int .i64 0, .int .i64 0]) sz44 hS hO (k := 1) rfl rfl rfl rfl rfl (one_all rfl) (Nat.le_of_ble_eq_true rfl) (fun w22 hS hO => ?_))
     have hO : Owns G6 w22 w0.heap.size ([⟨95, 64, 1, .slice (some ⟨b13, 0, none⟩) 1 1, cellsT y18.1⟩, ⟨44, 2, 1, .slice (some ⟨b7, 0, none⟩) 1 1, [.int .i64 0, .int .i64 0]⟩]) := hO
     refine WL_val (rn_assign (v := (.int .i64 y18.2)) rfl) rfl ?_; refine WL_nil ?_; refine WC_ret ?_
     have H : some ((⟨0, 0⟩ : TSpan), y18.2) = some r := H
     have H := Option.some.inj H; subst H
     exact ⟨[.agg #[.int .i64 0, .int .i64 0], .int .i64 y18.2], ⟨⟨_, rfl, ld_agg (cs := [.int .i64 0, .int .i64 0]) ag44 rfl (fun j v hj => own_sub hO (k := 1) rfl 0 2 j v hj)⟩, rfl, trivial⟩, ⟨rfl, hS.below⟩⟩
    ·have H := ifF hb21 H; refine WC_skip ?_; refine WC_seq ?_; refine WC_region ?_; refine WL_val (rn_loadT ag95 hO (k := 0) rfl rfl) rfl ?_; refine WL_val (rn_move (v := (.int .i64 x1)) rfl) rfl ?_; refine WL_val (rn_move (v := (.int .i64 x2)) rfl) rfl ?_; obtain ⟨y23, hy23, H⟩ := bnd H; refine WL_op rfl (OpP_callV cb70 (f70_ok (x0 := y18.1) (x1 := x1) (x2 := x2) hS.sat  hy23) rfl rfl (fun w24 hb => ?_)); have hS := hS.keep hb; have hO := hO.below hb; refine WL_op rfl (OpP_store (vs := [.int .i64 y23.Low, .int .i64 y23.High]) sz44 hS hO (k := 1) rfl rfl rfl rfl rfl (one_all rfl) (Nat.le_of_ble_eq_true rfl) (fun w25 hS hO => ?_))
     have hO : Owns G6 w25 w0.heap.size ([⟨95, 64, 1, .slice (some ⟨b13, 0, none⟩) 1 1, cellsT y18.1⟩, ⟨44, 2, 1, .slice (some ⟨b7, 0, none⟩) 1 1, [.int .i64 y23.Low, .int .i64 y23.High]⟩]) := hO
     refine WL_val (rn_assign (v := (.int .i64 0)) rfl) rfl ?_; refine WL_nil ?_; refine WC_ret ?_
     have H : some (y23, 0) = some r := H
     have H := Option.some.inj H; subst H
     exact ⟨[.agg #[.int .i64 y23.Low, .int .i64 y23.High], .int .i64 0], ⟨⟨_, rfl, ld_agg (cs := [.int .i64 y23.Low, .int .i64 y23.High]) ag44 rfl (fun j v hj => own_sub hO (k := 1) rfl 0 2 j v hj)⟩, rfl, trivial⟩, ⟨rfl, hS.below⟩⟩
  ·have H := ifF hb12 H; refine WD_skip rfl rfl hb12 rfl rfl rfl ?_; refine WD_skip rfl rfl hb12 rfl rfl rfl ?_; refine WD_skip rfl rfl hb12 rfl rfl rfl ?_; refine WD_skip rfl rfl hb12 rfl rfl rfl ?_; refine WD_skip rfl rfl hb12 rfl rfl rfl ?_; refine WD_two ?_ ?_
   ·refine WD_skipS rfl rfl hb12 rfl rfl rfl (fun _ _ => ⟨hS.sat, hO⟩) ?_; refine WD_val rfl (fun w hw => rn_pickF (v := (.bool false)) rfl hb12 rfl) rfl ?_; refine WD_two ?_ ?_
    ·obtain ⟨y26, hy26, H⟩ := bnd H; refine WD_op rfl rfl (OpP_callV cb69 (f69_ok (x0 := x0) (x1 := false) hS.sat (h1.mono RTLandPerson_mono leG6) (h2.mono RTLandEvent_mono leG6) (h3.mono RTLandMemory_mono leG6) hy26) rfl rfl (fun w27 hb => ?_)); have hS := hS.keep hb; have hO := hO.below hb; refine ⟨fun _ _ => ⟨hS.sat, hO⟩, ?_⟩; refine WD_val rfl (fun w hw => rn_move (v := (.tuple #[.agg (cellsT y26.1).toArray, .int .i64 y26.2])) rfl) rfl ?_; refine WD_val rfl (fun w hw => rn_extract (v := (.agg (cellsT y26.1).toArray)) rfl rfl) rfl ?_; refine WD_val rfl (fun w hw => rn_extract (v := (.int .i64 y26.2)) rfl rfl) rfl ?_
     refine WD_op rfl rfl (OpP_newO (v := fun b => .pointer (some ⟨b, 0, none⟩)) (cs := (cellsT (Tb.zero 64))) (e := 95) (by kernel_rfl) hS.sat hO rfl 64 1 (cellsT_len _) (by decide) (fun b28 w29 hb hO => ?_))
     have hS := hS.keep hb; refine ⟨fun _ _ => ⟨hS.sat, (hO.drop 0)⟩, ?_⟩; refine WD_op rfl rfl (OpP_storeTT sz95 hS hO (k := 0) rfl rfl rfl (fun w31 hS hO => ?_))
     have hO : Owns G6 w31 w0.heap.size ([⟨95, 64, 1, .slice (some ⟨b28, 0, none⟩) 1 1, cellsT y26.1⟩, ⟨44, 2, 1, .slice (some ⟨b7, 0, none⟩) 1 1, [.int .i64 0, .int .i64 0]⟩]) := hO
     refine ⟨fun _ _ => ⟨hS.sat, (hO.drop 0)⟩, ?_⟩; refine WD_op rfl rfl (OpP_val (rn_assign (v := (.int .i64 y26.2)) rfl) rfl ?_)
     refine ⟨fun _ h => noneed (by kernel_rfl) h, ?_⟩
     refine WD_nil ?_; refine WC_seq ?_; refine WC_seq ?_; refine WC_region ?_; refine WL_val (rn_move (v := (.int .i64 y26.2)) rfl) rfl ?_; refine WL_val (rn_neq rfl rfl) rfl ?_; refine WL_nil ?_; refine WC_cond rfl (fun hb32 => ?_) (fun hb32 => ?_)
     ·have H := ifT hb32 H; refine WC_seq ?_; refine WC_region ?_
      refine WL_val (v := (.agg #[.int .i64 0, .int .i64 0])) (by kernel_rfl) rfl ?_
      refine WL_val (rn_move (v := (.int .i64 y26.2)) rfl) rfl ?_; refine WL_op rfl (OpP_store (vs := [.int .i64 0, .int .i64 0]) sz44 hS hO (k := 1) rfl rfl rfl rfl rfl (one_all rfl) (Nat.le_of_ble_eq_true rfl) (fun w33 hS hO => ?_))
      have hO : Owns G6 w33 w0.heap.size ([⟨95, 64, 1, .slice (some ⟨b28, 0, none⟩) 1 1, cellsT y26.1⟩, ⟨44, 2, 1, .slice (some ⟨b7, 0, none⟩) 1 1, [.int .i64 0, .int .i64 0]⟩]) := hO
      refine WL_val (rn_assign (v := (.int .i64 y26.2)) rfl) rfl ?_; refine WL_nil ?_; refine WC_ret ?_
      have H : some ((⟨0, 0⟩ : TSpan), y26.2) = some r := H
      have H := Option.some.inj H; subst H
      exact ⟨[.agg #[.int .i64 0, .int .i64 0], .int .i64 y26.2], ⟨⟨_, rfl, ld_agg (cs := [.int .i64 0, .int .i64 0]) ag44 rfl (fun j v hj => own_sub hO (k := 1) rfl 0 2 j v hj)⟩, rfl, trivial⟩, ⟨rfl, hS.below⟩⟩
     ·have H := ifF hb32 H; refine WC_skip ?_; refine WC_seq ?_; refine WC_region ?_; refine WL_val (rn_loadT ag95 hO (k := 0) rfl rfl) rfl ?_; refine WL_val (rn_move (v := (.int .i64 x1)) rfl) rfl ?_; refine WL_val (rn_move (v := (.int .i64 x2)) rfl) rfl ?_; obtain ⟨y34, hy34, H⟩ := bnd H; refine WL_op rfl (OpP_callV cb70 (f70_ok (x0 := y26.1) (x1 := x1) (x2 := x2) hS.sat  hy34) rfl rfl (fun w35 hb => ?_)); have hS := hS.keep hb; have hO := hO.below hb; refine WL_op rfl (OpP_store (vs := [.int .i64 y34.Low, .int .i64 y34.High]) sz44 hS hO (k := 1) rfl rfl rfl rfl rfl (one_all rfl) (Nat.le_of_ble_eq_true rfl) (fun w36 hS hO => ?_))
      have hO : Owns G6 w36 w0.heap.size ([⟨95, 64, 1, .slice (some ⟨b28, 0, none⟩) 1 1, cellsT y26.1⟩, ⟨44, 2, 1, .slice (some ⟨b7, 0, none⟩) 1 1, [.int .i64 y34.Low, .int .i64 y34.High]⟩]) := hO
      refine WL_val (rn_assign (v := (.int .i64 0)) rfl) rfl ?_; refine WL_nil ?_; refine WC_ret ?_
      have H : some (y34, 0) = some r := H
      have H := Option.some.inj H; subst H
      exact ⟨[.agg #[.int .i64 y34.Low, .int .i64 y34.High], .int .i64 0], ⟨⟨_, rfl, ld_agg (cs := [.int .i64 y34.Low, .int .i64 y34.High]) ag44 rfl (fun j v hj => own_sub hO (k := 1) rfl 0 2 j v hj)⟩, rfl, trivial⟩, ⟨rfl, hS.below⟩⟩
    ·refine WD_op rfl rfl (OpP_newO (v := fun b => .pointer (some ⟨b, 0, none⟩)) (cs := (cellsT (Tb.zero 64))) (e := 95) (by kernel_rfl) hS.sat hO rfl 64 1 (cellsT_len _) (by decide) (fun b26 w27 hb hO => ?_))
     have hS := hS.keep hb; refine ⟨fun _ _ => ⟨hS.sat, (hO.drop 0)⟩, ?_⟩; obtain ⟨y29, hy29, H⟩ := bnd H; refine WD_op rfl rfl (OpP_callV cb69 (f69_ok (x0 := x0) (x1 := false) hS.sat (h1.mono RTLandPerson_mono leG6) (h2.mono RTLandEvent_mono leG6) (h3.mono RTLandMemory_mono leG6) hy29) rfl rfl (fun w30 hb => ?_)); have hS := hS.keep hb; have hO := hO.below hb; refine ⟨fun _ _ => ⟨hS.sat, (hO.drop 0)⟩, ?_⟩; refine WD_op rfl rfl (OpP_val (rn_move (v := (.tuple #[.agg (cellsT y29.1).toArray, .int .i64 y29.2])) rfl) rfl ?_); refine ⟨fun _ _ => ⟨hS.sat, (hO.drop 0)⟩, ?_⟩; refine WD_val rfl (fun w hw => rn_extract (v := (.agg (cellsT y29.1).toArray)) rfl rfl) rfl ?_; refine WD_val rfl (fun w hw => rn_extract (v := (.int .i64 y29.2)) rfl rfl) rfl ?_; refine WD_op rfl rfl (OpP_storeTT sz95 hS hO (k := 0) rfl rfl rfl (fun w31 hS hO => ?_))
     have hO : Owns G6 w31 w0.heap.size ([⟨95, 64, 1, .slice (some ⟨b26, 0, none⟩) 1 1, cellsT y29.1⟩, ⟨44, 2, 1, .slice (some ⟨b7, 0, none⟩) 1 1, [.int .i64 0, .int .i64 0]⟩]) := hO
     refine ⟨fun _ _ => ⟨hS.sat, (hO.drop 0)⟩, ?_⟩; refine WD_op rfl rfl (OpP_val (rn_assign (v := (.int .i64 y29.2)) rfl) rfl ?_)
     refine ⟨fun _ h => noneed (by kernel_rfl) h, ?_⟩
     refine WD_nil ?_; refine WC_seq ?_; refine WC_seq ?_; refine WC_region ?_; refine WL_val (rn_move (v := (.int .i64 y29.2)) rfl) rfl ?_; refine WL_val (rn_neq rfl rfl) rfl ?_; refine WL_nil ?_; refine WC_cond rfl (fun hb32 => ?_) (fun hb32 => ?_)
     ·have H := ifT hb32 H; refine WC_seq ?_; refine WC_region ?_
      refine WL_val (v := (.agg #[.int .i64 0, .int .i64 0])) (by kernel_rfl) rfl ?_
      refine WL_val (rn_move (v := (.int .i64 y29.2)) rfl) rfl ?_; refine WL_op rfl (OpP_store (vs := [.int .i64 0, .int .i64 0]) sz44 hS hO (k := 1) rfl rfl rfl rfl rfl (one_all rfl) (Nat.le_of_ble_eq_true rfl) (fun w33 hS hO => ?_))
      have hO : Owns G6 w33 w0.heap.size ([⟨95, 64, 1, .slice (some ⟨b26, 0, none⟩) 1 1, cellsT y29.1⟩, ⟨44, 2, 1, .slice (some ⟨b7, 0, none⟩) 1 1, [.int .i64 0, .int .i64 0]⟩]) := hO
      refine WL_val (rn_assign (v := (.int .i64 y29.2)) rfl) rfl ?_; refine WL_nil ?_; refine WC_ret ?_
      have H : some ((⟨0, 0⟩ : TSpan), y29.2) = some r := H
      have H := Option.some.inj H; subst H
      exact ⟨[.agg #[.int .i64 0, .int .i64 0], .int .i64 y29.2], ⟨⟨_, rfl, ld_agg (cs := [.int .i64 0, .int .i64 0]) ag44 rfl (fun j v hj => own_sub hO (k := 1) rfl 0 2 j v hj)⟩, rfl, trivial⟩, ⟨rfl, hS.below⟩⟩
     ·have H := ifF hb32 H; refine WC_skip ?_; refine WC_seq ?_; refine WC_region ?_; refine WL_val (rn_loadT ag95 hO (k := 0) rfl rfl) rfl ?_; refine WL_val (rn_move (v := (.int .i64 x1)) rfl) rfl ?_; refine WL_val (rn_move (v := (.int .i64 x2)) rfl) rfl ?_; obtain ⟨y34, hy34, H⟩ := bnd H; refine WL_op rfl (OpP_callV cb70 (f70_ok (x0 := y29.1) (x1 := x1) (x2 := x2) hS.sat  hy34) rfl rfl (fun w35 hb => ?_)); have hS := hS.keep hb; have hO := hO.below hb; refine WL_op rfl (OpP_store (vs := [.int .i64 y34.Low, .int .i64 y34.High]) sz44 hS hO (k := 1) rfl rfl rfl rfl rfl (one_all rfl) (Nat.le_of_ble_eq_true rfl) (fun w36 hS hO => ?_))
      have hO : Owns G6 w36 w0.heap.size ([⟨95, 64, 1, .slice (some ⟨b26, 0, none⟩) 1 1, cellsT y29.1⟩, ⟨44, 2, 1, .slice (some ⟨b7, 0, none⟩) 1 1, [.int .i64 y34.Low, .int .i64 y34.High]⟩]) := hO
      refine WL_val (rn_assign (v := (.int .i64 0)) rfl) rfl ?_; refine WL_nil ?_; refine WC_ret ?_
      have H : some (y34, 0) = some r := H
      have H := Option.some.inj H; subst H
      exact ⟨[.agg #[.int .i64 y34.Low, .int .i64 y34.High], .int .i64 0], ⟨⟨_, rfl, ld_agg (cs := [.int .i64 y34.Low, .int .i64 y34.High]) ag44 rfl (fun j v hj => own_sub hO (k := 1) rfl 0 2 j v hj)⟩, rfl, trivial⟩, ⟨rfl, hS.below⟩⟩
   ·refine WD_op rfl rfl (OpP_newO (v := fun b => .pointer (some ⟨b, 0, none⟩)) (cs := (cellsT (Tb.zero 64))) (e := 95) (by kernel_rfl) hS.sat hO rfl 64 1 (cellsT_len _) (by decide) (fun b26 w27 hb hO => ?_))
    have hS := hS.keep hb; refine ⟨fun _ _ => ⟨hS.sat, (hO.drop 0)⟩, ?_⟩; refine WD_skipS rfl rfl hb12 rfl rfl rfl (fun _ _ => ⟨hS.sat, (hO.drop 0)⟩) ?_; refine WD_op rfl rfl (OpP_val (rn_pickF (v := (.bool false)) rfl hb12 rfl) rfl ?_); refine ⟨fun _ _ => ⟨hS.sat, (hO.drop 0)⟩, ?_⟩; obtain ⟨y29, hy29, H⟩ := bnd H; refine WD_op rfl rfl (OpP_callV cb69 (f69_ok (x0 := x0) (x1 := false) hS.sat (h1.mono RTLandPerson_mono leG6) (h2.mono RTLandEvent_mono leG6) (h3.mono RTLandMemory_mono leG6) hy29) rfl rfl (fun w30 hb => ?_)); have hS := hS.keep hb; have hO := hO.below hb; refine ⟨fun _ _ => ⟨hS.sat, (hO.drop 0)⟩, ?_⟩; refine WD_op rfl rfl (OpP_val (rn_move (v := (.tuple #[.agg (cellsT y29.1).toArray, .int .i64 y29.2])) rfl) rfl ?_); refine ⟨fun _ _ => ⟨hS.sat, (hO.drop 0)⟩, ?_⟩; refine WD_val rfl (fun w hw => rn_extract (v := (.agg (cellsT y29.1).toArray)) rfl rfl) rfl ?_; refine WD_val rfl (fun w hw => rn_extract (v := (.int .i64 y29.2)) rfl rfl) rfl ?_; refine WD_op rfl rfl (OpP_storeTT sz95 hS hO (k := 0) rfl rfl rfl (fun w31 hS hO => ?_))
    have hO : Owns G6 w31 w0.heap.size ([⟨95, 64, 1, .slice (some ⟨b26, 0, none⟩) 1 1, cellsT y29.1⟩, ⟨44, 2, 1, .slice (some ⟨b7, 0, none⟩) 1 1, [.int .i64 0, .int .i64 0]⟩]) := hO
    refine ⟨fun _ _ => ⟨hS.sat, (hO.drop 0)⟩, ?_⟩; refine WD_op rfl rfl (OpP_val (rn_assign (v := (.int .i64 y29.2)) rfl) rfl ?_)
    refine ⟨fun _ h => noneed (by kernel_rfl) h, ?_⟩
    refine WD_nil ?_; refine WC_seq ?_; refine WC_seq ?_; refine WC_region ?_; refine WL_val (rn_move (v := (.int .i64 y29.2)) rfl) rfl ?_; refine WL_val (rn_neq rfl rfl) rfl ?_; refine WL_nil ?_; refine WC_cond rfl (fun hb32 => ?_) (fun hb32 => ?_)
    ·have H := ifT hb32 H; refine WC_seq ?_; refine WC_region ?_
     refine WL_val (v := (.agg #[.int .i64 0, .int .i64 0])) (by kernel_rfl) rfl ?_
     refine WL_val (rn_move (v := (.int .i64 y29.2)) rfl) rfl ?_; refine WL_op rfl (OpP_store (vs := [.int .i64 0, .int .i64 0]) sz44 hS hO (k := 1) rfl rfl rfl rfl rfl (one_all rfl) (Nat.le_of_ble_eq_true rfl) (fun w33 hS hO => ?_))
     have hO : Owns G6 w33 w0.heap.size ([⟨95, 64, 1, .slice (some ⟨b26, 0, none⟩) 1 1, cellsT y29.1⟩, ⟨44, 2, 1, .slice (some ⟨b7, 0, none⟩) 1 1, [.int .i64 0, .int .i64 0]⟩]) := hO
     refine WL_val (rn_assign (v := (.int .i64 y29.2)) rfl) rfl ?_; refine WL_nil ?_; refine WC_ret ?_
     have H : some ((⟨0, 0⟩ : TSpan), y29.2) = some r := H
     have H := Option.some.inj H; subst H
     exact ⟨[.agg #[.int .i64 0, .int .i64 0], .int .i64 y29.2], ⟨⟨_, rfl, ld_agg (cs := [.int .i64 0, .int .i64 0]) ag44 rfl (fun j v hj => own_sub hO (k := 1) rfl 0 2 j v hj)⟩, rfl, trivial⟩, ⟨rfl, hS.below⟩⟩
    ·have H := ifF hb32 H; refine WC_skip ?_; refine WC_seq ?_; refine WC_region ?_; refine WL_val (rn_loadT ag95 hO (k := 0) rfl rfl) rfl ?_; refine WL_val (rn_move (v := (.int .i64 x1)) rfl) rfl ?_; refine WL_val (rn_move (v := (.int .i64 x2)) rfl) rfl ?_; obtain ⟨y34, hy34, H⟩ := bnd H; refine WL_op rfl (OpP_callV cb70 (f70_ok (x0 := y29.1) (x1 := x1) (x2 := x2) hS.sat  hy34) rfl rfl (fun w35 hb => ?_)); have hS := hS.keep hb; have hO := hO.below hb; refine WL_op rfl (OpP_store (vs := [.int .i64 y34.Low, .int .i64 y34.High]) sz44 hS hO (k := 1) rfl rfl rfl rfl rfl (one_all rfl) (Nat.le_of_ble_eq_true rfl) (fun w36 hS hO => ?_))
     have hO : Owns G6 w36 w0.heap.size ([⟨95, 64, 1, .slice (some ⟨b26, 0, none⟩) 1 1, cellsT y29.1⟩, ⟨44, 2, 1, .slice (some ⟨b7, 0, none⟩) 1 1, [.int .i64 y34.Low, .int .i64 y34.High]⟩]) := hO
     refine WL_val (rn_assign (v := (.int .i64 0)) rfl) rfl ?_; refine WL_nil ?_; refine WC_ret ?_
     have H : some (y34, 0) = some r := H
     have H := Option.some.inj H; subst H
     exact ⟨[.agg #[.int .i64 y34.Low, .int .i64 y34.High], .int .i64 0], ⟨⟨_, rfl, ld_agg (cs := [.int .i64 y34.Low, .int .i64 y34.High]) ag44 rfl (fun j v hj => own_sub hO (k := 1) rfl 0 2 j v hj)⟩, rfl, trivial⟩, ⟨rfl, hS.below⟩⟩
 ·refine WD_op rfl rfl (OpP_newO (v := fun b => .pointer (some ⟨b, 0, none⟩)) (cs := (cellsT (Tb.zero 64))) (e := 95) (by kernel_rfl) hS.sat hO rfl 64 1 (cellsT_len _) (by decide) (fun b10 w11 hb hO => ?_))
  have hS := hS.keep hb; refine ⟨fun _ _ => ⟨hS.sat, (hO.drop 0)⟩, ?_⟩; obtain ⟨y13, hy13, H⟩ := bnd H; refine WD_op rfl rfl (OpP_callV cb66 (f66_ok (x0 := x1) (x1 := 0) (x2 := IntKind.i64.wrap ((x0.Events.length : Int) - 1)) hS.sat  hy13) rfl rfl (fun w14 hb => ?_)); have hS := hS.keep hb; have hO := hO.below hb; refine ⟨fun _ _ => ⟨hS.sat, (hO.drop 0)⟩, ?_⟩; refine WD_op rfl rfl (OpP_val (rn_move (v := (.bool y13)) rfl) rfl ?_); refine ⟨fun _ _ => ⟨hS.sat, (hO.drop 0)⟩, ?_⟩
  rcases bcases y13 with hb15 | hb15
  ·have H := ifT hb15 H; refine WD_valY rfl rfl hb15 rfl rfl (fun w hw => rn_move (v := (.int .i64 x2)) rfl) rfl ?_; refine WD_opY rfl rfl rfl hb15 rfl rfl (OpP_val (rn_fld fd26_1 rfl) rfl ?_); refine ⟨fun _ _ => ⟨hS.sat, (hO.drop 0)⟩, ?_⟩; refine WD_opY rfl rfl rfl hb15 rfl rfl (OpP_val (rn_load na23 rfl (hS.sat.cell (hcb4 1 _ rfl))) rfl ?_); refine ⟨fun _ _ => ⟨hS.sat, (hO.drop 0)⟩, ?_⟩; refine WD_opY rfl rfl rfl hb15 rfl rfl (OpP_val (rn_len sl23 rfl rfl (h2.mono RTLandEvent_mono leG6).1) rfl ?_); refine ⟨fun _ _ => ⟨hS.sat, (hO.drop 0)⟩, ?_⟩; refine WD_opY rfl rfl rfl hb15 rfl rfl (OpP_val (rn_sub rfl rfl) rfl ?_); refine ⟨fun _ _ => ⟨hS.sat, (hO.drop 0)⟩, ?_⟩; obtain ⟨y16, hy16, H⟩ := bnd H; refine WD_opY rfl rfl rfl hb15 rfl rfl (OpP_callV cb66 (f66_ok (x0 := x2) (x1 := 0) (x2 := IntKind.i64.wrap ((x0.Events.length : Int) - 1)) hS.sat  hy16) rfl rfl (fun w17 hb => ?_)); have hS := hS.keep hb; have hO := hO.below hb; refine ⟨fun _ _ => ⟨hS.sat, (hO.drop 0)⟩, ?_⟩; refine WD_op rfl rfl (OpP_val (rn_pickT (v := (.bool y16)) rfl hb15 rfl) rfl ?_); refine ⟨fun _ _ => ⟨hS.sat, (hO.drop 0)⟩, ?_⟩; obtain ⟨y18, hy18, H⟩ := bnd H; refine WD_op rfl rfl (OpP_callV cb69 (f69_ok (x0 := x0) (x1 := y16) hS.sat (h1.mono RTLandPerson_mono leG6) (h2.mono RTLandEvent_mono leG6) (h3.mono RTLandMemory_mono leG6) hy18) rfl rfl (fun w19 hb => ?_)); have hS := hS.keep hb; have hO := hO.below hb; refine ⟨fun _ _ => ⟨hS.sat, (hO.drop 0)⟩, ?_⟩; refine WD_op rfl rfl (OpP_val (rn_move (v := (.tuple #[.agg (cellsT y18.1).toArray, .int .i64 y18.2])) rfl) rfl ?_); refine ⟨fun _ _ => ⟨hS.sat, (hO.drop 0)⟩, ?_⟩; refine WD_val rfl (fun w hw => rn_extract (v := (.agg (cellsT y18.1).toArray)) rfl rfl) rfl ?_; refine WD_val rfl (fun w hw => rn_extract (v := (.int .i64 y18.2)) rfl rfl) rfl ?_; refine WD_op rfl rfl (OpP_storeTT sz95 hS hO (k := 0) rfl rfl rfl (fun w20 hS hO => ?_))
   have hO : Owns G6 w20 w0.heap.size ([⟨95, 64, 1, .slice (some ⟨b10, 0, none⟩) 1 1, cellsT y18.1⟩, ⟨44, 2, 1, .slice (some ⟨b7, 0, none⟩) 1 1, [.int .i64 0, .int .i64 0]⟩]) := hO
   refine ⟨fun _ _ => ⟨hS.sat, (hO.drop 0)⟩, ?_⟩; refine WD_op rfl rfl (OpP_val (rn_assign (v := (.int .i64 y18.2)) rfl) rfl ?_)
   refine ⟨fun _ h => noneed (by kernel_rfl) h, ?_⟩
   refine WD_nil ?_; refine WC_seq ?_; refine WC_seq ?_; refine WC_region ?_; refine WL_val (rn_move (v := (.int .i64 y18.2)) rfl) rfl ?_; refine WL_val (rn_neq rfl rfl) rfl ?_; refine WL_nil ?_; refine WC_cond rfl (fun hb21 => ?_) (fun hb21 => ?_)
   ·have H := ifT hb21 H; refine WC_seq ?_; refine WC_region ?_
    refine WL_val (v := (.agg #[.int .i64 0, .int .i64 0])) (by kernel_rfl) rfl ?_
    refine WL_val (rn_move (v := (.int .i64 y18.2)) rfl) rfl ?_; refine WL_op rfl (OpP_store (vs := [.int .i64 0, .int .i64 0]) sz44 hS hO (k := 1) rfl rfl rfl rfl rfl (one_all rfl) (Nat.le_of_ble_eq_true rfl) (fun w22 hS hO => ?_))
    have hO : Owns G6 w22 w0.heap.size ([⟨95, 64, 1, .slice (some ⟨b10, 0, none⟩) 1 1, cellsT y18.1⟩, ⟨44, 2, 1, .slice (some ⟨b7, 0, none⟩) 1 1, [.int .i64 0, .int .i64 0]⟩]) := hO
    refine WL_val (rn_assign (v := (.int .i64 y18.2)) rfl) rfl ?_; refine WL_nil ?_; refine WC_ret ?_
    have H : some ((⟨0, 0⟩ : TSpan), y18.2) = some r := H
    have H := Option.some.inj H; subst H
    exact ⟨[.agg #[.int .i64 0, .int .i64 0], .int .i64 y18.2], ⟨⟨_, rfl, ld_agg (cs := [.int .i64 0, .int .i64 0]) ag44 rfl (fun j v hj => own_sub hO (k := 1) rfl 0 2 j v hj)⟩, rfl, trivial⟩, ⟨rfl, hS.below⟩⟩
   ·have H := ifF hb21 H; refine WC_skip ?_; refine WC_seq ?_; refine WC_region ?_; refine WL_val (rn_loadT ag95 hO (k := 0) rfl rfl) rfl ?_; refine WL_val (rn_move (v := (.int .i64 x1)) rfl) rfl ?_; refine WL_val (rn_move (v := (.int .i64 x2)) rfl) rfl ?_; obtain ⟨y23, hy23, H⟩ := bnd H; refine WL_op rfl (OpP_callV cb70 (f70_ok (x0 := y18.1) (x1 := x1) (x2 := x2) hS.sat  hy23) rfl rfl (fun w24 hb => ?_)); have hS := hS.keep hb; have hO := hO.below hb; refine WL_op rfl (OpP_store (vs := [.int .i64 y23.Low, .int .i64 y23.High]) sz44 hS hO (k := 1) rfl rfl rfl rfl rfl (one_all rfl) (Nat.le_of_ble_eq_true rfl) (fun w25 hS hO => ?_))
    have hO : Owns G6 w25 w0.heap.size ([⟨95, 64, 1, .slice (some ⟨b10, 0, none⟩) 1 1, cellsT y18.1⟩, ⟨44, 2, 1, .slice (some ⟨b7, 0, none⟩) 1 1, [.int .i64 y23.Low, .int .i64 y23.High]⟩]) := hO
    refine WL_val (rn_assign (v := (.int .i64 0)) rfl) rfl ?_; refine WL_nil ?_; refine WC_ret ?_
    have H : some (y23, 0) = some r := H
    have H := Option.some.inj H; subst H
    exact ⟨[.agg #[.int .i64 y23.Low, .int .i64 y23.High], .int .i64 0], ⟨⟨_, rfl, ld_agg (cs := [.int .i64 y23.Low, .int .i64 y23.High]) ag44 rfl (fun j v hj => own_sub hO (k := 1) rfl 0 2 j v hj)⟩, rfl, trivial⟩, ⟨rfl, hS.below⟩⟩
  ·have H := ifF hb15 H; refine WD_skip rfl rfl hb15 rfl rfl rfl ?_; refine WD_skipS rfl rfl hb15 rfl rfl rfl (fun _ _ => ⟨hS.sat, (hO.drop 0)⟩) ?_; refine WD_skipS rfl rfl hb15 rfl rfl rfl (fun _ _ => ⟨hS.sat, (hO.drop 0)⟩) ?_; refine WD_skipS rfl rfl hb15 rfl rfl rfl (fun _ _ => ⟨hS.sat, (hO.drop 0)⟩) ?_; refine WD_skipS rfl rfl hb15 rfl rfl rfl (fun _ _ => ⟨hS.sat, (hO.drop 0)⟩) ?_; refine WD_skipS rfl rfl hb15 rfl rfl rfl (fun _ _ => ⟨hS.sat, (hO.drop 0)⟩) ?_; refine WD_op rfl rfl (OpP_val (rn_pickF (v := (.bool false)) rfl hb15 rfl) rfl ?_); refine ⟨fun _ _ => ⟨hS.sat, (hO.drop 0)⟩, ?_⟩; obtain ⟨y26, hy26, H⟩ := bnd H; refine WD_op rfl rfl (OpP_callV cb69 (f69_ok (x0 := x0) (x1 := false) hS.sat (h1.mono RTLandPerson_mono leG6) (h2.mono RTLandEvent_mono leG6) (h3.mono RTLandMemory_mono leG6) hy26) rfl rfl (fun w27 hb => ?_)); have hS := hS.keep hb; have hO := hO.below hb; refine ⟨fun _ _ => ⟨hS.sat, (hO.drop 0)⟩, ?_⟩; refine WD_op rfl rfl (OpP_val (rn_move (v := (.tuple #[.agg (cellsT y26.1).toArray, .int .i64 y26.2])) rfl) rfl ?_); refine ⟨fun _ _ => ⟨hS.sat, (hO.drop 0)⟩, ?_⟩; refine WD_val rfl (fun w hw => rn_extract (v := (.agg (cellsT y26.1).toArray)) rfl rfl) rfl ?_; refine WD_val rfl (fun w hw => rn_extract (v := (.int .i64 y26.2)) rfl rfl) rfl ?_; refine WD_op rfl rfl (OpP_storeTT sz95 hS hO (k := 0) rfl rfl rfl (fun w28 hS hO => ?_))
   have hO : Owns G6 w28 w0.heap.size ([⟨95, 64, 1, .slice (some ⟨b10, 0, none⟩) 1 1, cellsT y26.1⟩, ⟨44, 2, 1, .slice (some ⟨b7, 0, none⟩) 1 1, [.int .i64 0, .int .i64 0]⟩]) := hO
   refine ⟨fun _ _ => ⟨hS.sat, (hO.drop 0)⟩, ?_⟩; refine WD_op rfl rfl (OpP_val (rn_assign (v := (.int .i64 y26.2)) rfl) rfl ?_)
   refine ⟨fun _ h => noneed (by kernel_rfl) h, ?_⟩
   refine WD_nil ?_; refine WC_seq ?_; refine WC_seq ?_; refine WC_region ?_; refine WL_val (rn_move (v := (.int .i64 y26.2)) rfl) rfl ?_; refine WL_val (rn_neq rfl rfl) rfl ?_; refine WL_nil ?_; refine WC_cond rfl (fun hb29 => ?_) (fun hb29 => ?_)
   ·have H := ifT hb29 H; refine WC_seq ?_; refine WC_region ?_
    refine WL_val (v := (.agg #[.int .i64 0, .int .i64 0])) (by kernel_rfl) rfl ?_
    refine WL_val (rn_move (v := (.int .i64 y26.2)) rfl) rfl ?_; refine WL_op rfl (OpP_store (vs := [.int .i64 0, .int .i64 0]) sz44 hS hO (k := 1) rfl rfl rfl rfl rfl (one_all rfl) (Nat.le_of_ble_eq_true rfl) (fun w30 hS hO => ?_))
    have hO : Owns G6 w30 w0.heap.size ([⟨95, 64, 1, .slice (some ⟨b10, 0, none⟩) 1 1, cellsT y26.1⟩, ⟨44, 2, 1, .slice (some ⟨b7, 0, none⟩) 1 1, [.int .i64 0, .int .i64 0]⟩]) := hO
    refine WL_val (rn_assign (v := (.int .i64 y26.2)) rfl) rfl ?_; refine WL_nil ?_; refine WC_ret ?_
    have H : some ((⟨0, 0⟩ : TSpan), y26.2) = some r := H
    have H := Option.some.inj H; subst H
    exact ⟨[.agg #[.int .i64 0, .int .i64 0], .int .i64 y26.2], ⟨⟨_, rfl, ld_agg (cs := [.int .i64 0, .int .i64 0]) ag44 rfl (fun j v hj => own_sub hO (k := 1) rfl 0 2 j v hj)⟩, rfl, trivial⟩, ⟨rfl, hS.below⟩⟩
   ·have H := ifF hb29 H; refine WC_skip ?_; refine WC_seq ?_; refine WC_region ?_; refine WL_val (rn_loadT ag95 hO (k := 0) rfl rfl) rfl ?_; refine WL_val (rn_move (v := (.int .i64 x1)) rfl) rfl ?_; refine WL_val (rn_move (v := (.int .i64 x2)) rfl) rfl ?_; obtain ⟨y31, hy31, H⟩ := bnd H; refine WL_op rfl (OpP_callV cb70 (f70_ok (x0 := y26.1) (x1 := x1) (x2 := x2) hS.sat  hy31) rfl rfl (fun w32 hb => ?_)); have hS := hS.keep hb; have hO := hO.below hb; refine WL_op rfl (OpP_store (vs := [.int .i64 y31.Low, .int .i64 y31.High]) sz44 hS hO (k := 1) rfl rfl rfl rfl rfl (one_all rfl) (Nat.le_of_ble_eq_true rfl) (fun w33 hS hO => ?_))
    have hO : Owns G6 w33 w0.heap.size ([⟨95, 64, 1, .slice (some ⟨b10, 0, none⟩) 1 1, cellsT y26.1⟩, ⟨44, 2, 1, .slice (some ⟨b7, 0, none⟩) 1 1, [.int .i64 y31.Low, .int .i64 y31.High]⟩]) := hO
    refine WL_val (rn_assign (v := (.int .i64 0)) rfl) rfl ?_; refine WL_nil ?_; refine WC_ret ?_
    have H : some (y31, 0) = some r := H
    have H := Option.some.inj H; subst H
    exact ⟨[.agg #[.int .i64 y31.Low, .int .i64 y31.High], .int .i64 0], ⟨⟨_, rfl, ld_agg (cs := [.int .i64 y31.Low, .int .i64 y31.High]) ag44 rfl (fun j v hj => own_sub hO (k := 1) rfl 0 2 j v hj)⟩, rfl, trivial⟩, ⟨rfl, hS.below⟩⟩
end Go.Proofs.YtcaflmilfhhikaaDoor
