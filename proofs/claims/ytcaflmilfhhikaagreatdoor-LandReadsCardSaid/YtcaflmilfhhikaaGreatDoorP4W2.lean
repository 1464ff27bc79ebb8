/-
  The walks: each Go function computes its plain function (printed by a program of ours).
-/
import Derived.Test.YtcaflmilfhhikaaGreatDoorAl
import Derived.Test.YtcaflmilfhhikaaGreatDoorRd
import Derived.Test.YtcaflmilfhhikaaGreatDoorBaseQ
import Derived.Test.YtcaflmilfhhikaaGreatDoorBaseU
import Derived.Test.YtcaflmilfhhikaaGreatDoorIt
import Derived.Test.YtcaflmilfhhikaaGreatDoorLib
import Derived.Test.YtcaflmilfhhikaaGreatDoorBu
import Derived.Test.YtcaflmilfhhikaaGreatDoorP4W1
namespace Go.Proofs.YtcaflmilfhhikaaGreatDoor
open Go.RowKit
set_option linter.unusedVariables false

set_option maxRecDepth 20000
set_option linter.unusedVariables false
set_option maxHeartbeats 1000000 in
theorem f35_ok {G0 : Gm} {w0 : World} (hS0 : Sat G0 w0) {x0 : TLandBook} {a1 : Option Addr} {n1 c1 : Nat} {a2 : Option Addr} {n2 c2 : Nat} {a3 : Option Addr} {n3 c3 : Nat} {x1 : Bool} (h1 : RSl RTLandPerson 2 G0 a1 n1 c1 x0.People) (h2 : RSl RTLandEvent 2 G0 a2 n2 c2 x0.Events) (h3 : RSl RTLandMemory 4 G0 a3 n3 c3 x0.Memories) {r : (Tb 64) × Int} (H : f35 x0 x1 = some r) :
  Calls Tryz.prog 35 #[.agg #[zl a1 n1 c1, zl a2 n2 c2, zl a3 n3 c3], .bool x1] w0 (RetV w0 (.tuple #[.agg (cellsT r.1).toArray, zi r.2])) := by
 have hS := Since.start hS0
 have hO : Owns G0 w0 w0.heap.size [] := Owns.nil (Nat.le_refl _)
 unfold f35 at H
 refine enterG (N := 29) (shutV _ _) [.cell 4 72, .tmp 5] Tryz.func35 rfl rfl rfl rfl ?_; refine zS ?_; refine zO rfl (zW (v := fun b => zp b) (cs := [zl a1 n1 c1, zl a2 n2 c2, zl a3 n3 c3]) (e := 26) (rn_boxA rfl) hS.sat rfl (fun b4 G6 w5 hg hcb4 => ?_)); have hS := hS.grow hg; have hO := hO.grow hg
 have leG6 := hg.le
 refine zO rfl (zU (v := fun b => zp b) (cs := (cellsT (Tb.zero 64))) (e := 72) (by kernel_rfl) hS.sat hO rfl 64 1 (cellsT_len _) (by decide) (fun b7 w8 hb hO => ?_))
 have hS := hS.keep hb; refine zy (zi 0) rfl rfl ?_; refine zN ?_; refine zQ ?_; refine zQ ?_; obtain ⟨q10, hq10, H⟩ := bnd H; refine zM (fun F w => ∃ (Fb : Fr) (G : Gm), F = upds Fb [(2, zp b4), (4, zp b7), (14, .bool q10)] ∧ Gle G6 G ∧ Since w0.heap.size G0 w0 G w ∧ Owns G w w0.heap.size [⟨72, 64, 1, zl (some ⟨b7, 0, none⟩) 1 1, cellsT (Tb.zero 64)⟩]) ?_ ?_
 ·have Hoq10 := H; have H := hq10; refine zR ?_; refine zV (rn_loadA ag26 (cs := [zl a1 n1 c1, zl a2 n2 c2, zl a3 n3 c3]) rfl rfl (fun j v hj => hS.sat.cell (hcb4.drop_take 0 3 j v hj))) rfl ?_; obtain ⟨y11, hy11, H⟩ := bnd H; refine zO rfl (zC cb22 (f22_ok (x0 := x0) hS.sat (h1.mono RTLandPerson_mono leG6) (h2.mono RTLandEvent_mono leG6) (h3.mono RTLandMemory_mono leG6) hy11) rfl rfl (fun w12 hb => ?_)); have hS := hS.keep hb; have hO := hO.below hb; refine zV (rn_not rfl) rfl ?_; refine zx (.bool (!y11)) rfl rfl ?_
  rcases bcases (!y11) with hb13 | hb13
  ·have H := ifT hb13 H; refine zG rfl hb13 rfl rfl rfl ?_; refine zG rfl hb13 rfl rfl rfl ?_; refine zV (rn_pickT (v := (.bool true)) rfl hb13 rfl) rfl ?_; refine zN ?_
   have hO : Owns _ _ _ ([⟨72, 64, 1, zl (some ⟨b7, 0, none⟩) 1 1, cellsT (Tb.zero 64)⟩]) := hO
   have H := oi H; subst H
   exact ⟨_, G6, upds_self _ _ ⟨rfl, rfl, rfl, trivial⟩, Gle.refl _, hS, hO⟩
  ·have H := ifF hb13 H; refine zY rfl hb13 rfl rfl ?_; refine zx (.bool x1) rfl rfl ?_; refine zY rfl hb13 rfl rfl ?_; refine zV (rn_not rfl) rfl ?_; refine zV (rn_pickF (v := (.bool (!x1))) rfl hb13 rfl) rfl ?_; refine zN ?_
   have hO : Owns _ _ _ ([⟨72, 64, 1, zl (some ⟨b7, 0, none⟩) 1 1, cellsT (Tb.zero 64)⟩]) := hO
   have H := oi H; subst H
   exact ⟨_, G6, upds_self _ _ ⟨rfl, rfl, rfl, trivial⟩, Gle.refl _, hS, hO⟩
 ·rintro F w14 ⟨Fb, G15, rfl, leG15, hS, hO⟩
  refine zT rfl (fun hb16 => ?_) (fun hb16 => ?_)
  ·have H := ifT hb16 H; refine zS ?_
   refine zV (v := (.agg (cellsT (Tb.zero 64)).toArray)) (by kernel_rfl) rfl ?_
   refine zO rfl (OpP_storeTT sz72 hS hO (k := 0) rfl rfl rfl (fun w17 hS hO => ?_))
   have hO : Owns _ _ _ ([⟨72, 64, 1, zl (some ⟨b7, 0, none⟩) 1 1, cellsT (Tb.zero 64)⟩]) := hO
   refine zy (zi 2) rfl rfl ?_; refine zN ?_; refine WC_ret ?_
   have H : some (Tb.zero 64, 2) = some r := H
   have H := oi H; subst H
   exact ⟨[.agg (cellsT (Tb.zero 64)).toArray, zi 2], ⟨⟨_, rfl, ld_agg (cs := (cellsT (Tb.zero 64))) ag72 (cellsT_len _) (fun j v hj => by rw [Nat.zero_add]; exact own_cell hO (k := 0) rfl hj)⟩, rfl, trivial⟩, ⟨rfl, hS.below⟩⟩
  ·have H := ifF hb16 H; refine zP ?_; refine zQ ?_; have hS := hS.keep (below_drew _); have hO := hO.below (below_drew _)
   refine WC_regionD mixedO (fun _ w => Sat G15 w ∧ Owns G15 w w0.heap.size [⟨72, 64, 1, zl (some ⟨b7, 0, none⟩) 1 1, cellsT (Tb.zero 64)⟩]) (.fl 0 (.fl 2 (.two 1 (.two 3 (.two 4 (.two 5 (.fl 6 (.fl 7 (.fl 8 (.on 9 (.on 10 (.on 11 .nil)))))) 9 (.on 5 (.on 6 (.fl 7 (.fl 8 (.on 10 (.on 11 .nil))))))) 9 (.on 4 (.on 5 (.on 6 (.fl 7 (.fl 8 (.on 10 (.on 11 .nil)))))))) 9 (.on 3 (.on 4 (.on 5 (.on 6 (.fl 7 (.fl 8 (.on 10 (.on 11 .nil))))))))) 9 (.on 1 (.on 3 (.on 4 (.on 5 (.on 6 (.fl 7 (.fl 8 (.on 10 (.on 11 .nil)))))))))))) (by kernel_rfl) rfl (by kernel_rfl) (fun _ => ⟨hS.sat, hO⟩) ?_
   refine zD rfl (fun w hw => rn_loadA ag26 (cs := [zl a1 n1 c1, zl a2 n2 c2, zl a3 n3 c3]) rfl rfl (fun j v hj => (hw.1.le leG15).cell (hcb4.drop_take 0 3 j v hj))) rfl ?_; refine zD rfl (fun w hw => rn_loadA ag26 (cs := [zl a1 n1 c1, zl a2 n2 c2, zl a3 n3 c3]) rfl rfl (fun j v hj => (hw.1.le leG15).cell (hcb4.drop_take 0 3 j v hj))) rfl ?_; refine WD_two ?_ ?_
   ·refine zE rfl rfl (OpP_in1 (N' := 7) [.agg #[zl a1 n1 c1, zl a2 n2 c2, zl a3 n3 c3]] cb38 Tryz.func38 rfl rfl rfl rfl rfl rfl ?_); refine zS ?_; refine zO rfl (zW (v := fun b => zp b) (cs := [zl a1 n1 c1, zl a2 n2 c2, zl a3 n3 c3]) (e := 26) (rn_boxA rfl) hS.sat rfl (fun b18 G20 w19 hg hcb18 => ?_)); have hS := hS.grow hg; have hO := hO.grow hg
    have leG20 := hg.le
    refine zy (.pointer none) rfl rfl ?_; refine zN ?_; refine zS ?_; refine zV (rn_loadA ag26 (cs := [zl a1 n1 c1, zl a2 n2 c2, zl a3 n3 c3]) rfl rfl (fun j v hj => hS.sat.cell (hcb18.drop_take 0 3 j v hj))) rfl ?_; refine zO rfl (OpP_makeMap (e := 79) hS hO rfl (fun r21 w22 hS hO => ?_))
    have hO : Owns _ _ _ ([⟨79, 2, ([] : (List (Int × Bool))).length, .map (some r21), kvs kvI vvB ([] : (List (Int × Bool)))⟩, ⟨72, 64, 1, zl (some ⟨b7, 0, none⟩) 1 1, cellsT (Tb.zero 64)⟩]) := hO
    refine zV (v := (.agg #[zl a1 n1 c1, zl a2 n2 c2, zl a3 n3 c3, .map (some r21)])) (by kernel_rfl) rfl ?_
    refine zO rfl (zW (v := fun b => zp b) (cs := [zl a1 n1 c1, zl a2 n2 c2, zl a3 n3 c3, .map (some r21)]) (e := 119) (rn_boxA rfl) hS.sat rfl (fun b24 G26 w25 hg hcb24 => ?_)); have hS := hS.grow hg; have hO := hO.grow hg
    have leG26 := hg.le
    refine zy (zp b24) rfl rfl ?_; refine zN ?_; refine WC_ret ?_; refine ⟨(zp b24), rfl, ?_⟩
    have hO : Owns _ _ _ ([⟨79, 2, ([] : (List (Int × Bool))).length, .map (some r21), kvs kvI vvB ([] : (List (Int × Bool)))⟩, ⟨72, 64, 1, zl (some ⟨b7, 0, none⟩) 1 1, cellsT (Tb.zero 64)⟩]) := hO
    have l2_4 := leG20.trans leG26
    refine ⟨fun _ _ => ⟨hS.sat.le l2_4, (hO.drop 0).le l2_4⟩, ?_⟩; refine WD_two ?_ ?_
    ·refine zE rfl rfl (OpP_in1 (N' := 7) [.agg #[zl a1 n1 c1, zl a2 n2 c2, zl a3 n3 c3]] cb38 Tryz.func38 rfl rfl rfl rfl rfl rfl ?_); refine zS ?_; refine zO rfl (zW (v := fun b => zp b) (cs := [zl a1 n1 c1, zl a2 n2 c2, zl a3 n3 c3]) (e := 26) (rn_boxA rfl) hS.sat rfl (fun b27 G29 w28 hg hcb27 => ?_)); have hS := hS.grow hg; have hO := hO.grow hg
     have leG29 := hg.le
     refine zy (.pointer none) rfl rfl ?_; refine zN ?_; refine zS ?_; refine zV (rn_loadA ag26 (cs := [zl a1 n1 c1, zl a2 n2 c2, zl a3 n3 c3]) rfl rfl (fun j v hj => hS.sat.cell (hcb27.drop_take 0 3 j v hj))) rfl ?_; refine zO rfl (OpP_makeMap (e := 79) hS hO rfl (fun r30 w31 hS hO => ?_))
     have hO : Owns _ _ _ ([⟨79, 2, ([] : (List (Int × Bool))).length, .map (some r30), kvs kvI vvB ([] : (List (Int × Bool)))⟩, ⟨79, 2, ([] : (List (Int × Bool))).length, .map (some r21), kvs kvI vvB ([] : (List (Int × Bool)))⟩, ⟨72, 64, 1, zl (some ⟨b7, 0, none⟩) 1 1, cellsT (Tb.zero 64)⟩]) := hO
     refine zV (v := (.agg #[zl a1 n1 c1, zl a2 n2 c2, zl a3 n3 c3, .map (some r30)])) (by kernel_rfl) rfl ?_
     refine zO rfl (zW (v := fun b => zp b) (cs := [zl a1 n1 c1, zl a2 n2 c2, zl a3 n3 c3, .map (some r30)]) (e := 119) (rn_boxA rfl) hS.sat rfl (fun b33 G35 w34 hg hcb33 => ?_)); have hS := hS.grow hg; have hO := hO.grow hg
     have leG35 := hg.le
     refine zy (zp b33) rfl rfl ?_; refine zN ?_; refine WC_ret ?_; refine ⟨(zp b33), rfl, ?_⟩
     have hO : Owns _ _ _ ([⟨79, 2, ([] : (List (Int × Bool))).length, .map (some r30), kvs kvI vvB ([] : (List (Int × Bool)))⟩, ⟨79, 2, ([] : (List (Int × Bool))).length, .map (some r21), kvs kvI vvB ([] : (List (Int × Bool)))⟩, ⟨72, 64, 1, zl (some ⟨b7, 0, none⟩) 1 1, cellsT (Tb.zero 64)⟩]) := hO
     have l2_6 := (l2_4.trans leG29).trans leG35
     refine ⟨fun _ _ => ⟨hS.sat.le l2_6, ((hO.drop 1).drop 0).le l2_6⟩, ?_⟩; refine WD_two ?_ ?_
     ·have l0_6 := (leG6.trans leG15).trans l2_6
      obtain ⟨y36, hy36, H⟩ := bnd H
      have hx38 := f40_ok (x0 := x0) hS.sat hcb33 (h1.mono RTLandPerson_mono l0_6) (h2.mono RTLandEvent_mono l0_6) (h3.mono RTLandMemory_mono l0_6) hy36
      refine zE rfl rfl (zC cb40 hx38 rfl rfl (fun w37 hb => ?_)); have hS := hS.keep hb; have hO := hO.below hb; refine ⟨fun _ _ => ⟨hS.sat.le l2_6, ((hO.drop 1).drop 0).le l2_6⟩, ?_⟩; refine WD_two ?_ ?_
      ·have l4_6 := leG29.trans leG35
       obtain ⟨y39, hy39, H⟩ := bnd H
       have hx41 := f63_ok (x0 := x0) (x1 := y36) hS.sat (hcb24.mono l4_6) (h1.mono RTLandPerson_mono l0_6) (h2.mono RTLandEvent_mono l0_6) (h3.mono RTLandMemory_mono l0_6) hy39
       refine zE rfl rfl (zC cb63 hx41 rfl rfl (fun w40 hb => ?_)); have hS := hS.keep hb; have hO := hO.below hb; refine ⟨fun _ _ => ⟨hS.sat.le l2_6, ((hO.drop 1).drop 0).le l2_6⟩, ?_⟩; refine zD rfl (fun w hw => zm (v := (.tuple #[.agg (cellsT y39.1).toArray, .bool y39.2])) rfl) rfl ?_; refine zD rfl (fun w hw => zX (v := (.agg (cellsT y39.1).toArray)) rfl rfl) rfl ?_; refine zD rfl (fun w hw => zX (v := (.bool y39.2)) rfl rfl) rfl ?_
       refine zE rfl rfl (zU (v := fun b => zp b) (cs := (cellsT (Tb.zero 64))) (e := 72) (by kernel_rfl) hS.sat hO rfl 64 1 (cellsT_len _) (by decide) (fun b42 w43 hb hO => ?_))
       have hS := hS.keep hb; refine ⟨fun _ _ => ⟨hS.sat.le l2_6, (((hO.drop 2).drop 1).drop 0).le l2_6⟩, ?_⟩; refine zE rfl rfl (OpP_storeTT sz72 hS hO (k := 0) rfl rfl rfl (fun w45 hS hO => ?_))
       have hO : Owns _ _ _ ([⟨72, 64, 1, zl (some ⟨b42, 0, none⟩) 1 1, cellsT y39.1⟩, ⟨79, 2, ([] : (List (Int × Bool))).length, .map (some r30), kvs kvI vvB ([] : (List (Int × Bool)))⟩, ⟨79, 2, ([] : (List (Int × Bool))).length, .map (some r21), kvs kvI vvB ([] : (List (Int × Bool)))⟩, ⟨72, 64, 1, zl (some ⟨b7, 0, none⟩) 1 1, cellsT (Tb.zero 64)⟩]) := hO
       refine ⟨fun _ _ => ⟨hS.sat.le l2_6, (((hO.drop 2).drop 1).drop 0).le l2_6⟩, ?_⟩; refine zE rfl rfl (OpP_val (zA (v := (.bool y39.2)) rfl) rfl ?_)
       refine ⟨fun _ h => noneed (by kernel_rfl) h, ?_⟩
       refine zI ?_; refine zQ ?_; refine zS ?_; refine zx (.bool y39.2) rfl rfl ?_; refine zV (rn_not rfl) rfl ?_; refine zN ?_; refine zT rfl (fun hb46 => ?_) (fun hb46 => ?_)
       ·have H := ifT hb46 H; refine zS ?_
        refine zV (v := (.agg (cellsT (Tb.zero 64)).toArray)) (by kernel_rfl) rfl ?_
        refine zO rfl (OpP_storeTT sz72 hS hO (k := 3) rfl rfl rfl (fun w47 hS hO => ?_))
        have hO : Owns _ _ _ ([⟨72, 64, 1, zl (some ⟨b42, 0, none⟩) 1 1, cellsT y39.1⟩, ⟨79, 2, ([] : (List (Int × Bool))).length, .map (some r30), kvs kvI vvB ([] : (List (Int × Bool)))⟩, ⟨79, 2, ([] : (List (Int × Bool))).length, .map (some r21), kvs kvI vvB ([] : (List (Int × Bool)))⟩, ⟨72, 64, 1, zl (some ⟨b7, 0, none⟩) 1 1, cellsT (Tb.zero 64)⟩]) := hO
        refine zy (zi 7) rfl rfl ?_; refine zN ?_; refine WC_ret ?_
        have H : some (Tb.zero 64, 7) = some r := H
        have H := oi H; subst H
        exact ⟨[.agg (cellsT (Tb.zero 64)).toArray, zi 7], ⟨⟨_, rfl, ld_agg (cs := (cellsT (Tb.zero 64))) ag72 (cellsT_len _) (fun j v hj => by rw [Nat.zero_add]; exact own_cell hO (k := 3) rfl hj)⟩, rfl, trivial⟩, ⟨rfl, hS.below⟩⟩
       ·have H := ifF hb46 H; refine zP ?_; refine zS ?_; refine zV (rn_loadT ag72 hO (k := 0) rfl rfl) rfl ?_; refine zO rfl (OpP_storeTT sz72 hS hO (k := 3) rfl rfl rfl (fun w48 hS hO => ?_))
        have hO : Owns _ _ _ ([⟨72, 64, 1, zl (some ⟨b42, 0, none⟩) 1 1, cellsT y39.1⟩, ⟨79, 2, ([] : (List (Int × Bool))).length, .map (some r30), kvs kvI vvB ([] : (List (Int × Bool)))⟩, ⟨79, 2, ([] : (List (Int × Bool))).length, .map (some r21), kvs kvI vvB ([] : (List (Int × Bool)))⟩, ⟨72, 64, 1, zl (some ⟨b7, 0, none⟩) 1 1, cellsT y39.1⟩]) := hO
        refine zy (zi 0) rfl rfl ?_; refine zN ?_; refine WC_ret ?_
        have H : some (y39.1, 0) = some r := H
        have H := oi H; subst H
        exact ⟨[.agg (cellsT y39.1).toArray, zi 0], ⟨⟨_, rfl, ld_agg (cs := (cellsT y39.1)) ag72 (cellsT_len _) (fun j v hj => by rw [Nat.zero_add]; exact own_cell hO (k := 3) rfl hj)⟩, rfl, trivial⟩, ⟨rfl, hS.below⟩⟩
      ·refine zE rfl rfl (zU (v := fun b => zp b) (cs := (cellsT (Tb.zero 64))) (e := 72) (by kernel_rfl) hS.sat hO rfl 64 1 (cellsT_len _) (by decide) (fun b39 w40 hb hO => ?_))
       have hS := hS.keep hb; refine ⟨fun _ _ => ⟨hS.sat.le l2_6, (((hO.drop 2).drop 1).drop 0).le l2_6⟩, ?_⟩
       have l4_6 := leG29.trans leG35
       obtain ⟨y42, hy42, H⟩ := bnd H
       have hx44 := f63_ok (x0 := x0) (x1 := y36) hS.sat (hcb24.mono l4_6) (h1.mono RTLandPerson_mono l0_6) (h2.mono RTLandEvent_mono l0_6) (h3.mono RTLandMemory_mono l0_6) hy42
       refine zE rfl rfl (zC cb63 hx44 rfl rfl (fun w43 hb => ?_)); have hS := hS.keep hb; have hO := hO.below hb; refine ⟨fun _ _ => ⟨hS.sat.le l2_6, (((hO.drop 2).drop 1).drop 0).le l2_6⟩, ?_⟩; refine zE rfl rfl (OpP_val (zm (v := (.tuple #[.agg (cellsT y42.1).toArray, .bool y42.2])) rfl) rfl ?_); refine ⟨fun _ _ => ⟨hS.sat.le l2_6, (((hO.drop 2).drop 1).drop 0).le l2_6⟩, ?_⟩; refine zD rfl (fun w hw => zX (v := (.agg (cellsT y42.1).toArray)) rfl rfl) rfl ?_; refine zD rfl (fun w hw => zX (v := (.bool y42.2)) rfl rfl) rfl ?_; refine zE rfl rfl (OpP_storeTT sz72 hS hO (k := 0) rfl rfl rfl (fun w45 hS hO => ?_))
       have hO : Owns _ _ _ ([⟨72, 64, 1, zl (some ⟨b39, 0, none⟩) 1 1, cellsT y42.1⟩, ⟨79, 2, ([] : (List (Int × Bool))).length, .map (some r30), kvs kvI vvB ([] : (List (Int × Bool)))⟩, ⟨79, 2, ([] : (List (Int × Bool))).length, .map (some r21), kvs kvI vvB ([] : (List (Int × Bool)))⟩, ⟨72, 64, 1, zl (some ⟨b7, 0, none⟩) 1 1, cellsT (Tb.zero 64)⟩]) := hO
       refine ⟨fun _ _ => ⟨hS.sat.le l2_6, (((hO.drop 2).drop 1).drop 0).le l2_6⟩, ?_⟩; refine zE rfl rfl (OpP_val (zA (v := (.bool y42.2)) rfl) rfl ?_)
       refine ⟨fun _ h => noneed (by kernel_rfl) h, ?_⟩
       refine zI ?_; refine zQ ?_; refine zS ?_; refine zx (.bool y42.2) rfl rfl ?_; refine zV (rn_not rfl) rfl ?_; refine zN ?_; refine zT rfl (fun hb46 => ?_) (fun hb46 => ?_)
       ·have H := ifT hb46 H; refine zS ?_
        refine zV (v := (.agg (cellsT (Tb.zero 64)).toArray)) (by kernel_rfl) rfl ?_
        refine zO rfl (OpP_storeTT sz72 hS hO (k := 3) rfl rfl rfl (fun w47 hS hO => ?_))
        have hO : Owns _ _ _ ([⟨72, 64, 1, zl (some ⟨b39, 0, none⟩) 1 1, cellsT y42.1⟩, ⟨79, 2, ([] : (List (Int × Bool))).length, .map (some r30), kvs kvI vvB ([] : (List (Int × Bool)))⟩, ⟨79, 2, ([] : (List (Int × Bool))).length, .map (some r21), kvs kvI vvB ([] : (List (Int × Bool)))⟩, ⟨72, 64, 1, zl (some ⟨b7, 0, none⟩) 1 1, cellsT (Tb.zero 64)⟩]) := hO
        refine zy (zi 7) rfl rfl ?_; refine zN ?_; refine WC_ret ?_
        have H : some (Tb.zero 64, 7) = some r := H
        have H := oi H; subst H
        exact ⟨[.agg (cellsT (Tb.zero 64)).toArray, zi 7], ⟨⟨_, rfl, ld_agg (cs := (cellsT (Tb.zero 64))) ag72 (cellsT_len _) (fun j v hj => by rw [Nat.zero_add]; exact own_cell hO (k := 3) rfl hj)⟩, rfl, trivial⟩, ⟨rfl, hS.below⟩⟩
       ·have H := ifF hb46 H; refine zP ?_; refine zS ?_; refine zV (rn_loadT ag72 hO (k := 0) rfl rfl) rfl ?_; refine zO rfl (OpP_storeTT sz72 hS hO (k := 3) rfl rfl rfl (fun w48 hS hO => ?_))
        have hO : Owns _ _ _ ([⟨72, 64, 1, zl (some ⟨b39, 0, none⟩) 1 1, cellsT y42.1⟩, ⟨79, 2, ([] : (List (Int × Bool))).length, .map (some r30), kvs kvI vvB ([] : (List (Int × Bool)))⟩, ⟨79, 2, ([] : (List (Int × Bool))).length, .map (some r21), kvs kvI vvB ([] : (List (Int × Bool)))⟩, ⟨72, 64, 1, zl (some ⟨b7, 0, none⟩) 1 1, cellsT y42.1⟩]) := hO
        refine zy (zi 0) rfl rfl ?_; refine zN ?_; refine WC_ret ?_
        have H : some (y42.1, 0) = some r := H
        have H := oi H; subst H
        exact ⟨[.agg (cellsT y42.1).toArray, zi 0], ⟨⟨_, rfl, ld_agg (cs := (cellsT y42.1)) ag72 (cellsT_len _) (fun j v hj => by rw [Nat.zero_add]; exact own_cell hO (k := 3) rfl hj)⟩, rfl, trivial⟩, ⟨rfl, hS.below⟩⟩
     ·refine zE rfl rfl (zU (v := fun b => zp b) (cs := (cellsT (Tb.zero 64))) (e := 72) (by kernel_rfl) hS.sat hO rfl 64 1 (cellsT_len _) (by decide) (fun b36 w37 hb hO => ?_))
      have hS := hS.keep hb; refine ⟨fun _ _ => ⟨hS.sat.le l2_6, (((hO.drop 2).drop 1).drop 0).le l2_6⟩, ?_⟩
      have l0_6 := (leG6.trans leG15).trans l2_6
      obtain ⟨y39, hy39, H⟩ := bnd H
      have hx41 := f40_ok (x0 := x0) hS.sat hcb33 (h1.mono RTLandPerson_mono l0_6) (h2.mono RTLandEvent_mono l0_6) (h3.mono RTLandMemory_mono l0_6) hy39
      refine zE rfl rfl (zC cb40 hx41 rfl rfl (fun w40 hb => ?_)); have hS := hS.keep hb; have hO := hO.below hb; refine ⟨fun _ _ => ⟨hS.sat.le l2_6, (((hO.drop 2).drop 1).drop 0).le l2_6⟩, ?_⟩
      have l4_6 := leG29.trans leG35
      obtain ⟨y42, hy42, H⟩ := bnd H
      have hx44 := f63_ok (x0 := x0) (x1 := y39) hS.sat (hcb24.mono l4_6) (h1.mono RTLandPerson_mono l0_6) (h2.mono RTLandEvent_mono l0_6) (h3.mono RTLandMemory_mono l0_6) hy42
      refine zE rfl rfl (zC cb63 hx44 rfl rfl (fun w43 hb => ?_)); have hS := hS.keep hb; have hO := hO.below hb; refine ⟨fun _ _ => ⟨hS.sat.le l2_6, (((hO.drop 2).drop 1).drop 0).le l2_6⟩, ?_⟩; refine zE rfl rfl (OpP_val (zm (v := (.tuple #[.agg (cellsT y42.1).toArray, .bool y42.2])) rfl) rfl ?_); refine ⟨fun _ _ => ⟨hS.sat.le l2_6, (((hO.drop 2).drop 1).drop 0).le l2_6⟩, ?_⟩; refine zD rfl (fun w hw => zX (v := (.agg (cellsT y42.1).toArray)) rfl rfl) rfl ?_; refine zD rfl (fun w hw => zX (v := (.bool y42.2)) rfl rfl) rfl ?_; refine zE rfl rfl (OpP_storeTT sz72 hS hO (k := 0) rfl rfl rfl (fun w45 hS hO => ?_))
      have hO : Owns _ _ _ ([⟨72, 64, 1, zl (some ⟨b36, 0, none⟩) 1 1, cellsT y42.1⟩, ⟨79, 2, ([] : (List (Int × Bool))).length, .map (some r30), kvs kvI vvB ([] : (List (Int × Bool)))⟩, ⟨79, 2, ([] : (List (Int × Bool))).length, .map (some r21), kvs kvI vvB ([] : (List (Int × Bool)))⟩, ⟨72, 64, 1, zl (some ⟨b7, 0, none⟩) 1 1, cellsT (Tb.zero 64)⟩]) := hO
      refine ⟨fun _ _ => ⟨hS.sat.le l2_6, (((hO.drop 2).drop 1).drop 0).le l2_6⟩, ?_⟩; refine zE rfl rfl (OpP_val (zA (v := (.bool y42.2)) rfl) rfl ?_)
      refine ⟨fun _ h => noneed (by kernel_rfl) h, ?_⟩
      refine zI ?_; refine zQ ?_; refine zS ?_; refine zx (.bool y42.2) rfl rfl ?_; refine zV (rn_not rfl) rfl ?_; refine zN ?_; refine zT rfl (fun hb46 => ?_) (fun hb46 => ?_)
      ·have H := ifT hb46 H; refine zS ?_
       refine zV (v := (.agg (cellsT (Tb.zero 64)).toArray)) (by kernel_rfl) rfl ?_
       refine zO rfl (OpP_storeTT sz72 hS hO (k := 3) rfl rfl rfl (fun w47 hS hO => ?_))
       have hO : Owns _ _ _ ([⟨72, 64, 1, zl (some ⟨b36, 0, none⟩) 1 1, cellsT y42.1⟩, ⟨79, 2, ([] : (List (Int × Bool))).length, .map (some r30), kvs kvI vvB ([] : (List (Int × Bool)))⟩, ⟨79, 2, ([] : (List (Int × Bool))).length, .map (some r21), kvs kvI vvB ([] : (List (Int × Bool)))⟩, ⟨72, 64, 1, zl (some ⟨b7, 0, none⟩) 1 1, cellsT (Tb.zero 64)⟩]) := hO
       refine zy (zi 7) rfl rfl ?_; refine zN ?_; refine WC_ret ?_
       have H : some (Tb.zero 64, 7) = some r := H
       have H := oi H; subst H
       exact ⟨[.agg (cellsT (Tb.zero 64)).toArray, zi 7], ⟨⟨_, rfl, ld_agg (cs := (cellsT (Tb.zero 64))) ag72 (cellsT_len _) (fun j v hj => by rw [Nat.zero_add]; exact own_cell hO (k := 3) rfl hj)⟩, rfl, trivial⟩, ⟨rfl, hS.below⟩⟩
      ·have H := ifF hb46 H; refine zP ?_; refine zS ?_; refine zV (rn_loadT ag72 hO (k := 0) rfl rfl) rfl ?_; refine zO rfl (OpP_storeTT sz72 hS hO (k := 3) rfl rfl rfl (fun w48 hS hO => ?_))
       have hO : Owns _ _ _ ([⟨72, 64, 1, zl (some ⟨b36, 0, none⟩) 1 1, cellsT y42.1⟩, ⟨79, 2, ([] : (List (Int × Bool))).length, .map (some r30), kvs kvI vvB ([] : (List (Int × Bool)))⟩, ⟨79, 2, ([] : (List (Int × Bool))).length, .map (some r21), kvs kvI vvB ([] : (List (Int × Bool)))⟩, ⟨72, 64, 1, zl (some ⟨b7, 0, none⟩) 1 1, cellsT y42.1⟩]) := hO
       refine zy (zi 0) rfl rfl ?_; refine zN ?_; refine WC_ret ?_
       have H : some (y42.1, 0) = some r := H
       have H := oi H; subst H
       exact ⟨[.agg (cellsT y42.1).toArray, zi 0], ⟨⟨_, rfl, ld_agg (cs := (cellsT y42.1)) ag72 (cellsT_len _) (fun j v hj => by rw [Nat.zero_add]; exact own_cell hO (k := 3) rfl hj)⟩, rfl, trivial⟩, ⟨rfl, hS.below⟩⟩
    ·refine zE rfl rfl (zU (v := fun b => zp b) (cs := (cellsT (Tb.zero 64))) (e := 72) (by kernel_rfl) hS.sat hO rfl 64 1 (cellsT_len _) (by decide) (fun b27 w28 hb hO => ?_))
     have hS := hS.keep hb; refine ⟨fun _ _ => ⟨hS.sat.le l2_4, ((hO.drop 1).drop 0).le l2_4⟩, ?_⟩; refine zE rfl rfl (OpP_in1 (N' := 7) [.agg #[zl a1 n1 c1, zl a2 n2 c2, zl a3 n3 c3]] cb38 Tryz.func38 rfl rfl rfl rfl rfl rfl ?_); refine zS ?_; refine zO rfl (zW (v := fun b => zp b) (cs := [zl a1 n1 c1, zl a2 n2 c2, zl a3 n3 c3]) (e := 26) (rn_boxA rfl) hS.sat rfl (fun b30 G32 w31 hg hcb30 => ?_)); have hS := hS.grow hg; have hO := hO.grow hg
     have leG32 := hg.le
     refine zy (.pointer none) rfl rfl ?_; refine zN ?_; refine zS ?_; refine zV (rn_loadA ag26 (cs := [zl a1 n1 c1, zl a2 n2 c2, zl a3 n3 c3]) rfl rfl (fun j v hj => hS.sat.cell (hcb30.drop_take 0 3 j v hj))) rfl ?_; refine zO rfl (OpP_makeMap (e := 79) hS hO rfl (fun r33 w34 hS hO => ?_))
     have hO : Owns _ _ _ ([⟨79, 2, ([] : (List (Int × Bool))).length, .map (some r33), kvs kvI vvB ([] : (List (Int × Bool)))⟩, ⟨72, 64, 1, zl (some ⟨b27, 0, none⟩) 1 1, cellsT (Tb.zero 64)⟩, ⟨79, 2, ([] : (List (Int × Bool))).length, .map (some r21), kvs kvI vvB ([] : (List (Int × Bool)))⟩, ⟨72, 64, 1, zl (some ⟨b7, 0, none⟩) 1 1, cellsT (Tb.zero 64)⟩]) := hO
     refine zV (v := (.agg #[zl a1 n1 c1, zl a2 n2 c2, zl a3 n3 c3, .map (some r33)])) (by kernel_rfl) rfl ?_
     refine zO rfl (zW (v := fun b => zp b) (cs := [zl a1 n1 c1, zl a2 n2 c2, zl a3 n3 c3, .map (some r33)]) (e := 119) (rn_boxA rfl) hS.sat rfl (fun b36 G38 w37 hg hcb36 => ?_)); have hS := hS.grow hg; have hO := hO.grow hg
     have leG38 := hg.le
     refine zy (zp b36) rfl rfl ?_; refine zN ?_; refine WC_ret ?_; refine ⟨(zp b36), rfl, ?_⟩
     have hO : Owns _ _ _ ([⟨79, 2, ([] : (List (Int × Bool))).length, .map (some r33), kvs kvI vvB ([] : (List (Int × Bool)))⟩, ⟨72, 64, 1, zl (some ⟨b27, 0, none⟩) 1 1, cellsT (Tb.zero 64)⟩, ⟨79, 2, ([] : (List (Int × Bool))).length, .map (some r21), kvs kvI vvB ([] : (List (Int × Bool)))⟩, ⟨72, 64, 1, zl (some ⟨b7, 0, none⟩) 1 1, cellsT (Tb.zero 64)⟩]) := hO
     have l2_6 := (l2_4.trans leG32).trans leG38
     refine ⟨fun _ _ => ⟨hS.sat.le l2_6, (((hO.drop 2).drop 1).drop 0).le l2_6⟩, ?_⟩
     have l0_6 := (leG6.trans leG15).trans l2_6
     obtain ⟨y39, hy39, H⟩ := bnd H
     have hx41 := f40_ok (x0 := x0) hS.sat hcb36 (h1.mono RTLandPerson_mono l0_6) (h2.mono RTLandEvent_mono l0_6) (h3.mono RTLandMemory_mono l0_6) hy39
     refine zE rfl rfl (zC cb40 hx41 rfl rfl (fun w40 hb => ?_)); have hS := hS.keep hb; have hO := hO.below hb; refine ⟨fun _ _ => ⟨hS.sat.le l2_6, (((hO.drop 2).drop 1).drop 0).le l2_6⟩, ?_⟩
     have l4_6 := leG32.trans leG38
     obtain ⟨y42, hy42, H⟩ := bnd H
     have hx44 := f63_ok (x0 := x0) (x1 := y39) hS.sat (hcb24.mono l4_6) (h1.mono RTLandPerson_mono l0_6) (h2.mono RTLandEvent_mono l0_6) (h3.mono RTLandMemory_mono l0_6) hy42
     refine zE rfl rfl (zC cb63 hx44 rfl rfl (fun w43 hb => ?_)); have hS := hS.keep hb; have hO := hO.below hb; refine ⟨fun _ _ => ⟨hS.sat.le l2_6, (((hO.drop 2).drop 1).drop 0).le l2_6⟩, ?_⟩; refine zE rfl rfl (OpP_val (zm (v := (.tuple #[.agg (cellsT y42.1).toArray, .bool y42.2])) rfl) rfl ?_); refine ⟨fun _ _ => ⟨hS.sat.le l2_6, (((hO.drop 2).drop 1).drop 0).le l2_6⟩, ?_⟩; refine zD rfl (fun w hw => zX (v := (.agg (cellsT y42.1).toArray)) rfl rfl) rfl ?_; refine zD rfl (fun w hw => zX (v := (.bool y42.2)) rfl rfl) rfl ?_; refine zE rfl rfl (OpP_storeTT sz72 hS hO (k := 1) rfl rfl rfl (fun w45 hS hO => ?_))
     have hO : Owns _ _ _ ([⟨79, 2, ([] : (List (Int × Bool))).length, .map (some r33), kvs kvI vvB ([] : (List (Int × Bool)))⟩, ⟨72, 64, 1, zl (some ⟨b27, 0, none⟩) 1 1, cellsT y42.1⟩, ⟨79, 2, ([] : (List (Int × Bool))).length, .map (some r21), kvs kvI vvB ([] : (List (Int × Bool)))⟩, ⟨72, 64, 1, zl (some ⟨b7, 0, none⟩) 1 1, cellsT (Tb.zero 64)⟩]) := hO
     refine ⟨fun _ _ => ⟨hS.sat.le l2_6, (((hO.drop 2).drop 1).drop 0).le l2_6⟩, ?_⟩; refine zE rfl rfl (OpP_val (zA (v := (.bool y42.2)) rfl) rfl ?_)
     refine ⟨fun _ h => noneed (by kernel_rfl) h, ?_⟩
     refine zI ?_; refine zQ ?_; refine zS ?_; refine zx (.bool y42.2) rfl rfl ?_; refine zV (rn_not rfl) rfl ?_; refine zN ?_; refine zT rfl (fun hb46 => ?_) (fun hb46 => ?_)
     ·have H := ifT hb46 H; refine zS ?_
      refine zV (v := (.agg (cellsT (Tb.zero 64)).toArray)) (by kernel_rfl) rfl ?_
      refine zO rfl (OpP_storeTT sz72 hS hO (k := 3) rfl rfl rfl (fun w47 hS hO => ?_))
      have hO : Owns _ _ _ ([⟨79, 2, ([] : (List (Int × Bool))).length, .map (some r33), kvs kvI vvB ([] : (List (Int × Bool)))⟩, ⟨72, 64, 1, zl (some ⟨b27, 0, none⟩) 1 1, cellsT y42.1⟩, ⟨79, 2, ([] : (List (Int × Bool))).length, .map (some r21), kvs kvI vvB ([] : (List (Int × Bool)))⟩, ⟨72, 64, 1, zl (some ⟨b7, 0, none⟩) 1 1, cellsT (Tb.zero 64)⟩]) := hO
      refine zy (zi 7) rfl rfl ?_; refine zN ?_; refine WC_ret ?_
      have H : some (Tb.zero 64, 7) = some r := H
      have H := oi H; subst H
      exact ⟨[.agg (cellsT (Tb.zero 64)).toArray, zi 7], ⟨⟨_, rfl, ld_agg (cs := (cellsT (Tb.zero 64))) ag72 (cellsT_len _) (fun j v hj => by rw [Nat.zero_add]; exact own_cell hO (k := 3) rfl hj)⟩, rfl, trivial⟩, ⟨rfl, hS.below⟩⟩
     ·have H := ifF hb46 H; refine zP ?_; refine zS ?_; refine zV (rn_loadT ag72 hO (k := 1) rfl rfl) rfl ?_; refine zO rfl (OpP_storeTT sz72 hS hO (k := 3) rfl rfl rfl (fun w48 hS hO => ?_))
      have hO : Owns _ _ _ ([⟨79, 2, ([] : (List (Int × Bool))).length, .map (some r33), kvs kvI vvB ([] : (List (Int × Bool)))⟩, ⟨72, 64, 1, zl (some ⟨b27, 0, none⟩) 1 1, cellsT y42.1⟩, ⟨79, 2, ([] : (List (Int × Bool))).length, .map (some r21), kvs kvI vvB ([] : (List (Int × Bool)))⟩, ⟨72, 64, 1, zl (some ⟨b7, 0, none⟩) 1 1, cellsT y42.1⟩]) := hO
      refine zy (zi 0) rfl rfl ?_; refine zN ?_; refine WC_ret ?_
      have H : some (y42.1, 0) = some r := H
      have H := oi H; subst H
      exact ⟨[.agg (cellsT y42.1).toArray, zi 0], ⟨⟨_, rfl, ld_agg (cs := (cellsT y42.1)) ag72 (cellsT_len _) (fun j v hj => by rw [Nat.zero_add]; exact own_cell hO (k := 3) rfl hj)⟩, rfl, trivial⟩, ⟨rfl, hS.below⟩⟩
   ·refine zE rfl rfl (zU (v := fun b => zp b) (cs := (cellsT (Tb.zero 64))) (e := 72) (by kernel_rfl) hS.sat hO rfl 64 1 (cellsT_len _) (by decide) (fun b18 w19 hb hO => ?_))
    have hS := hS.keep hb; refine ⟨fun _ _ => ⟨hS.sat, (hO.drop 0)⟩, ?_⟩; refine zE rfl rfl (OpP_in1 (N' := 7) [.agg #[zl a1 n1 c1, zl a2 n2 c2, zl a3 n3 c3]] cb38 Tryz.func38 rfl rfl rfl rfl rfl rfl ?_); refine zS ?_; refine zO rfl (zW (v := fun b => zp b) (cs := [zl a1 n1 c1, zl a2 n2 c2, zl a3 n3 c3]) (e := 26) (rn_boxA rfl) hS.sat rfl (fun b21 G23 w22 hg hcb21 => ?_)); have hS := hS.grow hg; have hO := hO.grow hg
    have leG23 := hg.le
    refine zy (.pointer none) rfl rfl ?_; refine zN ?_; refine zS ?_; refine zV (rn_loadA ag26 (cs := [zl a1 n1 c1, zl a2 n2 c2, zl a3 n3 c3]) rfl rfl (fun j v hj => hS.sat.cell (hcb21.drop_take 0 3 j v hj))) rfl ?_; refine zO rfl (OpP_makeMap (e := 79) hS hO rfl (fun r24 w25 hS hO => ?_))
    have hO : Owns _ _ _ ([⟨79, 2, ([] : (List (Int × Bool))).length, .map (some r24), kvs kvI vvB ([] : (List (Int × Bool)))⟩, ⟨72, 64, 1, zl (some ⟨b18, 0, none⟩) 1 1, cellsT (Tb.zero 64)⟩, ⟨72, 64, 1, zl (some ⟨b7, 0, none⟩) 1 1, cellsT (Tb.zero 64)⟩]) := hO
    refine zV (v := (.agg #[zl a1 n1 c1, zl a2 n2 c2, zl a3 n3 c3, .map (some r24)])) (by kernel_rfl) rfl ?_
    refine zO rfl (zW (v := fun b => zp b) (cs := [zl a1 n1 c1, zl a2 n2 c2, zl a3 n3 c3, .map (some r24)]) (e := 119) (rn_boxA rfl) hS.sat rfl (fun b27 G29 w28 hg hcb27 => ?_)); have hS := hS.grow hg; have hO := hO.grow hg
    have leG29 := hg.le
    refine zy (zp b27) rfl rfl ?_; refine zN ?_; refine WC_ret ?_; refine ⟨(zp b27), rfl, ?_⟩
    have hO : Owns _ _ _ ([⟨79, 2, ([] : (List (Int × Bool))).length, .map (some r24), kvs kvI vvB ([] : (List (Int × Bool)))⟩, ⟨72, 64, 1, zl (some ⟨b18, 0, none⟩) 1 1, cellsT (Tb.zero 64)⟩, ⟨72, 64, 1, zl (some ⟨b7, 0, none⟩) 1 1, cellsT (Tb.zero 64)⟩]) := hO
    have l2_4 := leG23.trans leG29
    refine ⟨fun _ _ => ⟨hS.sat.le l2_4, ((hO.drop 1).drop 0).le l2_4⟩, ?_⟩; refine zE rfl rfl (OpP_in1 (N' := 7) [.agg #[zl a1 n1 c1, zl a2 n2 c2, zl a3 n3 c3]] cb38 Tryz.func38 rfl rfl rfl rfl rfl rfl ?_); refine zS ?_; refine zO rfl (zW (v := fun b => zp b) (cs := [zl a1 n1 c1, zl a2 n2 c2, zl a3 n3 c3]) (e := 26) (rn_boxA rfl) hS.sat rfl (fun b30 G32 w31 hg hcb30 => ?_)); have hS := hS.grow hg; have hO := hO.grow hg
    have leG32 := hg.le
    refine zy (.pointer none) rfl rfl ?_; refine zN ?_; refine zS ?_; refine zV (rn_loadA ag26 (cs := [zl a1 n1 c1, zl a2 n2 c2, zl a3 n3 c3]) rfl rfl (fun j v hj => hS.sat.cell (hcb30.drop_take 0 3 j v hj))) rfl ?_; refine zO rfl (OpP_makeMap (e := 79) hS hO rfl (fun r33 w34 hS hO => ?_))
    have hO : Owns _ _ _ ([⟨79, 2, ([] : (List (Int × Bool))).length, .map (some r33), kvs kvI vvB ([] : (List (Int × Bool)))⟩, ⟨79, 2, ([] : (List (Int × Bool))).length, .map (some r24), kvs kvI vvB ([] : (List (Int × Bool)))⟩, ⟨72, 64, 1, zl (some ⟨b18, 0, none⟩) 1 1, cellsT (Tb.zero 64)⟩, ⟨72, 64, 1, zl (some ⟨b7, 0, none⟩) 1 1, cellsT (Tb.zero 64)⟩]) := hO
    refine zV (v := (.agg #[zl a1 n1 c1, zl a2 n2 c2, zl a3 n3 c3, .map (some r33)])) (by kernel_rfl) rfl ?_
    refine zO rfl (zW (v := fun b => zp b) (cs := [zl a1 n1 c1, zl a2 n2 c2, zl a3 n3 c3, .map (some r33)]) (e := 119) (rn_boxA rfl) hS.sat rfl (fun b36 G38 w37 hg hcb36 => ?_)); have hS := hS.grow hg; have hO := hO.grow hg
    have leG38 := hg.le
    refine zy (zp b36) rfl rfl ?_; refine zN ?_; refine WC_ret ?_; refine ⟨(zp b36), rfl, ?_⟩
    have hO : Owns _ _ _ ([⟨79, 2, ([] : (List (Int × Bool))).length, .map (some r33), kvs kvI vvB ([] : (List (Int × Bool)))⟩, ⟨79, 2, ([] : (List (Int × Bool))).length, .map (some r24), kvs kvI vvB ([] : (List (Int × Bool)))⟩, ⟨72, 64, 1, zl (some ⟨b18, 0, none⟩) 1 1, cellsT (Tb.zero 64)⟩, ⟨72, 64, 1, zl (some ⟨b7, 0, none⟩) 1 1, cellsT (Tb.zero 64)⟩]) := hO
    have l2_6 := (l2_4.trans leG32).trans leG38
    refine ⟨fun _ _ => ⟨hS.sat.le l2_6, (((hO.drop 2).drop 1).drop 0).le l2_6⟩, ?_⟩
    have l0_6 := (leG6.trans leG15).trans l2_6
    obtain ⟨y39, hy39, H⟩ := bnd H
    have hx41 := f40_ok (x0 := x0) hS.sat hcb36 (h1.mono RTLandPerson_mono l0_6) (h2.mono RTLandEvent_mono l0_6) (h3.mono RTLandMemory_mono l0_6) hy39
    refine zE rfl rfl (zC cb40 hx41 rfl rfl (fun w40 hb => ?_)); have hS := hS.keep hb; have hO := hO.below hb; refine ⟨fun _ _ => ⟨hS.sat.le l2_6, (((hO.drop 2).drop 1).drop 0).le l2_6⟩, ?_⟩
    have l4_6 := leG32.trans leG38
    obtain ⟨y42, hy42, H⟩ := bnd H
    have hx44 := f63_ok (x0 := x0) (x1 := y39) hS.sat (hcb27.mono l4_6) (h1.mono RTLandPerson_mono l0_6) (h2.mono RTLandEvent_mono l0_6) (h3.mono RTLandMemory_mono l0_6) hy42
    refine zE rfl rfl (zC cb63 hx44 rfl rfl (fun w43 hb => ?_)); have hS := hS.keep hb; have hO := hO.below hb; refine ⟨fun _ _ => ⟨hS.sat.le l2_6, (((hO.drop 2).drop 1).drop 0).le l2_6⟩, ?_⟩; refine zE rfl rfl (OpP_val (zm (v := (.tuple #[.agg (cellsT y42.1).toArray, .bool y42.2])) rfl) rfl ?_); refine ⟨fun _ _ => ⟨hS.sat.le l2_6, (((hO.drop 2).drop 1).drop 0).le l2_6⟩, ?_⟩; refine zD rfl (fun w hw => zX (v := (.agg (cellsT y42.1).toArray)) rfl rfl) rfl ?_; refine zD rfl (fun w hw => zX (v := (.bool y42.2)) rfl rfl) rfl ?_; refine zE rfl rfl (OpP_storeTT sz72 hS hO (k := 2) rfl rfl rfl (fun w45 hS hO => ?_))
    have hO : Owns _ _ _ ([⟨79, 2, ([] : (List (Int × Bool))).length, .map (some r33), kvs kvI vvB ([] : (List (Int × Bool)))⟩, ⟨79, 2, ([] : (List (Int × Bool))).length, .map (some r24), kvs kvI vvB ([] : (List (Int × Bool)))⟩, ⟨72, 64, 1, zl (some ⟨b18, 0, none⟩) 1 1, cellsT y42.1⟩, ⟨72, 64, 1, zl (some ⟨b7, 0, none⟩) 1 1, cellsT (Tb.zero 64)⟩]) := hO
    refine ⟨fun _ _ => ⟨hS.sat.le l2_6, (((hO.drop 2).drop 1).drop 0).le l2_6⟩, ?_⟩; refine zE rfl rfl (OpP_val (zA (v := (.bool y42.2)) rfl) rfl ?_)
    refine ⟨fun _ h => noneed (by kernel_rfl) h, ?_⟩
    refine zI ?_; refine zQ ?_; refine zS ?_; refine zx (.bool y42.2) rfl rfl ?_; refine zV (rn_not rfl) rfl ?_; refine zN ?_; refine zT rfl (fun hb46 => ?_) (fun hb46 => ?_)
    ·have H := ifT hb46 H; refine zS ?_
     refine zV (v := (.agg (cellsT (Tb.zero 64)).toArray)) (by kernel_rfl) rfl ?_
     refine zO rfl (OpP_storeTT sz72 hS hO (k := 3) rfl rfl rfl (fun w47 hS hO => ?_))
     have hO : Owns _ _ _ ([⟨79, 2, ([] : (List (Int × Bool))).length, .map (some r33), kvs kvI vvB ([] : (List (Int × Bool)))⟩, ⟨79, 2, ([] : (List (Int × Bool))).length, .map (some r24), kvs kvI vvB ([] : (List (Int × Bool)))⟩, ⟨72, 64, 1, zl (some ⟨b18, 0, none⟩) 1 1, cellsT y42.1⟩, ⟨72, 64, 1, zl (some ⟨b7, 0, none⟩) 1 1, cellsT (Tb.zero 64)⟩]) := hO
     refine zy (zi 7) rfl rfl ?_; refine zN ?_; refine WC_ret ?_
     have H : some (Tb.zero 64, 7) = some r := H
     have H := oi H; subst H
     exact ⟨[.agg (cellsT (Tb.zero 64)).toArray, zi 7], ⟨⟨_, rfl, ld_agg (cs := (cellsT (Tb.zero 64))) ag72 (cellsT_len _) (fun j v hj => by rw [Nat.zero_add]; exact own_cell hO (k := 3) rfl hj)⟩, rfl, trivial⟩, ⟨rfl, hS.below⟩⟩
    ·have H := ifF hb46 H; refine zP ?_; refine zS ?_; refine zV (rn_loadT ag72 hO (k := 2) rfl rfl) rfl ?_; refine zO rfl (OpP_storeTT sz72 hS hO (k := 3) rfl rfl rfl (fun w48 hS hO => ?_))
     have hO : Owns _ _ _ ([⟨79, 2, ([] : (List (Int × Bool))).length, .map (some r33), kvs kvI vvB ([] : (List (Int × Bool)))⟩, ⟨79, 2, ([] : (List (Int × Bool))).length, .map (some r24), kvs kvI vvB ([] : (List (Int × Bool)))⟩, ⟨72, 64, 1, zl (some ⟨b18, 0, none⟩) 1 1, cellsT y42.1⟩, ⟨72, 64, 1, zl (some ⟨b7, 0, none⟩) 1 1, cellsT y42.1⟩]) := hO
     refine zy (zi 0) rfl rfl ?_; refine zN ?_; refine WC_ret ?_
     have H : some (y42.1, 0) = some r := H
     have H := oi H; subst H
     exact ⟨[.agg (cellsT y42.1).toArray, zi 0], ⟨⟨_, rfl, ld_agg (cs := (cellsT y42.1)) ag72 (cellsT_len _) (fun j v hj => by rw [Nat.zero_add]; exact own_cell hO (k := 3) rfl hj)⟩, rfl, trivial⟩, ⟨rfl, hS.below⟩⟩
set_option maxHeartbeats 1000000 in
theorem f36_ok {G0 : Gm} {w0 : World} (hS0 : Sat G0 w0) {x0 : (Tb 64)} {x1 : Int} {x2 : Int}  {r : TSpan} (H : f36 x0 x1 x2 = some r) :
  Calls Tryz.prog 36 #[.agg (cellsT x0).toArray, zi x1, zi x2] w0 (RetV w0 (.agg #[zi r.Low, zi r.High])) := by
 have hS := Since.start hS0
 have hO : Owns G0 w0 w0.heap.size [] := Owns.nil (Nat.le_refl _)
 unfold f36 at H
 refine enterG (N := 19) (shutV _ _) [.cell 6 46] Tryz.func36 rfl rfl rfl rfl ?_; refine zS ?_; refine zO rfl (zW (v := fun b => zp b) (cs := (cellsT x0)) (e := 72) (rn_boxA rfl) hS.sat rfl (fun b1 G3 w2 hg hcb1 => ?_)); have hS := hS.grow hg; have hO := hO.grow hg
 have leG3 := hg.le
 refine zO rfl (zU (v := fun b => zp b) (cs := [zi 0, zi 0]) (e := 46) (by kernel_rfl) hS.sat hO rfl 2 1 rfl (by decide) (fun b4 w5 hb hO => ?_))
 have hS := hS.keep hb; refine zN ?_; refine zQ ?_; have hS := hS.keep (below_drew _); have hO := hO.below (below_drew _)
 refine WC_regionD mixedO (fun _ w => Sat G3 w ∧ Owns G3 w w0.heap.size [zb 46 2 b4 [zi 0, zi 0]]) (.fl 0 (.fl 1 (.fl 2 (.fl 3 (.fl 4 (.fl 5 (.fl 6 (.fl 7 (.on 8 (.on 9 (.on 10 (.on 11 (.on 12 .nil))))))))))))) (by kernel_rfl) rfl (by kernel_rfl) (fun _ => ⟨hS.sat, hO⟩) ?_
 refine zD rfl (fun w hw => zm (v := (zi x2)) rfl) rfl ?_; refine zD rfl (fun w hw => zm (v := (zi x1)) rfl) rfl ?_; obtain ⟨j7, hj7, H⟩ := bnd H; refine zD rfl (fun w hw => rn_idxA ar72 rfl rfl hj7) rfl ?_; obtain ⟨j8, hj8, H⟩ := bnd H
 have hl9 : 0 + j7 * 8 + j8 * 1 < 64 := by have := (ckI_some hj7).2; have := (ckI_some hj8).2; omega
 refine zD rfl (fun w hw => rn_idxA ar70 rfl rfl hj8) rfl ?_; refine zD rfl (fun w hw => zL na3 rfl (tab_cellG (hw.1) hcb1 hl9)) rfl ?_; refine zD rfl (fun w hw => rn_neg rfl) rfl ?_; refine zD rfl (fun w hw => zm (v := (zi x1)) rfl) rfl ?_; refine zD rfl (fun w hw => zm (v := (zi x2)) rfl) rfl ?_; obtain ⟨j10, hj10, H⟩ := bnd H; refine zE rfl rfl (OpP_val (rn_idxA ar72 rfl rfl hj10) rfl ?_); refine ⟨fun _ _ => ⟨hS.sat, hO⟩, ?_⟩; obtain ⟨j11, hj11, H⟩ := bnd H
 have hl12 : 0 + j10 * 8 + j11 * 1 < 64 := by have := (ckI_some hj10).2; have := (ckI_some hj11).2; omega
 refine zE rfl rfl (OpP_val (rn_idxA ar70 rfl rfl hj11) rfl ?_); refine ⟨fun _ _ => ⟨hS.sat, hO⟩, ?_⟩; refine zE rfl rfl (OpP_val (zL na3 rfl (tab_cellG (hS.sat) hcb1 hl12)) rfl ?_); refine ⟨fun _ _ => ⟨hS.sat, hO⟩, ?_⟩
 refine zE rfl rfl (OpP_val (v := (.agg #[zi (IntKind.i64.wrap (0 - (tget x0 (0 + j7 * 8 + j8 * 1)))), zi (tget x0 (0 + j10 * 8 + j11 * 1))])) (by kernel_rfl) rfl ?_)
 refine ⟨fun _ h => noneed (by kernel_rfl) h, ?_⟩
 refine zE rfl rfl (OpP_store (vs := [zi (IntKind.i64.wrap (0 - (tget x0 (0 + j7 * 8 + j8 * 1)))), zi (tget x0 (0 + j10 * 8 + j11 * 1))]) sz46 hS hO (k := 0) rfl rfl rfl rfl rfl (one_all rfl) (Nat.le_of_ble_eq_true rfl) (fun w13 hS hO => ?_))
 have hO : Owns _ _ _ ([zb 46 2 b4 [zi (IntKind.i64.wrap (0 - (tget x0 (0 + j7 * 8 + j8 * 1)))), zi (tget x0 (0 + j10 * 8 + j11 * 1))]]) := hO
 obtain ⟨G14, leG14, hS, hO, hqG14, _⟩ := hO.freeze hS (k := 0) rfl
 have hcG14 : Cells G14 b4 0 [zi (IntKind.i64.wrap (0 - (tget x0 (0 + j7 * 8 + j8 * 1)))), zi (tget x0 (0 + j10 * 8 + j11 * 1))] := (hqG14 _ _ _ _ rfl)
 refine ⟨fun _ h => noneed (by kernel_rfl) h, ?_⟩
 refine zI ?_; refine WC_ret ?_
 have H : some (⟨IntKind.i64.wrap (0 - (tget x0 (0 + j7 * 8 + j8 * 1))), tget x0 (0 + j10 * 8 + j11 * 1)⟩ : TSpan) = some r := H
 have H := oi H; subst H
 exact ⟨[.agg #[zi (IntKind.i64.wrap (0 - (tget x0 (0 + j7 * 8 + j8 * 1)))), zi (tget x0 (0 + j10 * 8 + j11 * 1))]], ⟨⟨_, rfl, ld_agg (cs := [zi (IntKind.i64.wrap (0 - (tget x0 (0 + j7 * 8 + j8 * 1)))), zi (tget x0 (0 + j10 * 8 + j11 * 1))]) ag46 rfl (fun j v hj => hS.sat.cell (hcG14 j v hj))⟩, trivial⟩, ⟨rfl, hS.below⟩⟩
set_option maxHeartbeats 1000000 in
theorem f14_ok {G0 : Gm} {w0 : World} (hS0 : Sat G0 w0) {x0 : TLandBook} {a1 : Option Addr} {n1 c1 : Nat} {a2 : Option Addr} {n2 c2 : Nat} {a3 : Option Addr} {n3 c3 : Nat} (h1 : RSl RTLandPerson 2 G0 a1 n1 c1 x0.People) (h2 : RSl RTLandEvent 2 G0 a2 n2 c2 x0.Events) (h3 : RSl RTLandMemory 4 G0 a3 n3 c3 x0.Memories) {r : (List Int) × Int} (H : f14 x0 = some r) :
  Calls Tryz.prog 14 #[.agg #[zl a1 n1 c1, zl a2 n2 c2, zl a3 n3 c3]] w0 (RetG G0 w0 (fun G v => ∃ (ra0 : Option Addr) (rn0 rc0 : Nat), v = .tuple #[zl ra0 rn0 rc0, zi r.2] ∧ RSl RInt 1 G ra0 rn0 rc0 r.1)) := by
 have hS := Since.start hS0
 have hO : Owns G0 w0 w0.heap.size [] := Owns.nil (Nat.le_refl _)
 unfold f14 at H
 refine enter2 (N := 31) (shutG _ _ _) Tryz.func14 rfl rfl rfl rfl ?_; refine zS ?_; refine zO rfl (zW (v := fun b => zp b) (cs := [zl a1 n1 c1, zl a2 n2 c2, zl a3 n3 c3]) (e := 26) (rn_boxA rfl) hS.sat rfl (fun b4 G6 w5 hg hcb4 => ?_)); have hS := hS.grow hg; have hO := hO.grow hg
 have leG6 := hg.le
 refine zy (zl none 0 0) rfl rfl ?_; refine zy (zi 0) rfl rfl ?_; refine zN ?_; refine zS ?_; refine zV (rn_loadA ag26 (cs := [zl a1 n1 c1, zl a2 n2 c2, zl a3 n3 c3]) rfl rfl (fun j v hj => hS.sat.cell (hcb4.drop_take 0 3 j v hj))) rfl ?_; obtain ⟨y7, hy7, H⟩ := bnd H; refine zO rfl (zC cb35 (f35_ok (x0 := x0) (x1 := true) hS.sat (h1.mono RTLandPerson_mono leG6) (h2.mono RTLandEvent_mono leG6) (h3.mono RTLandMemory_mono leG6) hy7) rfl rfl (fun w8 hb => ?_)); have hS := hS.keep hb; have hO := hO.below hb; refine zx (.tuple #[.agg (cellsT y7.1).toArray, zi y7.2]) rfl rfl ?_; refine zV (zX (v := (.agg (cellsT y7.1).toArray)) rfl rfl) rfl ?_; refine zV (zX (v := (zi y7.2)) rfl rfl) rfl ?_
 refine zO rfl (zU (v := fun b => zp b) (cs := (cellsT (Tb.zero 64))) (e := 72) (by kernel_rfl) hS.sat hO rfl 64 1 (cellsT_len _) (by decide) (fun b9 w10 hb hO => ?_))
 have hS := hS.keep hb; refine zO rfl (OpP_storeTT sz72 hS hO (k := 0) rfl rfl rfl (fun w12 hS hO => ?_))
 have hO : Owns _ _ _ ([⟨72, 64, 1, zl (some ⟨b9, 0, none⟩) 1 1, cellsT y7.1⟩]) := hO
 refine zy (zi y7.2) rfl rfl ?_; refine zN ?_; refine zQ ?_; refine zS ?_; refine zx (zi y7.2) rfl rfl ?_; refine zV (rn_neq rfl rfl) rfl ?_; refine zN ?_; refine zT rfl (fun hb13 => ?_) (fun hb13 => ?_)
 ·have H := ifT hb13 H; refine zS ?_; refine zx (zi y7.2) rfl rfl ?_; refine zy (zl none 0 0) rfl rfl ?_; refine zy (zi y7.2) rfl rfl ?_; refine zN ?_; refine WC_ret ?_
  have H : some ([], y7.2) = some r := H
  have H := oi H; subst H
  exact ⟨_, _, rfl, hS.toGrow, _, _, _, rfl, (RSl.nil RInt 1 G6 none)⟩
 ·have H := ifF hb13 H; refine zP ?_; refine zS ?_; refine zy (zl none 0 0) rfl rfl ?_; refine zN ?_; refine zQ ?_; refine zS ?_; refine zV (zF fd26_1 rfl) rfl ?_; refine zV (zL na23 rfl (hS.sat.cell (hcb4 1 _ rfl))) rfl ?_; refine zV (rn_len sl23 rfl rfl (h2.mono RTLandEvent_mono leG6).1) rfl ?_; refine zx (zi 0) rfl rfl ?_; refine zN ?_; have hO := hO.cons_nil 3 1; obtain ⟨q17, hq17, H⟩ := bnd H; refine zM (fun F w => ∃ (Fb : Fr) (G : Gm) (aq17_0 : Option Addr) (nq17_0 cq17_0 : Nat) (claq17_0 : List Value), F = upds Fb [(6, zl aq17_0 nq17_0 cq17_0)] ∧ Gle G6 G ∧ Since w0.heap.size G0 w0 G w ∧ Owns G w w0.heap.size [⟨3, 1, nq17_0, zl aq17_0 nq17_0 cq17_0, claq17_0⟩, ⟨72, 64, 1, zl (some ⟨b9, 0, none⟩) 1 1, cellsT q17.2⟩] ∧ nq17_0 = q17.1.length ∧ Rd RInt 1 G claq17_0 q17.1) ?_ ?_
  ·refine WC_block (WC_loop hq17 (fun s15 F w => ∃ (Fb : Fr) (G : Gm) (as15_0 : Option Addr) (ns15_0 cs15_0 : Nat) (clas15_0 : List Value), F = upds Fb [(4, zp b9), (6, zl as15_0 ns15_0 cs15_0), (18, zi (x0.Events.length : Int)), (19, zi s15.2.1)] ∧ Gle G6 G ∧ Since w0.heap.size G0 w0 G w ∧ Owns G w w0.heap.size [⟨3, 1, ns15_0, zl as15_0 ns15_0 cs15_0, clas15_0⟩, ⟨72, 64, 1, zl (some ⟨b9, 0, none⟩) 1 1, cellsT s15.2.2⟩] ∧ ns15_0 = s15.1.length ∧ Rd RInt 1 G clas15_0 s15.1) ?_ ?_)
   ·have hO : Owns _ _ _ ([⟨3, 1, 0, zl none 0 0, []⟩, ⟨72, 64, 1, zl (some ⟨b9, 0, none⟩) 1 1, cellsT y7.1⟩]) := hO
    exact ⟨_, G6, none, 0, 0, [], upds_self _ _ ⟨rfl, rfl, rfl, rfl, trivial⟩, Gle.refl _, hS, hO, rfl, (Rd.nil RInt 1 G6)⟩
   ·rintro s15 F w19 t18 ⟨Fb, G20, as15_0, ns15_0, cs15_0, clas15_0, rfl, leG20, hS, hO, hnhs15_0, hs15_0⟩
    intro H1 hqq17
    have Hoq17 := H; have H := H1
    unfold f14_b0 at H
    refine zS ?_; refine zV (rn_lss rfl rfl) rfl ?_; refine zN ?_; refine zQ ?_; refine zT rfl (fun hb21 => ?_) (fun hb21 => ?_)
    ·have H := ifT hb21 H; refine zP ?_; refine zQ ?_; refine WC_block ?_; refine zS ?_; refine zx (zi s15.2.1) rfl rfl ?_; refine zy (zi s15.2.1) rfl rfl ?_; refine zN ?_; refine zR ?_; refine zx (zl as15_0 ns15_0 cs15_0) rfl rfl ?_; refine zV (rn_loadT ag72 hO (k := 1) rfl rfl) rfl ?_; refine zx (zi s15.2.1) rfl rfl ?_; obtain ⟨y22, hy22, H⟩ := bnd H; refine zO rfl (zC cb36 (f36_ok (x0 := s15.2.2) (x1 := 7) (x2 := s15.2.1) hS.sat  hy22) rfl rfl (fun w23 hb => ?_)); have hS := hS.keep hb; have hO := hO.below hb
     refine zV (v := (zi y22.Low)) (by kernel_rfl) rfl ?_
     refine zO rfl (zW (v := fun b => zl (some ⟨b, 0, none⟩) 1 1) (cs := [zi y22.Low]) (e := 3) (by kernel_rfl) hS.sat rfl (fun b24 G26 w25 hg hcb24 => ?_))
     have hS := hS.grow hg; have hO := hO.grow hg
     have leG26 := hg.le
     have hfb24 : RSl RInt 1 G26 (some ⟨b24, 0, none⟩) 1 1 [y22.Low] := RSl.of_rd hcb24 (Rd.cons (c := [zi y22.Low]) rfl rfl (Rd.nil RInt 1 _)) rfl (by decide)
     obtain ⟨y27, hy27, H⟩ := bnd H; refine zO rfl (OpP_append (k := 0) sl41 RInt_one hS hO rfl hnhs15_0 (hs15_0.mono RInt_mono leG26) hfb24 hy27 rfl rfl rfl rfl rfl (fun aw28 cw28 w28 clw28 hS hO hrw28 => ?_))
     have hO : Owns _ _ _ ([⟨3, 1, y27.length, zl aw28 y27.length cw28, clw28⟩, ⟨72, 64, 1, zl (some ⟨b9, 0, none⟩) 1 1, cellsT s15.2.2⟩]) := hO
     refine zy (zl aw28 y27.length cw28) rfl rfl ?_; refine zN ?_; refine zR ?_; refine zV (rn_add rfl rfl) rfl ?_; refine zx (zi (IntKind.i64.wrap (s15.2.1 + 1))) rfl rfl ?_; refine zN ?_
     have hO : Owns _ _ _ ([⟨3, 1, y27.length, zl aw28 y27.length cw28, clw28⟩, ⟨72, 64, 1, zl (some ⟨b9, 0, none⟩) 1 1, cellsT s15.2.2⟩]) := hO
     have H := oi H; subst H; refine ⟨_, rfl, ?_⟩
     have l1_3 := leG20.trans leG26
     exact ⟨_, G26, aw28, y27.length, cw28, clw28, upds_self _ _ ⟨rfl, rfl, rfl, rfl, trivial⟩, l1_3, hS, hO, rfl, hrw28⟩
    ·have H := ifF hb21 H; refine WC_exit rfl ?_
     have hO : Owns _ _ _ ([⟨3, 1, ns15_0, zl as15_0 ns15_0 cs15_0, clas15_0⟩, ⟨72, 64, 1, zl (some ⟨b9, 0, none⟩) 1 1, cellsT s15.2.2⟩]) := hO
     have H := oi H; subst H
     have hres := hqq17 _ rfl
     subst hres
     exact ⟨_, G20, as15_0, ns15_0, cs15_0, clas15_0, upds_self _ _ ⟨rfl, trivial⟩, leG20, hS, hO, hnhs15_0, hs15_0⟩
  ·rintro F w29 ⟨Fb, G30, aq17_0, nq17_0, cq17_0, claq17_0, rfl, leG30, hS, hO, hnhq17_0, hq17_0⟩
   refine zS ?_; refine zx (zl aq17_0 nq17_0 cq17_0) rfl rfl ?_; refine zy (zl aq17_0 nq17_0 cq17_0) rfl rfl ?_; refine zy (zi 0) rfl rfl ?_; refine zN ?_; refine WC_ret ?_; obtain ⟨G31, leG31, hS, hO, hfG31⟩ := hO.freezeS hS RInt_mono (k := 0) rfl hq17_0 hnhq17_0
   have H : some (q17.1, 0) = some r := H
   have H := oi H; subst H
   exact ⟨_, _, rfl, hS.toGrow, _, _, _, rfl, hfG31⟩
set_option maxHeartbeats 1000000 in
theorem f15_ok {G0 : Gm} {w0 : World} (hS0 : Sat G0 w0)   {r : TLandBook} (H : f15 = some r) :
  Calls Tryz.prog 15 #[] w0 (RetG G0 w0 (fun G v => ∃ (ra0 : Option Addr) (rn0 rc0 : Nat) (ra1 : Option Addr) (rn1 rc1 : Nat) (ra2 : Option Addr) (rn2 rc2 : Nat), v = .agg #[zl ra0 rn0 rc0, zl ra1 rn1 rc1, zl ra2 rn2 rc2] ∧ RSl RTLandPerson 2 G ra0 rn0 rc0 r.People ∧ RSl RTLandEvent 2 G ra1 rn1 rc1 r.Events ∧ RSl RTLandMemory 4 G ra2 rn2 rc2 r.Memories)) := by
 have hS := Since.start hS0
 have hO : Owns G0 w0 w0.heap.size [] := Owns.nil (Nat.le_refl _)
 unfold f15 at H
 refine enterG (N := 21) (shutG _ _ _) [.cell 0 26] Tryz.func15 rfl rfl rfl rfl ?_; refine zS ?_
 refine zO rfl (zU (v := fun b => zp b) (cs := [zl none 0 0, zl none 0 0, zl none 0 0]) (e := 26) (by kernel_rfl) hS.sat hO rfl 3 1 rfl (by decide) (fun b1 w2 hb hO => ?_))
 have hS := hS.keep hb; refine zN ?_; refine zS ?_
 refine zV (v := (.agg #[zi (-1), zi (-1)])) (by kernel_rfl) rfl ?_
 refine zV (v := (.agg #[zi 0, zi (-1)])) (by kernel_rfl) rfl ?_
 refine zV (v := (.agg #[zi 1, zi (-1)])) (by kernel_rfl) rfl ?_
 refine zV (v := (.agg #[zi (-1), zi 0])) (by kernel_rfl) rfl ?_
 refine zO rfl (zW (v := fun b => zl (some ⟨b, 0, none⟩) 4 4) (cs := [zi (-1), zi (-1), zi 0, zi (-1), zi 1, zi (-1), zi (-1), zi 0]) (e := 54) (by kernel_rfl) hS.sat rfl (fun b4 G6 w5 hg hcb4 => ?_))
 have hS := hS.grow hg; have hO := hO.grow hg
 have leG6 := hg.le
 have hfb4 : RSl RTLandPerson 2 G6 (some ⟨b4, 0, none⟩) 4 4 [(⟨(-1), (-1)⟩ : TLandPerson), (⟨0, (-1)⟩ : TLandPerson), (⟨1, (-1)⟩ : TLandPerson), (⟨(-1), 0⟩ : TLandPerson)] := RSl.of_rd hcb4 (Rd.cons (c := [zi (-1), zi (-1)]) rfl rfl (Rd.cons (c := [zi 0, zi (-1)]) rfl rfl (Rd.cons (c := [zi 1, zi (-1)]) rfl rfl (Rd.cons (c := [zi (-1), zi 0]) rfl rfl (Rd.nil RTLandPerson 2 _))))) rfl (by decide)
 refine zV (v := (.agg #[zi 0, zi 0])) (by kernel_rfl) rfl ?_
 refine zV (v := (.agg #[zi 0, zi 1])) (by kernel_rfl) rfl ?_
 refine zV (v := (.agg #[zi 0, zi 2])) (by kernel_rfl) rfl ?_
 refine zV (v := (.agg #[zi 1, zi 1])) (by kernel_rfl) rfl ?_
 refine zO rfl (zW (v := fun b => zl (some ⟨b, 0, none⟩) 4 4) (cs := [zi 0, zi 0, zi 0, zi 1, zi 0, zi 2, zi 1, zi 1]) (e := 57) (by kernel_rfl) hS.sat rfl (fun b7 G9 w8 hg hcb7 => ?_))
 have hS := hS.grow hg; have hO := hO.grow hg
 have leG9 := hg.le
 have hfb7 : RSl RTLandEvent 2 G9 (some ⟨b7, 0, none⟩) 4 4 [(⟨0, 0⟩ : TLandEvent), (⟨0, 1⟩ : TLandEvent), (⟨0, 2⟩ : TLandEvent), (⟨1, 1⟩ : TLandEvent)] := RSl.of_rd hcb7 (Rd.cons (c := [zi 0, zi 0]) rfl rfl (Rd.cons (c := [zi 0, zi 1]) rfl rfl (Rd.cons (c := [zi 0, zi 2]) rfl rfl (Rd.cons (c := [zi 1, zi 1]) rfl rfl (Rd.nil RTLandEvent 2 _))))) rfl (by decide)
 refine zV (v := (.agg #[zi 10, zi 20])) (by kernel_rfl) rfl ?_
 refine zV (v := (.agg #[zi 0, zi 1, zi 10, zi 20])) (by kernel_rfl) rfl ?_
 refine zV (v := (.agg #[zi 5, zi 8])) (by kernel_rfl) rfl ?_
 refine zV (v := (.agg #[zi 1, zi 2, zi 5, zi 8])) (by kernel_rfl) rfl ?_
 refine zV (v := (.agg #[zi 12, zi 16])) (by kernel_rfl) rfl ?_
 refine zV (v := (.agg #[zi 0, zi 2, zi 12, zi 16])) (by kernel_rfl) rfl ?_
 refine zV (v := (.agg #[zi (-3), zi 0])) (by kernel_rfl) rfl ?_
 refine zV (v := (.agg #[zi 1, zi 3, zi (-3), zi 0])) (by kernel_rfl) rfl ?_
 refine zO rfl (zW (v := fun b => zl (some ⟨b, 0, none⟩) 4 4) (cs := [zi 0, zi 1, zi 10, zi 20, zi 1, zi 2, zi 5, zi 8, zi 0, zi 2, zi 12, zi 16, zi 1, zi 3, zi (-3), zi 0]) (e := 60) (by kernel_rfl) hS.sat rfl (fun b10 G12 w11 hg hcb10 => ?_))
 have hS := hS.grow hg; have hO := hO.grow hg
 have leG12 := hg.le
 have hfb10 : RSl RTLandMemory 4 G12 (some ⟨b10, 0, none⟩) 4 4 [(⟨0, 1, (⟨10, 20⟩ : TSpan)⟩ : TLandMemory), (⟨1, 2, (⟨5, 8⟩ : TSpan)⟩ : TLandMemory), (⟨0, 2, (⟨12, 16⟩ : TSpan)⟩ : TLandMemory), (⟨1, 3, (⟨(-3), 0⟩ : TSpan)⟩ : TLandMemory)] := RSl.of_rd hcb10 (Rd.cons (c := [zi 0, zi 1, zi 10, zi 20]) rfl rfl (Rd.cons (c := [zi 1, zi 2, zi 5, zi 8]) rfl rfl (Rd.cons (c := [zi 0, zi 2, zi 12, zi 16]) rfl rfl (Rd.cons (c := [zi 1, zi 3, zi (-3), zi 0]) rfl rfl (Rd.nil RTLandMemory 4 _))))) rfl (by decide)
 refine zV (v := (.agg #[zl (some ⟨b4, 0, none⟩) 4 4, zl (some ⟨b7, 0, none⟩) 4 4, zl (some ⟨b10, 0, none⟩) 4 4])) (by kernel_rfl) rfl ?_
 refine zO rfl (OpP_store (vs := [zl (some ⟨b4, 0, none⟩) 4 4, zl (some ⟨b7, 0, none⟩) 4 4, zl (some ⟨b10, 0, none⟩) 4 4]) sz26 hS hO (k := 0) rfl rfl rfl rfl rfl (one_all rfl) (Nat.le_of_ble_eq_true rfl) (fun w13 hS hO => ?_))
 have hO : Owns _ _ _ ([⟨26, 3, 1, zl (some ⟨b1, 0, none⟩) 1 1, [zl (some ⟨b4, 0, none⟩) 4 4, zl (some ⟨b7, 0, none⟩) 4 4, zl (some ⟨b10, 0, none⟩) 4 4]⟩]) := hO
 obtain ⟨G14, leG14, hS, hO, hqG14, _⟩ := hO.freeze hS (k := 0) rfl
 have hcG14 : Cells G14 b1 0 [zl (some ⟨b4, 0, none⟩) 4 4, zl (some ⟨b7, 0, none⟩) 4 4, zl (some ⟨b10, 0, none⟩) 4 4] := (hqG14 _ _ _ _ rfl)
 refine zN ?_; refine WC_ret ?_
 have H : some (⟨[(⟨(-1), (-1)⟩ : TLandPerson), (⟨0, (-1)⟩ : TLandPerson), (⟨1, (-1)⟩ : TLandPerson), (⟨(-1), 0⟩ : TLandPerson)], [(⟨0, 0⟩ : TLandEvent), (⟨0, 1⟩ : TLandEvent), (⟨0, 2⟩ : TLandEvent), (⟨1, 1⟩ : TLandEvent)], [(⟨0, 1, (⟨10, 20⟩ : TSpan)⟩ : TLandMemory), (⟨1, 2, (⟨5, 8⟩ : TSpan)⟩ : TLandMemory), (⟨0, 2, (⟨12, 16⟩ : TSpan)⟩ : TLandMemory), (⟨1, 3, (⟨(-3), 0⟩ : TSpan)⟩ : TLandMemory)]⟩ : TLandBook) = some r := H
 have H := oi H; subst H
 have l1_4 := (leG9.trans leG12).trans leG14
 have l2_4 := leG12.trans leG14
 exact ⟨[.agg #[zl (some ⟨b4, 0, none⟩) 4 4, zl (some ⟨b7, 0, none⟩) 4 4, zl (some ⟨b10, 0, none⟩) 4 4]], ⟨⟨_, rfl, ld_agg (cs := [zl (some ⟨b4, 0, none⟩) 4 4, zl (some ⟨b7, 0, none⟩) 4 4, zl (some ⟨b10, 0, none⟩) 4 4]) ag26 rfl (fun j v hj => hS.sat.cell (hcG14 j v hj))⟩, trivial⟩, ⟨_, _, rfl, hS.toGrow, _, _, _, _, _, _, _, _, _, rfl, (hfb4.mono RTLandPerson_mono l1_4), (hfb7.mono RTLandEvent_mono l2_4), (hfb10.mono RTLandMemory_mono leG14)⟩⟩
set_option maxHeartbeats 1000000 in
theorem f16_ok {G0 : Gm} {w0 : World} (hS0 : Sat G0 w0) {x0 : TLandBook} {a1 : Option Addr} {n1 c1 : Nat} {a2 : Option Addr} {n2 c2 : Nat} {a3 : Option Addr} {n3 c3 : Nat} {x1 : Int} {x2 : Int} (h1 : RSl RTLandPerson 2 G0 a1 n1 c1 x0.People) (h2 : RSl RTLandEvent 2 G0 a2 n2 c2 x0.Events) (h3 : RSl RTLandMemory 4 G0 a3 n3 c3 x0.Memories) {r : TSpan × Int} (H : f16 x0 x1 x2 = some r) :
  Calls Tryz.prog 16 #[.agg #[zl a1 n1 c1, zl a2 n2 c2, zl a3 n3 c3], zi x1, zi x2] w0 (RetV w0 (.tuple #[.agg #[zi r.1.Low, zi r.1.High], zi r.2])) := by
 have hS := Since.start hS0
 have hO : Owns G0 w0 w0.heap.size [] := Owns.nil (Nat.le_refl _)
 unfold f16 at H
 refine enterG (N := 37) (shutV _ _) [.cell 6 46, .tmp 7] Tryz.func16 rfl rfl rfl rfl ?_; refine zS ?_; refine zO rfl (zW (v := fun b => zp b) (cs := [zl a1 n1 c1, zl a2 n2 c2, zl a3 n3 c3]) (e := 26) (rn_boxA rfl) hS.sat rfl (fun b4 G6 w5 hg hcb4 => ?_)); have hS := hS.grow hg; have hO := hO.grow hg
 have leG6 := hg.le
 refine zO rfl (zU (v := fun b => zp b) (cs := [zi 0, zi 0]) (e := 46) (by kernel_rfl) hS.sat hO rfl 2 1 rfl (by decide) (fun b7 w8 hb hO => ?_))
 have hS := hS.keep hb; refine zy (zi 0) rfl rfl ?_; refine zN ?_; refine zQ ?_; have hS := hS.keep (below_drew _); have hO := hO.below (below_drew _)
 refine WC_regionD mixedO (fun _ w => Sat G6 w ∧ Owns G6 w w0.heap.size [zb 46 2 b7 [zi 0, zi 0]]) (.fl 0 (.fl 1 (.fl 2 (.fl 3 (.fl 4 (.fl 5 (.two 6 (.fl 7 (.fl 8 (.fl 9 (.fl 10 (.fl 11 (.fl 12 (.two 13 (.fl 14 (.two 15 (.fl 16 (.fl 17 (.fl 18 (.on 19 (.on 20 (.on 21 .nil)))))) 19 (.on 15 (.on 16 (.fl 17 (.fl 18 (.on 20 (.on 21 .nil)))))))) 19 (.on 13 (.on 14 (.on 15 (.on 16 (.fl 17 (.fl 18 (.on 20 (.on 21 .nil))))))))))))))) 19 (.on 6 (.on 7 (.fl 8 (.on 9 (.on 10 (.on 11 (.on 12 (.on 13 (.on 14 (.on 15 (.on 16 (.fl 17 (.fl 18 (.on 20 (.on 21 .nil)))))))))))))))))))))) (by kernel_rfl) rfl (by kernel_rfl) (fun _ => ⟨hS.sat, hO⟩) ?_
 refine zD rfl (fun w hw => rn_loadA ag26 (cs := [zl a1 n1 c1, zl a2 n2 c2, zl a3 n3 c3]) rfl rfl (fun j v hj => hw.1.cell (hcb4.drop_take 0 3 j v hj))) rfl ?_; refine zD rfl (fun w hw => zm (v := (zi x1)) rfl) rfl ?_; refine zD rfl (fun w hw => zF fd26_1 rfl) rfl ?_; refine zD rfl (fun w hw => zL na23 rfl (hw.1.cell (hcb4 1 _ rfl))) rfl ?_; refine zD rfl (fun w hw => rn_len sl23 rfl rfl (h2.mono RTLandEvent_mono leG6).1) rfl ?_; refine zD rfl (fun w hw => rn_sub rfl rfl) rfl ?_; refine WD_two ?_ ?_
 ·obtain ⟨y10, hy10, H⟩ := bnd H; refine zE rfl rfl (zC cb37 (f37_ok (x0 := x1) (x1 := 0) (x2 := IntKind.i64.wrap ((x0.Events.length : Int) - 1)) hS.sat  hy10) rfl rfl (fun w11 hb => ?_)); have hS := hS.keep hb; have hO := hO.below hb; refine ⟨fun _ _ => ⟨hS.sat, hO⟩, ?_⟩; refine zD rfl (fun w hw => zm (v := (.bool y10)) rfl) rfl ?_
  rcases bcases y10 with hb12 | hb12
  ·have H := ifT hb12 H; refine zB rfl rfl hb12 rfl rfl (fun w hw => zm (v := (zi x2)) rfl) rfl ?_; refine zB rfl rfl hb12 rfl rfl (fun w hw => zF fd26_1 rfl) rfl ?_; refine zB rfl rfl hb12 rfl rfl (fun w hw => zL na23 rfl (hw.1.cell (hcb4 1 _ rfl))) rfl ?_; refine zB rfl rfl hb12 rfl rfl (fun w hw => rn_len sl23 rfl rfl (h2.mono RTLandEvent_mono leG6).1) rfl ?_; refine zB rfl rfl hb12 rfl rfl (fun w hw => rn_sub rfl rfl) rfl ?_; refine WD_two ?_ ?_
   ·obtain ⟨y13, hy13, H⟩ := bnd H; refine WD_opY rfl rfl rfl hb12 rfl rfl (zC cb37 (f37_ok (x0 := x2) (x1 := 0) (x2 := IntKind.i64.wrap ((x0.Events.length : Int) - 1)) hS.sat  hy13) rfl rfl (fun w14 hb => ?_)); have hS := hS.keep hb; have hO := hO.below hb; refine ⟨fun _ _ => ⟨hS.sat, hO⟩, ?_⟩; refine zD rfl (fun w hw => rn_pickT (v := (.bool y13)) rfl hb12 rfl) rfl ?_; refine WD_two ?_ ?_
    ·obtain ⟨y15, hy15, H⟩ := bnd H; refine zE rfl rfl (zC cb35 (f35_ok (x0 := x0) (x1 := y13) hS.sat (h1.mono RTLandPerson_mono leG6) (h2.mono RTLandEvent_mono leG6) (h3.mono RTLandMemory_mono leG6) hy15) rfl rfl (fun w16 hb => ?_)); have hS := hS.keep hb; have hO := hO.below hb; refine ⟨fun _ _ => ⟨hS.sat, hO⟩, ?_⟩; refine zD rfl (fun w hw => zm (v := (.tuple #[.agg (cellsT y15.1).toArray, zi y15.2])) rfl) rfl ?_; refine zD rfl (fun w hw => zX (v := (.agg (cellsT y15.1).toArray)) rfl rfl) rfl ?_; refine zD rfl (fun w hw => zX (v := (zi y15.2)) rfl rfl) rfl ?_
     refine zE rfl rfl (zU (v := fun b => zp b) (cs := (cellsT (Tb.zero 64))) (e := 72) (by kernel_rfl) hS.sat hO rfl 64 1 (cellsT_len _) (by decide) (fun b17 w18 hb hO => ?_))
     have hS := hS.keep hb; refine ⟨fun _ _ => ⟨hS.sat, (hO.drop 0)⟩, ?_⟩; refine zE rfl rfl (OpP_storeTT sz72 hS hO (k := 0) rfl rfl rfl (fun w20 hS hO => ?_))
     have hO : Owns _ _ _ ([⟨72, 64, 1, zl (some ⟨b17, 0, none⟩) 1 1, cellsT y15.1⟩, zb 46 2 b7 [zi 0, zi 0]]) := hO
     refine ⟨fun _ _ => ⟨hS.sat, (hO.drop 0)⟩, ?_⟩; refine zE rfl rfl (OpP_val (zA (v := (zi y15.2)) rfl) rfl ?_)
     refine ⟨fun _ h => noneed (by kernel_rfl) h, ?_⟩
     refine zI ?_; refine zQ ?_; refine zS ?_; refine zx (zi y15.2) rfl rfl ?_; refine zV (rn_neq rfl rfl) rfl ?_; refine zN ?_; refine zT rfl (fun hb21 => ?_) (fun hb21 => ?_)
     ·have H := ifT hb21 H; refine zS ?_
      refine zV (v := (.agg #[zi 0, zi 0])) (by kernel_rfl) rfl ?_
      refine zx (zi y15.2) rfl rfl ?_; refine zO rfl (OpP_store (vs := [zi 0, zi 0]) sz46 hS hO (k := 1) rfl rfl rfl rfl rfl (one_all rfl) (Nat.le_of_ble_eq_true rfl) (fun w22 hS hO => ?_))
      have hO : Owns _ _ _ ([⟨72, 64, 1, zl (some ⟨b17, 0, none⟩) 1 1, cellsT y15.1⟩, zb 46 2 b7 [zi 0, zi 0]]) := hO
      refine zy (zi y15.2) rfl rfl ?_; refine zN ?_; refine WC_ret ?_
      have H : some ((⟨0, 0⟩ : TSpan), y15.2) = some r := H
      have H := oi H; subst H
      exact ⟨[.agg #[zi 0, zi 0], zi y15.2], ⟨⟨_, rfl, ld_agg (cs := [zi 0, zi 0]) ag46 rfl (fun j v hj => own_sub hO (k := 1) rfl 0 2 j v hj)⟩, rfl, trivial⟩, ⟨rfl, hS.below⟩⟩
     ·have H := ifF hb21 H; refine zP ?_; refine zS ?_; refine zV (rn_loadT ag72 hO (k := 0) rfl rfl) rfl ?_; refine zx (zi x1) rfl rfl ?_; refine zx (zi x2) rfl rfl ?_; obtain ⟨y23, hy23, H⟩ := bnd H; refine zO rfl (zC cb36 (f36_ok (x0 := y15.1) (x1 := x1) (x2 := x2) hS.sat  hy23) rfl rfl (fun w24 hb => ?_)); have hS := hS.keep hb; have hO := hO.below hb; refine zO rfl (OpP_store (vs := [zi y23.Low, zi y23.High]) sz46 hS hO (k := 1) rfl rfl rfl rfl rfl (one_all rfl) (Nat.le_of_ble_eq_true rfl) (fun w25 hS hO => ?_))
      have hO : Owns _ _ _ ([⟨72, 64, 1, zl (some ⟨b17, 0, none⟩) 1 1, cellsT y15.1⟩, zb 46 2 b7 [zi y23.Low, zi y23.High]]) := hO
      refine zy (zi 0) rfl rfl ?_; refine zN ?_; refine WC_ret ?_
      have H : some (y23, 0) = some r := H
      have H := oi H; subst H
      exact ⟨[.agg #[zi y23.Low, zi y23.High], zi 0], ⟨⟨_, rfl, ld_agg (cs := [zi y23.Low, zi y23.High]) ag46 rfl (fun j v hj => own_sub hO (k := 1) rfl 0 2 j v hj)⟩, rfl, trivial⟩, ⟨rfl, hS.below⟩⟩
    ·refine zE rfl rfl (zU (v := fun b => zp b) (cs := (cellsT (Tb.zero 64))) (e := 72) (by kernel_rfl) hS.sat hO rfl 64 1 (cellsT_len _) (by decide) (fun b15 w16 hb hO => ?_))
     have hS := hS.keep hb; refine ⟨fun _ _ => ⟨hS.sat, (hO.drop 0)⟩, ?_⟩; obtain ⟨y18, hy18, H⟩ := bnd H; refine zE rfl rfl (zC cb35 (f35_ok (x0 := x0) (x1 := y13) hS.sat (h1.mono RTLandPerson_mono leG6) (h2.mono RTLandEvent_mono leG6) (h3.mono RTLandMemory_mono leG6) hy18) rfl rfl (fun w19 hb => ?_)); have hS := hS.keep hb; have hO := hO.below hb; refine ⟨fun _ _ => ⟨hS.sat, (hO.drop 0)⟩, ?_⟩; refine zE rfl rfl (OpP_val (zm (v := (.tuple #[.agg (cellsT y18.1).toArray, zi y18.2])) rfl) rfl ?_); refine ⟨fun _ _ => ⟨hS.sat, (hO.drop 0)⟩, ?_⟩; refine zD rfl (fun w hw => zX (v := (.agg (cellsT y18.1).toArray)) rfl rfl) rfl ?_; refine zD rfl (fun w hw => zX (v := (zi y18.2)) rfl rfl) rfl ?_; refine zE rfl rfl (OpP_storeTT sz72 hS hO (k := 0) rfl rfl rfl (fun w20 hS hO => ?_))
     have hO : Owns _ _ _ ([⟨72, 64, 1, zl (some ⟨b15, 0, none⟩) 1 1, cellsT y18.1⟩, zb 46 2 b7 [zi 0, zi 0]]) := hO
     refine ⟨fun _ _ => ⟨hS.sat, (hO.drop 0)⟩, ?_⟩; refine zE rfl rfl (OpP_val (zA (v := (zi y18.2)) rfl) rfl ?_)
     refine ⟨fun _ h => noneed (by kernel_rfl) h, ?_⟩
     refine zI ?_; refine zQ ?_; refine zS ?_; refine zx (zi y18.2) rfl rfl ?_; refine zV (rn_neq rfl rfl) rfl ?_; refine zN ?_; refine zT rfl (fun hb21 => ?_) (fun hb21 => ?_)
     ·have H := ifT hb21 H; refine zS ?_
      refine zV (v := (.agg #[zi 0, zi 0])) (by kernel_rfl) rfl ?_
      refine zx (zi y18.2) rfl rfl ?_; refine zO rfl (OpP_store (vs := [zi 0, zi 0]) sz46 hS hO (k := 1) rfl rfl rfl rfl rfl (one_all rfl) (Nat.le_of_ble_eq_true rfl) (fun w22 hS hO => ?_))
      have hO : Owns _ _ _ ([⟨72, 64, 1, zl (some ⟨b15, 0, none⟩) 1 1, cellsT y18.1⟩, zb 46 2 b7 [zi 0, zi 0]]) := hO
      refine zy (zi y18.2) rfl rfl ?_; refine zN ?_; refine WC_ret ?_
      have H : some ((⟨0, 0⟩ : TSpan), y18.2) = some r := H
      have H := oi H; subst H
      exact ⟨[.agg #[zi 0, zi 0], zi y18.2], ⟨⟨_, rfl, ld_agg (cs := [zi 0, zi 0]) ag46 rfl (fun j v hj => own_sub hO (k := 1) rfl 0 2 j v hj)⟩, rfl, trivial⟩, ⟨rfl, hS.below⟩⟩
     ·have H := ifF hb21 H; refine zP ?_; refine zS ?_; refine zV (rn_loadT ag72 hO (k := 0) rfl rfl) rfl ?_; refine zx (zi x1) rfl rfl ?_; refine zx (zi x2) rfl rfl ?_; obtain ⟨y23, hy23, H⟩ := bnd H; refine zO rfl (zC cb36 (f36_ok (x0 := y18.1) (x1 := x1) (x2 := x2) hS.sat  hy23) rfl rfl (fun w24 hb => ?_)); have hS := hS.keep hb; have hO := hO.below hb; refine zO rfl (OpP_store (vs := [zi y23.Low, zi y23.High]) sz46 hS hO (k := 1) rfl rfl rfl rfl rfl (one_all rfl) (Nat.le_of_ble_eq_true rfl) (fun w25 hS hO => ?_))
      have hO : Owns _ _ _ ([⟨72, 64, 1, zl (some ⟨b15, 0, none⟩) 1 1, cellsT y18.1⟩, zb 46 2 b7 [zi y23.Low, zi y23.High]]) := hO
      refine zy (zi 0) rfl rfl ?_; refine zN ?_; refine WC_ret ?_
      have H : some (y23, 0) = some r := H
      have H := oi H; subst H
      exact ⟨[.agg #[zi y23.Low, zi y23.High], zi 0], ⟨⟨_, rfl, ld_agg (cs := [zi y23.Low, zi y23.High]) ag46 rfl (fun j v hj => own_sub hO (k := 1) rfl 0 2 j v hj)⟩, rfl, trivial⟩, ⟨rfl, hS.below⟩⟩
   ·refine zE rfl rfl (zU (v := fun b => zp b) (cs := (cellsT (Tb.zero 64))) (e := 72) (by kernel_rfl) hS.sat hO rfl 64 1 (cellsT_len _) (by decide) (fun b13 w14 hb hO => ?_))
    have hS := hS.keep hb; refine ⟨fun _ _ => ⟨hS.sat, (hO.drop 0)⟩, ?_⟩; obtain ⟨y16, hy16, H⟩ := bnd H; refine WD_opY rfl rfl rfl hb12 rfl rfl (zC cb37 (f37_ok (x0 := x2) (x1 := 0) (x2 := IntKind.i64.wrap ((x0.Events.length : Int) - 1)) hS.sat  hy16) rfl rfl (fun w17 hb => ?_)); have hS := hS.keep hb; have hO := hO.below hb; refine ⟨fun _ _ => ⟨hS.sat, (hO.drop 0)⟩, ?_⟩; refine zE rfl rfl (OpP_val (rn_pickT (v := (.bool y16)) rfl hb12 rfl) rfl ?_); refine ⟨fun _ _ => ⟨hS.sat, (hO.drop 0)⟩, ?_⟩; obtain ⟨y18, hy18, H⟩ := bnd H; refine zE rfl rfl (zC cb35 (f35_ok (x0 := x0) (x1 := y16) hS.sat (h1.mono RTLandPerson_mono leG6) (h2.mono RTLandEvent_mono leG6) (h3.mono RTLandMemory_mono leG6) hy18) rfl rfl (fun w19 hb => ?_)); have hS := hS.keep hb; have hO := hO.below hb; refine ⟨fun _ _ => ⟨hS.sat, (hO.drop 0)⟩, ?_⟩; refine zE rfl rfl (OpP_val (zm (v := (.tuple #[.agg (cellsT y18.1).toArray, zi y18.2])) rfl) rfl ?_); refine ⟨fun _ _ => ⟨hS.sat, (hO.drop 0)⟩, ?_⟩; refine zD rfl (fun w hw => zX (v := (.agg (cellsT y18.1).toArray)) rfl rfl) rfl ?_; refine zD rfl (fun w hw => zX (v := (zi y18.2)) rfl rfl) rfl ?_; refine zE rfl rfl (OpP_storeTT sz72 hS hO (k := 0) rfl rfl rfl (fun w20 hS hO => ?_))
    have hO : Owns _ _ _ ([⟨72, 64, 1, zl (some ⟨b13, 0, none⟩) 1 1, cellsT y18.1⟩, zb 46 2 b7 [zi 0, zi 0]]) := hO
    refine ⟨fun _ _ => ⟨hS.sat, (hO.drop 0)⟩, ?_⟩; refine zE rfl rfl (OpP_val (zA (v := (zi y18.2)) rfl) rfl ?_)
    refine ⟨fun _ h => noneed (by kernel_rfl) h, ?_⟩
    refine zI ?_; refine zQ ?_; refine zS ?_; refine zx (zi y18.2) rfl rfl ?_; refine zV (rn_neq rfl rfl) rfl ?_; refine zN ?_; refine zT rfl (fun hb21 => ?_) (fun hb21 => ?_)
    ·have H := ifT hb21 H; refine zS ?_
     refine zV (v := (.agg #[zi 0, zi 0])) (by kernel_rfl) rfl ?_
     refine zx (zi y18.2) rfl rfl ?_; refine zO rfl (OpP_store (vs := [zi 0, zi 0]) sz46 hS hO (k := 1) rfl rfl rfl rfl rfl (one_all rfl) (Nat.le_of_ble_eq_true rfl) (fun w22 hS hO => ?_))
     have hO : Owns _ _ _ ([⟨72, 64, 1, zl (some ⟨b13, 0, none⟩) 1 1, cellsT y18.1⟩, zb 46 2 b7 [zi 0, zi 0]]) := hO
     refine zy (zi y18.2) rfl rfl ?_; refine zN ?_; refine WC_ret ?_
     have H : some ((⟨0, 0⟩ : TSpan), y18.2) = some r := H
     have H := oi H; subst H
     exact ⟨[.agg #[zi 0, zi 0], zi y18.2], ⟨⟨_, rfl, ld_agg (cs := [zi 0, zi 0]) ag46 rfl (fun j v hj => own_sub hO (k := 1) rfl 0 2 j v hj)⟩, rfl, trivial⟩, ⟨rfl, hS.below⟩⟩
    ·have H := ifF hb21 H; refine zP ?_; refine zS ?_; refine zV (rn_loadT ag72 hO (k := 0) rfl rfl) rfl ?_; refine zx (zi x1) rfl rfl ?_; refine zx (zi x2) rfl rfl ?_; obtain ⟨y23, hy23, H⟩ := bnd H; refine zO rfl (zC cb36 (f36_ok (x0 := y18.1) (x1 := x1) (x2 := x2) hS.sat  hy23) rfl rfl (fun w24 hb => ?_)); have hS := hS.keep hb; have hO := hO.below hb; refine zO rfl (OpP_store (vs := [zi y23.Low, zi y23.High]) sz46 hS hO (k := 1) rfl rfl rfl rfl rfl (one_all rfl) (Nat.le_of_ble_eq_true rfl) (fun w25 hS hO => ?_))
     have hO : Owns _ _ _ ([⟨72, 64, 1, zl (some ⟨b13, 0, none⟩) 1 1, cellsT y18.1⟩, zb 46 2 b7 [zi y23.Low, zi y23.High]]) := hO
     refine zy (zi 0) rfl rfl ?_; refine zN ?_; refine WC_ret ?_
     have H : some (y23, 0) = some r := H
     have H := oi H; subst H
     exact ⟨[.agg #[zi y23.Low, zi y23.High], zi 0], ⟨⟨_, rfl, ld_agg (cs := [zi y23.Low, zi y23.High]) ag46 rfl (fun j v hj => own_sub hO (k := 1) rfl 0 2 j v hj)⟩, rfl, trivial⟩, ⟨rfl, hS.below⟩⟩
  ·have H := ifF hb12 H; refine zK rfl rfl hb12 rfl rfl rfl ?_; refine zK rfl rfl hb12 rfl rfl rfl ?_; refine zK rfl rfl hb12 rfl rfl rfl ?_; refine zK rfl rfl hb12 rfl rfl rfl ?_; refine zK rfl rfl hb12 rfl rfl rfl ?_; refine WD_two ?_ ?_
   ·refine zJ rfl rfl hb12 rfl rfl rfl (fun _ _ => ⟨hS.sat, hO⟩) ?_; refine zD rfl (fun w hw => rn_pickF (v := (.bool false)) rfl hb12 rfl) rfl ?_; refine WD_two ?_ ?_
    ·obtain ⟨y26, hy26, H⟩ := bnd H; refine zE rfl rfl (zC cb35 (f35_ok (x0 := x0) (x1 := false) hS.sat (h1.mono RTLandPerson_mono leG6) (h2.mono RTLandEvent_mono leG6) (h3.mono RTLandMemory_mono leG6) hy26) rfl rfl (fun w27 hb => ?_)); have hS := hS.keep hb; have hO := hO.below hb; refine ⟨fun _ _ => ⟨hS.sat, hO⟩, ?_⟩; refine zD rfl (fun w hw => zm (v := (.tuple #[.agg (cellsT y26.1).toArray, zi y26.2])) rfl) rfl ?_; refine zD rfl (fun w hw => zX (v := (.agg (cellsT y26.1).toArray)) rfl rfl) rfl ?_; refine zD rfl (fun w hw => zX (v := (zi y26.2)) rfl rfl) rfl ?_
     refine zE rfl rfl (zU (v := fun b => zp b) (cs := (cellsT (Tb.zero 64))) (e := 72) (by kernel_rfl) hS.sat hO rfl 64 1 (cellsT_len _) (by decide) (fun b28 w29 hb hO => ?_))
     have hS := hS.keep hb; refine ⟨fun _ _ => ⟨hS.sat, (hO.drop 0)⟩, ?_⟩; refine zE rfl rfl (OpP_storeTT sz72 hS hO (k := 0) rfl rfl rfl (fun w31 hS hO => ?_))
     have hO : Owns _ _ _ ([⟨72, 64, 1, zl (some ⟨b28, 0, none⟩) 1 1, cellsT y26.1⟩, zb 46 2 b7 [zi 0, zi 0]]) := hO
     refine ⟨fun _ _ => ⟨hS.sat, (hO.drop 0)⟩, ?_⟩; refine zE rfl rfl (OpP_val (zA (v := (zi y26.2)) rfl) rfl ?_)
     refine ⟨fun _ h => noneed (by kernel_rfl) h, ?_⟩
     refine zI ?_; refine zQ ?_; refine zS ?_; refine zx (zi y26.2) rfl rfl ?_; refine zV (rn_neq rfl rfl) rfl ?_; refine zN ?_; refine zT rfl (fun hb32 => ?_) (fun hb32 => ?_)
     ·have H := ifT hb32 H; refine zS ?_
      refine zV (v := (.agg #[zi 0, zi 0])) (by kernel_rfl) rfl ?_
      refine zx (zi y26.2) rfl rfl ?_; refine zO rfl (OpP_store (vs := [zi 0, zi 0]) sz46 hS hO (k := 1) rfl rfl rfl rfl rfl (one_all rfl) (Nat.le_of_ble_eq_true rfl) (fun w33 hS hO => ?_))
      have hO : Owns _ _ _ ([⟨72, 64, 1, zl (some ⟨b28, 0, none⟩) 1 1, cellsT y26.1⟩, zb 46 2 b7 [zi 0, zi 0]]) := hO
      refine zy (zi y26.2) rfl rfl ?_; refine zN ?_; refine WC_ret ?_
      have H : some ((⟨0, 0⟩ : TSpan), y26.2) = some r := H
      have H := oi H; subst H
      exact ⟨[.agg #[zi 0, zi 0], zi y26.2], ⟨⟨_, rfl, ld_agg (cs := [zi 0, zi 0]) ag46 rfl (fun j v hj => own_sub hO (k := 1) rfl 0 2 j v hj)⟩, rfl, trivial⟩, ⟨rfl, hS.below⟩⟩
     ·have H := ifF hb32 H; refine zP ?_; refine zS ?_; refine zV (rn_loadT ag72 hO (k := 0) rfl rfl) rfl ?_; refine zx (zi x1) rfl rfl ?_; refine zx (zi x2) rfl rfl ?_; obtain ⟨y34, hy34, H⟩ := bnd H; refine zO rfl (zC cb36 (f36_ok (x0 := y26.1) (x1 := x1) (x2 := x2) hS.sat  hy34) rfl rfl (fun w35 hb => ?_)); have hS := hS.keep hb; have hO := hO.below hb; refine zO rfl (OpP_store (vs := [zi y34.Low, zi y34.High]) sz46 hS hO (k := 1) rfl rfl rfl rfl rfl (one_all rfl) (Nat.le_of_ble_eq_true rfl) (fun w36 hS hO => ?_))
      have hO : Owns _ _ _ ([⟨72, 64, 1, zl (some ⟨b28, 0, none⟩) 1 1, cellsT y26.1⟩, zb 46 2 b7 [zi y34.Low, zi y34.High]]) := hO
      refine zy (zi 0) rfl rfl ?_; refine zN ?_; refine WC_ret ?_
      have H : some (y34, 0) = some r := H
      have H := oi H; subst H
      exact ⟨[.agg #[zi y34.Low, zi y34.High], zi 0], ⟨⟨_, rfl, ld_agg (cs := [zi y34.Low, zi y34.High]) ag46 rfl (fun j v hj => own_sub hO (k := 1) rfl 0 2 j v hj)⟩, rfl, trivial⟩, ⟨rfl, hS.below⟩⟩
    ·refine zE rfl rfl (zU (v := fun b => zp b) (cs := (cellsT (Tb.zero 64))) (e := 72) (by kernel_rfl) hS.sat hO rfl 64 1 (cellsT_len _) (by decide) (fun b26 w27 hb hO => ?_))
     have hS := hS.keep hb; refine ⟨fun _ _ => ⟨hS.sat, (hO.drop 0)⟩, ?_⟩; obtain ⟨y29, hy29, H⟩ := bnd H; refine zE rfl rfl (zC cb35 (f35_ok (x0 := x0) (x1 := false) hS.sat (h1.mono RTLandPerson_mono leG6) (h2.mono RTLandEvent_mono leG6) (h3.mono RTLandMemory_mono leG6) hy29) rfl rfl (fun w30 hb => ?_)); have hS := hS.keep hb; have hO := hO.below hb; refine ⟨fun _ _ => ⟨hS.sat, (hO.drop 0)⟩, ?_⟩; refine zE rfl rfl (OpP_val (zm (v := (.tuple #[.agg (cellsT y29.1).toArray, zi y29.2])) rfl) rfl ?_); refine ⟨fun _ _ => ⟨hS.sat, (hO.drop 0)⟩, ?_⟩; refine zD rfl (fun w hw => zX (v := (.agg (cellsT y29.1).toArray)) rfl rfl) rfl ?_; refine zD rfl (fun w hw => zX (v := (zi y29.2)) rfl rfl) rfl ?_; refine zE rfl rfl (OpP_storeTT sz72 hS hO (k := 0) rfl rfl rfl (fun w31 hS hO => ?_))
     have hO : Owns _ _ _ ([⟨72, 64, 1, zl (some ⟨b26, 0, none⟩) 1 1, cellsT y29.1⟩, zb 46 2 b7 [zi 0, zi 0]]) := hO
     refine ⟨fun _ _ => ⟨hS.sat, (hO.drop 0)⟩, ?_⟩; refine zE rfl rfl (OpP_val (zA (v := (zi y29.2)) rfl) rfl ?_)
     refine ⟨fun _ h => noneed (by kernel_rfl) h, ?_⟩
     refine zI ?_; refine zQ ?_; refine zS ?_; refine zx (zi y29.2) rfl rfl ?_; refine zV (rn_neq rfl rfl) rfl ?_; refine zN ?_; refine zT rfl (fun hb32 => ?_) (fun hb32 => ?_)
     ·have H := ifT hb32 H; refine zS ?_
      refine zV (v := (.agg #[zi 0, zi 0])) (by kernel_rfl) rfl ?_
      refine zx (zi y29.2) rfl rfl ?_; refine zO rfl (OpP_store (vs := [zi 0, zi 0]) sz46 hS hO (k := 1) rfl rfl rfl rfl rfl (one_all rfl) (Nat.le_of_ble_eq_true rfl) (fun w33 hS hO => ?_))
      have hO : Owns _ _ _ ([⟨72, 64, 1, zl (some ⟨b26, 0, none⟩) 1 1, cellsT y29.1⟩, zb 46 2 b7 [zi 0, zi 0]]) := hO
      refine zy (zi y29.2) rfl rfl ?_; refine zN ?_; refine WC_ret ?_
      have H : some ((⟨0, 0⟩ : TSpan), y29.2) = some r := H
      have H := oi H; subst H
      exact ⟨[.agg #[zi 0, zi 0], zi y29.2], ⟨⟨_, rfl, ld_agg (cs := [zi 0, zi 0]) ag46 rfl (fun j v hj => own_sub hO (k := 1) rfl 0 2 j v hj)⟩, rfl, trivial⟩, ⟨rfl, hS.below⟩⟩
     ·have H := ifF hb32 H; refine zP ?_; refine zS ?_; refine zV (rn_loadT ag72 hO (k := 0) rfl rfl) rfl ?_; refine zx (zi x1) rfl rfl ?_; refine zx (zi x2) rfl rfl ?_; obtain ⟨y34, hy34, H⟩ := bnd H; refine zO rfl (zC cb36 (f36_ok (x0 := y29.1) (x1 := x1) (x2 := x2) hS.sat  hy34) rfl rfl (fun w35 hb => ?_)); have hS := hS.keep hb; have hO := hO.below hb; refine zO rfl (OpP_store (vs := [zi y34.Low, zi y34.High]) sz46 hS hO (k := 1) rfl rfl rfl rfl rfl (one_all rfl) (Nat.le_of_ble_eq_true rfl) (fun w36 hS hO => ?_))
      have hO : Owns _ _ _ ([⟨72, 64, 1, zl (some ⟨b26, 0, none⟩) 1 1, cellsT y29.1⟩, zb 46 2 b7 [zi y34.Low, zi y34.High]]) := hO
      refine zy (zi 0) rfl rfl ?_; refine zN ?_; refine WC_ret ?_
      have H : some (y34, 0) = some r := H
      have H := oi H; subst H
      exact ⟨[.agg #[zi y34.Low, zi y34.High], zi 0], ⟨⟨_, rfl, ld_agg (cs := [zi y34.Low, zi y34.High]) ag46 rfl (fun j v hj => own_sub hO (k := 1) rfl 0 2 j v hj)⟩, rfl, trivial⟩, ⟨rfl, hS.below⟩⟩
   ·refine zE rfl rfl (zU (v := fun b => zp b) (cs := (cellsT (Tb.zero 64))) (e := 72) (by kernel_rfl) hS.sat hO rfl 64 1 (cellsT_len _) (by decide) (fun b26 w27 hb hO => ?_))
    have hS := hS.keep hb; refine ⟨fun _ _ => ⟨hS.sat, (hO.drop 0)⟩, ?_⟩; refine zJ rfl rfl hb12 rfl rfl rfl (fun _ _ => ⟨hS.sat, (hO.drop 0)⟩) ?_; refine zE rfl rfl (OpP_val (rn_pickF (v := (.bool false)) rfl hb12 rfl) rfl ?_); refine ⟨fun _ _ => ⟨hS.sat, (hO.drop 0)⟩, ?_⟩; obtain ⟨y29, hy29, H⟩ := bnd H; refine zE rfl rfl (zC cb35 (f35_ok (x0 := x0) (x1 := false) hS.sat (h1.mono RTLandPerson_mono leG6) (h2.mono RTLandEvent_mono leG6) (h3.mono RTLandMemory_mono leG6) hy29) rfl rfl (fun w30 hb => ?_)); have hS := hS.keep hb; have hO := hO.below hb; refine ⟨fun _ _ => ⟨hS.sat, (hO.drop 0)⟩, ?_⟩; refine zE rfl rfl (OpP_val (zm (v := (.tuple #[.agg (cellsT y29.1).toArray, zi y29.2])) rfl) rfl ?_); refine ⟨fun _ _ => ⟨hS.sat, (hO.drop 0)⟩, ?_⟩; refine zD rfl (fun w hw => zX (v := (.agg (cellsT y29.1).toArray)) rfl rfl) rfl ?_; refine zD rfl (fun w hw => zX (v := (zi y29.2)) rfl rfl) rfl ?_; refine zE rfl rfl (OpP_storeTT sz72 hS hO (k := 0) rfl rfl rfl (fun w31 hS hO => ?_))
    have hO : Owns _ _ _ ([⟨72, 64, 1, zl (some ⟨b26, 0, none⟩) 1 1, cellsT y29.1⟩, zb 46 2 b7 [zi 0, zi 0]]) := hO
    refine ⟨fun _ _ => ⟨hS.sat, (hO.drop 0)⟩, ?_⟩; refine zE rfl rfl (OpP_val (zA (v := (zi y29.2)) rfl) rfl ?_)
    refine ⟨fun _ h => noneed (by kernel_rfl) h, ?_⟩
    refine zI ?_; refine zQ ?_; refine zS ?_; refine zx (zi y29.2) rfl rfl ?_; refine zV (rn_neq rfl rfl) rfl ?_; refine zN ?_; refine zT rfl (fun hb32 => ?_) (fun hb32 => ?_)
    ·have H := ifT hb32 H; refine zS ?_
     refine zV (v := (.agg #[zi 0, zi 0])) (by kernel_rfl) rfl ?_
     refine zx (zi y29.2) rfl rfl ?_; refine zO rfl (OpP_store (vs := [zi 0, zi 0]) sz46 hS hO (k := 1) rfl rfl rfl rfl rfl (one_all rfl) (Nat.le_of_ble_eq_true rfl) (fun w33 hS hO => ?_))
     have hO : Owns _ _ _ ([⟨72, 64, 1, zl (some ⟨b26, 0, none⟩) 1 1, cellsT y29.1⟩, zb 46 2 b7 [zi 0, zi 0]]) := hO
     refine zy (zi y29.2) rfl rfl ?_; refine zN ?_; refine WC_ret ?_
     have H : some ((⟨0, 0⟩ : TSpan), y29.2) = some r := H
     have H := oi H; subst H
     exact ⟨[.agg #[zi 0, zi 0], zi y29.2], ⟨⟨_, rfl, ld_agg (cs := [zi 0, zi 0]) ag46 rfl (fun j v hj => own_sub hO (k := 1) rfl 0 2 j v hj)⟩, rfl, trivial⟩, ⟨rfl, hS.below⟩⟩
    ·have H := ifF hb32 H; refine zP ?_; refine zS ?_; refine zV (rn_loadT ag72 hO (k := 0) rfl rfl) rfl ?_; refine zx (zi x1) rfl rfl ?_; refine zx (zi x2) rfl rfl ?_; obtain ⟨y34, hy34, H⟩ := bnd H; refine zO rfl (zC cb36 (f36_ok (x0 := y29.1) (x1 := x1) (x2 := x2) hS.sat  hy34) rfl rfl (fun w35 hb => ?_)); have hS := hS.keep hb; have hO := hO.below hb; refine zO rfl (OpP_store (vs := [zi y34.Low, zi y34.High]) sz46 hS hO (k := 1) rfl rfl rfl rfl rfl (one_all rfl) (Nat.le_of_ble_eq_true rfl) (fun w36 hS hO => ?_))
     have hO : Owns _ _ _ ([⟨72, 64, 1, zl (some ⟨b26, 0, none⟩) 1 1, cellsT y29.1⟩, zb 46 2 b7 [zi y34.Low, zi y34.High]]) := hO
     refine zy (zi 0) rfl rfl ?_; refine zN ?_; refine WC_ret ?_
     have H : some (y34, 0) = some r := H
     have H := oi H; subst H
     exact ⟨[.agg #[zi y34.Low, zi y34.High], zi 0], ⟨⟨_, rfl, ld_agg (cs := [zi y34.Low, zi y34.High]) ag46 rfl (fun j v hj => own_sub hO (k := 1) rfl 0 2 j v hj)⟩, rfl, trivial⟩, ⟨rfl, hS.below⟩⟩
 ·refine zE rfl rfl (zU (v := fun b => zp b) (cs := (cellsT (Tb.zero 64))) (e := 72) (by kernel_rfl) hS.sat hO rfl 64 1 (cellsT_len _) (by decide) (fun b10 w11 hb hO => ?_))
  have hS := hS.keep hb; refine ⟨fun _ _ => ⟨hS.sat, (hO.drop 0)⟩, ?_⟩; obtain ⟨y13, hy13, H⟩ := bnd H; refine zE rfl rfl (zC cb37 (f37_ok (x0 := x1) (x1 := 0) (x2 := IntKind.i64.wrap ((x0.Events.length : Int) - 1)) hS.sat  hy13) rfl rfl (fun w14 hb => ?_)); have hS := hS.keep hb; have hO := hO.below hb; refine ⟨fun _ _ => ⟨hS.sat, (hO.drop 0)⟩, ?_⟩; refine zE rfl rfl (OpP_val (zm (v := (.bool y13)) rfl) rfl ?_); refine ⟨fun _ _ => ⟨hS.sat, (hO.drop 0)⟩, ?_⟩
  rcases bcases y13 with hb15 | hb15
  ·have H := ifT hb15 H; refine zB rfl rfl hb15 rfl rfl (fun w hw => zm (v := (zi x2)) rfl) rfl ?_; refine WD_opY rfl rfl rfl hb15 rfl rfl (OpP_val (zF fd26_1 rfl) rfl ?_); refine ⟨fun _ _ => ⟨hS.sat, (hO.drop 0)⟩, ?_⟩; refine WD_opY rfl rfl rfl hb15 rfl rfl (OpP_val (zL na23 rfl (hS.sat.cell (hcb4 1 _ rfl))) rfl ?_); refine ⟨fun _ _ => ⟨hS.sat, (hO.drop 0)⟩, ?_⟩; refine WD_opY rfl rfl rfl hb15 rfl rfl (OpP_val (rn_len sl23 rfl rfl (h2.mono RTLandEvent_mono leG6).1) rfl ?_); refine ⟨fun _ _ => ⟨hS.sat, (hO.drop 0)⟩, ?_⟩; refine WD_opY rfl rfl rfl hb15 rfl rfl (OpP_val (rn_sub rfl rfl) rfl ?_); refine ⟨fun _ _ => ⟨hS.sat, (hO.drop 0)⟩, ?_⟩; obtain ⟨y16, hy16, H⟩ := bnd H; refine WD_opY rfl rfl rfl hb15 rfl rfl (zC cb37 (f37_ok (x0 := x2) (x1 := 0) (x2 := IntKind.i64.wrap ((x0.Events.length : Int) - 1)) hS.sat  hy16) rfl rfl (fun w17 hb => ?_)); have hS := hS.keep hb; have hO := hO.below hb; refine ⟨fun _ _ => ⟨hS.sat, (hO.drop 0)⟩, ?_⟩; refine zE rfl rfl (OpP_val (rn_pickT (v := (.bool y16)) rfl hb15 rfl) rfl ?_); refine ⟨fun _ _ => ⟨hS.sat, (hO.drop 0)⟩, ?_⟩; obtain ⟨y18, hy18, H⟩ := bnd H; refine zE rfl rfl (zC cb35 (f35_ok (x0 := x0) (x1 := y16) hS.sat (h1.mono RTLandPerson_mono leG6) (h2.mono RTLandEvent_mono leG6) (h3.mono RTLandMemory_mono leG6) hy18) rfl rfl (fun w19 hb => ?_)); have hS := hS.keep hb; have hO := hO.below hb; refine ⟨fun _ _ => ⟨hS.sat, (hO.drop 0)⟩, ?_⟩; refine zE rfl rfl (OpP_val (zm (v := (.tuple #[.agg (cellsT y18.1).toArray, zi y18.2])) rfl) rfl ?_); refine ⟨fun _ _ => ⟨hS.sat, (hO.drop 0)⟩, ?_⟩; refine zD rfl (fun w hw => zX (v := (.agg (cellsT y18.1).toArray)) rfl rfl) rfl ?_; refine zD rfl (fun w hw => zX (v := (zi y18.2)) rfl rfl) rfl ?_; refine zE rfl rfl (OpP_storeTT sz72 hS hO (k := 0) rfl rfl rfl (fun w20 hS hO => ?_))
   have hO : Owns _ _ _ ([⟨72, 64, 1, zl (some ⟨b10, 0, none⟩) 1 1, cellsT y18.1⟩, zb 46 2 b7 [zi 0, zi 0]]) := hO
   refine ⟨fun _ _ => ⟨hS.sat, (hO.drop 0)⟩, ?_⟩; refine zE rfl rfl (OpP_val (zA (v := (zi y18.2)) rfl) rfl ?_)
   refine ⟨fun _ h => noneed (by kernel_rfl) h, ?_⟩
   refine zI ?_; refine zQ ?_; refine zS ?_; refine zx (zi y18.2) rfl rfl ?_; refine zV (rn_neq rfl rfl) rfl ?_; refine zN ?_; refine zT rfl (fun hb21 => ?_) (fun hb21 => ?_)
   ·have H := ifT hb21 H; refine zS ?_
    refine zV (v := (.agg #[zi 0, zi 0])) (by kernel_rfl) rfl ?_
    refine zx (zi y18.2) rfl rfl ?_; refine zO rfl (OpP_store (vs := [zi 0, zi 0]) sz46 hS hO (k := 1) rfl rfl rfl rfl rfl (one_all rfl) (Nat.le_of_ble_eq_true rfl) (fun w22 hS hO => ?_))
    have hO : Owns _ _ _ ([⟨72, 64, 1, zl (some ⟨b10, 0, none⟩) 1 1, cellsT y18.1⟩, zb 46 2 b7 [zi 0, zi 0]]) := hO
    refine zy (zi y18.2) rfl rfl ?_; refine zN ?_; refine WC_ret ?_
    have H : some ((⟨0, 0⟩ : TSpan), y18.2) = some r := H
    have H := oi H; subst H
    exact ⟨[.agg #[zi 0, zi 0], zi y18.2], ⟨⟨_, rfl, ld_agg (cs := [zi 0, zi 0]) ag46 rfl (fun j v hj => own_sub hO (k := 1) rfl 0 2 j v hj)⟩, rfl, trivial⟩, ⟨rfl, hS.below⟩⟩
   ·have H := ifF hb21 H; refine zP ?_; refine zS ?_; refine zV (rn_loadT ag72 hO (k := 0) rfl rfl) rfl ?_; refine zx (zi x1) rfl rfl ?_; refine zx (zi x2) rfl rfl ?_; obtain ⟨y23, hy23, H⟩ := bnd H; refine zO rfl (zC cb36 (f36_ok (x0 := y18.1) (x1 := x1) (x2 := x2) hS.sat  hy23) rfl rfl (fun w24 hb => ?_)); have hS := hS.keep hb; have hO := hO.below hb; refine zO rfl (OpP_store (vs := [zi y23.Low, zi y23.High]) sz46 hS hO (k := 1) rfl rfl rfl rfl rfl (one_all rfl) (Nat.le_of_ble_eq_true rfl) (fun w25 hS hO => ?_))
    have hO : Owns _ _ _ ([⟨72, 64, 1, zl (some ⟨b10, 0, none⟩) 1 1, cellsT y18.1⟩, zb 46 2 b7 [zi y23.Low, zi y23.High]]) := hO
    refine zy (zi 0) rfl rfl ?_; refine zN ?_; refine WC_ret ?_
    have H : some (y23, 0) = some r := H
    have H := oi H; subst H
    exact ⟨[.agg #[zi y23.Low, zi y23.High], zi 0], ⟨⟨_, rfl, ld_agg (cs := [zi y23.Low, zi y23.High]) ag46 rfl (fun j v hj => own_sub hO (k := 1) rfl 0 2 j v hj)⟩, rfl, trivial⟩, ⟨rfl, hS.below⟩⟩
  ·have H := ifF hb15 H; refine zK rfl rfl hb15 rfl rfl rfl ?_; refine zJ rfl rfl hb15 rfl rfl rfl (fun _ _ => ⟨hS.sat, (hO.drop 0)⟩) ?_; refine zJ rfl rfl hb15 rfl rfl rfl (fun _ _ => ⟨hS.sat, (hO.drop 0)⟩) ?_; refine zJ rfl rfl hb15 rfl rfl rfl (fun _ _ => ⟨hS.sat, (hO.drop 0)⟩) ?_; refine zJ rfl rfl hb15 rfl rfl rfl (fun _ _ => ⟨hS.sat, (hO.drop 0)⟩) ?_; refine zJ rfl rfl hb15 rfl rfl rfl (fun _ _ => ⟨hS.sat, (hO.drop 0)⟩) ?_; refine zE rfl rfl (OpP_val (rn_pickF (v := (.bool false)) rfl hb15 rfl) rfl ?_); refine ⟨fun _ _ => ⟨hS.sat, (hO.drop 0)⟩, ?_⟩; obtain ⟨y26, hy26, H⟩ := bnd H; refine zE rfl rfl (zC cb35 (f35_ok (x0 := x0) (x1 := false) hS.sat (h1.mono RTLandPerson_mono leG6) (h2.mono RTLandEvent_mono leG6) (h3.mono RTLandMemory_mono leG6) hy26) rfl rfl (fun w27 hb => ?_)); have hS := hS.keep hb; have hO := hO.below hb; refine ⟨fun _ _ => ⟨hS.sat, (hO.drop 0)⟩, ?_⟩; refine zE rfl rfl (OpP_val (zm (v := (.tuple #[.agg (cellsT y26.1).toArray, zi y26.2])) rfl) rfl ?_); refine ⟨fun _ _ => ⟨hS.sat, (hO.drop 0)⟩, ?_⟩; refine zD rfl (fun w hw => zX (v := (.agg (cellsT y26.1).toArray)) rfl rfl) rfl ?_; refine zD rfl (fun w hw => zX (v := (zi y26.2)) rfl rfl) rfl ?_; refine zE rfl rfl (OpP_storeTT sz72 hS hO (k := 0) rfl rfl rfl (fun w28 hS hO => ?_))
   have hO : Owns _ _ _ ([⟨72, 64, 1, zl (some ⟨b10, 0, none⟩) 1 1, cellsT y26.1⟩, zb 46 2 b7 [zi 0, zi 0]]) := hO
   refine ⟨fun _ _ => ⟨hS.sat, (hO.drop 0)⟩, ?_⟩; refine zE rfl rfl (OpP_val (zA (v := (zi y26.2)) rfl) rfl ?_)
   refine ⟨fun _ h => noneed (by kernel_rfl) h, ?_⟩
   refine zI ?_; refine zQ ?_; refine zS ?_; refine zx (zi y26.2) rfl rfl ?_; refine zV (rn_neq rfl rfl) rfl ?_; refine zN ?_; refine zT rfl (fun hb29 => ?_) (fun hb29 => ?_)
   ·have H := ifT hb29 H; refine zS ?_
    refine zV (v := (.agg #[zi 0, zi 0])) (by kernel_rfl) rfl ?_
    refine zx (zi y26.2) rfl rfl ?_; refine zO rfl (OpP_store (vs := [zi 0, zi 0]) sz46 hS hO (k := 1) rfl rfl rfl rfl rfl (one_all rfl) (Nat.le_of_ble_eq_true rfl) (fun w30 hS hO => ?_))
    have hO : Owns _ _ _ ([⟨72, 64, 1, zl (some ⟨b10, 0, none⟩) 1 1, cellsT y26.1⟩, zb 46 2 b7 [zi 0, zi 0]]) := hO
    refine zy (zi y26.2) rfl rfl ?_; refine zN ?_; refine WC_ret ?_
    have H : some ((⟨0, 0⟩ : TSpan), y26.2) = some r := H
    have H := oi H; subst H
    exact ⟨[.agg #[zi 0, zi 0], zi y26.2], ⟨⟨_, rfl, ld_agg (cs := [zi 0, zi 0]) ag46 rfl (fun j v hj => own_sub hO (k := 1) rfl 0 2 j v hj)⟩, rfl, trivial⟩, ⟨rfl, hS.below⟩⟩
   ·have H := ifF hb29 H; refine zP ?_; refine zS ?_; refine zV (rn_loadT ag72 hO (k := 0) rfl rfl) rfl ?_; refine zx (zi x1) rfl rfl ?_; refine zx (zi x2) rfl rfl ?_; obtain ⟨y31, hy31, H⟩ := bnd H; refine zO rfl (zC cb36 (f36_ok (x0 := y26.1) (x1 := x1) (x2 := x2) hS.sat  hy31) rfl rfl (fun w32 hb => ?_)); have hS := hS.keep hb; have hO := hO.below hb; refine zO rfl (OpP_store (vs := [zi y31.Low, zi y31.High]) sz46 hS hO (k := 1) rfl rfl rfl rfl rfl (one_all rfl) (Nat.le_of_ble_eq_true rfl) (fun w33 hS hO => ?_))
    have hO : Owns _ _ _ ([⟨72, 64, 1, zl (some ⟨b10, 0, none⟩) 1 1, cellsT y26.1⟩, zb 46 2 b7 [zi y31.Low, zi y31.High]]) := hO
    refine zy (zi 0) rfl rfl ?_; refine zN ?_; refine WC_ret ?_
    have H : some (y31, 0) = some r := H
    have H := oi H; subst H
    exact ⟨[.agg #[zi y31.Low, zi y31.High], zi 0], ⟨⟨_, rfl, ld_agg (cs := [zi y31.Low, zi y31.High]) ag46 rfl (fun j v hj => own_sub hO (k := 1) rfl 0 2 j v hj)⟩, rfl, trivial⟩, ⟨rfl, hS.below⟩⟩
set_option maxHeartbeats 1000000 in
theorem f39_ok {B : Nat} {G0 : Gm} {w0 : World} {Gc : Gm} {wc : World} {Lq : List Row} {x0 : TLandBook} {bb rm : Nat} {a1 : Option Addr} {n1 c1 : Nat} {a2 : Option Addr} {n2 c2 : Nat} {a3 : Option Addr} {n3 c3 : Nat} {m : List (Int × Bool)} {x1 : Int} (hS : Since B G0 w0 Gc wc) (hO : Owns Gc wc B (⟨79, 2, m.length, .map (some rm), kvs kvI vvB m⟩ :: Lq))
  (hcb : Cells Gc bb 0 [zl a1 n1 c1, zl a2 n2 c2, zl a3 n3 c3, .map (some rm)]) (h1 : RSl RTLandPerson 2 Gc a1 n1 c1 x0.People) (h2 : RSl RTLandEvent 2 Gc a2 n2 c2 x0.Events) (h3 : RSl RTLandMemory 4 Gc a3 n3 c3 x0.Memories) {r : Bool × List (Int × Bool)} (H : f39 x0 m x1 = some r) :
  Calls Tryz.prog 39 [zp bb, zi x1].toArray wc (RetO B G0 w0 Gc wc (fun G L' v => v = .bool r.1 ∧ L' = ⟨79, 2, r.2.length, .map (some rm), kvs kvI vvB r.2⟩ :: Lq)) := by
 unfold f39 at H
 refine enterL (N := 31) (rs := [.tmp 4]) hO.base Tryz.func39 rfl rfl rfl rfl ?_; refine zS ?_; refine zy (.bool false) rfl rfl ?_; refine zN ?_; refine zS ?_; refine zx (zp bb) rfl rfl ?_
 refine zV (v := (zp bb)) (by kernel_rfl) rfl ?_
 refine zV (zF fd119_1 rfl) rfl ?_; refine zV (zL na117 rfl (hS.sat.cell (hcb 3 _ rfl))) rfl ?_; refine zx (zi x1) rfl rfl ?_; refine zV (v := (.tuple #[.bool ((lookM m x1).getD false), .bool ((lookM m x1).isSome)])) (rn_lookup2 (k := 0) (vv := vvB) (z := false) (a := x1) mp117 (keyOk_I ui79) zi4 hO rfl rfl rfl) rfl ?_; refine zx (.tuple #[.bool ((lookM m x1).getD false), .bool ((lookM m x1).isSome)]) rfl rfl ?_; refine zV (zX (v := (.bool ((lookM m x1).getD false))) rfl rfl) rfl ?_; refine zV (zX (v := (.bool ((lookM m x1).isSome))) rfl rfl) rfl ?_; refine zy (.bool ((lookM m x1).getD false)) rfl rfl ?_; refine zy (.bool ((lookM m x1).isSome)) rfl rfl ?_; refine zN ?_; refine zQ ?_; obtain ⟨q10, hq10, H⟩ := bnd H; refine zM (fun F w => ∃ (Fb : Fr) (G : Gm), F = upds Fb [(5, .bool q10.1)] ∧ Gle Gc G ∧ Since B G0 w0 G w ∧ Owns G w B (⟨79, 2, (q10.2).length, .map (some rm), kvs kvI vvB (q10.2)⟩ :: Lq)) ?_ ?_
 ·have Hoq10 := H; have H := hq10; refine zS ?_; refine zx (.bool ((lookM m x1).isSome)) rfl rfl ?_; refine zV (rn_not rfl) rfl ?_; refine zN ?_; refine zT rfl (fun hb11 => ?_) (fun hb11 => ?_)
  ·have H := ifT hb11 H; refine zS ?_; refine zx (zp bb) rfl rfl ?_; refine zx (zi x1) rfl rfl ?_; obtain ⟨y12, hy12, H⟩ := bnd H
   have hx14 := f63_ok (x0 := x0) (x1 := x1) hS.sat hcb h1 h2 h3 hy12
   refine zO rfl (zC cb63 hx14 rfl rfl (fun w13 hb => ?_)); have hS := hS.keep hb; have hO := hO.below hb; refine zx (.tuple #[.agg (cellsT y12.1).toArray, .bool y12.2]) rfl rfl ?_; refine zV (zX (v := (.agg (cellsT y12.1).toArray)) rfl rfl) rfl ?_; refine zV (zX (v := (.bool y12.2)) rfl rfl) rfl ?_; refine zy (.bool y12.2) rfl rfl ?_; refine zN ?_; refine zR ?_; refine zx (zp bb) rfl rfl ?_
   refine zV (v := (zp bb)) (by kernel_rfl) rfl ?_
   refine zV (zF fd119_1 rfl) rfl ?_; refine zV (zL na117 rfl (hS.sat.cell (hcb 3 _ rfl))) rfl ?_; refine zx (zi x1) rfl rfl ?_; refine zx (.bool y12.2) rfl rfl ?_; refine zO rfl (OpP_mapUpdate (k := 0) (vv := vvB) (v := y12.2) (a := x1) mp117 (keyOk_I ui79) hS hO rfl rfl rfl rfl rfl (fun w15 hS hO => ?_))
   have hO : Owns _ _ _ (⟨79, 2, (updM m x1 y12.2).length, .map (some rm), kvs kvI vvB (updM m x1 y12.2)⟩ :: Lq) := hO
   refine zN ?_
   have hO : Owns _ _ _ (⟨79, 2, (updM m x1 y12.2).length, .map (some rm), kvs kvI vvB (updM m x1 y12.2)⟩ :: Lq) := hO
   have H := oi H; subst H
   exact ⟨_, Gc, upds_self _ _ ⟨rfl, trivial⟩, Gle.refl _, hS, hO⟩
  ·have H := ifF hb11 H; refine zP ?_
   have hO : Owns _ _ _ (⟨79, 2, m.length, .map (some rm), kvs kvI vvB m⟩ :: Lq) := hO
   have H := oi H; subst H
   exact ⟨_, Gc, upds_self _ _ ⟨rfl, trivial⟩, Gle.refl _, hS, hO⟩
 ·rintro F w16 ⟨Fb, G17, rfl, leG17, hS, hO⟩
  refine zS ?_; refine zx (.bool q10.1) rfl rfl ?_; refine zy (.bool q10.1) rfl rfl ?_; refine zN ?_; refine WC_ret ?_
  have H : some q10 = some r := H
  have H := oi H; subst H
  exact ⟨[.bool q10.1], ⟨rfl, trivial⟩, G17, _, leG17, hS, hO, rfl, rfl⟩
set_option maxHeartbeats 1000000 in
theorem f43_ok {B : Nat} {G0 : Gm} {w0 : World} {Gc : Gm} {wc : World} {Lq : List Row} {x0 : TLandBook} {bx bb rm : Nat} {a1 : Option Addr} {n1 c1 : Nat} {a2 : Option Addr} {n2 c2 : Nat} {a3 : Option Addr} {n3 c3 : Nat} {m : List (Int × Bool)} {x1 : Int} (hS : Since B G0 w0 Gc wc) (hO : Owns Gc wc B (⟨79, 2, m.length, .map (some rm), kvs kvI vvB m⟩ :: Lq))
  (hcx : Cells Gc bx 0 [zp bb]) (hcb : Cells Gc bb 0 [zl a1 n1 c1, zl a2 n2 c2, zl a3 n3 c3, .map (some rm)]) (h1 : RSl RTLandPerson 2 Gc a1 n1 c1 x0.People) (h2 : RSl RTLandEvent 2 Gc a2 n2 c2 x0.Events) (h3 : RSl RTLandMemory 4 Gc a3 n3 c3 x0.Memories) {r : Bool × List (Int × Bool)} (H : f39 x0 m x1 = some r) :
  Calls Tryz.prog 43 [zi x1, zp bx].toArray wc (RetO B G0 w0 Gc wc (fun G L' v => v = .bool (!r.1) ∧ L' = ⟨79, 2, r.2.length, .map (some rm), kvs kvI vvB r.2⟩ :: Lq)) := by
 refine enterL (N := 8) (rs := [.tmp 3]) hO.base Tryz.func43 rfl rfl rfl rfl ?_; refine zS ?_; refine zV (zA (v := .bool false) rfl) rfl ?_; refine zN ?_; refine zS ?_; refine zV (zL na76 rfl (hS.sat.cell (hcx 0 _ rfl))) rfl ?_; refine zV (zm (v := zi x1) rfl) rfl ?_; refine zO rfl (OpP_enter (rn_call cb39 rfl) rfl (f39_ok hS hO hcb h1 h2 h3 H) ?_)
 rintro e w1 ⟨v, rfl, hk, G', L', le, hS, hO, rfl, rfl⟩
 refine ⟨_, rfl, hk.weak, ?_⟩; refine zV (rn_not rfl) rfl ?_; refine zV (zA (v := .bool (!r.1)) rfl) rfl ?_; refine zN ?_; refine WC_ret ?_
 exact ⟨[.bool (!r.1)], ⟨rfl, trivial⟩, G', _, le, hS, hO, rfl, rfl⟩
theorem f41_ok {B : Nat} {G0 : Gm} {w0 : World} {Gc : Gm} {wc : World} {Lq : List Row} {rm : Nat} {m : List (Int × Bool)} (hS : Since B G0 w0 Gc wc) (hO : Owns Gc wc B (⟨79, 2, m.length, .map (some rm), kvs kvI vvB m⟩ :: Lq))
  {ki kf : Nat} {fi ca cc : List Value} {xs : List Int} (hki : callB Tryz.prog ki = true) (it : IterOk Tryz.prog ki fi ca Gc encS xs) (hkf : callB Tryz.prog kf = true) (pred : List (Int × Bool) → Int → Option (Bool × List (Int × Bool)))
  (hpred : ∀ (G : Gm) (L : List Row) (m : List (Int × Bool)) (w : World) (x : Int) (r : Bool × List (Int × Bool)), Gle Gc G → Since B G0 w0 G w → Owns G w B (⟨79, 2, m.length, .map (some rm), kvs kvI vvB m⟩ :: L) → pred m x = some r →
   Calls Tryz.prog kf (([] : List Value) ++ [Value.int .i64 x] ++ cc).toArray w (RetO B G0 w0 G w (fun G' L' v => v = .bool r.1 ∧ L' = ⟨79, 2, r.2.length, .map (some rm), kvs kvI vvB r.2⟩ :: L)))
  {r : Int × Bool × List (Int × Bool)} (H : bestF pred xs m = some r) :
  Calls Tryz.prog 41 [.func (.func ki) fi.toArray ca.toArray, .func (.func kf) ([] : List Value).toArray cc.toArray].toArray wc (RetO B G0 w0 Gc wc (fun G L' v => v = .tuple #[zi r.1, .bool r.2.1] ∧ L' = ⟨79, 2, r.2.2.length, .map (some rm), kvs kvI vvB r.2.2⟩ :: Lq)) := by
 unfold bestF at H
 obtain ⟨q, hq, H⟩ := bnd H; refine enterL (N := 15) (rs := [.cell 4 79, .cell 5 4]) hO.base Tryz.func41 rfl rfl rfl rfl ?_; refine zS ?_; refine zO rfl (zW (v := fun b => zp b) (cs := [.func (.func kf) ([] : List Value).toArray cc.toArray]) (e := 78) (rn_box1 rfl rfl) hS.sat rfl (fun b3 G3 w3 hg hcb3 => ?_)); have hS := hS.grow hg; have hO := hO.grow hg
 have le3 := hg.le
 refine zO rfl (zU (v := fun b => zp b) (cs := [zi 0]) (e := 79) (by kernel_rfl) hS.sat hO rfl 1 1 rfl (by decide) (fun b4 w4 hb hO => ?_))
 have hS := hS.keep hb
 refine zO rfl (zU (v := fun b => zp b) (cs := [.bool false]) (e := 4) (by kernel_rfl) hS.sat hO rfl 1 1 rfl (by decide) (fun b5 w5 hb hO => ?_))
 have hS := hS.keep hb; refine zN ?_; obtain ⟨rows, hrows⟩ : ∃ rows : Bool → Int → List (Int × Bool) → List Row, rows = fun o x m => [zb 4 1 b5 [.bool o], zb 79 1 b4 [zi x], ⟨79, 2, m.length, .map (some rm), kvs kvI vvB m⟩] := ⟨_, rfl⟩
 have hO : Owns G3 w5 B (rows false 0 m ++ Lq) := by rw [hrows]; exact hO
 refine zQ ?_; refine zM (fun F w => ∃ (Fb : Fr) (G : Gm) (m' : List (Int × Bool)), q = .inl m' ∧ F = upds Fb [(4, zp b4), (5, zp b5)] ∧ Gle G3 G ∧ Since B G0 w0 G w ∧ Owns G w B (rows false 0 m' ++ Lq)) ?_ ?_
 ·refine zS ?_; refine zV (zm (v := .func (.func ki) fi.toArray ca.toArray) rfl) rfl ?_; refine zN ?_; refine WC_block ?_; refine WC_range (xs := xs) (enc := encS) (bd := bestB pred) (fi := fi) (ca := ca) hki (it.mono le3) rfl (fun _ => rfl) rfl hq (fun m' G L => L = rows false 0 m' ++ Lq) (fun p c G L => c = .ret ∧ L = rows true p.1 p.2 ++ Lq) (fun _ _ _ _ _ h => h) hS hO rfl [] ?_ ?_ ?_
  ·rintro l y s t G' w' L' Lx hle hS hO rfl H1 hres
   unfold bestB at H1
   obtain ⟨u, hu, H1⟩ := bnd H1; refine zR ?_; refine zV (zA (v := zi y) rfl) rfl ?_; refine zN ?_
   intro w2 hfix
   have hS := hS.fix hfix; have hO := hO.fix hfix
   rw [hrows] at hO
   have hO := hO.front (k := 2) rfl
   have hO : Owns G' w2 B (⟨79, 2, s.length, .map (some rm), kvs kvI vvB s⟩ :: zb 4 1 b5 [.bool false] :: zb 79 1 b4 [zi 0] :: (Lq ++ Lx)) := hO
   refine WC_block ?_; refine zS ?_; refine zV (zL na78 rfl ((hS.sat.le hle).cell (hcb3 0 _ rfl))) rfl ?_; refine zV (zm (v := zi y) rfl) rfl ?_; refine zO rfl (OpP_enter (rn_callV (fi := []) (al := [zi y]) (ca := cc) hkf rfl rfl) rfl (hpred G' _ s w2 y u (le3.trans hle) hS hO hu) ?_)
   rintro e w3 ⟨v, rfl, hk, G4, L4, le4, hS, hO, rfl, rfl⟩
   refine ⟨_, rfl, hk.weak, ?_⟩; have hO := hO.front (k := 2) rfl; have hO := hO.front (k := 2) rfl
   have hO : Owns _ _ _ (zb 4 1 b5 [.bool false] :: zb 79 1 b4 [zi 0] :: ⟨79, 2, u.2.length, .map (some rm), kvs kvI vvB u.2⟩ :: (Lq ++ Lx)) := hO
   refine zN ?_; refine zT rfl (fun hb => ?_) (fun hb => ?_)
   ·rw [if_pos hb] at H1
    have H1 := Option.some.inj H1
    subst H1; refine zS ?_; refine zV (zm (v := zi y) rfl) rfl ?_; refine zO rfl (OpP_store (vs := [zi y]) sz79 hS hO (k := 1) rfl rfl rfl rfl rfl (one_all rfl) (Nat.le_of_ble_eq_true rfl) (fun w6 hS hO => ?_)); refine zO rfl (OpP_store (vs := [.bool true]) sz4 hS hO (k := 0) rfl rfl rfl rfl rfl (one_all rfl) (Nat.le_of_ble_eq_true rfl) (fun w7 hS hO => ?_)); refine zN ?_; refine WC_ret ?_; refine ⟨(y, u.2), rfl, G4, rows true y u.2 ++ Lq, le4, hS, ?_, rfl, rfl⟩
    rw [hrows]
    exact hO
   ·rw [if_neg (by rw [hb]; decide)] at H1
    have H1 := Option.some.inj H1
    subst H1; refine zP ?_; refine ⟨u.2, rfl, G4, rows false 0 u.2 ++ Lq, le4, hS, ?_, rfl⟩
    rw [hrows]
    exact hO
  ·rintro m' G' w' L' hr hle hS hO rfl
   exact ⟨_, G', m', hr, upds_self _ _ ⟨rfl, rfl, trivial⟩, hle, hS, hO⟩
  ·rintro p c G' w' L' hr hc hle hS hO ⟨rfl, rfl⟩
   refine WC_ret ?_; have H := oi H
   rw [hr] at H
   subst H
   rw [hrows] at hO
   have hO : Owns G' w' B (zb 4 1 b5 [.bool true] :: zb 79 1 b4 [zi p.1] :: ⟨79, 2, p.2.length, .map (some rm), kvs kvI vvB p.2⟩ :: Lq) := hO
   have hO2 := hO.drop 0
   have hO2 := hO2.drop 0
   exact ⟨[zi p.1, .bool true], ⟨⟨_, rfl, ld_one na79 (own_cell hO (k := 1) rfl (j := 0) rfl)⟩, ⟨_, rfl, ld_one na4 (own_cell hO (k := 0) rfl (j := 0) rfl)⟩, trivial⟩, G', _, le3.trans hle, hS, hO2, rfl, rfl⟩
 ·rintro F w6 ⟨Fb, G', m', rfl, rfl, hle, hS, hO⟩
  have H := oi H; subst H
  rw [hrows] at hO
  have hO : Owns G' w6 B (zb 4 1 b5 [.bool false] :: zb 79 1 b4 [zi 0] :: ⟨79, 2, m'.length, .map (some rm), kvs kvI vvB m'⟩ :: Lq) := hO
  refine zS ?_; refine zV (zA (v := zi 0) rfl) rfl ?_; refine zN ?_; refine zS ?_; refine zV (zm (v := zi 0) rfl) rfl ?_; refine zO rfl (OpP_store (vs := [zi 0]) sz79 hS hO (k := 1) rfl rfl rfl rfl rfl (one_all rfl) (Nat.le_of_ble_eq_true rfl) (fun w7 hS hO => ?_)); refine zO rfl (OpP_store (vs := [.bool false]) sz4 hS hO (k := 0) rfl rfl rfl rfl rfl (one_all rfl) (Nat.le_of_ble_eq_true rfl) (fun w8 hS hO => ?_)); refine zN ?_; refine WC_ret ?_
  have hO : Owns G' w8 B (zb 4 1 b5 [.bool false] :: zb 79 1 b4 [zi 0] :: ⟨79, 2, m'.length, .map (some rm), kvs kvI vvB m'⟩ :: Lq) := hO
  have hO2 := hO.drop 0
  have hO2 := hO2.drop 0
  exact ⟨[zi 0, .bool false], ⟨⟨_, rfl, ld_one na79 (own_cell hO (k := 1) rfl (j := 0) rfl)⟩, ⟨_, rfl, ld_one na4 (own_cell hO (k := 0) rfl (j := 0) rfl)⟩, trivial⟩, G', _, le3.trans hle, hS, hO2, rfl, rfl⟩
theorem pred43_ok {B : Nat} {G0 : Gm} {w0 : World} {Gc : Gm} {x0 : TLandBook} {bx bb rm : Nat} {a1 : Option Addr} {n1 c1 : Nat} {a2 : Option Addr} {n2 c2 : Nat} {a3 : Option Addr} {n3 c3 : Nat}
  (hcx : Cells Gc bx 0 [zp bb]) (hcb : Cells Gc bb 0 [zl a1 n1 c1, zl a2 n2 c2, zl a3 n3 c3, .map (some rm)]) (h1 : RSl RTLandPerson 2 Gc a1 n1 c1 x0.People) (h2 : RSl RTLandEvent 2 Gc a2 n2 c2 x0.Events) (h3 : RSl RTLandMemory 4 Gc a3 n3 c3 x0.Memories)
  (G : Gm) (L : List Row) (m : List (Int × Bool)) (w : World) (x : Int) (r : Bool × List (Int × Bool)) (hle : Gle Gc G) (hS : Since B G0 w0 G w) (hO : Owns G w B (⟨79, 2, m.length, .map (some rm), kvs kvI vvB m⟩ :: L)) (H : predN x0 m x = some r) :
  Calls Tryz.prog 43 (([] : List Value) ++ [Value.int .i64 x] ++ [Value.pointer (some ⟨bx, 0, none⟩)]).toArray w (RetO B G0 w0 G w (fun G' L' v => v = .bool r.1 ∧ L' = ⟨79, 2, r.2.length, .map (some rm), kvs kvI vvB r.2⟩ :: L)) := by
 unfold predN at H
 obtain ⟨u, hu, H⟩ := bnd H; have H := oi H; subst H
 exact f43_ok hS hO (hcx.mono hle) (hcb.mono hle) (h1.mono RTLandPerson_mono hle) (h2.mono RTLandEvent_mono hle) (h3.mono RTLandMemory_mono hle) hu
set_option maxHeartbeats 1000000 in
theorem f44_ok {G0 : Gm} {w0 : World} (hS0 : Sat G0 w0) {x0 : Int} {x1 : Int}  {r : (List Int)} (H : f44 x0 x1 = some r) :
  Calls Tryz.prog 44 #[zi x0, zi x1] w0 (RetG G0 w0 (fun G v => ∃ (ra0 : Option Addr) (rn0 rc0 : Nat), v = zl ra0 rn0 rc0 ∧ RSl RInt 1 G ra0 rn0 rc0 r)) := by
 have hS := Since.start hS0
 have hO : Owns G0 w0 w0.heap.size [] := Owns.nil (Nat.le_refl _)
 unfold f44 at H
 refine enter1 (N := 20) (shutG _ _ _) Tryz.func44 rfl rfl rfl rfl ?_; refine zS ?_; refine zy (zl none 0 0) rfl rfl ?_; refine zN ?_; refine zS ?_; refine zy (zl none 0 0) rfl rfl ?_; refine zN ?_; refine zQ ?_; refine zS ?_; refine zx (zi x1) rfl rfl ?_; refine zx (zi 0) rfl rfl ?_; refine zN ?_; have hO := hO.cons_nil 3 1; obtain ⟨q4, hq4, H⟩ := bnd H; refine zM (fun F w => ∃ (Fb : Fr) (G : Gm) (aq4_0 : Option Addr) (nq4_0 cq4_0 : Nat) (claq4_0 : List Value), F = upds Fb [(5, zl aq4_0 nq4_0 cq4_0)] ∧ Gle G0 G ∧ Since w0.heap.size G0 w0 G w ∧ Owns G w w0.heap.size [⟨3, 1, nq4_0, zl aq4_0 nq4_0 cq4_0, claq4_0⟩] ∧ nq4_0 = q4.length ∧ Rd RInt 1 G claq4_0 q4) ?_ ?_
 ·refine WC_block (WC_loop hq4 (fun s2 F w => ∃ (Fb : Fr) (G : Gm) (as2_0 : Option Addr) (ns2_0 cs2_0 : Nat) (clas2_0 : List Value), F = upds Fb [(0, zi x0), (5, zl as2_0 ns2_0 cs2_0), (7, zi x1), (8, zi s2.2)] ∧ Gle G0 G ∧ Since w0.heap.size G0 w0 G w ∧ Owns G w w0.heap.size [⟨3, 1, ns2_0, zl as2_0 ns2_0 cs2_0, clas2_0⟩] ∧ ns2_0 = s2.1.length ∧ Rd RInt 1 G clas2_0 s2.1) ?_ ?_)
  ·have hO : Owns _ _ _ ([⟨3, 1, 0, zl none 0 0, []⟩]) := hO
   exact ⟨_, G0, none, 0, 0, [], upds_self _ _ ⟨rfl, rfl, rfl, rfl, trivial⟩, Gle.refl _, hS, hO, rfl, (Rd.nil RInt 1 G0)⟩
  ·rintro s2 F w6 t5 ⟨Fb, G7, as2_0, ns2_0, cs2_0, clas2_0, rfl, leG7, hS, hO, hnhs2_0, hs2_0⟩
   intro H1 hqq4
   have Hoq4 := H; have H := H1
   unfold f44_b0 at H
   refine zS ?_; refine zV (rn_lss rfl rfl) rfl ?_; refine zN ?_; refine zQ ?_; refine zT rfl (fun hb8 => ?_) (fun hb8 => ?_)
   ·have H := ifT hb8 H; refine zP ?_; refine zQ ?_; obtain ⟨q9, hq9, H⟩ := bnd H; refine zM (fun F w => ∃ (Fb : Fr) (G : Gm) (aq9_0 : Option Addr) (nq9_0 cq9_0 : Nat) (claq9_0 : List Value), F = upds Fb [(0, zi x0), (5, zl aq9_0 nq9_0 cq9_0), (7, zi x1), (8, zi s2.2)] ∧ Gle G7 G ∧ Since w0.heap.size G0 w0 G w ∧ Owns G w w0.heap.size [⟨3, 1, nq9_0, zl aq9_0 nq9_0 cq9_0, claq9_0⟩] ∧ nq9_0 = q9.length ∧ Rd RInt 1 G claq9_0 q9) ?_ ?_
    ·have Hoq9 := H; have H := hq9; refine WC_block ?_; refine zS ?_; refine zx (zi s2.2) rfl rfl ?_; refine zy (zi s2.2) rfl rfl ?_; refine zN ?_; refine zS ?_; refine zx (zi x0) rfl rfl ?_; refine zx (zi s2.2) rfl rfl ?_; obtain ⟨y10, hy10, H⟩ := bnd H; refine zO rfl (zC cb65 (f65_ok (x0 := x0) (x1 := s2.2) hS.sat  hy10) rfl rfl (fun w11 hb => ?_)); have hS := hS.keep hb; have hO := hO.below hb; refine zN ?_; refine zT rfl (fun hb12 => ?_) (fun hb12 => ?_)
     ·have H := ifT hb12 H; refine zR ?_; refine zx (zl as2_0 ns2_0 cs2_0) rfl rfl ?_; refine zx (zi s2.2) rfl rfl ?_
      refine zO rfl (zW (v := fun b => zl (some ⟨b, 0, none⟩) 1 1) (cs := [zi s2.2]) (e := 3) (by kernel_rfl) hS.sat rfl (fun b13 G15 w14 hg hcb13 => ?_))
      have hS := hS.grow hg; have hO := hO.grow hg
      have leG15 := hg.le
      have hfb13 : RSl RInt 1 G15 (some ⟨b13, 0, none⟩) 1 1 [s2.2] := RSl.of_rd hcb13 (Rd.cons (c := [zi s2.2]) rfl rfl (Rd.nil RInt 1 _)) rfl (by decide)
      obtain ⟨y16, hy16, H⟩ := bnd H; refine zO rfl (OpP_append (k := 0) sl41 RInt_one hS hO rfl hnhs2_0 (hs2_0.mono RInt_mono leG15) hfb13 hy16 rfl rfl rfl rfl rfl (fun aw17 cw17 w17 clw17 hS hO hrw17 => ?_))
      have hO : Owns _ _ _ ([⟨3, 1, y16.length, zl aw17 y16.length cw17, clw17⟩]) := hO
      refine zy (zl aw17 y16.length cw17) rfl rfl ?_; refine zN ?_
      have hO : Owns _ _ _ ([⟨3, 1, y16.length, zl aw17 y16.length cw17, clw17⟩]) := hO
      have H := oi H; subst H
      exact ⟨_, G15, aw17, y16.length, cw17, clw17, upds_self _ _ ⟨rfl, rfl, rfl, rfl, trivial⟩, leG15, hS, hO, rfl, hrw17⟩
     ·have H := ifF hb12 H; refine zP ?_
      have hO : Owns _ _ _ ([⟨3, 1, ns2_0, zl as2_0 ns2_0 cs2_0, clas2_0⟩]) := hO
      have H := oi H; subst H
      exact ⟨_, G7, as2_0, ns2_0, cs2_0, clas2_0, upds_self _ _ ⟨rfl, rfl, rfl, rfl, trivial⟩, Gle.refl _, hS, hO, hnhs2_0, hs2_0⟩
    ·rintro F w18 ⟨Fb, G19, aq9_0, nq9_0, cq9_0, claq9_0, rfl, leG19, hS, hO, hnhq9_0, hq9_0⟩
     refine zR ?_; refine zV (rn_add rfl rfl) rfl ?_; refine zx (zi (IntKind.i64.wrap (s2.2 + 1))) rfl rfl ?_; refine zN ?_
     have hO : Owns _ _ _ ([⟨3, 1, nq9_0, zl aq9_0 nq9_0 cq9_0, claq9_0⟩]) := hO
     have H := oi H; subst H; refine ⟨_, rfl, ?_⟩
     have l0_2 := leG7.trans leG19
     exact ⟨_, G19, aq9_0, nq9_0, cq9_0, claq9_0, upds_self _ _ ⟨rfl, rfl, rfl, rfl, trivial⟩, l0_2, hS, hO, hnhq9_0, hq9_0⟩
   ·have H := ifF hb8 H; refine WC_exit rfl ?_
    have hO : Owns _ _ _ ([⟨3, 1, ns2_0, zl as2_0 ns2_0 cs2_0, clas2_0⟩]) := hO
    have H := oi H; subst H
    have hres := hqq4 _ rfl
    subst hres
    exact ⟨_, G7, as2_0, ns2_0, cs2_0, clas2_0, upds_self _ _ ⟨rfl, trivial⟩, leG7, hS, hO, hnhs2_0, hs2_0⟩
 ·rintro F w20 ⟨Fb, G21, aq4_0, nq4_0, cq4_0, claq4_0, rfl, leG21, hS, hO, hnhq4_0, hq4_0⟩
  refine zS ?_; refine zx (zl aq4_0 nq4_0 cq4_0) rfl rfl ?_; refine zy (zl aq4_0 nq4_0 cq4_0) rfl rfl ?_; refine zN ?_; refine WC_ret ?_; obtain ⟨G22, leG22, hS, hO, hfG22⟩ := hO.freezeS hS RInt_mono (k := 0) rfl hq4_0 hnhq4_0
  have H : some q4 = some r := H
  have H := oi H; subst H
  exact ⟨_, _, rfl, hS.toGrow, _, _, _, rfl, hfG22⟩
set_option maxHeartbeats 1000000 in
theorem f17_ok {G0 : Gm} {w0 : World} (hS0 : Sat G0 w0) {x0 : TLandBook} {a1 : Option Addr} {n1 c1 : Nat} {a2 : Option Addr} {n2 c2 : Nat} {a3 : Option Addr} {n3 c3 : Nat} (h1 : RSl RTLandPerson 2 G0 a1 n1 c1 x0.People) (h2 : RSl RTLandEvent 2 G0 a2 n2 c2 x0.Events) (h3 : RSl RTLandMemory 4 G0 a3 n3 c3 x0.Memories) {r : (List Int) × Int} (H : f17 x0 = some r) :
  Calls Tryz.prog 17 #[.agg #[zl a1 n1 c1, zl a2 n2 c2, zl a3 n3 c3]] w0 (RetG G0 w0 (fun G v => ∃ (ra0 : Option Addr) (rn0 rc0 : Nat), v = .tuple #[zl ra0 rn0 rc0, zi r.2] ∧ RSl RInt 1 G ra0 rn0 rc0 r.1)) := by
 have hS := Since.start hS0
 have hO : Owns G0 w0 w0.heap.size [] := Owns.nil (Nat.le_refl _)
 unfold f17 at H
 refine enter2 (N := 28) (shutG _ _ _) Tryz.func17 rfl rfl rfl rfl ?_; refine zS ?_; refine zO rfl (zW (v := fun b => zp b) (cs := [zl a1 n1 c1, zl a2 n2 c2, zl a3 n3 c3]) (e := 26) (rn_boxA rfl) hS.sat rfl (fun b4 G6 w5 hg hcb4 => ?_)); have hS := hS.grow hg; have hO := hO.grow hg
 have leG6 := hg.le
 refine zy (zl none 0 0) rfl rfl ?_; refine zy (zi 0) rfl rfl ?_; refine zN ?_; refine zQ ?_; refine zS ?_; refine zV (rn_loadA ag26 (cs := [zl a1 n1 c1, zl a2 n2 c2, zl a3 n3 c3]) rfl rfl (fun j v hj => hS.sat.cell (hcb4.drop_take 0 3 j v hj))) rfl ?_; obtain ⟨y7, hy7, H⟩ := bnd H; refine zO rfl (zC cb22 (f22_ok (x0 := x0) hS.sat (h1.mono RTLandPerson_mono leG6) (h2.mono RTLandEvent_mono leG6) (h3.mono RTLandMemory_mono leG6) hy7) rfl rfl (fun w8 hb => ?_)); have hS := hS.keep hb; have hO := hO.below hb; refine zV (rn_not rfl) rfl ?_; refine zN ?_; refine zT rfl (fun hb9 => ?_) (fun hb9 => ?_)
 ·have H := ifT hb9 H; refine zS ?_; refine zy (zl none 0 0) rfl rfl ?_; refine zy (zi 2) rfl rfl ?_; refine zN ?_; refine WC_ret ?_
  have H : some ([], 2) = some r := H
  have H := oi H; subst H
  exact ⟨_, _, rfl, hS.toGrow, _, _, _, rfl, (RSl.nil RInt 1 G6 none)⟩
 ·have H := ifF hb9 H; refine zP ?_; refine zS ?_; refine zV (rn_loadA ag26 (cs := [zl a1 n1 c1, zl a2 n2 c2, zl a3 n3 c3]) rfl rfl (fun j v hj => hS.sat.cell (hcb4.drop_take 0 3 j v hj))) rfl ?_; refine zO rfl (OpP_in1 (N' := 7) [.agg #[zl a1 n1 c1, zl a2 n2 c2, zl a3 n3 c3]] cb38 Tryz.func38 rfl rfl rfl rfl rfl rfl ?_); refine zS ?_; refine zO rfl (zW (v := fun b => zp b) (cs := [zl a1 n1 c1, zl a2 n2 c2, zl a3 n3 c3]) (e := 26) (rn_boxA rfl) hS.sat rfl (fun b10 G12 w11 hg hcb10 => ?_)); have hS := hS.grow hg; have hO := hO.grow hg
  have leG12 := hg.le
  refine zy (.pointer none) rfl rfl ?_; refine zN ?_; refine zS ?_; refine zV (rn_loadA ag26 (cs := [zl a1 n1 c1, zl a2 n2 c2, zl a3 n3 c3]) rfl rfl (fun j v hj => hS.sat.cell (hcb10.drop_take 0 3 j v hj))) rfl ?_; refine zO rfl (OpP_makeMap (e := 79) hS hO rfl (fun r13 w14 hS hO => ?_))
  have hO : Owns _ _ _ ([⟨79, 2, ([] : (List (Int × Bool))).length, .map (some r13), kvs kvI vvB ([] : (List (Int × Bool)))⟩]) := hO
  refine zV (v := (.agg #[zl a1 n1 c1, zl a2 n2 c2, zl a3 n3 c3, .map (some r13)])) (by kernel_rfl) rfl ?_
  refine zO rfl (zW (v := fun b => zp b) (cs := [zl a1 n1 c1, zl a2 n2 c2, zl a3 n3 c3, .map (some r13)]) (e := 119) (rn_boxA rfl) hS.sat rfl (fun b16 G18 w17 hg hcb16 => ?_)); have hS := hS.grow hg; have hO := hO.grow hg
  have leG18 := hg.le
  refine zy (zp b16) rfl rfl ?_; refine zN ?_; refine WC_ret ?_; refine ⟨(zp b16), rfl, ?_⟩
  have hO : Owns _ _ _ ([⟨79, 2, ([] : (List (Int × Bool))).length, .map (some r13), kvs kvI vvB ([] : (List (Int × Bool)))⟩]) := hO
  refine zO rfl (zU (v := fun b => zp b) (cs := [.pointer none]) (e := 76) (by kernel_rfl) hS.sat hO rfl 1 1 rfl (by decide) (fun b19 w20 hb hO => ?_))
  have hS := hS.keep hb; refine zO rfl (OpP_store (vs := [zp b16]) sz76 hS hO (k := 0) rfl rfl rfl rfl rfl (one_all rfl) (Nat.le_of_ble_eq_true rfl) (fun w22 hS hO => ?_))
  have hO : Owns _ _ _ ([⟨76, 1, 1, zl (some ⟨b19, 0, none⟩) 1 1, [zp b16]⟩, ⟨79, 2, ([] : (List (Int × Bool))).length, .map (some r13), kvs kvI vvB ([] : (List (Int × Bool)))⟩]) := hO
  obtain ⟨G23, leG23, hS, hO, hqG23, _⟩ := hO.freeze hS (k := 0) rfl
  have hcG23 : Cells G23 b19 0 [zp b16] := (hqG23 _ _ _ _ rfl)
  refine zN ?_; refine zQ ?_; refine zQ ?_; have hS := hS.keep (below_drew _); have hO := hO.below (below_drew _)
  refine WC_regionD mixedO (fun _ w => Sat G23 w ∧ True) (.fl 0 (.on 1 (.on 2 (.on 3 .nil)))) (by kernel_rfl) rfl (by kernel_rfl) (fun _ => ⟨hS.sat, trivial⟩) ?_
  refine zD rfl (fun w hw => zL na76 rfl (hw.1.cell (hcG23 0 _ rfl))) rfl ?_; refine zE rfl rfl (OpP_val (zL na76 rfl (hS.sat.cell (hcG23 0 _ rfl))) rfl ?_); refine ⟨fun _ _ => ⟨hS.sat, trivial⟩, ?_⟩
  have l0_4 := ((leG6.trans leG12).trans leG18).trans leG23
  obtain ⟨y24, hy24, H⟩ := bnd H
  have hx26 := f40_ok (x0 := x0) hS.sat (hcb16.mono leG23) (h1.mono RTLandPerson_mono l0_4) (h2.mono RTLandEvent_mono l0_4) (h3.mono RTLandMemory_mono l0_4) hy24
  refine zE rfl rfl (zC cb40 hx26 rfl rfl (fun w25 hb => ?_)); have hS := hS.keep hb; have hO := hO.below hb; refine ⟨fun _ _ => ⟨hS.sat, trivial⟩, ?_⟩; obtain ⟨y27, hy27, H⟩ := bnd H; refine zE rfl rfl (OpP_lent (fi := []) (al := [zp b16, zi y24]) (ca := []) cb39 (f39_ok (x0 := x0) (m := ([] : (List (Int × Bool)))) (x1 := y24) hS hO (hcb16.mono leG23) (h1.mono RTLandPerson_mono l0_4) (h2.mono RTLandEvent_mono l0_4) (h3.mono RTLandMemory_mono l0_4) hy27) rfl rfl rfl (fun vG29 G29 w28 L30 leG29 hS hO hvG29 => ?_)); obtain ⟨rfl, rfl⟩ := hvG29
  have hO : Owns _ _ _ ([⟨79, 2, (y27.2).length, .map (some r13), kvs kvI vvB (y27.2)⟩]) := hO
  refine ⟨fun _ h => noneed (by kernel_rfl) h, ?_⟩
  refine zI ?_; refine zT rfl (fun hb31 => ?_) (fun hb31 => ?_)
  ·have H := ifT hb31 H; refine zS ?_; refine zy (zl none 0 0) rfl rfl ?_; refine zy (zi 5) rfl rfl ?_; refine zN ?_; refine WC_ret ?_
   have H : some ([], 5) = some r := H
   have H := oi H; subst H
   exact ⟨_, _, rfl, hS.toGrow, _, _, _, rfl, (RSl.nil RInt 1 G29 none)⟩
  ·have H := ifF hb31 H; refine zP ?_; refine zS ?_; refine zV (zL na76 rfl ((hS.sat.le leG29).cell (hcG23 0 _ rfl))) rfl ?_
   have l3_5 := leG23.trans leG29
   have l0_5 := l0_4.trans leG29
   obtain ⟨_, hm33, H⟩ := bnd H
   have hI32 := f42_it (x0 := x0) (hcb16.mono l3_5) (h3.mono RTLandMemory_mono l0_5) (ckM_some hm33)
   refine zV (rn_func (vs := [zp b16]) (us := []) rfl rfl) rfl ?_; refine zV (v := (.func (.func 43) ([] : List Value).toArray ([zp b19] : List Value).toArray)) (rn_func (vs := []) (us := [zp b19]) rfl rfl) rfl ?_; obtain ⟨y34, hy34, H⟩ := bnd H
   have hp38 := pred43_ok (B := w0.heap.size) (G0 := G0) (w0 := w0) (x0 := x0) (bx := b19) (bb := b16) (rm := r13) (hcG23.mono leG29) (hcb16.mono l3_5) (h1.mono RTLandPerson_mono l0_5) (h2.mono RTLandEvent_mono l0_5) (h3.mono RTLandMemory_mono l0_5)
   have hx39 := f41_ok (m := (y27.2)) (rm := r13) (ki := 42) (kf := 43) (fi := [zp b16]) (ca := []) (cc := [zp b19]) (xs := setsAll x0.Memories.length) hS hO cb42 hI32 cb43 (predN x0) hp38 hy34
   refine zO rfl (OpP_lent (fi := []) (al := [.func (.func 42) ([zp b16]).toArray ([]).toArray, .func (.func 43) ([] : List Value).toArray ([zp b19] : List Value).toArray]) (ca := []) (B := w0.heap.size) (G0 := G0) (w0 := w0) (Gc := G29) (Φ := (fun G L v => v = Value.tuple #[Value.int IntKind.i64 y34.1, Value.bool y34.2.1] ∧ L = [⟨79, 2, (y34.2.2).length, .map (some r13), kvs kvI vvB (y34.2.2)⟩])) cb41 (by exact hx39) rfl rfl rfl (fun vG36 G36 w35 L37 leG36 hS hO hvG36 => ?_))
   obtain ⟨rfl, rfl⟩ := hvG36
   have hO : Owns _ _ _ ([⟨79, 2, (y34.2.2).length, .map (some r13), kvs kvI vvB (y34.2.2)⟩]) := hO
   refine zx (.tuple #[zi y34.1, .bool y34.2.1]) rfl rfl ?_; refine zV (zX (v := (zi y34.1)) rfl rfl) rfl ?_; refine zV (zX (v := (.bool y34.2.1)) rfl rfl) rfl ?_; refine zy (zi y34.1) rfl rfl ?_; refine zy (.bool y34.2.1) rfl rfl ?_; refine zN ?_; refine zS ?_; refine zx (zi y34.1) rfl rfl ?_; refine zV (zF fd26_2 rfl) rfl ?_
   have l1_6 := ((leG12.trans leG18).trans l3_5).trans leG36
   refine zV (zL na24 rfl ((hS.sat.le l1_6).cell (hcb4 2 _ rfl))) rfl ?_
   have l0_6 := l0_5.trans leG36
   refine zV (rn_len sl24 rfl rfl (h3.mono RTLandMemory_mono l0_6).1) rfl ?_; obtain ⟨y40, hy40, H⟩ := bnd H; refine zO rfl (OpP_callG cb44 (f44_ok (x0 := y34.1) (x1 := (x0.Memories.length : Int)) hS.sat  hy40) rfl rfl (fun vy40 G42 w41 hg hvy40 => ?_)); obtain ⟨a43, n43, c43, ⟨⟩, h43⟩ := hvy40; have hS := hS.grow hg; have hO := hO.grow hg
   have leG42 := hg.le
   refine zy (zl a43 n43 c43) rfl rfl ?_; refine zy (zi 0) rfl rfl ?_; refine zN ?_; refine WC_ret ?_
   have H : some (y40, 0) = some r := H
   have H := oi H; subst H
   exact ⟨_, _, rfl, hS.toGrow, _, _, _, rfl, h43⟩
set_option maxHeartbeats 1000000 in
theorem f18_ok {G0 : Gm} {w0 : World} (hS0 : Sat G0 w0)   {r : TLandBook} (H : f18 = some r) :
  Calls Tryz.prog 18 #[] w0 (RetG G0 w0 (fun G v => ∃ (ra0 : Option Addr) (rn0 rc0 : Nat) (ra1 : Option Addr) (rn1 rc1 : Nat) (ra2 : Option Addr) (rn2 rc2 : Nat), v = .agg #[zl ra0 rn0 rc0, zl ra1 rn1 rc1, zl ra2 rn2 rc2] ∧ RSl RTLandPerson 2 G ra0 rn0 rc0 r.People ∧ RSl RTLandEvent 2 G ra1 rn1 rc1 r.Events ∧ RSl RTLandMemory 4 G ra2 rn2 rc2 r.Memories)) := by
 have hS := Since.start hS0
 have hO : Owns G0 w0 w0.heap.size [] := Owns.nil (Nat.le_refl _)
 unfold f18 at H
 refine enterG (N := 11) (shutG _ _ _) [.cell 0 26] Tryz.func18 rfl rfl rfl rfl ?_; refine zS ?_
 refine zO rfl (zU (v := fun b => zp b) (cs := [zl none 0 0, zl none 0 0, zl none 0 0]) (e := 26) (by kernel_rfl) hS.sat hO rfl 3 1 rfl (by decide) (fun b1 w2 hb hO => ?_))
 have hS := hS.keep hb; refine zN ?_; refine zS ?_; refine zO rfl (OpP_inR (N' := 21) (rs := [.cell 0 26]) [] cb15 Tryz.func15 rfl rfl rfl rfl rfl rfl ?_); refine zS ?_
 refine zO rfl (zU (v := fun b => zp b) (cs := [zl none 0 0, zl none 0 0, zl none 0 0]) (e := 26) (by kernel_rfl) hS.sat hO rfl 3 1 rfl (by decide) (fun b4 w5 hb hO => ?_))
 have hS := hS.keep hb; refine zN ?_; refine zS ?_
 refine zV (v := (.agg #[zi (-1), zi (-1)])) (by kernel_rfl) rfl ?_
 refine zV (v := (.agg #[zi 0, zi (-1)])) (by kernel_rfl) rfl ?_
 refine zV (v := (.agg #[zi 1, zi (-1)])) (by kernel_rfl) rfl ?_
 refine zV (v := (.agg #[zi (-1), zi 0])) (by kernel_rfl) rfl ?_
 refine zO rfl (zU (v := fun b => zl (some ⟨b, 0, none⟩) 4 4) (cs := [zi (-1), zi (-1), zi 0, zi (-1), zi 1, zi (-1), zi (-1), zi 0]) (e := 54) (by kernel_rfl) hS.sat hO rfl 2 4 rfl (by decide) (fun b7 w8 hb hO => ?_))
 have hS := hS.keep hb
 have hrb7 : Rd RTLandPerson 2 G0 [zi (-1), zi (-1), zi 0, zi (-1), zi 1, zi (-1), zi (-1), zi 0] [(⟨(-1), (-1)⟩ : TLandPerson), (⟨0, (-1)⟩ : TLandPerson), (⟨1, (-1)⟩ : TLandPerson), (⟨(-1), 0⟩ : TLandPerson)] := (Rd.cons (c := [zi (-1), zi (-1)]) rfl rfl (Rd.cons (c := [zi 0, zi (-1)]) rfl rfl (Rd.cons (c := [zi 1, zi (-1)]) rfl rfl (Rd.cons (c := [zi (-1), zi 0]) rfl rfl (Rd.nil RTLandPerson 2 _)))))
 refine zV (v := (.agg #[zi 0, zi 0])) (by kernel_rfl) rfl ?_
 refine zV (v := (.agg #[zi 0, zi 1])) (by kernel_rfl) rfl ?_
 refine zV (v := (.agg #[zi 0, zi 2])) (by kernel_rfl) rfl ?_
 refine zV (v := (.agg #[zi 1, zi 1])) (by kernel_rfl) rfl ?_
 refine zO rfl (zU (v := fun b => zl (some ⟨b, 0, none⟩) 4 4) (cs := [zi 0, zi 0, zi 0, zi 1, zi 0, zi 2, zi 1, zi 1]) (e := 57) (by kernel_rfl) hS.sat hO rfl 2 4 rfl (by decide) (fun b10 w11 hb hO => ?_))
 have hS := hS.keep hb
 have hrb10 : Rd RTLandEvent 2 G0 [zi 0, zi 0, zi 0, zi 1, zi 0, zi 2, zi 1, zi 1] [(⟨0, 0⟩ : TLandEvent), (⟨0, 1⟩ : TLandEvent), (⟨0, 2⟩ : TLandEvent), (⟨1, 1⟩ : TLandEvent)] := (Rd.cons (c := [zi 0, zi 0]) rfl rfl (Rd.cons (c := [zi 0, zi 1]) rfl rfl (Rd.cons (c := [zi 0, zi 2]) rfl rfl (Rd.cons (c := [zi 1, zi 1]) rfl rfl (Rd.nil RTLandEvent 2 _)))))
 refine zV (v := (.agg #[zi 10, zi 20])) (by kernel_rfl) rfl ?_
 refine zV (v := (.agg #[zi 0, zi 1, zi 10, zi 20])) (by kernel_rfl) rfl ?_
 refine zV (v := (.agg #[zi 5, zi 8])) (by kernel_rfl) rfl ?_
 refine zV (v := (.agg #[zi 1, zi 2, zi 5, zi 8])) (by kernel_rfl) rfl ?_
 refine zV (v := (.agg #[zi 12, zi 16])) (by kernel_rfl) rfl ?_
 refine zV (v := (.agg #[zi 0, zi 2, zi 12, zi 16])) (by kernel_rfl) rfl ?_
 refine zV (v := (.agg #[zi (-3), zi 0])) (by kernel_rfl) rfl ?_
 refine zV (v := (.agg #[zi 1, zi 3, zi (-3), zi 0])) (by kernel_rfl) rfl ?_
 refine zO rfl (zU (v := fun b => zl (some ⟨b, 0, none⟩) 4 4) (cs := [zi 0, zi 1, zi 10, zi 20, zi 1, zi 2, zi 5, zi 8, zi 0, zi 2, zi 12, zi 16, zi 1, zi 3, zi (-3), zi 0]) (e := 60) (by kernel_rfl) hS.sat hO rfl 4 4 rfl (by decide) (fun b13 w14 hb hO => ?_))
 have hS := hS.keep hb
 have hrb13 : Rd RTLandMemory 4 G0 [zi 0, zi 1, zi 10, zi 20, zi 1, zi 2, zi 5, zi 8, zi 0, zi 2, zi 12, zi 16, zi 1, zi 3, zi (-3), zi 0] [(⟨0, 1, (⟨10, 20⟩ : TSpan)⟩ : TLandMemory), (⟨1, 2, (⟨5, 8⟩ : TSpan)⟩ : TLandMemory), (⟨0, 2, (⟨12, 16⟩ : TSpan)⟩ : TLandMemory), (⟨1, 3, (⟨(-3), 0⟩ : TSpan)⟩ : TLandMemory)] := (Rd.cons (c := [zi 0, zi 1, zi 10, zi 20]) rfl rfl (Rd.cons (c := [zi 1, zi 2, zi 5, zi 8]) rfl rfl (Rd.cons (c := [zi 0, zi 2, zi 12, zi 16]) rfl rfl (Rd.cons (c := [zi 1, zi 3, zi (-3), zi 0]) rfl rfl (Rd.nil RTLandMemory 4 _)))))
 refine zV (v := (.agg #[zl (some ⟨b7, 0, none⟩) 4 4, zl (some ⟨b10, 0, none⟩) 4 4, zl (some ⟨b13, 0, none⟩) 4 4])) (by kernel_rfl) rfl ?_
 refine zO rfl (OpP_store (vs := [zl (some ⟨b7, 0, none⟩) 4 4, zl (some ⟨b10, 0, none⟩) 4 4, zl (some ⟨b13, 0, none⟩) 4 4]) sz26 hS hO (k := 3) rfl rfl rfl rfl rfl (one_all rfl) (Nat.le_of_ble_eq_true rfl) (fun w16 hS hO => ?_))
 have hO : Owns _ _ _ ([⟨60, 4, 4, zl (some ⟨b13, 0, none⟩) 4 4, [zi 0, zi 1, zi 10, zi 20, zi 1, zi 2, zi 5, zi 8, zi 0, zi 2, zi 12, zi 16, zi 1, zi 3, zi (-3), zi 0]⟩, ⟨57, 2, 4, zl (some ⟨b10, 0, none⟩) 4 4, [zi 0, zi 0, zi 0, zi 1, zi 0, zi 2, zi 1, zi 1]⟩, ⟨54, 2, 4, zl (some ⟨b7, 0, none⟩) 4 4, [zi (-1), zi (-1), zi 0, zi (-1), zi 1, zi (-1), zi (-1), zi 0]⟩, ⟨26, 3, 1, zl (some ⟨b4, 0, none⟩) 1 1, [zl (some ⟨b7, 0, none⟩) 4 4, zl (some ⟨b10, 0, none⟩) 4 4, zl (some ⟨b13, 0, none⟩) 4 4]⟩, zb 26 3 b1 [zl none 0 0, zl none 0 0, zl none 0 0]]) := hO
 refine zN ?_; refine WC_ret ?_; refine ⟨[.agg #[zl (some ⟨b7, 0, none⟩) 4 4, zl (some ⟨b10, 0, none⟩) 4 4, zl (some ⟨b13, 0, none⟩) 4 4]], ⟨⟨_, rfl, ld_agg (cs := [zl (some ⟨b7, 0, none⟩) 4 4, zl (some ⟨b10, 0, none⟩) 4 4, zl (some ⟨b13, 0, none⟩) 4 4]) ag26 rfl (fun j v hj => own_sub hO (k := 3) rfl 0 3 j v hj)⟩, trivial⟩, ?_⟩; have hO := hO.drop 3
 have hO : Owns _ _ _ ([⟨60, 4, 4, zl (some ⟨b13, 0, none⟩) 4 4, [zi 0, zi 1, zi 10, zi 20, zi 1, zi 2, zi 5, zi 8, zi 0, zi 2, zi 12, zi 16, zi 1, zi 3, zi (-3), zi 0]⟩, ⟨57, 2, 4, zl (some ⟨b10, 0, none⟩) 4 4, [zi 0, zi 0, zi 0, zi 1, zi 0, zi 2, zi 1, zi 1]⟩, ⟨54, 2, 4, zl (some ⟨b7, 0, none⟩) 4 4, [zi (-1), zi (-1), zi 0, zi (-1), zi 1, zi (-1), zi (-1), zi 0]⟩, zb 26 3 b1 [zl none 0 0, zl none 0 0, zl none 0 0]]) := hO
 refine zO rfl (zU (v := fun b => zp b) (cs := [zl none 0 0, zl none 0 0, zl none 0 0]) (e := 26) (by kernel_rfl) hS.sat hO rfl 3 1 rfl (by decide) (fun b17 w18 hb hO => ?_))
 have hS := hS.keep hb; refine zO rfl (OpP_store (vs := [zl (some ⟨b7, 0, none⟩) 4 4, zl (some ⟨b10, 0, none⟩) 4 4, zl (some ⟨b13, 0, none⟩) 4 4]) sz26 hS hO (k := 0) rfl rfl rfl rfl rfl (one_all rfl) (Nat.le_of_ble_eq_true rfl) (fun w20 hS hO => ?_))
 have hO : Owns _ _ _ ([⟨26, 3, 1, zl (some ⟨b17, 0, none⟩) 1 1, [zl (some ⟨b7, 0, none⟩) 4 4, zl (some ⟨b10, 0, none⟩) 4 4, zl (some ⟨b13, 0, none⟩) 4 4]⟩, ⟨60, 4, 4, zl (some ⟨b13, 0, none⟩) 4 4, [zi 0, zi 1, zi 10, zi 20, zi 1, zi 2, zi 5, zi 8, zi 0, zi 2, zi 12, zi 16, zi 1, zi 3, zi (-3), zi 0]⟩, ⟨57, 2, 4, zl (some ⟨b10, 0, none⟩) 4 4, [zi 0, zi 0, zi 0, zi 1, zi 0, zi 2, zi 1, zi 1]⟩, ⟨54, 2, 4, zl (some ⟨b7, 0, none⟩) 4 4, [zi (-1), zi (-1), zi 0, zi (-1), zi 1, zi (-1), zi (-1), zi 0]⟩, zb 26 3 b1 [zl none 0 0, zl none 0 0, zl none 0 0]]) := hO
 refine zN ?_; refine zS ?_; refine zV (zF fd26_2 rfl) rfl ?_; refine zV (zL na24 rfl (own_cell hO (k := 0) rfl (j := 2) rfl)) rfl ?_
 refine zV (v := (.agg #[zi 12, zi 30])) (by kernel_rfl) rfl ?_
 refine zV (v := (.agg #[zi 0, zi 1, zi 12, zi 30])) (by kernel_rfl) rfl ?_
 refine zO rfl (zW (v := fun b => zl (some ⟨b, 0, none⟩) 1 1) (cs := [zi 0, zi 1, zi 12, zi 30]) (e := 60) (by kernel_rfl) hS.sat rfl (fun b21 G23 w22 hg hcb21 => ?_))
 have hS := hS.grow hg; have hO := hO.grow hg
 have leG23 := hg.le
 have hfb21 : RSl RTLandMemory 4 G23 (some ⟨b21, 0, none⟩) 1 1 [(⟨0, 1, (⟨12, 30⟩ : TSpan)⟩ : TLandMemory)] := RSl.of_rd hcb21 (Rd.cons (c := [zi 0, zi 1, zi 12, zi 30]) rfl rfl (Rd.nil RTLandMemory 4 _)) rfl (by decide)
 obtain ⟨y24, hy24, H⟩ := bnd H; refine zO rfl (OpP_append (k := 1) sl24 RTLandMemory_one hS hO rfl rfl (hrb13.mono RTLandMemory_mono leG23) hfb21 hy24 rfl rfl rfl rfl rfl (fun aw25 cw25 w25 clw25 hS hO hrw25 => ?_))
 have hO : Owns _ _ _ ([⟨26, 3, 1, zl (some ⟨b17, 0, none⟩) 1 1, [zl (some ⟨b7, 0, none⟩) 4 4, zl (some ⟨b10, 0, none⟩) 4 4, zl (some ⟨b13, 0, none⟩) 4 4]⟩, ⟨60, 4, y24.length, zl aw25 y24.length cw25, clw25⟩, ⟨57, 2, 4, zl (some ⟨b10, 0, none⟩) 4 4, [zi 0, zi 0, zi 0, zi 1, zi 0, zi 2, zi 1, zi 1]⟩, ⟨54, 2, 4, zl (some ⟨b7, 0, none⟩) 4 4, [zi (-1), zi (-1), zi 0, zi (-1), zi 1, zi (-1), zi (-1), zi 0]⟩, zb 26 3 b1 [zl none 0 0, zl none 0 0, zl none 0 0]]) := hO
 refine zV (zF fd26_2 rfl) rfl ?_; refine zO rfl (OpP_store (vs := [zl aw25 y24.length cw25]) sz24 hS hO (k := 0) rfl rfl rfl rfl rfl (one_all rfl) (Nat.le_of_ble_eq_true rfl) (fun w26 hS hO => ?_))
 have hO : Owns _ _ _ ([⟨26, 3, 1, zl (some ⟨b17, 0, none⟩) 1 1, [zl (some ⟨b7, 0, none⟩) 4 4, zl (some ⟨b10, 0, none⟩) 4 4, zl aw25 y24.length cw25]⟩, ⟨60, 4, y24.length, zl aw25 y24.length cw25, clw25⟩, ⟨57, 2, 4, zl (some ⟨b10, 0, none⟩) 4 4, [zi 0, zi 0, zi 0, zi 1, zi 0, zi 2, zi 1, zi 1]⟩, ⟨54, 2, 4, zl (some ⟨b7, 0, none⟩) 4 4, [zi (-1), zi (-1), zi 0, zi (-1), zi 1, zi (-1), zi (-1), zi 0]⟩, zb 26 3 b1 [zl none 0 0, zl none 0 0, zl none 0 0]]) := hO
 refine zN ?_; refine zS ?_; refine zV (rn_loadA ag26 (cs := [zl (some ⟨b7, 0, none⟩) 4 4, zl (some ⟨b10, 0, none⟩) 4 4, zl aw25 y24.length cw25]) rfl rfl (fun j v hj => own_sub hO (k := 0) rfl 0 3 j v hj)) rfl ?_; refine zO rfl (OpP_store (vs := [zl (some ⟨b7, 0, none⟩) 4 4, zl (some ⟨b10, 0, none⟩) 4 4, zl aw25 y24.length cw25]) sz26 hS hO (k := 4) rfl rfl rfl rfl rfl (one_all rfl) (Nat.le_of_ble_eq_true rfl) (fun w27 hS hO => ?_))
 have hO : Owns _ _ _ ([⟨26, 3, 1, zl (some ⟨b17, 0, none⟩) 1 1, [zl (some ⟨b7, 0, none⟩) 4 4, zl (some ⟨b10, 0, none⟩) 4 4, zl aw25 y24.length cw25]⟩, ⟨60, 4, y24.length, zl aw25 y24.length cw25, clw25⟩, ⟨57, 2, 4, zl (some ⟨b10, 0, none⟩) 4 4, [zi 0, zi 0, zi 0, zi 1, zi 0, zi 2, zi 1, zi 1]⟩, ⟨54, 2, 4, zl (some ⟨b7, 0, none⟩) 4 4, [zi (-1), zi (-1), zi 0, zi (-1), zi 1, zi (-1), zi (-1), zi 0]⟩, ⟨26, 3, 1, zl (some ⟨b1, 0, none⟩) 1 1, [zl (some ⟨b7, 0, none⟩) 4 4, zl (some ⟨b10, 0, none⟩) 4 4, zl aw25 y24.length cw25]⟩]) := hO
 refine zN ?_; refine WC_ret ?_; obtain ⟨G28, leG28, hS, hO, hfG28⟩ := hO.freezeS hS RTLandPerson_mono (k := 3) rfl (hrb7.mono RTLandPerson_mono leG23) rfl
 have l0_2 := leG23.trans leG28
 obtain ⟨G29, leG29, hS, hO, hfG29⟩ := hO.freezeS hS RTLandEvent_mono (k := 2) rfl (hrb10.mono RTLandEvent_mono l0_2) rfl
 have l1_3 := leG28.trans leG29
 obtain ⟨G30, leG30, hS, hO, hfG30⟩ := hO.freezeS hS RTLandMemory_mono (k := 1) rfl (hrw25.mono RTLandMemory_mono l1_3) rfl
 have H : some (⟨[(⟨(-1), (-1)⟩ : TLandPerson), (⟨0, (-1)⟩ : TLandPerson), (⟨1, (-1)⟩ : TLandPerson), (⟨(-1), 0⟩ : TLandPerson)], [(⟨0, 0⟩ : TLandEvent), (⟨0, 1⟩ : TLandEvent), (⟨0, 2⟩ : TLandEvent), (⟨1, 1⟩ : TLandEvent)], y24⟩ : TLandBook) = some r := H
 have H := oi H; subst H
 have l2_4 := leG29.trans leG30
 exact ⟨[.agg #[zl (some ⟨b7, 0, none⟩) 4 4, zl (some ⟨b10, 0, none⟩) 4 4, zl aw25 y24.length cw25]], ⟨⟨_, rfl, ld_agg (cs := [zl (some ⟨b7, 0, none⟩) 4 4, zl (some ⟨b10, 0, none⟩) 4 4, zl aw25 y24.length cw25]) ag26 rfl (fun j v hj => own_sub hO (k := 1) rfl 0 3 j v hj)⟩, trivial⟩, ⟨_, _, rfl, hS.toGrow, _, _, _, _, _, _, _, _, _, rfl, (hfG28.mono RTLandPerson_mono l2_4), (hfG29.mono RTLandEvent_mono leG30), hfG30⟩⟩
set_option maxHeartbeats 1000000 in
theorem f45_ok {B : Nat} {G0 : Gm} {w0 : World} {Gc : Gm} {wc : World} {Lq : List Row} {x0 : TLandBook} {bx bb rm : Nat} {a1 : Option Addr} {n1 c1 : Nat} {a2 : Option Addr} {n2 c2 : Nat} {a3 : Option Addr} {n3 c3 : Nat} {m : List (Int × Bool)} {x1 al : Int} (hS : Since B G0 w0 Gc wc) (hO : Owns Gc wc B (⟨79, 2, m.length, .map (some rm), kvs kvI vvB m⟩ :: Lq))
  (hcx : Cells Gc bx 0 [zp bb]) (hcb : Cells Gc bb 0 [zl a1 n1 c1, zl a2 n2 c2, zl a3 n3 c3, .map (some rm)]) (h1 : RSl RTLandPerson 2 Gc a1 n1 c1 x0.People) (h2 : RSl RTLandEvent 2 Gc a2 n2 c2 x0.Events) (h3 : RSl RTLandMemory 4 Gc a3 n3 c3 x0.Memories) (Hal : f40 x0 = some al) {r : Bool × List (Int × Bool)} (H : f39 x0 m (anI .i64 al x1) = some r) :
  Calls Tryz.prog 45 [zi x1, zp bx].toArray wc (RetO B G0 w0 Gc wc (fun G L' v => v = .bool r.1 ∧ L' = ⟨79, 2, r.2.length, .map (some rm), kvs kvI vvB r.2⟩ :: Lq)) := by
 refine enterL (N := 10) (rs := [.tmp 3]) hO.base Tryz.func45 rfl rfl rfl rfl ?_; refine zS ?_; refine zV (zA (v := .bool false) rfl) rfl ?_; refine zN ?_; refine zQ ?_; have hS := hS.keep (below_drew _); have hO := hO.below (below_drew _)
 refine WC_regionD mixedO (fun _ w => Sat Gc w) (.fl 0 (.fl 1 (.fl 3 (.on 2 (.on 4 (.on 5 (.on 6 .nil))))))) (by kernel_rfl) rfl (by kernel_rfl) (fun _ => hS.sat) ?_
 refine zD rfl (fun w hw => zL na76 rfl (hw.cell (hcx 0 _ rfl))) rfl ?_; refine zD rfl (fun w hw => zL na76 rfl (hw.cell (hcx 0 _ rfl))) rfl ?_; refine zD rfl (fun w hw => zm (v := zi x1) rfl) rfl ?_; refine zE rfl rfl (zC cb40 (f40_ok (x0 := x0) hS.sat hcb h1 h2 h3 Hal) rfl rfl (fun w2 hb => ?_)); have hS := hS.keep hb; have hO := hO.below hb; refine ⟨fun _ _ => hS.sat, ?_⟩; refine zE rfl rfl (OpP_val (rn_an rfl rfl) rfl ?_); refine ⟨fun _ _ => hS.sat, ?_⟩; refine zE rfl rfl (OpP_enter (rn_call cb39 rfl) rfl (f39_ok hS hO hcb h1 h2 h3 H) ?_)
 rintro e w1 ⟨v, rfl, hk, G', L', le, hS, hO, rfl, rfl⟩
 refine ⟨_, rfl, hk.weak, ?_⟩
 refine ⟨fun _ h => noneed (by kernel_rfl) h, ?_⟩
 refine zE rfl rfl (OpP_val (zA (v := .bool r.1) rfl) rfl ?_)
 refine ⟨fun _ h => noneed (by kernel_rfl) h, ?_⟩
 refine zI ?_; refine WC_ret ?_
 exact ⟨[.bool r.1], ⟨rfl, trivial⟩, G', _, le, hS, hO, rfl, rfl⟩
theorem pred45_ok {B : Nat} {G0 : Gm} {w0 : World} {Gc : Gm} {x0 : TLandBook} {bx bb rm : Nat} {a1 : Option Addr} {n1 c1 : Nat} {a2 : Option Addr} {n2 c2 : Nat} {a3 : Option Addr} {n3 c3 : Nat} {al : Int}
  (hcx : Cells Gc bx 0 [zp bb]) (hcb : Cells Gc bb 0 [zl a1 n1 c1, zl a2 n2 c2, zl a3 n3 c3, .map (some rm)]) (h1 : RSl RTLandPerson 2 Gc a1 n1 c1 x0.People) (h2 : RSl RTLandEvent 2 Gc a2 n2 c2 x0.Events) (h3 : RSl RTLandMemory 4 Gc a3 n3 c3 x0.Memories) (Hal : f40 x0 = some al)
  (G : Gm) (L : List Row) (m : List (Int × Bool)) (w : World) (x : Int) (r : Bool × List (Int × Bool)) (hle : Gle Gc G) (hS : Since B G0 w0 G w) (hO : Owns G w B (⟨79, 2, m.length, .map (some rm), kvs kvI vvB m⟩ :: L)) (H : predD x0 al m x = some r) :
  Calls Tryz.prog 45 (([] : List Value) ++ [Value.int .i64 x] ++ [Value.pointer (some ⟨bx, 0, none⟩)]).toArray w (RetO B G0 w0 G w (fun G' L' v => v = .bool r.1 ∧ L' = ⟨79, 2, r.2.length, .map (some rm), kvs kvI vvB r.2⟩ :: L)) :=
 f45_ok hS hO (hcx.mono hle) (hcb.mono hle) (h1.mono RTLandPerson_mono hle) (h2.mono RTLandEvent_mono hle) (h3.mono RTLandMemory_mono hle) Hal H
set_option maxHeartbeats 1000000 in
theorem f19_ok {G0 : Gm} {w0 : World} (hS0 : Sat G0 w0) {x0 : TLandBook} {a1 : Option Addr} {n1 c1 : Nat} {a2 : Option Addr} {n2 c2 : Nat} {a3 : Option Addr} {n3 c3 : Nat} (h1 : RSl RTLandPerson 2 G0 a1 n1 c1 x0.People) (h2 : RSl RTLandEvent 2 G0 a2 n2 c2 x0.Events) (h3 : RSl RTLandMemory 4 G0 a3 n3 c3 x0.Memories) {r : (List Int) × Int} (H : f19 x0 = some r) :
  Calls Tryz.prog 19 #[.agg #[zl a1 n1 c1, zl a2 n2 c2, zl a3 n3 c3]] w0 (RetG G0 w0 (fun G v => ∃ (ra0 : Option Addr) (rn0 rc0 : Nat), v = .tuple #[zl ra0 rn0 rc0, zi r.2] ∧ RSl RInt 1 G ra0 rn0 rc0 r.1)) := by
 have hS := Since.start hS0
 have hO : Owns G0 w0 w0.heap.size [] := Owns.nil (Nat.le_refl _)
 unfold f19 at H
 refine enter2 (N := 24) (shutG _ _ _) Tryz.func19 rfl rfl rfl rfl ?_; refine zS ?_; refine zO rfl (zW (v := fun b => zp b) (cs := [zl a1 n1 c1, zl a2 n2 c2, zl a3 n3 c3]) (e := 26) (rn_boxA rfl) hS.sat rfl (fun b4 G6 w5 hg hcb4 => ?_)); have hS := hS.grow hg; have hO := hO.grow hg
 have leG6 := hg.le
 refine zy (zl none 0 0) rfl rfl ?_; refine zy (zi 0) rfl rfl ?_; refine zN ?_; refine zQ ?_; refine zS ?_; refine zV (rn_loadA ag26 (cs := [zl a1 n1 c1, zl a2 n2 c2, zl a3 n3 c3]) rfl rfl (fun j v hj => hS.sat.cell (hcb4.drop_take 0 3 j v hj))) rfl ?_; obtain ⟨y7, hy7, H⟩ := bnd H; refine zO rfl (zC cb22 (f22_ok (x0 := x0) hS.sat (h1.mono RTLandPerson_mono leG6) (h2.mono RTLandEvent_mono leG6) (h3.mono RTLandMemory_mono leG6) hy7) rfl rfl (fun w8 hb => ?_)); have hS := hS.keep hb; have hO := hO.below hb; refine zV (rn_not rfl) rfl ?_; refine zN ?_; refine zT rfl (fun hb9 => ?_) (fun hb9 => ?_)
 ·have H := ifT hb9 H; refine zS ?_; refine zy (zl none 0 0) rfl rfl ?_; refine zy (zi 2) rfl rfl ?_; refine zN ?_; refine WC_ret ?_
  have H : some ([], 2) = some r := H
  have H := oi H; subst H
  exact ⟨_, _, rfl, hS.toGrow, _, _, _, rfl, (RSl.nil RInt 1 G6 none)⟩
 ·have H := ifF hb9 H; refine zP ?_; refine zS ?_; refine zV (rn_loadA ag26 (cs := [zl a1 n1 c1, zl a2 n2 c2, zl a3 n3 c3]) rfl rfl (fun j v hj => hS.sat.cell (hcb4.drop_take 0 3 j v hj))) rfl ?_; refine zO rfl (OpP_in1 (N' := 7) [.agg #[zl a1 n1 c1, zl a2 n2 c2, zl a3 n3 c3]] cb38 Tryz.func38 rfl rfl rfl rfl rfl rfl ?_); refine zS ?_; refine zO rfl (zW (v := fun b => zp b) (cs := [zl a1 n1 c1, zl a2 n2 c2, zl a3 n3 c3]) (e := 26) (rn_boxA rfl) hS.sat rfl (fun b10 G12 w11 hg hcb10 => ?_)); have hS := hS.grow hg; have hO := hO.grow hg
  have leG12 := hg.le
  refine zy (.pointer none) rfl rfl ?_; refine zN ?_; refine zS ?_; refine zV (rn_loadA ag26 (cs := [zl a1 n1 c1, zl a2 n2 c2, zl a3 n3 c3]) rfl rfl (fun j v hj => hS.sat.cell (hcb10.drop_take 0 3 j v hj))) rfl ?_; refine zO rfl (OpP_makeMap (e := 79) hS hO rfl (fun r13 w14 hS hO => ?_))
  have hO : Owns _ _ _ ([⟨79, 2, ([] : (List (Int × Bool))).length, .map (some r13), kvs kvI vvB ([] : (List (Int × Bool)))⟩]) := hO
  refine zV (v := (.agg #[zl a1 n1 c1, zl a2 n2 c2, zl a3 n3 c3, .map (some r13)])) (by kernel_rfl) rfl ?_
  refine zO rfl (zW (v := fun b => zp b) (cs := [zl a1 n1 c1, zl a2 n2 c2, zl a3 n3 c3, .map (some r13)]) (e := 119) (rn_boxA rfl) hS.sat rfl (fun b16 G18 w17 hg hcb16 => ?_)); have hS := hS.grow hg; have hO := hO.grow hg
  have leG18 := hg.le
  refine zy (zp b16) rfl rfl ?_; refine zN ?_; refine WC_ret ?_; refine ⟨(zp b16), rfl, ?_⟩
  have hO : Owns _ _ _ ([⟨79, 2, ([] : (List (Int × Bool))).length, .map (some r13), kvs kvI vvB ([] : (List (Int × Bool)))⟩]) := hO
  refine zO rfl (zU (v := fun b => zp b) (cs := [.pointer none]) (e := 76) (by kernel_rfl) hS.sat hO rfl 1 1 rfl (by decide) (fun b19 w20 hb hO => ?_))
  have hS := hS.keep hb; refine zO rfl (OpP_store (vs := [zp b16]) sz76 hS hO (k := 0) rfl rfl rfl rfl rfl (one_all rfl) (Nat.le_of_ble_eq_true rfl) (fun w22 hS hO => ?_))
  have hO : Owns _ _ _ ([⟨76, 1, 1, zl (some ⟨b19, 0, none⟩) 1 1, [zp b16]⟩, ⟨79, 2, ([] : (List (Int × Bool))).length, .map (some r13), kvs kvI vvB ([] : (List (Int × Bool)))⟩]) := hO
  obtain ⟨G23, leG23, hS, hO, hqG23, _⟩ := hO.freeze hS (k := 0) rfl
  have hcG23 : Cells G23 b19 0 [zp b16] := (hqG23 _ _ _ _ rfl)
  refine zN ?_; refine zS ?_; refine zV (zL na76 rfl (hS.sat.cell (hcG23 0 _ rfl))) rfl ?_
  have l0_4 := ((leG6.trans leG12).trans leG18).trans leG23
  obtain ⟨_, hm25, H⟩ := bnd H
  have hI24 := f42_it (x0 := x0) (hcb16.mono leG23) (h3.mono RTLandMemory_mono l0_4) (ckM_some hm25)
  refine zV (rn_func (vs := [zp b16]) (us := []) rfl rfl) rfl ?_; refine zV (v := (.func (.func 45) ([] : List Value).toArray ([zp b19] : List Value).toArray)) (rn_func (vs := []) (us := [zp b19]) rfl rfl) rfl ?_; obtain ⟨y26, hy26, H⟩ := bnd H; obtain ⟨y27, hy27, H⟩ := bnd H
  have hp31 := pred45_ok (B := w0.heap.size) (G0 := G0) (w0 := w0) (x0 := x0) (bx := b19) (bb := b16) (rm := r13) (al := y26) hcG23 (hcb16.mono leG23) (h1.mono RTLandPerson_mono l0_4) (h2.mono RTLandEvent_mono l0_4) (h3.mono RTLandMemory_mono l0_4) hy26
  have hx32 := f41_ok (m := ([] : (List (Int × Bool)))) (rm := r13) (ki := 42) (kf := 45) (fi := [zp b16]) (ca := []) (cc := [zp b19]) (xs := setsAll x0.Memories.length) hS hO cb42 hI24 cb45 (predD x0 y26) hp31 hy27
  refine zO rfl (OpP_lent (fi := []) (al := [.func (.func 42) ([zp b16]).toArray ([]).toArray, .func (.func 45) ([] : List Value).toArray ([zp b19] : List Value).toArray]) (ca := []) (B := w0.heap.size) (G0 := G0) (w0 := w0) (Gc := G23) (Φ := (fun G L v => v = Value.tuple #[Value.int IntKind.i64 y27.1, Value.bool y27.2.1] ∧ L = [⟨79, 2, (y27.2.2).length, .map (some r13), kvs kvI vvB (y27.2.2)⟩])) cb41 (by exact hx32) rfl rfl rfl (fun vG29 G29 w28 L30 leG29 hS hO hvG29 => ?_))
  obtain ⟨rfl, rfl⟩ := hvG29
  have hO : Owns _ _ _ ([⟨79, 2, (y27.2.2).length, .map (some r13), kvs kvI vvB (y27.2.2)⟩]) := hO
  refine zx (.tuple #[zi y27.1, .bool y27.2.1]) rfl rfl ?_; refine zV (zX (v := (zi y27.1)) rfl rfl) rfl ?_; refine zV (zX (v := (.bool y27.2.1)) rfl rfl) rfl ?_; refine zy (zi y27.1) rfl rfl ?_; refine zy (.bool y27.2.1) rfl rfl ?_; refine zN ?_; refine zS ?_; refine zx (zi y27.1) rfl rfl ?_; refine zV (zF fd26_2 rfl) rfl ?_
  have l1_5 := ((leG12.trans leG18).trans leG23).trans leG29
  refine zV (zL na24 rfl ((hS.sat.le l1_5).cell (hcb4 2 _ rfl))) rfl ?_
  have l0_5 := l0_4.trans leG29
  refine zV (rn_len sl24 rfl rfl (h3.mono RTLandMemory_mono l0_5).1) rfl ?_; obtain ⟨y33, hy33, H⟩ := bnd H; refine zO rfl (OpP_callG cb44 (f44_ok (x0 := y27.1) (x1 := (x0.Memories.length : Int)) hS.sat  hy33) rfl rfl (fun vy33 G35 w34 hg hvy33 => ?_)); obtain ⟨a36, n36, c36, ⟨⟩, h36⟩ := hvy33; have hS := hS.grow hg; have hO := hO.grow hg
  have leG35 := hg.le
  refine zy (zl a36 n36 c36) rfl rfl ?_; refine zy (zi 0) rfl rfl ?_; refine zN ?_; refine WC_ret ?_
  have H : some (y33, 0) = some r := H
  have H := oi H; subst H
  exact ⟨_, _, rfl, hS.toGrow, _, _, _, rfl, h36⟩
set_option maxHeartbeats 1000000 in
theorem f47_ok {G0 : Gm} {w0 : World} (hS0 : Sat G0 w0) {x0 : TLandBook} {bq0 : Nat} {rm4 : Nat} {a1 : Option Addr} {n1 c1 : Nat} {a2 : Option Addr} {n2 c2 : Nat} {a3 : Option Addr} {n3 c3 : Nat} {x1 : Int} {x2 : Int} (hcq0 : Cells G0 bq0 0 [zl a1 n1 c1, zl a2 n2 c2, zl a3 n3 c3, .map (some rm4)]) (h1 : RSl RTLandPerson 2 G0 a1 n1 c1 x0.People) (h2 : RSl RTLandEvent 2 G0 a2 n2 c2 x0.Events) (h3 : RSl RTLandMemory 4 G0 a3 n3 c3 x0.Memories) {r : Bool} (H : f47 x0 x1 x2 = some r) :
  Calls Tryz.prog 47 #[zp bq0, zi x1, zi x2] w0 (RetV w0 (.bool r)) := by
 have hS := Since.start hS0
 have hO : Owns G0 w0 w0.heap.size [] := Owns.nil (Nat.le_refl _)
 unfold f47 at H
 refine enter1 (N := 29) (shutV _ _) Tryz.func47 rfl rfl rfl rfl ?_; refine zS ?_; refine zy (.bool false) rfl rfl ?_; refine zN ?_; refine zQ ?_; refine zS ?_; refine zx (zp bq0) rfl rfl ?_; refine zV (v := (.func (.func 68) ([zp bq0] : List Value).toArray ([] : List Value).toArray)) (rn_func (vs := [zp bq0]) (us := []) rfl rfl) rfl ?_; refine zx (zp bq0) rfl rfl ?_; refine zV (v := (.func (.func 69) ([zp bq0] : List Value).toArray ([] : List Value).toArray)) (rn_func (vs := [zp bq0]) (us := []) rfl rfl) rfl ?_; refine zx (zp bq0) rfl rfl ?_; refine zV (v := (.func (.func 70) ([zp bq0] : List Value).toArray ([] : List Value).toArray)) (rn_func (vs := [zp bq0]) (us := []) rfl rfl) rfl ?_
 refine zV (v := (.agg #[.func (.func 68) ([zp bq0] : List Value).toArray ([] : List Value).toArray, .func (.func 69) ([zp bq0] : List Value).toArray ([] : List Value).toArray, .func (.func 70) ([zp bq0] : List Value).toArray ([] : List Value).toArray])) (by kernel_rfl) rfl ?_
 refine zx (zi 0) rfl rfl ?_; refine zN ?_; refine WC_block (WC_loopI ?_); refine WI_step ?_; refine zS ?_
 refine zV (v := (.bool true)) (by kernel_rfl) rfl ?_
 refine zN ?_; refine zQ ?_; refine WC_condT _ rfl rfl ?_; refine zP ?_; refine zQ ?_; refine WC_block ?_; refine zS ?_
 refine zV (v := (.func (.func 68) ([zp bq0] : List Value).toArray ([] : List Value).toArray)) (by kernel_rfl) rfl ?_
 refine zy (.func (.func 68) ([zp bq0] : List Value).toArray ([] : List Value).toArray) rfl rfl ?_; refine zN ?_; refine zQ ?_; obtain ⟨q5, hq5, H⟩ := bnd H; refine zM (fun F w => ∃ (Fb : Fr), F = upds Fb [(1, zi x1), (2, zi x2), (15, .agg #[.func (.func 68) ([zp bq0] : List Value).toArray ([] : List Value).toArray, .func (.func 69) ([zp bq0] : List Value).toArray ([] : List Value).toArray, .func (.func 70) ([zp bq0] : List Value).toArray ([] : List Value).toArray]), (16, zi 0), (27, .bool q5)] ∧ w0 = w) ?_ ?_
 ·have Hoq5 := H; have H := hq5; refine zR ?_; refine zx (zi x1) rfl rfl ?_; refine zx (zi x2) rfl rfl ?_; refine zV (rn_neq rfl rfl) rfl ?_; refine zx (.bool (x1 != x2)) rfl rfl ?_
  rcases bcases (x1 != x2) with hb6 | hb6
  ·have H := ifT hb6 H; refine zY rfl hb6 rfl rfl ?_; refine zx (.func (.func 68) ([zp bq0] : List Value).toArray ([] : List Value).toArray) rfl rfl ?_; refine zY rfl hb6 rfl rfl ?_; refine zx (zi x1) rfl rfl ?_; refine zY rfl hb6 rfl rfl ?_; refine zx (zi x2) rfl rfl ?_; refine zY rfl hb6 rfl rfl ?_; refine zO rfl (OpP_inC1 (N' := 18) (fi := [zp bq0]) (al := [zi x1, zi x2]) (ca := []) cb68 Tryz.func68 rfl rfl rfl rfl rfl rfl rfl ?_); refine zS ?_; refine zy (.bool false) rfl rfl ?_; refine zN ?_; refine zS ?_; refine zx (zp bq0) rfl rfl ?_
   refine zV (v := (zp bq0)) (by kernel_rfl) rfl ?_
   refine zV (zF fd119_0 rfl) rfl ?_; refine zV (zF fd26_0 rfl) rfl ?_; refine zV (zL na22 rfl (hS.sat.cell (hcq0 0 _ rfl))) rfl ?_; refine zx (zi x1) rfl rfl ?_; obtain ⟨y7, hy7, H⟩ := bnd H; refine WL_idx sl22 h1 hy7 rfl rfl rfl ?_
   rintro b8 o8 _ hcb8 _ ⟨⟩
   refine zV (zF fd54_0 rfl) rfl ?_; refine zV (zL na3 rfl (hS.sat.cell (hcb8 0 _ rfl))) rfl ?_; refine zx (zi x2) rfl rfl ?_; refine zV (rn_eql rfl rfl) rfl ?_; refine zy (.bool (y7.Mother == x2)) rfl rfl ?_; refine zN ?_; refine WC_ret ?_; refine ⟨(.bool (y7.Mother == x2)), rfl, ?_⟩
   have hO : Owns _ _ _ ([]) := hO
   refine zV (rn_pickT (v := (.bool (y7.Mother == x2))) rfl hb6 rfl) rfl ?_; refine zN ?_; have H := oi H; subst H
   exact ⟨_, upds_self _ _ ⟨rfl, rfl, rfl, rfl, rfl, trivial⟩, rfl⟩
  ·have H := ifF hb6 H; refine zG rfl hb6 rfl rfl rfl ?_; refine zG rfl hb6 rfl rfl rfl ?_; refine zG rfl hb6 rfl rfl rfl ?_; refine zG rfl hb6 rfl rfl rfl ?_; refine zV (rn_pickF (v := (.bool false)) rfl hb6 rfl) rfl ?_; refine zN ?_; have H := oi H; subst H
   exact ⟨_, upds_self _ _ ⟨rfl, rfl, rfl, rfl, rfl, trivial⟩, rfl⟩
 ·rintro F wl ⟨Fb, rfl, rfl⟩
  refine zT rfl (fun hb11 => ?_) (fun hb11 => ?_)
  ·have H := ifT hb11 H; refine zS ?_; refine zy (.bool true) rfl rfl ?_; refine zN ?_; refine WC_ret ?_
   have H : some true = some r := H
   have H := oi H; subst H
   exact ⟨rfl, hS.below⟩
  ·have H := ifF hb11 H; refine zP ?_; refine zR ?_
   refine zV (v := (zi 1)) (by kernel_rfl) rfl ?_
   refine zx (zi 1) rfl rfl ?_; refine zN ?_; refine WI_step ?_; refine zS ?_
   refine zV (v := (.bool true)) (by kernel_rfl) rfl ?_
   refine zN ?_; refine zQ ?_; refine WC_condT _ rfl rfl ?_; refine zP ?_; refine zQ ?_; refine WC_block ?_; refine zS ?_
   refine zV (v := (.func (.func 69) ([zp bq0] : List Value).toArray ([] : List Value).toArray)) (by kernel_rfl) rfl ?_
   refine zy (.func (.func 69) ([zp bq0] : List Value).toArray ([] : List Value).toArray) rfl rfl ?_; refine zN ?_; refine zQ ?_; obtain ⟨q12, hq12, H⟩ := bnd H; refine zM (fun F w => ∃ (Fb : Fr), F = upds Fb [(1, zi x1), (2, zi x2), (15, .agg #[.func (.func 68) ([zp bq0] : List Value).toArray ([] : List Value).toArray, .func (.func 69) ([zp bq0] : List Value).toArray ([] : List Value).toArray, .func (.func 70) ([zp bq0] : List Value).toArray ([] : List Value).toArray]), (16, zi 1), (27, .bool q12)] ∧ w0 = w) ?_ ?_
   ·have Hoq12 := H; have H := hq12; refine zR ?_; refine zx (zi x1) rfl rfl ?_; refine zx (zi x2) rfl rfl ?_; refine zV (rn_neq rfl rfl) rfl ?_; refine zx (.bool (x1 != x2)) rfl rfl ?_
    rcases bcases (x1 != x2) with hb13 | hb13
    ·have H := ifT hb13 H; refine zY rfl hb13 rfl rfl ?_; refine zx (.func (.func 69) ([zp bq0] : List Value).toArray ([] : List Value).toArray) rfl rfl ?_; refine zY rfl hb13 rfl rfl ?_; refine zx (zi x1) rfl rfl ?_; refine zY rfl hb13 rfl rfl ?_; refine zx (zi x2) rfl rfl ?_; refine zY rfl hb13 rfl rfl ?_; refine zO rfl (OpP_inC1 (N' := 18) (fi := [zp bq0]) (al := [zi x1, zi x2]) (ca := []) cb69 Tryz.func69 rfl rfl rfl rfl rfl rfl rfl ?_); refine zS ?_; refine zy (.bool false) rfl rfl ?_; refine zN ?_; refine zS ?_; refine zx (zp bq0) rfl rfl ?_
     refine zV (v := (zp bq0)) (by kernel_rfl) rfl ?_
     refine zV (zF fd119_0 rfl) rfl ?_; refine zV (zF fd26_0 rfl) rfl ?_; refine zV (zL na22 rfl (hS.sat.cell (hcq0 0 _ rfl))) rfl ?_; refine zx (zi x1) rfl rfl ?_; obtain ⟨y14, hy14, H⟩ := bnd H; refine WL_idx sl22 h1 hy14 rfl rfl rfl ?_
     rintro b15 o15 _ hcb15 _ ⟨⟩
     refine zV (zF fd54_1 rfl) rfl ?_; refine zV (zL na3 rfl (hS.sat.cell (hcb15 1 _ rfl))) rfl ?_; refine zx (zi x2) rfl rfl ?_; refine zV (rn_eql rfl rfl) rfl ?_; refine zy (.bool (y14.Adopted == x2)) rfl rfl ?_; refine zN ?_; refine WC_ret ?_; refine ⟨(.bool (y14.Adopted == x2)), rfl, ?_⟩
     have hO : Owns _ _ _ ([]) := hO
     refine zV (rn_pickT (v := (.bool (y14.Adopted == x2))) rfl hb13 rfl) rfl ?_; refine zN ?_; have H := oi H; subst H
     exact ⟨_, upds_self _ _ ⟨rfl, rfl, rfl, rfl, rfl, trivial⟩, rfl⟩
    ·have H := ifF hb13 H; refine zG rfl hb13 rfl rfl rfl ?_; refine zG rfl hb13 rfl rfl rfl ?_; refine zG rfl hb13 rfl rfl rfl ?_; refine zG rfl hb13 rfl rfl rfl ?_; refine zV (rn_pickF (v := (.bool false)) rfl hb13 rfl) rfl ?_; refine zN ?_; have H := oi H; subst H
     exact ⟨_, upds_self _ _ ⟨rfl, rfl, rfl, rfl, rfl, trivial⟩, rfl⟩
   ·rintro F wl ⟨Fb, rfl, rfl⟩
    refine zT rfl (fun hb18 => ?_) (fun hb18 => ?_)
    ·have H := ifT hb18 H; refine zS ?_; refine zy (.bool true) rfl rfl ?_; refine zN ?_; refine WC_ret ?_
     have H : some true = some r := H
     have H := oi H; subst H
     exact ⟨rfl, hS.below⟩
    ·have H := ifF hb18 H; refine zP ?_; refine zR ?_
     refine zV (v := (zi 2)) (by kernel_rfl) rfl ?_
     refine zx (zi 2) rfl rfl ?_; refine zN ?_; refine WI_step ?_; refine zS ?_
     refine zV (v := (.bool true)) (by kernel_rfl) rfl ?_
     refine zN ?_; refine zQ ?_; refine WC_condT _ rfl rfl ?_; refine zP ?_; refine zQ ?_; refine WC_block ?_; refine zS ?_
     refine zV (v := (.func (.func 70) ([zp bq0] : List Value).toArray ([] : List Value).toArray)) (by kernel_rfl) rfl ?_
     refine zy (.func (.func 70) ([zp bq0] : List Value).toArray ([] : List Value).toArray) rfl rfl ?_; refine zN ?_; refine zQ ?_; obtain ⟨q19, hq19, H⟩ := bnd H; refine zM (fun F w => ∃ (Fb : Fr), F = upds Fb [(1, zi x1), (2, zi x2), (15, .agg #[.func (.func 68) ([zp bq0] : List Value).toArray ([] : List Value).toArray, .func (.func 69) ([zp bq0] : List Value).toArray ([] : List Value).toArray, .func (.func 70) ([zp bq0] : List Value).toArray ([] : List Value).toArray]), (16, zi 2), (27, .bool q19)] ∧ w0 = w) ?_ ?_
     ·have Hoq19 := H; have H := hq19; refine zR ?_; refine zx (zi x1) rfl rfl ?_; refine zx (zi x2) rfl rfl ?_; refine zV (rn_neq rfl rfl) rfl ?_; refine zx (.bool (x1 != x2)) rfl rfl ?_
      rcases bcases (x1 != x2) with hb20 | hb20
      ·have H := ifT hb20 H; refine zY rfl hb20 rfl rfl ?_; refine zx (.func (.func 70) ([zp bq0] : List Value).toArray ([] : List Value).toArray) rfl rfl ?_; refine zY rfl hb20 rfl rfl ?_; refine zx (zi x1) rfl rfl ?_; refine zY rfl hb20 rfl rfl ?_; refine zx (zi x2) rfl rfl ?_; refine zY rfl hb20 rfl rfl ?_; refine zO rfl (OpP_inC1 (N' := 32) (fi := [zp bq0]) (al := [zi x1, zi x2]) (ca := []) cb70 Tryz.func70 rfl rfl rfl rfl rfl rfl rfl ?_); refine zS ?_; refine zy (.bool false) rfl rfl ?_; refine zN ?_; refine zS ?_; refine zx (zp bq0) rfl rfl ?_
       refine zV (v := (zp bq0)) (by kernel_rfl) rfl ?_
       refine zV (zF fd119_0 rfl) rfl ?_; refine zV (zF fd26_0 rfl) rfl ?_; refine zV (zL na22 rfl (hS.sat.cell (hcq0 0 _ rfl))) rfl ?_; refine zx (zi x1) rfl rfl ?_; obtain ⟨y21, hy21, H⟩ := bnd H; refine WL_idx sl22 h1 hy21 rfl rfl rfl ?_
       rintro b22 o22 _ hcb22 _ ⟨⟩
       refine zV (zF fd54_0 rfl) rfl ?_; refine zV (zL na3 rfl (hS.sat.cell (hcb22 0 _ rfl))) rfl ?_; refine zy (zi y21.Mother) rfl rfl ?_; refine zN ?_; refine zQ ?_; obtain ⟨q23, hq23, H⟩ := bnd H; refine zM (fun F w => ∃ (Fb : Fr), F = upds Fb [(6, .bool q23)] ∧ w0 = w) ?_ ?_
       ·have Hoq23 := H; have H := hq23; refine zR ?_; refine zx (zi y21.Mother) rfl rfl ?_; refine zV (rn_neq rfl rfl) rfl ?_; refine zx (.bool (y21.Mother != (-1))) rfl rfl ?_
        rcases bcases (y21.Mother != (-1)) with hb24 | hb24
        ·have H := ifT hb24 H; refine zY rfl hb24 rfl rfl ?_; refine zx (zi y21.Mother) rfl rfl ?_; refine zY rfl hb24 rfl rfl ?_; refine zx (zp bq0) rfl rfl ?_; refine zY rfl hb24 rfl rfl ?_
         refine zV (v := (zp bq0)) (by kernel_rfl) rfl ?_
         refine zY rfl hb24 rfl rfl ?_; refine zV (zF fd119_0 rfl) rfl ?_; refine zY rfl hb24 rfl rfl ?_; refine zV (zF fd26_0 rfl) rfl ?_; refine zY rfl hb24 rfl rfl ?_; refine zV (zL na22 rfl (hS.sat.cell (hcq0 0 _ rfl))) rfl ?_; refine zY rfl hb24 rfl rfl ?_; refine zx (zi x2) rfl rfl ?_; refine zY rfl hb24 rfl rfl ?_; obtain ⟨y25, hy25, H⟩ := bnd H; refine WL_idx sl22 h1 hy25 rfl rfl rfl ?_
         rintro b26 o26 _ hcb26 _ ⟨⟩
         refine zY rfl hb24 rfl rfl ?_; refine zV (zF fd54_0 rfl) rfl ?_; refine zY rfl hb24 rfl rfl ?_; refine zV (zL na3 rfl (hS.sat.cell (hcb26 0 _ rfl))) rfl ?_; refine zY rfl hb24 rfl rfl ?_; refine zV (rn_eql rfl rfl) rfl ?_; refine zV (rn_pickT (v := (.bool (y21.Mother == y25.Mother))) rfl hb24 rfl) rfl ?_; refine zy (.bool (y21.Mother == y25.Mother)) rfl rfl ?_; refine zN ?_; have H := oi H; subst H
         exact ⟨_, upds_self _ _ ⟨rfl, trivial⟩, rfl⟩
        ·have H := ifF hb24 H; refine zG rfl hb24 rfl rfl rfl ?_; refine zG rfl hb24 rfl rfl rfl ?_; refine zG rfl hb24 rfl rfl rfl ?_; refine zG rfl hb24 rfl rfl rfl ?_; refine zG rfl hb24 rfl rfl rfl ?_; refine zG rfl hb24 rfl rfl rfl ?_; refine zG rfl hb24 rfl rfl rfl ?_; refine zG rfl hb24 rfl rfl rfl ?_; refine zG rfl hb24 rfl rfl rfl ?_; refine zG rfl hb24 rfl rfl rfl ?_; refine zG rfl hb24 rfl rfl rfl ?_; refine zV (rn_pickF (v := (.bool false)) rfl hb24 rfl) rfl ?_; refine zy (.bool false) rfl rfl ?_; refine zN ?_; have H := oi H; subst H
         exact ⟨_, upds_self _ _ ⟨rfl, trivial⟩, rfl⟩
       ·rintro F wl ⟨Fb, rfl, rfl⟩
        refine WC_ret ?_; refine ⟨(.bool q23), rfl, ?_⟩
        have hO : Owns _ _ _ ([]) := hO
        refine zV (rn_pickT (v := (.bool q23)) rfl hb20 rfl) rfl ?_; refine zN ?_; have H := oi H; subst H
        exact ⟨_, upds_self _ _ ⟨rfl, rfl, rfl, rfl, rfl, trivial⟩, rfl⟩
      ·have H := ifF hb20 H; refine zG rfl hb20 rfl rfl rfl ?_; refine zG rfl hb20 rfl rfl rfl ?_; refine zG rfl hb20 rfl rfl rfl ?_; refine zG rfl hb20 rfl rfl rfl ?_; refine zV (rn_pickF (v := (.bool false)) rfl hb20 rfl) rfl ?_; refine zN ?_; have H := oi H; subst H
       exact ⟨_, upds_self _ _ ⟨rfl, rfl, rfl, rfl, rfl, trivial⟩, rfl⟩
     ·rintro F wl ⟨Fb, rfl, rfl⟩
      refine zT rfl (fun hb31 => ?_) (fun hb31 => ?_)
      ·have H := ifT hb31 H; refine zS ?_; refine zy (.bool true) rfl rfl ?_; refine zN ?_; refine WC_ret ?_
       have H : some true = some r := H
       have H := oi H; subst H
       exact ⟨rfl, hS.below⟩
      ·have H := ifF hb31 H; refine zP ?_; refine zR ?_
       refine zV (v := (zi 3)) (by kernel_rfl) rfl ?_
       refine zx (zi 3) rfl rfl ?_; refine zN ?_; refine WI_step ?_; refine zS ?_
       refine zV (v := (.bool false)) (by kernel_rfl) rfl ?_
       refine zN ?_; refine zQ ?_; refine WC_condF _ rfl rfl ?_; refine WC_exit rfl ?_; refine zS ?_; refine zy (.bool false) rfl rfl ?_; refine zN ?_; refine WC_ret ?_
       have H : some false = some r := H
       have H := oi H; subst H
       exact ⟨rfl, hS.below⟩
end Go.Proofs.YtcaflmilfhhikaaGreatDoor
