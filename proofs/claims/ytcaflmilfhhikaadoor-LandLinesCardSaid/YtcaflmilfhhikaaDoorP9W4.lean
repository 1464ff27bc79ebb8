/-
  The walks: each Go function computes its plain function (printed by a program of ours).
-/
import Derived.Test.YtcaflmilfhhikaaDoorAl
import Derived.Test.YtcaflmilfhhikaaDoorRd
import Derived.Test.YtcaflmilfhhikaaDoorBaseQ
import Derived.Test.YtcaflmilfhhikaaDoorIt
import Derived.Test.YtcaflmilfhhikaaDoorLib
import Derived.Test.YtcaflmilfhhikaaDoorBu
import Derived.Test.YtcaflmilfhhikaaDoorP9W3
namespace Go.Proofs.YtcaflmilfhhikaaDoor
open Go.RowKit
set_option linter.unusedVariables false

set_option maxRecDepth 20000
set_option linter.unusedVariables false
set_option maxHeartbeats 1000000 in
theorem f74_ok {G0 : Gm} {w0 : World} (hS0 : Sat G0 w0) {x0 : TLandBook} {a1 : Option Addr} {n1 c1 : Nat} {a2 : Option Addr} {n2 c2 : Nat} {a3 : Option Addr} {n3 c3 : Nat} {x1 : Int} {x2 : Int} (h1 : RSl RTLandPerson 2 G0 a1 n1 c1 x0.People) (h2 : RSl RTLandEvent 2 G0 a2 n2 c2 x0.Events) (h3 : RSl RTLandMemory 4 G0 a3 n3 c3 x0.Memories) {r : Bool} (H : f74 x0 x1 x2 = some r) :
  Calls Tryd.prog 74 #[.agg #[.slice a1 n1 c1, .slice a2 n2 c2, .slice a3 n3 c3], .int .i64 x1, .int .i64 x2] w0 (RetV w0 (.bool r)) := by
 have hS := Since.start hS0
 have hO : Owns G0 w0 w0.heap.size [] := Owns.nil (Nat.le_refl _)
 unfold f74 at H
 refine enter1 (N := 44) (shutV _ _) Tryd.func74 rfl rfl rfl rfl ?_; refine zS ?_; refine zO rfl (zW (v := fun b => .pointer (some ⟨b, 0, none⟩)) (cs := [.slice a1 n1 c1, .slice a2 n2 c2, .slice a3 n3 c3]) (e := 26) (rn_boxA rfl) hS.sat rfl (fun b4 G6 w5 hg hcb4 => ?_)); have hS := hS.grow hg; have hO := hO.grow hg
 have leG6 := hg.le
 refine zV (zA (v := (.bool false)) rfl) rfl ?_; refine zN ?_; refine zS ?_; refine zV (zF fd26_0 rfl) rfl ?_; refine zV (zL na22 rfl (hS.sat.cell (hcb4 0 _ rfl))) rfl ?_; refine zV (zm (v := (.int .i64 x2)) rfl) rfl ?_; obtain ⟨y7, hy7, H⟩ := bnd H; refine WL_idx sl22 (h1.mono RTLandPerson_mono leG6) hy7 rfl rfl rfl ?_
 rintro b8 o8 _ hcb8 _ ⟨⟩
 refine zV (rn_loadA ag85 (cs := [.int .i64 y7.Mother, .int .i64 y7.Adopted]) rfl rfl (fun j v hj => hS.sat.cell (hcb8.drop_take 0 2 j v hj))) rfl ?_
 refine zO rfl (zU (v := fun b => .pointer (some ⟨b, 0, none⟩)) (cs := [.int .i64 0, .int .i64 0]) (e := 85) (by kernel_rfl) hS.sat hO rfl 2 1 rfl (by decide) (fun b9 w10 hb hO => ?_))
 have hS := hS.keep hb; refine zO rfl (OpP_store (vs := [.int .i64 y7.Mother, .int .i64 y7.Adopted]) sz85 hS hO (k := 0) rfl rfl rfl rfl rfl (one_all rfl) (Nat.le_of_ble_eq_true rfl) (fun w12 hS hO => ?_))
 have hO : Owns G6 w12 w0.heap.size ([⟨85, 2, 1, .slice (some ⟨b9, 0, none⟩) 1 1, [.int .i64 y7.Mother, .int .i64 y7.Adopted]⟩]) := hO
 obtain ⟨G13, leG13, hS, hO, hqG13, _⟩ := hO.freeze hS (k := 0) rfl
 have hcG13 : Cells G13 b9 0 [.int .i64 y7.Mother, .int .i64 y7.Adopted] := (hqG13 _ _ _ _ rfl)
 refine zN ?_; refine zQ ?_; obtain ⟨q14, hq14, H⟩ := bnd H; refine zM (fun F w => ∃ (Fb : Fr) (G : Gm), F = upds Fb [(6, .bool q14)] ∧ Gle G13 G ∧ Since w0.heap.size G0 w0 G w ∧ Owns G w w0.heap.size []) ?_ ?_
 ·have Hoq14 := H; have H := hq14; have hS := hS.keep (below_drew _); have hO := hO.below (below_drew _)
  refine WC_regionD mixedO (fun _ w => Sat G13 w ∧ True) (.fl 0 (.on 1 (.on 2 (.on 3 (.fl 4 (.fl 5 (.on 6 (.on 7 (.on 8 (.fl 9 (.fl 10 (.on 11 (.on 12 (.on 13 (.on 14 (.on 15 (.on 16 (.on 17 (.on 18 (.fl 19 (.fl 20 (.fl 21 (.fl 22 (.on 23 (.on 24 (.on 25 (.on 26 (.on 27 (.on 28 (.on 29 (.on 30 (.on 31 .nil)))))))))))))))))))))))))))))))) (by kernel_rfl) rfl (by kernel_rfl) (fun _ => ⟨hS.sat, trivial⟩) ?_
  refine zD rfl (fun w hw => zm (v := (.int .i64 x2)) rfl) rfl ?_; refine zE rfl rfl (OpP_val (zm (v := (.int .i64 x1)) rfl) rfl ?_); refine ⟨fun _ _ => ⟨hS.sat, trivial⟩, ?_⟩; refine zE rfl rfl (OpP_val (rn_neq rfl rfl) rfl ?_); refine ⟨fun _ _ => ⟨hS.sat, trivial⟩, ?_⟩; refine zE rfl rfl (OpP_val (zm (v := (.bool (x2 != x1))) rfl) rfl ?_); refine ⟨fun _ _ => ⟨hS.sat, trivial⟩, ?_⟩
  rcases bcases (x2 != x1) with hb15 | hb15
  ·have H := ifT hb15 H; refine zB rfl rfl hb15 rfl rfl (fun w hw => zF fd85_0 rfl) rfl ?_; refine zB rfl rfl hb15 rfl rfl (fun w hw => zL na3 rfl (hw.1.cell (hcG13 0 _ rfl))) rfl ?_; refine WD_opY rfl rfl rfl hb15 rfl rfl (OpP_val (zm (v := (.int .i64 x1)) rfl) rfl ?_); refine ⟨fun _ _ => ⟨hS.sat, trivial⟩, ?_⟩; refine WD_opY rfl rfl rfl hb15 rfl rfl (OpP_val (rn_eql rfl rfl) rfl ?_); refine ⟨fun _ _ => ⟨hS.sat, trivial⟩, ?_⟩; refine WD_opY rfl rfl rfl hb15 rfl rfl (OpP_val (zm (v := (.bool (y7.Mother == x1))) rfl) rfl ?_); refine ⟨fun _ _ => ⟨hS.sat, trivial⟩, ?_⟩
   rcases bcases (y7.Mother == x1) with hb16 | hb16
   ·have H := ifT hb16 H; refine zK rfl rfl hb16 rfl rfl rfl ?_; refine zK rfl rfl hb16 rfl rfl rfl ?_; refine zJ rfl rfl hb16 rfl rfl rfl (fun _ _ => ⟨hS.sat, trivial⟩) ?_; refine zJ rfl rfl hb16 rfl rfl rfl (fun _ _ => ⟨hS.sat, trivial⟩) ?_; refine WD_opY rfl rfl rfl hb15 rfl rfl (OpP_val (rn_pickT (v := (.bool true)) rfl hb16 rfl) rfl ?_); refine ⟨fun _ _ => ⟨hS.sat, trivial⟩, ?_⟩; refine WD_opY rfl rfl rfl hb15 rfl rfl (OpP_val (zm (v := (.bool true)) rfl) rfl ?_); refine ⟨fun _ _ => ⟨hS.sat, trivial⟩, ?_⟩; refine zJ rfl rfl rfl rfl rfl rfl (fun _ _ => ⟨hS.sat, trivial⟩) ?_; refine zJ rfl rfl rfl rfl rfl rfl (fun _ _ => ⟨hS.sat, trivial⟩) ?_; refine zJ rfl rfl rfl rfl rfl rfl (fun _ _ => ⟨hS.sat, trivial⟩) ?_; refine zJ rfl rfl rfl rfl rfl rfl (fun _ _ => ⟨hS.sat, trivial⟩) ?_; refine WD_undefN rfl rfl rfl rfl rfl ?_; refine WD_undefN rfl rfl rfl rfl rfl ?_; refine WD_undefN rfl rfl rfl rfl rfl ?_; refine WD_undefN rfl rfl rfl rfl rfl ?_; refine WD_undefS rfl rfl rfl rfl rfl (fun _ _ => ⟨hS.sat, trivial⟩) ?_; refine WD_undefS rfl rfl rfl rfl rfl (fun _ _ => ⟨hS.sat, trivial⟩) ?_; refine WD_undefS rfl rfl rfl rfl rfl (fun _ _ => ⟨hS.sat, trivial⟩) ?_; refine WD_undefS rfl rfl rfl rfl rfl (fun _ _ => ⟨hS.sat, trivial⟩) ?_
    refine WD_undefS rfl rfl rfl rfl rfl (fun _ h => noneed (by kernel_rfl) h) ?_
    refine zJ rfl rfl rfl rfl rfl rfl (fun _ h => noneed (by kernel_rfl) h) ?_
    refine WD_opY rfl rfl rfl hb15 rfl rfl (OpP_val (rn_pickT (v := (.bool true)) rfl rfl rfl) rfl ?_)
    refine ⟨fun _ h => noneed (by kernel_rfl) h, ?_⟩
    refine zE rfl rfl (OpP_val (rn_pickT (v := (.bool true)) rfl hb15 rfl) rfl ?_)
    refine ⟨fun _ h => noneed (by kernel_rfl) h, ?_⟩
    refine zE rfl rfl (OpP_val (zA (v := (.bool true)) rfl) rfl ?_)
    refine ⟨fun _ h => noneed (by kernel_rfl) h, ?_⟩
    refine zI ?_
    have hO : Owns G13 w12.drew w0.heap.size ([]) := hO
    have H := oi H; subst H
    exact ⟨_, G13, upds_self _ _ ⟨rfl, trivial⟩, Gle.refl _, hS, hO⟩
   ·have H := ifF hb16 H; refine zB rfl rfl hb16 rfl rfl (fun w hw => zF fd85_1 rfl) rfl ?_; refine zB rfl rfl hb16 rfl rfl (fun w hw => zL na3 rfl (hw.1.cell (hcG13 1 _ rfl))) rfl ?_; refine WD_opY rfl rfl rfl hb16 rfl rfl (OpP_val (zm (v := (.int .i64 x1)) rfl) rfl ?_); refine ⟨fun _ _ => ⟨hS.sat, trivial⟩, ?_⟩; refine WD_opY rfl rfl rfl hb16 rfl rfl (OpP_val (rn_eql rfl rfl) rfl ?_); refine ⟨fun _ _ => ⟨hS.sat, trivial⟩, ?_⟩; refine WD_opY rfl rfl rfl hb15 rfl rfl (OpP_val (rn_pickF (v := (.bool (y7.Adopted == x1))) rfl hb16 rfl) rfl ?_); refine ⟨fun _ _ => ⟨hS.sat, trivial⟩, ?_⟩; refine WD_opY rfl rfl rfl hb15 rfl rfl (OpP_val (zm (v := (.bool (y7.Adopted == x1))) rfl) rfl ?_); refine ⟨fun _ _ => ⟨hS.sat, trivial⟩, ?_⟩
    rcases bcases (y7.Adopted == x1) with hb17 | hb17
    ·have H := ifT hb17 H; refine zJ rfl rfl hb17 rfl rfl rfl (fun _ _ => ⟨hS.sat, trivial⟩) ?_; refine zJ rfl rfl hb17 rfl rfl rfl (fun _ _ => ⟨hS.sat, trivial⟩) ?_; refine zJ rfl rfl hb17 rfl rfl rfl (fun _ _ => ⟨hS.sat, trivial⟩) ?_; refine zJ rfl rfl hb17 rfl rfl rfl (fun _ _ => ⟨hS.sat, trivial⟩) ?_; refine WD_undefN rfl rfl rfl rfl rfl ?_; refine WD_undefN rfl rfl rfl rfl rfl ?_; refine WD_undefN rfl rfl rfl rfl rfl ?_; refine WD_undefN rfl rfl rfl rfl rfl ?_; refine WD_undefS rfl rfl rfl rfl rfl (fun _ _ => ⟨hS.sat, trivial⟩) ?_; refine WD_undefS rfl rfl rfl rfl rfl (fun _ _ => ⟨hS.sat, trivial⟩) ?_; refine WD_undefS rfl rfl rfl rfl rfl (fun _ _ => ⟨hS.sat, trivial⟩) ?_; refine WD_undefS rfl rfl rfl rfl rfl (fun _ _ => ⟨hS.sat, trivial⟩) ?_
     refine WD_undefS rfl rfl rfl rfl rfl (fun _ h => noneed (by kernel_rfl) h) ?_
     refine zJ rfl rfl hb17 rfl rfl rfl (fun _ h => noneed (by kernel_rfl) h) ?_
     refine WD_opY rfl rfl rfl hb15 rfl rfl (OpP_val (rn_pickT (v := (.bool true)) rfl hb17 rfl) rfl ?_)
     refine ⟨fun _ h => noneed (by kernel_rfl) h, ?_⟩
     refine zE rfl rfl (OpP_val (rn_pickT (v := (.bool true)) rfl hb15 rfl) rfl ?_)
     refine ⟨fun _ h => noneed (by kernel_rfl) h, ?_⟩
     refine zE rfl rfl (OpP_val (zA (v := (.bool true)) rfl) rfl ?_)
     refine ⟨fun _ h => noneed (by kernel_rfl) h, ?_⟩
     refine zI ?_
     have hO : Owns G13 w12.drew w0.heap.size ([]) := hO
     have H := oi H; subst H
     exact ⟨_, G13, upds_self _ _ ⟨rfl, trivial⟩, Gle.refl _, hS, hO⟩
    ·have H := ifF hb17 H; refine WD_opY rfl rfl rfl hb17 rfl rfl (OpP_val (zF fd85_0 rfl) rfl ?_); refine ⟨fun _ _ => ⟨hS.sat, trivial⟩, ?_⟩; refine WD_opY rfl rfl rfl hb17 rfl rfl (OpP_val (zL na3 rfl (hS.sat.cell (hcG13 0 _ rfl))) rfl ?_); refine ⟨fun _ _ => ⟨hS.sat, trivial⟩, ?_⟩; refine WD_opY rfl rfl rfl hb17 rfl rfl (OpP_val (rn_geq rfl rfl) rfl ?_); refine ⟨fun _ _ => ⟨hS.sat, trivial⟩, ?_⟩; refine WD_opY rfl rfl rfl hb17 rfl rfl (OpP_val (zm (v := (.bool (decide (0 ≤ y7.Mother)))) rfl) rfl ?_); refine ⟨fun _ _ => ⟨hS.sat, trivial⟩, ?_⟩
     rcases bcases (decide (0 ≤ y7.Mother)) with hb18 | hb18
     ·have H := ifT hb18 H; refine zB rfl rfl hb18 rfl rfl (fun w hw => zF fd85_0 rfl) rfl ?_; refine zB rfl rfl hb18 rfl rfl (fun w hw => zL na3 rfl (hw.1.cell (hcG13 0 _ rfl))) rfl ?_; refine zB rfl rfl hb18 rfl rfl (fun w hw => zF fd26_0 rfl) rfl ?_; refine zB rfl rfl hb18 rfl rfl (fun w hw => zL na22 rfl ((hw.1.le leG13).cell (hcb4 0 _ rfl))) rfl ?_; refine WD_opY rfl rfl rfl hb18 rfl rfl (OpP_val (zm (v := (.int .i64 x1)) rfl) rfl ?_); refine ⟨fun _ _ => ⟨hS.sat, trivial⟩, ?_⟩; obtain ⟨y19, hy19, H⟩ := bnd H
      have l0_2 := leG6.trans leG13
      refine WD_opY rfl rfl rfl hb18 rfl rfl (OpP_idx sl22 (h1.mono RTLandPerson_mono l0_2) hy19 rfl rfl rfl ?_)
      rintro b20 o20 _ hcb20 _ ⟨⟩
      refine ⟨fun _ _ => ⟨hS.sat, trivial⟩, ?_⟩; refine WD_opY rfl rfl rfl hb18 rfl rfl (OpP_val (zF fd85_0 rfl) rfl ?_); refine ⟨fun _ _ => ⟨hS.sat, trivial⟩, ?_⟩; refine WD_opY rfl rfl rfl hb18 rfl rfl (OpP_val (zL na3 rfl (hS.sat.cell (hcb20 0 _ rfl))) rfl ?_); refine ⟨fun _ _ => ⟨hS.sat, trivial⟩, ?_⟩; refine WD_opY rfl rfl rfl hb18 rfl rfl (OpP_val (rn_eql rfl rfl) rfl ?_)
      refine ⟨fun _ h => noneed (by kernel_rfl) h, ?_⟩
      refine WD_opY rfl rfl rfl hb17 rfl rfl (OpP_val (rn_pickT (v := (.bool (y7.Mother == y19.Mother))) rfl hb18 rfl) rfl ?_)
      refine ⟨fun _ h => noneed (by kernel_rfl) h, ?_⟩
      refine WD_opY rfl rfl rfl hb15 rfl rfl (OpP_val (rn_pickF (v := (.bool (y7.Mother == y19.Mother))) rfl hb17 rfl) rfl ?_)
      refine ⟨fun _ h => noneed (by kernel_rfl) h, ?_⟩
      refine zE rfl rfl (OpP_val (rn_pickT (v := (.bool (y7.Mother == y19.Mother))) rfl hb15 rfl) rfl ?_)
      refine ⟨fun _ h => noneed (by kernel_rfl) h, ?_⟩
      refine zE rfl rfl (OpP_val (zA (v := (.bool (y7.Mother == y19.Mother))) rfl) rfl ?_)
      refine ⟨fun _ h => noneed (by kernel_rfl) h, ?_⟩
      refine zI ?_
      have hO : Owns G13 w12.drew w0.heap.size ([]) := hO
      have H := oi H; subst H
      exact ⟨_, G13, upds_self _ _ ⟨rfl, trivial⟩, Gle.refl _, hS, hO⟩
     ·have H := ifF hb18 H; refine zK rfl rfl hb18 rfl rfl rfl ?_; refine zK rfl rfl hb18 rfl rfl rfl ?_; refine zK rfl rfl hb18 rfl rfl rfl ?_; refine zK rfl rfl hb18 rfl rfl rfl ?_; refine zJ rfl rfl hb18 rfl rfl rfl (fun _ _ => ⟨hS.sat, trivial⟩) ?_; refine zJ rfl rfl hb18 rfl rfl rfl (fun _ _ => ⟨hS.sat, trivial⟩) ?_; refine zJ rfl rfl hb18 rfl rfl rfl (fun _ _ => ⟨hS.sat, trivial⟩) ?_; refine zJ rfl rfl hb18 rfl rfl rfl (fun _ _ => ⟨hS.sat, trivial⟩) ?_
      refine zJ rfl rfl hb18 rfl rfl rfl (fun _ h => noneed (by kernel_rfl) h) ?_
      refine WD_opY rfl rfl rfl hb17 rfl rfl (OpP_val (rn_pickF (v := (.bool false)) rfl hb18 rfl) rfl ?_)
      refine ⟨fun _ h => noneed (by kernel_rfl) h, ?_⟩
      refine WD_opY rfl rfl rfl hb15 rfl rfl (OpP_val (rn_pickF (v := (.bool false)) rfl hb17 rfl) rfl ?_)
      refine ⟨fun _ h => noneed (by kernel_rfl) h, ?_⟩
      refine zE rfl rfl (OpP_val (rn_pickT (v := (.bool false)) rfl hb15 rfl) rfl ?_)
      refine ⟨fun _ h => noneed (by kernel_rfl) h, ?_⟩
      refine zE rfl rfl (OpP_val (zA (v := (.bool false)) rfl) rfl ?_)
      refine ⟨fun _ h => noneed (by kernel_rfl) h, ?_⟩
      refine zI ?_
      have hO : Owns G13 w12.drew w0.heap.size ([]) := hO
      have H := oi H; subst H
      exact ⟨_, G13, upds_self _ _ ⟨rfl, trivial⟩, Gle.refl _, hS, hO⟩
  ·have H := ifF hb15 H; refine zK rfl rfl hb15 rfl rfl rfl ?_; refine zK rfl rfl hb15 rfl rfl rfl ?_; refine zJ rfl rfl hb15 rfl rfl rfl (fun _ _ => ⟨hS.sat, trivial⟩) ?_; refine zJ rfl rfl hb15 rfl rfl rfl (fun _ _ => ⟨hS.sat, trivial⟩) ?_; refine zJ rfl rfl hb15 rfl rfl rfl (fun _ _ => ⟨hS.sat, trivial⟩) ?_; refine WD_undefN rfl rfl rfl rfl rfl ?_; refine WD_undefN rfl rfl rfl rfl rfl ?_; refine WD_undefS rfl rfl rfl rfl rfl (fun _ _ => ⟨hS.sat, trivial⟩) ?_; refine WD_undefS rfl rfl rfl rfl rfl (fun _ _ => ⟨hS.sat, trivial⟩) ?_; refine zJ rfl rfl hb15 rfl rfl rfl (fun _ _ => ⟨hS.sat, trivial⟩) ?_; refine zJ rfl rfl hb15 rfl rfl rfl (fun _ _ => ⟨hS.sat, trivial⟩) ?_; refine WD_undefS rfl rfl rfl rfl rfl (fun _ _ => ⟨hS.sat, trivial⟩) ?_; refine WD_undefS rfl rfl rfl rfl rfl (fun _ _ => ⟨hS.sat, trivial⟩) ?_; refine WD_undefS rfl rfl rfl rfl rfl (fun _ _ => ⟨hS.sat, trivial⟩) ?_; refine WD_undefS rfl rfl rfl rfl rfl (fun _ _ => ⟨hS.sat, trivial⟩) ?_; refine WD_undefN rfl rfl rfl rfl rfl ?_; refine WD_undefN rfl rfl rfl rfl rfl ?_; refine WD_undefN rfl rfl rfl rfl rfl ?_; refine WD_undefN rfl rfl rfl rfl rfl ?_; refine WD_undefS rfl rfl rfl rfl rfl (fun _ _ => ⟨hS.sat, trivial⟩) ?_; refine WD_undefS rfl rfl rfl rfl rfl (fun _ _ => ⟨hS.sat, trivial⟩) ?_; refine WD_undefS rfl rfl rfl rfl rfl (fun _ _ => ⟨hS.sat, trivial⟩) ?_; refine WD_undefS rfl rfl rfl rfl rfl (fun _ _ => ⟨hS.sat, trivial⟩) ?_
   refine WD_undefS rfl rfl rfl rfl rfl (fun _ h => noneed (by kernel_rfl) h) ?_
   refine WD_undefS rfl rfl rfl rfl rfl (fun _ h => noneed (by kernel_rfl) h) ?_
   refine zJ rfl rfl hb15 rfl rfl rfl (fun _ h => noneed (by kernel_rfl) h) ?_
   refine zE rfl rfl (OpP_val (rn_pickF (v := (.bool false)) rfl hb15 rfl) rfl ?_)
   refine ⟨fun _ h => noneed (by kernel_rfl) h, ?_⟩
   refine zE rfl rfl (OpP_val (zA (v := (.bool false)) rfl) rfl ?_)
   refine ⟨fun _ h => noneed (by kernel_rfl) h, ?_⟩
   refine zI ?_
   have hO : Owns G13 w12.drew w0.heap.size ([]) := hO
   have H := oi H; subst H
   exact ⟨_, G13, upds_self _ _ ⟨rfl, trivial⟩, Gle.refl _, hS, hO⟩
 ·rintro F w21 ⟨Fb, G22, rfl, leG22, hS, hO⟩
  refine WC_ret ?_
  have H : some q14 = some r := H
  have H := oi H; subst H
  exact ⟨rfl, hS.below⟩
set_option maxHeartbeats 1000000 in
theorem f39_ok {G0 : Gm} {w0 : World} (hS0 : Sat G0 w0) {x0 : TLandBook} {a1 : Option Addr} {n1 c1 : Nat} {a2 : Option Addr} {n2 c2 : Nat} {a3 : Option Addr} {n3 c3 : Nat} {x1 : Int} (h1 : RSl RTLandPerson 2 G0 a1 n1 c1 x0.People) (h2 : RSl RTLandEvent 2 G0 a2 n2 c2 x0.Events) (h3 : RSl RTLandMemory 4 G0 a3 n3 c3 x0.Memories) {r : (List Int)} (H : f39 x0 x1 = some r) :
  Calls Tryd.prog 39 #[.agg #[.slice a1 n1 c1, .slice a2 n2 c2, .slice a3 n3 c3], .int .i64 x1] w0 (RetG G0 w0 (fun G v => ∃ (ra0 : Option Addr) (rn0 rc0 : Nat), v = .slice ra0 rn0 rc0 ∧ RSl RInt 1 G ra0 rn0 rc0 r)) := by
 have hS := Since.start hS0
 have hO : Owns G0 w0 w0.heap.size [] := Owns.nil (Nat.le_refl _)
 unfold f39 at H
 refine enter1 (N := 23) (shutG _ _ _) Tryd.func39 rfl rfl rfl rfl ?_; refine zS ?_; refine zO rfl (zW (v := fun b => .pointer (some ⟨b, 0, none⟩)) (cs := [.slice a1 n1 c1, .slice a2 n2 c2, .slice a3 n3 c3]) (e := 26) (rn_boxA rfl) hS.sat rfl (fun b4 G6 w5 hg hcb4 => ?_)); have hS := hS.grow hg; have hO := hO.grow hg
 have leG6 := hg.le
 refine zV (zA (v := (.slice none 0 0)) rfl) rfl ?_; refine zN ?_; refine zS ?_; refine zV (zA (v := (.slice none 0 0)) rfl) rfl ?_; refine zN ?_; refine zQ ?_; refine zS ?_; refine zV (zA (v := (.int .i64 0)) rfl) rfl ?_; refine zN ?_; have hO := hO.cons_nil 3 1; obtain ⟨q10, hq10, H⟩ := bnd H; refine zM (fun F w => ∃ (Fb : Fr) (G : Gm) (aq10_0 : Option Addr) (nq10_0 cq10_0 : Nat) (claq10_0 : List Value), F = upds Fb [(5, .slice aq10_0 nq10_0 cq10_0)] ∧ Gle G6 G ∧ Since w0.heap.size G0 w0 G w ∧ Owns G w w0.heap.size [⟨3, 1, nq10_0, .slice aq10_0 nq10_0 cq10_0, claq10_0⟩] ∧ nq10_0 = q10.length ∧ Rd RInt 1 G claq10_0 q10) ?_ ?_
 ·refine WC_block (WC_loop hq10 (fun s8 F w => ∃ (Fb : Fr) (G : Gm) (as8_0 : Option Addr) (ns8_0 cs8_0 : Nat) (clas8_0 : List Value), F = upds Fb [(1, .int .i64 x1), (2, .pointer (some ⟨b4, 0, none⟩)), (5, .slice as8_0 ns8_0 cs8_0), (6, .int .i64 s8.2)] ∧ Gle G6 G ∧ Since w0.heap.size G0 w0 G w ∧ Owns G w w0.heap.size [⟨3, 1, ns8_0, .slice as8_0 ns8_0 cs8_0, clas8_0⟩] ∧ ns8_0 = s8.1.length ∧ Rd RInt 1 G clas8_0 s8.1) ?_ ?_)
  ·have hO : Owns G6 w5 w0.heap.size ([⟨3, 1, 0, .slice none 0 0, []⟩]) := hO
   exact ⟨_, G6, none, 0, 0, [], upds_self _ _ ⟨rfl, rfl, rfl, rfl, trivial⟩, Gle.refl _, hS, hO, rfl, (Rd.nil RInt 1 G6)⟩
  ·rintro s8 F w12 t11 ⟨Fb, G13, as8_0, ns8_0, cs8_0, clas8_0, rfl, leG13, hS, hO, hnhs8_0, hs8_0⟩
   intro H1 hqq10
   have Hoq10 := H; have H := H1
   unfold f39_b0 at H
   refine zQ ?_; refine zS ?_; refine zV (zm (v := (.int .i64 s8.2)) rfl) rfl ?_; refine zV (zF fd26_0 rfl) rfl ?_; refine zV (zL na22 rfl ((hS.sat.le leG13).cell (hcb4 0 _ rfl))) rfl ?_
   have l0_2 := leG6.trans leG13
   refine zV (rn_len sl22 rfl rfl (h1.mono RTLandPerson_mono l0_2).1) rfl ?_; refine zV (rn_lss rfl rfl) rfl ?_; refine zN ?_; refine zT rfl (fun hb14 => ?_) (fun hb14 => ?_)
   ·have H := ifT hb14 H; refine zP ?_; refine zQ ?_; obtain ⟨q15, hq15, H⟩ := bnd H; refine zM (fun F w => ∃ (Fb : Fr) (G : Gm) (aq15_0 : Option Addr) (nq15_0 cq15_0 : Nat) (claq15_0 : List Value), F = upds Fb [(1, .int .i64 x1), (2, .pointer (some ⟨b4, 0, none⟩)), (5, .slice aq15_0 nq15_0 cq15_0), (6, .int .i64 s8.2)] ∧ Gle G13 G ∧ Since w0.heap.size G0 w0 G w ∧ Owns G w w0.heap.size [⟨3, 1, nq15_0, .slice aq15_0 nq15_0 cq15_0, claq15_0⟩] ∧ nq15_0 = q15.length ∧ Rd RInt 1 G claq15_0 q15) ?_ ?_
    ·have Hoq15 := H; have H := hq15; refine WC_block ?_; refine zS ?_; refine zV (rn_loadA ag26 (cs := [.slice a1 n1 c1, .slice a2 n2 c2, .slice a3 n3 c3]) rfl rfl (fun j v hj => (hS.sat.le leG13).cell (hcb4.drop_take 0 3 j v hj))) rfl ?_; refine zV (zm (v := (.int .i64 x1)) rfl) rfl ?_; refine zV (zm (v := (.int .i64 s8.2)) rfl) rfl ?_; obtain ⟨y16, hy16, H⟩ := bnd H; refine zO rfl (zC cb74 (f74_ok (x0 := x0) (x1 := x1) (x2 := s8.2) hS.sat (h1.mono RTLandPerson_mono l0_2) (h2.mono RTLandEvent_mono l0_2) (h3.mono RTLandMemory_mono l0_2) hy16) rfl rfl (fun w17 hb => ?_)); have hS := hS.keep hb; have hO := hO.below hb; refine zN ?_; refine zT rfl (fun hb18 => ?_) (fun hb18 => ?_)
     ·have H := ifT hb18 H; refine zR ?_; refine zV (zm (v := (.slice as8_0 ns8_0 cs8_0)) rfl) rfl ?_; refine zV (zm (v := (.int .i64 s8.2)) rfl) rfl ?_
      refine zO rfl (zW (v := fun b => .slice (some ⟨b, 0, none⟩) 1 1) (cs := [.int .i64 s8.2]) (e := 3) (by kernel_rfl) hS.sat rfl (fun b19 G21 w20 hg hcb19 => ?_))
      have hS := hS.grow hg; have hO := hO.grow hg
      have leG21 := hg.le
      have hfb19 : RSl RInt 1 G21 (some ⟨b19, 0, none⟩) 1 1 [s8.2] := RSl.of_rd hcb19 (Rd.cons (c := [.int .i64 s8.2]) rfl rfl (Rd.nil RInt 1 _)) rfl (by decide)
      obtain ⟨y22, hy22, H⟩ := bnd H; refine zO rfl (OpP_append (k := 0) sl29 RInt_one hS hO rfl hnhs8_0 (hs8_0.mono RInt_mono leG21) hfb19 hy22 rfl rfl rfl rfl rfl (fun aw23 cw23 w23 clw23 hS hO hrw23 => ?_))
      have hO : Owns G21 w23 w0.heap.size ([⟨3, 1, y22.length, .slice aw23 y22.length cw23, clw23⟩]) := hO
      refine zV (zA (v := (.slice aw23 y22.length cw23)) rfl) rfl ?_; refine zN ?_
      have hO : Owns G21 w23 w0.heap.size ([⟨3, 1, y22.length, .slice aw23 y22.length cw23, clw23⟩]) := hO
      have H := oi H; subst H
      exact ⟨_, G21, aw23, y22.length, cw23, clw23, upds_self _ _ ⟨rfl, rfl, rfl, rfl, trivial⟩, leG21, hS, hO, rfl, hrw23⟩
     ·have H := ifF hb18 H; refine zP ?_
      have hO : Owns G13 w17 w0.heap.size ([⟨3, 1, ns8_0, .slice as8_0 ns8_0 cs8_0, clas8_0⟩]) := hO
      have H := oi H; subst H
      exact ⟨_, G13, as8_0, ns8_0, cs8_0, clas8_0, upds_self _ _ ⟨rfl, rfl, rfl, rfl, trivial⟩, Gle.refl _, hS, hO, hnhs8_0, hs8_0⟩
    ·rintro F w24 ⟨Fb, G25, aq15_0, nq15_0, cq15_0, claq15_0, rfl, leG25, hS, hO, hnhq15_0, hq15_0⟩
     refine zR ?_; refine zV (zm (v := (.int .i64 s8.2)) rfl) rfl ?_; refine zV (rn_add rfl rfl) rfl ?_; refine zV (zA (v := (.int .i64 (IntKind.i64.wrap (s8.2 + 1)))) rfl) rfl ?_; refine zN ?_
     have hO : Owns G25 w24 w0.heap.size ([⟨3, 1, nq15_0, .slice aq15_0 nq15_0 cq15_0, claq15_0⟩]) := hO
     have H := oi H; subst H; refine ⟨_, rfl, ?_⟩
     have l1_3 := leG13.trans leG25
     exact ⟨_, G25, aq15_0, nq15_0, cq15_0, claq15_0, upds_self _ _ ⟨rfl, rfl, rfl, rfl, trivial⟩, l1_3, hS, hO, hnhq15_0, hq15_0⟩
   ·have H := ifF hb14 H; refine WC_exit rfl ?_
    have hO : Owns G13 w12 w0.heap.size ([⟨3, 1, ns8_0, .slice as8_0 ns8_0 cs8_0, clas8_0⟩]) := hO
    have H := oi H; subst H
    have hres := hqq10 _ rfl
    subst hres
    exact ⟨_, G13, as8_0, ns8_0, cs8_0, clas8_0, upds_self _ _ ⟨rfl, trivial⟩, leG13, hS, hO, hnhs8_0, hs8_0⟩
 ·rintro F w26 ⟨Fb, G27, aq10_0, nq10_0, cq10_0, claq10_0, rfl, leG27, hS, hO, hnhq10_0, hq10_0⟩
  refine zS ?_; refine zV (zm (v := (.slice aq10_0 nq10_0 cq10_0)) rfl) rfl ?_; refine zV (zA (v := (.slice aq10_0 nq10_0 cq10_0)) rfl) rfl ?_; refine zN ?_; refine WC_ret ?_; obtain ⟨G28, leG28, hS, hO, hfG28⟩ := hO.freezeS hS RInt_mono (k := 0) rfl hq10_0 hnhq10_0
  have H : some q10 = some r := H
  have H := oi H; subst H
  exact ⟨_, _, rfl, hS.toGrow, _, _, _, rfl, hfG28⟩
set_option maxHeartbeats 1000000 in
theorem f46_ok {G0 : Gm} {w0 : World} (hS0 : Sat G0 w0) {x0 : TLandBook} {a1 : Option Addr} {n1 c1 : Nat} {a2 : Option Addr} {n2 c2 : Nat} {a3 : Option Addr} {n3 c3 : Nat} {x1 : Int} {x2 : Int} (h1 : RSl RTLandPerson 2 G0 a1 n1 c1 x0.People) (h2 : RSl RTLandEvent 2 G0 a2 n2 c2 x0.Events) (h3 : RSl RTLandMemory 4 G0 a3 n3 c3 x0.Memories) {r : TSpan} (H : f46 x0 x1 x2 = some r) :
  Calls Tryd.prog 46 #[.agg #[.slice a1 n1 c1, .slice a2 n2 c2, .slice a3 n3 c3], .int .i64 x1, .int .i64 x2] w0 (RetV w0 (.agg #[.int .i64 r.Low, .int .i64 r.High])) := by
 have hS := Since.start hS0
 have hO : Owns G0 w0 w0.heap.size [] := Owns.nil (Nat.le_refl _)
 unfold f46 at H
 refine enterG (N := 26) (shutV _ _) [.cell 6 44] Tryd.func46 rfl rfl rfl rfl ?_; refine zS ?_; refine zO rfl (zW (v := fun b => .pointer (some ⟨b, 0, none⟩)) (cs := [.slice a1 n1 c1, .slice a2 n2 c2, .slice a3 n3 c3]) (e := 26) (rn_boxA rfl) hS.sat rfl (fun b4 G6 w5 hg hcb4 => ?_)); have hS := hS.grow hg; have hO := hO.grow hg
 have leG6 := hg.le
 refine zO rfl (zU (v := fun b => .pointer (some ⟨b, 0, none⟩)) (cs := [.int .i64 0, .int .i64 0]) (e := 44) (by kernel_rfl) hS.sat hO rfl 2 1 rfl (by decide) (fun b7 w8 hb hO => ?_))
 have hS := hS.keep hb; refine zN ?_; refine zS ?_; refine zV (rn_loadA ag26 (cs := [.slice a1 n1 c1, .slice a2 n2 c2, .slice a3 n3 c3]) rfl rfl (fun j v hj => hS.sat.cell (hcb4.drop_take 0 3 j v hj))) rfl ?_; obtain ⟨y10, hy10, H⟩ := bnd H; refine zO rfl (OpP_callG cb61 (f61_ok (x0 := x0) hS.sat (h1.mono RTLandPerson_mono leG6) (h2.mono RTLandEvent_mono leG6) (h3.mono RTLandMemory_mono leG6) hy10) rfl rfl (fun vy10 G12 w11 hg hvy10 => ?_)); obtain ⟨a13, n13, c13, ⟨⟩, h13⟩ := hvy10; have hS := hS.grow hg; have hO := hO.grow hg
 have leG12 := hg.le
 refine zV (zA (v := (.slice a13 n13 c13)) rfl) rfl ?_; refine zN ?_; refine zQ ?_; have hS := hS.keep (below_drew _); have hO := hO.below (below_drew _)
 refine WC_regionD mixedO (fun _ w => Sat G12 w ∧ Owns G12 w w0.heap.size [⟨44, 2, 1, .slice (some ⟨b7, 0, none⟩) 1 1, [.int .i64 0, .int .i64 0]⟩]) (.fl 0 (.fl 1 (.fl 2 (.fl 3 (.fl 4 (.fl 5 (.fl 6 (.fl 7 (.fl 8 (.fl 9 (.fl 10 (.fl 11 (.on 12 (.on 13 (.on 14 (.on 15 (.on 16 .nil))))))))))))))))) (by kernel_rfl) rfl (by kernel_rfl) (fun _ => ⟨hS.sat, hO⟩) ?_
 refine zD rfl (fun w hw => zm (v := (.slice a13 n13 c13)) rfl) rfl ?_; refine zD rfl (fun w hw => zm (v := (.int .i64 x2)) rfl) rfl ?_; obtain ⟨y14, hy14, H⟩ := bnd H; refine WD_idx rfl sl86 h13 hy14 rfl rfl rfl ?_
 rintro b15 o15 _ hcb15 _ ⟨a16, n16, c16, ⟨⟩, h16⟩
 refine zD rfl (fun w hw => zL na29 rfl (hw.1.cell (hcb15 0 _ rfl))) rfl ?_; refine zD rfl (fun w hw => zm (v := (.int .i64 x1)) rfl) rfl ?_; obtain ⟨y17, hy17, H⟩ := bnd H; refine WD_idx rfl sl29 h16 hy17 rfl rfl rfl ?_
 rintro b18 o18 _ hcb18 _ ⟨⟩
 refine zD rfl (fun w hw => zL na3 rfl (hw.1.cell (hcb18 0 _ rfl))) rfl ?_; refine zD rfl (fun w hw => rn_neg rfl) rfl ?_; refine zD rfl (fun w hw => zm (v := (.slice a13 n13 c13)) rfl) rfl ?_; refine zD rfl (fun w hw => zm (v := (.int .i64 x1)) rfl) rfl ?_; obtain ⟨y19, hy19, H⟩ := bnd H; refine WD_idx rfl sl86 h13 hy19 rfl rfl rfl ?_
 rintro b20 o20 _ hcb20 _ ⟨a21, n21, c21, ⟨⟩, h21⟩
 refine zD rfl (fun w hw => zL na29 rfl (hw.1.cell (hcb20 0 _ rfl))) rfl ?_; refine zE rfl rfl (OpP_val (zm (v := (.int .i64 x2)) rfl) rfl ?_); refine ⟨fun _ _ => ⟨hS.sat, hO⟩, ?_⟩; obtain ⟨y22, hy22, H⟩ := bnd H; refine zE rfl rfl (OpP_idx sl29 h21 hy22 rfl rfl rfl ?_)
 rintro b23 o23 _ hcb23 _ ⟨⟩
 refine ⟨fun _ _ => ⟨hS.sat, hO⟩, ?_⟩; refine zE rfl rfl (OpP_val (zL na3 rfl (hS.sat.cell (hcb23 0 _ rfl))) rfl ?_); refine ⟨fun _ _ => ⟨hS.sat, hO⟩, ?_⟩
 refine zE rfl rfl (OpP_val (v := (.agg #[.int .i64 (IntKind.i64.wrap (0 - y17)), .int .i64 y22])) (by kernel_rfl) rfl ?_)
 refine ⟨fun _ h => noneed (by kernel_rfl) h, ?_⟩
 refine zE rfl rfl (OpP_store (vs := [.int .i64 (IntKind.i64.wrap (0 - y17)), .int .i64 y22]) sz44 hS hO (k := 0) rfl rfl rfl rfl rfl (one_all rfl) (Nat.le_of_ble_eq_true rfl) (fun w24 hS hO => ?_))
 have hO : Owns G12 w24 w0.heap.size ([⟨44, 2, 1, .slice (some ⟨b7, 0, none⟩) 1 1, [.int .i64 (IntKind.i64.wrap (0 - y17)), .int .i64 y22]⟩]) := hO
 obtain ⟨G25, leG25, hS, hO, hqG25, _⟩ := hO.freeze hS (k := 0) rfl
 have hcG25 : Cells G25 b7 0 [.int .i64 (IntKind.i64.wrap (0 - y17)), .int .i64 y22] := (hqG25 _ _ _ _ rfl)
 refine ⟨fun _ h => noneed (by kernel_rfl) h, ?_⟩
 refine zI ?_; refine WC_ret ?_
 have H : some (⟨IntKind.i64.wrap (0 - y17), y22⟩ : TSpan) = some r := H
 have H := oi H; subst H
 exact ⟨[.agg #[.int .i64 (IntKind.i64.wrap (0 - y17)), .int .i64 y22]], ⟨⟨_, rfl, ld_agg (cs := [.int .i64 (IntKind.i64.wrap (0 - y17)), .int .i64 y22]) ag44 rfl (fun j v hj => hS.sat.cell (hcG25 j v hj))⟩, trivial⟩, ⟨rfl, hS.below⟩⟩
set_option maxHeartbeats 1000000 in
theorem f40_ok {G0 : Gm} {w0 : World} (hS0 : Sat G0 w0) {x0 : TLandBook} {a1 : Option Addr} {n1 c1 : Nat} {a2 : Option Addr} {n2 c2 : Nat} {a3 : Option Addr} {n3 c3 : Nat} {x1 : Int} (h1 : RSl RTLandPerson 2 G0 a1 n1 c1 x0.People) (h2 : RSl RTLandEvent 2 G0 a2 n2 c2 x0.Events) (h3 : RSl RTLandMemory 4 G0 a3 n3 c3 x0.Memories) {r : (List Int) × Bool} (H : f40 x0 x1 = some r) :
  Calls Tryd.prog 40 #[.agg #[.slice a1 n1 c1, .slice a2 n2 c2, .slice a3 n3 c3], .int .i64 x1] w0 (RetG G0 w0 (fun G v => ∃ (ra0 : Option Addr) (rn0 rc0 : Nat), v = .tuple #[.slice ra0 rn0 rc0, .bool r.2] ∧ RSl RInt 1 G ra0 rn0 rc0 r.1)) := by
 have hS := Since.start hS0
 have hO : Owns G0 w0 w0.heap.size [] := Owns.nil (Nat.le_refl _)
 unfold f40 at H
 refine enter2 (N := 79) (shutG _ _ _) Tryd.func40 rfl rfl rfl rfl ?_; refine zS ?_; refine zO rfl (zW (v := fun b => .pointer (some ⟨b, 0, none⟩)) (cs := [.slice a1 n1 c1, .slice a2 n2 c2, .slice a3 n3 c3]) (e := 26) (rn_boxA rfl) hS.sat rfl (fun b4 G6 w5 hg hcb4 => ?_)); have hS := hS.grow hg; have hO := hO.grow hg
 have leG6 := hg.le
 refine zV (zA (v := (.slice none 0 0)) rfl) rfl ?_; refine zV (zA (v := (.bool false)) rfl) rfl ?_; refine zN ?_; refine zS ?_; refine zV (rn_loadA ag26 (cs := [.slice a1 n1 c1, .slice a2 n2 c2, .slice a3 n3 c3]) rfl rfl (fun j v hj => hS.sat.cell (hcb4.drop_take 0 3 j v hj))) rfl ?_; obtain ⟨y7, hy7, H⟩ := bnd H; refine zO rfl (OpP_callG cb32 (f32_ok (x0 := x0) hS.sat (h1.mono RTLandPerson_mono leG6) (h2.mono RTLandEvent_mono leG6) (h3.mono RTLandMemory_mono leG6) hy7) rfl rfl (fun vy7 G9 w8 hg hvy7 => ?_)); obtain ⟨a10, n10, c10, ⟨⟩, h10⟩ := hvy7; have hS := hS.grow hg; have hO := hO.grow hg
 have leG9 := hg.le
 refine zV (zA (v := (.slice a10 n10 c10)) rfl) rfl ?_; refine zN ?_; refine zS ?_; refine zV (zA (v := (.slice none 0 0)) rfl) rfl ?_; refine zN ?_; refine zQ ?_; refine zS ?_; refine zV (zA (v := (.int .i64 0)) rfl) rfl ?_; refine zN ?_; obtain ⟨q13, hq13, H⟩ := bnd H; refine zM (fun F w => ∃ (Fb : Fr) (G : Gm) (aq13_0 : Option Addr) (nq13_0 cq13_0 : Nat), F = upds Fb [(2, .pointer (some ⟨b4, 0, none⟩)), (7, .slice aq13_0 nq13_0 cq13_0)] ∧ Gle G9 G ∧ Since w0.heap.size G0 w0 G w ∧ Owns G w w0.heap.size [] ∧ RSl RInt 1 G aq13_0 nq13_0 cq13_0 q13) ?_ ?_
 ·refine WC_block (WC_loop hq13 (fun s11 F w => ∃ (Fb : Fr) (G : Gm) (as11_0 : Option Addr) (ns11_0 cs11_0 : Nat), F = upds Fb [(1, .int .i64 x1), (2, .pointer (some ⟨b4, 0, none⟩)), (6, .slice a10 n10 c10), (7, .slice as11_0 ns11_0 cs11_0), (8, .int .i64 s11.2)] ∧ Gle G9 G ∧ Since w0.heap.size G0 w0 G w ∧ Owns G w w0.heap.size [] ∧ RSl RInt 1 G as11_0 ns11_0 cs11_0 s11.1) ?_ ?_)
  ·have hO : Owns G9 w8 w0.heap.size ([]) := hO
   exact ⟨_, G9, none, 0, 0, upds_self _ _ ⟨rfl, rfl, rfl, rfl, rfl, trivial⟩, Gle.refl _, hS, hO, (RSl.nil _ _ _ _)⟩
  ·rintro s11 F w15 t14 ⟨Fb, G16, as11_0, ns11_0, cs11_0, rfl, leG16, hS, hO, hs11_0⟩
   intro H1 hqq13
   have Hoq13 := H; have H := H1
   unfold f40_b0 at H
   refine zQ ?_; refine zS ?_; refine zV (zm (v := (.int .i64 s11.2)) rfl) rfl ?_; refine zV (zF fd26_1 rfl) rfl ?_
   have l1_3 := leG9.trans leG16
   refine zV (zL na23 rfl ((hS.sat.le l1_3).cell (hcb4 1 _ rfl))) rfl ?_
   have l0_3 := leG6.trans l1_3
   refine zV (rn_len sl23 rfl rfl (h2.mono RTLandEvent_mono l0_3).1) rfl ?_; refine zV (rn_lss rfl rfl) rfl ?_; refine zN ?_; refine zT rfl (fun hb17 => ?_) (fun hb17 => ?_)
   ·have H := ifT hb17 H; refine zP ?_; refine zQ ?_; obtain ⟨q18, hq18, H⟩ := bnd H; refine zM (fun F w => ∃ (Fb : Fr) (G : Gm) (aq18_0 : Option Addr) (nq18_0 cq18_0 : Nat), F = upds Fb [(1, .int .i64 x1), (2, .pointer (some ⟨b4, 0, none⟩)), (6, .slice a10 n10 c10), (7, .slice aq18_0 nq18_0 cq18_0), (8, .int .i64 s11.2)] ∧ Gle G16 G ∧ Since w0.heap.size G0 w0 G w ∧ Owns G w w0.heap.size [] ∧ RSl RInt 1 G aq18_0 nq18_0 cq18_0 q18) ?_ ?_
    ·have Hoq18 := H; have H := hq18; refine WC_block ?_; refine zQ ?_; refine zS ?_; refine zV (zF fd26_1 rfl) rfl ?_; refine zV (zL na23 rfl ((hS.sat.le l1_3).cell (hcb4 1 _ rfl))) rfl ?_; refine zV (zm (v := (.int .i64 s11.2)) rfl) rfl ?_; obtain ⟨y19, hy19, H⟩ := bnd H; refine WL_idx sl23 (h2.mono RTLandEvent_mono l0_3) hy19 rfl rfl rfl ?_
     rintro b20 o20 _ hcb20 _ ⟨⟩
     refine zV (zF fd69_0 rfl) rfl ?_; refine zV (zL na3 rfl (hS.sat.cell (hcb20 0 _ rfl))) rfl ?_; refine zV (zm (v := (.int .i64 x1)) rfl) rfl ?_; refine zV (rn_neq rfl rfl) rfl ?_; refine zN ?_; refine zT rfl (fun hb21 => ?_) (fun hb21 => ?_)
     ·have H := ifT hb21 H; refine WC_exit rfl ?_
      have hO : Owns G16 w15 w0.heap.size ([]) := hO
      have H := oi H; subst H
      exact ⟨_, G16, as11_0, ns11_0, cs11_0, upds_self _ _ ⟨rfl, rfl, rfl, rfl, rfl, trivial⟩, Gle.refl _, hS, hO, hs11_0⟩
     ·have H := ifF hb21 H; refine zP ?_; refine zS ?_; refine zV (zA (v := (.int .i64 0)) rfl) rfl ?_; refine zN ?_; refine zQ ?_; obtain ⟨q24, hq24, H⟩ := bnd H; refine zM (fun F w => ∃ (Fb : Fr) (G : Gm), F = upds Fb [(1, .int .i64 x1), (2, .pointer (some ⟨b4, 0, none⟩)), (6, .slice a10 n10 c10), (7, .slice as11_0 ns11_0 cs11_0), (8, .int .i64 s11.2), (9, .int .i64 q24)] ∧ Gle G16 G ∧ Since w0.heap.size G0 w0 G w ∧ Owns G w w0.heap.size []) ?_ ?_
      ·refine WC_block (WC_loop hq24 (fun s22 F w => ∃ (Fb : Fr) (G : Gm), F = upds Fb [(1, .int .i64 x1), (2, .pointer (some ⟨b4, 0, none⟩)), (6, .slice a10 n10 c10), (7, .slice as11_0 ns11_0 cs11_0), (8, .int .i64 s11.2), (9, .int .i64 s22)] ∧ Gle G16 G ∧ Since w0.heap.size G0 w0 G w ∧ Owns G w w0.heap.size []) ?_ ?_)
       ·have hO : Owns G16 w15 w0.heap.size ([]) := hO
        exact ⟨_, G16, upds_self _ _ ⟨rfl, rfl, rfl, rfl, rfl, rfl, trivial⟩, Gle.refl _, hS, hO⟩
       ·rintro s22 F w26 t25 ⟨Fb, G27, rfl, leG27, hS, hO⟩
        intro H1 hqq24
        have Hoq24 := H; have H := H1
        unfold f40_b1 at H
        refine zQ ?_; refine zQ ?_; obtain ⟨q28, hq28, H⟩ := bnd H; refine zM (fun F w => ∃ (Fb : Fr) (G : Gm), F = upds Fb [(1, .int .i64 x1), (2, .pointer (some ⟨b4, 0, none⟩)), (6, .slice a10 n10 c10), (7, .slice as11_0 ns11_0 cs11_0), (8, .int .i64 s11.2), (9, .int .i64 s22), (45, .bool q28)] ∧ Gle G27 G ∧ Since w0.heap.size G0 w0 G w ∧ Owns G w w0.heap.size []) ?_ ?_
        ·have Hoq28 := H; have H := hq28; have hS := hS.keep (below_drew _); have hO := hO.below (below_drew _)
         refine WC_regionD mixedO (fun _ w => Sat G27 w ∧ True) (.fl 0 (.on 1 (.on 2 (.on 3 (.on 4 (.fl 5 (.fl 6 (.fl 7 (.fl 8 (.fl 9 (.fl 10 (.fl 11 (.fl 12 (.on 13 (.on 14 (.on 15 (.on 16 (.on 17 .nil)))))))))))))))))) (by kernel_rfl) rfl (by kernel_rfl) (fun _ => ⟨hS.sat, trivial⟩) ?_
         refine zD rfl (fun w hw => zm (v := (.int .i64 s22)) rfl) rfl ?_; refine zE rfl rfl (OpP_val (zm (v := (.slice as11_0 ns11_0 cs11_0)) rfl) rfl ?_); refine ⟨fun _ _ => ⟨hS.sat, trivial⟩, ?_⟩; refine zE rfl rfl (OpP_val (rn_len sl29 rfl rfl (hs11_0.mono RInt_mono leG27).1) rfl ?_); refine ⟨fun _ _ => ⟨hS.sat, trivial⟩, ?_⟩; refine zE rfl rfl (OpP_val (rn_lss rfl rfl) rfl ?_); refine ⟨fun _ _ => ⟨hS.sat, trivial⟩, ?_⟩; refine zE rfl rfl (OpP_val (zm (v := (.bool (decide (s22 < (s11.1.length : Int))))) rfl) rfl ?_); refine ⟨fun _ _ => ⟨hS.sat, trivial⟩, ?_⟩
         rcases bcases (decide (s22 < (s11.1.length : Int))) with hb29 | hb29
         ·have H := ifT hb29 H; refine zB rfl rfl hb29 rfl rfl (fun w hw => zm (v := (.slice a10 n10 c10)) rfl) rfl ?_; refine zB rfl rfl hb29 rfl rfl (fun w hw => zm (v := (.slice as11_0 ns11_0 cs11_0)) rfl) rfl ?_; refine zB rfl rfl hb29 rfl rfl (fun w hw => zm (v := (.int .i64 s22)) rfl) rfl ?_; obtain ⟨y30, hy30, H⟩ := bnd H; refine WD_idxY rfl rfl hb29 rfl rfl sl29 (hs11_0.mono RInt_mono leG27) hy30 rfl rfl rfl ?_
          rintro b31 o31 _ hcb31 _ ⟨⟩
          refine zB rfl rfl hb29 rfl rfl (fun w hw => zL na3 rfl (hw.1.cell (hcb31 0 _ rfl))) rfl ?_; obtain ⟨y32, hy32, H⟩ := bnd H
          have l2_4 := leG16.trans leG27
          refine WD_idxY rfl rfl hb29 rfl rfl sl29 (h10.mono RInt_mono l2_4) hy32 rfl rfl rfl ?_
          rintro b33 o33 _ hcb33 _ ⟨⟩
          refine zB rfl rfl hb29 rfl rfl (fun w hw => zL na3 rfl (hw.1.cell (hcb33 0 _ rfl))) rfl ?_; refine zB rfl rfl hb29 rfl rfl (fun w hw => zm (v := (.slice a10 n10 c10)) rfl) rfl ?_; refine WD_opY rfl rfl rfl hb29 rfl rfl (OpP_val (zm (v := (.int .i64 s11.2)) rfl) rfl ?_); refine ⟨fun _ _ => ⟨hS.sat, trivial⟩, ?_⟩; obtain ⟨y34, hy34, H⟩ := bnd H; refine WD_opY rfl rfl rfl hb29 rfl rfl (OpP_idx sl29 (h10.mono RInt_mono l2_4) hy34 rfl rfl rfl ?_)
          rintro b35 o35 _ hcb35 _ ⟨⟩
          refine ⟨fun _ _ => ⟨hS.sat, trivial⟩, ?_⟩; refine WD_opY rfl rfl rfl hb29 rfl rfl (OpP_val (zL na3 rfl (hS.sat.cell (hcb35 0 _ rfl))) rfl ?_); refine ⟨fun _ _ => ⟨hS.sat, trivial⟩, ?_⟩; refine WD_opY rfl rfl rfl hb29 rfl rfl (OpP_val (rn_lss rfl rfl) rfl ?_)
          refine ⟨fun _ h => noneed (by kernel_rfl) h, ?_⟩
          refine zE rfl rfl (OpP_val (rn_pickT (v := (.bool (decide (y32 < y34)))) rfl hb29 rfl) rfl ?_)
          refine ⟨fun _ h => noneed (by kernel_rfl) h, ?_⟩
          refine zI ?_
          have hO : Owns G27 w26.drew w0.heap.size ([]) := hO
          have H := oi H; subst H
          exact ⟨_, G27, upds_self _ _ ⟨rfl, rfl, rfl, rfl, rfl, rfl, rfl, trivial⟩, Gle.refl _, hS, hO⟩
         ·have H := ifF hb29 H; refine zK rfl rfl hb29 rfl rfl rfl ?_; refine zK rfl rfl hb29 rfl rfl rfl ?_; refine zK rfl rfl hb29 rfl rfl rfl ?_; refine zK rfl rfl hb29 rfl rfl rfl ?_; refine zK rfl rfl hb29 rfl rfl rfl ?_; refine zK rfl rfl hb29 rfl rfl rfl ?_; refine zK rfl rfl hb29 rfl rfl rfl ?_; refine zK rfl rfl hb29 rfl rfl rfl ?_; refine zJ rfl rfl hb29 rfl rfl rfl (fun _ _ => ⟨hS.sat, trivial⟩) ?_; refine zJ rfl rfl hb29 rfl rfl rfl (fun _ _ => ⟨hS.sat, trivial⟩) ?_; refine zJ rfl rfl hb29 rfl rfl rfl (fun _ _ => ⟨hS.sat, trivial⟩) ?_
          refine zJ rfl rfl hb29 rfl rfl rfl (fun _ h => noneed (by kernel_rfl) h) ?_
          refine zE rfl rfl (OpP_val (rn_pickF (v := (.bool false)) rfl hb29 rfl) rfl ?_)
          refine ⟨fun _ h => noneed (by kernel_rfl) h, ?_⟩
          refine zI ?_
          have hO : Owns G27 w26.drew w0.heap.size ([]) := hO
          have H := oi H; subst H
          exact ⟨_, G27, upds_self _ _ ⟨rfl, rfl, rfl, rfl, rfl, rfl, rfl, trivial⟩, Gle.refl _, hS, hO⟩
        ·rintro F w36 ⟨Fb, G37, rfl, leG37, hS, hO⟩
         refine zT rfl (fun hb38 => ?_) (fun hb38 => ?_)
         ·have H := ifT hb38 H; refine zP ?_; refine WC_block ?_; refine zR ?_; refine zV (zm (v := (.int .i64 s22)) rfl) rfl ?_; refine zV (rn_add rfl rfl) rfl ?_; refine zV (zA (v := (.int .i64 (IntKind.i64.wrap (s22 + 1)))) rfl) rfl ?_; refine zN ?_
          have hO : Owns G37 w36 w0.heap.size ([]) := hO
          have H := oi H; subst H; refine ⟨_, rfl, ?_⟩
          have l3_5 := leG27.trans leG37
          exact ⟨_, G37, upds_self _ _ ⟨rfl, rfl, rfl, rfl, rfl, rfl, trivial⟩, l3_5, hS, hO⟩
         ·have H := ifF hb38 H; refine WC_exit rfl ?_
          have hO : Owns G37 w36 w0.heap.size ([]) := hO
          have H := oi H; subst H
          have hres := hqq24 _ rfl
          subst hres
          have l3_5 := leG27.trans leG37
          exact ⟨_, G37, upds_self _ _ ⟨rfl, rfl, rfl, rfl, rfl, rfl, trivial⟩, l3_5, hS, hO⟩
      ·rintro F w39 ⟨Fb, G40, rfl, leG40, hS, hO⟩
       have hS := hS.keep (below_drew _); have hO := hO.below (below_drew _)
       refine WC_regionD mixedO (fun _ w => Sat G40 w ∧ True) (.fl 0 (.fl 1 (.fl 2 (.fl 4 (.fl 7 (.fl 8 (.fl 9 (.two 3 (.on 5 (.on 6 (.on 10 (.on 11 .nil)))) 5 (.on 3 (.on 6 (.on 10 (.on 11 .nil)))))))))))) (by kernel_rfl) rfl (by kernel_rfl) (fun _ => ⟨hS.sat, trivial⟩) ?_
       refine zD rfl (fun w hw => zm (v := (.slice as11_0 ns11_0 cs11_0)) rfl) rfl ?_; refine zD rfl (fun w hw => zm (v := (.int .i64 q24)) rfl) rfl ?_; obtain ⟨y41, hy41, H⟩ := bnd H; obtain ⟨hl0, hl1, hl2, _⟩ := subL_some hy41
       have hln := (hs11_0.mono RInt_mono leG40).1
       have hnc := (hs11_0.mono RInt_mono leG40).2.1.2
       obtain ⟨ay41, ny41, cy41, hsl, hsy41⟩ := RSl.sub (hs11_0.mono RInt_mono leG40) hy41 rfl
       refine zD (v := (.slice ay41 ny41 cy41)) rfl (fun w hw => (rn_sliceH sl29 rfl rfl (by omega) (by omega) hnc _).trans (congrArg (fun v => Result.ok (Next.value v) _) hsl)) rfl ?_
       refine zD rfl (fun w hw => zm (v := (.int .i64 s11.2)) rfl) rfl ?_; refine zD rfl (fun w hw => zm (v := (.slice as11_0 ns11_0 cs11_0)) rfl) rfl ?_; refine zD rfl (fun w hw => zm (v := (.int .i64 q24)) rfl) rfl ?_; obtain ⟨y42, hy42, H⟩ := bnd H; obtain ⟨hl0, hl1, hl2, _⟩ := subL_some hy42
       have hln := (hs11_0.mono RInt_mono leG40).1
       have hnc := (hs11_0.mono RInt_mono leG40).2.1.2
       obtain ⟨ay42, ny42, cy42, hsl, hsy42⟩ := RSl.sub (hs11_0.mono RInt_mono leG40) hy42 (q := ns11_0) ((Int.toNat_natCast _).trans hln.symm)
       refine zD (v := (.slice ay42 ny42 cy42)) rfl (fun w hw => (rn_sliceL sl29 rfl rfl hl0 (by omega) _).trans (congrArg (fun v => Result.ok (Next.value v) _) hsl)) rfl ?_
       refine WD_two ?_ ?_
       ·have hO := hO.cons_nil 3 1; obtain ⟨y44, hy44, H⟩ := bnd H; refine zE rfl rfl (OpP_append (k := 0) sl29 RInt_one hS hO rfl rfl (Rd.nil RInt 1 G40) hsy41 hy44 rfl rfl rfl rfl rfl (fun aw45 cw45 w45 clw45 hS hO hrw45 => ?_))
        have hO : Owns G40 w45 w0.heap.size ([⟨3, 1, y44.length, .slice aw45 y44.length cw45, clw45⟩]) := hO
        refine ⟨fun _ _ => ⟨hS.sat, trivial⟩, ?_⟩
        refine zE rfl rfl (zW (v := fun b => .slice (some ⟨b, 0, none⟩) 1 1) (cs := [.int .i64 s11.2]) (e := 3) (by kernel_rfl) hS.sat rfl (fun b46 G48 w47 hg hcb46 => ?_))
        have hS := hS.grow hg; have hO := hO.grow hg
        have leG48 := hg.le
        have hfb46 : RSl RInt 1 G48 (some ⟨b46, 0, none⟩) 1 1 [s11.2] := RSl.of_rd hcb46 (Rd.cons (c := [.int .i64 s11.2]) rfl rfl (Rd.nil RInt 1 _)) rfl (by decide)
        refine ⟨fun _ _ => ⟨hS.sat.le leG48, trivial⟩, ?_⟩; obtain ⟨y49, hy49, H⟩ := bnd H; refine zE rfl rfl (OpP_append (k := 0) sl29 RInt_one hS hO rfl rfl (hrw45.mono RInt_mono leG48) hfb46 hy49 rfl rfl rfl rfl rfl (fun aw50 cw50 w50 clw50 hS hO hrw50 => ?_))
        have hO : Owns G48 w50 w0.heap.size ([⟨3, 1, y49.length, .slice aw50 y49.length cw50, clw50⟩]) := hO
        refine ⟨fun _ _ => ⟨hS.sat.le leG48, trivial⟩, ?_⟩; obtain ⟨y51, hy51, H⟩ := bnd H; refine zE rfl rfl (OpP_append (k := 0) sl29 RInt_one hS hO rfl rfl hrw50 (hsy42.mono RInt_mono leG48) hy51 rfl rfl rfl rfl rfl (fun aw52 cw52 w52 clw52 hS hO hrw52 => ?_))
        have hO : Owns G48 w52 w0.heap.size ([⟨3, 1, y51.length, .slice aw52 y51.length cw52, clw52⟩]) := hO
        refine ⟨fun _ h => noneed (by kernel_rfl) h, ?_⟩
        refine zE rfl rfl (OpP_val (zA (v := (.slice aw52 y51.length cw52)) rfl) rfl ?_)
        refine ⟨fun _ h => noneed (by kernel_rfl) h, ?_⟩
        refine zI ?_; obtain ⟨G53, leG53, hS, hO, hfG53⟩ := hO.freezeS hS RInt_mono (k := 0) rfl hrw52 rfl
        have hO : Owns G53 w52 w0.heap.size ([]) := hO
        have H := oi H; subst H
        have l3_6 := (leG40.trans leG48).trans leG53
        exact ⟨_, G53, aw52, y51.length, cw52, upds_self _ _ ⟨rfl, rfl, rfl, rfl, rfl, trivial⟩, l3_6, hS, hO, hfG53⟩
       ·refine zE rfl rfl (zW (v := fun b => .slice (some ⟨b, 0, none⟩) 1 1) (cs := [.int .i64 s11.2]) (e := 3) (by kernel_rfl) hS.sat rfl (fun b43 G45 w44 hg hcb43 => ?_))
        have hS := hS.grow hg; have hO := hO.grow hg
        have leG45 := hg.le
        have hfb43 : RSl RInt 1 G45 (some ⟨b43, 0, none⟩) 1 1 [s11.2] := RSl.of_rd hcb43 (Rd.cons (c := [.int .i64 s11.2]) rfl rfl (Rd.nil RInt 1 _)) rfl (by decide)
        refine ⟨fun _ _ => ⟨hS.sat.le leG45, trivial⟩, ?_⟩; have hO := hO.cons_nil 3 1; obtain ⟨y47, hy47, H⟩ := bnd H; refine zE rfl rfl (OpP_append (k := 0) sl29 RInt_one hS hO rfl rfl (Rd.nil RInt 1 G45) (hsy41.mono RInt_mono leG45) hy47 rfl rfl rfl rfl rfl (fun aw48 cw48 w48 clw48 hS hO hrw48 => ?_))
        have hO : Owns G45 w48 w0.heap.size ([⟨3, 1, y47.length, .slice aw48 y47.length cw48, clw48⟩]) := hO
        refine ⟨fun _ _ => ⟨hS.sat.le leG45, trivial⟩, ?_⟩; obtain ⟨y49, hy49, H⟩ := bnd H; refine zE rfl rfl (OpP_append (k := 0) sl29 RInt_one hS hO rfl rfl hrw48 hfb43 hy49 rfl rfl rfl rfl rfl (fun aw50 cw50 w50 clw50 hS hO hrw50 => ?_))
        have hO : Owns G45 w50 w0.heap.size ([⟨3, 1, y49.length, .slice aw50 y49.length cw50, clw50⟩]) := hO
        refine ⟨fun _ _ => ⟨hS.sat.le leG45, trivial⟩, ?_⟩; obtain ⟨y51, hy51, H⟩ := bnd H; refine zE rfl rfl (OpP_append (k := 0) sl29 RInt_one hS hO rfl rfl hrw50 (hsy42.mono RInt_mono leG45) hy51 rfl rfl rfl rfl rfl (fun aw52 cw52 w52 clw52 hS hO hrw52 => ?_))
        have hO : Owns G45 w52 w0.heap.size ([⟨3, 1, y51.length, .slice aw52 y51.length cw52, clw52⟩]) := hO
        refine ⟨fun _ h => noneed (by kernel_rfl) h, ?_⟩
        refine zE rfl rfl (OpP_val (zA (v := (.slice aw52 y51.length cw52)) rfl) rfl ?_)
        refine ⟨fun _ h => noneed (by kernel_rfl) h, ?_⟩
        refine zI ?_; obtain ⟨G53, leG53, hS, hO, hfG53⟩ := hO.freezeS hS RInt_mono (k := 0) rfl hrw52 rfl
        have hO : Owns G53 w52 w0.heap.size ([]) := hO
        have H := oi H; subst H
        have l3_6 := (leG40.trans leG45).trans leG53
        exact ⟨_, G53, aw52, y51.length, cw52, upds_self _ _ ⟨rfl, rfl, rfl, rfl, rfl, trivial⟩, l3_6, hS, hO, hfG53⟩
    ·rintro F w54 ⟨Fb, G55, aq18_0, nq18_0, cq18_0, rfl, leG55, hS, hO, hq18_0⟩
     refine zR ?_; refine zV (zm (v := (.int .i64 s11.2)) rfl) rfl ?_; refine zV (rn_add rfl rfl) rfl ?_; refine zV (zA (v := (.int .i64 (IntKind.i64.wrap (s11.2 + 1)))) rfl) rfl ?_; refine zN ?_
     have hO : Owns G55 w54 w0.heap.size ([]) := hO
     have H := oi H; subst H; refine ⟨_, rfl, ?_⟩
     have l2_4 := leG16.trans leG55
     exact ⟨_, G55, aq18_0, nq18_0, cq18_0, upds_self _ _ ⟨rfl, rfl, rfl, rfl, rfl, trivial⟩, l2_4, hS, hO, hq18_0⟩
   ·have H := ifF hb17 H; refine WC_exit rfl ?_
    have hO : Owns G16 w15 w0.heap.size ([]) := hO
    have H := oi H; subst H
    have hres := hqq13 _ rfl
    subst hres
    exact ⟨_, G16, as11_0, ns11_0, cs11_0, upds_self _ _ ⟨rfl, rfl, trivial⟩, leG16, hS, hO, hs11_0⟩
 ·rintro F w56 ⟨Fb, G57, aq13_0, nq13_0, cq13_0, rfl, leG57, hS, hO, hq13_0⟩
  refine zQ ?_; refine zS ?_; refine zV (zA (v := (.int .i64 1)) rfl) rfl ?_; refine zN ?_; obtain ⟨q60, hq60, H⟩ := bnd H; refine zM (fun F w => ∃ (p59 : Unit) (Fb : Fr) (G : Gm), q60 = .inl p59 ∧ F = upds Fb [(7, .slice aq13_0 nq13_0 cq13_0)] ∧ Gle G57 G ∧ Since w0.heap.size G0 w0 G w ∧ Owns G w w0.heap.size []) ?_ ?_
  ·refine WC_block (WC_loop hq60 (fun s58 F w => ∃ (Fb : Fr) (G : Gm), F = upds Fb [(2, .pointer (some ⟨b4, 0, none⟩)), (7, .slice aq13_0 nq13_0 cq13_0), (10, .int .i64 s58)] ∧ Gle G57 G ∧ Since w0.heap.size G0 w0 G w ∧ Owns G w w0.heap.size []) ?_ ?_)
   ·have hO : Owns G57 w56 w0.heap.size ([]) := hO
    exact ⟨_, G57, upds_self _ _ ⟨rfl, rfl, rfl, trivial⟩, Gle.refl _, hS, hO⟩
   ·rintro s58 F w62 t61 ⟨Fb, G63, rfl, leG63, hS, hO⟩
    intro H1 hqq60
    have Hoq60 := H; have H := H1
    unfold f40_b2 at H
    refine zQ ?_; refine zS ?_; refine zV (zm (v := (.int .i64 s58)) rfl) rfl ?_; refine zV (zm (v := (.slice aq13_0 nq13_0 cq13_0)) rfl) rfl ?_; refine zV (rn_len sl29 rfl rfl (hq13_0.mono RInt_mono leG63).1) rfl ?_; refine zV (rn_lss rfl rfl) rfl ?_; refine zN ?_; refine zT rfl (fun hb64 => ?_) (fun hb64 => ?_)
    ·have H := ifT hb64 H; refine zP ?_; refine zQ ?_; refine WC_block ?_; refine zQ ?_; have hS := hS.keep (below_drew _); have hO := hO.below (below_drew _)
     refine WC_regionD mixedO (fun _ w => Sat G63 w ∧ True) (.fl 0 (.fl 1 (.fl 2 (.fl 3 (.fl 4 (.fl 5 (.fl 6 (.on 7 (.on 8 (.on 9 (.on 10 (.on 11 (.on 12 .nil))))))))))))) (by kernel_rfl) rfl (by kernel_rfl) (fun _ => ⟨hS.sat, trivial⟩) ?_
     refine zD rfl (fun w hw => rn_loadA ag26 (cs := [.slice a1 n1 c1, .slice a2 n2 c2, .slice a3 n3 c3]) rfl rfl (fun j v hj => (hw.1.le ((leG9.trans leG57).trans leG63)).cell (hcb4.drop_take 0 3 j v hj))) rfl ?_; refine zD rfl (fun w hw => zm (v := (.slice aq13_0 nq13_0 cq13_0)) rfl) rfl ?_; refine zD rfl (fun w hw => zm (v := (.int .i64 s58)) rfl) rfl ?_; refine zD rfl (fun w hw => rn_sub rfl rfl) rfl ?_; obtain ⟨y65, hy65, H⟩ := bnd H; refine WD_idx rfl sl29 (hq13_0.mono RInt_mono leG63) hy65 rfl rfl rfl ?_
     rintro b66 o66 _ hcb66 _ ⟨⟩
     refine zD rfl (fun w hw => zL na3 rfl (hw.1.cell (hcb66 0 _ rfl))) rfl ?_; refine zD rfl (fun w hw => zm (v := (.slice aq13_0 nq13_0 cq13_0)) rfl) rfl ?_; refine zE rfl rfl (OpP_val (zm (v := (.int .i64 s58)) rfl) rfl ?_); refine ⟨fun _ _ => ⟨hS.sat, trivial⟩, ?_⟩; obtain ⟨y67, hy67, H⟩ := bnd H; refine zE rfl rfl (OpP_idx sl29 (hq13_0.mono RInt_mono leG63) hy67 rfl rfl rfl ?_)
     rintro b68 o68 _ hcb68 _ ⟨⟩
     refine ⟨fun _ _ => ⟨hS.sat, trivial⟩, ?_⟩; refine zE rfl rfl (OpP_val (zL na3 rfl (hS.sat.cell (hcb68 0 _ rfl))) rfl ?_); refine ⟨fun _ _ => ⟨hS.sat, trivial⟩, ?_⟩; obtain ⟨y69, hy69, H⟩ := bnd H
     have l0_4 := ((leG6.trans leG9).trans leG57).trans leG63
     refine zE rfl rfl (zC cb46 (f46_ok (x0 := x0) (x1 := y65) (x2 := y67) hS.sat (h1.mono RTLandPerson_mono l0_4) (h2.mono RTLandEvent_mono l0_4) (h3.mono RTLandMemory_mono l0_4) hy69) rfl rfl (fun w70 hb => ?_)); have hS := hS.keep hb; have hO := hO.below hb
     refine ⟨fun _ h => noneed (by kernel_rfl) h, ?_⟩
     refine zE rfl rfl (OpP_val (v := (.int .i64 y69.Low)) (by kernel_rfl) rfl ?_)
     refine ⟨fun _ h => noneed (by kernel_rfl) h, ?_⟩
     refine zE rfl rfl (OpP_val (rn_leq rfl rfl) rfl ?_)
     refine ⟨fun _ h => noneed (by kernel_rfl) h, ?_⟩
     refine zI ?_; refine zT rfl (fun hb71 => ?_) (fun hb71 => ?_)
     ·have H := ifT hb71 H; refine zS ?_; refine zV (zA (v := (.slice none 0 0)) rfl) rfl ?_; refine zV (zA (v := (.bool false)) rfl) rfl ?_; refine zN ?_; refine WC_ret ?_; have H := oi H; subst H
      have hres := hqq60 _ rfl
      subst hres; have H := Hoq60
      have H : some ([], false) = some r := H
      have H := oi H; subst H
      exact ⟨_, _, rfl, hS.toGrow, _, _, _, rfl, (RSl.nil RInt 1 G63 none)⟩
     ·have H := ifF hb71 H; refine zP ?_; refine zR ?_; refine zV (zm (v := (.int .i64 s58)) rfl) rfl ?_; refine zV (rn_add rfl rfl) rfl ?_; refine zV (zA (v := (.int .i64 (IntKind.i64.wrap (s58 + 1)))) rfl) rfl ?_; refine zN ?_
      have hO : Owns G63 w70 w0.heap.size ([]) := hO
      have H := oi H; subst H; refine ⟨_, rfl, ?_⟩
      exact ⟨_, G63, upds_self _ _ ⟨rfl, rfl, rfl, trivial⟩, leG63, hS, hO⟩
    ·have H := ifF hb64 H; refine WC_exit rfl ?_
     have hO : Owns G63 w62 w0.heap.size ([]) := hO
     have H := oi H; subst H
     have hres := hqq60 _ rfl
     subst hres
     exact ⟨_, _, G63, rfl, upds_self _ _ ⟨rfl, trivial⟩, leG63, hS, hO⟩
  ·rintro F w72 ⟨p59, Fb, G73, rfl, rfl, leG73, hS, hO⟩
   refine zS ?_; refine zV (zm (v := (.slice aq13_0 nq13_0 cq13_0)) rfl) rfl ?_; refine zV (zA (v := (.slice aq13_0 nq13_0 cq13_0)) rfl) rfl ?_; refine zV (zA (v := (.bool true)) rfl) rfl ?_; refine zN ?_; refine WC_ret ?_
   have H : some (q13, true) = some r := H
   have H := oi H; subst H
   exact ⟨_, _, rfl, hS.toGrow, _, _, _, rfl, (hq13_0.mono RInt_mono leG73)⟩
set_option maxHeartbeats 1000000 in
theorem f41_ok {G0 : Gm} {w0 : World} (hS0 : Sat G0 w0) {x0 : TLandBook} {a1 : Option Addr} {n1 c1 : Nat} {a2 : Option Addr} {n2 c2 : Nat} {a3 : Option Addr} {n3 c3 : Nat} {x1 : (List Int)} {a4 : Option Addr} {n4 c4 : Nat} (h1 : RSl RTLandPerson 2 G0 a1 n1 c1 x0.People) (h2 : RSl RTLandEvent 2 G0 a2 n2 c2 x0.Events) (h3 : RSl RTLandMemory 4 G0 a3 n3 c3 x0.Memories) (h4 : RSl RInt 1 G0 a4 n4 c4 x1) {r : Int} (H : f41 x0 x1 = some r) :
  Calls Tryd.prog 41 #[.agg #[.slice a1 n1 c1, .slice a2 n2 c2, .slice a3 n3 c3], .slice a4 n4 c4] w0 (RetV w0 (.int .i64 r)) := by
 have hS := Since.start hS0
 have hO : Owns G0 w0 w0.heap.size [] := Owns.nil (Nat.le_refl _)
 unfold f41 at H
 refine enter1 (N := 35) (shutV _ _) Tryd.func41 rfl rfl rfl rfl ?_; refine zS ?_; refine zO rfl (zW (v := fun b => .pointer (some ⟨b, 0, none⟩)) (cs := [.slice a1 n1 c1, .slice a2 n2 c2, .slice a3 n3 c3]) (e := 26) (rn_boxA rfl) hS.sat rfl (fun b5 G7 w6 hg hcb5 => ?_)); have hS := hS.grow hg; have hO := hO.grow hg
 have leG7 := hg.le
 refine zV (zA (v := (.int .i64 0)) rfl) rfl ?_; refine zN ?_; refine zQ ?_; refine zS ?_; refine zV (zA (v := (.int .i64 1)) rfl) rfl ?_; refine zN ?_; obtain ⟨q10, hq10, H⟩ := bnd H; refine zM (fun F w => ∃ (p9 : Unit) (Fb : Fr) (G : Gm), q10 = .inl p9 ∧ F = upds Fb [] ∧ Gle G7 G ∧ Since w0.heap.size G0 w0 G w ∧ Owns G w w0.heap.size []) ?_ ?_
 ·refine WC_block (WC_loop hq10 (fun s8 F w => ∃ (Fb : Fr) (G : Gm), F = upds Fb [(1, .slice a4 n4 c4), (2, .pointer (some ⟨b5, 0, none⟩)), (5, .int .i64 s8)] ∧ Gle G7 G ∧ Since w0.heap.size G0 w0 G w ∧ Owns G w w0.heap.size []) ?_ ?_)
  ·have hO : Owns G7 w6 w0.heap.size ([]) := hO
   exact ⟨_, G7, upds_self _ _ ⟨rfl, rfl, rfl, trivial⟩, Gle.refl _, hS, hO⟩
  ·rintro s8 F w12 t11 ⟨Fb, G13, rfl, leG13, hS, hO⟩
   intro H1 hqq10
   have Hoq10 := H; have H := H1
   unfold f41_b0 at H
   refine zQ ?_; refine zS ?_; refine zV (zm (v := (.int .i64 s8)) rfl) rfl ?_; refine zV (zm (v := (.slice a4 n4 c4)) rfl) rfl ?_
   have l0_2 := leG7.trans leG13
   refine zV (rn_len sl29 rfl rfl (h4.mono RInt_mono l0_2).1) rfl ?_; refine zV (rn_lss rfl rfl) rfl ?_; refine zN ?_; refine zT rfl (fun hb14 => ?_) (fun hb14 => ?_)
   ·have H := ifT hb14 H; refine zP ?_; refine zQ ?_; refine WC_block ?_; refine zQ ?_; have hS := hS.keep (below_drew _); have hO := hO.below (below_drew _)
    refine WC_regionD mixedO (fun _ w => Sat G13 w ∧ True) (.fl 0 (.fl 1 (.fl 2 (.fl 3 (.fl 4 (.fl 5 (.fl 6 (.fl 7 (.fl 8 (.fl 9 (.fl 10 (.fl 11 (.fl 12 (.fl 13 (.on 14 (.on 15 (.on 16 (.on 17 (.on 18 (.on 19 (.on 20 (.on 21 .nil)))))))))))))))))))))) (by kernel_rfl) rfl (by kernel_rfl) (fun _ => ⟨hS.sat, trivial⟩) ?_
    refine zD rfl (fun w hw => rn_loadA ag26 (cs := [.slice a1 n1 c1, .slice a2 n2 c2, .slice a3 n3 c3]) rfl rfl (fun j v hj => (hw.1.le leG13).cell (hcb5.drop_take 0 3 j v hj))) rfl ?_; refine zD rfl (fun w hw => zF fd26_1 rfl) rfl ?_; refine zD rfl (fun w hw => zL na23 rfl ((hw.1.le leG13).cell (hcb5 1 _ rfl))) rfl ?_; refine zD rfl (fun w hw => zm (v := (.slice a4 n4 c4)) rfl) rfl ?_; refine zD rfl (fun w hw => zm (v := (.int .i64 s8)) rfl) rfl ?_; refine zD rfl (fun w hw => rn_sub rfl rfl) rfl ?_; obtain ⟨y15, hy15, H⟩ := bnd H; refine WD_idx rfl sl29 (h4.mono RInt_mono l0_2) hy15 rfl rfl rfl ?_
    rintro b16 o16 _ hcb16 _ ⟨⟩
    refine zD rfl (fun w hw => zL na3 rfl (hw.1.cell (hcb16 0 _ rfl))) rfl ?_; obtain ⟨y17, hy17, H⟩ := bnd H; refine WD_idx rfl sl23 (h2.mono RTLandEvent_mono l0_2) hy17 rfl rfl rfl ?_
    rintro b18 o18 _ hcb18 _ ⟨⟩
    refine zD rfl (fun w hw => zF fd69_1 rfl) rfl ?_; refine zD rfl (fun w hw => zL na3 rfl (hw.1.cell (hcb18 1 _ rfl))) rfl ?_; refine zD rfl (fun w hw => zF fd26_1 rfl) rfl ?_; refine zD rfl (fun w hw => zL na23 rfl ((hw.1.le leG13).cell (hcb5 1 _ rfl))) rfl ?_; refine zD rfl (fun w hw => zm (v := (.slice a4 n4 c4)) rfl) rfl ?_; refine zE rfl rfl (OpP_val (zm (v := (.int .i64 s8)) rfl) rfl ?_); refine ⟨fun _ _ => ⟨hS.sat, trivial⟩, ?_⟩; obtain ⟨y19, hy19, H⟩ := bnd H; refine zE rfl rfl (OpP_idx sl29 (h4.mono RInt_mono l0_2) hy19 rfl rfl rfl ?_)
    rintro b20 o20 _ hcb20 _ ⟨⟩
    refine ⟨fun _ _ => ⟨hS.sat, trivial⟩, ?_⟩; refine zE rfl rfl (OpP_val (zL na3 rfl (hS.sat.cell (hcb20 0 _ rfl))) rfl ?_); refine ⟨fun _ _ => ⟨hS.sat, trivial⟩, ?_⟩; obtain ⟨y21, hy21, H⟩ := bnd H; refine zE rfl rfl (OpP_idx sl23 (h2.mono RTLandEvent_mono l0_2) hy21 rfl rfl rfl ?_)
    rintro b22 o22 _ hcb22 _ ⟨⟩
    refine ⟨fun _ _ => ⟨hS.sat, trivial⟩, ?_⟩; refine zE rfl rfl (OpP_val (zF fd69_1 rfl) rfl ?_); refine ⟨fun _ _ => ⟨hS.sat, trivial⟩, ?_⟩; refine zE rfl rfl (OpP_val (zL na3 rfl (hS.sat.cell (hcb22 1 _ rfl))) rfl ?_); refine ⟨fun _ _ => ⟨hS.sat, trivial⟩, ?_⟩; obtain ⟨y23, hy23, H⟩ := bnd H; refine zE rfl rfl (zC cb74 (f74_ok (x0 := x0) (x1 := y17.Holder) (x2 := y21.Holder) hS.sat (h1.mono RTLandPerson_mono l0_2) (h2.mono RTLandEvent_mono l0_2) (h3.mono RTLandMemory_mono l0_2) hy23) rfl rfl (fun w24 hb => ?_)); have hS := hS.keep hb; have hO := hO.below hb
    refine ⟨fun _ h => noneed (by kernel_rfl) h, ?_⟩
    refine zE rfl rfl (OpP_val (rn_not rfl) rfl ?_)
    refine ⟨fun _ h => noneed (by kernel_rfl) h, ?_⟩
    refine zI ?_; refine zT rfl (fun hb25 => ?_) (fun hb25 => ?_)
    ·have H := ifT hb25 H; refine zS ?_; refine zV (zm (v := (.int .i64 s8)) rfl) rfl ?_; refine zV (zA (v := (.int .i64 s8)) rfl) rfl ?_; refine zN ?_; refine WC_ret ?_; have H := oi H; subst H
     have hres := hqq10 _ rfl
     subst hres; have H := Hoq10
     have H : some s8 = some r := H
     have H := oi H; subst H
     exact ⟨rfl, hS.below⟩
    ·have H := ifF hb25 H; refine zP ?_; refine zR ?_; refine zV (zm (v := (.int .i64 s8)) rfl) rfl ?_; refine zV (rn_add rfl rfl) rfl ?_; refine zV (zA (v := (.int .i64 (IntKind.i64.wrap (s8 + 1)))) rfl) rfl ?_; refine zN ?_
     have hO : Owns G13 w24 w0.heap.size ([]) := hO
     have H := oi H; subst H; refine ⟨_, rfl, ?_⟩
     exact ⟨_, G13, upds_self _ _ ⟨rfl, rfl, rfl, trivial⟩, leG13, hS, hO⟩
   ·have H := ifF hb14 H; refine WC_exit rfl ?_
    have hO : Owns G13 w12 w0.heap.size ([]) := hO
    have H := oi H; subst H
    have hres := hqq10 _ rfl
    subst hres
    exact ⟨_, _, G13, rfl, rfl, leG13, hS, hO⟩
 ·rintro F w26 ⟨p9, Fb, G27, rfl, rfl, leG27, hS, hO⟩
  refine zS ?_; refine zV (zA (v := (.int .i64 (-1))) rfl) rfl ?_; refine zN ?_; refine WC_ret ?_
  have H : some (-1) = some r := H
  have H := oi H; subst H
  exact ⟨rfl, hS.below⟩
set_option maxHeartbeats 1000000 in
theorem f9_ok {G0 : Gm} {w0 : World} (hS0 : Sat G0 w0) {x0 : TLandBook} {a1 : Option Addr} {n1 c1 : Nat} {a2 : Option Addr} {n2 c2 : Nat} {a3 : Option Addr} {n3 c3 : Nat} {x1 : Int} {x2 : Int} (hT : TabG Tryd.prog G0) (h1 : RSl RTLandPerson 2 G0 a1 n1 c1 x0.People) (h2 : RSl RTLandEvent 2 G0 a2 n2 c2 x0.Events) (h3 : RSl RTLandMemory 4 G0 a3 n3 c3 x0.Memories) {r : Bool} (H : f9 x0 x1 x2 = some r) :
  Calls Tryd.prog 9 #[.agg #[.slice a1 n1 c1, .slice a2 n2 c2, .slice a3 n3 c3], .int .i64 x1, .int .i64 x2] w0 (RetV w0 (.bool r)) := by
 have hS := Since.start hS0
 have hO : Owns G0 w0 w0.heap.size [] := Owns.nil (Nat.le_refl _)
 unfold f9 at H
 refine enter1 (N := 118) (shutV _ _) Tryd.func9 rfl rfl rfl rfl ?_; refine zS ?_; refine zO rfl (zW (v := fun b => .pointer (some ⟨b, 0, none⟩)) (cs := [.slice a1 n1 c1, .slice a2 n2 c2, .slice a3 n3 c3]) (e := 26) (rn_boxA rfl) hS.sat rfl (fun b4 G6 w5 hg hcb4 => ?_)); have hS := hS.grow hg; have hO := hO.grow hg
 have leG6 := hg.le
 refine zV (zA (v := (.bool false)) rfl) rfl ?_; refine zN ?_; refine zQ ?_; refine zS ?_; refine zV (rn_loadA ag26 (cs := [.slice a1 n1 c1, .slice a2 n2 c2, .slice a3 n3 c3]) rfl rfl (fun j v hj => hS.sat.cell (hcb4.drop_take 0 3 j v hj))) rfl ?_; obtain ⟨y7, hy7, H⟩ := bnd H; refine zO rfl (zC cb14 (f14_ok (x0 := x0) hS.sat (h1.mono RTLandPerson_mono leG6) (h2.mono RTLandEvent_mono leG6) (h3.mono RTLandMemory_mono leG6) hy7) rfl rfl (fun w8 hb => ?_)); have hS := hS.keep hb; have hO := hO.below hb; refine zV (rn_not rfl) rfl ?_; refine zN ?_; refine zT rfl (fun hb9 => ?_) (fun hb9 => ?_)
 ·have H := ifT hb9 H; refine zS ?_; obtain ⟨y10, hy10, H⟩ := bnd H; refine zO rfl (zC cb15 (f15_ok  hS.sat (hT.mono leG6)  hy10) rfl rfl (fun w11 hb => ?_)); have hS := hS.keep hb; have hO := hO.below hb; refine zV (zA (v := (.bool y10)) rfl) rfl ?_; refine zN ?_; refine WC_ret ?_
  have H : some y10 = some r := H
  have H := oi H; subst H
  exact ⟨rfl, hS.below⟩
 ·have H := ifF hb9 H; refine zP ?_; refine zS ?_; refine zV (rn_loadA ag26 (cs := [.slice a1 n1 c1, .slice a2 n2 c2, .slice a3 n3 c3]) rfl rfl (fun j v hj => hS.sat.cell (hcb4.drop_take 0 3 j v hj))) rfl ?_; refine zV (zm (v := (.int .i64 x1)) rfl) rfl ?_; obtain ⟨y12, hy12, H⟩ := bnd H; refine zO rfl (OpP_callG cb35 (f35_ok (x0 := x0) (x1 := x1) hS.sat (h1.mono RTLandPerson_mono leG6) (h2.mono RTLandEvent_mono leG6) (h3.mono RTLandMemory_mono leG6) hy12) rfl rfl (fun vy12 G14 w13 hg hvy12 => ?_)); obtain ⟨a15, n15, c15, ⟨⟩, h15⟩ := hvy12; have hS := hS.grow hg; have hO := hO.grow hg
  have leG14 := hg.le
  refine zV (zm (v := (.tuple #[.slice a15 n15 c15, .int .i64 y12.2.1, .int .i64 y12.2.2])) rfl) rfl ?_; refine zV (zX (v := (.slice a15 n15 c15)) rfl rfl) rfl ?_; refine zV (zX (v := (.int .i64 y12.2.1)) rfl rfl) rfl ?_; refine zV (zX (v := (.int .i64 y12.2.2)) rfl rfl) rfl ?_; refine zV (zA (v := (.slice a15 n15 c15)) rfl) rfl ?_; refine zV (zA (v := (.int .i64 y12.2.1)) rfl) rfl ?_; refine zV (zA (v := (.int .i64 y12.2.2)) rfl) rfl ?_; refine zN ?_; refine zS ?_; refine zV (rn_loadA ag26 (cs := [.slice a1 n1 c1, .slice a2 n2 c2, .slice a3 n3 c3]) rfl rfl (fun j v hj => (hS.sat.le leG14).cell (hcb4.drop_take 0 3 j v hj))) rfl ?_; refine zV (zm (v := (.int .i64 x2)) rfl) rfl ?_; obtain ⟨y16, hy16, H⟩ := bnd H
  have l0_2 := leG6.trans leG14
  refine zO rfl (OpP_callG cb37 (f37_ok (x0 := x0) (x1 := x2) hS.sat (h1.mono RTLandPerson_mono l0_2) (h2.mono RTLandEvent_mono l0_2) (h3.mono RTLandMemory_mono l0_2) hy16) rfl rfl (fun vy16 G18 w17 hg hvy16 => ?_)); obtain ⟨a19, n19, c19, ⟨⟩, h19⟩ := hvy16; have hS := hS.grow hg; have hO := hO.grow hg
  have leG18 := hg.le
  refine zV (zm (v := (.tuple #[.slice a19 n19 c19, .int .i64 y16.2])) rfl) rfl ?_; refine zV (zX (v := (.slice a19 n19 c19)) rfl rfl) rfl ?_; refine zV (zX (v := (.int .i64 y16.2)) rfl rfl) rfl ?_; refine zV (zA (v := (.slice a19 n19 c19)) rfl) rfl ?_; refine zV (zA (v := (.int .i64 y16.2)) rfl) rfl ?_; refine zN ?_; refine zQ ?_; obtain ⟨q20, hq20, H⟩ := bnd H; refine zM (fun F w => ∃ (p21 : Unit) (Fb : Fr) (G : Gm), q20 = .inl p21 ∧ F = upds Fb [(1, .int .i64 x1), (3, .pointer (some ⟨b4, 0, none⟩)), (7, .slice a15 n15 c15), (8, .int .i64 y12.2.1), (9, .int .i64 y12.2.2)] ∧ Gle G18 G ∧ Since w0.heap.size G0 w0 G w ∧ Owns G w w0.heap.size []) ?_ ?_
  ·have Hoq20 := H; have H := hq20; refine zQ ?_; obtain ⟨q22, hq22, H⟩ := bnd H; refine zM (fun F w => ∃ (Fb : Fr) (G : Gm), F = upds Fb [(1, .int .i64 x1), (2, .int .i64 x2), (3, .pointer (some ⟨b4, 0, none⟩)), (7, .slice a15 n15 c15), (8, .int .i64 y12.2.1), (9, .int .i64 y12.2.2), (10, .slice a19 n19 c19), (11, .int .i64 y16.2), (40, .bool q22)] ∧ Gle G18 G ∧ Since w0.heap.size G0 w0 G w ∧ Owns G w w0.heap.size []) ?_ ?_
   ·have Hoq22 := H; have H := hq22; refine zR ?_
    have l1_3 := leG14.trans leG18
    refine zV (rn_loadA ag26 (cs := [.slice a1 n1 c1, .slice a2 n2 c2, .slice a3 n3 c3]) rfl rfl (fun j v hj => (hS.sat.le l1_3).cell (hcb4.drop_take 0 3 j v hj))) rfl ?_; obtain ⟨y23, hy23, H⟩ := bnd H
    have l0_3 := l0_2.trans leG18
    refine zO rfl (zC cb18 (f18_ok (x0 := x0) hS.sat (h1.mono RTLandPerson_mono l0_3) (h2.mono RTLandEvent_mono l0_3) (h3.mono RTLandMemory_mono l0_3) hy23) rfl rfl (fun w24 hb => ?_)); have hS := hS.keep hb; have hO := hO.below hb; refine zV (rn_not rfl) rfl ?_; refine zV (zm (v := (.bool (!y23))) rfl) rfl ?_
    rcases bcases (!y23) with hb25 | hb25
    ·have H := ifT hb25 H; refine zG rfl hb25 rfl rfl rfl ?_; refine zG rfl hb25 rfl rfl rfl ?_; refine zG rfl hb25 rfl rfl rfl ?_; refine zG rfl hb25 rfl rfl rfl ?_; refine zV (rn_pickT (v := (.bool true)) rfl hb25 rfl) rfl ?_; refine zN ?_
     have hO : Owns G18 w24 w0.heap.size ([]) := hO
     have H := oi H; subst H
     exact ⟨_, G18, upds_self _ _ ⟨rfl, rfl, rfl, rfl, rfl, rfl, rfl, rfl, rfl, trivial⟩, Gle.refl _, hS, hO⟩
    ·have H := ifF hb25 H; refine zY rfl hb25 rfl rfl ?_; refine zV (rn_loadA ag26 (cs := [.slice a1 n1 c1, .slice a2 n2 c2, .slice a3 n3 c3]) rfl rfl (fun j v hj => (hS.sat.le l1_3).cell (hcb4.drop_take 0 3 j v hj))) rfl ?_; refine zY rfl hb25 rfl rfl ?_; refine zV (zm (v := (.int .i64 x2)) rfl) rfl ?_; refine zY rfl hb25 rfl rfl ?_; obtain ⟨y26, hy26, H⟩ := bnd H; refine zO rfl (zC cb38 (f38_ok (x0 := x0) (x1 := x2) hS.sat (h1.mono RTLandPerson_mono l0_3) (h2.mono RTLandEvent_mono l0_3) (h3.mono RTLandMemory_mono l0_3) hy26) rfl rfl (fun w27 hb => ?_)); have hS := hS.keep hb; have hO := hO.below hb; refine zY rfl hb25 rfl rfl ?_; refine zV (rn_not rfl) rfl ?_; refine zV (rn_pickF (v := (.bool (!y26))) rfl hb25 rfl) rfl ?_; refine zN ?_
     have hO : Owns G18 w27 w0.heap.size ([]) := hO
     have H := oi H; subst H
     exact ⟨_, G18, upds_self _ _ ⟨rfl, rfl, rfl, rfl, rfl, rfl, rfl, rfl, rfl, trivial⟩, Gle.refl _, hS, hO⟩
   ·rintro F w28 ⟨Fb, G29, rfl, leG29, hS, hO⟩
    refine zT rfl (fun hb30 => ?_) (fun hb30 => ?_)
    ·have H := ifT hb30 H; refine zQ ?_; obtain ⟨q31, hq31, H⟩ := bnd H; refine zM (fun F w => ∃ (Fb : Fr), F = upds Fb [(1, .int .i64 x1), (3, .pointer (some ⟨b4, 0, none⟩)), (7, .slice a15 n15 c15), (8, .int .i64 y12.2.1), (9, .int .i64 y12.2.2), (47, .bool q31)] ∧ w28 = w) ?_ ?_
     ·have Hoq31 := H; have H := hq31; refine zR ?_; refine zV (zm (v := (.int .i64 y16.2)) rfl) rfl ?_; refine zV (rn_neq rfl rfl) rfl ?_; refine zV (zm (v := (.bool (y16.2 != 2))) rfl) rfl ?_
      rcases bcases (y16.2 != 2) with hb32 | hb32
      ·have H := ifT hb32 H; refine zG rfl hb32 rfl rfl rfl ?_; refine zG rfl hb32 rfl rfl rfl ?_; refine zG rfl hb32 rfl rfl rfl ?_; refine zV (rn_pickT (v := (.bool true)) rfl hb32 rfl) rfl ?_; refine zN ?_; have H := oi H; subst H
       exact ⟨_, upds_self _ _ ⟨rfl, rfl, rfl, rfl, rfl, rfl, trivial⟩, rfl⟩
      ·have H := ifF hb32 H; refine zY rfl hb32 rfl rfl ?_; refine zV (zm (v := (.slice a19 n19 c19)) rfl) rfl ?_; refine zY rfl hb32 rfl rfl ?_; refine zV (rn_len sl29 rfl rfl (h19.mono RInt_mono leG29).1) rfl ?_; refine zY rfl hb32 rfl rfl ?_; refine zV (rn_neq rfl rfl) rfl ?_; refine zV (rn_pickF (v := (.bool ((y16.1.length : Int) != 0))) rfl hb32 rfl) rfl ?_; refine zN ?_; have H := oi H; subst H
       exact ⟨_, upds_self _ _ ⟨rfl, rfl, rfl, rfl, rfl, rfl, trivial⟩, rfl⟩
     ·rintro F wl ⟨Fb, rfl, rfl⟩
      refine zT rfl (fun hb35 => ?_) (fun hb35 => ?_)
      ·have H := ifT hb35 H; refine zS ?_; refine zV (zA (v := (.bool false)) rfl) rfl ?_; refine zN ?_; refine WC_ret ?_; have H := oi H; subst H; have H := Hoq20
       have H : some false = some r := H
       have H := oi H; subst H
       exact ⟨rfl, hS.below⟩
      ·have H := ifF hb35 H; refine zP ?_
       have hO : Owns G29 w28 w0.heap.size ([]) := hO
       have H := oi H; subst H
       exact ⟨_, _, G29, rfl, upds_self _ _ ⟨rfl, rfl, rfl, rfl, rfl, trivial⟩, leG29, hS, hO⟩
    ·have H := ifF hb30 H; refine zQ ?_; obtain ⟨q36, hq36, H⟩ := bnd H; refine zM (fun F w => ∃ (Fb : Fr) (G : Gm), F = upds Fb [(1, .int .i64 x1), (3, .pointer (some ⟨b4, 0, none⟩)), (7, .slice a15 n15 c15), (8, .int .i64 y12.2.1), (9, .int .i64 y12.2.2), (57, .bool q36)] ∧ Gle G29 G ∧ Since w0.heap.size G0 w0 G w ∧ Owns G w w0.heap.size []) ?_ ?_
     ·have Hoq36 := H; have H := hq36; refine zR ?_; refine zV (zm (v := (.int .i64 y16.2)) rfl) rfl ?_; refine zV (rn_neq rfl rfl) rfl ?_; refine zV (zm (v := (.bool (y16.2 != 0))) rfl) rfl ?_
      rcases bcases (y16.2 != 0) with hb37 | hb37
      ·have H := ifT hb37 H; refine zG rfl hb37 rfl rfl rfl ?_; refine zG rfl hb37 rfl rfl rfl ?_; refine zG rfl hb37 rfl rfl rfl ?_; refine zG rfl hb37 rfl rfl rfl ?_; refine zG rfl hb37 rfl rfl rfl ?_; refine zG rfl hb37 rfl rfl rfl ?_; refine zV (rn_pickT (v := (.bool true)) rfl hb37 rfl) rfl ?_; refine zN ?_
       have hO : Owns G29 w28 w0.heap.size ([]) := hO
       have H := oi H; subst H
       exact ⟨_, G29, upds_self _ _ ⟨rfl, rfl, rfl, rfl, rfl, rfl, trivial⟩, Gle.refl _, hS, hO⟩
      ·have H := ifF hb37 H; refine zY rfl hb37 rfl rfl ?_; refine zV (zm (v := (.slice a19 n19 c19)) rfl) rfl ?_; refine zY rfl hb37 rfl rfl ?_
       have l1_4 := (leG14.trans leG18).trans leG29
       refine zV (rn_loadA ag26 (cs := [.slice a1 n1 c1, .slice a2 n2 c2, .slice a3 n3 c3]) rfl rfl (fun j v hj => (hS.sat.le l1_4).cell (hcb4.drop_take 0 3 j v hj))) rfl ?_; refine zY rfl hb37 rfl rfl ?_; refine zV (zm (v := (.int .i64 x2)) rfl) rfl ?_; refine zY rfl hb37 rfl rfl ?_; obtain ⟨y38, hy38, H⟩ := bnd H
       have l0_4 := (l0_2.trans leG18).trans leG29
       refine zO rfl (OpP_callG cb39 (f39_ok (x0 := x0) (x1 := x2) hS.sat (h1.mono RTLandPerson_mono l0_4) (h2.mono RTLandEvent_mono l0_4) (h3.mono RTLandMemory_mono l0_4) hy38) rfl rfl (fun vy38 G40 w39 hg hvy38 => ?_)); obtain ⟨a41, n41, c41, ⟨⟩, h41⟩ := hvy38; have hS := hS.grow hg; have hO := hO.grow hg
       have leG40 := hg.le
       refine zY rfl hb37 rfl rfl ?_; obtain ⟨y42, hy42, H⟩ := bnd H
       have l3_5 := leG29.trans leG40
       refine zO rfl (zC cb20 (f20_ok (x0 := y16.1) (x1 := y38) hS.sat (h19.mono RInt_mono l3_5) h41 hy42) rfl rfl (fun w43 hb => ?_)); have hS := hS.keep hb; have hO := hO.below hb; refine zY rfl hb37 rfl rfl ?_; refine zV (rn_not rfl) rfl ?_; refine zV (rn_pickF (v := (.bool (!y42))) rfl hb37 rfl) rfl ?_; refine zN ?_
       have hO : Owns G40 w43 w0.heap.size ([]) := hO
       have H := oi H; subst H
       exact ⟨_, G40, upds_self _ _ ⟨rfl, rfl, rfl, rfl, rfl, rfl, trivial⟩, leG40, hS, hO⟩
     ·rintro F w44 ⟨Fb, G45, rfl, leG45, hS, hO⟩
      refine zT rfl (fun hb46 => ?_) (fun hb46 => ?_)
      ·have H := ifT hb46 H; refine zS ?_; refine zV (zA (v := (.bool false)) rfl) rfl ?_; refine zN ?_; refine WC_ret ?_; have H := oi H; subst H; have H := Hoq20
       have H : some false = some r := H
       have H := oi H; subst H
       exact ⟨rfl, hS.below⟩
      ·have H := ifF hb46 H; refine zP ?_
       have hO : Owns G45 w44 w0.heap.size ([]) := hO
       have H := oi H; subst H
       have l3_5 := leG29.trans leG45
       exact ⟨_, _, G45, rfl, upds_self _ _ ⟨rfl, rfl, rfl, rfl, rfl, trivial⟩, l3_5, hS, hO⟩
  ·rintro F w47 ⟨p21, Fb, G48, rfl, rfl, leG48, hS, hO⟩
   refine zQ ?_; refine zQ ?_; have hS := hS.keep (below_drew _); have hO := hO.below (below_drew _)
   refine WC_regionD mixedO (fun _ w => Sat G48 w ∧ True) (.fl 0 (.on 1 (.on 2 (.on 3 (.on 4 .nil))))) (by kernel_rfl) rfl (by kernel_rfl) (fun _ => ⟨hS.sat, trivial⟩) ?_
   refine zD rfl (fun w hw => rn_loadA ag26 (cs := [.slice a1 n1 c1, .slice a2 n2 c2, .slice a3 n3 c3]) rfl rfl (fun j v hj => (hw.1.le ((leG14.trans leG18).trans leG48)).cell (hcb4.drop_take 0 3 j v hj))) rfl ?_; refine zE rfl rfl (OpP_val (zm (v := (.int .i64 x1)) rfl) rfl ?_); refine ⟨fun _ _ => ⟨hS.sat, trivial⟩, ?_⟩; obtain ⟨y49, hy49, H⟩ := bnd H; refine zE rfl rfl (zC cb33 (f33_ok (x0 := x1) hS.sat  hy49) rfl rfl (fun w50 hb => ?_)); have hS := hS.keep hb; have hO := hO.below hb; refine ⟨fun _ _ => ⟨hS.sat, trivial⟩, ?_⟩; obtain ⟨y51, hy51, H⟩ := bnd H
   have l0_4 := (l0_2.trans leG18).trans leG48
   refine zE rfl rfl (zC cb31 (f31_ok (x0 := x0) (x1 := y49) hS.sat (h1.mono RTLandPerson_mono l0_4) (h2.mono RTLandEvent_mono l0_4) (h3.mono RTLandMemory_mono l0_4) hy51) rfl rfl (fun w52 hb => ?_)); have hS := hS.keep hb; have hO := hO.below hb
   refine ⟨fun _ h => noneed (by kernel_rfl) h, ?_⟩
   refine zE rfl rfl (OpP_val (zA (v := (.int .i64 y51)) rfl) rfl ?_)
   refine ⟨fun _ h => noneed (by kernel_rfl) h, ?_⟩
   refine zI ?_; refine zS ?_; refine zV (zm (v := (.int .i64 y51)) rfl) rfl ?_; refine zV (rn_neq rfl rfl) rfl ?_; refine zN ?_; refine zT rfl (fun hb53 => ?_) (fun hb53 => ?_)
   ·have H := ifT hb53 H; refine zQ ?_; obtain ⟨q54, hq54, H⟩ := bnd H; refine zM (fun F w => ∃ (Fb : Fr) (G : Gm), F = upds Fb [(6, .bool q54)] ∧ Gle G48 G ∧ Since w0.heap.size G0 w0 G w ∧ Owns G w w0.heap.size []) ?_ ?_
    ·have Hoq54 := H; have H := hq54; refine zR ?_; refine zV (zm (v := (.int .i64 y12.2.2)) rfl) rfl ?_; refine zV (zm (v := (.int .i64 y51)) rfl) rfl ?_; refine zV (rn_eql rfl rfl) rfl ?_; refine zV (zm (v := (.bool (y12.2.2 == y51))) rfl) rfl ?_
     rcases bcases (y12.2.2 == y51) with hb55 | hb55
     ·have H := ifT hb55 H; refine zY rfl hb55 rfl rfl ?_; refine zV (zm (v := (.slice a15 n15 c15)) rfl) rfl ?_; refine zY rfl hb55 rfl rfl ?_
      have l2_4 := leG18.trans leG48
      refine zV (rn_len sl29 rfl rfl (h15.mono RInt_mono l2_4).1) rfl ?_; refine zY rfl hb55 rfl rfl ?_; refine zV (rn_eql rfl rfl) rfl ?_; refine zV (rn_pickT (v := (.bool ((y12.1.length : Int) == 0))) rfl hb55 rfl) rfl ?_; refine zV (zm (v := (.bool ((y12.1.length : Int) == 0))) rfl) rfl ?_
      rcases bcases ((y12.1.length : Int) == 0) with hb56 | hb56
      ·have H := ifT hb56 H; refine zY rfl hb56 rfl rfl ?_; refine zV (zm (v := (.int .i64 y12.2.1)) rfl) rfl ?_; refine zY rfl hb56 rfl rfl ?_; refine zV (rn_eql rfl rfl) rfl ?_; refine zV (rn_pickT (v := (.bool (y12.2.1 == 0))) rfl hb56 rfl) rfl ?_; refine zV (zm (v := (.bool (y12.2.1 == 0))) rfl) rfl ?_
       rcases bcases (y12.2.1 == 0) with hb57 | hb57
       ·have H := ifT hb57 H; refine zY rfl hb57 rfl rfl ?_; obtain ⟨y58, hy58, H⟩ := bnd H; refine zO rfl (zC cb15 (f15_ok  hS.sat (hT.mono l0_4)  hy58) rfl rfl (fun w59 hb => ?_)); have hS := hS.keep hb; have hO := hO.below hb; refine zV (rn_pickT (v := (.bool y58)) rfl hb57 rfl) rfl ?_; refine zV (zA (v := (.bool y58)) rfl) rfl ?_; refine zN ?_
        have hO : Owns G48 w59 w0.heap.size ([]) := hO
        have H := oi H; subst H
        exact ⟨_, G48, upds_self _ _ ⟨rfl, trivial⟩, Gle.refl _, hS, hO⟩
       ·have H := ifF hb57 H; refine zG rfl hb57 rfl rfl rfl ?_; refine zV (rn_pickF (v := (.bool false)) rfl hb57 rfl) rfl ?_; refine zV (zA (v := (.bool false)) rfl) rfl ?_; refine zN ?_
        have hO : Owns G48 w52 w0.heap.size ([]) := hO
        have H := oi H; subst H
        exact ⟨_, G48, upds_self _ _ ⟨rfl, trivial⟩, Gle.refl _, hS, hO⟩
      ·have H := ifF hb56 H; refine zG rfl hb56 rfl rfl rfl ?_; refine zG rfl hb56 rfl rfl rfl ?_; refine zV (rn_pickF (v := (.bool false)) rfl hb56 rfl) rfl ?_; refine zV (zm (v := (.bool false)) rfl) rfl ?_; refine zG rfl rfl rfl rfl rfl ?_; refine zV (rn_pickF (v := (.bool false)) rfl rfl rfl) rfl ?_; refine zV (zA (v := (.bool false)) rfl) rfl ?_; refine zN ?_
       have hO : Owns G48 w52 w0.heap.size ([]) := hO
       have H := oi H; subst H
       exact ⟨_, G48, upds_self _ _ ⟨rfl, trivial⟩, Gle.refl _, hS, hO⟩
     ·have H := ifF hb55 H; refine zG rfl hb55 rfl rfl rfl ?_; refine zG rfl hb55 rfl rfl rfl ?_; refine zG rfl hb55 rfl rfl rfl ?_; refine zV (rn_pickF (v := (.bool false)) rfl hb55 rfl) rfl ?_; refine zV (zm (v := (.bool false)) rfl) rfl ?_; refine zG rfl rfl rfl rfl rfl ?_; refine zG rfl rfl rfl rfl rfl ?_; refine zV (rn_pickF (v := (.bool false)) rfl rfl rfl) rfl ?_; refine zV (zm (v := (.bool false)) rfl) rfl ?_; refine zG rfl rfl rfl rfl rfl ?_; refine zV (rn_pickF (v := (.bool false)) rfl rfl rfl) rfl ?_; refine zV (zA (v := (.bool false)) rfl) rfl ?_; refine zN ?_
      have hO : Owns G48 w52 w0.heap.size ([]) := hO
      have H := oi H; subst H
      exact ⟨_, G48, upds_self _ _ ⟨rfl, trivial⟩, Gle.refl _, hS, hO⟩
    ·rintro F w60 ⟨Fb, G61, rfl, leG61, hS, hO⟩
     refine WC_ret ?_
     have H : some q54 = some r := H
     have H := oi H; subst H
     exact ⟨rfl, hS.below⟩
   ·have H := ifF hb53 H; refine zP ?_; refine zS ?_
    have l1_4 := (leG14.trans leG18).trans leG48
    refine zV (rn_loadA ag26 (cs := [.slice a1 n1 c1, .slice a2 n2 c2, .slice a3 n3 c3]) rfl rfl (fun j v hj => (hS.sat.le l1_4).cell (hcb4.drop_take 0 3 j v hj))) rfl ?_; refine zV (zm (v := (.int .i64 x1)) rfl) rfl ?_; obtain ⟨y62, hy62, H⟩ := bnd H; refine zO rfl (OpP_callG cb40 (f40_ok (x0 := x0) (x1 := x1) hS.sat (h1.mono RTLandPerson_mono l0_4) (h2.mono RTLandEvent_mono l0_4) (h3.mono RTLandMemory_mono l0_4) hy62) rfl rfl (fun vy62 G64 w63 hg hvy62 => ?_)); obtain ⟨a65, n65, c65, ⟨⟩, h65⟩ := hvy62; have hS := hS.grow hg; have hO := hO.grow hg
    have leG64 := hg.le
    refine zV (zm (v := (.tuple #[.slice a65 n65 c65, .bool y62.2])) rfl) rfl ?_; refine zV (zX (v := (.slice a65 n65 c65)) rfl rfl) rfl ?_; refine zV (zX (v := (.bool y62.2)) rfl rfl) rfl ?_; refine zV (zA (v := (.slice a65 n65 c65)) rfl) rfl ?_; refine zV (zA (v := (.bool y62.2)) rfl) rfl ?_; refine zN ?_; refine zQ ?_; refine zS ?_; refine zV (zm (v := (.bool y62.2)) rfl) rfl ?_; refine zV (rn_not rfl) rfl ?_; refine zN ?_; refine zT rfl (fun hb66 => ?_) (fun hb66 => ?_)
    ·have H := ifT hb66 H; refine zQ ?_; obtain ⟨q67, hq67, H⟩ := bnd H; refine zM (fun F w => ∃ (Fb : Fr) (G : Gm), F = upds Fb [(6, .bool q67)] ∧ Gle G64 G ∧ Since w0.heap.size G0 w0 G w ∧ Owns G w w0.heap.size []) ?_ ?_
     ·have Hoq67 := H; have H := hq67; refine zR ?_; refine zV (zm (v := (.int .i64 y12.2.2)) rfl) rfl ?_; refine zV (rn_eql rfl rfl) rfl ?_; refine zV (zm (v := (.bool (y12.2.2 == 8))) rfl) rfl ?_
      rcases bcases (y12.2.2 == 8) with hb68 | hb68
      ·have H := ifT hb68 H; refine zY rfl hb68 rfl rfl ?_; refine zV (zm (v := (.slice a15 n15 c15)) rfl) rfl ?_; refine zY rfl hb68 rfl rfl ?_
       have l2_5 := (leG18.trans leG48).trans leG64
       refine zV (rn_len sl29 rfl rfl (h15.mono RInt_mono l2_5).1) rfl ?_; refine zY rfl hb68 rfl rfl ?_; refine zV (rn_eql rfl rfl) rfl ?_; refine zV (rn_pickT (v := (.bool ((y12.1.length : Int) == 0))) rfl hb68 rfl) rfl ?_; refine zV (zm (v := (.bool ((y12.1.length : Int) == 0))) rfl) rfl ?_
       rcases bcases ((y12.1.length : Int) == 0) with hb69 | hb69
       ·have H := ifT hb69 H; refine zY rfl hb69 rfl rfl ?_; refine zV (zm (v := (.int .i64 y12.2.1)) rfl) rfl ?_; refine zY rfl hb69 rfl rfl ?_; refine zV (rn_eql rfl rfl) rfl ?_; refine zV (rn_pickT (v := (.bool (y12.2.1 == 0))) rfl hb69 rfl) rfl ?_; refine zV (zm (v := (.bool (y12.2.1 == 0))) rfl) rfl ?_
        rcases bcases (y12.2.1 == 0) with hb70 | hb70
        ·have H := ifT hb70 H; refine zY rfl hb70 rfl rfl ?_; obtain ⟨y71, hy71, H⟩ := bnd H
         have l0_5 := l0_4.trans leG64
         refine zO rfl (zC cb15 (f15_ok  hS.sat (hT.mono l0_5)  hy71) rfl rfl (fun w72 hb => ?_)); have hS := hS.keep hb; have hO := hO.below hb; refine zV (rn_pickT (v := (.bool y71)) rfl hb70 rfl) rfl ?_; refine zV (zA (v := (.bool y71)) rfl) rfl ?_; refine zN ?_
         have hO : Owns G64 w72 w0.heap.size ([]) := hO
         have H := oi H; subst H
         exact ⟨_, G64, upds_self _ _ ⟨rfl, trivial⟩, Gle.refl _, hS, hO⟩
        ·have H := ifF hb70 H; refine zG rfl hb70 rfl rfl rfl ?_; refine zV (rn_pickF (v := (.bool false)) rfl hb70 rfl) rfl ?_; refine zV (zA (v := (.bool false)) rfl) rfl ?_; refine zN ?_
         have hO : Owns G64 w63 w0.heap.size ([]) := hO
         have H := oi H; subst H
         exact ⟨_, G64, upds_self _ _ ⟨rfl, trivial⟩, Gle.refl _, hS, hO⟩
       ·have H := ifF hb69 H; refine zG rfl hb69 rfl rfl rfl ?_; refine zG rfl hb69 rfl rfl rfl ?_; refine zV (rn_pickF (v := (.bool false)) rfl hb69 rfl) rfl ?_; refine zV (zm (v := (.bool false)) rfl) rfl ?_; refine zG rfl rfl rfl rfl rfl ?_; refine zV (rn_pickF (v := (.bool false)) rfl rfl rfl) rfl ?_; refine zV (zA (v := (.bool false)) rfl) rfl ?_; refine zN ?_
        have hO : Owns G64 w63 w0.heap.size ([]) := hO
        have H := oi H; subst H
        exact ⟨_, G64, upds_self _ _ ⟨rfl, trivial⟩, Gle.refl _, hS, hO⟩
      ·have H := ifF hb68 H; refine zG rfl hb68 rfl rfl rfl ?_; refine zG rfl hb68 rfl rfl rfl ?_; refine zG rfl hb68 rfl rfl rfl ?_; refine zV (rn_pickF (v := (.bool false)) rfl hb68 rfl) rfl ?_; refine zV (zm (v := (.bool false)) rfl) rfl ?_; refine zG rfl rfl rfl rfl rfl ?_; refine zG rfl rfl rfl rfl rfl ?_; refine zV (rn_pickF (v := (.bool false)) rfl rfl rfl) rfl ?_; refine zV (zm (v := (.bool false)) rfl) rfl ?_; refine zG rfl rfl rfl rfl rfl ?_; refine zV (rn_pickF (v := (.bool false)) rfl rfl rfl) rfl ?_; refine zV (zA (v := (.bool false)) rfl) rfl ?_; refine zN ?_
       have hO : Owns G64 w63 w0.heap.size ([]) := hO
       have H := oi H; subst H
       exact ⟨_, G64, upds_self _ _ ⟨rfl, trivial⟩, Gle.refl _, hS, hO⟩
     ·rintro F w73 ⟨Fb, G74, rfl, leG74, hS, hO⟩
      refine WC_ret ?_
      have H : some q67 = some r := H
      have H := oi H; subst H
      exact ⟨rfl, hS.below⟩
    ·have H := ifF hb66 H; refine zP ?_; refine zQ ?_; obtain ⟨q75, hq75, H⟩ := bnd H; refine zM (fun F w => ∃ (Fb : Fr) (G : Gm), F = upds Fb [(6, .bool q75)] ∧ Gle G64 G ∧ Since w0.heap.size G0 w0 G w ∧ Owns G w w0.heap.size []) ?_ ?_
     ·have Hoq75 := H; have H := hq75; refine zR ?_; refine zV (zm (v := (.int .i64 y12.2.2)) rfl) rfl ?_; refine zV (rn_eql rfl rfl) rfl ?_; refine zV (zm (v := (.bool (y12.2.2 == 0))) rfl) rfl ?_
      rcases bcases (y12.2.2 == 0) with hb76 | hb76
      ·have H := ifT hb76 H; refine zY rfl hb76 rfl rfl ?_; refine zV (zm (v := (.slice a15 n15 c15)) rfl) rfl ?_; refine zY rfl hb76 rfl rfl ?_; refine zV (zm (v := (.slice a65 n65 c65)) rfl) rfl ?_; refine zY rfl hb76 rfl rfl ?_; obtain ⟨y77, hy77, H⟩ := bnd H
       have l2_5 := (leG18.trans leG48).trans leG64
       refine zO rfl (zC cb20 (f20_ok (x0 := y12.1) (x1 := y62.1) hS.sat (h15.mono RInt_mono l2_5) h65 hy77) rfl rfl (fun w78 hb => ?_)); have hS := hS.keep hb; have hO := hO.below hb; refine zV (rn_pickT (v := (.bool y77)) rfl hb76 rfl) rfl ?_; refine zV (zm (v := (.bool y77)) rfl) rfl ?_
       rcases bcases y77 with hb79 | hb79
       ·have H := ifT hb79 H; refine zY rfl hb79 rfl rfl ?_; refine zV (zm (v := (.int .i64 y12.2.1)) rfl) rfl ?_; refine zY rfl hb79 rfl rfl ?_
        have l1_5 := l1_4.trans leG64
        refine zV (rn_loadA ag26 (cs := [.slice a1 n1 c1, .slice a2 n2 c2, .slice a3 n3 c3]) rfl rfl (fun j v hj => (hS.sat.le l1_5).cell (hcb4.drop_take 0 3 j v hj))) rfl ?_; refine zY rfl hb79 rfl rfl ?_; refine zV (zm (v := (.slice a65 n65 c65)) rfl) rfl ?_; refine zY rfl hb79 rfl rfl ?_; obtain ⟨y80, hy80, H⟩ := bnd H
        have l0_5 := l0_4.trans leG64
        refine zO rfl (zC cb41 (f41_ok (x0 := x0) (x1 := y62.1) hS.sat (h1.mono RTLandPerson_mono l0_5) (h2.mono RTLandEvent_mono l0_5) (h3.mono RTLandMemory_mono l0_5) h65 hy80) rfl rfl (fun w81 hb => ?_)); have hS := hS.keep hb; have hO := hO.below hb; refine zY rfl hb79 rfl rfl ?_; refine zV (rn_eql rfl rfl) rfl ?_; refine zV (rn_pickT (v := (.bool (y12.2.1 == y80))) rfl hb79 rfl) rfl ?_; refine zV (zm (v := (.bool (y12.2.1 == y80))) rfl) rfl ?_
        rcases bcases (y12.2.1 == y80) with hb82 | hb82
        ·have H := ifT hb82 H; refine zY rfl hb82 rfl rfl ?_; obtain ⟨y83, hy83, H⟩ := bnd H; refine zO rfl (zC cb15 (f15_ok  hS.sat (hT.mono l0_5)  hy83) rfl rfl (fun w84 hb => ?_)); have hS := hS.keep hb; have hO := hO.below hb; refine zV (rn_pickT (v := (.bool y83)) rfl hb82 rfl) rfl ?_; refine zV (zA (v := (.bool y83)) rfl) rfl ?_; refine zN ?_
         have hO : Owns G64 w84 w0.heap.size ([]) := hO
         have H := oi H; subst H
         exact ⟨_, G64, upds_self _ _ ⟨rfl, trivial⟩, Gle.refl _, hS, hO⟩
        ·have H := ifF hb82 H; refine zG rfl hb82 rfl rfl rfl ?_; refine zV (rn_pickF (v := (.bool false)) rfl hb82 rfl) rfl ?_; refine zV (zA (v := (.bool false)) rfl) rfl ?_; refine zN ?_
         have hO : Owns G64 w81 w0.heap.size ([]) := hO
         have H := oi H; subst H
         exact ⟨_, G64, upds_self _ _ ⟨rfl, trivial⟩, Gle.refl _, hS, hO⟩
       ·have H := ifF hb79 H; refine zG rfl hb79 rfl rfl rfl ?_; refine zG rfl hb79 rfl rfl rfl ?_; refine zG rfl hb79 rfl rfl rfl ?_; refine zG rfl hb79 rfl rfl rfl ?_; refine zG rfl hb79 rfl rfl rfl ?_; refine zV (rn_pickF (v := (.bool false)) rfl hb79 rfl) rfl ?_; refine zV (zm (v := (.bool false)) rfl) rfl ?_; refine zG rfl rfl rfl rfl rfl ?_; refine zV (rn_pickF (v := (.bool false)) rfl rfl rfl) rfl ?_; refine zV (zA (v := (.bool false)) rfl) rfl ?_; refine zN ?_
        have hO : Owns G64 w78 w0.heap.size ([]) := hO
        have H := oi H; subst H
        exact ⟨_, G64, upds_self _ _ ⟨rfl, trivial⟩, Gle.refl _, hS, hO⟩
      ·have H := ifF hb76 H; refine zG rfl hb76 rfl rfl rfl ?_; refine zG rfl hb76 rfl rfl rfl ?_; refine zG rfl hb76 rfl rfl rfl ?_; refine zV (rn_pickF (v := (.bool false)) rfl hb76 rfl) rfl ?_; refine zV (zm (v := (.bool false)) rfl) rfl ?_; refine zG rfl rfl rfl rfl rfl ?_; refine zG rfl rfl rfl rfl rfl ?_; refine zG rfl rfl rfl rfl rfl ?_; refine zG rfl rfl rfl rfl rfl ?_; refine zG rfl rfl rfl rfl rfl ?_; refine zV (rn_pickF (v := (.bool false)) rfl rfl rfl) rfl ?_; refine zV (zm (v := (.bool false)) rfl) rfl ?_; refine zG rfl rfl rfl rfl rfl ?_; refine zV (rn_pickF (v := (.bool false)) rfl rfl rfl) rfl ?_; refine zV (zA (v := (.bool false)) rfl) rfl ?_; refine zN ?_
       have hO : Owns G64 w63 w0.heap.size ([]) := hO
       have H := oi H; subst H
       exact ⟨_, G64, upds_self _ _ ⟨rfl, trivial⟩, Gle.refl _, hS, hO⟩
     ·rintro F w85 ⟨Fb, G86, rfl, leG86, hS, hO⟩
      refine WC_ret ?_
      have H : some q75 = some r := H
      have H := oi H; subst H
      exact ⟨rfl, hS.below⟩
end Go.Proofs.YtcaflmilfhhikaaDoor
