/-
  The walks: each Go function computes its plain function (printed by a program of ours).
-/
import Derived.Test.YtcaflmilfhhikaaGreatDoorAl
import Derived.Test.YtcaflmilfhhikaaGreatDoorRd
import Derived.Test.YtcaflmilfhhikaaGreatDoorBaseQ
import Derived.Test.YtcaflmilfhhikaaGreatDoorBaseU
import Derived.Test.YtcaflmilfhhikaaGreatDoorIt
import Derived.Test.YtcaflmilfhhikaaGreatDoorLib
import Derived.Test.YtcaflmilfhhikaaGreatDoorBu
import Derived.Test.YtcaflmilfhhikaaGreatDoorP4W4
namespace Go.Proofs.YtcaflmilfhhikaaGreatDoor
open Go.RowKit
set_option linter.unusedVariables false

set_option maxRecDepth 20000
set_option linter.unusedVariables false
set_option maxHeartbeats 1000000 in
theorem f12_ok {G0 : Gm} {w0 : World} (hS0 : Sat G0 w0) {x0 : TLandBook} {a1 : Option Addr} {n1 c1 : Nat} {a2 : Option Addr} {n2 c2 : Nat} {a3 : Option Addr} {n3 c3 : Nat} {x1 : TLandBook} {a4 : Option Addr} {n4 c4 : Nat} {a5 : Option Addr} {n5 c5 : Nat} {a6 : Option Addr} {n6 c6 : Nat} (h1 : RSl RTLandPerson 2 G0 a1 n1 c1 x0.People) (h2 : RSl RTLandEvent 2 G0 a2 n2 c2 x0.Events) (h3 : RSl RTLandMemory 4 G0 a3 n3 c3 x0.Memories) (h4 : RSl RTLandPerson 2 G0 a4 n4 c4 x1.People) (h5 : RSl RTLandEvent 2 G0 a5 n5 c5 x1.Events) (h6 : RSl RTLandMemory 4 G0 a6 n6 c6 x1.Memories) {r : Bool} (H : f12 x0 x1 = some r) :
  Calls Tryz.prog 12 #[.agg #[zl a1 n1 c1, zl a2 n2 c2, zl a3 n3 c3], .agg #[zl a4 n4 c4, zl a5 n5 c5, zl a6 n6 c6]] w0 (RetV w0 (.bool r)) := by
 have hS := Since.start hS0
 have hO : Owns G0 w0 w0.heap.size [] := Owns.nil (Nat.le_refl _)
 unfold f12 at H
 refine enter1 (N := 87) (shutV _ _) Tryz.func12 rfl rfl rfl rfl ?_; refine zS ?_; refine zO rfl (zW (v := fun b => zp b) (cs := [zl a1 n1 c1, zl a2 n2 c2, zl a3 n3 c3]) (e := 26) (rn_boxA rfl) hS.sat rfl (fun b7 G9 w8 hg hcb7 => ?_)); have hS := hS.grow hg; have hO := hO.grow hg
 have leG9 := hg.le
 refine zO rfl (zW (v := fun b => zp b) (cs := [zl a4 n4 c4, zl a5 n5 c5, zl a6 n6 c6]) (e := 26) (rn_boxA rfl) hS.sat rfl (fun b10 G12 w11 hg hcb10 => ?_)); have hS := hS.grow hg; have hO := hO.grow hg
 have leG12 := hg.le
 refine zy (.bool false) rfl rfl ?_; refine zN ?_; refine zQ ?_; refine zQ ?_; obtain ⟨q13, hq13, H⟩ := bnd H; refine zM (fun F w => ∃ (Fb : Fr), F = upds Fb [(2, zp b7), (3, zp b10), (32, .bool q13)] ∧ w11 = w) ?_ ?_
 ·have Hoq13 := H; have H := hq13; refine zR ?_; refine zV (zF fd26_0 rfl) rfl ?_; refine zV (zL na22 rfl ((hS.sat.le leG12).cell (hcb7 0 _ rfl))) rfl ?_
  have l0_2 := leG9.trans leG12
  refine zV (rn_len sl22 rfl rfl (h1.mono RTLandPerson_mono l0_2).1) rfl ?_; refine zV (zF fd26_0 rfl) rfl ?_; refine zV (zL na22 rfl (hS.sat.cell (hcb10 0 _ rfl))) rfl ?_; refine zV (rn_len sl22 rfl rfl (h4.mono RTLandPerson_mono l0_2).1) rfl ?_; refine zV (rn_neq rfl rfl) rfl ?_; refine zx (.bool ((x0.People.length : Int) != (x1.People.length : Int))) rfl rfl ?_
  rcases bcases ((x0.People.length : Int) != (x1.People.length : Int)) with hb14 | hb14
  ·have H := ifT hb14 H; refine zG rfl hb14 rfl rfl rfl ?_; refine zG rfl hb14 rfl rfl rfl ?_; refine zG rfl hb14 rfl rfl rfl ?_; refine zG rfl hb14 rfl rfl rfl ?_; refine zG rfl hb14 rfl rfl rfl ?_; refine zG rfl hb14 rfl rfl rfl ?_; refine zG rfl hb14 rfl rfl rfl ?_; refine zV (rn_pickT (v := (.bool true)) rfl hb14 rfl) rfl ?_; refine zx (.bool true) rfl rfl ?_; refine zG rfl rfl rfl rfl rfl ?_; refine zG rfl rfl rfl rfl rfl ?_; refine zG rfl rfl rfl rfl rfl ?_; refine zG rfl rfl rfl rfl rfl ?_; refine zG rfl rfl rfl rfl rfl ?_; refine zG rfl rfl rfl rfl rfl ?_; refine zG rfl rfl rfl rfl rfl ?_; refine zV (rn_pickT (v := (.bool true)) rfl rfl rfl) rfl ?_; refine zN ?_; have H := oi H; subst H
   exact ⟨_, upds_self _ _ ⟨rfl, rfl, rfl, trivial⟩, rfl⟩
  ·have H := ifF hb14 H; refine zY rfl hb14 rfl rfl ?_; refine zV (zF fd26_1 rfl) rfl ?_; refine zY rfl hb14 rfl rfl ?_; refine zV (zL na23 rfl ((hS.sat.le leG12).cell (hcb7 1 _ rfl))) rfl ?_; refine zY rfl hb14 rfl rfl ?_; refine zV (rn_len sl23 rfl rfl (h2.mono RTLandEvent_mono l0_2).1) rfl ?_; refine zY rfl hb14 rfl rfl ?_; refine zV (zF fd26_1 rfl) rfl ?_; refine zY rfl hb14 rfl rfl ?_; refine zV (zL na23 rfl (hS.sat.cell (hcb10 1 _ rfl))) rfl ?_; refine zY rfl hb14 rfl rfl ?_; refine zV (rn_len sl23 rfl rfl (h5.mono RTLandEvent_mono l0_2).1) rfl ?_; refine zY rfl hb14 rfl rfl ?_; refine zV (rn_neq rfl rfl) rfl ?_; refine zV (rn_pickF (v := (.bool ((x0.Events.length : Int) != (x1.Events.length : Int)))) rfl hb14 rfl) rfl ?_; refine zx (.bool ((x0.Events.length : Int) != (x1.Events.length : Int))) rfl rfl ?_
   rcases bcases ((x0.Events.length : Int) != (x1.Events.length : Int)) with hb15 | hb15
   ·have H := ifT hb15 H; refine zG rfl hb15 rfl rfl rfl ?_; refine zG rfl hb15 rfl rfl rfl ?_; refine zG rfl hb15 rfl rfl rfl ?_; refine zG rfl hb15 rfl rfl rfl ?_; refine zG rfl hb15 rfl rfl rfl ?_; refine zG rfl hb15 rfl rfl rfl ?_; refine zG rfl hb15 rfl rfl rfl ?_; refine zV (rn_pickT (v := (.bool true)) rfl hb15 rfl) rfl ?_; refine zN ?_; have H := oi H; subst H
    exact ⟨_, upds_self _ _ ⟨rfl, rfl, rfl, trivial⟩, rfl⟩
   ·have H := ifF hb15 H; refine zY rfl hb15 rfl rfl ?_; refine zV (zF fd26_2 rfl) rfl ?_; refine zY rfl hb15 rfl rfl ?_; refine zV (zL na24 rfl ((hS.sat.le leG12).cell (hcb7 2 _ rfl))) rfl ?_; refine zY rfl hb15 rfl rfl ?_; refine zV (rn_len sl24 rfl rfl (h3.mono RTLandMemory_mono l0_2).1) rfl ?_; refine zY rfl hb15 rfl rfl ?_; refine zV (zF fd26_2 rfl) rfl ?_; refine zY rfl hb15 rfl rfl ?_; refine zV (zL na24 rfl (hS.sat.cell (hcb10 2 _ rfl))) rfl ?_; refine zY rfl hb15 rfl rfl ?_; refine zV (rn_len sl24 rfl rfl (h6.mono RTLandMemory_mono l0_2).1) rfl ?_; refine zY rfl hb15 rfl rfl ?_; refine zV (rn_neq rfl rfl) rfl ?_; refine zV (rn_pickF (v := (.bool ((x0.Memories.length : Int) != (x1.Memories.length : Int)))) rfl hb15 rfl) rfl ?_; refine zN ?_; have H := oi H; subst H
    exact ⟨_, upds_self _ _ ⟨rfl, rfl, rfl, trivial⟩, rfl⟩
 ·rintro F wl ⟨Fb, rfl, rfl⟩
  refine zT rfl (fun hb18 => ?_) (fun hb18 => ?_)
  ·have H := ifT hb18 H; refine zS ?_; refine zy (.bool false) rfl rfl ?_; refine zN ?_; refine WC_ret ?_
   have H : some false = some r := H
   have H := oi H; subst H
   exact ⟨rfl, hS.below⟩
  ·have H := ifF hb18 H; refine zP ?_; refine zQ ?_; refine zS ?_; refine zy (zi 0) rfl rfl ?_; refine zN ?_; obtain ⟨q21, hq21, H⟩ := bnd H; refine zM (fun F w => ∃ (p20 : Unit) (Fb : Fr) (G : Gm), q21 = .inl p20 ∧ F = upds Fb [(2, zp b7), (3, zp b10)] ∧ Gle G12 G ∧ Since w0.heap.size G0 w0 G w ∧ Owns G w w0.heap.size []) ?_ ?_
   ·refine WC_block (WC_loop hq21 (fun s19 F w => ∃ (Fb : Fr) (G : Gm), F = upds Fb [(2, zp b7), (3, zp b10), (5, zi s19)] ∧ Gle G12 G ∧ Since w0.heap.size G0 w0 G w ∧ Owns G w w0.heap.size []) ?_ ?_)
    ·have hO : Owns _ _ _ ([]) := hO
     exact ⟨_, G12, upds_self _ _ ⟨rfl, rfl, rfl, trivial⟩, Gle.refl _, hS, hO⟩
    ·rintro s19 F w23 t22 ⟨Fb, G24, rfl, leG24, hS, hO⟩
     intro H1 hqq21
     have Hoq21 := H; have H := H1
     unfold f12_b0 at H
     refine zQ ?_; refine zS ?_; refine zx (zi s19) rfl rfl ?_; refine zV (zF fd26_0 rfl) rfl ?_
     have l1_3 := leG12.trans leG24
     refine zV (zL na22 rfl ((hS.sat.le l1_3).cell (hcb7 0 _ rfl))) rfl ?_
     have l0_3 := leG9.trans l1_3
     refine zV (rn_len sl22 rfl rfl (h1.mono RTLandPerson_mono l0_3).1) rfl ?_; refine zV (rn_lss rfl rfl) rfl ?_; refine zN ?_; refine zT rfl (fun hb25 => ?_) (fun hb25 => ?_)
     ·have H := ifT hb25 H; refine zP ?_; refine zQ ?_; refine WC_block ?_; refine zQ ?_; have hS := hS.keep (below_drew _); have hO := hO.below (below_drew _)
      refine WC_regionD mixedO (fun _ w => Sat G24 w ∧ True) (.fl 0 (.fl 1 (.fl 2 (.fl 3 (.fl 4 (.fl 5 (.fl 6 (.on 7 (.on 8 (.on 9 (.on 10 .nil))))))))))) (by kernel_rfl) rfl (by kernel_rfl) (fun _ => ⟨hS.sat, trivial⟩) ?_
      refine zD rfl (fun w hw => zF fd26_0 rfl) rfl ?_; refine zD rfl (fun w hw => zL na22 rfl ((hw.1.le l1_3).cell (hcb7 0 _ rfl))) rfl ?_; refine zD rfl (fun w hw => zm (v := (zi s19)) rfl) rfl ?_; obtain ⟨y26, hy26, H⟩ := bnd H; refine WD_idx rfl sl22 (h1.mono RTLandPerson_mono l0_3) hy26 rfl rfl rfl ?_
      rintro b27 o27 _ hcb27 _ ⟨⟩
      refine zD rfl (fun w hw => rn_loadA ag54 (cs := [zi y26.Mother, zi y26.Adopted]) rfl rfl (fun j v hj => hw.1.cell (hcb27.drop_take 0 2 j v hj))) rfl ?_; refine zD rfl (fun w hw => zF fd26_0 rfl) rfl ?_; refine zD rfl (fun w hw => zL na22 rfl ((hw.1.le leG24).cell (hcb10 0 _ rfl))) rfl ?_; refine zE rfl rfl (OpP_val (zm (v := (zi s19)) rfl) rfl ?_); refine ⟨fun _ _ => ⟨hS.sat, trivial⟩, ?_⟩; obtain ⟨y28, hy28, H⟩ := bnd H; refine zE rfl rfl (OpP_idx sl22 (h4.mono RTLandPerson_mono l0_3) hy28 rfl rfl rfl ?_)
      rintro b29 o29 _ hcb29 _ ⟨⟩
      refine ⟨fun _ _ => ⟨hS.sat, trivial⟩, ?_⟩; refine zE rfl rfl (OpP_val (rn_loadA ag54 (cs := [zi y28.Mother, zi y28.Adopted]) rfl rfl (fun j v hj => hS.sat.cell (hcb29.drop_take 0 2 j v hj))) rfl ?_); refine ⟨fun _ _ => ⟨hS.sat, trivial⟩, ?_⟩; refine zE rfl rfl (OpP_val (rn_neqA (xs := [y26.Mother, y26.Adopted]) (ys := [y28.Mother, y28.Adopted]) in54 rfl rfl rfl rfl) rfl ?_)
      refine ⟨fun _ h => noneed (by kernel_rfl) h, ?_⟩
      refine zI ?_; refine zT rfl (fun hb30 => ?_) (fun hb30 => ?_)
      ·have H := ifT hb30 H; refine zS ?_; refine zy (.bool false) rfl rfl ?_; refine zN ?_; refine WC_ret ?_; have H := oi H; subst H
       have hres := hqq21 _ rfl
       subst hres; have H := Hoq21
       have H : some false = some r := H
       have H := oi H; subst H
       exact ⟨rfl, hS.below⟩
      ·have H := ifF hb30 H; refine zP ?_; refine zR ?_; refine zx (zi s19) rfl rfl ?_; refine zV (rn_add rfl rfl) rfl ?_; refine zy (zi (IntKind.i64.wrap (s19 + 1))) rfl rfl ?_; refine zN ?_
       have hO : Owns _ _ _ ([]) := hO
       have H := oi H; subst H; refine ⟨_, rfl, ?_⟩
       exact ⟨_, G24, upds_self _ _ ⟨rfl, rfl, rfl, trivial⟩, leG24, hS, hO⟩
     ·have H := ifF hb25 H; refine WC_exit rfl ?_
      have hO : Owns _ _ _ ([]) := hO
      have H := oi H; subst H
      have hres := hqq21 _ rfl
      subst hres
      exact ⟨_, _, G24, rfl, upds_self _ _ ⟨rfl, rfl, trivial⟩, leG24, hS, hO⟩
   ·rintro F w31 ⟨p20, Fb, G32, rfl, rfl, leG32, hS, hO⟩
    refine zQ ?_; refine zS ?_; refine zy (zi 0) rfl rfl ?_; refine zN ?_; obtain ⟨q35, hq35, H⟩ := bnd H; refine zM (fun F w => ∃ (p34 : Unit) (Fb : Fr) (G : Gm), q35 = .inl p34 ∧ F = upds Fb [(2, zp b7), (3, zp b10)] ∧ Gle G32 G ∧ Since w0.heap.size G0 w0 G w ∧ Owns G w w0.heap.size []) ?_ ?_
    ·refine WC_block (WC_loop hq35 (fun s33 F w => ∃ (Fb : Fr) (G : Gm), F = upds Fb [(2, zp b7), (3, zp b10), (6, zi s33)] ∧ Gle G32 G ∧ Since w0.heap.size G0 w0 G w ∧ Owns G w w0.heap.size []) ?_ ?_)
     ·have hO : Owns _ _ _ ([]) := hO
      exact ⟨_, G32, upds_self _ _ ⟨rfl, rfl, rfl, trivial⟩, Gle.refl _, hS, hO⟩
     ·rintro s33 F w37 t36 ⟨Fb, G38, rfl, leG38, hS, hO⟩
      intro H1 hqq35
      have Hoq35 := H; have H := H1
      unfold f12_b1 at H
      refine zQ ?_; refine zS ?_; refine zx (zi s33) rfl rfl ?_; refine zV (zF fd26_1 rfl) rfl ?_
      have l1_4 := (leG12.trans leG32).trans leG38
      refine zV (zL na23 rfl ((hS.sat.le l1_4).cell (hcb7 1 _ rfl))) rfl ?_
      have l0_4 := leG9.trans l1_4
      refine zV (rn_len sl23 rfl rfl (h2.mono RTLandEvent_mono l0_4).1) rfl ?_; refine zV (rn_lss rfl rfl) rfl ?_; refine zN ?_; refine zT rfl (fun hb39 => ?_) (fun hb39 => ?_)
      ·have H := ifT hb39 H; refine zP ?_; refine zQ ?_; refine WC_block ?_; refine zQ ?_; have hS := hS.keep (below_drew _); have hO := hO.below (below_drew _)
       refine WC_regionD mixedO (fun _ w => Sat G38 w ∧ True) (.fl 0 (.fl 1 (.fl 2 (.fl 3 (.fl 4 (.fl 5 (.fl 6 (.on 7 (.on 8 (.on 9 (.on 10 .nil))))))))))) (by kernel_rfl) rfl (by kernel_rfl) (fun _ => ⟨hS.sat, trivial⟩) ?_
       refine zD rfl (fun w hw => zF fd26_1 rfl) rfl ?_; refine zD rfl (fun w hw => zL na23 rfl ((hw.1.le l1_4).cell (hcb7 1 _ rfl))) rfl ?_; refine zD rfl (fun w hw => zm (v := (zi s33)) rfl) rfl ?_; obtain ⟨y40, hy40, H⟩ := bnd H; refine WD_idx rfl sl23 (h2.mono RTLandEvent_mono l0_4) hy40 rfl rfl rfl ?_
       rintro b41 o41 _ hcb41 _ ⟨⟩
       refine zD rfl (fun w hw => rn_loadA ag57 (cs := [zi y40.Strip, zi y40.Holder]) rfl rfl (fun j v hj => hw.1.cell (hcb41.drop_take 0 2 j v hj))) rfl ?_; refine zD rfl (fun w hw => zF fd26_1 rfl) rfl ?_; refine zD rfl (fun w hw => zL na23 rfl ((hw.1.le (leG32.trans leG38)).cell (hcb10 1 _ rfl))) rfl ?_; refine zE rfl rfl (OpP_val (zm (v := (zi s33)) rfl) rfl ?_); refine ⟨fun _ _ => ⟨hS.sat, trivial⟩, ?_⟩; obtain ⟨y42, hy42, H⟩ := bnd H; refine zE rfl rfl (OpP_idx sl23 (h5.mono RTLandEvent_mono l0_4) hy42 rfl rfl rfl ?_)
       rintro b43 o43 _ hcb43 _ ⟨⟩
       refine ⟨fun _ _ => ⟨hS.sat, trivial⟩, ?_⟩; refine zE rfl rfl (OpP_val (rn_loadA ag57 (cs := [zi y42.Strip, zi y42.Holder]) rfl rfl (fun j v hj => hS.sat.cell (hcb43.drop_take 0 2 j v hj))) rfl ?_); refine ⟨fun _ _ => ⟨hS.sat, trivial⟩, ?_⟩; refine zE rfl rfl (OpP_val (rn_neqA (xs := [y40.Strip, y40.Holder]) (ys := [y42.Strip, y42.Holder]) in57 rfl rfl rfl rfl) rfl ?_)
       refine ⟨fun _ h => noneed (by kernel_rfl) h, ?_⟩
       refine zI ?_; refine zT rfl (fun hb44 => ?_) (fun hb44 => ?_)
       ·have H := ifT hb44 H; refine zS ?_; refine zy (.bool false) rfl rfl ?_; refine zN ?_; refine WC_ret ?_; have H := oi H; subst H
        have hres := hqq35 _ rfl
        subst hres; have H := Hoq35
        have H : some false = some r := H
        have H := oi H; subst H
        exact ⟨rfl, hS.below⟩
       ·have H := ifF hb44 H; refine zP ?_; refine zR ?_; refine zx (zi s33) rfl rfl ?_; refine zV (rn_add rfl rfl) rfl ?_; refine zy (zi (IntKind.i64.wrap (s33 + 1))) rfl rfl ?_; refine zN ?_
        have hO : Owns _ _ _ ([]) := hO
        have H := oi H; subst H; refine ⟨_, rfl, ?_⟩
        exact ⟨_, G38, upds_self _ _ ⟨rfl, rfl, rfl, trivial⟩, leG38, hS, hO⟩
      ·have H := ifF hb39 H; refine WC_exit rfl ?_
       have hO : Owns _ _ _ ([]) := hO
       have H := oi H; subst H
       have hres := hqq35 _ rfl
       subst hres
       exact ⟨_, _, G38, rfl, upds_self _ _ ⟨rfl, rfl, trivial⟩, leG38, hS, hO⟩
    ·rintro F w45 ⟨p34, Fb, G46, rfl, rfl, leG46, hS, hO⟩
     refine zQ ?_; refine zS ?_; refine zy (zi 0) rfl rfl ?_; refine zN ?_; obtain ⟨q49, hq49, H⟩ := bnd H; refine zM (fun F w => ∃ (p48 : Unit) (Fb : Fr) (G : Gm), q49 = .inl p48 ∧ F = upds Fb [] ∧ Gle G46 G ∧ Since w0.heap.size G0 w0 G w ∧ Owns G w w0.heap.size []) ?_ ?_
     ·refine WC_block (WC_loop hq49 (fun s47 F w => ∃ (Fb : Fr) (G : Gm), F = upds Fb [(2, zp b7), (3, zp b10), (7, zi s47)] ∧ Gle G46 G ∧ Since w0.heap.size G0 w0 G w ∧ Owns G w w0.heap.size []) ?_ ?_)
      ·have hO : Owns _ _ _ ([]) := hO
       exact ⟨_, G46, upds_self _ _ ⟨rfl, rfl, rfl, trivial⟩, Gle.refl _, hS, hO⟩
      ·rintro s47 F w51 t50 ⟨Fb, G52, rfl, leG52, hS, hO⟩
       intro H1 hqq49
       have Hoq49 := H; have H := H1
       unfold f12_b2 at H
       refine zQ ?_; refine zS ?_; refine zx (zi s47) rfl rfl ?_; refine zV (zF fd26_2 rfl) rfl ?_
       have l1_5 := ((leG12.trans leG32).trans leG46).trans leG52
       refine zV (zL na24 rfl ((hS.sat.le l1_5).cell (hcb7 2 _ rfl))) rfl ?_
       have l0_5 := leG9.trans l1_5
       refine zV (rn_len sl24 rfl rfl (h3.mono RTLandMemory_mono l0_5).1) rfl ?_; refine zV (rn_lss rfl rfl) rfl ?_; refine zN ?_; refine zT rfl (fun hb53 => ?_) (fun hb53 => ?_)
       ·have H := ifT hb53 H; refine zP ?_; refine zQ ?_; refine WC_block ?_; refine zQ ?_; have hS := hS.keep (below_drew _); have hO := hO.below (below_drew _)
        refine WC_regionD mixedO (fun _ w => Sat G52 w ∧ True) (.fl 0 (.fl 1 (.fl 2 (.fl 3 (.fl 4 (.fl 5 (.fl 6 (.on 7 (.on 8 (.on 9 (.on 10 .nil))))))))))) (by kernel_rfl) rfl (by kernel_rfl) (fun _ => ⟨hS.sat, trivial⟩) ?_
        refine zD rfl (fun w hw => zF fd26_2 rfl) rfl ?_; refine zD rfl (fun w hw => zL na24 rfl ((hw.1.le l1_5).cell (hcb7 2 _ rfl))) rfl ?_; refine zD rfl (fun w hw => zm (v := (zi s47)) rfl) rfl ?_; obtain ⟨y54, hy54, H⟩ := bnd H; refine WD_idx rfl sl24 (h3.mono RTLandMemory_mono l0_5) hy54 rfl rfl rfl ?_
        rintro b55 o55 _ hcb55 _ ⟨⟩
        refine zD rfl (fun w hw => rn_loadA ag60 (cs := [zi y54.From, zi y54.To, zi y54.Years.Low, zi y54.Years.High]) rfl rfl (fun j v hj => hw.1.cell (hcb55.drop_take 0 4 j v hj))) rfl ?_; refine zD rfl (fun w hw => zF fd26_2 rfl) rfl ?_; refine zD rfl (fun w hw => zL na24 rfl ((hw.1.le ((leG32.trans leG46).trans leG52)).cell (hcb10 2 _ rfl))) rfl ?_; refine zE rfl rfl (OpP_val (zm (v := (zi s47)) rfl) rfl ?_); refine ⟨fun _ _ => ⟨hS.sat, trivial⟩, ?_⟩; obtain ⟨y56, hy56, H⟩ := bnd H; refine zE rfl rfl (OpP_idx sl24 (h6.mono RTLandMemory_mono l0_5) hy56 rfl rfl rfl ?_)
        rintro b57 o57 _ hcb57 _ ⟨⟩
        refine ⟨fun _ _ => ⟨hS.sat, trivial⟩, ?_⟩; refine zE rfl rfl (OpP_val (rn_loadA ag60 (cs := [zi y56.From, zi y56.To, zi y56.Years.Low, zi y56.Years.High]) rfl rfl (fun j v hj => hS.sat.cell (hcb57.drop_take 0 4 j v hj))) rfl ?_); refine ⟨fun _ _ => ⟨hS.sat, trivial⟩, ?_⟩; refine zE rfl rfl (OpP_val (rn_neqA22 iz60 rfl rfl) rfl ?_)
        refine ⟨fun _ h => noneed (by kernel_rfl) h, ?_⟩
        refine zI ?_; refine zT rfl (fun hb58 => ?_) (fun hb58 => ?_)
        ·have H := ifT hb58 H; refine zS ?_; refine zy (.bool false) rfl rfl ?_; refine zN ?_; refine WC_ret ?_; have H := oi H; subst H
         have hres := hqq49 _ rfl
         subst hres; have H := Hoq49
         have H : some false = some r := H
         have H := oi H; subst H
         exact ⟨rfl, hS.below⟩
        ·have H := ifF hb58 H; refine zP ?_; refine zR ?_; refine zx (zi s47) rfl rfl ?_; refine zV (rn_add rfl rfl) rfl ?_; refine zy (zi (IntKind.i64.wrap (s47 + 1))) rfl rfl ?_; refine zN ?_
         have hO : Owns _ _ _ ([]) := hO
         have H := oi H; subst H; refine ⟨_, rfl, ?_⟩
         exact ⟨_, G52, upds_self _ _ ⟨rfl, rfl, rfl, trivial⟩, leG52, hS, hO⟩
       ·have H := ifF hb53 H; refine WC_exit rfl ?_
        have hO : Owns _ _ _ ([]) := hO
        have H := oi H; subst H
        have hres := hqq49 _ rfl
        subst hres
        exact ⟨_, _, G52, rfl, rfl, leG52, hS, hO⟩
     ·rintro F w59 ⟨p48, Fb, G60, rfl, rfl, leG60, hS, hO⟩
      refine zS ?_; refine zy (.bool true) rfl rfl ?_; refine zN ?_; refine WC_ret ?_
      have H : some true = some r := H
      have H := oi H; subst H
      exact ⟨rfl, hS.below⟩
set_option maxHeartbeats 1000000 in
theorem f33_ok {G0 : Gm} {w0 : World} (hS0 : Sat G0 w0) {x0 : (List UInt8)} {x1 : Int}  {r : (List (List UInt8))} (H : f33 x0 x1 = some r) :
  Calls Tryz.prog 33 #[zs x0, .int .u8 x1] w0 (RetG G0 w0 (fun G v => ∃ (ra0 : Option Addr) (rn0 rc0 : Nat), v = zl ra0 rn0 rc0 ∧ RSl RStr 1 G ra0 rn0 rc0 r)) := by
 have hS := Since.start hS0
 have hO : Owns G0 w0 w0.heap.size [] := Owns.nil (Nat.le_refl _)
 unfold f33 at H
 refine enter1 (N := 34) (shutG _ _ _) Tryz.func33 rfl rfl rfl rfl ?_; refine zS ?_; refine zy (zl none 0 0) rfl rfl ?_; refine zN ?_; refine zS ?_; refine zy (zl none 0 0) rfl rfl ?_; refine zN ?_; refine zS ?_; refine zy (zi 0) rfl rfl ?_; refine zN ?_; refine zQ ?_; refine zS ?_; refine zy (zi 0) rfl rfl ?_; refine zN ?_; have hO := hO.cons_nil 9 1; obtain ⟨q4, hq4, H⟩ := bnd H; refine zM (fun F w => ∃ (Fb : Fr) (G : Gm) (aq4_0 : Option Addr) (nq4_0 cq4_0 : Nat) (claq4_0 : List Value), F = upds Fb [(0, zs x0), (5, zl aq4_0 nq4_0 cq4_0), (6, zi q4.2)] ∧ Gle G0 G ∧ Since w0.heap.size G0 w0 G w ∧ Owns G w w0.heap.size [⟨9, 1, nq4_0, zl aq4_0 nq4_0 cq4_0, claq4_0⟩] ∧ nq4_0 = q4.1.length ∧ Rd RStr 1 G claq4_0 q4.1) ?_ ?_
 ·refine WC_block (WC_loop hq4 (fun s2 F w => ∃ (Fb : Fr) (G : Gm) (as2_0 : Option Addr) (ns2_0 cs2_0 : Nat) (clas2_0 : List Value), F = upds Fb [(0, zs x0), (1, .int .u8 x1), (5, zl as2_0 ns2_0 cs2_0), (6, zi s2.2.1), (7, zi s2.2.2)] ∧ Gle G0 G ∧ Since w0.heap.size G0 w0 G w ∧ Owns G w w0.heap.size [⟨9, 1, ns2_0, zl as2_0 ns2_0 cs2_0, clas2_0⟩] ∧ ns2_0 = s2.1.length ∧ Rd RStr 1 G clas2_0 s2.1) ?_ ?_)
  ·have hO : Owns _ _ _ ([⟨9, 1, 0, zl none 0 0, []⟩]) := hO
   exact ⟨_, G0, none, 0, 0, [], upds_self _ _ ⟨rfl, rfl, rfl, rfl, rfl, trivial⟩, Gle.refl _, hS, hO, rfl, (Rd.nil RStr 1 G0)⟩
  ·rintro s2 F w6 t5 ⟨Fb, G7, as2_0, ns2_0, cs2_0, clas2_0, rfl, leG7, hS, hO, hnhs2_0, hs2_0⟩
   intro H1 hqq4
   have Hoq4 := H; have H := H1
   unfold f33_b0 at H
   refine zQ ?_; refine zS ?_; refine zx (zi s2.2.2) rfl rfl ?_; refine zx (zs x0) rfl rfl ?_; refine zV (rn_lenS Tryz.underlying9 rfl rfl) rfl ?_; refine zV (rn_lss rfl rfl) rfl ?_; refine zN ?_; refine zT rfl (fun hb8 => ?_) (fun hb8 => ?_)
   ·have H := ifT hb8 H; refine zP ?_; refine zQ ?_; obtain ⟨q9, hq9, H⟩ := bnd H; refine zM (fun F w => ∃ (Fb : Fr) (G : Gm) (aq9_0 : Option Addr) (nq9_0 cq9_0 : Nat) (claq9_0 : List Value), F = upds Fb [(0, zs x0), (1, .int .u8 x1), (5, zl aq9_0 nq9_0 cq9_0), (6, zi q9.2), (7, zi s2.2.2)] ∧ Gle G7 G ∧ Since w0.heap.size G0 w0 G w ∧ Owns G w w0.heap.size [⟨9, 1, nq9_0, zl aq9_0 nq9_0 cq9_0, claq9_0⟩] ∧ nq9_0 = q9.1.length ∧ Rd RStr 1 G claq9_0 q9.1) ?_ ?_
    ·have Hoq9 := H; have H := hq9; refine WC_block ?_; refine zS ?_; refine zx (zs x0) rfl rfl ?_; refine zx (zi s2.2.2) rfl rfl ?_; obtain ⟨y10, hy10, H⟩ := bnd H; refine zV (rn_idxS Tryz.underlying9 rfl rfl hy10) rfl ?_; refine zx (.int .u8 x1) rfl rfl ?_; refine zV (rn_eql rfl rfl) rfl ?_; refine zN ?_; refine zT rfl (fun hb11 => ?_) (fun hb11 => ?_)
     ·have H := ifT hb11 H; refine zS ?_; refine zx (zl as2_0 ns2_0 cs2_0) rfl rfl ?_; refine zx (zs x0) rfl rfl ?_; refine zx (zi s2.2.1) rfl rfl ?_; refine zx (zi s2.2.2) rfl rfl ?_; obtain ⟨y12, hy12, H⟩ := bnd H; refine zV (rn_sliceS Tryz.underlying9 rfl rfl rfl hy12) rfl ?_
      refine zO rfl (zW (v := fun b => zl (some ⟨b, 0, none⟩) 1 1) (cs := [zs y12]) (e := 9) (by kernel_rfl) hS.sat rfl (fun b13 G15 w14 hg hcb13 => ?_))
      have hS := hS.grow hg; have hO := hO.grow hg
      have leG15 := hg.le
      have hfb13 : RSl RStr 1 G15 (some ⟨b13, 0, none⟩) 1 1 [y12] := RSl.of_rd hcb13 (Rd.cons (c := [zs y12]) rfl rfl (Rd.nil RStr 1 _)) rfl (by decide)
      obtain ⟨y16, hy16, H⟩ := bnd H; refine zO rfl (OpP_append (k := 0) sl66 RStr_one hS hO rfl hnhs2_0 (hs2_0.mono RStr_mono leG15) hfb13 hy16 rfl rfl rfl rfl rfl (fun aw17 cw17 w17 clw17 hS hO hrw17 => ?_))
      have hO : Owns _ _ _ ([⟨9, 1, y16.length, zl aw17 y16.length cw17, clw17⟩]) := hO
      refine zy (zl aw17 y16.length cw17) rfl rfl ?_; refine zN ?_; refine zR ?_; refine zx (zi s2.2.2) rfl rfl ?_; refine zV (rn_add rfl rfl) rfl ?_; refine zy (zi (IntKind.i64.wrap (s2.2.2 + 1))) rfl rfl ?_; refine zN ?_
      have hO : Owns _ _ _ ([⟨9, 1, y16.length, zl aw17 y16.length cw17, clw17⟩]) := hO
      have H := oi H; subst H
      exact ⟨_, G15, aw17, y16.length, cw17, clw17, upds_self _ _ ⟨rfl, rfl, rfl, rfl, rfl, trivial⟩, leG15, hS, hO, rfl, hrw17⟩
     ·have H := ifF hb11 H; refine zP ?_
      have hO : Owns _ _ _ ([⟨9, 1, ns2_0, zl as2_0 ns2_0 cs2_0, clas2_0⟩]) := hO
      have H := oi H; subst H
      exact ⟨_, G7, as2_0, ns2_0, cs2_0, clas2_0, upds_self _ _ ⟨rfl, rfl, rfl, rfl, rfl, trivial⟩, Gle.refl _, hS, hO, hnhs2_0, hs2_0⟩
    ·rintro F w18 ⟨Fb, G19, aq9_0, nq9_0, cq9_0, claq9_0, rfl, leG19, hS, hO, hnhq9_0, hq9_0⟩
     refine zR ?_; refine zx (zi s2.2.2) rfl rfl ?_; refine zV (rn_add rfl rfl) rfl ?_; refine zy (zi (IntKind.i64.wrap (s2.2.2 + 1))) rfl rfl ?_; refine zN ?_
     have hO : Owns _ _ _ ([⟨9, 1, nq9_0, zl aq9_0 nq9_0 cq9_0, claq9_0⟩]) := hO
     have H := oi H; subst H; refine ⟨_, rfl, ?_⟩
     have l0_2 := leG7.trans leG19
     exact ⟨_, G19, aq9_0, nq9_0, cq9_0, claq9_0, upds_self _ _ ⟨rfl, rfl, rfl, rfl, rfl, trivial⟩, l0_2, hS, hO, hnhq9_0, hq9_0⟩
   ·have H := ifF hb8 H; refine WC_exit rfl ?_
    have hO : Owns _ _ _ ([⟨9, 1, ns2_0, zl as2_0 ns2_0 cs2_0, clas2_0⟩]) := hO
    have H := oi H; subst H
    have hres := hqq4 _ rfl
    subst hres
    exact ⟨_, G7, as2_0, ns2_0, cs2_0, clas2_0, upds_self _ _ ⟨rfl, rfl, rfl, trivial⟩, leG7, hS, hO, hnhs2_0, hs2_0⟩
 ·rintro F w20 ⟨Fb, G21, aq4_0, nq4_0, cq4_0, claq4_0, rfl, leG21, hS, hO, hnhq4_0, hq4_0⟩
  refine zS ?_; refine zx (zl aq4_0 nq4_0 cq4_0) rfl rfl ?_; refine zx (zs x0) rfl rfl ?_; refine zx (zi q4.2) rfl rfl ?_; obtain ⟨y22, hy22, H⟩ := bnd H; refine zV (rn_sliceSL Tryz.underlying9 rfl rfl hy22) rfl ?_
  refine zO rfl (zW (v := fun b => zl (some ⟨b, 0, none⟩) 1 1) (cs := [zs y22]) (e := 9) (by kernel_rfl) hS.sat rfl (fun b23 G25 w24 hg hcb23 => ?_))
  have hS := hS.grow hg; have hO := hO.grow hg
  have leG25 := hg.le
  have hfb23 : RSl RStr 1 G25 (some ⟨b23, 0, none⟩) 1 1 [y22] := RSl.of_rd hcb23 (Rd.cons (c := [zs y22]) rfl rfl (Rd.nil RStr 1 _)) rfl (by decide)
  obtain ⟨y26, hy26, H⟩ := bnd H; refine zO rfl (OpP_append (k := 0) sl66 RStr_one hS hO rfl hnhq4_0 (hq4_0.mono RStr_mono leG25) hfb23 hy26 rfl rfl rfl rfl rfl (fun aw27 cw27 w27 clw27 hS hO hrw27 => ?_))
  have hO : Owns _ _ _ ([⟨9, 1, y26.length, zl aw27 y26.length cw27, clw27⟩]) := hO
  refine zy (zl aw27 y26.length cw27) rfl rfl ?_; refine zN ?_; refine WC_ret ?_; obtain ⟨G28, leG28, hS, hO, hfG28⟩ := hO.freezeS hS RStr_mono (k := 0) rfl hrw27 rfl
  have H : some y26 = some r := H
  have H := oi H; subst H
  exact ⟨_, _, rfl, hS.toGrow, _, _, _, rfl, hfG28⟩
set_option maxHeartbeats 1000000 in
theorem f62_ok {G0 : Gm} {w0 : World} (hS0 : Sat G0 w0) {x0 : (List UInt8)}  {r : Int × Bool} (H : f62 x0 = some r) :
  Calls Tryz.prog 62 #[zs x0] w0 (RetV w0 (.tuple #[zi r.1, .bool r.2])) := by
 have hS := Since.start hS0
 have hO : Owns G0 w0 w0.heap.size [] := Owns.nil (Nat.le_refl _)
 unfold f62 at H
 refine enter2 (N := 60) (shutV _ _) Tryz.func62 rfl rfl rfl rfl ?_; refine zS ?_; refine zy (zi 0) rfl rfl ?_; refine zy (.bool false) rfl rfl ?_; refine zN ?_; refine zQ ?_; obtain ⟨q1, hq1, H⟩ := bnd H; refine zM (fun F w => ∃ (Fb : Fr) (G : Gm), F = upds Fb [(0, zs x0), (4, .string ⟨q1.1.toArray⟩), (5, .bool q1.2)] ∧ Gle G0 G ∧ Since w0.heap.size G0 w0 G w ∧ Owns G w w0.heap.size []) ?_ ?_
 ·have Hoq1 := H; have H := hq1; have hS := hS.keep (below_drew _); have hO := hO.below (below_drew _)
  refine WC_regionD mixedO (fun _ w => Sat G0 w ∧ True) (.fl 0 (.on 1 (.on 2 (.on 3 (.on 4 (.fl 5 (.fl 6 (.fl 7 (.fl 8 (.on 9 (.on 10 .nil))))))))))) (by kernel_rfl) rfl (by kernel_rfl) (fun _ => ⟨hS.sat, trivial⟩) ?_
  refine zD rfl (fun w hw => zm (v := (zs x0)) rfl) rfl ?_; refine zE rfl rfl (OpP_val (zm (v := (zs x0)) rfl) rfl ?_); refine ⟨fun _ _ => ⟨hS.sat, trivial⟩, ?_⟩; refine zE rfl rfl (OpP_val (rn_lenS Tryz.underlying9 rfl rfl) rfl ?_); refine ⟨fun _ _ => ⟨hS.sat, trivial⟩, ?_⟩; refine zE rfl rfl (OpP_val (rn_gtr rfl rfl) rfl ?_); refine ⟨fun _ _ => ⟨hS.sat, trivial⟩, ?_⟩; refine zE rfl rfl (OpP_val (zm (v := (.bool (decide (0 < (x0.length : Int))))) rfl) rfl ?_); refine ⟨fun _ _ => ⟨hS.sat, trivial⟩, ?_⟩
  rcases bcases (decide (0 < (x0.length : Int))) with hb2 | hb2
  ·have H := ifT hb2 H; refine zB rfl rfl hb2 rfl rfl (fun w hw => zm (v := (zs x0)) rfl) rfl ?_; obtain ⟨y3, hy3, H⟩ := bnd H; refine zB rfl rfl hb2 rfl rfl (fun w hw => rn_idxS Tryz.underlying9 rfl rfl hy3) rfl ?_; refine zB rfl rfl hb2 rfl rfl (fun w hw => rn_eql rfl rfl) rfl ?_; refine zD rfl (fun w hw => rn_pickT (v := (.bool ((y3.toNat : Int) == 45))) rfl hb2 rfl) rfl ?_; refine zE rfl rfl (OpP_val (zA (v := (zs x0)) rfl) rfl ?_); refine ⟨fun _ _ => ⟨hS.sat, trivial⟩, ?_⟩; refine zE rfl rfl (OpP_val (zA (v := (.bool ((y3.toNat : Int) == 45))) rfl) rfl ?_)
   refine ⟨fun _ h => noneed (by kernel_rfl) h, ?_⟩
   refine zI ?_
   have hO : Owns _ _ _ ([]) := hO
   have H := oi H; subst H
   exact ⟨_, G0, upds_self _ _ ⟨rfl, rfl, rfl, trivial⟩, Gle.refl _, hS, hO⟩
  ·have H := ifF hb2 H; refine zK rfl rfl hb2 rfl rfl rfl ?_; refine zK rfl rfl hb2 rfl rfl rfl ?_; refine zK rfl rfl hb2 rfl rfl rfl ?_; refine zD rfl (fun w hw => rn_pickF (v := (.bool false)) rfl hb2 rfl) rfl ?_; refine zE rfl rfl (OpP_val (zA (v := (zs x0)) rfl) rfl ?_); refine ⟨fun _ _ => ⟨hS.sat, trivial⟩, ?_⟩; refine zE rfl rfl (OpP_val (zA (v := (.bool false)) rfl) rfl ?_)
   refine ⟨fun _ h => noneed (by kernel_rfl) h, ?_⟩
   refine zI ?_
   have hO : Owns _ _ _ ([]) := hO
   have H := oi H; subst H
   exact ⟨_, G0, upds_self _ _ ⟨rfl, rfl, rfl, trivial⟩, Gle.refl _, hS, hO⟩
 ·rintro F w4 ⟨Fb, G5, rfl, leG5, hS, hO⟩
  refine zQ ?_; obtain ⟨q6, hq6, H⟩ := bnd H; refine zM (fun F w => ∃ (Fb : Fr), F = upds Fb [(0, zs x0), (4, zs q6), (5, .bool q1.2)] ∧ w4 = w) ?_ ?_
  ·have Hoq6 := H; have H := hq6; refine zS ?_; refine zx (.bool q1.2) rfl rfl ?_; refine zN ?_; refine zT rfl (fun hb7 => ?_) (fun hb7 => ?_)
   ·have H := ifT hb7 H; refine zR ?_; refine zx (zs x0) rfl rfl ?_; obtain ⟨y8, hy8, H⟩ := bnd H; refine zV (rn_sliceSL Tryz.underlying9 rfl rfl hy8) rfl ?_; refine zy (zs y8) rfl rfl ?_; refine zN ?_; have H := oi H; subst H
    exact ⟨_, upds_self _ _ ⟨rfl, rfl, rfl, trivial⟩, rfl⟩
   ·have H := ifF hb7 H; refine zP ?_; have H := oi H; subst H
    exact ⟨_, upds_self _ _ ⟨rfl, rfl, rfl, trivial⟩, rfl⟩
  ·rintro F wl ⟨Fb, rfl, rfl⟩
   refine zQ ?_; refine zQ ?_; obtain ⟨q11, hq11, H⟩ := bnd H; refine zM (fun F w => ∃ (Fb : Fr), F = upds Fb [(0, zs x0), (4, zs q6), (5, .bool q1.2), (27, .bool q11)] ∧ w4 = w) ?_ ?_
   ·have Hoq11 := H; have H := hq11; refine zR ?_; refine zx (zs q6) rfl rfl ?_; refine zV (rn_lenS Tryz.underlying9 rfl rfl) rfl ?_; refine zV (rn_eql rfl rfl) rfl ?_; refine zx (.bool ((q6.length : Int) == 0)) rfl rfl ?_
    rcases bcases ((q6.length : Int) == 0) with hb12 | hb12
    ·have H := ifT hb12 H; refine zG rfl hb12 rfl rfl rfl ?_; refine zG rfl hb12 rfl rfl rfl ?_; refine zG rfl hb12 rfl rfl rfl ?_; refine zV (rn_pickT (v := (.bool true)) rfl hb12 rfl) rfl ?_; refine zN ?_; have H := oi H; subst H
     exact ⟨_, upds_self _ _ ⟨rfl, rfl, rfl, rfl, trivial⟩, rfl⟩
    ·have H := ifF hb12 H; refine zY rfl hb12 rfl rfl ?_; refine zx (zs q6) rfl rfl ?_; refine zY rfl hb12 rfl rfl ?_; refine zV (rn_lenS Tryz.underlying9 rfl rfl) rfl ?_; refine zY rfl hb12 rfl rfl ?_; refine zV (rn_gtr rfl rfl) rfl ?_; refine zV (rn_pickF (v := (.bool (decide (4 < (q6.length : Int))))) rfl hb12 rfl) rfl ?_; refine zN ?_; have H := oi H; subst H
     exact ⟨_, upds_self _ _ ⟨rfl, rfl, rfl, rfl, trivial⟩, rfl⟩
   ·rintro F wl ⟨Fb, rfl, rfl⟩
    refine zT rfl (fun hb15 => ?_) (fun hb15 => ?_)
    ·have H := ifT hb15 H; refine zS ?_; refine zy (zi 0) rfl rfl ?_; refine zy (.bool false) rfl rfl ?_; refine zN ?_; refine WC_ret ?_
     have H : some (0, false) = some r := H
     have H := oi H; subst H
     exact ⟨rfl, hS.below⟩
    ·have H := ifF hb15 H; refine zP ?_; refine zS ?_; refine zy (zi 0) rfl rfl ?_; refine zN ?_; refine zQ ?_; refine zS ?_; refine zy (zi 0) rfl rfl ?_; refine zN ?_; obtain ⟨q18, hq18, H⟩ := bnd H; refine zM (fun F w => ∃ (p17 : Int) (Fb : Fr), q18 = .inl p17 ∧ F = upds Fb [(0, zs x0), (5, .bool q1.2), (6, zi p17)] ∧ w4 = w) ?_ ?_
     ·refine WC_block (WC_loop hq18 (fun s16 F w => ∃ (Fb : Fr), F = upds Fb [(0, zs x0), (4, zs q6), (5, .bool q1.2), (6, zi s16.1), (7, zi s16.2)] ∧ w4 = w) ?_ ?_)
      ·exact ⟨_, upds_self _ _ ⟨rfl, rfl, rfl, rfl, rfl, trivial⟩, rfl⟩
      ·rintro s16 F wl t19 ⟨Fb, rfl, rfl⟩
       intro H1 hqq18
       have Hoq18 := H; have H := H1
       unfold f62_b0 at H
       refine zQ ?_; refine zS ?_; refine zx (zi s16.2) rfl rfl ?_; refine zx (zs q6) rfl rfl ?_; refine zV (rn_lenS Tryz.underlying9 rfl rfl) rfl ?_; refine zV (rn_lss rfl rfl) rfl ?_; refine zN ?_; refine zT rfl (fun hb22 => ?_) (fun hb22 => ?_)
       ·have H := ifT hb22 H; refine zP ?_; refine zQ ?_; refine WC_block ?_; refine zQ ?_; refine zQ ?_; obtain ⟨q23, hq23, H⟩ := bnd H; refine zM (fun F w => ∃ (Fb : Fr), F = upds Fb [(0, zs x0), (4, zs q6), (5, .bool q1.2), (6, zi s16.1), (7, zi s16.2), (43, .bool q23)] ∧ w4 = w) ?_ ?_
        ·have Hoq23 := H; have H := hq23; refine zR ?_; refine zx (zs q6) rfl rfl ?_; refine zx (zi s16.2) rfl rfl ?_; obtain ⟨y24, hy24, H⟩ := bnd H; refine zV (rn_idxS Tryz.underlying9 rfl rfl hy24) rfl ?_; refine zV (rn_lss rfl rfl) rfl ?_; refine zV (zm (v := (.bool (decide ((y24.toNat : Int) < 48)))) rfl) rfl ?_
         rcases bcases (decide ((y24.toNat : Int) < 48)) with hb25 | hb25
         ·have H := ifT hb25 H; refine zG rfl hb25 rfl rfl rfl ?_; refine zG rfl hb25 rfl rfl rfl ?_; refine zG rfl hb25 rfl rfl rfl ?_; refine zG rfl hb25 rfl rfl rfl ?_; refine zV (rn_pickT (v := (.bool true)) rfl hb25 rfl) rfl ?_; refine zN ?_; have H := oi H; subst H
          exact ⟨_, upds_self _ _ ⟨rfl, rfl, rfl, rfl, rfl, rfl, trivial⟩, rfl⟩
         ·have H := ifF hb25 H; refine zY rfl hb25 rfl rfl ?_; refine zx (zs q6) rfl rfl ?_; refine zY rfl hb25 rfl rfl ?_; refine zx (zi s16.2) rfl rfl ?_; refine zY rfl hb25 rfl rfl ?_; obtain ⟨y26, hy26, H⟩ := bnd H; refine zV (rn_idxS Tryz.underlying9 rfl rfl hy26) rfl ?_; refine zY rfl hb25 rfl rfl ?_; refine zV (rn_gtr rfl rfl) rfl ?_; refine zV (rn_pickF (v := (.bool (decide (57 < (y26.toNat : Int))))) rfl hb25 rfl) rfl ?_; refine zN ?_; have H := oi H; subst H
          exact ⟨_, upds_self _ _ ⟨rfl, rfl, rfl, rfl, rfl, rfl, trivial⟩, rfl⟩
        ·rintro F wl ⟨Fb, rfl, rfl⟩
         refine zT rfl (fun hb29 => ?_) (fun hb29 => ?_)
         ·have H := ifT hb29 H; refine zS ?_; refine zy (zi 0) rfl rfl ?_; refine zy (.bool false) rfl rfl ?_; refine zN ?_; refine WC_ret ?_; have H := oi H; subst H
          have hres := hqq18 _ rfl
          subst hres; have H := Hoq18
          have H : some (0, false) = some r := H
          have H := oi H; subst H
          exact ⟨rfl, hS.below⟩
         ·have H := ifF hb29 H; refine zP ?_; refine zR ?_; refine zx (zi s16.1) rfl rfl ?_; refine zV (rn_mul rfl rfl) rfl ?_; refine zx (zs q6) rfl rfl ?_; refine zx (zi s16.2) rfl rfl ?_; obtain ⟨y30, hy30, H⟩ := bnd H; refine zV (rn_idxS Tryz.underlying9 rfl rfl hy30) rfl ?_; refine zV (rn_sub rfl rfl) rfl ?_; refine zV (rn_conv Tryz.underlying5 Tryz.underlying3 rfl) rfl ?_; refine zV (rn_add rfl rfl) rfl ?_; refine zV (zA (v := (zi (IntKind.i64.wrap ((IntKind.i64.wrap (10 * s16.1)) + (IntKind.i64.wrap (IntKind.u8.wrap ((y30.toNat : Int) - 48))))))) rfl) rfl ?_; refine zN ?_; refine zR ?_; refine zx (zi s16.2) rfl rfl ?_; refine zV (rn_add rfl rfl) rfl ?_; refine zy (zi (IntKind.i64.wrap (s16.2 + 1))) rfl rfl ?_; refine zN ?_; have H := oi H; subst H; refine ⟨_, rfl, ?_⟩
          exact ⟨_, upds_self _ _ ⟨rfl, rfl, rfl, rfl, rfl, trivial⟩, rfl⟩
       ·have H := ifF hb22 H; refine WC_exit rfl ?_; have H := oi H; subst H
        have hres := hqq18 _ rfl
        subst hres
        exact ⟨_, _, rfl, upds_self _ _ ⟨rfl, rfl, rfl, trivial⟩, rfl⟩
     ·rintro F wl ⟨p17, Fb, rfl, rfl, rfl⟩
      refine zQ ?_; obtain ⟨q33, hq33, H⟩ := bnd H; refine zM (fun F w => ∃ (Fb : Fr), F = upds Fb [(0, zs x0), (6, zi q33)] ∧ w4 = w) ?_ ?_
      ·have Hoq33 := H; have H := hq33; refine zS ?_; refine zx (.bool q1.2) rfl rfl ?_; refine zN ?_; refine zT rfl (fun hb34 => ?_) (fun hb34 => ?_)
       ·have H := ifT hb34 H; refine zR ?_; refine zx (zi p17) rfl rfl ?_; refine zV (rn_neg rfl) rfl ?_; refine zy (zi (IntKind.i64.wrap (0 - p17))) rfl rfl ?_; refine zN ?_; have H := oi H; subst H
        exact ⟨_, upds_self _ _ ⟨rfl, rfl, trivial⟩, rfl⟩
       ·have H := ifF hb34 H; refine zP ?_; have H := oi H; subst H
        exact ⟨_, upds_self _ _ ⟨rfl, rfl, trivial⟩, rfl⟩
      ·rintro F wl ⟨Fb, rfl, rfl⟩
       refine zS ?_; refine zx (zi q33) rfl rfl ?_; refine zx (zi q33) rfl rfl ?_; obtain ⟨y37, hy37, H⟩ := bnd H; refine zO rfl (zC cb30 (f30_ok _ (x0 := q33) hS.sat  hy37) rfl rfl (fun w38 hb => ?_)); have hS := hS.keep hb; have hO := hO.below hb; refine zx (zs x0) rfl rfl ?_; refine zV (rn_eqlS rfl rfl) rfl ?_; refine zy (zi q33) rfl rfl ?_; refine zy (.bool (y37 == x0)) rfl rfl ?_; refine zN ?_; refine WC_ret ?_
       have H : some (q33, y37 == x0) = some r := H
       have H := oi H; subst H
       exact ⟨rfl, hS.below⟩
set_option maxHeartbeats 1000000 in
theorem f34_ok {G0 : Gm} {w0 : World} (hS0 : Sat G0 w0) {x0 : (List UInt8)} {x1 : (List UInt8)} {x2 : Int}  {r : (List Int) × Bool} (H : f34 x0 x1 x2 = some r) :
  Calls Tryz.prog 34 #[zs x0, zs x1, zi x2] w0 (RetG G0 w0 (fun G v => ∃ (ra0 : Option Addr) (rn0 rc0 : Nat), v = .tuple #[zl ra0 rn0 rc0, .bool r.2] ∧ RSl RInt 1 G ra0 rn0 rc0 r.1)) := by
 have hS := Since.start hS0
 have hO : Owns G0 w0 w0.heap.size [] := Owns.nil (Nat.le_refl _)
 unfold f34 at H
 refine enter2 (N := 63) (shutG _ _ _) Tryz.func34 rfl rfl rfl rfl ?_; refine zS ?_; refine zy (zl none 0 0) rfl rfl ?_; refine zy (.bool false) rfl rfl ?_; refine zN ?_; refine zS ?_; refine zx (zs x0) rfl rfl ?_; obtain ⟨y1, hy1, H⟩ := bnd H; refine zO rfl (OpP_callG cb33 (f33_ok (x0 := x0) (x1 := 32) hS.sat  hy1) rfl rfl (fun vy1 G3 w2 hg hvy1 => ?_)); obtain ⟨a4, n4, c4, ⟨⟩, h4⟩ := hvy1; have hS := hS.grow hg; have hO := hO.grow hg
 have leG3 := hg.le
 refine zy (zl a4 n4 c4) rfl rfl ?_; refine zN ?_; refine zQ ?_; refine zQ ?_; obtain ⟨q5, hq5, H⟩ := bnd H; refine zM (fun F w => ∃ (Fb : Fr), F = upds Fb [(1, zs x1), (8, zl a4 n4 c4), (26, .bool q5)] ∧ w2 = w) ?_ ?_
 ·have Hoq5 := H; have H := hq5; refine zR ?_; refine zx (zl a4 n4 c4) rfl rfl ?_; refine zV (rn_len sl66 rfl rfl h4.1) rfl ?_; refine zx (zi x2) rfl rfl ?_; refine zV (rn_add rfl rfl) rfl ?_; refine zV (rn_neq rfl rfl) rfl ?_; refine zV (zm (v := (.bool ((y1.length : Int) != (IntKind.i64.wrap (x2 + 1))))) rfl) rfl ?_
  rcases bcases ((y1.length : Int) != (IntKind.i64.wrap (x2 + 1))) with hb6 | hb6
  ·have H := ifT hb6 H; refine zG rfl hb6 rfl rfl rfl ?_; refine zG rfl hb6 rfl rfl rfl ?_; refine zG rfl hb6 rfl rfl rfl ?_; refine zG rfl hb6 rfl rfl rfl ?_; refine zG rfl hb6 rfl rfl rfl ?_; refine zV (rn_pickT (v := (.bool true)) rfl hb6 rfl) rfl ?_; refine zN ?_; have H := oi H; subst H
   exact ⟨_, upds_self _ _ ⟨rfl, rfl, rfl, trivial⟩, rfl⟩
  ·have H := ifF hb6 H; refine zY rfl hb6 rfl rfl ?_; refine zx (zl a4 n4 c4) rfl rfl ?_; refine zY rfl hb6 rfl rfl ?_; obtain ⟨y7, hy7, H⟩ := bnd H; refine WL_idx sl66 h4 hy7 rfl rfl rfl ?_
   rintro b8 o8 _ hcb8 _ ⟨⟩
   refine zY rfl hb6 rfl rfl ?_; refine zV (zL na9 rfl (hS.sat.cell (hcb8 0 _ rfl))) rfl ?_; refine zY rfl hb6 rfl rfl ?_; refine zx (zs x1) rfl rfl ?_; refine zY rfl hb6 rfl rfl ?_; refine zV (rn_neqS rfl rfl) rfl ?_; refine zV (rn_pickF (v := (.bool (!(y7 == x1)))) rfl hb6 rfl) rfl ?_; refine zN ?_; have H := oi H; subst H
   exact ⟨_, upds_self _ _ ⟨rfl, rfl, rfl, trivial⟩, rfl⟩
 ·rintro F wl ⟨Fb, rfl, rfl⟩
  refine zT rfl (fun hb11 => ?_) (fun hb11 => ?_)
  ·have H := ifT hb11 H; refine zS ?_; refine zy (zl none 0 0) rfl rfl ?_; refine zy (.bool false) rfl rfl ?_; refine zN ?_; refine WC_ret ?_
   have H : some ([], false) = some r := H
   have H := oi H; subst H
   exact ⟨_, _, rfl, hS.toGrow, _, _, _, rfl, (RSl.nil RInt 1 G3 none)⟩
  ·have H := ifF hb11 H; refine zP ?_; refine zS ?_; refine zy (zl none 0 0) rfl rfl ?_; refine zN ?_; refine zQ ?_; refine zS ?_; refine zy (zi 1) rfl rfl ?_; refine zN ?_; have hO := hO.cons_nil 3 1; obtain ⟨q15, hq15, H⟩ := bnd H; refine zM (fun F w => ∃ (p14 : (List Int)) (Fb : Fr) (G : Gm) (ap14_0 : Option Addr) (np14_0 cp14_0 : Nat) (clap14_0 : List Value), q15 = .inl p14 ∧ F = upds Fb [(9, zl ap14_0 np14_0 cp14_0)] ∧ Gle G3 G ∧ Since w0.heap.size G0 w0 G w ∧ Owns G w w0.heap.size [⟨3, 1, np14_0, zl ap14_0 np14_0 cp14_0, clap14_0⟩] ∧ np14_0 = p14.length ∧ Rd RInt 1 G clap14_0 p14) ?_ ?_
   ·refine WC_block (WC_loop hq15 (fun s13 F w => ∃ (Fb : Fr) (G : Gm) (as13_0 : Option Addr) (ns13_0 cs13_0 : Nat) (clas13_0 : List Value), F = upds Fb [(1, zs x1), (8, zl a4 n4 c4), (9, zl as13_0 ns13_0 cs13_0), (10, zi s13.2)] ∧ Gle G3 G ∧ Since w0.heap.size G0 w0 G w ∧ Owns G w w0.heap.size [⟨3, 1, ns13_0, zl as13_0 ns13_0 cs13_0, clas13_0⟩] ∧ ns13_0 = s13.1.length ∧ Rd RInt 1 G clas13_0 s13.1) ?_ ?_)
    ·have hO : Owns _ _ _ ([⟨3, 1, 0, zl none 0 0, []⟩]) := hO
     exact ⟨_, G3, none, 0, 0, [], upds_self _ _ ⟨rfl, rfl, rfl, rfl, trivial⟩, Gle.refl _, hS, hO, rfl, (Rd.nil RInt 1 G3)⟩
    ·rintro s13 F w17 t16 ⟨Fb, G18, as13_0, ns13_0, cs13_0, clas13_0, rfl, leG18, hS, hO, hnhs13_0, hs13_0⟩
     intro H1 hqq15
     have Hoq15 := H; have H := H1
     unfold f34_b0 at H
     refine zQ ?_; refine zS ?_; refine zx (zi s13.2) rfl rfl ?_; refine zx (zl a4 n4 c4) rfl rfl ?_; refine zV (rn_len sl66 rfl rfl (h4.mono RStr_mono leG18).1) rfl ?_; refine zV (rn_lss rfl rfl) rfl ?_; refine zN ?_; refine zT rfl (fun hb19 => ?_) (fun hb19 => ?_)
     ·have H := ifT hb19 H; refine zP ?_; refine zQ ?_; refine WC_block ?_; refine zS ?_; refine zx (zl a4 n4 c4) rfl rfl ?_; refine zx (zi s13.2) rfl rfl ?_; obtain ⟨y20, hy20, H⟩ := bnd H; refine WL_idx sl66 (h4.mono RStr_mono leG18) hy20 rfl rfl rfl ?_
      rintro b21 o21 _ hcb21 _ ⟨⟩
      refine zV (zL na9 rfl (hS.sat.cell (hcb21 0 _ rfl))) rfl ?_; obtain ⟨y22, hy22, H⟩ := bnd H; refine zO rfl (zC cb62 (f62_ok (x0 := y20) hS.sat  hy22) rfl rfl (fun w23 hb => ?_)); have hS := hS.keep hb; have hO := hO.below hb; refine zx (.tuple #[zi y22.1, .bool y22.2]) rfl rfl ?_; refine zV (zX (v := (zi y22.1)) rfl rfl) rfl ?_; refine zV (zX (v := (.bool y22.2)) rfl rfl) rfl ?_; refine zy (zi y22.1) rfl rfl ?_; refine zy (.bool y22.2) rfl rfl ?_; refine zN ?_; refine zQ ?_; obtain ⟨q24, hq24, H⟩ := bnd H; refine zM (fun F w => ∃ (Fb : Fr), F = upds Fb [(1, zs x1), (8, zl a4 n4 c4), (9, zl as13_0 ns13_0 cs13_0), (10, zi s13.2), (11, zi q24.1), (12, .bool q24.2)] ∧ w23 = w) ?_ ?_
      ·have Hoq24 := H; have H := hq24; refine zQ ?_; obtain ⟨q25, hq25, H⟩ := bnd H; refine zM (fun F w => ∃ (Fb : Fr), F = upds Fb [(1, zs x1), (8, zl a4 n4 c4), (9, zl as13_0 ns13_0 cs13_0), (10, zi s13.2), (11, zi y22.1), (12, .bool y22.2), (49, .bool q25)] ∧ w23 = w) ?_ ?_
       ·have Hoq25 := H; have H := hq25; refine zR ?_; refine zx (zs x1) rfl rfl ?_; refine zV (rn_eqlS rfl rfl) rfl ?_; refine zx (.bool (x1 == ([112, 101, 114, 115, 111, 110] : List UInt8))) rfl rfl ?_
        rcases bcases (x1 == ([112, 101, 114, 115, 111, 110] : List UInt8)) with hb26 | hb26
        ·have H := ifT hb26 H; refine zY rfl hb26 rfl rfl ?_; refine zx (zl a4 n4 c4) rfl rfl ?_; refine zY rfl hb26 rfl rfl ?_; refine zx (zi s13.2) rfl rfl ?_; refine zY rfl hb26 rfl rfl ?_; refine WL_idx sl66 (h4.mono RStr_mono leG18) hy20 rfl rfl rfl ?_
         rintro b27 o27 _ hcb27 _ ⟨⟩
         refine zY rfl hb26 rfl rfl ?_; refine zV (zL na9 rfl (hS.sat.cell (hcb27 0 _ rfl))) rfl ?_; refine zY rfl hb26 rfl rfl ?_; refine zV (rn_eqlS rfl rfl) rfl ?_; refine zV (rn_pickT (v := (.bool (y20 == ([45] : List UInt8)))) rfl hb26 rfl) rfl ?_; refine zN ?_; have H := oi H; subst H
         exact ⟨_, upds_self _ _ ⟨rfl, rfl, rfl, rfl, rfl, rfl, rfl, trivial⟩, rfl⟩
        ·have H := ifF hb26 H; refine zG rfl hb26 rfl rfl rfl ?_; refine zG rfl hb26 rfl rfl rfl ?_; refine zG rfl hb26 rfl rfl rfl ?_; refine zG rfl hb26 rfl rfl rfl ?_; refine zG rfl hb26 rfl rfl rfl ?_; refine zV (rn_pickF (v := (.bool false)) rfl hb26 rfl) rfl ?_; refine zN ?_; have H := oi H; subst H
         exact ⟨_, upds_self _ _ ⟨rfl, rfl, rfl, rfl, rfl, rfl, rfl, trivial⟩, rfl⟩
       ·rintro F wl ⟨Fb, rfl, rfl⟩
        refine zT rfl (fun hb30 => ?_) (fun hb30 => ?_)
        ·have H := ifT hb30 H; refine zR ?_; refine zy (zi (-1)) rfl rfl ?_; refine zy (.bool true) rfl rfl ?_; refine zN ?_; have H := oi H; subst H
         exact ⟨_, upds_self _ _ ⟨rfl, rfl, rfl, rfl, rfl, rfl, trivial⟩, rfl⟩
        ·have H := ifF hb30 H; refine zQ ?_; obtain ⟨q31, hq31, H⟩ := bnd H; refine zM (fun F w => ∃ (Fb : Fr), F = upds Fb [(1, zs x1), (8, zl a4 n4 c4), (9, zl as13_0 ns13_0 cs13_0), (10, zi s13.2), (11, zi y22.1), (12, .bool y22.2), (55, .bool q31)] ∧ w23 = w) ?_ ?_
         ·have Hoq31 := H; have H := hq31; refine zR ?_; refine zx (zs x1) rfl rfl ?_; refine zV (rn_eqlS rfl rfl) rfl ?_; refine zx (.bool (x1 == ([112, 101, 114, 115, 111, 110] : List UInt8))) rfl rfl ?_
          rcases bcases (x1 == ([112, 101, 114, 115, 111, 110] : List UInt8)) with hb32 | hb32
          ·have H := ifT hb32 H; refine zY rfl hb32 rfl rfl ?_; refine zx (zi y22.1) rfl rfl ?_; refine zY rfl hb32 rfl rfl ?_; refine zV (rn_eql rfl rfl) rfl ?_; refine zV (rn_pickT (v := (.bool (y22.1 == (-1)))) rfl hb32 rfl) rfl ?_; refine zN ?_; have H := oi H; subst H
           exact ⟨_, upds_self _ _ ⟨rfl, rfl, rfl, rfl, rfl, rfl, rfl, trivial⟩, rfl⟩
          ·have H := ifF hb32 H; refine zG rfl hb32 rfl rfl rfl ?_; refine zG rfl hb32 rfl rfl rfl ?_; refine zV (rn_pickF (v := (.bool false)) rfl hb32 rfl) rfl ?_; refine zN ?_; have H := oi H; subst H
           exact ⟨_, upds_self _ _ ⟨rfl, rfl, rfl, rfl, rfl, rfl, rfl, trivial⟩, rfl⟩
         ·rintro F wl ⟨Fb, rfl, rfl⟩
          refine zT rfl (fun hb35 => ?_) (fun hb35 => ?_)
          ·have H := ifT hb35 H; refine zR ?_; refine zy (.bool false) rfl rfl ?_; refine zN ?_; have H := oi H; subst H
           exact ⟨_, upds_self _ _ ⟨rfl, rfl, rfl, rfl, rfl, rfl, trivial⟩, rfl⟩
          ·have H := ifF hb35 H; refine zP ?_; have H := oi H; subst H
           exact ⟨_, upds_self _ _ ⟨rfl, rfl, rfl, rfl, rfl, rfl, trivial⟩, rfl⟩
      ·rintro F wl ⟨Fb, rfl, rfl⟩
       refine zQ ?_; refine zS ?_; refine zx (.bool q24.2) rfl rfl ?_; refine zV (rn_not rfl) rfl ?_; refine zN ?_; refine zT rfl (fun hb38 => ?_) (fun hb38 => ?_)
       ·have H := ifT hb38 H; refine zS ?_; refine zy (zl none 0 0) rfl rfl ?_; refine zy (.bool false) rfl rfl ?_; refine zN ?_; refine WC_ret ?_; have H := oi H; subst H
        have hres := hqq15 _ rfl
        subst hres; have H := Hoq15
        have H : some ([], false) = some r := H
        have H := oi H; subst H
        exact ⟨_, _, rfl, hS.toGrow, _, _, _, rfl, (RSl.nil RInt 1 G18 none)⟩
       ·have H := ifF hb38 H; refine zP ?_; refine zR ?_; refine zx (zl as13_0 ns13_0 cs13_0) rfl rfl ?_; refine zx (zi q24.1) rfl rfl ?_
        refine zO rfl (zW (v := fun b => zl (some ⟨b, 0, none⟩) 1 1) (cs := [zi q24.1]) (e := 3) (by kernel_rfl) hS.sat rfl (fun b39 G41 w40 hg hcb39 => ?_))
        have hS := hS.grow hg; have hO := hO.grow hg
        have leG41 := hg.le
        have hfb39 : RSl RInt 1 G41 (some ⟨b39, 0, none⟩) 1 1 [q24.1] := RSl.of_rd hcb39 (Rd.cons (c := [zi q24.1]) rfl rfl (Rd.nil RInt 1 _)) rfl (by decide)
        obtain ⟨y42, hy42, H⟩ := bnd H; refine zO rfl (OpP_append (k := 0) sl41 RInt_one hS hO rfl hnhs13_0 (hs13_0.mono RInt_mono leG41) hfb39 hy42 rfl rfl rfl rfl rfl (fun aw43 cw43 w43 clw43 hS hO hrw43 => ?_))
        have hO : Owns _ _ _ ([⟨3, 1, y42.length, zl aw43 y42.length cw43, clw43⟩]) := hO
        refine zy (zl aw43 y42.length cw43) rfl rfl ?_; refine zN ?_; refine zR ?_; refine zx (zi s13.2) rfl rfl ?_; refine zV (rn_add rfl rfl) rfl ?_; refine zy (zi (IntKind.i64.wrap (s13.2 + 1))) rfl rfl ?_; refine zN ?_
        have hO : Owns _ _ _ ([⟨3, 1, y42.length, zl aw43 y42.length cw43, clw43⟩]) := hO
        have H := oi H; subst H; refine ⟨_, rfl, ?_⟩
        have l1_3 := leG18.trans leG41
        exact ⟨_, G41, aw43, y42.length, cw43, clw43, upds_self _ _ ⟨rfl, rfl, rfl, rfl, trivial⟩, l1_3, hS, hO, rfl, hrw43⟩
     ·have H := ifF hb19 H; refine WC_exit rfl ?_
      have hO : Owns _ _ _ ([⟨3, 1, ns13_0, zl as13_0 ns13_0 cs13_0, clas13_0⟩]) := hO
      have H := oi H; subst H
      have hres := hqq15 _ rfl
      subst hres
      exact ⟨_, _, G18, as13_0, ns13_0, cs13_0, clas13_0, rfl, upds_self _ _ ⟨rfl, trivial⟩, leG18, hS, hO, hnhs13_0, hs13_0⟩
   ·rintro F w44 ⟨p14, Fb, G45, ap14_0, np14_0, cp14_0, clap14_0, rfl, rfl, leG45, hS, hO, hnhp14_0, hp14_0⟩
    refine zS ?_; refine zx (zl ap14_0 np14_0 cp14_0) rfl rfl ?_; refine zy (zl ap14_0 np14_0 cp14_0) rfl rfl ?_; refine zy (.bool true) rfl rfl ?_; refine zN ?_; refine WC_ret ?_; obtain ⟨G46, leG46, hS, hO, hfG46⟩ := hO.freezeS hS RInt_mono (k := 0) rfl hp14_0 hnhp14_0
    have H : some (p14, true) = some r := H
    have H := oi H; subst H
    exact ⟨_, _, rfl, hS.toGrow, _, _, _, rfl, hfG46⟩
set_option maxHeartbeats 1000000 in
theorem f13_ok {G0 : Gm} {w0 : World} (hS0 : Sat G0 w0) {x0 : (List UInt8)}  {r : TLandBook × Bool} (H : f13 x0 = some r) :
  Calls Tryz.prog 13 #[zs x0] w0 (RetG G0 w0 (fun G v => ∃ (ra0 : Option Addr) (rn0 rc0 : Nat) (ra1 : Option Addr) (rn1 rc1 : Nat) (ra2 : Option Addr) (rn2 rc2 : Nat), v = .tuple #[.agg #[zl ra0 rn0 rc0, zl ra1 rn1 rc1, zl ra2 rn2 rc2], .bool r.2] ∧ RSl RTLandPerson 2 G ra0 rn0 rc0 r.1.People ∧ RSl RTLandEvent 2 G ra1 rn1 rc1 r.1.Events ∧ RSl RTLandMemory 4 G ra2 rn2 rc2 r.1.Memories)) := by
 have hS := Since.start hS0
 have hO : Owns G0 w0 w0.heap.size [] := Owns.nil (Nat.le_refl _)
 unfold f13 at H
 refine enterG (N := 201) (shutG _ _ _) [.cell 2 26, .tmp 3] Tryz.func13 rfl rfl rfl rfl ?_; refine zS ?_
 refine zO rfl (zU (v := fun b => zp b) (cs := [zl none 0 0, zl none 0 0, zl none 0 0]) (e := 26) (by kernel_rfl) hS.sat hO rfl 3 1 rfl (by decide) (fun b1 w2 hb hO => ?_))
 have hS := hS.keep hb; refine zy (.bool false) rfl rfl ?_; refine zN ?_; refine zS ?_
 refine zO rfl (zU (v := fun b => zp b) (cs := [zl none 0 0, zl none 0 0, zl none 0 0]) (e := 26) (by kernel_rfl) hS.sat hO rfl 3 1 rfl (by decide) (fun b4 w5 hb hO => ?_))
 have hS := hS.keep hb; refine zN ?_; refine zS ?_; refine zx (zs x0) rfl rfl ?_; obtain ⟨y7, hy7, H⟩ := bnd H; refine zO rfl (OpP_callG cb33 (f33_ok (x0 := x0) (x1 := 10) hS.sat  hy7) rfl rfl (fun vy7 G9 w8 hg hvy7 => ?_)); obtain ⟨a10, n10, c10, ⟨⟩, h10⟩ := hvy7; have hS := hS.grow hg; have hO := hO.grow hg
 have leG9 := hg.le
 refine zy (zl a10 n10 c10) rfl rfl ?_; refine zN ?_; refine zS ?_; refine zx (zl a10 n10 c10) rfl rfl ?_; obtain ⟨y11, hy11, H⟩ := bnd H; refine WL_idx sl66 h10 hy11 rfl rfl rfl ?_
 rintro b12 o12 _ hcb12 _ ⟨⟩
 refine zV (zL na9 rfl (hS.sat.cell (hcb12 0 _ rfl))) rfl ?_; obtain ⟨y13, hy13, H⟩ := bnd H; refine zO rfl (OpP_callG cb34 (f34_ok (x0 := y11) (x1 := ([108, 97, 110, 100] : List UInt8)) (x2 := 3) hS.sat  hy13) rfl rfl (fun vy13 G15 w14 hg hvy13 => ?_)); obtain ⟨a16, n16, c16, ⟨⟩, h16⟩ := hvy13; have hS := hS.grow hg; have hO := hO.grow hg
 have leG15 := hg.le
 refine zx (.tuple #[zl a16 n16 c16, .bool y13.2]) rfl rfl ?_; refine zV (zX (v := (zl a16 n16 c16)) rfl rfl) rfl ?_; refine zV (zX (v := (.bool y13.2)) rfl rfl) rfl ?_; refine zy (zl a16 n16 c16) rfl rfl ?_; refine zy (.bool y13.2) rfl rfl ?_; refine zN ?_; refine zQ ?_; refine zQ ?_; obtain ⟨q17, hq17, H⟩ := bnd H; refine zM (fun F w => ∃ (Fb : Fr) (G : Gm), F = upds Fb [(0, zs x0), (2, zp b1), (4, zp b4), (5, zl a10 n10 c10), (6, zl a16 n16 c16), (64, .bool q17)] ∧ Gle G15 G ∧ Since w0.heap.size G0 w0 G w ∧ Owns G w w0.heap.size [zb 26 3 b4 [zl none 0 0, zl none 0 0, zl none 0 0], zb 26 3 b1 [zl none 0 0, zl none 0 0, zl none 0 0]]) ?_ ?_
 ·have Hoq17 := H; have H := hq17; have hS := hS.keep (below_drew _); have hO := hO.below (below_drew _)
  refine WC_regionD mixedO (fun _ w => Sat G15 w ∧ Owns G15 w w0.heap.size [zb 26 3 b4 [zl none 0 0, zl none 0 0, zl none 0 0], zb 26 3 b1 [zl none 0 0, zl none 0 0, zl none 0 0]]) (.on 0 (.on 1 (.on 2 (.on 3 (.on 4 (.on 5 (.on 6 (.on 7 (.on 8 (.on 9 (.on 10 (.on 11 (.on 12 (.on 13 (.on 14 (.on 15 (.on 16 (.on 17 (.on 18 (.on 19 (.on 20 (.fl 21 (.fl 22 (.fl 23 (.fl 24 (.fl 25 (.fl 26 (.fl 27 (.fl 28 (.fl 29 (.on 30 (.on 31 (.on 32 (.on 33 (.on 34 (.on 35 (.on 36 .nil))))))))))))))))))))))))))))))))))))) (by kernel_rfl) rfl (by kernel_rfl) (fun _ => ⟨hS.sat, hO⟩) ?_
  refine zE rfl rfl (OpP_val (zm (v := (.bool y13.2)) rfl) rfl ?_); refine ⟨fun _ _ => ⟨hS.sat, hO⟩, ?_⟩; refine zE rfl rfl (OpP_val (rn_not rfl) rfl ?_); refine ⟨fun _ _ => ⟨hS.sat, hO⟩, ?_⟩; refine zE rfl rfl (OpP_val (zm (v := (.bool (!y13.2))) rfl) rfl ?_); refine ⟨fun _ _ => ⟨hS.sat, hO⟩, ?_⟩
  rcases bcases (!y13.2) with hb18 | hb18
  ·have H := ifT hb18 H; refine zJ rfl rfl hb18 rfl rfl rfl (fun _ _ => ⟨hS.sat, hO⟩) ?_; refine zJ rfl rfl hb18 rfl rfl rfl (fun _ _ => ⟨hS.sat, hO⟩) ?_; refine zJ rfl rfl hb18 rfl rfl rfl (fun _ _ => ⟨hS.sat, hO⟩) ?_; refine zJ rfl rfl hb18 rfl rfl rfl (fun _ _ => ⟨hS.sat, hO⟩) ?_; refine zE rfl rfl (OpP_val (rn_pickT (v := (.bool true)) rfl hb18 rfl) rfl ?_); refine ⟨fun _ _ => ⟨hS.sat, hO⟩, ?_⟩; refine zE rfl rfl (OpP_val (zm (v := (.bool true)) rfl) rfl ?_); refine ⟨fun _ _ => ⟨hS.sat, hO⟩, ?_⟩; refine zJ rfl rfl rfl rfl rfl rfl (fun _ _ => ⟨hS.sat, hO⟩) ?_; refine zJ rfl rfl rfl rfl rfl rfl (fun _ _ => ⟨hS.sat, hO⟩) ?_; refine zJ rfl rfl rfl rfl rfl rfl (fun _ _ => ⟨hS.sat, hO⟩) ?_; refine zJ rfl rfl rfl rfl rfl rfl (fun _ _ => ⟨hS.sat, hO⟩) ?_; refine zE rfl rfl (OpP_val (rn_pickT (v := (.bool true)) rfl rfl rfl) rfl ?_); refine ⟨fun _ _ => ⟨hS.sat, hO⟩, ?_⟩; refine zE rfl rfl (OpP_val (zm (v := (.bool true)) rfl) rfl ?_); refine ⟨fun _ _ => ⟨hS.sat, hO⟩, ?_⟩; refine zJ rfl rfl rfl rfl rfl rfl (fun _ _ => ⟨hS.sat, hO⟩) ?_; refine zJ rfl rfl rfl rfl rfl rfl (fun _ _ => ⟨hS.sat, hO⟩) ?_; refine zJ rfl rfl rfl rfl rfl rfl (fun _ _ => ⟨hS.sat, hO⟩) ?_; refine zJ rfl rfl rfl rfl rfl rfl (fun _ _ => ⟨hS.sat, hO⟩) ?_; refine zE rfl rfl (OpP_val (rn_pickT (v := (.bool true)) rfl rfl rfl) rfl ?_); refine ⟨fun _ _ => ⟨hS.sat, hO⟩, ?_⟩; refine zE rfl rfl (OpP_val (zm (v := (.bool true)) rfl) rfl ?_); refine ⟨fun _ _ => ⟨hS.sat, hO⟩, ?_⟩; refine zK rfl rfl rfl rfl rfl rfl ?_; refine zK rfl rfl rfl rfl rfl rfl ?_; refine zK rfl rfl rfl rfl rfl rfl ?_; refine zK rfl rfl rfl rfl rfl rfl ?_; refine zK rfl rfl rfl rfl rfl rfl ?_; refine zK rfl rfl rfl rfl rfl rfl ?_; refine zK rfl rfl rfl rfl rfl rfl ?_; refine zK rfl rfl rfl rfl rfl rfl ?_; refine zK rfl rfl rfl rfl rfl rfl ?_; refine zJ rfl rfl rfl rfl rfl rfl (fun _ _ => ⟨hS.sat, hO⟩) ?_; refine zJ rfl rfl rfl rfl rfl rfl (fun _ _ => ⟨hS.sat, hO⟩) ?_; refine zJ rfl rfl rfl rfl rfl rfl (fun _ _ => ⟨hS.sat, hO⟩) ?_; refine zJ rfl rfl rfl rfl rfl rfl (fun _ _ => ⟨hS.sat, hO⟩) ?_; refine zJ rfl rfl rfl rfl rfl rfl (fun _ _ => ⟨hS.sat, hO⟩) ?_
   refine zJ rfl rfl rfl rfl rfl rfl (fun _ h => noneed (by kernel_rfl) h) ?_
   refine zE rfl rfl (OpP_val (rn_pickT (v := (.bool true)) rfl rfl rfl) rfl ?_)
   refine ⟨fun _ h => noneed (by kernel_rfl) h, ?_⟩
   refine zI ?_
   have hO : Owns _ _ _ ([zb 26 3 b4 [zl none 0 0, zl none 0 0, zl none 0 0], zb 26 3 b1 [zl none 0 0, zl none 0 0, zl none 0 0]]) := hO
   have H := oi H; subst H
   exact ⟨_, G15, upds_self _ _ ⟨rfl, rfl, rfl, rfl, rfl, rfl, trivial⟩, Gle.refl _, hS, hO⟩
  ·have H := ifF hb18 H; refine WD_opY rfl rfl rfl hb18 rfl rfl (OpP_val (zm (v := (zl a16 n16 c16)) rfl) rfl ?_); refine ⟨fun _ _ => ⟨hS.sat, hO⟩, ?_⟩; obtain ⟨y19, hy19, H⟩ := bnd H; refine WD_opY rfl rfl rfl hb18 rfl rfl (OpP_idx sl41 h16 hy19 rfl rfl rfl ?_)
   rintro b20 o20 _ hcb20 _ ⟨⟩
   refine ⟨fun _ _ => ⟨hS.sat, hO⟩, ?_⟩; refine WD_opY rfl rfl rfl hb18 rfl rfl (OpP_val (zL na3 rfl (hS.sat.cell (hcb20 0 _ rfl))) rfl ?_); refine ⟨fun _ _ => ⟨hS.sat, hO⟩, ?_⟩; refine WD_opY rfl rfl rfl hb18 rfl rfl (OpP_val (rn_lss rfl rfl) rfl ?_); refine ⟨fun _ _ => ⟨hS.sat, hO⟩, ?_⟩; refine zE rfl rfl (OpP_val (rn_pickF (v := (.bool (decide (y19 < 0)))) rfl hb18 rfl) rfl ?_); refine ⟨fun _ _ => ⟨hS.sat, hO⟩, ?_⟩; refine zE rfl rfl (OpP_val (zm (v := (.bool (decide (y19 < 0)))) rfl) rfl ?_); refine ⟨fun _ _ => ⟨hS.sat, hO⟩, ?_⟩
   rcases bcases (decide (y19 < 0)) with hb21 | hb21
   ·have H := ifT hb21 H; refine zJ rfl rfl hb21 rfl rfl rfl (fun _ _ => ⟨hS.sat, hO⟩) ?_; refine zJ rfl rfl hb21 rfl rfl rfl (fun _ _ => ⟨hS.sat, hO⟩) ?_; refine zJ rfl rfl hb21 rfl rfl rfl (fun _ _ => ⟨hS.sat, hO⟩) ?_; refine zJ rfl rfl hb21 rfl rfl rfl (fun _ _ => ⟨hS.sat, hO⟩) ?_; refine zE rfl rfl (OpP_val (rn_pickT (v := (.bool true)) rfl hb21 rfl) rfl ?_); refine ⟨fun _ _ => ⟨hS.sat, hO⟩, ?_⟩; refine zE rfl rfl (OpP_val (zm (v := (.bool true)) rfl) rfl ?_); refine ⟨fun _ _ => ⟨hS.sat, hO⟩, ?_⟩; refine zJ rfl rfl rfl rfl rfl rfl (fun _ _ => ⟨hS.sat, hO⟩) ?_; refine zJ rfl rfl rfl rfl rfl rfl (fun _ _ => ⟨hS.sat, hO⟩) ?_; refine zJ rfl rfl rfl rfl rfl rfl (fun _ _ => ⟨hS.sat, hO⟩) ?_; refine zJ rfl rfl rfl rfl rfl rfl (fun _ _ => ⟨hS.sat, hO⟩) ?_; refine zE rfl rfl (OpP_val (rn_pickT (v := (.bool true)) rfl rfl rfl) rfl ?_); refine ⟨fun _ _ => ⟨hS.sat, hO⟩, ?_⟩; refine zE rfl rfl (OpP_val (zm (v := (.bool true)) rfl) rfl ?_); refine ⟨fun _ _ => ⟨hS.sat, hO⟩, ?_⟩; refine zK rfl rfl rfl rfl rfl rfl ?_; refine zK rfl rfl rfl rfl rfl rfl ?_; refine zK rfl rfl rfl rfl rfl rfl ?_; refine zK rfl rfl rfl rfl rfl rfl ?_; refine zK rfl rfl rfl rfl rfl rfl ?_; refine zK rfl rfl rfl rfl rfl rfl ?_; refine zK rfl rfl rfl rfl rfl rfl ?_; refine zK rfl rfl rfl rfl rfl rfl ?_; refine zK rfl rfl rfl rfl rfl rfl ?_; refine zJ rfl rfl rfl rfl rfl rfl (fun _ _ => ⟨hS.sat, hO⟩) ?_; refine zJ rfl rfl rfl rfl rfl rfl (fun _ _ => ⟨hS.sat, hO⟩) ?_; refine zJ rfl rfl rfl rfl rfl rfl (fun _ _ => ⟨hS.sat, hO⟩) ?_; refine zJ rfl rfl rfl rfl rfl rfl (fun _ _ => ⟨hS.sat, hO⟩) ?_; refine zJ rfl rfl rfl rfl rfl rfl (fun _ _ => ⟨hS.sat, hO⟩) ?_
    refine zJ rfl rfl rfl rfl rfl rfl (fun _ h => noneed (by kernel_rfl) h) ?_
    refine zE rfl rfl (OpP_val (rn_pickT (v := (.bool true)) rfl rfl rfl) rfl ?_)
    refine ⟨fun _ h => noneed (by kernel_rfl) h, ?_⟩
    refine zI ?_
    have hO : Owns _ _ _ ([zb 26 3 b4 [zl none 0 0, zl none 0 0, zl none 0 0], zb 26 3 b1 [zl none 0 0, zl none 0 0, zl none 0 0]]) := hO
    have H := oi H; subst H
    exact ⟨_, G15, upds_self _ _ ⟨rfl, rfl, rfl, rfl, rfl, rfl, trivial⟩, Gle.refl _, hS, hO⟩
   ·have H := ifF hb21 H; refine WD_opY rfl rfl rfl hb21 rfl rfl (OpP_val (zm (v := (zl a16 n16 c16)) rfl) rfl ?_); refine ⟨fun _ _ => ⟨hS.sat, hO⟩, ?_⟩; obtain ⟨y22, hy22, H⟩ := bnd H; refine WD_opY rfl rfl rfl hb21 rfl rfl (OpP_idx sl41 h16 hy22 rfl rfl rfl ?_)
    rintro b23 o23 _ hcb23 _ ⟨⟩
    refine ⟨fun _ _ => ⟨hS.sat, hO⟩, ?_⟩; refine WD_opY rfl rfl rfl hb21 rfl rfl (OpP_val (zL na3 rfl (hS.sat.cell (hcb23 0 _ rfl))) rfl ?_); refine ⟨fun _ _ => ⟨hS.sat, hO⟩, ?_⟩; refine WD_opY rfl rfl rfl hb21 rfl rfl (OpP_val (rn_lss rfl rfl) rfl ?_); refine ⟨fun _ _ => ⟨hS.sat, hO⟩, ?_⟩; refine zE rfl rfl (OpP_val (rn_pickF (v := (.bool (decide (y22 < 0)))) rfl hb21 rfl) rfl ?_); refine ⟨fun _ _ => ⟨hS.sat, hO⟩, ?_⟩; refine zE rfl rfl (OpP_val (zm (v := (.bool (decide (y22 < 0)))) rfl) rfl ?_); refine ⟨fun _ _ => ⟨hS.sat, hO⟩, ?_⟩
    rcases bcases (decide (y22 < 0)) with hb24 | hb24
    ·have H := ifT hb24 H; refine zJ rfl rfl hb24 rfl rfl rfl (fun _ _ => ⟨hS.sat, hO⟩) ?_; refine zJ rfl rfl hb24 rfl rfl rfl (fun _ _ => ⟨hS.sat, hO⟩) ?_; refine zJ rfl rfl hb24 rfl rfl rfl (fun _ _ => ⟨hS.sat, hO⟩) ?_; refine zJ rfl rfl hb24 rfl rfl rfl (fun _ _ => ⟨hS.sat, hO⟩) ?_; refine zE rfl rfl (OpP_val (rn_pickT (v := (.bool true)) rfl hb24 rfl) rfl ?_); refine ⟨fun _ _ => ⟨hS.sat, hO⟩, ?_⟩; refine zE rfl rfl (OpP_val (zm (v := (.bool true)) rfl) rfl ?_); refine ⟨fun _ _ => ⟨hS.sat, hO⟩, ?_⟩; refine zK rfl rfl rfl rfl rfl rfl ?_; refine zK rfl rfl rfl rfl rfl rfl ?_; refine zK rfl rfl rfl rfl rfl rfl ?_; refine zK rfl rfl rfl rfl rfl rfl ?_; refine zK rfl rfl rfl rfl rfl rfl ?_; refine zK rfl rfl rfl rfl rfl rfl ?_; refine zK rfl rfl rfl rfl rfl rfl ?_; refine zK rfl rfl rfl rfl rfl rfl ?_; refine zK rfl rfl rfl rfl rfl rfl ?_; refine zJ rfl rfl rfl rfl rfl rfl (fun _ _ => ⟨hS.sat, hO⟩) ?_; refine zJ rfl rfl rfl rfl rfl rfl (fun _ _ => ⟨hS.sat, hO⟩) ?_; refine zJ rfl rfl rfl rfl rfl rfl (fun _ _ => ⟨hS.sat, hO⟩) ?_; refine zJ rfl rfl rfl rfl rfl rfl (fun _ _ => ⟨hS.sat, hO⟩) ?_; refine zJ rfl rfl rfl rfl rfl rfl (fun _ _ => ⟨hS.sat, hO⟩) ?_
     refine zJ rfl rfl rfl rfl rfl rfl (fun _ h => noneed (by kernel_rfl) h) ?_
     refine zE rfl rfl (OpP_val (rn_pickT (v := (.bool true)) rfl rfl rfl) rfl ?_)
     refine ⟨fun _ h => noneed (by kernel_rfl) h, ?_⟩
     refine zI ?_
     have hO : Owns _ _ _ ([zb 26 3 b4 [zl none 0 0, zl none 0 0, zl none 0 0], zb 26 3 b1 [zl none 0 0, zl none 0 0, zl none 0 0]]) := hO
     have H := oi H; subst H
     exact ⟨_, G15, upds_self _ _ ⟨rfl, rfl, rfl, rfl, rfl, rfl, trivial⟩, Gle.refl _, hS, hO⟩
    ·have H := ifF hb24 H; refine WD_opY rfl rfl rfl hb24 rfl rfl (OpP_val (zm (v := (zl a16 n16 c16)) rfl) rfl ?_); refine ⟨fun _ _ => ⟨hS.sat, hO⟩, ?_⟩; obtain ⟨y25, hy25, H⟩ := bnd H; refine WD_opY rfl rfl rfl hb24 rfl rfl (OpP_idx sl41 h16 hy25 rfl rfl rfl ?_)
     rintro b26 o26 _ hcb26 _ ⟨⟩
     refine ⟨fun _ _ => ⟨hS.sat, hO⟩, ?_⟩; refine WD_opY rfl rfl rfl hb24 rfl rfl (OpP_val (zL na3 rfl (hS.sat.cell (hcb26 0 _ rfl))) rfl ?_); refine ⟨fun _ _ => ⟨hS.sat, hO⟩, ?_⟩; refine WD_opY rfl rfl rfl hb24 rfl rfl (OpP_val (rn_lss rfl rfl) rfl ?_); refine ⟨fun _ _ => ⟨hS.sat, hO⟩, ?_⟩; refine zE rfl rfl (OpP_val (rn_pickF (v := (.bool (decide (y25 < 0)))) rfl hb24 rfl) rfl ?_); refine ⟨fun _ _ => ⟨hS.sat, hO⟩, ?_⟩; refine zE rfl rfl (OpP_val (zm (v := (.bool (decide (y25 < 0)))) rfl) rfl ?_); refine ⟨fun _ _ => ⟨hS.sat, hO⟩, ?_⟩
     rcases bcases (decide (y25 < 0)) with hb27 | hb27
     ·have H := ifT hb27 H; refine zK rfl rfl hb27 rfl rfl rfl ?_; refine zK rfl rfl hb27 rfl rfl rfl ?_; refine zK rfl rfl hb27 rfl rfl rfl ?_; refine zK rfl rfl hb27 rfl rfl rfl ?_; refine zK rfl rfl hb27 rfl rfl rfl ?_; refine zK rfl rfl hb27 rfl rfl rfl ?_; refine zK rfl rfl hb27 rfl rfl rfl ?_; refine zK rfl rfl hb27 rfl rfl rfl ?_; refine zK rfl rfl hb27 rfl rfl rfl ?_; refine zJ rfl rfl hb27 rfl rfl rfl (fun _ _ => ⟨hS.sat, hO⟩) ?_; refine zJ rfl rfl hb27 rfl rfl rfl (fun _ _ => ⟨hS.sat, hO⟩) ?_; refine zJ rfl rfl hb27 rfl rfl rfl (fun _ _ => ⟨hS.sat, hO⟩) ?_; refine zJ rfl rfl hb27 rfl rfl rfl (fun _ _ => ⟨hS.sat, hO⟩) ?_; refine zJ rfl rfl hb27 rfl rfl rfl (fun _ _ => ⟨hS.sat, hO⟩) ?_
      refine zJ rfl rfl hb27 rfl rfl rfl (fun _ h => noneed (by kernel_rfl) h) ?_
      refine zE rfl rfl (OpP_val (rn_pickT (v := (.bool true)) rfl hb27 rfl) rfl ?_)
      refine ⟨fun _ h => noneed (by kernel_rfl) h, ?_⟩
      refine zI ?_
      have hO : Owns _ _ _ ([zb 26 3 b4 [zl none 0 0, zl none 0 0, zl none 0 0], zb 26 3 b1 [zl none 0 0, zl none 0 0, zl none 0 0]]) := hO
      have H := oi H; subst H
      exact ⟨_, G15, upds_self _ _ ⟨rfl, rfl, rfl, rfl, rfl, rfl, trivial⟩, Gle.refl _, hS, hO⟩
     ·have H := ifF hb27 H; refine zB rfl rfl hb27 rfl rfl (fun w hw => zm (v := (zl a10 n10 c10)) rfl) rfl ?_; refine zB rfl rfl hb27 rfl rfl (fun w hw => rn_len sl66 rfl rfl (h10.mono RStr_mono leG15).1) rfl ?_; refine zB rfl rfl hb27 rfl rfl (fun w hw => zm (v := (zl a16 n16 c16)) rfl) rfl ?_; refine WD_idxY rfl rfl hb27 rfl rfl sl41 h16 hy19 rfl rfl rfl ?_
      rintro b28 o28 _ hcb28 _ ⟨⟩
      refine zB rfl rfl hb27 rfl rfl (fun w hw => zL na3 rfl (hw.1.cell (hcb28 0 _ rfl))) rfl ?_; refine zB rfl rfl hb27 rfl rfl (fun w hw => zm (v := (zl a16 n16 c16)) rfl) rfl ?_; refine WD_idxY rfl rfl hb27 rfl rfl sl41 h16 hy22 rfl rfl rfl ?_
      rintro b29 o29 _ hcb29 _ ⟨⟩
      refine zB rfl rfl hb27 rfl rfl (fun w hw => zL na3 rfl (hw.1.cell (hcb29 0 _ rfl))) rfl ?_; refine zB rfl rfl hb27 rfl rfl (fun w hw => rn_add rfl rfl) rfl ?_; refine WD_opY rfl rfl rfl hb27 rfl rfl (OpP_val (zm (v := (zl a16 n16 c16)) rfl) rfl ?_); refine ⟨fun _ _ => ⟨hS.sat, hO⟩, ?_⟩; refine WD_opY rfl rfl rfl hb27 rfl rfl (OpP_idx sl41 h16 hy25 rfl rfl rfl ?_)
      rintro b30 o30 _ hcb30 _ ⟨⟩
      refine ⟨fun _ _ => ⟨hS.sat, hO⟩, ?_⟩; refine WD_opY rfl rfl rfl hb27 rfl rfl (OpP_val (zL na3 rfl (hS.sat.cell (hcb30 0 _ rfl))) rfl ?_); refine ⟨fun _ _ => ⟨hS.sat, hO⟩, ?_⟩; refine WD_opY rfl rfl rfl hb27 rfl rfl (OpP_val (rn_add rfl rfl) rfl ?_); refine ⟨fun _ _ => ⟨hS.sat, hO⟩, ?_⟩; refine WD_opY rfl rfl rfl hb27 rfl rfl (OpP_val (rn_add rfl rfl) rfl ?_); refine ⟨fun _ _ => ⟨hS.sat, hO⟩, ?_⟩; refine WD_opY rfl rfl rfl hb27 rfl rfl (OpP_val (rn_neq rfl rfl) rfl ?_)
      refine ⟨fun _ h => noneed (by kernel_rfl) h, ?_⟩
      refine zE rfl rfl (OpP_val (rn_pickF (v := (.bool ((y7.length : Int) != (IntKind.i64.wrap ((IntKind.i64.wrap ((IntKind.i64.wrap (y19 + y22)) + y25)) + 3))))) rfl hb27 rfl) rfl ?_)
      refine ⟨fun _ h => noneed (by kernel_rfl) h, ?_⟩
      refine zI ?_
      have hO : Owns _ _ _ ([zb 26 3 b4 [zl none 0 0, zl none 0 0, zl none 0 0], zb 26 3 b1 [zl none 0 0, zl none 0 0, zl none 0 0]]) := hO
      have H := oi H; subst H
      exact ⟨_, G15, upds_self _ _ ⟨rfl, rfl, rfl, rfl, rfl, rfl, trivial⟩, Gle.refl _, hS, hO⟩
 ·rintro F w31 ⟨Fb, G32, rfl, leG32, hS, hO⟩
  refine zT rfl (fun hb33 => ?_) (fun hb33 => ?_)
  ·have H := ifT hb33 H; refine zS ?_; refine zV (rn_loadA ag26 (cs := [zl none 0 0, zl none 0 0, zl none 0 0]) rfl rfl (fun j v hj => own_sub hO (k := 0) rfl 0 3 j v hj)) rfl ?_; refine zO rfl (OpP_store (vs := [zl none 0 0, zl none 0 0, zl none 0 0]) sz26 hS hO (k := 1) rfl rfl rfl rfl rfl (one_all rfl) (Nat.le_of_ble_eq_true rfl) (fun w34 hS hO => ?_))
   have hO : Owns _ _ _ ([zb 26 3 b4 [zl none 0 0, zl none 0 0, zl none 0 0], zb 26 3 b1 [zl none 0 0, zl none 0 0, zl none 0 0]]) := hO
   refine zy (.bool false) rfl rfl ?_; refine zN ?_; refine WC_ret ?_
   have H : some ((⟨[], [], []⟩ : TLandBook), false) = some r := H
   have H := oi H; subst H
   exact ⟨[.agg #[zl none 0 0, zl none 0 0, zl none 0 0], .bool false], ⟨⟨_, rfl, ld_agg (cs := [zl none 0 0, zl none 0 0, zl none 0 0]) ag26 rfl (fun j v hj => own_sub hO (k := 1) rfl 0 3 j v hj)⟩, rfl, trivial⟩, ⟨_, _, rfl, hS.toGrow, _, _, _, _, _, _, _, _, _, rfl, (RSl.nil RTLandPerson 2 G32 none), (RSl.nil RTLandEvent 2 G32 none), (RSl.nil RTLandMemory 4 G32 none)⟩⟩
  ·have H := ifF hb33 H; refine zP ?_; refine zS ?_; refine zy (zi 1) rfl rfl ?_; refine zN ?_; refine zQ ?_; refine zS ?_; refine zy (zi 0) rfl rfl ?_; refine zN ?_; have hO := hO.cons_nil 54 2; have hO := hO.cons_nil 57 2; have hO := hO.cons_nil 60 4; obtain ⟨q40, hq40, H⟩ := bnd H; refine zM (fun F w => ∃ (p39 : Int × TLandBook × TLandBook) (Fb : Fr) (G : Gm) (ap39_0 : Option Addr) (np39_0 cp39_0 : Nat) (clap39_0 : List Value) (ap39_1 : Option Addr) (np39_1 cp39_1 : Nat) (clap39_1 : List Value) (ap39_2 : Option Addr) (np39_2 cp39_2 : Nat) (clap39_2 : List Value) (ap39_3 : Option Addr) (np39_3 cp39_3 : Nat) (ap39_4 : Option Addr) (np39_4 cp39_4 : Nat) (ap39_5 : Option Addr) (np39_5 cp39_5 : Nat), q40 = .inl p39 ∧ F = upds Fb [(0, zs x0), (2, zp b1), (4, zp b4), (5, zl a10 n10 c10), (6, zl a16 n16 c16), (8, zi p39.1)] ∧ Gle G32 G ∧ Since w0.heap.size G0 w0 G w ∧ Owns G w w0.heap.size [⟨60, 4, np39_2, zl ap39_2 np39_2 cp39_2, clap39_2⟩, ⟨57, 2, np39_1, zl ap39_1 np39_1 cp39_1, clap39_1⟩, ⟨54, 2, np39_0, zl ap39_0 np39_0 cp39_0, clap39_0⟩, zb 26 3 b4 [zl ap39_0 np39_0 cp39_0, zl ap39_1 np39_1 cp39_1, zl ap39_2 np39_2 cp39_2], zb 26 3 b1 [zl ap39_3 np39_3 cp39_3, zl ap39_4 np39_4 cp39_4, zl ap39_5 np39_5 cp39_5]] ∧ np39_0 = p39.2.1.People.length ∧ Rd RTLandPerson 2 G clap39_0 p39.2.1.People ∧ np39_1 = p39.2.1.Events.length ∧ Rd RTLandEvent 2 G clap39_1 p39.2.1.Events ∧ np39_2 = p39.2.1.Memories.length ∧ Rd RTLandMemory 4 G clap39_2 p39.2.1.Memories ∧ RSl RTLandPerson 2 G ap39_3 np39_3 cp39_3 p39.2.2.People ∧ RSl RTLandEvent 2 G ap39_4 np39_4 cp39_4 p39.2.2.Events ∧ RSl RTLandMemory 4 G ap39_5 np39_5 cp39_5 p39.2.2.Memories) ?_ ?_
   ·refine WC_block (WC_loop hq40 (fun s38 F w => ∃ (Fb : Fr) (G : Gm) (as38_0 : Option Addr) (ns38_0 cs38_0 : Nat) (clas38_0 : List Value) (as38_1 : Option Addr) (ns38_1 cs38_1 : Nat) (clas38_1 : List Value) (as38_2 : Option Addr) (ns38_2 cs38_2 : Nat) (clas38_2 : List Value) (as38_3 : Option Addr) (ns38_3 cs38_3 : Nat) (as38_4 : Option Addr) (ns38_4 cs38_4 : Nat) (as38_5 : Option Addr) (ns38_5 cs38_5 : Nat), F = upds Fb [(0, zs x0), (2, zp b1), (4, zp b4), (5, zl a10 n10 c10), (6, zl a16 n16 c16), (8, zi s38.1), (9, zi s38.2.1)] ∧ Gle G32 G ∧ Since w0.heap.size G0 w0 G w ∧ Owns G w w0.heap.size [⟨60, 4, ns38_2, zl as38_2 ns38_2 cs38_2, clas38_2⟩, ⟨57, 2, ns38_1, zl as38_1 ns38_1 cs38_1, clas38_1⟩, ⟨54, 2, ns38_0, zl as38_0 ns38_0 cs38_0, clas38_0⟩, zb 26 3 b4 [zl as38_0 ns38_0 cs38_0, zl as38_1 ns38_1 cs38_1, zl as38_2 ns38_2 cs38_2], zb 26 3 b1 [zl as38_3 ns38_3 cs38_3, zl as38_4 ns38_4 cs38_4, zl as38_5 ns38_5 cs38_5]] ∧ ns38_0 = s38.2.2.1.People.length ∧ Rd RTLandPerson 2 G clas38_0 s38.2.2.1.People ∧ ns38_1 = s38.2.2.1.Events.length ∧ Rd RTLandEvent 2 G clas38_1 s38.2.2.1.Events ∧ ns38_2 = s38.2.2.1.Memories.length ∧ Rd RTLandMemory 4 G clas38_2 s38.2.2.1.Memories ∧ RSl RTLandPerson 2 G as38_3 ns38_3 cs38_3 s38.2.2.2.People ∧ RSl RTLandEvent 2 G as38_4 ns38_4 cs38_4 s38.2.2.2.Events ∧ RSl RTLandMemory 4 G as38_5 ns38_5 cs38_5 s38.2.2.2.Memories) ?_ ?_)
    ·have hO : Owns _ _ _ ([⟨60, 4, 0, zl none 0 0, []⟩, ⟨57, 2, 0, zl none 0 0, []⟩, ⟨54, 2, 0, zl none 0 0, []⟩, zb 26 3 b4 [zl none 0 0, zl none 0 0, zl none 0 0], zb 26 3 b1 [zl none 0 0, zl none 0 0, zl none 0 0]]) := hO
     exact ⟨_, G32, none, 0, 0, [], none, 0, 0, [], none, 0, 0, [], none, 0, 0, none, 0, 0, none, 0, 0, upds_self _ _ ⟨rfl, rfl, rfl, rfl, rfl, rfl, rfl, trivial⟩, Gle.refl _, hS, hO, rfl, (Rd.nil RTLandPerson 2 G32), rfl, (Rd.nil RTLandEvent 2 G32), rfl, (Rd.nil RTLandMemory 4 G32), (RSl.nil _ _ _ _), (RSl.nil _ _ _ _), (RSl.nil _ _ _ _)⟩
    ·rintro s38 F w42 t41 ⟨Fb, G43, as38_0, ns38_0, cs38_0, clas38_0, as38_1, ns38_1, cs38_1, clas38_1, as38_2, ns38_2, cs38_2, clas38_2, as38_3, ns38_3, cs38_3, as38_4, ns38_4, cs38_4, as38_5, ns38_5, cs38_5, rfl, leG43, hS, hO, hnhs38_0, hs38_0, hnhs38_1, hs38_1, hnhs38_2, hs38_2, hs38_3, hs38_4, hs38_5⟩
     intro H1 hqq40
     have Hoq40 := H; have H := H1
     unfold f13_b0 at H
     refine zQ ?_; refine zS ?_; refine zx (zi s38.2.1) rfl rfl ?_; refine zx (zl a16 n16 c16) rfl rfl ?_; obtain ⟨y44, hy44, H⟩ := bnd H
     have l2_4 := leG32.trans leG43
     refine WL_idx sl41 (h16.mono RInt_mono l2_4) hy44 rfl rfl rfl ?_
     rintro b45 o45 _ hcb45 _ ⟨⟩
     refine zV (zL na3 rfl (hS.sat.cell (hcb45 0 _ rfl))) rfl ?_; refine zV (rn_lss rfl rfl) rfl ?_; refine zN ?_; refine zT rfl (fun hb46 => ?_) (fun hb46 => ?_)
     ·have H := ifT hb46 H; refine zP ?_; refine zQ ?_; refine WC_block ?_; refine zS ?_; refine zx (zl a10 n10 c10) rfl rfl ?_; refine zx (zi s38.1) rfl rfl ?_; obtain ⟨y47, hy47, H⟩ := bnd H
      have l1_4 := leG15.trans l2_4
      refine WL_idx sl66 (h10.mono RStr_mono l1_4) hy47 rfl rfl rfl ?_
      rintro b48 o48 _ hcb48 _ ⟨⟩
      refine zV (zL na9 rfl (hS.sat.cell (hcb48 0 _ rfl))) rfl ?_; obtain ⟨y49, hy49, H⟩ := bnd H; refine zO rfl (OpP_callG cb34 (f34_ok (x0 := y47) (x1 := ([112, 101, 114, 115, 111, 110] : List UInt8)) (x2 := 2) hS.sat  hy49) rfl rfl (fun vy49 G51 w50 hg hvy49 => ?_)); obtain ⟨a52, n52, c52, ⟨⟩, h52⟩ := hvy49; have hS := hS.grow hg; have hO := hO.grow hg
      have leG51 := hg.le
      refine zx (.tuple #[zl a52 n52 c52, .bool y49.2]) rfl rfl ?_; refine zV (zX (v := (zl a52 n52 c52)) rfl rfl) rfl ?_; refine zV (zX (v := (.bool y49.2)) rfl rfl) rfl ?_; refine zy (zl a52 n52 c52) rfl rfl ?_; refine zy (.bool y49.2) rfl rfl ?_; refine zN ?_; refine zQ ?_; refine zS ?_; refine zx (.bool y49.2) rfl rfl ?_; refine zV (rn_not rfl) rfl ?_; refine zN ?_; refine zT rfl (fun hb53 => ?_) (fun hb53 => ?_)
      ·have H := ifT hb53 H; refine zS ?_; refine zV (rn_loadA ag26 (cs := [zl as38_0 ns38_0 cs38_0, zl as38_1 ns38_1 cs38_1, zl as38_2 ns38_2 cs38_2]) rfl rfl (fun j v hj => own_sub hO (k := 3) rfl 0 3 j v hj)) rfl ?_; refine zO rfl (OpP_store (vs := [zl as38_0 ns38_0 cs38_0, zl as38_1 ns38_1 cs38_1, zl as38_2 ns38_2 cs38_2]) sz26 hS hO (k := 4) rfl rfl rfl rfl rfl (one_all rfl) (Nat.le_of_ble_eq_true rfl) (fun w54 hS hO => ?_))
       have hO : Owns _ _ _ ([⟨60, 4, ns38_2, zl as38_2 ns38_2 cs38_2, clas38_2⟩, ⟨57, 2, ns38_1, zl as38_1 ns38_1 cs38_1, clas38_1⟩, ⟨54, 2, ns38_0, zl as38_0 ns38_0 cs38_0, clas38_0⟩, zb 26 3 b4 [zl as38_0 ns38_0 cs38_0, zl as38_1 ns38_1 cs38_1, zl as38_2 ns38_2 cs38_2], zb 26 3 b1 [zl as38_0 ns38_0 cs38_0, zl as38_1 ns38_1 cs38_1, zl as38_2 ns38_2 cs38_2]]) := hO
       refine zy (.bool false) rfl rfl ?_; refine zN ?_; refine WC_ret ?_; obtain ⟨G55, leG55, hS, hO, hfG55⟩ := hO.freezeS hS RTLandPerson_mono (k := 2) rfl (hs38_0.mono RTLandPerson_mono leG51) hnhs38_0
       have l4_6 := leG51.trans leG55
       obtain ⟨G56, leG56, hS, hO, hfG56⟩ := hO.freezeS hS RTLandEvent_mono (k := 1) rfl (hs38_1.mono RTLandEvent_mono l4_6) hnhs38_1
       have l4_7 := l4_6.trans leG56
       obtain ⟨G57, leG57, hS, hO, hfG57⟩ := hO.freezeS hS RTLandMemory_mono (k := 0) rfl (hs38_2.mono RTLandMemory_mono l4_7) hnhs38_2; have H := oi H; subst H
       have hres := hqq40 _ rfl
       subst hres; have H := Hoq40
       have H : some ((⟨s38.2.2.1.People, s38.2.2.1.Events, s38.2.2.1.Memories⟩ : TLandBook), false) = some r := H
       have H := oi H; subst H
       have l6_8 := leG56.trans leG57
       exact ⟨[.agg #[zl as38_0 ns38_0 cs38_0, zl as38_1 ns38_1 cs38_1, zl as38_2 ns38_2 cs38_2], .bool false], ⟨⟨_, rfl, ld_agg (cs := [zl as38_0 ns38_0 cs38_0, zl as38_1 ns38_1 cs38_1, zl as38_2 ns38_2 cs38_2]) ag26 rfl (fun j v hj => own_sub hO (k := 1) rfl 0 3 j v hj)⟩, rfl, trivial⟩, ⟨_, _, rfl, hS.toGrow, _, _, _, _, _, _, _, _, _, rfl, (hfG55.mono RTLandPerson_mono l6_8), (hfG56.mono RTLandEvent_mono leG57), hfG57⟩⟩
      ·have H := ifF hb53 H; refine zP ?_; have hS := hS.keep (below_drew _); have hO := hO.below (below_drew _)
       refine WC_regionD mixedO (C2 [1] (fun w => Sat G51 w ∧ Owns G51 w w0.heap.size [⟨60, 4, ns38_2, zl as38_2 ns38_2 cs38_2, clas38_2⟩, ⟨57, 2, ns38_1, zl as38_1 ns38_1 cs38_1, clas38_1⟩, zb 26 3 b1 [zl as38_3 ns38_3 cs38_3, zl as38_4 ns38_4 cs38_4, zl as38_5 ns38_5 cs38_5]]) (fun w => Owns G51 w w0.heap.size [zb 26 3 b4 [zl as38_0 ns38_0 cs38_0, zl as38_1 ns38_1 cs38_1, zl as38_2 ns38_2 cs38_2]])) (.fl 0 (.fl 1 (.fl 2 (.fl 3 (.fl 4 (.fl 5 (.fl 6 (.fl 7 (.fl 8 (.fl 11 (.fl 12 (.on 9 (.on 10 (.on 13 (.on 14 (.on 15 .nil)))))))))))))))) (by kernel_rfl) rfl (by kernel_rfl) (fun _ => ⟨⟨hS.sat, ((hO.drop 3).drop 2)⟩, fun _ => ((((hO.drop 4).drop 2).drop 1).drop 0)⟩) ?_
       refine zD rfl (fun w hw => zF fd26_0 rfl) rfl ?_; refine zD rfl (fun w hw => zL na22 rfl (own_cell (hw.2 rfl) (k := 0) rfl (j := 0) rfl)) rfl ?_; refine zD rfl (fun w hw => zm (v := (zl a52 n52 c52)) rfl) rfl ?_; obtain ⟨y58, hy58, H⟩ := bnd H; refine WD_idx rfl sl41 h52 hy58 rfl rfl rfl ?_
       rintro b59 o59 _ hcb59 _ ⟨⟩
       refine zD rfl (fun w hw => zL na3 rfl (hw.1.1.cell (hcb59 0 _ rfl))) rfl ?_; refine zD rfl (fun w hw => zm (v := (zl a52 n52 c52)) rfl) rfl ?_; obtain ⟨y60, hy60, H⟩ := bnd H; refine WD_idx rfl sl41 h52 hy60 rfl rfl rfl ?_
       rintro b61 o61 _ hcb61 _ ⟨⟩
       refine zD rfl (fun w hw => zL na3 rfl (hw.1.1.cell (hcb61 0 _ rfl))) rfl ?_
       refine zD (v := (.agg #[zi y58, zi y60])) rfl (fun w hw => by kernel_rfl) rfl ?_
       refine zD rfl (fun w hw => zm (v := (zi s38.1)) rfl) rfl ?_; refine zD rfl (fun w hw => rn_add rfl rfl) rfl ?_
       refine zE rfl rfl (zW (v := fun b => zl (some ⟨b, 0, none⟩) 1 1) (cs := [zi y58, zi y60]) (e := 54) (by kernel_rfl) hS.sat rfl (fun b62 G64 w63 hg hcb62 => ?_))
       have hS := hS.grow hg; have hO := hO.grow hg
       have leG64 := hg.le
       have hfb62 : RSl RTLandPerson 2 G64 (some ⟨b62, 0, none⟩) 1 1 [(⟨y58, y60⟩ : TLandPerson)] := RSl.of_rd hcb62 (Rd.cons (c := [zi y58, zi y60]) rfl rfl (Rd.nil RTLandPerson 2 _)) rfl (by decide)
       refine ⟨need2 ⟨hS.sat.le leG64, ((hO.drop 3).drop 2).le leG64⟩ (fun _ => ((((hO.drop 4).drop 2).drop 1).drop 0).le leG64), ?_⟩; obtain ⟨y65, hy65, H⟩ := bnd H
       have l4_6 := leG51.trans leG64
       refine zE rfl rfl (OpP_append (k := 2) sl22 RTLandPerson_one hS hO rfl hnhs38_0 (hs38_0.mono RTLandPerson_mono l4_6) hfb62 hy65 rfl rfl rfl rfl rfl (fun aw66 cw66 w66 clw66 hS hO hrw66 => ?_))
       have hO : Owns _ _ _ ([⟨60, 4, ns38_2, zl as38_2 ns38_2 cs38_2, clas38_2⟩, ⟨57, 2, ns38_1, zl as38_1 ns38_1 cs38_1, clas38_1⟩, ⟨54, 2, y65.length, zl aw66 y65.length cw66, clw66⟩, zb 26 3 b4 [zl as38_0 ns38_0 cs38_0, zl as38_1 ns38_1 cs38_1, zl as38_2 ns38_2 cs38_2], zb 26 3 b1 [zl as38_3 ns38_3 cs38_3, zl as38_4 ns38_4 cs38_4, zl as38_5 ns38_5 cs38_5]]) := hO
       refine ⟨need2 ⟨hS.sat.le leG64, ((hO.drop 3).drop 2).le leG64⟩ (fun h => nomore (by kernel_rfl) h), ?_⟩
       refine zE rfl rfl (OpP_val (zF fd26_0 rfl) rfl ?_)
       refine ⟨need2 ⟨hS.sat.le leG64, ((hO.drop 3).drop 2).le leG64⟩ (fun h => nomore (by kernel_rfl) h), ?_⟩
       refine zE rfl rfl (OpP_store (vs := [zl aw66 y65.length cw66]) sz22 hS hO (k := 3) rfl rfl rfl rfl rfl (one_all rfl) (Nat.le_of_ble_eq_true rfl) (fun w67 hS hO => ?_))
       have hO : Owns _ _ _ ([⟨60, 4, ns38_2, zl as38_2 ns38_2 cs38_2, clas38_2⟩, ⟨57, 2, ns38_1, zl as38_1 ns38_1 cs38_1, clas38_1⟩, ⟨54, 2, y65.length, zl aw66 y65.length cw66, clw66⟩, zb 26 3 b4 [zl aw66 y65.length cw66, zl as38_1 ns38_1 cs38_1, zl as38_2 ns38_2 cs38_2], zb 26 3 b1 [zl as38_3 ns38_3 cs38_3, zl as38_4 ns38_4 cs38_4, zl as38_5 ns38_5 cs38_5]]) := hO
       refine ⟨need2 ⟨hS.sat.le leG64, ((hO.drop 3).drop 2).le leG64⟩ (fun h => nomore (by kernel_rfl) h), ?_⟩
       refine zE rfl rfl (OpP_val (zA (v := (zi (IntKind.i64.wrap (s38.1 + 1)))) rfl) rfl ?_)
       refine ⟨fun _ h => noneed (by kernel_rfl) h, ?_⟩
       refine zI ?_; refine zR ?_; refine zx (zi s38.2.1) rfl rfl ?_; refine zV (rn_add rfl rfl) rfl ?_; refine zy (zi (IntKind.i64.wrap (s38.2.1 + 1))) rfl rfl ?_; refine zN ?_
       have hO : Owns _ _ _ ([⟨60, 4, ns38_2, zl as38_2 ns38_2 cs38_2, clas38_2⟩, ⟨57, 2, ns38_1, zl as38_1 ns38_1 cs38_1, clas38_1⟩, ⟨54, 2, y65.length, zl aw66 y65.length cw66, clw66⟩, zb 26 3 b4 [zl aw66 y65.length cw66, zl as38_1 ns38_1 cs38_1, zl as38_2 ns38_2 cs38_2], zb 26 3 b1 [zl as38_3 ns38_3 cs38_3, zl as38_4 ns38_4 cs38_4, zl as38_5 ns38_5 cs38_5]]) := hO
       have H := oi H; subst H; refine ⟨_, rfl, ?_⟩
       have l3_6 := leG43.trans l4_6
       exact ⟨_, G64, aw66, y65.length, cw66, clw66, as38_1, ns38_1, cs38_1, clas38_1, as38_2, ns38_2, cs38_2, clas38_2, as38_3, ns38_3, cs38_3, as38_4, ns38_4, cs38_4, as38_5, ns38_5, cs38_5, upds_self _ _ ⟨rfl, rfl, rfl, rfl, rfl, rfl, rfl, trivial⟩, l3_6, hS, hO, rfl, hrw66, hnhs38_1, (hs38_1.mono RTLandEvent_mono l4_6), hnhs38_2, (hs38_2.mono RTLandMemory_mono l4_6), (hs38_3.mono RTLandPerson_mono l4_6), (hs38_4.mono RTLandEvent_mono l4_6), (hs38_5.mono RTLandMemory_mono l4_6)⟩
     ·have H := ifF hb46 H; refine WC_exit rfl ?_
      have hO : Owns _ _ _ ([⟨60, 4, ns38_2, zl as38_2 ns38_2 cs38_2, clas38_2⟩, ⟨57, 2, ns38_1, zl as38_1 ns38_1 cs38_1, clas38_1⟩, ⟨54, 2, ns38_0, zl as38_0 ns38_0 cs38_0, clas38_0⟩, zb 26 3 b4 [zl as38_0 ns38_0 cs38_0, zl as38_1 ns38_1 cs38_1, zl as38_2 ns38_2 cs38_2], zb 26 3 b1 [zl as38_3 ns38_3 cs38_3, zl as38_4 ns38_4 cs38_4, zl as38_5 ns38_5 cs38_5]]) := hO
      have H := oi H; subst H
      have hres := hqq40 _ rfl
      subst hres
      exact ⟨_, _, G43, as38_0, ns38_0, cs38_0, clas38_0, as38_1, ns38_1, cs38_1, clas38_1, as38_2, ns38_2, cs38_2, clas38_2, as38_3, ns38_3, cs38_3, as38_4, ns38_4, cs38_4, as38_5, ns38_5, cs38_5, rfl, upds_self _ _ ⟨rfl, rfl, rfl, rfl, rfl, rfl, trivial⟩, leG43, hS, hO, hnhs38_0, hs38_0, hnhs38_1, hs38_1, hnhs38_2, hs38_2, hs38_3, hs38_4, hs38_5⟩
   ·rintro F w68 ⟨p39, Fb, G69, ap39_0, np39_0, cp39_0, clap39_0, ap39_1, np39_1, cp39_1, clap39_1, ap39_2, np39_2, cp39_2, clap39_2, ap39_3, np39_3, cp39_3, ap39_4, np39_4, cp39_4, ap39_5, np39_5, cp39_5, rfl, rfl, leG69, hS, hO, hnhp39_0, hp39_0, hnhp39_1, hp39_1, hnhp39_2, hp39_2, hp39_3, hp39_4, hp39_5⟩
    refine zQ ?_; refine zS ?_; refine zy (zi 0) rfl rfl ?_; refine zN ?_; obtain ⟨q72, hq72, H⟩ := bnd H; refine zM (fun F w => ∃ (p71 : Int × TLandBook × TLandBook) (Fb : Fr) (G : Gm) (ap71_0 : Option Addr) (np71_0 cp71_0 : Nat) (clap71_0 : List Value) (ap71_1 : Option Addr) (np71_1 cp71_1 : Nat) (clap71_1 : List Value) (ap71_2 : Option Addr) (np71_2 cp71_2 : Nat) (clap71_2 : List Value) (ap71_3 : Option Addr) (np71_3 cp71_3 : Nat) (ap71_4 : Option Addr) (np71_4 cp71_4 : Nat) (ap71_5 : Option Addr) (np71_5 cp71_5 : Nat), q72 = .inl p71 ∧ F = upds Fb [(0, zs x0), (2, zp b1), (4, zp b4), (5, zl a10 n10 c10), (6, zl a16 n16 c16), (8, zi p71.1)] ∧ Gle G69 G ∧ Since w0.heap.size G0 w0 G w ∧ Owns G w w0.heap.size [⟨60, 4, np71_2, zl ap71_2 np71_2 cp71_2, clap71_2⟩, ⟨57, 2, np71_1, zl ap71_1 np71_1 cp71_1, clap71_1⟩, ⟨54, 2, np71_0, zl ap71_0 np71_0 cp71_0, clap71_0⟩, zb 26 3 b4 [zl ap71_0 np71_0 cp71_0, zl ap71_1 np71_1 cp71_1, zl ap71_2 np71_2 cp71_2], zb 26 3 b1 [zl ap71_3 np71_3 cp71_3, zl ap71_4 np71_4 cp71_4, zl ap71_5 np71_5 cp71_5]] ∧ np71_0 = p71.2.1.People.length ∧ Rd RTLandPerson 2 G clap71_0 p71.2.1.People ∧ np71_1 = p71.2.1.Events.length ∧ Rd RTLandEvent 2 G clap71_1 p71.2.1.Events ∧ np71_2 = p71.2.1.Memories.length ∧ Rd RTLandMemory 4 G clap71_2 p71.2.1.Memories ∧ RSl RTLandPerson 2 G ap71_3 np71_3 cp71_3 p71.2.2.People ∧ RSl RTLandEvent 2 G ap71_4 np71_4 cp71_4 p71.2.2.Events ∧ RSl RTLandMemory 4 G ap71_5 np71_5 cp71_5 p71.2.2.Memories) ?_ ?_
    ·refine WC_block (WC_loop hq72 (fun s70 F w => ∃ (Fb : Fr) (G : Gm) (as70_0 : Option Addr) (ns70_0 cs70_0 : Nat) (clas70_0 : List Value) (as70_1 : Option Addr) (ns70_1 cs70_1 : Nat) (clas70_1 : List Value) (as70_2 : Option Addr) (ns70_2 cs70_2 : Nat) (clas70_2 : List Value) (as70_3 : Option Addr) (ns70_3 cs70_3 : Nat) (as70_4 : Option Addr) (ns70_4 cs70_4 : Nat) (as70_5 : Option Addr) (ns70_5 cs70_5 : Nat), F = upds Fb [(0, zs x0), (2, zp b1), (4, zp b4), (5, zl a10 n10 c10), (6, zl a16 n16 c16), (8, zi s70.1), (12, zi s70.2.1)] ∧ Gle G69 G ∧ Since w0.heap.size G0 w0 G w ∧ Owns G w w0.heap.size [⟨60, 4, ns70_2, zl as70_2 ns70_2 cs70_2, clas70_2⟩, ⟨57, 2, ns70_1, zl as70_1 ns70_1 cs70_1, clas70_1⟩, ⟨54, 2, ns70_0, zl as70_0 ns70_0 cs70_0, clas70_0⟩, zb 26 3 b4 [zl as70_0 ns70_0 cs70_0, zl as70_1 ns70_1 cs70_1, zl as70_2 ns70_2 cs70_2], zb 26 3 b1 [zl as70_3 ns70_3 cs70_3, zl as70_4 ns70_4 cs70_4, zl as70_5 ns70_5 cs70_5]] ∧ ns70_0 = s70.2.2.1.People.length ∧ Rd RTLandPerson 2 G clas70_0 s70.2.2.1.People ∧ ns70_1 = s70.2.2.1.Events.length ∧ Rd RTLandEvent 2 G clas70_1 s70.2.2.1.Events ∧ ns70_2 = s70.2.2.1.Memories.length ∧ Rd RTLandMemory 4 G clas70_2 s70.2.2.1.Memories ∧ RSl RTLandPerson 2 G as70_3 ns70_3 cs70_3 s70.2.2.2.People ∧ RSl RTLandEvent 2 G as70_4 ns70_4 cs70_4 s70.2.2.2.Events ∧ RSl RTLandMemory 4 G as70_5 ns70_5 cs70_5 s70.2.2.2.Memories) ?_ ?_)
     ·have hO : Owns _ _ _ ([⟨60, 4, np39_2, zl ap39_2 np39_2 cp39_2, clap39_2⟩, ⟨57, 2, np39_1, zl ap39_1 np39_1 cp39_1, clap39_1⟩, ⟨54, 2, np39_0, zl ap39_0 np39_0 cp39_0, clap39_0⟩, zb 26 3 b4 [zl ap39_0 np39_0 cp39_0, zl ap39_1 np39_1 cp39_1, zl ap39_2 np39_2 cp39_2], zb 26 3 b1 [zl ap39_3 np39_3 cp39_3, zl ap39_4 np39_4 cp39_4, zl ap39_5 np39_5 cp39_5]]) := hO
      exact ⟨_, G69, ap39_0, np39_0, cp39_0, clap39_0, ap39_1, np39_1, cp39_1, clap39_1, ap39_2, np39_2, cp39_2, clap39_2, ap39_3, np39_3, cp39_3, ap39_4, np39_4, cp39_4, ap39_5, np39_5, cp39_5, upds_self _ _ ⟨rfl, rfl, rfl, rfl, rfl, rfl, rfl, trivial⟩, Gle.refl _, hS, hO, hnhp39_0, hp39_0, hnhp39_1, hp39_1, hnhp39_2, hp39_2, hp39_3, hp39_4, hp39_5⟩
     ·rintro s70 F w74 t73 ⟨Fb, G75, as70_0, ns70_0, cs70_0, clas70_0, as70_1, ns70_1, cs70_1, clas70_1, as70_2, ns70_2, cs70_2, clas70_2, as70_3, ns70_3, cs70_3, as70_4, ns70_4, cs70_4, as70_5, ns70_5, cs70_5, rfl, leG75, hS, hO, hnhs70_0, hs70_0, hnhs70_1, hs70_1, hnhs70_2, hs70_2, hs70_3, hs70_4, hs70_5⟩
      intro H1 hqq72
      have Hoq72 := H; have H := H1
      unfold f13_b1 at H
      refine zQ ?_; refine zS ?_; refine zx (zi s70.2.1) rfl rfl ?_; refine zx (zl a16 n16 c16) rfl rfl ?_; obtain ⟨y76, hy76, H⟩ := bnd H
      have l2_5 := (leG32.trans leG69).trans leG75
      refine WL_idx sl41 (h16.mono RInt_mono l2_5) hy76 rfl rfl rfl ?_
      rintro b77 o77 _ hcb77 _ ⟨⟩
      refine zV (zL na3 rfl (hS.sat.cell (hcb77 0 _ rfl))) rfl ?_; refine zV (rn_lss rfl rfl) rfl ?_; refine zN ?_; refine zT rfl (fun hb78 => ?_) (fun hb78 => ?_)
      ·have H := ifT hb78 H; refine zP ?_; refine zQ ?_; refine WC_block ?_; refine zS ?_; refine zx (zl a10 n10 c10) rfl rfl ?_; refine zx (zi s70.1) rfl rfl ?_; obtain ⟨y79, hy79, H⟩ := bnd H
       have l1_5 := leG15.trans l2_5
       refine WL_idx sl66 (h10.mono RStr_mono l1_5) hy79 rfl rfl rfl ?_
       rintro b80 o80 _ hcb80 _ ⟨⟩
       refine zV (zL na9 rfl (hS.sat.cell (hcb80 0 _ rfl))) rfl ?_; obtain ⟨y81, hy81, H⟩ := bnd H; refine zO rfl (OpP_callG cb34 (f34_ok (x0 := y79) (x1 := ([101, 118, 101, 110, 116] : List UInt8)) (x2 := 2) hS.sat  hy81) rfl rfl (fun vy81 G83 w82 hg hvy81 => ?_)); obtain ⟨a84, n84, c84, ⟨⟩, h84⟩ := hvy81; have hS := hS.grow hg; have hO := hO.grow hg
       have leG83 := hg.le
       refine zx (.tuple #[zl a84 n84 c84, .bool y81.2]) rfl rfl ?_; refine zV (zX (v := (zl a84 n84 c84)) rfl rfl) rfl ?_; refine zV (zX (v := (.bool y81.2)) rfl rfl) rfl ?_; refine zy (zl a84 n84 c84) rfl rfl ?_; refine zy (.bool y81.2) rfl rfl ?_; refine zN ?_; refine zQ ?_; refine zS ?_; refine zx (.bool y81.2) rfl rfl ?_; refine zV (rn_not rfl) rfl ?_; refine zN ?_; refine zT rfl (fun hb85 => ?_) (fun hb85 => ?_)
       ·have H := ifT hb85 H; refine zS ?_; refine zV (rn_loadA ag26 (cs := [zl as70_0 ns70_0 cs70_0, zl as70_1 ns70_1 cs70_1, zl as70_2 ns70_2 cs70_2]) rfl rfl (fun j v hj => own_sub hO (k := 3) rfl 0 3 j v hj)) rfl ?_; refine zO rfl (OpP_store (vs := [zl as70_0 ns70_0 cs70_0, zl as70_1 ns70_1 cs70_1, zl as70_2 ns70_2 cs70_2]) sz26 hS hO (k := 4) rfl rfl rfl rfl rfl (one_all rfl) (Nat.le_of_ble_eq_true rfl) (fun w86 hS hO => ?_))
        have hO : Owns _ _ _ ([⟨60, 4, ns70_2, zl as70_2 ns70_2 cs70_2, clas70_2⟩, ⟨57, 2, ns70_1, zl as70_1 ns70_1 cs70_1, clas70_1⟩, ⟨54, 2, ns70_0, zl as70_0 ns70_0 cs70_0, clas70_0⟩, zb 26 3 b4 [zl as70_0 ns70_0 cs70_0, zl as70_1 ns70_1 cs70_1, zl as70_2 ns70_2 cs70_2], zb 26 3 b1 [zl as70_0 ns70_0 cs70_0, zl as70_1 ns70_1 cs70_1, zl as70_2 ns70_2 cs70_2]]) := hO
        refine zy (.bool false) rfl rfl ?_; refine zN ?_; refine WC_ret ?_; obtain ⟨G87, leG87, hS, hO, hfG87⟩ := hO.freezeS hS RTLandPerson_mono (k := 2) rfl (hs70_0.mono RTLandPerson_mono leG83) hnhs70_0
        have l5_7 := leG83.trans leG87
        obtain ⟨G88, leG88, hS, hO, hfG88⟩ := hO.freezeS hS RTLandEvent_mono (k := 1) rfl (hs70_1.mono RTLandEvent_mono l5_7) hnhs70_1
        have l5_8 := l5_7.trans leG88
        obtain ⟨G89, leG89, hS, hO, hfG89⟩ := hO.freezeS hS RTLandMemory_mono (k := 0) rfl (hs70_2.mono RTLandMemory_mono l5_8) hnhs70_2; have H := oi H; subst H
        have hres := hqq72 _ rfl
        subst hres; have H := Hoq72
        have H : some ((⟨s70.2.2.1.People, s70.2.2.1.Events, s70.2.2.1.Memories⟩ : TLandBook), false) = some r := H
        have H := oi H; subst H
        have l7_9 := leG88.trans leG89
        exact ⟨[.agg #[zl as70_0 ns70_0 cs70_0, zl as70_1 ns70_1 cs70_1, zl as70_2 ns70_2 cs70_2], .bool false], ⟨⟨_, rfl, ld_agg (cs := [zl as70_0 ns70_0 cs70_0, zl as70_1 ns70_1 cs70_1, zl as70_2 ns70_2 cs70_2]) ag26 rfl (fun j v hj => own_sub hO (k := 1) rfl 0 3 j v hj)⟩, rfl, trivial⟩, ⟨_, _, rfl, hS.toGrow, _, _, _, _, _, _, _, _, _, rfl, (hfG87.mono RTLandPerson_mono l7_9), (hfG88.mono RTLandEvent_mono leG89), hfG89⟩⟩
       ·have H := ifF hb85 H; refine zP ?_; have hS := hS.keep (below_drew _); have hO := hO.below (below_drew _)
        refine WC_regionD mixedO (C2 [1] (fun w => Sat G83 w ∧ Owns G83 w w0.heap.size [⟨60, 4, ns70_2, zl as70_2 ns70_2 cs70_2, clas70_2⟩, ⟨54, 2, ns70_0, zl as70_0 ns70_0 cs70_0, clas70_0⟩, zb 26 3 b1 [zl as70_3 ns70_3 cs70_3, zl as70_4 ns70_4 cs70_4, zl as70_5 ns70_5 cs70_5]]) (fun w => Owns G83 w w0.heap.size [zb 26 3 b4 [zl as70_0 ns70_0 cs70_0, zl as70_1 ns70_1 cs70_1, zl as70_2 ns70_2 cs70_2]])) (.fl 0 (.fl 1 (.fl 2 (.fl 3 (.fl 4 (.fl 5 (.fl 6 (.fl 7 (.fl 8 (.fl 11 (.fl 12 (.on 9 (.on 10 (.on 13 (.on 14 (.on 15 .nil)))))))))))))))) (by kernel_rfl) rfl (by kernel_rfl) (fun _ => ⟨⟨hS.sat, ((hO.drop 3).drop 1)⟩, fun _ => ((((hO.drop 4).drop 2).drop 1).drop 0)⟩) ?_
        refine zD rfl (fun w hw => zF fd26_1 rfl) rfl ?_; refine zD rfl (fun w hw => zL na23 rfl (own_cell (hw.2 rfl) (k := 0) rfl (j := 1) rfl)) rfl ?_; refine zD rfl (fun w hw => zm (v := (zl a84 n84 c84)) rfl) rfl ?_; obtain ⟨y90, hy90, H⟩ := bnd H; refine WD_idx rfl sl41 h84 hy90 rfl rfl rfl ?_
        rintro b91 o91 _ hcb91 _ ⟨⟩
        refine zD rfl (fun w hw => zL na3 rfl (hw.1.1.cell (hcb91 0 _ rfl))) rfl ?_; refine zD rfl (fun w hw => zm (v := (zl a84 n84 c84)) rfl) rfl ?_; obtain ⟨y92, hy92, H⟩ := bnd H; refine WD_idx rfl sl41 h84 hy92 rfl rfl rfl ?_
        rintro b93 o93 _ hcb93 _ ⟨⟩
        refine zD rfl (fun w hw => zL na3 rfl (hw.1.1.cell (hcb93 0 _ rfl))) rfl ?_
        refine zD (v := (.agg #[zi y90, zi y92])) rfl (fun w hw => by kernel_rfl) rfl ?_
        refine zD rfl (fun w hw => zm (v := (zi s70.1)) rfl) rfl ?_; refine zD rfl (fun w hw => rn_add rfl rfl) rfl ?_
        refine zE rfl rfl (zW (v := fun b => zl (some ⟨b, 0, none⟩) 1 1) (cs := [zi y90, zi y92]) (e := 57) (by kernel_rfl) hS.sat rfl (fun b94 G96 w95 hg hcb94 => ?_))
        have hS := hS.grow hg; have hO := hO.grow hg
        have leG96 := hg.le
        have hfb94 : RSl RTLandEvent 2 G96 (some ⟨b94, 0, none⟩) 1 1 [(⟨y90, y92⟩ : TLandEvent)] := RSl.of_rd hcb94 (Rd.cons (c := [zi y90, zi y92]) rfl rfl (Rd.nil RTLandEvent 2 _)) rfl (by decide)
        refine ⟨need2 ⟨hS.sat.le leG96, ((hO.drop 3).drop 1).le leG96⟩ (fun _ => ((((hO.drop 4).drop 2).drop 1).drop 0).le leG96), ?_⟩; obtain ⟨y97, hy97, H⟩ := bnd H
        have l5_7 := leG83.trans leG96
        refine zE rfl rfl (OpP_append (k := 1) sl23 RTLandEvent_one hS hO rfl hnhs70_1 (hs70_1.mono RTLandEvent_mono l5_7) hfb94 hy97 rfl rfl rfl rfl rfl (fun aw98 cw98 w98 clw98 hS hO hrw98 => ?_))
        have hO : Owns _ _ _ ([⟨60, 4, ns70_2, zl as70_2 ns70_2 cs70_2, clas70_2⟩, ⟨57, 2, y97.length, zl aw98 y97.length cw98, clw98⟩, ⟨54, 2, ns70_0, zl as70_0 ns70_0 cs70_0, clas70_0⟩, zb 26 3 b4 [zl as70_0 ns70_0 cs70_0, zl as70_1 ns70_1 cs70_1, zl as70_2 ns70_2 cs70_2], zb 26 3 b1 [zl as70_3 ns70_3 cs70_3, zl as70_4 ns70_4 cs70_4, zl as70_5 ns70_5 cs70_5]]) := hO
        refine ⟨need2 ⟨hS.sat.le leG96, ((hO.drop 3).drop 1).le leG96⟩ (fun h => nomore (by kernel_rfl) h), ?_⟩
        refine zE rfl rfl (OpP_val (zF fd26_1 rfl) rfl ?_)
        refine ⟨need2 ⟨hS.sat.le leG96, ((hO.drop 3).drop 1).le leG96⟩ (fun h => nomore (by kernel_rfl) h), ?_⟩
        refine zE rfl rfl (OpP_store (vs := [zl aw98 y97.length cw98]) sz23 hS hO (k := 3) rfl rfl rfl rfl rfl (one_all rfl) (Nat.le_of_ble_eq_true rfl) (fun w99 hS hO => ?_))
        have hO : Owns _ _ _ ([⟨60, 4, ns70_2, zl as70_2 ns70_2 cs70_2, clas70_2⟩, ⟨57, 2, y97.length, zl aw98 y97.length cw98, clw98⟩, ⟨54, 2, ns70_0, zl as70_0 ns70_0 cs70_0, clas70_0⟩, zb 26 3 b4 [zl as70_0 ns70_0 cs70_0, zl aw98 y97.length cw98, zl as70_2 ns70_2 cs70_2], zb 26 3 b1 [zl as70_3 ns70_3 cs70_3, zl as70_4 ns70_4 cs70_4, zl as70_5 ns70_5 cs70_5]]) := hO
        refine ⟨need2 ⟨hS.sat.le leG96, ((hO.drop 3).drop 1).le leG96⟩ (fun h => nomore (by kernel_rfl) h), ?_⟩
        refine zE rfl rfl (OpP_val (zA (v := (zi (IntKind.i64.wrap (s70.1 + 1)))) rfl) rfl ?_)
        refine ⟨fun _ h => noneed (by kernel_rfl) h, ?_⟩
        refine zI ?_; refine zR ?_; refine zx (zi s70.2.1) rfl rfl ?_; refine zV (rn_add rfl rfl) rfl ?_; refine zy (zi (IntKind.i64.wrap (s70.2.1 + 1))) rfl rfl ?_; refine zN ?_
        have hO : Owns _ _ _ ([⟨60, 4, ns70_2, zl as70_2 ns70_2 cs70_2, clas70_2⟩, ⟨57, 2, y97.length, zl aw98 y97.length cw98, clw98⟩, ⟨54, 2, ns70_0, zl as70_0 ns70_0 cs70_0, clas70_0⟩, zb 26 3 b4 [zl as70_0 ns70_0 cs70_0, zl aw98 y97.length cw98, zl as70_2 ns70_2 cs70_2], zb 26 3 b1 [zl as70_3 ns70_3 cs70_3, zl as70_4 ns70_4 cs70_4, zl as70_5 ns70_5 cs70_5]]) := hO
        have H := oi H; subst H; refine ⟨_, rfl, ?_⟩
        have l4_7 := leG75.trans l5_7
        exact ⟨_, G96, as70_0, ns70_0, cs70_0, clas70_0, aw98, y97.length, cw98, clw98, as70_2, ns70_2, cs70_2, clas70_2, as70_3, ns70_3, cs70_3, as70_4, ns70_4, cs70_4, as70_5, ns70_5, cs70_5, upds_self _ _ ⟨rfl, rfl, rfl, rfl, rfl, rfl, rfl, trivial⟩, l4_7, hS, hO, hnhs70_0, (hs70_0.mono RTLandPerson_mono l5_7), rfl, hrw98, hnhs70_2, (hs70_2.mono RTLandMemory_mono l5_7), (hs70_3.mono RTLandPerson_mono l5_7), (hs70_4.mono RTLandEvent_mono l5_7), (hs70_5.mono RTLandMemory_mono l5_7)⟩
      ·have H := ifF hb78 H; refine WC_exit rfl ?_
       have hO : Owns _ _ _ ([⟨60, 4, ns70_2, zl as70_2 ns70_2 cs70_2, clas70_2⟩, ⟨57, 2, ns70_1, zl as70_1 ns70_1 cs70_1, clas70_1⟩, ⟨54, 2, ns70_0, zl as70_0 ns70_0 cs70_0, clas70_0⟩, zb 26 3 b4 [zl as70_0 ns70_0 cs70_0, zl as70_1 ns70_1 cs70_1, zl as70_2 ns70_2 cs70_2], zb 26 3 b1 [zl as70_3 ns70_3 cs70_3, zl as70_4 ns70_4 cs70_4, zl as70_5 ns70_5 cs70_5]]) := hO
       have H := oi H; subst H
       have hres := hqq72 _ rfl
       subst hres
       exact ⟨_, _, G75, as70_0, ns70_0, cs70_0, clas70_0, as70_1, ns70_1, cs70_1, clas70_1, as70_2, ns70_2, cs70_2, clas70_2, as70_3, ns70_3, cs70_3, as70_4, ns70_4, cs70_4, as70_5, ns70_5, cs70_5, rfl, upds_self _ _ ⟨rfl, rfl, rfl, rfl, rfl, rfl, trivial⟩, leG75, hS, hO, hnhs70_0, hs70_0, hnhs70_1, hs70_1, hnhs70_2, hs70_2, hs70_3, hs70_4, hs70_5⟩
    ·rintro F w100 ⟨p71, Fb, G101, ap71_0, np71_0, cp71_0, clap71_0, ap71_1, np71_1, cp71_1, clap71_1, ap71_2, np71_2, cp71_2, clap71_2, ap71_3, np71_3, cp71_3, ap71_4, np71_4, cp71_4, ap71_5, np71_5, cp71_5, rfl, rfl, leG101, hS, hO, hnhp71_0, hp71_0, hnhp71_1, hp71_1, hnhp71_2, hp71_2, hp71_3, hp71_4, hp71_5⟩
     refine zQ ?_; refine zS ?_; refine zy (zi 0) rfl rfl ?_; refine zN ?_; obtain ⟨q104, hq104, H⟩ := bnd H; refine zM (fun F w => ∃ (p103 : Int × TLandBook × TLandBook) (Fb : Fr) (G : Gm) (ap103_0 : Option Addr) (np103_0 cp103_0 : Nat) (clap103_0 : List Value) (ap103_1 : Option Addr) (np103_1 cp103_1 : Nat) (clap103_1 : List Value) (ap103_2 : Option Addr) (np103_2 cp103_2 : Nat) (clap103_2 : List Value) (ap103_3 : Option Addr) (np103_3 cp103_3 : Nat) (ap103_4 : Option Addr) (np103_4 cp103_4 : Nat) (ap103_5 : Option Addr) (np103_5 cp103_5 : Nat), q104 = .inl p103 ∧ F = upds Fb [(0, zs x0), (2, zp b1), (4, zp b4), (5, zl a10 n10 c10), (8, zi p103.1)] ∧ Gle G101 G ∧ Since w0.heap.size G0 w0 G w ∧ Owns G w w0.heap.size [⟨60, 4, np103_2, zl ap103_2 np103_2 cp103_2, clap103_2⟩, ⟨57, 2, np103_1, zl ap103_1 np103_1 cp103_1, clap103_1⟩, ⟨54, 2, np103_0, zl ap103_0 np103_0 cp103_0, clap103_0⟩, zb 26 3 b4 [zl ap103_0 np103_0 cp103_0, zl ap103_1 np103_1 cp103_1, zl ap103_2 np103_2 cp103_2], zb 26 3 b1 [zl ap103_3 np103_3 cp103_3, zl ap103_4 np103_4 cp103_4, zl ap103_5 np103_5 cp103_5]] ∧ np103_0 = p103.2.1.People.length ∧ Rd RTLandPerson 2 G clap103_0 p103.2.1.People ∧ np103_1 = p103.2.1.Events.length ∧ Rd RTLandEvent 2 G clap103_1 p103.2.1.Events ∧ np103_2 = p103.2.1.Memories.length ∧ Rd RTLandMemory 4 G clap103_2 p103.2.1.Memories ∧ RSl RTLandPerson 2 G ap103_3 np103_3 cp103_3 p103.2.2.People ∧ RSl RTLandEvent 2 G ap103_4 np103_4 cp103_4 p103.2.2.Events ∧ RSl RTLandMemory 4 G ap103_5 np103_5 cp103_5 p103.2.2.Memories) ?_ ?_
     ·refine WC_block (WC_loop hq104 (fun s102 F w => ∃ (Fb : Fr) (G : Gm) (as102_0 : Option Addr) (ns102_0 cs102_0 : Nat) (clas102_0 : List Value) (as102_1 : Option Addr) (ns102_1 cs102_1 : Nat) (clas102_1 : List Value) (as102_2 : Option Addr) (ns102_2 cs102_2 : Nat) (clas102_2 : List Value) (as102_3 : Option Addr) (ns102_3 cs102_3 : Nat) (as102_4 : Option Addr) (ns102_4 cs102_4 : Nat) (as102_5 : Option Addr) (ns102_5 cs102_5 : Nat), F = upds Fb [(0, zs x0), (2, zp b1), (4, zp b4), (5, zl a10 n10 c10), (6, zl a16 n16 c16), (8, zi s102.1), (15, zi s102.2.1)] ∧ Gle G101 G ∧ Since w0.heap.size G0 w0 G w ∧ Owns G w w0.heap.size [⟨60, 4, ns102_2, zl as102_2 ns102_2 cs102_2, clas102_2⟩, ⟨57, 2, ns102_1, zl as102_1 ns102_1 cs102_1, clas102_1⟩, ⟨54, 2, ns102_0, zl as102_0 ns102_0 cs102_0, clas102_0⟩, zb 26 3 b4 [zl as102_0 ns102_0 cs102_0, zl as102_1 ns102_1 cs102_1, zl as102_2 ns102_2 cs102_2], zb 26 3 b1 [zl as102_3 ns102_3 cs102_3, zl as102_4 ns102_4 cs102_4, zl as102_5 ns102_5 cs102_5]] ∧ ns102_0 = s102.2.2.1.People.length ∧ Rd RTLandPerson 2 G clas102_0 s102.2.2.1.People ∧ ns102_1 = s102.2.2.1.Events.length ∧ Rd RTLandEvent 2 G clas102_1 s102.2.2.1.Events ∧ ns102_2 = s102.2.2.1.Memories.length ∧ Rd RTLandMemory 4 G clas102_2 s102.2.2.1.Memories ∧ RSl RTLandPerson 2 G as102_3 ns102_3 cs102_3 s102.2.2.2.People ∧ RSl RTLandEvent 2 G as102_4 ns102_4 cs102_4 s102.2.2.2.Events ∧ RSl RTLandMemory 4 G as102_5 ns102_5 cs102_5 s102.2.2.2.Memories) ?_ ?_)
      ·have hO : Owns _ _ _ ([⟨60, 4, np71_2, zl ap71_2 np71_2 cp71_2, clap71_2⟩, ⟨57, 2, np71_1, zl ap71_1 np71_1 cp71_1, clap71_1⟩, ⟨54, 2, np71_0, zl ap71_0 np71_0 cp71_0, clap71_0⟩, zb 26 3 b4 [zl ap71_0 np71_0 cp71_0, zl ap71_1 np71_1 cp71_1, zl ap71_2 np71_2 cp71_2], zb 26 3 b1 [zl ap71_3 np71_3 cp71_3, zl ap71_4 np71_4 cp71_4, zl ap71_5 np71_5 cp71_5]]) := hO
       exact ⟨_, G101, ap71_0, np71_0, cp71_0, clap71_0, ap71_1, np71_1, cp71_1, clap71_1, ap71_2, np71_2, cp71_2, clap71_2, ap71_3, np71_3, cp71_3, ap71_4, np71_4, cp71_4, ap71_5, np71_5, cp71_5, upds_self _ _ ⟨rfl, rfl, rfl, rfl, rfl, rfl, rfl, trivial⟩, Gle.refl _, hS, hO, hnhp71_0, hp71_0, hnhp71_1, hp71_1, hnhp71_2, hp71_2, hp71_3, hp71_4, hp71_5⟩
      ·rintro s102 F w106 t105 ⟨Fb, G107, as102_0, ns102_0, cs102_0, clas102_0, as102_1, ns102_1, cs102_1, clas102_1, as102_2, ns102_2, cs102_2, clas102_2, as102_3, ns102_3, cs102_3, as102_4, ns102_4, cs102_4, as102_5, ns102_5, cs102_5, rfl, leG107, hS, hO, hnhs102_0, hs102_0, hnhs102_1, hs102_1, hnhs102_2, hs102_2, hs102_3, hs102_4, hs102_5⟩
       intro H1 hqq104
       have Hoq104 := H; have H := H1
       unfold f13_b2 at H
       refine zQ ?_; refine zS ?_; refine zx (zi s102.2.1) rfl rfl ?_; refine zx (zl a16 n16 c16) rfl rfl ?_; obtain ⟨y108, hy108, H⟩ := bnd H
       have l2_6 := ((leG32.trans leG69).trans leG101).trans leG107
       refine WL_idx sl41 (h16.mono RInt_mono l2_6) hy108 rfl rfl rfl ?_
       rintro b109 o109 _ hcb109 _ ⟨⟩
       refine zV (zL na3 rfl (hS.sat.cell (hcb109 0 _ rfl))) rfl ?_; refine zV (rn_lss rfl rfl) rfl ?_; refine zN ?_; refine zT rfl (fun hb110 => ?_) (fun hb110 => ?_)
       ·have H := ifT hb110 H; refine zP ?_; refine zQ ?_; refine WC_block ?_; refine zS ?_; refine zx (zl a10 n10 c10) rfl rfl ?_; refine zx (zi s102.1) rfl rfl ?_; obtain ⟨y111, hy111, H⟩ := bnd H
        have l1_6 := leG15.trans l2_6
        refine WL_idx sl66 (h10.mono RStr_mono l1_6) hy111 rfl rfl rfl ?_
        rintro b112 o112 _ hcb112 _ ⟨⟩
        refine zV (zL na9 rfl (hS.sat.cell (hcb112 0 _ rfl))) rfl ?_; obtain ⟨y113, hy113, H⟩ := bnd H; refine zO rfl (OpP_callG cb34 (f34_ok (x0 := y111) (x1 := ([109, 101, 109, 111, 114, 121] : List UInt8)) (x2 := 4) hS.sat  hy113) rfl rfl (fun vy113 G115 w114 hg hvy113 => ?_)); obtain ⟨a116, n116, c116, ⟨⟩, h116⟩ := hvy113; have hS := hS.grow hg; have hO := hO.grow hg
        have leG115 := hg.le
        refine zx (.tuple #[zl a116 n116 c116, .bool y113.2]) rfl rfl ?_; refine zV (zX (v := (zl a116 n116 c116)) rfl rfl) rfl ?_; refine zV (zX (v := (.bool y113.2)) rfl rfl) rfl ?_; refine zy (zl a116 n116 c116) rfl rfl ?_; refine zy (.bool y113.2) rfl rfl ?_; refine zN ?_; refine zQ ?_; refine zS ?_; refine zx (.bool y113.2) rfl rfl ?_; refine zV (rn_not rfl) rfl ?_; refine zN ?_; refine zT rfl (fun hb117 => ?_) (fun hb117 => ?_)
        ·have H := ifT hb117 H; refine zS ?_; refine zV (rn_loadA ag26 (cs := [zl as102_0 ns102_0 cs102_0, zl as102_1 ns102_1 cs102_1, zl as102_2 ns102_2 cs102_2]) rfl rfl (fun j v hj => own_sub hO (k := 3) rfl 0 3 j v hj)) rfl ?_; refine zO rfl (OpP_store (vs := [zl as102_0 ns102_0 cs102_0, zl as102_1 ns102_1 cs102_1, zl as102_2 ns102_2 cs102_2]) sz26 hS hO (k := 4) rfl rfl rfl rfl rfl (one_all rfl) (Nat.le_of_ble_eq_true rfl) (fun w118 hS hO => ?_))
         have hO : Owns _ _ _ ([⟨60, 4, ns102_2, zl as102_2 ns102_2 cs102_2, clas102_2⟩, ⟨57, 2, ns102_1, zl as102_1 ns102_1 cs102_1, clas102_1⟩, ⟨54, 2, ns102_0, zl as102_0 ns102_0 cs102_0, clas102_0⟩, zb 26 3 b4 [zl as102_0 ns102_0 cs102_0, zl as102_1 ns102_1 cs102_1, zl as102_2 ns102_2 cs102_2], zb 26 3 b1 [zl as102_0 ns102_0 cs102_0, zl as102_1 ns102_1 cs102_1, zl as102_2 ns102_2 cs102_2]]) := hO
         refine zy (.bool false) rfl rfl ?_; refine zN ?_; refine WC_ret ?_; obtain ⟨G119, leG119, hS, hO, hfG119⟩ := hO.freezeS hS RTLandPerson_mono (k := 2) rfl (hs102_0.mono RTLandPerson_mono leG115) hnhs102_0
         have l6_8 := leG115.trans leG119
         obtain ⟨G120, leG120, hS, hO, hfG120⟩ := hO.freezeS hS RTLandEvent_mono (k := 1) rfl (hs102_1.mono RTLandEvent_mono l6_8) hnhs102_1
         have l6_9 := l6_8.trans leG120
         obtain ⟨G121, leG121, hS, hO, hfG121⟩ := hO.freezeS hS RTLandMemory_mono (k := 0) rfl (hs102_2.mono RTLandMemory_mono l6_9) hnhs102_2; have H := oi H; subst H
         have hres := hqq104 _ rfl
         subst hres; have H := Hoq104
         have H : some ((⟨s102.2.2.1.People, s102.2.2.1.Events, s102.2.2.1.Memories⟩ : TLandBook), false) = some r := H
         have H := oi H; subst H
         have l8_10 := leG120.trans leG121
         exact ⟨[.agg #[zl as102_0 ns102_0 cs102_0, zl as102_1 ns102_1 cs102_1, zl as102_2 ns102_2 cs102_2], .bool false], ⟨⟨_, rfl, ld_agg (cs := [zl as102_0 ns102_0 cs102_0, zl as102_1 ns102_1 cs102_1, zl as102_2 ns102_2 cs102_2]) ag26 rfl (fun j v hj => own_sub hO (k := 1) rfl 0 3 j v hj)⟩, rfl, trivial⟩, ⟨_, _, rfl, hS.toGrow, _, _, _, _, _, _, _, _, _, rfl, (hfG119.mono RTLandPerson_mono l8_10), (hfG120.mono RTLandEvent_mono leG121), hfG121⟩⟩
        ·have H := ifF hb117 H; refine zP ?_; have hS := hS.keep (below_drew _); have hO := hO.below (below_drew _)
         refine WC_regionD mixedO (C2 [1] (fun w => Sat G115 w ∧ Owns G115 w w0.heap.size [⟨57, 2, ns102_1, zl as102_1 ns102_1 cs102_1, clas102_1⟩, ⟨54, 2, ns102_0, zl as102_0 ns102_0 cs102_0, clas102_0⟩, zb 26 3 b1 [zl as102_3 ns102_3 cs102_3, zl as102_4 ns102_4 cs102_4, zl as102_5 ns102_5 cs102_5]]) (fun w => Owns G115 w w0.heap.size [zb 26 3 b4 [zl as102_0 ns102_0 cs102_0, zl as102_1 ns102_1 cs102_1, zl as102_2 ns102_2 cs102_2]])) (.fl 0 (.fl 1 (.fl 2 (.fl 3 (.fl 4 (.fl 5 (.fl 6 (.fl 7 (.fl 8 (.fl 9 (.fl 10 (.fl 11 (.fl 12 (.fl 13 (.fl 14 (.fl 15 (.fl 18 (.fl 19 (.on 16 (.on 17 (.on 20 (.on 21 (.on 22 .nil))))))))))))))))))))))) (by kernel_rfl) rfl (by kernel_rfl) (fun _ => ⟨⟨hS.sat, ((hO.drop 3).drop 0)⟩, fun _ => ((((hO.drop 4).drop 2).drop 1).drop 0)⟩) ?_
         refine zD rfl (fun w hw => zF fd26_2 rfl) rfl ?_; refine zD rfl (fun w hw => zL na24 rfl (own_cell (hw.2 rfl) (k := 0) rfl (j := 2) rfl)) rfl ?_; refine zD rfl (fun w hw => zm (v := (zl a116 n116 c116)) rfl) rfl ?_; obtain ⟨y122, hy122, H⟩ := bnd H; refine WD_idx rfl sl41 h116 hy122 rfl rfl rfl ?_
         rintro b123 o123 _ hcb123 _ ⟨⟩
         refine zD rfl (fun w hw => zL na3 rfl (hw.1.1.cell (hcb123 0 _ rfl))) rfl ?_; refine zD rfl (fun w hw => zm (v := (zl a116 n116 c116)) rfl) rfl ?_; obtain ⟨y124, hy124, H⟩ := bnd H; refine WD_idx rfl sl41 h116 hy124 rfl rfl rfl ?_
         rintro b125 o125 _ hcb125 _ ⟨⟩
         refine zD rfl (fun w hw => zL na3 rfl (hw.1.1.cell (hcb125 0 _ rfl))) rfl ?_; refine zD rfl (fun w hw => zm (v := (zl a116 n116 c116)) rfl) rfl ?_; obtain ⟨y126, hy126, H⟩ := bnd H; refine WD_idx rfl sl41 h116 hy126 rfl rfl rfl ?_
         rintro b127 o127 _ hcb127 _ ⟨⟩
         refine zD rfl (fun w hw => zL na3 rfl (hw.1.1.cell (hcb127 0 _ rfl))) rfl ?_; refine zD rfl (fun w hw => zm (v := (zl a116 n116 c116)) rfl) rfl ?_; obtain ⟨y128, hy128, H⟩ := bnd H; refine WD_idx rfl sl41 h116 hy128 rfl rfl rfl ?_
         rintro b129 o129 _ hcb129 _ ⟨⟩
         refine zD rfl (fun w hw => zL na3 rfl (hw.1.1.cell (hcb129 0 _ rfl))) rfl ?_
         refine zD (v := (.agg #[zi y126, zi y128])) rfl (fun w hw => by kernel_rfl) rfl ?_
         refine zD (v := (.agg #[zi y122, zi y124, zi y126, zi y128])) rfl (fun w hw => by kernel_rfl) rfl ?_
         refine zD rfl (fun w hw => zm (v := (zi s102.1)) rfl) rfl ?_; refine zD rfl (fun w hw => rn_add rfl rfl) rfl ?_
         refine zE rfl rfl (zW (v := fun b => zl (some ⟨b, 0, none⟩) 1 1) (cs := [zi y122, zi y124, zi y126, zi y128]) (e := 60) (by kernel_rfl) hS.sat rfl (fun b130 G132 w131 hg hcb130 => ?_))
         have hS := hS.grow hg; have hO := hO.grow hg
         have leG132 := hg.le
         have hfb130 : RSl RTLandMemory 4 G132 (some ⟨b130, 0, none⟩) 1 1 [(⟨y122, y124, (⟨y126, y128⟩ : TSpan)⟩ : TLandMemory)] := RSl.of_rd hcb130 (Rd.cons (c := [zi y122, zi y124, zi y126, zi y128]) rfl rfl (Rd.nil RTLandMemory 4 _)) rfl (by decide)
         refine ⟨need2 ⟨hS.sat.le leG132, ((hO.drop 3).drop 0).le leG132⟩ (fun _ => ((((hO.drop 4).drop 2).drop 1).drop 0).le leG132), ?_⟩; obtain ⟨y133, hy133, H⟩ := bnd H
         have l6_8 := leG115.trans leG132
         refine zE rfl rfl (OpP_append (k := 0) sl24 RTLandMemory_one hS hO rfl hnhs102_2 (hs102_2.mono RTLandMemory_mono l6_8) hfb130 hy133 rfl rfl rfl rfl rfl (fun aw134 cw134 w134 clw134 hS hO hrw134 => ?_))
         have hO : Owns _ _ _ ([⟨60, 4, y133.length, zl aw134 y133.length cw134, clw134⟩, ⟨57, 2, ns102_1, zl as102_1 ns102_1 cs102_1, clas102_1⟩, ⟨54, 2, ns102_0, zl as102_0 ns102_0 cs102_0, clas102_0⟩, zb 26 3 b4 [zl as102_0 ns102_0 cs102_0, zl as102_1 ns102_1 cs102_1, zl as102_2 ns102_2 cs102_2], zb 26 3 b1 [zl as102_3 ns102_3 cs102_3, zl as102_4 ns102_4 cs102_4, zl as102_5 ns102_5 cs102_5]]) := hO
         refine ⟨need2 ⟨hS.sat.le leG132, ((hO.drop 3).drop 0).le leG132⟩ (fun h => nomore (by kernel_rfl) h), ?_⟩
         refine zE rfl rfl (OpP_val (zF fd26_2 rfl) rfl ?_)
         refine ⟨need2 ⟨hS.sat.le leG132, ((hO.drop 3).drop 0).le leG132⟩ (fun h => nomore (by kernel_rfl) h), ?_⟩
         refine zE rfl rfl (OpP_store (vs := [zl aw134 y133.length cw134]) sz24 hS hO (k := 3) rfl rfl rfl rfl rfl (one_all rfl) (Nat.le_of_ble_eq_true rfl) (fun w135 hS hO => ?_))
         have hO : Owns _ _ _ ([⟨60, 4, y133.length, zl aw134 y133.length cw134, clw134⟩, ⟨57, 2, ns102_1, zl as102_1 ns102_1 cs102_1, clas102_1⟩, ⟨54, 2, ns102_0, zl as102_0 ns102_0 cs102_0, clas102_0⟩, zb 26 3 b4 [zl as102_0 ns102_0 cs102_0, zl as102_1 ns102_1 cs102_1, zl aw134 y133.length cw134], zb 26 3 b1 [zl as102_3 ns102_3 cs102_3, zl as102_4 ns102_4 cs102_4, zl as102_5 ns102_5 cs102_5]]) := hO
         refine ⟨need2 ⟨hS.sat.le leG132, ((hO.drop 3).drop 0).le leG132⟩ (fun h => nomore (by kernel_rfl) h), ?_⟩
         refine zE rfl rfl (OpP_val (zA (v := (zi (IntKind.i64.wrap (s102.1 + 1)))) rfl) rfl ?_)
         refine ⟨fun _ h => noneed (by kernel_rfl) h, ?_⟩
         refine zI ?_; refine zR ?_; refine zx (zi s102.2.1) rfl rfl ?_; refine zV (rn_add rfl rfl) rfl ?_; refine zy (zi (IntKind.i64.wrap (s102.2.1 + 1))) rfl rfl ?_; refine zN ?_
         have hO : Owns _ _ _ ([⟨60, 4, y133.length, zl aw134 y133.length cw134, clw134⟩, ⟨57, 2, ns102_1, zl as102_1 ns102_1 cs102_1, clas102_1⟩, ⟨54, 2, ns102_0, zl as102_0 ns102_0 cs102_0, clas102_0⟩, zb 26 3 b4 [zl as102_0 ns102_0 cs102_0, zl as102_1 ns102_1 cs102_1, zl aw134 y133.length cw134], zb 26 3 b1 [zl as102_3 ns102_3 cs102_3, zl as102_4 ns102_4 cs102_4, zl as102_5 ns102_5 cs102_5]]) := hO
         have H := oi H; subst H; refine ⟨_, rfl, ?_⟩
         have l5_8 := leG107.trans l6_8
         exact ⟨_, G132, as102_0, ns102_0, cs102_0, clas102_0, as102_1, ns102_1, cs102_1, clas102_1, aw134, y133.length, cw134, clw134, as102_3, ns102_3, cs102_3, as102_4, ns102_4, cs102_4, as102_5, ns102_5, cs102_5, upds_self _ _ ⟨rfl, rfl, rfl, rfl, rfl, rfl, rfl, trivial⟩, l5_8, hS, hO, hnhs102_0, (hs102_0.mono RTLandPerson_mono l6_8), hnhs102_1, (hs102_1.mono RTLandEvent_mono l6_8), rfl, hrw134, (hs102_3.mono RTLandPerson_mono l6_8), (hs102_4.mono RTLandEvent_mono l6_8), (hs102_5.mono RTLandMemory_mono l6_8)⟩
       ·have H := ifF hb110 H; refine WC_exit rfl ?_
        have hO : Owns _ _ _ ([⟨60, 4, ns102_2, zl as102_2 ns102_2 cs102_2, clas102_2⟩, ⟨57, 2, ns102_1, zl as102_1 ns102_1 cs102_1, clas102_1⟩, ⟨54, 2, ns102_0, zl as102_0 ns102_0 cs102_0, clas102_0⟩, zb 26 3 b4 [zl as102_0 ns102_0 cs102_0, zl as102_1 ns102_1 cs102_1, zl as102_2 ns102_2 cs102_2], zb 26 3 b1 [zl as102_3 ns102_3 cs102_3, zl as102_4 ns102_4 cs102_4, zl as102_5 ns102_5 cs102_5]]) := hO
        have H := oi H; subst H
        have hres := hqq104 _ rfl
        subst hres
        exact ⟨_, _, G107, as102_0, ns102_0, cs102_0, clas102_0, as102_1, ns102_1, cs102_1, clas102_1, as102_2, ns102_2, cs102_2, clas102_2, as102_3, ns102_3, cs102_3, as102_4, ns102_4, cs102_4, as102_5, ns102_5, cs102_5, rfl, upds_self _ _ ⟨rfl, rfl, rfl, rfl, rfl, trivial⟩, leG107, hS, hO, hnhs102_0, hs102_0, hnhs102_1, hs102_1, hnhs102_2, hs102_2, hs102_3, hs102_4, hs102_5⟩
     ·rintro F w136 ⟨p103, Fb, G137, ap103_0, np103_0, cp103_0, clap103_0, ap103_1, np103_1, cp103_1, clap103_1, ap103_2, np103_2, cp103_2, clap103_2, ap103_3, np103_3, cp103_3, ap103_4, np103_4, cp103_4, ap103_5, np103_5, cp103_5, rfl, rfl, leG137, hS, hO, hnhp103_0, hp103_0, hnhp103_1, hp103_1, hnhp103_2, hp103_2, hp103_3, hp103_4, hp103_5⟩
      refine zS ?_; refine zx (zs x0) rfl rfl ?_; refine zV (rn_lenS Tryz.underlying9 rfl rfl) rfl ?_; refine zx (zl a10 n10 c10) rfl rfl ?_; refine zx (zi p103.1) rfl rfl ?_; obtain ⟨y138, hy138, H⟩ := bnd H
      have l1_6 := (((leG15.trans leG32).trans leG69).trans leG101).trans leG137
      refine WL_idx sl66 (h10.mono RStr_mono l1_6) hy138 rfl rfl rfl ?_
      rintro b139 o139 _ hcb139 _ ⟨⟩
      refine zV (zL na9 rfl (hS.sat.cell (hcb139 0 _ rfl))) rfl ?_; refine zV (rn_lenS Tryz.underlying9 rfl rfl) rfl ?_; refine zV (rn_sub rfl rfl) rfl ?_; refine zV (rn_sub rfl rfl) rfl ?_; refine zV (zA (v := (zi (IntKind.i64.wrap ((IntKind.i64.wrap ((x0.length : Int) - (y138.length : Int))) - 1)))) rfl) rfl ?_; refine zN ?_; refine zQ ?_; have hS := hS.keep (below_drew _); have hO := hO.below (below_drew _)
      refine WC_regionD mixedO (fun _ w => Sat G137 w ∧ Owns G137 w w0.heap.size [⟨60, 4, np103_2, zl ap103_2 np103_2 cp103_2, clap103_2⟩, ⟨57, 2, np103_1, zl ap103_1 np103_1 cp103_1, clap103_1⟩, ⟨54, 2, np103_0, zl ap103_0 np103_0 cp103_0, clap103_0⟩, zb 26 3 b4 [zl ap103_0 np103_0 cp103_0, zl ap103_1 np103_1 cp103_1, zl ap103_2 np103_2 cp103_2]]) (.fl 0 (.fl 1 (.on 2 (.on 3 (.on 4 (.on 5 (.on 6 (.on 7 (.on 8 (.on 9 (.on 10 (.on 11 (.fl 12 (.fl 13 (.fl 14 (.fl 15 (.fl 16 (.on 17 (.on 18 (.on 19 (.fl 20 (.fl 21 (.fl 22 (.on 23 (.on 24 .nil))))))))))))))))))))))))) (by kernel_rfl) rfl (by kernel_rfl) (fun _ => ⟨hS.sat, (hO.drop 4)⟩) ?_
      refine zD rfl (fun w hw => rn_loadA ag26 (cs := [zl ap103_0 np103_0 cp103_0, zl ap103_1 np103_1 cp103_1, zl ap103_2 np103_2 cp103_2]) rfl rfl (fun j v hj => own_sub hw.2 (k := 3) rfl 0 3 j v hj)) rfl ?_; refine zD rfl (fun w hw => zm (v := (zl a10 n10 c10)) rfl) rfl ?_; refine zE rfl rfl (OpP_val (zm (v := (zi p103.1)) rfl) rfl ?_); refine ⟨fun _ _ => ⟨hS.sat, (hO.drop 4)⟩, ?_⟩; refine zE rfl rfl (OpP_val (rn_add rfl rfl) rfl ?_); refine ⟨fun _ _ => ⟨hS.sat, (hO.drop 4)⟩, ?_⟩; obtain ⟨y140, hy140, H⟩ := bnd H; refine zE rfl rfl (OpP_idx sl66 (h10.mono RStr_mono l1_6) hy140 rfl rfl rfl ?_)
      rintro b141 o141 _ hcb141 _ ⟨⟩
      refine ⟨fun _ _ => ⟨hS.sat, (hO.drop 4)⟩, ?_⟩; refine zE rfl rfl (OpP_val (zL na9 rfl (hS.sat.cell (hcb141 0 _ rfl))) rfl ?_); refine ⟨fun _ _ => ⟨hS.sat, (hO.drop 4)⟩, ?_⟩; refine zE rfl rfl (OpP_val (rn_eqlS rfl rfl) rfl ?_); refine ⟨fun _ _ => ⟨hS.sat, (hO.drop 4)⟩, ?_⟩; refine zE rfl rfl (OpP_val (zm (v := (.bool (y140 == ([] : List UInt8)))) rfl) rfl ?_); refine ⟨fun _ _ => ⟨hS.sat, (hO.drop 4)⟩, ?_⟩
      rcases bcases (y140 == ([] : List UInt8)) with hb142 | hb142
      ·have H := ifT hb142 H; refine WD_opY rfl rfl rfl hb142 rfl rfl (OpP_val (zm (v := (zi (IntKind.i64.wrap ((IntKind.i64.wrap ((x0.length : Int) - (y138.length : Int))) - 1)))) rfl) rfl ?_); refine ⟨fun _ _ => ⟨hS.sat, (hO.drop 4)⟩, ?_⟩; refine WD_opY rfl rfl rfl hb142 rfl rfl (OpP_val (rn_gtr rfl rfl) rfl ?_); refine ⟨fun _ _ => ⟨hS.sat, (hO.drop 4)⟩, ?_⟩; refine zE rfl rfl (OpP_val (rn_pickT (v := (.bool (decide (0 < (IntKind.i64.wrap ((IntKind.i64.wrap ((x0.length : Int) - (y138.length : Int))) - 1)))))) rfl hb142 rfl) rfl ?_); refine ⟨fun _ _ => ⟨hS.sat, (hO.drop 4)⟩, ?_⟩; refine zE rfl rfl (OpP_val (zm (v := (.bool (decide (0 < (IntKind.i64.wrap ((IntKind.i64.wrap ((x0.length : Int) - (y138.length : Int))) - 1)))))) rfl) rfl ?_); refine ⟨fun _ _ => ⟨hS.sat, (hO.drop 4)⟩, ?_⟩
       rcases bcases (decide (0 < (IntKind.i64.wrap ((IntKind.i64.wrap ((x0.length : Int) - (y138.length : Int))) - 1)))) with hb143 | hb143
       ·have H := ifT hb143 H; refine zB rfl rfl hb143 rfl rfl (fun w hw => zm (v := (zl a10 n10 c10)) rfl) rfl ?_; refine zB rfl rfl hb143 rfl rfl (fun w hw => zm (v := (zi p103.1)) rfl) rfl ?_; refine WD_idxY rfl rfl hb143 rfl rfl sl66 (h10.mono RStr_mono l1_6) hy138 rfl rfl rfl ?_
        rintro b144 o144 _ hcb144 _ ⟨⟩
        refine zB rfl rfl hb143 rfl rfl (fun w hw => zL na9 rfl (hw.1.cell (hcb144 0 _ rfl))) rfl ?_; refine zB rfl rfl hb143 rfl rfl (fun w hw => zm (v := (zs x0)) rfl) rfl ?_; refine WD_opY rfl rfl rfl hb143 rfl rfl (OpP_val (zm (v := (zi (IntKind.i64.wrap ((IntKind.i64.wrap ((x0.length : Int) - (y138.length : Int))) - 1)))) rfl) rfl ?_); refine ⟨fun _ _ => ⟨hS.sat, (hO.drop 4)⟩, ?_⟩; obtain ⟨y145, hy145, H⟩ := bnd H; refine WD_opY rfl rfl rfl hb143 rfl rfl (OpP_val (rn_sliceSH Tryz.underlying9 rfl rfl hy145) rfl ?_); refine ⟨fun _ _ => ⟨hS.sat, (hO.drop 4)⟩, ?_⟩; obtain ⟨y146, hy146, H⟩ := bnd H; refine WD_opY rfl rfl rfl hb143 rfl rfl (zC cb32 (f32_ok (x0 := y145) hS.sat  hy146) rfl rfl (fun w147 hb => ?_)); have hS := hS.keep hb; have hO := hO.below hb; refine ⟨fun _ _ => ⟨hS.sat, (hO.drop 4)⟩, ?_⟩; obtain ⟨y148, hy148, H⟩ := bnd H; refine zB rfl rfl hb143 rfl rfl (fun w hw => rn_catS rfl rfl hy148) rfl ?_; refine zB rfl rfl hb143 rfl rfl (fun w hw => rn_eqlS rfl rfl) rfl ?_; refine zD rfl (fun w hw => rn_pickT (v := (.bool (y138 == y148))) rfl hb143 rfl) rfl ?_; refine zE rfl rfl (OpP_store (vs := [zl ap103_0 np103_0 cp103_0, zl ap103_1 np103_1 cp103_1, zl ap103_2 np103_2 cp103_2]) sz26 hS hO (k := 4) rfl rfl rfl rfl rfl (one_all rfl) (Nat.le_of_ble_eq_true rfl) (fun w149 hS hO => ?_))
        have hO : Owns _ _ _ ([⟨60, 4, np103_2, zl ap103_2 np103_2 cp103_2, clap103_2⟩, ⟨57, 2, np103_1, zl ap103_1 np103_1 cp103_1, clap103_1⟩, ⟨54, 2, np103_0, zl ap103_0 np103_0 cp103_0, clap103_0⟩, zb 26 3 b4 [zl ap103_0 np103_0 cp103_0, zl ap103_1 np103_1 cp103_1, zl ap103_2 np103_2 cp103_2], zb 26 3 b1 [zl ap103_0 np103_0 cp103_0, zl ap103_1 np103_1 cp103_1, zl ap103_2 np103_2 cp103_2]]) := hO
        refine ⟨fun _ _ => ⟨hS.sat, (hO.drop 4)⟩, ?_⟩; refine zE rfl rfl (OpP_val (zA (v := (.bool (y138 == y148))) rfl) rfl ?_)
        refine ⟨fun _ h => noneed (by kernel_rfl) h, ?_⟩
        refine zI ?_; refine WC_ret ?_; obtain ⟨G150, leG150, hS, hO, hfG150⟩ := hO.freezeS hS RTLandPerson_mono (k := 2) rfl hp103_0 hnhp103_0; obtain ⟨G151, leG151, hS, hO, hfG151⟩ := hO.freezeS hS RTLandEvent_mono (k := 1) rfl (hp103_1.mono RTLandEvent_mono leG150) hnhp103_1
        have l6_8 := leG150.trans leG151
        obtain ⟨G152, leG152, hS, hO, hfG152⟩ := hO.freezeS hS RTLandMemory_mono (k := 0) rfl (hp103_2.mono RTLandMemory_mono l6_8) hnhp103_2
        have H : some ((⟨p103.2.1.People, p103.2.1.Events, p103.2.1.Memories⟩ : TLandBook), y138 == y148) = some r := H
        have H := oi H; subst H
        have l7_9 := leG151.trans leG152
        exact ⟨[.agg #[zl ap103_0 np103_0 cp103_0, zl ap103_1 np103_1 cp103_1, zl ap103_2 np103_2 cp103_2], .bool (y138 == y148)], ⟨⟨_, rfl, ld_agg (cs := [zl ap103_0 np103_0 cp103_0, zl ap103_1 np103_1 cp103_1, zl ap103_2 np103_2 cp103_2]) ag26 rfl (fun j v hj => own_sub hO (k := 1) rfl 0 3 j v hj)⟩, rfl, trivial⟩, ⟨_, _, rfl, hS.toGrow, _, _, _, _, _, _, _, _, _, rfl, (hfG150.mono RTLandPerson_mono l7_9), (hfG151.mono RTLandEvent_mono leG152), hfG152⟩⟩
       ·have H := ifF hb143 H; refine zK rfl rfl hb143 rfl rfl rfl ?_; refine zK rfl rfl hb143 rfl rfl rfl ?_; refine zK rfl rfl hb143 rfl rfl rfl ?_; refine zK rfl rfl hb143 rfl rfl rfl ?_; refine zK rfl rfl hb143 rfl rfl rfl ?_; refine zJ rfl rfl hb143 rfl rfl rfl (fun _ _ => ⟨hS.sat, (hO.drop 4)⟩) ?_; refine zJ rfl rfl hb143 rfl rfl rfl (fun _ _ => ⟨hS.sat, (hO.drop 4)⟩) ?_; refine zJ rfl rfl hb143 rfl rfl rfl (fun _ _ => ⟨hS.sat, (hO.drop 4)⟩) ?_; refine zK rfl rfl hb143 rfl rfl rfl ?_; refine zK rfl rfl hb143 rfl rfl rfl ?_; refine zD rfl (fun w hw => rn_pickF (v := (.bool false)) rfl hb143 rfl) rfl ?_; refine zE rfl rfl (OpP_store (vs := [zl ap103_0 np103_0 cp103_0, zl ap103_1 np103_1 cp103_1, zl ap103_2 np103_2 cp103_2]) sz26 hS hO (k := 4) rfl rfl rfl rfl rfl (one_all rfl) (Nat.le_of_ble_eq_true rfl) (fun w153 hS hO => ?_))
        have hO : Owns _ _ _ ([⟨60, 4, np103_2, zl ap103_2 np103_2 cp103_2, clap103_2⟩, ⟨57, 2, np103_1, zl ap103_1 np103_1 cp103_1, clap103_1⟩, ⟨54, 2, np103_0, zl ap103_0 np103_0 cp103_0, clap103_0⟩, zb 26 3 b4 [zl ap103_0 np103_0 cp103_0, zl ap103_1 np103_1 cp103_1, zl ap103_2 np103_2 cp103_2], zb 26 3 b1 [zl ap103_0 np103_0 cp103_0, zl ap103_1 np103_1 cp103_1, zl ap103_2 np103_2 cp103_2]]) := hO
        refine ⟨fun _ _ => ⟨hS.sat, (hO.drop 4)⟩, ?_⟩; refine zE rfl rfl (OpP_val (zA (v := (.bool false)) rfl) rfl ?_)
        refine ⟨fun _ h => noneed (by kernel_rfl) h, ?_⟩
        refine zI ?_; refine WC_ret ?_; obtain ⟨G154, leG154, hS, hO, hfG154⟩ := hO.freezeS hS RTLandPerson_mono (k := 2) rfl hp103_0 hnhp103_0; obtain ⟨G155, leG155, hS, hO, hfG155⟩ := hO.freezeS hS RTLandEvent_mono (k := 1) rfl (hp103_1.mono RTLandEvent_mono leG154) hnhp103_1
        have l6_8 := leG154.trans leG155
        obtain ⟨G156, leG156, hS, hO, hfG156⟩ := hO.freezeS hS RTLandMemory_mono (k := 0) rfl (hp103_2.mono RTLandMemory_mono l6_8) hnhp103_2
        have H : some ((⟨p103.2.1.People, p103.2.1.Events, p103.2.1.Memories⟩ : TLandBook), false) = some r := H
        have H := oi H; subst H
        have l7_9 := leG155.trans leG156
        exact ⟨[.agg #[zl ap103_0 np103_0 cp103_0, zl ap103_1 np103_1 cp103_1, zl ap103_2 np103_2 cp103_2], .bool false], ⟨⟨_, rfl, ld_agg (cs := [zl ap103_0 np103_0 cp103_0, zl ap103_1 np103_1 cp103_1, zl ap103_2 np103_2 cp103_2]) ag26 rfl (fun j v hj => own_sub hO (k := 1) rfl 0 3 j v hj)⟩, rfl, trivial⟩, ⟨_, _, rfl, hS.toGrow, _, _, _, _, _, _, _, _, _, rfl, (hfG154.mono RTLandPerson_mono l7_9), (hfG155.mono RTLandEvent_mono leG156), hfG156⟩⟩
      ·have H := ifF hb142 H; refine zJ rfl rfl hb142 rfl rfl rfl (fun _ _ => ⟨hS.sat, (hO.drop 4)⟩) ?_; refine zJ rfl rfl hb142 rfl rfl rfl (fun _ _ => ⟨hS.sat, (hO.drop 4)⟩) ?_; refine zE rfl rfl (OpP_val (rn_pickF (v := (.bool false)) rfl hb142 rfl) rfl ?_); refine ⟨fun _ _ => ⟨hS.sat, (hO.drop 4)⟩, ?_⟩; refine zE rfl rfl (OpP_val (zm (v := (.bool false)) rfl) rfl ?_); refine ⟨fun _ _ => ⟨hS.sat, (hO.drop 4)⟩, ?_⟩; refine zK rfl rfl rfl rfl rfl rfl ?_; refine zK rfl rfl rfl rfl rfl rfl ?_; refine zK rfl rfl rfl rfl rfl rfl ?_; refine zK rfl rfl rfl rfl rfl rfl ?_; refine zK rfl rfl rfl rfl rfl rfl ?_; refine zJ rfl rfl rfl rfl rfl rfl (fun _ _ => ⟨hS.sat, (hO.drop 4)⟩) ?_; refine zJ rfl rfl rfl rfl rfl rfl (fun _ _ => ⟨hS.sat, (hO.drop 4)⟩) ?_; refine zJ rfl rfl rfl rfl rfl rfl (fun _ _ => ⟨hS.sat, (hO.drop 4)⟩) ?_; refine zK rfl rfl rfl rfl rfl rfl ?_; refine zK rfl rfl rfl rfl rfl rfl ?_; refine zD rfl (fun w hw => rn_pickF (v := (.bool false)) rfl rfl rfl) rfl ?_; refine zE rfl rfl (OpP_store (vs := [zl ap103_0 np103_0 cp103_0, zl ap103_1 np103_1 cp103_1, zl ap103_2 np103_2 cp103_2]) sz26 hS hO (k := 4) rfl rfl rfl rfl rfl (one_all rfl) (Nat.le_of_ble_eq_true rfl) (fun w157 hS hO => ?_))
       have hO : Owns _ _ _ ([⟨60, 4, np103_2, zl ap103_2 np103_2 cp103_2, clap103_2⟩, ⟨57, 2, np103_1, zl ap103_1 np103_1 cp103_1, clap103_1⟩, ⟨54, 2, np103_0, zl ap103_0 np103_0 cp103_0, clap103_0⟩, zb 26 3 b4 [zl ap103_0 np103_0 cp103_0, zl ap103_1 np103_1 cp103_1, zl ap103_2 np103_2 cp103_2], zb 26 3 b1 [zl ap103_0 np103_0 cp103_0, zl ap103_1 np103_1 cp103_1, zl ap103_2 np103_2 cp103_2]]) := hO
       refine ⟨fun _ _ => ⟨hS.sat, (hO.drop 4)⟩, ?_⟩; refine zE rfl rfl (OpP_val (zA (v := (.bool false)) rfl) rfl ?_)
       refine ⟨fun _ h => noneed (by kernel_rfl) h, ?_⟩
       refine zI ?_; refine WC_ret ?_; obtain ⟨G158, leG158, hS, hO, hfG158⟩ := hO.freezeS hS RTLandPerson_mono (k := 2) rfl hp103_0 hnhp103_0; obtain ⟨G159, leG159, hS, hO, hfG159⟩ := hO.freezeS hS RTLandEvent_mono (k := 1) rfl (hp103_1.mono RTLandEvent_mono leG158) hnhp103_1
       have l6_8 := leG158.trans leG159
       obtain ⟨G160, leG160, hS, hO, hfG160⟩ := hO.freezeS hS RTLandMemory_mono (k := 0) rfl (hp103_2.mono RTLandMemory_mono l6_8) hnhp103_2
       have H : some ((⟨p103.2.1.People, p103.2.1.Events, p103.2.1.Memories⟩ : TLandBook), false) = some r := H
       have H := oi H; subst H
       have l7_9 := leG159.trans leG160
       exact ⟨[.agg #[zl ap103_0 np103_0 cp103_0, zl ap103_1 np103_1 cp103_1, zl ap103_2 np103_2 cp103_2], .bool false], ⟨⟨_, rfl, ld_agg (cs := [zl ap103_0 np103_0 cp103_0, zl ap103_1 np103_1 cp103_1, zl ap103_2 np103_2 cp103_2]) ag26 rfl (fun j v hj => own_sub hO (k := 1) rfl 0 3 j v hj)⟩, rfl, trivial⟩, ⟨_, _, rfl, hS.toGrow, _, _, _, _, _, _, _, _, _, rfl, (hfG158.mono RTLandPerson_mono l7_9), (hfG159.mono RTLandEvent_mono leG160), hfG160⟩⟩
set_option maxHeartbeats 1000000 in
theorem f4_ok {G0 : Gm} {w0 : World} (hS0 : Sat G0 w0) {x0 : (List UInt8)} (hT : TabZ Tryz.prog G0) {r : Bool} (H : f4 x0 = some r) :
  Calls Tryz.prog 4 #[zs x0] w0 (RetV w0 (.bool r)) := by
 have hS := Since.start hS0
 have hO : Owns G0 w0 w0.heap.size [] := Owns.nil (Nat.le_refl _)
 unfold f4 at H
 refine enter1 (N := 79) (shutV _ _) Tryz.func4 rfl rfl rfl rfl ?_; refine zS ?_; refine zy (.bool false) rfl rfl ?_; refine zN ?_; refine zQ ?_; refine zQ ?_; obtain ⟨q1, hq1, H⟩ := bnd H; refine zM (fun F w => ∃ (Fb : Fr), F = upds Fb [(0, zs x0), (22, .bool q1)] ∧ w0 = w) ?_ ?_
 ·have Hoq1 := H; have H := hq1; refine zR ?_; refine zx (zs x0) rfl rfl ?_; refine zV (rn_lenS Tryz.underlying9 rfl rfl) rfl ?_; refine zV (rn_gtr rfl rfl) rfl ?_; refine zV (zm (v := (.bool (decide (900 < (x0.length : Int))))) rfl) rfl ?_
  rcases bcases (decide (900 < (x0.length : Int))) with hb2 | hb2
  ·have H := ifT hb2 H; refine zY rfl hb2 rfl rfl ?_; refine zx (zs x0) rfl rfl ?_; refine zY rfl hb2 rfl rfl ?_; refine zV (rn_lenS Tryz.underlying9 rfl rfl) rfl ?_; refine zY rfl hb2 rfl rfl ?_; refine zV (rn_leq rfl rfl) rfl ?_; refine zV (rn_pickT (v := (.bool (decide ((x0.length : Int) ≤ 5000)))) rfl hb2 rfl) rfl ?_; refine zV (zm (v := (.bool (decide ((x0.length : Int) ≤ 5000)))) rfl) rfl ?_
   rcases bcases (decide ((x0.length : Int) ≤ 5000)) with hb3 | hb3
   ·have H := ifT hb3 H; refine zG rfl hb3 rfl rfl rfl ?_; refine zG rfl hb3 rfl rfl rfl ?_; refine zG rfl hb3 rfl rfl rfl ?_; refine zV (rn_pickT (v := (.bool true)) rfl hb3 rfl) rfl ?_; refine zN ?_; have H := oi H; subst H
    exact ⟨_, upds_self _ _ ⟨rfl, rfl, trivial⟩, rfl⟩
   ·have H := ifF hb3 H; refine zY rfl hb3 rfl rfl ?_; refine zx (zs x0) rfl rfl ?_; refine zY rfl hb3 rfl rfl ?_; refine zV (rn_lenS Tryz.underlying9 rfl rfl) rfl ?_; refine zY rfl hb3 rfl rfl ?_; refine zV (rn_gtr rfl rfl) rfl ?_; refine zV (rn_pickF (v := (.bool (decide (5100 < (x0.length : Int))))) rfl hb3 rfl) rfl ?_; refine zN ?_; have H := oi H; subst H
    exact ⟨_, upds_self _ _ ⟨rfl, rfl, trivial⟩, rfl⟩
  ·have H := ifF hb2 H; refine zG rfl hb2 rfl rfl rfl ?_; refine zG rfl hb2 rfl rfl rfl ?_; refine zG rfl hb2 rfl rfl rfl ?_; refine zV (rn_pickF (v := (.bool false)) rfl hb2 rfl) rfl ?_; refine zx (.bool false) rfl rfl ?_; refine zY rfl rfl rfl rfl ?_; refine zx (zs x0) rfl rfl ?_; refine zY rfl rfl rfl rfl ?_; refine zV (rn_lenS Tryz.underlying9 rfl rfl) rfl ?_; refine zY rfl rfl rfl rfl ?_; refine zV (rn_gtr rfl rfl) rfl ?_; refine zV (rn_pickF (v := (.bool (decide (5100 < (x0.length : Int))))) rfl rfl rfl) rfl ?_; refine zN ?_; have H := oi H; subst H
   exact ⟨_, upds_self _ _ ⟨rfl, rfl, trivial⟩, rfl⟩
 ·rintro F wl ⟨Fb, rfl, rfl⟩
  refine zT rfl (fun hb6 => ?_) (fun hb6 => ?_)
  ·have H := ifT hb6 H; refine zS ?_; obtain ⟨y7, hy7, H⟩ := bnd H; refine zO rfl (zC cb7 (f7_ok  hS.sat hT  hy7) rfl rfl (fun w8 hb => ?_)); have hS := hS.keep hb; have hO := hO.below hb; refine zy (.bool y7) rfl rfl ?_; refine zN ?_; refine WC_ret ?_
   have H : some y7 = some r := H
   have H := oi H; subst H
   exact ⟨rfl, hS.below⟩
  ·have H := ifF hb6 H; refine zP ?_; refine zS ?_; refine zx (zs x0) rfl rfl ?_; obtain ⟨y9, hy9, H⟩ := bnd H; refine zO rfl (OpP_callG cb10 (f10_ok (x0 := x0) hS.sat hT  hy9) rfl rfl (fun vy9 G11 w10 hg hvy9 => ?_)); obtain ⟨a12, n12, c12, a13, n13, c13, a14, n14, c14, ⟨⟩, h12, h13, h14⟩ := hvy9; have hS := hS.grow hg; have hO := hO.grow hg
   have leG11 := hg.le
   refine zx (.tuple #[.agg #[zl a12 n12 c12, zl a13 n13 c13, zl a14 n14 c14], zi y9.2]) rfl rfl ?_; refine zV (zX (v := (.agg #[zl a12 n12 c12, zl a13 n13 c13, zl a14 n14 c14])) rfl rfl) rfl ?_; refine zV (zX (v := (zi y9.2)) rfl rfl) rfl ?_
   refine zO rfl (zU (v := fun b => zp b) (cs := [zl none 0 0, zl none 0 0, zl none 0 0]) (e := 26) (by kernel_rfl) hS.sat hO rfl 3 1 rfl (by decide) (fun b15 w16 hb hO => ?_))
   have hS := hS.keep hb; refine zO rfl (OpP_store (vs := [zl a12 n12 c12, zl a13 n13 c13, zl a14 n14 c14]) sz26 hS hO (k := 0) rfl rfl rfl rfl rfl (one_all rfl) (Nat.le_of_ble_eq_true rfl) (fun w18 hS hO => ?_))
   have hO : Owns _ _ _ ([zb 26 3 b15 [zl a12 n12 c12, zl a13 n13 c13, zl a14 n14 c14]]) := hO
   obtain ⟨G19, leG19, hS, hO, hqG19, _⟩ := hO.freeze hS (k := 0) rfl
   have hcG19 : Cells G19 b15 0 [zl a12 n12 c12, zl a13 n13 c13, zl a14 n14 c14] := (hqG19 _ _ _ _ rfl)
   refine zy (zi y9.2) rfl rfl ?_; refine zN ?_; refine zS ?_; refine zx (zs x0) rfl rfl ?_; obtain ⟨y20, hy20, H⟩ := bnd H; refine zO rfl (OpP_callG cb13 (f13_ok (x0 := x0) hS.sat  hy20) rfl rfl (fun vy20 G22 w21 hg hvy20 => ?_)); obtain ⟨a23, n23, c23, a24, n24, c24, a25, n25, c25, ⟨⟩, h23, h24, h25⟩ := hvy20; have hS := hS.grow hg; have hO := hO.grow hg
   have leG22 := hg.le
   refine zx (.tuple #[.agg #[zl a23 n23 c23, zl a24 n24 c24, zl a25 n25 c25], .bool y20.2]) rfl rfl ?_; refine zV (zX (v := (.agg #[zl a23 n23 c23, zl a24 n24 c24, zl a25 n25 c25])) rfl rfl) rfl ?_; refine zV (zX (v := (.bool y20.2)) rfl rfl) rfl ?_
   refine zO rfl (zU (v := fun b => zp b) (cs := [zl none 0 0, zl none 0 0, zl none 0 0]) (e := 26) (by kernel_rfl) hS.sat hO rfl 3 1 rfl (by decide) (fun b26 w27 hb hO => ?_))
   have hS := hS.keep hb; refine zO rfl (OpP_store (vs := [zl a23 n23 c23, zl a24 n24 c24, zl a25 n25 c25]) sz26 hS hO (k := 0) rfl rfl rfl rfl rfl (one_all rfl) (Nat.le_of_ble_eq_true rfl) (fun w29 hS hO => ?_))
   have hO : Owns _ _ _ ([zb 26 3 b26 [zl a23 n23 c23, zl a24 n24 c24, zl a25 n25 c25]]) := hO
   obtain ⟨G30, leG30, hS, hO, hqG30, _⟩ := hO.freeze hS (k := 0) rfl
   have hcG30 : Cells G30 b26 0 [zl a23 n23 c23, zl a24 n24 c24, zl a25 n25 c25] := (hqG30 _ _ _ _ rfl)
   refine zy (.bool y20.2) rfl rfl ?_; refine zN ?_; refine zS ?_; refine zy (zi 0) rfl rfl ?_; refine zN ?_; refine zQ ?_; obtain ⟨q31, hq31, H⟩ := bnd H; refine zM (fun F w => ∃ (Fb : Fr) (G : Gm), F = upds Fb [(0, zs x0), (3, zp b15), (4, zi y9.2), (5, zp b26), (7, zi q31)] ∧ Gle G30 G ∧ Since w0.heap.size G0 w0 G w ∧ Owns G w w0.heap.size []) ?_ ?_
   ·have Hoq31 := H; have H := hq31; refine zS ?_; refine zx (zs x0) rfl rfl ?_; refine zV (rn_lenS Tryz.underlying9 rfl rfl) rfl ?_; refine zV (rn_gtr rfl rfl) rfl ?_; refine zN ?_; refine zT rfl (fun hb32 => ?_) (fun hb32 => ?_)
    ·have H := ifT hb32 H; refine zR ?_; refine zy (zi 3) rfl rfl ?_; refine zN ?_
     have hO : Owns _ _ _ ([]) := hO
     have H := oi H; subst H
     exact ⟨_, G30, upds_self _ _ ⟨rfl, rfl, rfl, rfl, rfl, trivial⟩, Gle.refl _, hS, hO⟩
    ·have H := ifF hb32 H; refine zS ?_; refine zx (.bool y20.2) rfl rfl ?_; refine zV (rn_not rfl) rfl ?_; refine zN ?_; refine zT rfl (fun hb33 => ?_) (fun hb33 => ?_)
     ·have H := ifT hb33 H; refine zR ?_; refine zy (zi 4) rfl rfl ?_; refine zN ?_
      have hO : Owns _ _ _ ([]) := hO
      have H := oi H; subst H
      exact ⟨_, G30, upds_self _ _ ⟨rfl, rfl, rfl, rfl, rfl, trivial⟩, Gle.refl _, hS, hO⟩
     ·have H := ifF hb33 H; refine zS ?_; refine zV (rn_loadA ag26 (cs := [zl a23 n23 c23, zl a24 n24 c24, zl a25 n25 c25]) rfl rfl (fun j v hj => hS.sat.cell (hcG30.drop_take 0 3 j v hj))) rfl ?_; obtain ⟨y34, hy34, H⟩ := bnd H; refine zO rfl (zC cb9 (f9_ok (x0 := y20.1) hS.sat (h23.mono RTLandPerson_mono leG30) (h24.mono RTLandEvent_mono leG30) (h25.mono RTLandMemory_mono leG30) hy34) rfl rfl (fun w35 hb => ?_)); have hS := hS.keep hb; have hO := hO.below hb; refine zV (rn_not rfl) rfl ?_; refine zN ?_; refine zT rfl (fun hb36 => ?_) (fun hb36 => ?_)
      ·have H := ifT hb36 H; refine zR ?_; refine zy (zi 2) rfl rfl ?_; refine zN ?_
       have hO : Owns _ _ _ ([]) := hO
       have H := oi H; subst H
       exact ⟨_, G30, upds_self _ _ ⟨rfl, rfl, rfl, rfl, rfl, trivial⟩, Gle.refl _, hS, hO⟩
      ·have H := ifF hb36 H; refine zP ?_
       have hO : Owns _ _ _ ([]) := hO
       have H := oi H; subst H
       exact ⟨_, G30, upds_self _ _ ⟨rfl, rfl, rfl, rfl, rfl, trivial⟩, Gle.refl _, hS, hO⟩
   ·rintro F w37 ⟨Fb, G38, rfl, leG38, hS, hO⟩
    refine zQ ?_; refine zS ?_; refine zx (zi q31) rfl rfl ?_; refine zV (rn_neq rfl rfl) rfl ?_; refine zN ?_; refine zT rfl (fun hb39 => ?_) (fun hb39 => ?_)
    ·have H := ifT hb39 H; refine zQ ?_; obtain ⟨q40, hq40, H⟩ := bnd H; refine zM (fun F w => ∃ (Fb : Fr) (G : Gm), F = upds Fb [(2, .bool q40)] ∧ Gle G38 G ∧ Since w0.heap.size G0 w0 G w ∧ Owns G w w0.heap.size []) ?_ ?_
     ·have Hoq40 := H; have H := hq40; refine zR ?_; refine zx (zi y9.2) rfl rfl ?_; refine zx (zi q31) rfl rfl ?_; refine zV (rn_eql rfl rfl) rfl ?_; refine zx (.bool (y9.2 == q31)) rfl rfl ?_
      rcases bcases (y9.2 == q31) with hb41 | hb41
      ·have H := ifT hb41 H; refine zY rfl hb41 rfl rfl ?_
       have l2_5 := (leG22.trans leG30).trans leG38
       refine zV (rn_loadA ag26 (cs := [zl a12 n12 c12, zl a13 n13 c13, zl a14 n14 c14]) rfl rfl (fun j v hj => (hS.sat.le l2_5).cell (hcG19.drop_take 0 3 j v hj))) rfl ?_; refine zY rfl hb41 rfl rfl ?_
       refine zV (v := (.agg #[zl none 0 0, zl none 0 0, zl none 0 0])) (by kernel_rfl) rfl ?_
       refine zY rfl hb41 rfl rfl ?_; obtain ⟨y42, hy42, H⟩ := bnd H
       have l1_5 := leG19.trans l2_5
       refine zO rfl (zC cb12 (f12_ok (x0 := y9.1) (x1 := (⟨[], [], []⟩ : TLandBook)) hS.sat (h12.mono RTLandPerson_mono l1_5) (h13.mono RTLandEvent_mono l1_5) (h14.mono RTLandMemory_mono l1_5) (RSl.nil RTLandPerson 2 G38 none) (RSl.nil RTLandEvent 2 G38 none) (RSl.nil RTLandMemory 4 G38 none) hy42) rfl rfl (fun w43 hb => ?_)); have hS := hS.keep hb; have hO := hO.below hb; refine zV (rn_pickT (v := (.bool y42)) rfl hb41 rfl) rfl ?_; refine zx (.bool y42) rfl rfl ?_
       rcases bcases y42 with hb44 | hb44
       ·have H := ifT hb44 H; refine zY rfl hb44 rfl rfl ?_; obtain ⟨y45, hy45, H⟩ := bnd H
        have l0_5 := leG11.trans l1_5
        refine zO rfl (zC cb7 (f7_ok  hS.sat (hT.mono l0_5)  hy45) rfl rfl (fun w46 hb => ?_)); have hS := hS.keep hb; have hO := hO.below hb; refine zV (rn_pickT (v := (.bool y45)) rfl hb44 rfl) rfl ?_; refine zy (.bool y45) rfl rfl ?_; refine zN ?_
        have hO : Owns _ _ _ ([]) := hO
        have H := oi H; subst H
        exact ⟨_, G38, upds_self _ _ ⟨rfl, trivial⟩, Gle.refl _, hS, hO⟩
       ·have H := ifF hb44 H; refine zG rfl hb44 rfl rfl rfl ?_; refine zV (rn_pickF (v := (.bool false)) rfl hb44 rfl) rfl ?_; refine zy (.bool false) rfl rfl ?_; refine zN ?_
        have hO : Owns _ _ _ ([]) := hO
        have H := oi H; subst H
        exact ⟨_, G38, upds_self _ _ ⟨rfl, trivial⟩, Gle.refl _, hS, hO⟩
      ·have H := ifF hb41 H; refine zG rfl hb41 rfl rfl rfl ?_; refine zG rfl hb41 rfl rfl rfl ?_; refine zG rfl hb41 rfl rfl rfl ?_; refine zV (rn_pickF (v := (.bool false)) rfl hb41 rfl) rfl ?_; refine zx (.bool false) rfl rfl ?_; refine zG rfl rfl rfl rfl rfl ?_; refine zV (rn_pickF (v := (.bool false)) rfl rfl rfl) rfl ?_; refine zy (.bool false) rfl rfl ?_; refine zN ?_
       have hO : Owns _ _ _ ([]) := hO
       have H := oi H; subst H
       exact ⟨_, G38, upds_self _ _ ⟨rfl, trivial⟩, Gle.refl _, hS, hO⟩
     ·rintro F w47 ⟨Fb, G48, rfl, leG48, hS, hO⟩
      refine WC_ret ?_
      have H : some q40 = some r := H
      have H := oi H; subst H
      exact ⟨rfl, hS.below⟩
    ·have H := ifF hb39 H; refine zP ?_; refine zS ?_
     have l2_5 := (leG22.trans leG30).trans leG38
     refine zV (rn_loadA ag26 (cs := [zl a12 n12 c12, zl a13 n13 c13, zl a14 n14 c14]) rfl rfl (fun j v hj => (hS.sat.le l2_5).cell (hcG19.drop_take 0 3 j v hj))) rfl ?_; obtain ⟨y49, hy49, H⟩ := bnd H
     have l1_5 := leG19.trans l2_5
     have l0_5 := leG11.trans l1_5
     refine zO rfl (zC cb8 (f8_ok (x0 := y9.1) hS.sat (hT.mono l0_5) (h12.mono RTLandPerson_mono l1_5) (h13.mono RTLandEvent_mono l1_5) (h14.mono RTLandMemory_mono l1_5) hy49) rfl rfl (fun w50 hb => ?_)); have hS := hS.keep hb; have hO := hO.below hb; refine zx (.tuple #[.string ⟨y49.1.toArray⟩, zi y49.2]) rfl rfl ?_; refine zV (zX (v := (.string ⟨y49.1.toArray⟩)) rfl rfl) rfl ?_; refine zV (zX (v := (zi y49.2)) rfl rfl) rfl ?_; refine zy (.string ⟨y49.1.toArray⟩) rfl rfl ?_; refine zy (zi y49.2) rfl rfl ?_; refine zN ?_; refine zQ ?_; obtain ⟨q51, hq51, H⟩ := bnd H; refine zM (fun F w => ∃ (Fb : Fr) (G : Gm), F = upds Fb [(2, .bool q51)] ∧ Gle G38 G ∧ Since w0.heap.size G0 w0 G w ∧ Owns G w w0.heap.size []) ?_ ?_
     ·have Hoq51 := H; have H := hq51; refine zR ?_; refine zx (zi y9.2) rfl rfl ?_; refine zV (rn_eql rfl rfl) rfl ?_; refine zx (.bool (y9.2 == 0)) rfl rfl ?_
      rcases bcases (y9.2 == 0) with hb52 | hb52
      ·have H := ifT hb52 H; refine zY rfl hb52 rfl rfl ?_; refine zV (rn_loadA ag26 (cs := [zl a12 n12 c12, zl a13 n13 c13, zl a14 n14 c14]) rfl rfl (fun j v hj => (hS.sat.le l2_5).cell (hcG19.drop_take 0 3 j v hj))) rfl ?_; refine zY rfl hb52 rfl rfl ?_; refine zV (rn_loadA ag26 (cs := [zl a23 n23 c23, zl a24 n24 c24, zl a25 n25 c25]) rfl rfl (fun j v hj => (hS.sat.le leG38).cell (hcG30.drop_take 0 3 j v hj))) rfl ?_; refine zY rfl hb52 rfl rfl ?_; obtain ⟨y53, hy53, H⟩ := bnd H
       have l3_5 := leG30.trans leG38
       refine zO rfl (zC cb12 (f12_ok (x0 := y9.1) (x1 := y20.1) hS.sat (h12.mono RTLandPerson_mono l1_5) (h13.mono RTLandEvent_mono l1_5) (h14.mono RTLandMemory_mono l1_5) (h23.mono RTLandPerson_mono l3_5) (h24.mono RTLandEvent_mono l3_5) (h25.mono RTLandMemory_mono l3_5) hy53) rfl rfl (fun w54 hb => ?_)); have hS := hS.keep hb; have hO := hO.below hb; refine zV (rn_pickT (v := (.bool y53)) rfl hb52 rfl) rfl ?_; refine zx (.bool y53) rfl rfl ?_
       rcases bcases y53 with hb55 | hb55
       ·have H := ifT hb55 H; refine zY rfl hb55 rfl rfl ?_; refine zx (zi y49.2) rfl rfl ?_; refine zY rfl hb55 rfl rfl ?_; refine zV (rn_eql rfl rfl) rfl ?_; refine zV (rn_pickT (v := (.bool (y49.2 == 0))) rfl hb55 rfl) rfl ?_; refine zx (.bool (y49.2 == 0)) rfl rfl ?_
        rcases bcases (y49.2 == 0) with hb56 | hb56
        ·have H := ifT hb56 H; refine zY rfl hb56 rfl rfl ?_; refine zx (.string ⟨y49.1.toArray⟩) rfl rfl ?_; refine zY rfl hb56 rfl rfl ?_; refine zx (zs x0) rfl rfl ?_; refine zY rfl hb56 rfl rfl ?_; refine zV (rn_eqlS rfl rfl) rfl ?_; refine zV (rn_pickT (v := (.bool (y49.1 == x0))) rfl hb56 rfl) rfl ?_; refine zx (.bool (y49.1 == x0)) rfl rfl ?_
         rcases bcases (y49.1 == x0) with hb57 | hb57
         ·have H := ifT hb57 H; refine zY rfl hb57 rfl rfl ?_; obtain ⟨y58, hy58, H⟩ := bnd H; refine zO rfl (zC cb7 (f7_ok  hS.sat (hT.mono l0_5)  hy58) rfl rfl (fun w59 hb => ?_)); have hS := hS.keep hb; have hO := hO.below hb; refine zV (rn_pickT (v := (.bool y58)) rfl hb57 rfl) rfl ?_; refine zy (.bool y58) rfl rfl ?_; refine zN ?_
          have hO : Owns _ _ _ ([]) := hO
          have H := oi H; subst H
          exact ⟨_, G38, upds_self _ _ ⟨rfl, trivial⟩, Gle.refl _, hS, hO⟩
         ·have H := ifF hb57 H; refine zG rfl hb57 rfl rfl rfl ?_; refine zV (rn_pickF (v := (.bool false)) rfl hb57 rfl) rfl ?_; refine zy (.bool false) rfl rfl ?_; refine zN ?_
          have hO : Owns _ _ _ ([]) := hO
          have H := oi H; subst H
          exact ⟨_, G38, upds_self _ _ ⟨rfl, trivial⟩, Gle.refl _, hS, hO⟩
        ·have H := ifF hb56 H; refine zG rfl hb56 rfl rfl rfl ?_; refine zG rfl hb56 rfl rfl rfl ?_; refine zG rfl hb56 rfl rfl rfl ?_; refine zV (rn_pickF (v := (.bool false)) rfl hb56 rfl) rfl ?_; refine zx (.bool false) rfl rfl ?_; refine zG rfl rfl rfl rfl rfl ?_; refine zV (rn_pickF (v := (.bool false)) rfl rfl rfl) rfl ?_; refine zy (.bool false) rfl rfl ?_; refine zN ?_
         have hO : Owns _ _ _ ([]) := hO
         have H := oi H; subst H
         exact ⟨_, G38, upds_self _ _ ⟨rfl, trivial⟩, Gle.refl _, hS, hO⟩
       ·have H := ifF hb55 H; refine zG rfl hb55 rfl rfl rfl ?_; refine zG rfl hb55 rfl rfl rfl ?_; refine zV (rn_pickF (v := (.bool false)) rfl hb55 rfl) rfl ?_; refine zx (.bool false) rfl rfl ?_; refine zG rfl rfl rfl rfl rfl ?_; refine zG rfl rfl rfl rfl rfl ?_; refine zG rfl rfl rfl rfl rfl ?_; refine zV (rn_pickF (v := (.bool false)) rfl rfl rfl) rfl ?_; refine zx (.bool false) rfl rfl ?_; refine zG rfl rfl rfl rfl rfl ?_; refine zV (rn_pickF (v := (.bool false)) rfl rfl rfl) rfl ?_; refine zy (.bool false) rfl rfl ?_; refine zN ?_
        have hO : Owns _ _ _ ([]) := hO
        have H := oi H; subst H
        exact ⟨_, G38, upds_self _ _ ⟨rfl, trivial⟩, Gle.refl _, hS, hO⟩
      ·have H := ifF hb52 H; refine zG rfl hb52 rfl rfl rfl ?_; refine zG rfl hb52 rfl rfl rfl ?_; refine zG rfl hb52 rfl rfl rfl ?_; refine zV (rn_pickF (v := (.bool false)) rfl hb52 rfl) rfl ?_; refine zx (.bool false) rfl rfl ?_; refine zG rfl rfl rfl rfl rfl ?_; refine zG rfl rfl rfl rfl rfl ?_; refine zV (rn_pickF (v := (.bool false)) rfl rfl rfl) rfl ?_; refine zx (.bool false) rfl rfl ?_; refine zG rfl rfl rfl rfl rfl ?_; refine zG rfl rfl rfl rfl rfl ?_; refine zG rfl rfl rfl rfl rfl ?_; refine zV (rn_pickF (v := (.bool false)) rfl rfl rfl) rfl ?_; refine zx (.bool false) rfl rfl ?_; refine zG rfl rfl rfl rfl rfl ?_; refine zV (rn_pickF (v := (.bool false)) rfl rfl rfl) rfl ?_; refine zy (.bool false) rfl rfl ?_; refine zN ?_
       have hO : Owns _ _ _ ([]) := hO
       have H := oi H; subst H
       exact ⟨_, G38, upds_self _ _ ⟨rfl, trivial⟩, Gle.refl _, hS, hO⟩
     ·rintro F w60 ⟨Fb, G61, rfl, leG61, hS, hO⟩
      refine WC_ret ?_
      have H : some q51 = some r := H
      have H := oi H; subst H
      exact ⟨rfl, hS.below⟩
end Go.Proofs.YtcaflmilfhhikaaGreatDoor
