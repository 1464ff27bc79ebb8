/-
  The walks: each Go function computes its plain function (printed by a program of ours).
-/
import Derived.Test.YtcaflmilfhhikaaGreatDoorAl
import Derived.Test.YtcaflmilfhhikaaGreatDoorRd
import Derived.Test.YtcaflmilfhhikaaGreatDoorBaseQ
import Derived.Test.YtcaflmilfhhikaaGreatDoorBaseU
import Derived.Test.YtcaflmilfhhikaaGreatDoorIt
import Derived.Test.YtcaflmilfhhikaaGreatDoorLib
import Derived.Test.YtcaflmilfhhikaaGreatDoorBu
import Derived.Test.YtcaflmilfhhikaaGreatDoorP3W4
namespace Go.Proofs.YtcaflmilfhhikaaGreatDoor
open Go.RowKit
set_option linter.unusedVariables false

set_option maxRecDepth 20000
set_option linter.unusedVariables false
set_option maxHeartbeats 1000000 in
theorem f11_ok {G0 : Gm} {w0 : World} (hS0 : Sat G0 w0) {x0 : TLandBook} {a1 : Option Addr} {n1 c1 : Nat} {a2 : Option Addr} {n2 c2 : Nat} {a3 : Option Addr} {n3 c3 : Nat} (h1 : RSl RTLandPerson 2 G0 a1 n1 c1 x0.People) (h2 : RSl RTLandEvent 2 G0 a2 n2 c2 x0.Events) (h3 : RSl RTLandMemory 4 G0 a3 n3 c3 x0.Memories) {r : (List UInt8)} (H : f11 x0 = some r) :
  Calls Tryz.prog 11 #[.agg #[.slice a1 n1 c1, .slice a2 n2 c2, .slice a3 n3 c3]] w0 (RetV w0 (.string ⟨r.toArray⟩)) := by
 have hS := Since.start hS0
 have hO : Owns G0 w0 w0.heap.size [] := Owns.nil (Nat.le_refl _)
 unfold f11 at H
 refine enter1 (N := 122) (shutV _ _) Tryz.func11 rfl rfl rfl rfl ?_; refine zS ?_; refine zO rfl (zW (v := fun b => .pointer (some ⟨b, 0, none⟩)) (cs := [.slice a1 n1 c1, .slice a2 n2 c2, .slice a3 n3 c3]) (e := 26) (rn_boxA rfl) hS.sat rfl (fun b4 G6 w5 hg hcb4 => ?_)); have hS := hS.grow hg; have hO := hO.grow hg
 have leG6 := hg.le
 refine zV (zA (v := (.string ⟨([] : List UInt8).toArray⟩)) rfl) rfl ?_; refine zN ?_; refine zQ ?_; have hS := hS.keep (below_drew _); have hO := hO.below (below_drew _)
 refine WC_regionD mixedO (fun _ w => Sat G6 w ∧ True) (.fl 0 (.fl 1 (.fl 2 (.fl 6 (.fl 7 (.fl 8 (.fl 12 (.fl 13 (.fl 14 (.on 3 (.fl 4 (.fl 5 (.on 9 (.fl 10 (.fl 11 (.on 15 (.on 16 (.on 17 (.on 18 .nil))))))))))))))))))) (by kernel_rfl) rfl (by kernel_rfl) (fun _ => ⟨hS.sat, trivial⟩) ?_
 refine zD rfl (fun w hw => zF fd26_0 rfl) rfl ?_; refine zD rfl (fun w hw => zL na22 rfl (hw.1.cell (hcb4 0 _ rfl))) rfl ?_; refine zD rfl (fun w hw => rn_len sl22 rfl rfl (h1.mono RTLandPerson_mono leG6).1) rfl ?_; refine zD rfl (fun w hw => zF fd26_1 rfl) rfl ?_; refine zD rfl (fun w hw => zL na23 rfl (hw.1.cell (hcb4 1 _ rfl))) rfl ?_; refine zD rfl (fun w hw => rn_len sl23 rfl rfl (h2.mono RTLandEvent_mono leG6).1) rfl ?_; refine zD rfl (fun w hw => zF fd26_2 rfl) rfl ?_; refine zD rfl (fun w hw => zL na24 rfl (hw.1.cell (hcb4 2 _ rfl))) rfl ?_; refine zD rfl (fun w hw => rn_len sl24 rfl rfl (h3.mono RTLandMemory_mono leG6).1) rfl ?_; obtain ⟨y7, hy7, H⟩ := bnd H; refine zE rfl rfl (zC cb30 (f30_ok _ (x0 := (x0.People.length : Int)) hS.sat  hy7) rfl rfl (fun w8 hb => ?_)); have hS := hS.keep hb; have hO := hO.below hb; refine ⟨fun _ _ => ⟨hS.sat, trivial⟩, ?_⟩; obtain ⟨y9, hy9, H⟩ := bnd H; refine zD rfl (fun w hw => rn_catS rfl rfl hy9) rfl ?_; obtain ⟨y10, hy10, H⟩ := bnd H; refine zD rfl (fun w hw => rn_catS rfl rfl hy10) rfl ?_; obtain ⟨y11, hy11, H⟩ := bnd H; refine zE rfl rfl (zC cb30 (f30_ok _ (x0 := (x0.Events.length : Int)) hS.sat  hy11) rfl rfl (fun w12 hb => ?_)); have hS := hS.keep hb; have hO := hO.below hb; refine ⟨fun _ _ => ⟨hS.sat, trivial⟩, ?_⟩; obtain ⟨y13, hy13, H⟩ := bnd H; refine zD rfl (fun w hw => rn_catS rfl rfl hy13) rfl ?_; obtain ⟨y14, hy14, H⟩ := bnd H; refine zD rfl (fun w hw => rn_catS rfl rfl hy14) rfl ?_; obtain ⟨y15, hy15, H⟩ := bnd H; refine zE rfl rfl (zC cb30 (f30_ok _ (x0 := (x0.Memories.length : Int)) hS.sat  hy15) rfl rfl (fun w16 hb => ?_)); have hS := hS.keep hb; have hO := hO.below hb; refine ⟨fun _ _ => ⟨hS.sat, trivial⟩, ?_⟩; obtain ⟨y17, hy17, H⟩ := bnd H; refine zE rfl rfl (OpP_val (rn_catS rfl rfl hy17) rfl ?_)
 refine ⟨fun _ h => noneed (by kernel_rfl) h, ?_⟩
 obtain ⟨y18, hy18, H⟩ := bnd H; refine zE rfl rfl (OpP_val (rn_catS rfl rfl hy18) rfl ?_)
 refine ⟨fun _ h => noneed (by kernel_rfl) h, ?_⟩
 refine zE rfl rfl (OpP_val (zA (v := (.string ⟨y18.toArray⟩)) rfl) rfl ?_)
 refine ⟨fun _ h => noneed (by kernel_rfl) h, ?_⟩
 refine zI ?_; refine zQ ?_; refine zS ?_; refine zV (zA (v := (.int .i64 0)) rfl) rfl ?_; refine zN ?_; obtain ⟨q21, hq21, H⟩ := bnd H; refine zM (fun F w => ∃ (Fb : Fr) (G : Gm), F = upds Fb [(1, .pointer (some ⟨b4, 0, none⟩)), (3, .string ⟨q21.toArray⟩)] ∧ Gle G6 G ∧ Since w0.heap.size G0 w0 G w ∧ Owns G w w0.heap.size []) ?_ ?_
 ·refine WC_block (WC_loop hq21 (fun s19 F w => ∃ (Fb : Fr) (G : Gm), F = upds Fb [(1, .pointer (some ⟨b4, 0, none⟩)), (3, .string ⟨s19.1.toArray⟩), (4, .int .i64 s19.2)] ∧ Gle G6 G ∧ Since w0.heap.size G0 w0 G w ∧ Owns G w w0.heap.size []) ?_ ?_)
  ·have hO : Owns _ _ _ ([]) := hO
   exact ⟨_, G6, upds_self _ _ ⟨rfl, rfl, rfl, trivial⟩, Gle.refl _, hS, hO⟩
  ·rintro s19 F w23 t22 ⟨Fb, G24, rfl, leG24, hS, hO⟩
   intro H1 hqq21
   have Hoq21 := H; have H := H1
   unfold f11_b0 at H
   refine zQ ?_; refine zS ?_; refine zV (zm (v := (.int .i64 s19.2)) rfl) rfl ?_; refine zV (zF fd26_0 rfl) rfl ?_; refine zV (zL na22 rfl ((hS.sat.le leG24).cell (hcb4 0 _ rfl))) rfl ?_
   have l0_2 := leG6.trans leG24
   refine zV (rn_len sl22 rfl rfl (h1.mono RTLandPerson_mono l0_2).1) rfl ?_; refine zV (rn_lss rfl rfl) rfl ?_; refine zN ?_; refine zT rfl (fun hb25 => ?_) (fun hb25 => ?_)
   ·have H := ifT hb25 H; refine zP ?_; refine zQ ?_; refine WC_block ?_; have hS := hS.keep (below_drew _); have hO := hO.below (below_drew _)
    refine WC_regionD mixedO (fun _ w => Sat G24 w ∧ True) (.fl 0 (.fl 1 (.fl 2 (.fl 3 (.fl 4 (.fl 5 (.fl 6 (.fl 7 (.fl 11 (.fl 12 (.fl 13 (.fl 14 (.fl 15 (.fl 16 (.on 8 (.fl 9 (.fl 10 (.on 17 (.on 18 (.on 19 (.on 20 .nil))))))))))))))))))))) (by kernel_rfl) rfl (by kernel_rfl) (fun _ => ⟨hS.sat, trivial⟩) ?_
    refine zD rfl (fun w hw => zm (v := (.string ⟨s19.1.toArray⟩)) rfl) rfl ?_; obtain ⟨y26, hy26, H⟩ := bnd H; refine zD rfl (fun w hw => rn_catS rfl rfl hy26) rfl ?_; refine zD rfl (fun w hw => zF fd26_0 rfl) rfl ?_; refine zD rfl (fun w hw => zL na22 rfl ((hw.1.le leG24).cell (hcb4 0 _ rfl))) rfl ?_; refine zD rfl (fun w hw => zm (v := (.int .i64 s19.2)) rfl) rfl ?_; obtain ⟨y27, hy27, H⟩ := bnd H; refine WD_idx rfl sl22 (h1.mono RTLandPerson_mono l0_2) hy27 rfl rfl rfl ?_
    rintro b28 o28 _ hcb28 _ ⟨⟩
    refine zD rfl (fun w hw => zF fd54_0 rfl) rfl ?_; refine zD rfl (fun w hw => zL na3 rfl (hw.1.cell (hcb28 0 _ rfl))) rfl ?_; refine zD rfl (fun w hw => zF fd26_0 rfl) rfl ?_; refine zD rfl (fun w hw => zL na22 rfl ((hw.1.le leG24).cell (hcb4 0 _ rfl))) rfl ?_; refine zD rfl (fun w hw => zm (v := (.int .i64 s19.2)) rfl) rfl ?_; refine WD_idx rfl sl22 (h1.mono RTLandPerson_mono l0_2) hy27 rfl rfl rfl ?_
    rintro b29 o29 _ hcb29 _ ⟨⟩
    refine zD rfl (fun w hw => zF fd54_1 rfl) rfl ?_; refine zD rfl (fun w hw => zL na3 rfl (hw.1.cell (hcb29 1 _ rfl))) rfl ?_; obtain ⟨y30, hy30, H⟩ := bnd H; refine zE rfl rfl (zC cb31 (f31_ok (x0 := y27.Mother) hS.sat  hy30) rfl rfl (fun w31 hb => ?_)); have hS := hS.keep hb; have hO := hO.below hb; refine ⟨fun _ _ => ⟨hS.sat, trivial⟩, ?_⟩; obtain ⟨y32, hy32, H⟩ := bnd H; refine zD rfl (fun w hw => rn_catS rfl rfl hy32) rfl ?_; obtain ⟨y33, hy33, H⟩ := bnd H; refine zD rfl (fun w hw => rn_catS rfl rfl hy33) rfl ?_; obtain ⟨y34, hy34, H⟩ := bnd H; refine zE rfl rfl (zC cb31 (f31_ok (x0 := y27.Adopted) hS.sat  hy34) rfl rfl (fun w35 hb => ?_)); have hS := hS.keep hb; have hO := hO.below hb; refine ⟨fun _ _ => ⟨hS.sat, trivial⟩, ?_⟩; obtain ⟨y36, hy36, H⟩ := bnd H; refine zE rfl rfl (OpP_val (rn_catS rfl rfl hy36) rfl ?_)
    refine ⟨fun _ h => noneed (by kernel_rfl) h, ?_⟩
    obtain ⟨y37, hy37, H⟩ := bnd H; refine zE rfl rfl (OpP_val (rn_catS rfl rfl hy37) rfl ?_)
    refine ⟨fun _ h => noneed (by kernel_rfl) h, ?_⟩
    refine zE rfl rfl (OpP_val (zA (v := (.string ⟨y37.toArray⟩)) rfl) rfl ?_)
    refine ⟨fun _ h => noneed (by kernel_rfl) h, ?_⟩
    refine zI ?_; refine zR ?_; refine zV (zm (v := (.int .i64 s19.2)) rfl) rfl ?_; refine zV (rn_add rfl rfl) rfl ?_; refine zV (zA (v := (.int .i64 (IntKind.i64.wrap (s19.2 + 1)))) rfl) rfl ?_; refine zN ?_
    have hO : Owns _ _ _ ([]) := hO
    have H := oi H; subst H; refine ⟨_, rfl, ?_⟩
    exact ⟨_, G24, upds_self _ _ ⟨rfl, rfl, rfl, trivial⟩, leG24, hS, hO⟩
   ·have H := ifF hb25 H; refine WC_exit rfl ?_
    have hO : Owns _ _ _ ([]) := hO
    have H := oi H; subst H
    have hres := hqq21 _ rfl
    subst hres
    exact ⟨_, G24, upds_self _ _ ⟨rfl, rfl, trivial⟩, leG24, hS, hO⟩
 ·rintro F w38 ⟨Fb, G39, rfl, leG39, hS, hO⟩
  refine zQ ?_; refine zS ?_; refine zV (zA (v := (.int .i64 0)) rfl) rfl ?_; refine zN ?_; obtain ⟨q42, hq42, H⟩ := bnd H; refine zM (fun F w => ∃ (Fb : Fr) (G : Gm), F = upds Fb [(1, .pointer (some ⟨b4, 0, none⟩)), (3, .string ⟨q42.toArray⟩)] ∧ Gle G39 G ∧ Since w0.heap.size G0 w0 G w ∧ Owns G w w0.heap.size []) ?_ ?_
  ·refine WC_block (WC_loop hq42 (fun s40 F w => ∃ (Fb : Fr) (G : Gm), F = upds Fb [(1, .pointer (some ⟨b4, 0, none⟩)), (3, .string ⟨s40.1.toArray⟩), (5, .int .i64 s40.2)] ∧ Gle G39 G ∧ Since w0.heap.size G0 w0 G w ∧ Owns G w w0.heap.size []) ?_ ?_)
   ·have hO : Owns _ _ _ ([]) := hO
    exact ⟨_, G39, upds_self _ _ ⟨rfl, rfl, rfl, trivial⟩, Gle.refl _, hS, hO⟩
   ·rintro s40 F w44 t43 ⟨Fb, G45, rfl, leG45, hS, hO⟩
    intro H1 hqq42
    have Hoq42 := H; have H := H1
    unfold f11_b1 at H
    refine zQ ?_; refine zS ?_; refine zV (zm (v := (.int .i64 s40.2)) rfl) rfl ?_; refine zV (zF fd26_1 rfl) rfl ?_
    have l1_3 := leG39.trans leG45
    refine zV (zL na23 rfl ((hS.sat.le l1_3).cell (hcb4 1 _ rfl))) rfl ?_
    have l0_3 := leG6.trans l1_3
    refine zV (rn_len sl23 rfl rfl (h2.mono RTLandEvent_mono l0_3).1) rfl ?_; refine zV (rn_lss rfl rfl) rfl ?_; refine zN ?_; refine zT rfl (fun hb46 => ?_) (fun hb46 => ?_)
    ·have H := ifT hb46 H; refine zP ?_; refine zQ ?_; refine WC_block ?_; have hS := hS.keep (below_drew _); have hO := hO.below (below_drew _)
     refine WC_regionD mixedO (fun _ w => Sat G45 w ∧ True) (.fl 0 (.fl 1 (.fl 2 (.fl 3 (.fl 4 (.fl 5 (.fl 6 (.fl 7 (.fl 11 (.fl 12 (.fl 13 (.fl 14 (.fl 15 (.fl 16 (.on 8 (.fl 9 (.fl 10 (.on 17 (.on 18 (.on 19 (.on 20 .nil))))))))))))))))))))) (by kernel_rfl) rfl (by kernel_rfl) (fun _ => ⟨hS.sat, trivial⟩) ?_
     refine zD rfl (fun w hw => zm (v := (.string ⟨s40.1.toArray⟩)) rfl) rfl ?_; obtain ⟨y47, hy47, H⟩ := bnd H; refine zD rfl (fun w hw => rn_catS rfl rfl hy47) rfl ?_; refine zD rfl (fun w hw => zF fd26_1 rfl) rfl ?_; refine zD rfl (fun w hw => zL na23 rfl ((hw.1.le l1_3).cell (hcb4 1 _ rfl))) rfl ?_; refine zD rfl (fun w hw => zm (v := (.int .i64 s40.2)) rfl) rfl ?_; obtain ⟨y48, hy48, H⟩ := bnd H; refine WD_idx rfl sl23 (h2.mono RTLandEvent_mono l0_3) hy48 rfl rfl rfl ?_
     rintro b49 o49 _ hcb49 _ ⟨⟩
     refine zD rfl (fun w hw => zF fd57_0 rfl) rfl ?_; refine zD rfl (fun w hw => zL na3 rfl (hw.1.cell (hcb49 0 _ rfl))) rfl ?_; refine zD rfl (fun w hw => zF fd26_1 rfl) rfl ?_; refine zD rfl (fun w hw => zL na23 rfl ((hw.1.le l1_3).cell (hcb4 1 _ rfl))) rfl ?_; refine zD rfl (fun w hw => zm (v := (.int .i64 s40.2)) rfl) rfl ?_; refine WD_idx rfl sl23 (h2.mono RTLandEvent_mono l0_3) hy48 rfl rfl rfl ?_
     rintro b50 o50 _ hcb50 _ ⟨⟩
     refine zD rfl (fun w hw => zF fd57_1 rfl) rfl ?_; refine zD rfl (fun w hw => zL na3 rfl (hw.1.cell (hcb50 1 _ rfl))) rfl ?_; obtain ⟨y51, hy51, H⟩ := bnd H; refine zE rfl rfl (zC cb30 (f30_ok _ (x0 := y48.Strip) hS.sat  hy51) rfl rfl (fun w52 hb => ?_)); have hS := hS.keep hb; have hO := hO.below hb; refine ⟨fun _ _ => ⟨hS.sat, trivial⟩, ?_⟩; obtain ⟨y53, hy53, H⟩ := bnd H; refine zD rfl (fun w hw => rn_catS rfl rfl hy53) rfl ?_; obtain ⟨y54, hy54, H⟩ := bnd H; refine zD rfl (fun w hw => rn_catS rfl rfl hy54) rfl ?_; obtain ⟨y55, hy55, H⟩ := bnd H; refine zE rfl rfl (zC cb30 (f30_ok _ (x0 := y48.Holder) hS.sat  hy55) rfl rfl (fun w56 hb => ?_)); have hS := hS.keep hb; have hO := hO.below hb; refine ⟨fun _ _ => ⟨hS.sat, trivial⟩, ?_⟩; obtain ⟨y57, hy57, H⟩ := bnd H; refine zE rfl rfl (OpP_val (rn_catS rfl rfl hy57) rfl ?_)
     refine ⟨fun _ h => noneed (by kernel_rfl) h, ?_⟩
     obtain ⟨y58, hy58, H⟩ := bnd H; refine zE rfl rfl (OpP_val (rn_catS rfl rfl hy58) rfl ?_)
     refine ⟨fun _ h => noneed (by kernel_rfl) h, ?_⟩
     refine zE rfl rfl (OpP_val (zA (v := (.string ⟨y58.toArray⟩)) rfl) rfl ?_)
     refine ⟨fun _ h => noneed (by kernel_rfl) h, ?_⟩
     refine zI ?_; refine zR ?_; refine zV (zm (v := (.int .i64 s40.2)) rfl) rfl ?_; refine zV (rn_add rfl rfl) rfl ?_; refine zV (zA (v := (.int .i64 (IntKind.i64.wrap (s40.2 + 1)))) rfl) rfl ?_; refine zN ?_
     have hO : Owns _ _ _ ([]) := hO
     have H := oi H; subst H; refine ⟨_, rfl, ?_⟩
     exact ⟨_, G45, upds_self _ _ ⟨rfl, rfl, rfl, trivial⟩, leG45, hS, hO⟩
    ·have H := ifF hb46 H; refine WC_exit rfl ?_
     have hO : Owns _ _ _ ([]) := hO
     have H := oi H; subst H
     have hres := hqq42 _ rfl
     subst hres
     exact ⟨_, G45, upds_self _ _ ⟨rfl, rfl, trivial⟩, leG45, hS, hO⟩
  ·rintro F w59 ⟨Fb, G60, rfl, leG60, hS, hO⟩
   refine zQ ?_; refine zS ?_; refine zV (zA (v := (.int .i64 0)) rfl) rfl ?_; refine zN ?_; obtain ⟨q63, hq63, H⟩ := bnd H; refine zM (fun F w => ∃ (Fb : Fr) (G : Gm), F = upds Fb [(3, .string ⟨q63.toArray⟩)] ∧ Gle G60 G ∧ Since w0.heap.size G0 w0 G w ∧ Owns G w w0.heap.size []) ?_ ?_
   ·refine WC_block (WC_loop hq63 (fun s61 F w => ∃ (Fb : Fr) (G : Gm), F = upds Fb [(1, .pointer (some ⟨b4, 0, none⟩)), (3, .string ⟨s61.1.toArray⟩), (6, .int .i64 s61.2)] ∧ Gle G60 G ∧ Since w0.heap.size G0 w0 G w ∧ Owns G w w0.heap.size []) ?_ ?_)
    ·have hO : Owns _ _ _ ([]) := hO
     exact ⟨_, G60, upds_self _ _ ⟨rfl, rfl, rfl, trivial⟩, Gle.refl _, hS, hO⟩
    ·rintro s61 F w65 t64 ⟨Fb, G66, rfl, leG66, hS, hO⟩
     intro H1 hqq63
     have Hoq63 := H; have H := H1
     unfold f11_b2 at H
     refine zQ ?_; refine zS ?_; refine zV (zm (v := (.int .i64 s61.2)) rfl) rfl ?_; refine zV (zF fd26_2 rfl) rfl ?_
     have l1_4 := (leG39.trans leG60).trans leG66
     refine zV (zL na24 rfl ((hS.sat.le l1_4).cell (hcb4 2 _ rfl))) rfl ?_
     have l0_4 := leG6.trans l1_4
     refine zV (rn_len sl24 rfl rfl (h3.mono RTLandMemory_mono l0_4).1) rfl ?_; refine zV (rn_lss rfl rfl) rfl ?_; refine zN ?_; refine zT rfl (fun hb67 => ?_) (fun hb67 => ?_)
     ·have H := ifT hb67 H; refine zP ?_; refine zQ ?_; refine WC_block ?_; refine zS ?_; refine zV (zF fd26_2 rfl) rfl ?_; refine zV (zL na24 rfl ((hS.sat.le l1_4).cell (hcb4 2 _ rfl))) rfl ?_; refine zV (zm (v := (.int .i64 s61.2)) rfl) rfl ?_; obtain ⟨y68, hy68, H⟩ := bnd H; refine WL_idx sl24 (h3.mono RTLandMemory_mono l0_4) hy68 rfl rfl rfl ?_
      rintro b69 o69 _ hcb69 _ ⟨⟩
      refine zV (rn_loadA ag60 (cs := [.int .i64 y68.From, .int .i64 y68.To, .int .i64 y68.Years.Low, .int .i64 y68.Years.High]) rfl rfl (fun j v hj => hS.sat.cell (hcb69.drop_take 0 4 j v hj))) rfl ?_
      refine zO rfl (zU (v := fun b => .pointer (some ⟨b, 0, none⟩)) (cs := [.int .i64 0, .int .i64 0, .int .i64 0, .int .i64 0]) (e := 60) (by kernel_rfl) hS.sat hO rfl 4 1 rfl (by decide) (fun b70 w71 hb hO => ?_))
      have hS := hS.keep hb; refine zO rfl (OpP_store (vs := [.int .i64 y68.From, .int .i64 y68.To, .int .i64 y68.Years.Low, .int .i64 y68.Years.High]) sz60 hS hO (k := 0) rfl rfl rfl rfl rfl (one_all rfl) (Nat.le_of_ble_eq_true rfl) (fun w73 hS hO => ?_))
      have hO : Owns _ _ _ ([zb 60 4 b70 [.int .i64 y68.From, .int .i64 y68.To, .int .i64 y68.Years.Low, .int .i64 y68.Years.High]]) := hO
      obtain ⟨G74, leG74, hS, hO, hqG74, _⟩ := hO.freeze hS (k := 0) rfl
      have hcG74 : Cells G74 b70 0 [.int .i64 y68.From, .int .i64 y68.To, .int .i64 y68.Years.Low, .int .i64 y68.Years.High] := (hqG74 _ _ _ _ rfl)
      refine zN ?_; have hS := hS.keep (below_drew _); have hO := hO.below (below_drew _)
      refine WC_regionD mixedO (fun _ w => Sat G74 w ∧ True) (.fl 0 (.fl 1 (.fl 2 (.fl 3 (.fl 7 (.fl 8 (.fl 12 (.fl 13 (.fl 14 (.fl 18 (.fl 19 (.fl 20 (.on 4 (.fl 5 (.fl 6 (.on 9 (.fl 10 (.fl 11 (.on 15 (.fl 16 (.fl 17 (.on 21 (.on 22 (.on 23 (.on 24 .nil))))))))))))))))))))))))) (by kernel_rfl) rfl (by kernel_rfl) (fun _ => ⟨hS.sat, trivial⟩) ?_
      refine zD rfl (fun w hw => zm (v := (.string ⟨s61.1.toArray⟩)) rfl) rfl ?_; obtain ⟨y75, hy75, H⟩ := bnd H; refine zD rfl (fun w hw => rn_catS rfl rfl hy75) rfl ?_; refine zD rfl (fun w hw => zF fd60_0 rfl) rfl ?_; refine zD rfl (fun w hw => zL na3 rfl (hw.1.cell (hcG74 0 _ rfl))) rfl ?_; refine zD rfl (fun w hw => zF fd60_1 rfl) rfl ?_; refine zD rfl (fun w hw => zL na3 rfl (hw.1.cell (hcG74 1 _ rfl))) rfl ?_; refine zD rfl (fun w hw => zF fd60_2 rfl) rfl ?_; refine zD rfl (fun w hw => zF fd46_0 rfl) rfl ?_; refine zD rfl (fun w hw => zL na3 rfl (hw.1.cell (hcG74 2 _ rfl))) rfl ?_; refine zD rfl (fun w hw => zF fd60_2 rfl) rfl ?_; refine zD rfl (fun w hw => zF fd46_1 rfl) rfl ?_; refine zD rfl (fun w hw => zL na3 rfl (hw.1.cell (hcG74 3 _ rfl))) rfl ?_; obtain ⟨y76, hy76, H⟩ := bnd H; refine zE rfl rfl (zC cb30 (f30_ok _ (x0 := y68.From) hS.sat  hy76) rfl rfl (fun w77 hb => ?_)); have hS := hS.keep hb; have hO := hO.below hb; refine ⟨fun _ _ => ⟨hS.sat, trivial⟩, ?_⟩; obtain ⟨y78, hy78, H⟩ := bnd H; refine zD rfl (fun w hw => rn_catS rfl rfl hy78) rfl ?_; obtain ⟨y79, hy79, H⟩ := bnd H; refine zD rfl (fun w hw => rn_catS rfl rfl hy79) rfl ?_; obtain ⟨y80, hy80, H⟩ := bnd H; refine zE rfl rfl (zC cb30 (f30_ok _ (x0 := y68.To) hS.sat  hy80) rfl rfl (fun w81 hb => ?_)); have hS := hS.keep hb; have hO := hO.below hb; refine ⟨fun _ _ => ⟨hS.sat, trivial⟩, ?_⟩; obtain ⟨y82, hy82, H⟩ := bnd H; refine zD rfl (fun w hw => rn_catS rfl rfl hy82) rfl ?_; obtain ⟨y83, hy83, H⟩ := bnd H; refine zD rfl (fun w hw => rn_catS rfl rfl hy83) rfl ?_; obtain ⟨y84, hy84, H⟩ := bnd H; refine zE rfl rfl (zC cb30 (f30_ok _ (x0 := y68.Years.Low) hS.sat  hy84) rfl rfl (fun w85 hb => ?_)); have hS := hS.keep hb; have hO := hO.below hb; refine ⟨fun _ _ => ⟨hS.sat, trivial⟩, ?_⟩; obtain ⟨y86, hy86, H⟩ := bnd H; refine zD rfl (fun w hw => rn_catS rfl rfl hy86) rfl ?_; obtain ⟨y87, hy87, H⟩ := bnd H; refine zD rfl (fun w hw => rn_catS rfl rfl hy87) rfl ?_; obtain ⟨y88, hy88, H⟩ := bnd H; refine zE rfl rfl (zC cb30 (f30_ok _ (x0 := y68.Years.High) hS.sat  hy88) rfl rfl (fun w89 hb => ?_)); have hS := hS.keep hb; have hO := hO.below hb; refine ⟨fun _ _ => ⟨hS.sat, trivial⟩, ?_⟩; obtain ⟨y90, hy90, H⟩ := bnd H; refine zE rfl rfl (OpP_val (rn_catS rfl rfl hy90) rfl ?_)
      refine ⟨fun _ h => noneed (by kernel_rfl) h, ?_⟩
      obtain ⟨y91, hy91, H⟩ := bnd H; refine zE rfl rfl (OpP_val (rn_catS rfl rfl hy91) rfl ?_)
      refine ⟨fun _ h => noneed (by kernel_rfl) h, ?_⟩
      refine zE rfl rfl (OpP_val (zA (v := (.string ⟨y91.toArray⟩)) rfl) rfl ?_)
      refine ⟨fun _ h => noneed (by kernel_rfl) h, ?_⟩
      refine zI ?_; refine zR ?_; refine zV (zm (v := (.int .i64 s61.2)) rfl) rfl ?_; refine zV (rn_add rfl rfl) rfl ?_; refine zV (zA (v := (.int .i64 (IntKind.i64.wrap (s61.2 + 1)))) rfl) rfl ?_; refine zN ?_
      have hO : Owns _ _ _ ([]) := hO
      have H := oi H; subst H; refine ⟨_, rfl, ?_⟩
      have l3_5 := leG66.trans leG74
      exact ⟨_, G74, upds_self _ _ ⟨rfl, rfl, rfl, trivial⟩, l3_5, hS, hO⟩
     ·have H := ifF hb67 H; refine WC_exit rfl ?_
      have hO : Owns _ _ _ ([]) := hO
      have H := oi H; subst H
      have hres := hqq63 _ rfl
      subst hres
      exact ⟨_, G66, upds_self _ _ ⟨rfl, trivial⟩, leG66, hS, hO⟩
   ·rintro F w92 ⟨Fb, G93, rfl, leG93, hS, hO⟩
    refine zS ?_; refine zV (zm (v := (.string ⟨q63.toArray⟩)) rfl) rfl ?_; obtain ⟨y94, hy94, H⟩ := bnd H; refine zV (rn_catS rfl rfl hy94) rfl ?_; refine zV (zm (v := (.string ⟨q63.toArray⟩)) rfl) rfl ?_; obtain ⟨y95, hy95, H⟩ := bnd H; refine zO rfl (zC cb32 (f32_ok (x0 := q63) hS.sat  hy95) rfl rfl (fun w96 hb => ?_)); have hS := hS.keep hb; have hO := hO.below hb; obtain ⟨y97, hy97, H⟩ := bnd H; refine zV (rn_catS rfl rfl hy97) rfl ?_; obtain ⟨y98, hy98, H⟩ := bnd H; refine zV (rn_catS rfl rfl hy98) rfl ?_; refine zV (zA (v := (.string ⟨y98.toArray⟩)) rfl) rfl ?_; refine zN ?_; refine WC_ret ?_
    have H : some y98 = some r := H
    have H := oi H; subst H
    exact ⟨rfl, hS.below⟩
set_option maxHeartbeats 1000000 in
theorem f12_ok {G0 : Gm} {w0 : World} (hS0 : Sat G0 w0) {x0 : TLandBook} {a1 : Option Addr} {n1 c1 : Nat} {a2 : Option Addr} {n2 c2 : Nat} {a3 : Option Addr} {n3 c3 : Nat} {x1 : TLandBook} {a4 : Option Addr} {n4 c4 : Nat} {a5 : Option Addr} {n5 c5 : Nat} {a6 : Option Addr} {n6 c6 : Nat} (h1 : RSl RTLandPerson 2 G0 a1 n1 c1 x0.People) (h2 : RSl RTLandEvent 2 G0 a2 n2 c2 x0.Events) (h3 : RSl RTLandMemory 4 G0 a3 n3 c3 x0.Memories) (h4 : RSl RTLandPerson 2 G0 a4 n4 c4 x1.People) (h5 : RSl RTLandEvent 2 G0 a5 n5 c5 x1.Events) (h6 : RSl RTLandMemory 4 G0 a6 n6 c6 x1.Memories) {r : Bool} (H : f12 x0 x1 = some r) :
  Calls Tryz.prog 12 #[.agg #[.slice a1 n1 c1, .slice a2 n2 c2, .slice a3 n3 c3], .agg #[.slice a4 n4 c4, .slice a5 n5 c5, .slice a6 n6 c6]] w0 (RetV w0 (.bool r)) := by
 have hS := Since.start hS0
 have hO : Owns G0 w0 w0.heap.size [] := Owns.nil (Nat.le_refl _)
 unfold f12 at H
 refine enter1 (N := 87) (shutV _ _) Tryz.func12 rfl rfl rfl rfl ?_; refine zS ?_; refine zO rfl (zW (v := fun b => .pointer (some ⟨b, 0, none⟩)) (cs := [.slice a1 n1 c1, .slice a2 n2 c2, .slice a3 n3 c3]) (e := 26) (rn_boxA rfl) hS.sat rfl (fun b7 G9 w8 hg hcb7 => ?_)); have hS := hS.grow hg; have hO := hO.grow hg
 have leG9 := hg.le
 refine zO rfl (zW (v := fun b => .pointer (some ⟨b, 0, none⟩)) (cs := [.slice a4 n4 c4, .slice a5 n5 c5, .slice a6 n6 c6]) (e := 26) (rn_boxA rfl) hS.sat rfl (fun b10 G12 w11 hg hcb10 => ?_)); have hS := hS.grow hg; have hO := hO.grow hg
 have leG12 := hg.le
 refine zV (zA (v := (.bool false)) rfl) rfl ?_; refine zN ?_; refine zQ ?_; refine zQ ?_; obtain ⟨q13, hq13, H⟩ := bnd H; refine zM (fun F w => ∃ (Fb : Fr), F = upds Fb [(2, .pointer (some ⟨b7, 0, none⟩)), (3, .pointer (some ⟨b10, 0, none⟩)), (32, .bool q13)] ∧ w11 = w) ?_ ?_
 ·have Hoq13 := H; have H := hq13; refine zR ?_; refine zV (zF fd26_0 rfl) rfl ?_; refine zV (zL na22 rfl ((hS.sat.le leG12).cell (hcb7 0 _ rfl))) rfl ?_
  have l0_2 := leG9.trans leG12
  refine zV (rn_len sl22 rfl rfl (h1.mono RTLandPerson_mono l0_2).1) rfl ?_; refine zV (zF fd26_0 rfl) rfl ?_; refine zV (zL na22 rfl (hS.sat.cell (hcb10 0 _ rfl))) rfl ?_; refine zV (rn_len sl22 rfl rfl (h4.mono RTLandPerson_mono l0_2).1) rfl ?_; refine zV (rn_neq rfl rfl) rfl ?_; refine zV (zm (v := (.bool ((x0.People.length : Int) != (x1.People.length : Int)))) rfl) rfl ?_
  rcases bcases ((x0.People.length : Int) != (x1.People.length : Int)) with hb14 | hb14
  ·have H := ifT hb14 H; refine zG rfl hb14 rfl rfl rfl ?_; refine zG rfl hb14 rfl rfl rfl ?_; refine zG rfl hb14 rfl rfl rfl ?_; refine zG rfl hb14 rfl rfl rfl ?_; refine zG rfl hb14 rfl rfl rfl ?_; refine zG rfl hb14 rfl rfl rfl ?_; refine zG rfl hb14 rfl rfl rfl ?_; refine zV (rn_pickT (v := (.bool true)) rfl hb14 rfl) rfl ?_; refine zV (zm (v := (.bool true)) rfl) rfl ?_; refine zG rfl rfl rfl rfl rfl ?_; refine zG rfl rfl rfl rfl rfl ?_; refine zG rfl rfl rfl rfl rfl ?_; refine zG rfl rfl rfl rfl rfl ?_; refine zG rfl rfl rfl rfl rfl ?_; refine zG rfl rfl rfl rfl rfl ?_; refine zG rfl rfl rfl rfl rfl ?_; refine zV (rn_pickT (v := (.bool true)) rfl rfl rfl) rfl ?_; refine zN ?_; have H := oi H; subst H
   exact ⟨_, upds_self _ _ ⟨rfl, rfl, rfl, trivial⟩, rfl⟩
  ·have H := ifF hb14 H; refine zY rfl hb14 rfl rfl ?_; refine zV (zF fd26_1 rfl) rfl ?_; refine zY rfl hb14 rfl rfl ?_; refine zV (zL na23 rfl ((hS.sat.le leG12).cell (hcb7 1 _ rfl))) rfl ?_; refine zY rfl hb14 rfl rfl ?_; refine zV (rn_len sl23 rfl rfl (h2.mono RTLandEvent_mono l0_2).1) rfl ?_; refine zY rfl hb14 rfl rfl ?_; refine zV (zF fd26_1 rfl) rfl ?_; refine zY rfl hb14 rfl rfl ?_; refine zV (zL na23 rfl (hS.sat.cell (hcb10 1 _ rfl))) rfl ?_; refine zY rfl hb14 rfl rfl ?_; refine zV (rn_len sl23 rfl rfl (h5.mono RTLandEvent_mono l0_2).1) rfl ?_; refine zY rfl hb14 rfl rfl ?_; refine zV (rn_neq rfl rfl) rfl ?_; refine zV (rn_pickF (v := (.bool ((x0.Events.length : Int) != (x1.Events.length : Int)))) rfl hb14 rfl) rfl ?_; refine zV (zm (v := (.bool ((x0.Events.length : Int) != (x1.Events.length : Int)))) rfl) rfl ?_
   rcases bcases ((x0.Events.length : Int) != (x1.Events.length : Int)) with hb15 | hb15
   ·have H := ifT hb15 H; refine zG rfl hb15 rfl rfl rfl ?_; refine zG rfl hb15 rfl rfl rfl ?_; refine zG rfl hb15 rfl rfl rfl ?_; refine zG rfl hb15 rfl rfl rfl ?_; refine zG rfl hb15 rfl rfl rfl ?_; refine zG rfl hb15 rfl rfl rfl ?_; refine zG rfl hb15 rfl rfl rfl ?_; refine zV (rn_pickT (v := (.bool true)) rfl hb15 rfl) rfl ?_; refine zN ?_; have H := oi H; subst H
    exact ⟨_, upds_self _ _ ⟨rfl, rfl, rfl, trivial⟩, rfl⟩
   ·have H := ifF hb15 H; refine zY rfl hb15 rfl rfl ?_; refine zV (zF fd26_2 rfl) rfl ?_; refine zY rfl hb15 rfl rfl ?_; refine zV (zL na24 rfl ((hS.sat.le leG12).cell (hcb7 2 _ rfl))) rfl ?_; refine zY rfl hb15 rfl rfl ?_; refine zV (rn_len sl24 rfl rfl (h3.mono RTLandMemory_mono l0_2).1) rfl ?_; refine zY rfl hb15 rfl rfl ?_; refine zV (zF fd26_2 rfl) rfl ?_; refine zY rfl hb15 rfl rfl ?_; refine zV (zL na24 rfl (hS.sat.cell (hcb10 2 _ rfl))) rfl ?_; refine zY rfl hb15 rfl rfl ?_; refine zV (rn_len sl24 rfl rfl (h6.mono RTLandMemory_mono l0_2).1) rfl ?_; refine zY rfl hb15 rfl rfl ?_; refine zV (rn_neq rfl rfl) rfl ?_; refine zV (rn_pickF (v := (.bool ((x0.Memories.length : Int) != (x1.Memories.length : Int)))) rfl hb15 rfl) rfl ?_; refine zN ?_; have H := oi H; subst H
    exact ⟨_, upds_self _ _ ⟨rfl, rfl, rfl, trivial⟩, rfl⟩
 ·rintro F wl ⟨Fb, rfl, rfl⟩
  refine zT rfl (fun hb18 => ?_) (fun hb18 => ?_)
  ·have H := ifT hb18 H; refine zS ?_; refine zV (zA (v := (.bool false)) rfl) rfl ?_; refine zN ?_; refine WC_ret ?_
   have H : some false = some r := H
   have H := oi H; subst H
   exact ⟨rfl, hS.below⟩
  ·have H := ifF hb18 H; refine zP ?_; refine zQ ?_; refine zS ?_; refine zV (zA (v := (.int .i64 0)) rfl) rfl ?_; refine zN ?_; obtain ⟨q21, hq21, H⟩ := bnd H; refine zM (fun F w => ∃ (p20 : Unit) (Fb : Fr) (G : Gm), q21 = .inl p20 ∧ F = upds Fb [(2, .pointer (some ⟨b7, 0, none⟩)), (3, .pointer (some ⟨b10, 0, none⟩))] ∧ Gle G12 G ∧ Since w0.heap.size G0 w0 G w ∧ Owns G w w0.heap.size []) ?_ ?_
   ·refine WC_block (WC_loop hq21 (fun s19 F w => ∃ (Fb : Fr) (G : Gm), F = upds Fb [(2, .pointer (some ⟨b7, 0, none⟩)), (3, .pointer (some ⟨b10, 0, none⟩)), (5, .int .i64 s19)] ∧ Gle G12 G ∧ Since w0.heap.size G0 w0 G w ∧ Owns G w w0.heap.size []) ?_ ?_)
    ·have hO : Owns _ _ _ ([]) := hO
     exact ⟨_, G12, upds_self _ _ ⟨rfl, rfl, rfl, trivial⟩, Gle.refl _, hS, hO⟩
    ·rintro s19 F w23 t22 ⟨Fb, G24, rfl, leG24, hS, hO⟩
     intro H1 hqq21
     have Hoq21 := H; have H := H1
     unfold f12_b0 at H
     refine zQ ?_; refine zS ?_; refine zV (zm (v := (.int .i64 s19)) rfl) rfl ?_; refine zV (zF fd26_0 rfl) rfl ?_
     have l1_3 := leG12.trans leG24
     refine zV (zL na22 rfl ((hS.sat.le l1_3).cell (hcb7 0 _ rfl))) rfl ?_
     have l0_3 := leG9.trans l1_3
     refine zV (rn_len sl22 rfl rfl (h1.mono RTLandPerson_mono l0_3).1) rfl ?_; refine zV (rn_lss rfl rfl) rfl ?_; refine zN ?_; refine zT rfl (fun hb25 => ?_) (fun hb25 => ?_)
     ·have H := ifT hb25 H; refine zP ?_; refine zQ ?_; refine WC_block ?_; refine zQ ?_; have hS := hS.keep (below_drew _); have hO := hO.below (below_drew _)
      refine WC_regionD mixedO (fun _ w => Sat G24 w ∧ True) (.fl 0 (.fl 1 (.fl 2 (.fl 3 (.fl 4 (.fl 5 (.fl 6 (.on 7 (.on 8 (.on 9 (.on 10 .nil))))))))))) (by kernel_rfl) rfl (by kernel_rfl) (fun _ => ⟨hS.sat, trivial⟩) ?_
      refine zD rfl (fun w hw => zF fd26_0 rfl) rfl ?_; refine zD rfl (fun w hw => zL na22 rfl ((hw.1.le l1_3).cell (hcb7 0 _ rfl))) rfl ?_; refine zD rfl (fun w hw => zm (v := (.int .i64 s19)) rfl) rfl ?_; obtain ⟨y26, hy26, H⟩ := bnd H; refine WD_idx rfl sl22 (h1.mono RTLandPerson_mono l0_3) hy26 rfl rfl rfl ?_
      rintro b27 o27 _ hcb27 _ ⟨⟩
      refine zD rfl (fun w hw => rn_loadA ag54 (cs := [.int .i64 y26.Mother, .int .i64 y26.Adopted]) rfl rfl (fun j v hj => hw.1.cell (hcb27.drop_take 0 2 j v hj))) rfl ?_; refine zD rfl (fun w hw => zF fd26_0 rfl) rfl ?_; refine zD rfl (fun w hw => zL na22 rfl ((hw.1.le leG24).cell (hcb10 0 _ rfl))) rfl ?_; refine zE rfl rfl (OpP_val (zm (v := (.int .i64 s19)) rfl) rfl ?_); refine ⟨fun _ _ => ⟨hS.sat, trivial⟩, ?_⟩; obtain ⟨y28, hy28, H⟩ := bnd H; refine zE rfl rfl (OpP_idx sl22 (h4.mono RTLandPerson_mono l0_3) hy28 rfl rfl rfl ?_)
      rintro b29 o29 _ hcb29 _ ⟨⟩
      refine ⟨fun _ _ => ⟨hS.sat, trivial⟩, ?_⟩; refine zE rfl rfl (OpP_val (rn_loadA ag54 (cs := [.int .i64 y28.Mother, .int .i64 y28.Adopted]) rfl rfl (fun j v hj => hS.sat.cell (hcb29.drop_take 0 2 j v hj))) rfl ?_); refine ⟨fun _ _ => ⟨hS.sat, trivial⟩, ?_⟩; refine zE rfl rfl (OpP_val (rn_neqA (xs := [y26.Mother, y26.Adopted]) (ys := [y28.Mother, y28.Adopted]) in54 rfl rfl rfl rfl) rfl ?_)
      refine ⟨fun _ h => noneed (by kernel_rfl) h, ?_⟩
      refine zI ?_; refine zT rfl (fun hb30 => ?_) (fun hb30 => ?_)
      ·have H := ifT hb30 H; refine zS ?_; refine zV (zA (v := (.bool false)) rfl) rfl ?_; refine zN ?_; refine WC_ret ?_; have H := oi H; subst H
       have hres := hqq21 _ rfl
       subst hres; have H := Hoq21
       have H : some false = some r := H
       have H := oi H; subst H
       exact ⟨rfl, hS.below⟩
      ·have H := ifF hb30 H; refine zP ?_; refine zR ?_; refine zV (zm (v := (.int .i64 s19)) rfl) rfl ?_; refine zV (rn_add rfl rfl) rfl ?_; refine zV (zA (v := (.int .i64 (IntKind.i64.wrap (s19 + 1)))) rfl) rfl ?_; refine zN ?_
       have hO : Owns _ _ _ ([]) := hO
       have H := oi H; subst H; refine ⟨_, rfl, ?_⟩
       exact ⟨_, G24, upds_self _ _ ⟨rfl, rfl, rfl, trivial⟩, leG24, hS, hO⟩
     ·have H := ifF hb25 H; refine WC_exit rfl ?_
      have hO : Owns _ _ _ ([]) := hO
      have H := oi H; subst H
      have hres := hqq21 _ rfl
      subst hres
      exact ⟨_, _, G24, rfl, upds_self _ _ ⟨rfl, rfl, trivial⟩, leG24, hS, hO⟩
   ·rintro F w31 ⟨p20, Fb, G32, rfl, rfl, leG32, hS, hO⟩
    refine zQ ?_; refine zS ?_; refine zV (zA (v := (.int .i64 0)) rfl) rfl ?_; refine zN ?_; obtain ⟨q35, hq35, H⟩ := bnd H; refine zM (fun F w => ∃ (p34 : Unit) (Fb : Fr) (G : Gm), q35 = .inl p34 ∧ F = upds Fb [(2, .pointer (some ⟨b7, 0, none⟩)), (3, .pointer (some ⟨b10, 0, none⟩))] ∧ Gle G32 G ∧ Since w0.heap.size G0 w0 G w ∧ Owns G w w0.heap.size []) ?_ ?_
    ·refine WC_block (WC_loop hq35 (fun s33 F w => ∃ (Fb : Fr) (G : Gm), F = upds Fb [(2, .pointer (some ⟨b7, 0, none⟩)), (3, .pointer (some ⟨b10, 0, none⟩)), (6, .int .i64 s33)] ∧ Gle G32 G ∧ Since w0.heap.size G0 w0 G w ∧ Owns G w w0.heap.size []) ?_ ?_)
     ·have hO : Owns _ _ _ ([]) := hO
      exact ⟨_, G32, upds_self _ _ ⟨rfl, rfl, rfl, trivial⟩, Gle.refl _, hS, hO⟩
     ·rintro s33 F w37 t36 ⟨Fb, G38, rfl, leG38, hS, hO⟩
      intro H1 hqq35
      have Hoq35 := H; have H := H1
      unfold f12_b1 at H
      refine zQ ?_; refine zS ?_; refine zV (zm (v := (.int .i64 s33)) rfl) rfl ?_; refine zV (zF fd26_1 rfl) rfl ?_
      have l1_4 := (leG12.trans leG32).trans leG38
      refine zV (zL na23 rfl ((hS.sat.le l1_4).cell (hcb7 1 _ rfl))) rfl ?_
      have l0_4 := leG9.trans l1_4
      refine zV (rn_len sl23 rfl rfl (h2.mono RTLandEvent_mono l0_4).1) rfl ?_; refine zV (rn_lss rfl rfl) rfl ?_; refine zN ?_; refine zT rfl (fun hb39 => ?_) (fun hb39 => ?_)
      ·have H := ifT hb39 H; refine zP ?_; refine zQ ?_; refine WC_block ?_; refine zQ ?_; have hS := hS.keep (below_drew _); have hO := hO.below (below_drew _)
       refine WC_regionD mixedO (fun _ w => Sat G38 w ∧ True) (.fl 0 (.fl 1 (.fl 2 (.fl 3 (.fl 4 (.fl 5 (.fl 6 (.on 7 (.on 8 (.on 9 (.on 10 .nil))))))))))) (by kernel_rfl) rfl (by kernel_rfl) (fun _ => ⟨hS.sat, trivial⟩) ?_
       refine zD rfl (fun w hw => zF fd26_1 rfl) rfl ?_; refine zD rfl (fun w hw => zL na23 rfl ((hw.1.le l1_4).cell (hcb7 1 _ rfl))) rfl ?_; refine zD rfl (fun w hw => zm (v := (.int .i64 s33)) rfl) rfl ?_; obtain ⟨y40, hy40, H⟩ := bnd H; refine WD_idx rfl sl23 (h2.mono RTLandEvent_mono l0_4) hy40 rfl rfl rfl ?_
       rintro b41 o41 _ hcb41 _ ⟨⟩
       refine zD rfl (fun w hw => rn_loadA ag57 (cs := [.int .i64 y40.Strip, .int .i64 y40.Holder]) rfl rfl (fun j v hj => hw.1.cell (hcb41.drop_take 0 2 j v hj))) rfl ?_; refine zD rfl (fun w hw => zF fd26_1 rfl) rfl ?_; refine zD rfl (fun w hw => zL na23 rfl ((hw.1.le (leG32.trans leG38)).cell (hcb10 1 _ rfl))) rfl ?_; refine zE rfl rfl (OpP_val (zm (v := (.int .i64 s33)) rfl) rfl ?_); refine ⟨fun _ _ => ⟨hS.sat, trivial⟩, ?_⟩; obtain ⟨y42, hy42, H⟩ := bnd H; refine zE rfl rfl (OpP_idx sl23 (h5.mono RTLandEvent_mono l0_4) hy42 rfl rfl rfl ?_)
       rintro b43 o43 _ hcb43 _ ⟨⟩
       refine ⟨fun _ _ => ⟨hS.sat, trivial⟩, ?_⟩; refine zE rfl rfl (OpP_val (rn_loadA ag57 (cs := [.int .i64 y42.Strip, .int .i64 y42.Holder]) rfl rfl (fun j v hj => hS.sat.cell (hcb43.drop_take 0 2 j v hj))) rfl ?_); refine ⟨fun _ _ => ⟨hS.sat, trivial⟩, ?_⟩; refine zE rfl rfl (OpP_val (rn_neqA (xs := [y40.Strip, y40.Holder]) (ys := [y42.Strip, y42.Holder]) in57 rfl rfl rfl rfl) rfl ?_)
       refine ⟨fun _ h => noneed (by kernel_rfl) h, ?_⟩
       refine zI ?_; refine zT rfl (fun hb44 => ?_) (fun hb44 => ?_)
       ·have H := ifT hb44 H; refine zS ?_; refine zV (zA (v := (.bool false)) rfl) rfl ?_; refine zN ?_; refine WC_ret ?_; have H := oi H; subst H
        have hres := hqq35 _ rfl
        subst hres; have H := Hoq35
        have H : some false = some r := H
        have H := oi H; subst H
        exact ⟨rfl, hS.below⟩
       ·have H := ifF hb44 H; refine zP ?_; refine zR ?_; refine zV (zm (v := (.int .i64 s33)) rfl) rfl ?_; refine zV (rn_add rfl rfl) rfl ?_; refine zV (zA (v := (.int .i64 (IntKind.i64.wrap (s33 + 1)))) rfl) rfl ?_; refine zN ?_
        have hO : Owns _ _ _ ([]) := hO
        have H := oi H; subst H; refine ⟨_, rfl, ?_⟩
        exact ⟨_, G38, upds_self _ _ ⟨rfl, rfl, rfl, trivial⟩, leG38, hS, hO⟩
      ·have H := ifF hb39 H; refine WC_exit rfl ?_
       have hO : Owns _ _ _ ([]) := hO
       have H := oi H; subst H
       have hres := hqq35 _ rfl
       subst hres
       exact ⟨_, _, G38, rfl, upds_self _ _ ⟨rfl, rfl, trivial⟩, leG38, hS, hO⟩
    ·rintro F w45 ⟨p34, Fb, G46, rfl, rfl, leG46, hS, hO⟩
     refine zQ ?_; refine zS ?_; refine zV (zA (v := (.int .i64 0)) rfl) rfl ?_; refine zN ?_; obtain ⟨q49, hq49, H⟩ := bnd H; refine zM (fun F w => ∃ (p48 : Unit) (Fb : Fr) (G : Gm), q49 = .inl p48 ∧ F = upds Fb [] ∧ Gle G46 G ∧ Since w0.heap.size G0 w0 G w ∧ Owns G w w0.heap.size []) ?_ ?_
     ·refine WC_block (WC_loop hq49 (fun s47 F w => ∃ (Fb : Fr) (G : Gm), F = upds Fb [(2, .pointer (some ⟨b7, 0, none⟩)), (3, .pointer (some ⟨b10, 0, none⟩)), (7, .int .i64 s47)] ∧ Gle G46 G ∧ Since w0.heap.size G0 w0 G w ∧ Owns G w w0.heap.size []) ?_ ?_)
      ·have hO : Owns _ _ _ ([]) := hO
       exact ⟨_, G46, upds_self _ _ ⟨rfl, rfl, rfl, trivial⟩, Gle.refl _, hS, hO⟩
      ·rintro s47 F w51 t50 ⟨Fb, G52, rfl, leG52, hS, hO⟩
       intro H1 hqq49
       have Hoq49 := H; have H := H1
       unfold f12_b2 at H
       refine zQ ?_; refine zS ?_; refine zV (zm (v := (.int .i64 s47)) rfl) rfl ?_; refine zV (zF fd26_2 rfl) rfl ?_
       have l1_5 := ((leG12.trans leG32).trans leG46).trans leG52
       refine zV (zL na24 rfl ((hS.sat.le l1_5).cell (hcb7 2 _ rfl))) rfl ?_
       have l0_5 := leG9.trans l1_5
       refine zV (rn_len sl24 rfl rfl (h3.mono RTLandMemory_mono l0_5).1) rfl ?_; refine zV (rn_lss rfl rfl) rfl ?_; refine zN ?_; refine zT rfl (fun hb53 => ?_) (fun hb53 => ?_)
       ·have H := ifT hb53 H; refine zP ?_; refine zQ ?_; refine WC_block ?_; refine zQ ?_; have hS := hS.keep (below_drew _); have hO := hO.below (below_drew _)
        refine WC_regionD mixedO (fun _ w => Sat G52 w ∧ True) (.fl 0 (.fl 1 (.fl 2 (.fl 3 (.fl 4 (.fl 5 (.fl 6 (.on 7 (.on 8 (.on 9 (.on 10 .nil))))))))))) (by kernel_rfl) rfl (by kernel_rfl) (fun _ => ⟨hS.sat, trivial⟩) ?_
        refine zD rfl (fun w hw => zF fd26_2 rfl) rfl ?_; refine zD rfl (fun w hw => zL na24 rfl ((hw.1.le l1_5).cell (hcb7 2 _ rfl))) rfl ?_; refine zD rfl (fun w hw => zm (v := (.int .i64 s47)) rfl) rfl ?_; obtain ⟨y54, hy54, H⟩ := bnd H; refine WD_idx rfl sl24 (h3.mono RTLandMemory_mono l0_5) hy54 rfl rfl rfl ?_
        rintro b55 o55 _ hcb55 _ ⟨⟩
        refine zD rfl (fun w hw => rn_loadA ag60 (cs := [.int .i64 y54.From, .int .i64 y54.To, .int .i64 y54.Years.Low, .int .i64 y54.Years.High]) rfl rfl (fun j v hj => hw.1.cell (hcb55.drop_take 0 4 j v hj))) rfl ?_; refine zD rfl (fun w hw => zF fd26_2 rfl) rfl ?_; refine zD rfl (fun w hw => zL na24 rfl ((hw.1.le ((leG32.trans leG46).trans leG52)).cell (hcb10 2 _ rfl))) rfl ?_; refine zE rfl rfl (OpP_val (zm (v := (.int .i64 s47)) rfl) rfl ?_); refine ⟨fun _ _ => ⟨hS.sat, trivial⟩, ?_⟩; obtain ⟨y56, hy56, H⟩ := bnd H; refine zE rfl rfl (OpP_idx sl24 (h6.mono RTLandMemory_mono l0_5) hy56 rfl rfl rfl ?_)
        rintro b57 o57 _ hcb57 _ ⟨⟩
        refine ⟨fun _ _ => ⟨hS.sat, trivial⟩, ?_⟩; refine zE rfl rfl (OpP_val (rn_loadA ag60 (cs := [.int .i64 y56.From, .int .i64 y56.To, .int .i64 y56.Years.Low, .int .i64 y56.Years.High]) rfl rfl (fun j v hj => hS.sat.cell (hcb57.drop_take 0 4 j v hj))) rfl ?_); refine ⟨fun _ _ => ⟨hS.sat, trivial⟩, ?_⟩; refine zE rfl rfl (OpP_val (rn_neqA22 iz60 rfl rfl) rfl ?_)
        refine ⟨fun _ h => noneed (by kernel_rfl) h, ?_⟩
        refine zI ?_; refine zT rfl (fun hb58 => ?_) (fun hb58 => ?_)
        ·have H := ifT hb58 H; refine zS ?_; refine zV (zA (v := (.bool false)) rfl) rfl ?_; refine zN ?_; refine WC_ret ?_; have H := oi H; subst H
         have hres := hqq49 _ rfl
         subst hres; have H := Hoq49
         have H : some false = some r := H
         have H := oi H; subst H
         exact ⟨rfl, hS.below⟩
        ·have H := ifF hb58 H; refine zP ?_; refine zR ?_; refine zV (zm (v := (.int .i64 s47)) rfl) rfl ?_; refine zV (rn_add rfl rfl) rfl ?_; refine zV (zA (v := (.int .i64 (IntKind.i64.wrap (s47 + 1)))) rfl) rfl ?_; refine zN ?_
         have hO : Owns _ _ _ ([]) := hO
         have H := oi H; subst H; refine ⟨_, rfl, ?_⟩
         exact ⟨_, G52, upds_self _ _ ⟨rfl, rfl, rfl, trivial⟩, leG52, hS, hO⟩
       ·have H := ifF hb53 H; refine WC_exit rfl ?_
        have hO : Owns _ _ _ ([]) := hO
        have H := oi H; subst H
        have hres := hqq49 _ rfl
        subst hres
        exact ⟨_, _, G52, rfl, rfl, leG52, hS, hO⟩
     ·rintro F w59 ⟨p48, Fb, G60, rfl, rfl, leG60, hS, hO⟩
      refine zS ?_; refine zV (zA (v := (.bool true)) rfl) rfl ?_; refine zN ?_; refine WC_ret ?_
      have H : some true = some r := H
      have H := oi H; subst H
      exact ⟨rfl, hS.below⟩
set_option maxHeartbeats 1000000 in
theorem f3_ok {G0 : Gm} {w0 : World} (hS0 : Sat G0 w0) {x0 : TLandBook} {a1 : Option Addr} {n1 c1 : Nat} {a2 : Option Addr} {n2 c2 : Nat} {a3 : Option Addr} {n3 c3 : Nat} (hT : TabZ Tryz.prog G0) (h1 : RSl RTLandPerson 2 G0 a1 n1 c1 x0.People) (h2 : RSl RTLandEvent 2 G0 a2 n2 c2 x0.Events) (h3 : RSl RTLandMemory 4 G0 a3 n3 c3 x0.Memories) {r : Bool} (H : f3 x0 = some r) :
  Calls Tryz.prog 3 #[.agg #[.slice a1 n1 c1, .slice a2 n2 c2, .slice a3 n3 c3]] w0 (RetV w0 (.bool r)) := by
 have hS := Since.start hS0
 have hO : Owns G0 w0 w0.heap.size [] := Owns.nil (Nat.le_refl _)
 unfold f3 at H
 refine enter1 (N := 53) (shutV _ _) Tryz.func3 rfl rfl rfl rfl ?_; refine zS ?_; refine zO rfl (zW (v := fun b => .pointer (some ⟨b, 0, none⟩)) (cs := [.slice a1 n1 c1, .slice a2 n2 c2, .slice a3 n3 c3]) (e := 26) (rn_boxA rfl) hS.sat rfl (fun b4 G6 w5 hg hcb4 => ?_)); have hS := hS.grow hg; have hO := hO.grow hg
 have leG6 := hg.le
 refine zV (zA (v := (.bool false)) rfl) rfl ?_; refine zN ?_; refine zQ ?_; refine zS ?_; refine zV (rn_loadA ag26 (cs := [.slice a1 n1 c1, .slice a2 n2 c2, .slice a3 n3 c3]) rfl rfl (fun j v hj => hS.sat.cell (hcb4.drop_take 0 3 j v hj))) rfl ?_; obtain ⟨y7, hy7, H⟩ := bnd H; refine zO rfl (zC cb6 (f6_ok (x0 := x0) hS.sat (h1.mono RTLandPerson_mono leG6) (h2.mono RTLandEvent_mono leG6) (h3.mono RTLandMemory_mono leG6) hy7) rfl rfl (fun w8 hb => ?_)); have hS := hS.keep hb; have hO := hO.below hb; refine zV (rn_not rfl) rfl ?_; refine zN ?_; refine zT rfl (fun hb9 => ?_) (fun hb9 => ?_)
 ·have H := ifT hb9 H; refine zS ?_; obtain ⟨y10, hy10, H⟩ := bnd H; refine zO rfl (zC cb7 (f7_ok  hS.sat (hT.mono leG6)  hy10) rfl rfl (fun w11 hb => ?_)); have hS := hS.keep hb; have hO := hO.below hb; refine zV (zA (v := (.bool y10)) rfl) rfl ?_; refine zN ?_; refine WC_ret ?_
  have H : some y10 = some r := H
  have H := oi H; subst H
  exact ⟨rfl, hS.below⟩
 ·have H := ifF hb9 H; refine zP ?_; refine zS ?_; refine zV (rn_loadA ag26 (cs := [.slice a1 n1 c1, .slice a2 n2 c2, .slice a3 n3 c3]) rfl rfl (fun j v hj => hS.sat.cell (hcb4.drop_take 0 3 j v hj))) rfl ?_; obtain ⟨y12, hy12, H⟩ := bnd H; refine zO rfl (zC cb8 (f8_ok (x0 := x0) hS.sat (hT.mono leG6) (h1.mono RTLandPerson_mono leG6) (h2.mono RTLandEvent_mono leG6) (h3.mono RTLandMemory_mono leG6) hy12) rfl rfl (fun w13 hb => ?_)); have hS := hS.keep hb; have hO := hO.below hb; refine zV (zm (v := (.tuple #[.string ⟨y12.1.toArray⟩, .int .i64 y12.2])) rfl) rfl ?_; refine zV (zX (v := (.string ⟨y12.1.toArray⟩)) rfl rfl) rfl ?_; refine zV (zX (v := (.int .i64 y12.2)) rfl rfl) rfl ?_; refine zV (zA (v := (.string ⟨y12.1.toArray⟩)) rfl) rfl ?_; refine zV (zA (v := (.int .i64 y12.2)) rfl) rfl ?_; refine zN ?_; refine zQ ?_; refine zS ?_; refine zV (rn_loadA ag26 (cs := [.slice a1 n1 c1, .slice a2 n2 c2, .slice a3 n3 c3]) rfl rfl (fun j v hj => hS.sat.cell (hcb4.drop_take 0 3 j v hj))) rfl ?_; obtain ⟨y14, hy14, H⟩ := bnd H; refine zO rfl (zC cb9 (f9_ok (x0 := x0) hS.sat (h1.mono RTLandPerson_mono leG6) (h2.mono RTLandEvent_mono leG6) (h3.mono RTLandMemory_mono leG6) hy14) rfl rfl (fun w15 hb => ?_)); have hS := hS.keep hb; have hO := hO.below hb; refine zV (rn_not rfl) rfl ?_; refine zN ?_; refine zT rfl (fun hb16 => ?_) (fun hb16 => ?_)
  ·have H := ifT hb16 H; refine zQ ?_; obtain ⟨q17, hq17, H⟩ := bnd H; refine zM (fun F w => ∃ (Fb : Fr) (G : Gm), F = upds Fb [(2, .bool q17)] ∧ Gle G6 G ∧ Since w0.heap.size G0 w0 G w ∧ Owns G w w0.heap.size []) ?_ ?_
   ·have Hoq17 := H; have H := hq17; refine zR ?_; refine zV (zm (v := (.int .i64 y12.2)) rfl) rfl ?_; refine zV (rn_eql rfl rfl) rfl ?_; refine zV (zm (v := (.bool (y12.2 == 2))) rfl) rfl ?_
    rcases bcases (y12.2 == 2) with hb18 | hb18
    ·have H := ifT hb18 H; refine zY rfl hb18 rfl rfl ?_; refine zV (zm (v := (.string ⟨y12.1.toArray⟩)) rfl) rfl ?_; refine zY rfl hb18 rfl rfl ?_; refine zV (rn_eqlS rfl rfl) rfl ?_; refine zV (rn_pickT (v := (.bool (y12.1 == ([] : List UInt8)))) rfl hb18 rfl) rfl ?_; refine zV (zm (v := (.bool (y12.1 == ([] : List UInt8)))) rfl) rfl ?_
     rcases bcases (y12.1 == ([] : List UInt8)) with hb19 | hb19
     ·have H := ifT hb19 H; refine zY rfl hb19 rfl rfl ?_; obtain ⟨y20, hy20, H⟩ := bnd H; refine zO rfl (zC cb7 (f7_ok  hS.sat (hT.mono leG6)  hy20) rfl rfl (fun w21 hb => ?_)); have hS := hS.keep hb; have hO := hO.below hb; refine zV (rn_pickT (v := (.bool y20)) rfl hb19 rfl) rfl ?_; refine zV (zA (v := (.bool y20)) rfl) rfl ?_; refine zN ?_
      have hO : Owns _ _ _ ([]) := hO
      have H := oi H; subst H
      exact ⟨_, G6, upds_self _ _ ⟨rfl, trivial⟩, Gle.refl _, hS, hO⟩
     ·have H := ifF hb19 H; refine zG rfl hb19 rfl rfl rfl ?_; refine zV (rn_pickF (v := (.bool false)) rfl hb19 rfl) rfl ?_; refine zV (zA (v := (.bool false)) rfl) rfl ?_; refine zN ?_
      have hO : Owns _ _ _ ([]) := hO
      have H := oi H; subst H
      exact ⟨_, G6, upds_self _ _ ⟨rfl, trivial⟩, Gle.refl _, hS, hO⟩
    ·have H := ifF hb18 H; refine zG rfl hb18 rfl rfl rfl ?_; refine zG rfl hb18 rfl rfl rfl ?_; refine zV (rn_pickF (v := (.bool false)) rfl hb18 rfl) rfl ?_; refine zV (zm (v := (.bool false)) rfl) rfl ?_; refine zG rfl rfl rfl rfl rfl ?_; refine zV (rn_pickF (v := (.bool false)) rfl rfl rfl) rfl ?_; refine zV (zA (v := (.bool false)) rfl) rfl ?_; refine zN ?_
     have hO : Owns _ _ _ ([]) := hO
     have H := oi H; subst H
     exact ⟨_, G6, upds_self _ _ ⟨rfl, trivial⟩, Gle.refl _, hS, hO⟩
   ·rintro F w22 ⟨Fb, G23, rfl, leG23, hS, hO⟩
    refine WC_ret ?_
    have H : some q17 = some r := H
    have H := oi H; subst H
    exact ⟨rfl, hS.below⟩
  ·have H := ifF hb16 H; refine zP ?_; refine zS ?_; refine zV (zm (v := (.string ⟨y12.1.toArray⟩)) rfl) rfl ?_; obtain ⟨y24, hy24, H⟩ := bnd H; refine zO rfl (OpP_callG cb10 (f10_ok (x0 := y12.1) hS.sat (hT.mono leG6)  hy24) rfl rfl (fun vy24 G26 w25 hg hvy24 => ?_)); obtain ⟨a27, n27, c27, a28, n28, c28, a29, n29, c29, ⟨⟩, h27, h28, h29⟩ := hvy24; have hS := hS.grow hg; have hO := hO.grow hg
   have leG26 := hg.le
   refine zV (zm (v := (.tuple #[.agg #[.slice a27 n27 c27, .slice a28 n28 c28, .slice a29 n29 c29], .int .i64 y24.2])) rfl) rfl ?_; refine zV (zX (v := (.agg #[.slice a27 n27 c27, .slice a28 n28 c28, .slice a29 n29 c29])) rfl rfl) rfl ?_; refine zV (zX (v := (.int .i64 y24.2)) rfl rfl) rfl ?_
   refine zO rfl (zU (v := fun b => .pointer (some ⟨b, 0, none⟩)) (cs := [.slice none 0 0, .slice none 0 0, .slice none 0 0]) (e := 26) (by kernel_rfl) hS.sat hO rfl 3 1 rfl (by decide) (fun b30 w31 hb hO => ?_))
   have hS := hS.keep hb; refine zO rfl (OpP_store (vs := [.slice a27 n27 c27, .slice a28 n28 c28, .slice a29 n29 c29]) sz26 hS hO (k := 0) rfl rfl rfl rfl rfl (one_all rfl) (Nat.le_of_ble_eq_true rfl) (fun w33 hS hO => ?_))
   have hO : Owns _ _ _ ([zb 26 3 b30 [.slice a27 n27 c27, .slice a28 n28 c28, .slice a29 n29 c29]]) := hO
   obtain ⟨G34, leG34, hS, hO, hqG34, _⟩ := hO.freeze hS (k := 0) rfl
   have hcG34 : Cells G34 b30 0 [.slice a27 n27 c27, .slice a28 n28 c28, .slice a29 n29 c29] := (hqG34 _ _ _ _ rfl)
   refine zV (zA (v := (.int .i64 y24.2)) rfl) rfl ?_; refine zN ?_; refine zQ ?_; obtain ⟨q35, hq35, H⟩ := bnd H; refine zM (fun F w => ∃ (Fb : Fr) (G : Gm), F = upds Fb [(2, .bool q35)] ∧ Gle G34 G ∧ Since w0.heap.size G0 w0 G w ∧ Owns G w w0.heap.size []) ?_ ?_
   ·have Hoq35 := H; have H := hq35; refine zR ?_; refine zV (zm (v := (.int .i64 y12.2)) rfl) rfl ?_; refine zV (rn_eql rfl rfl) rfl ?_; refine zV (zm (v := (.bool (y12.2 == 0))) rfl) rfl ?_
    rcases bcases (y12.2 == 0) with hb36 | hb36
    ·have H := ifT hb36 H; refine zY rfl hb36 rfl rfl ?_; refine zV (zm (v := (.string ⟨y12.1.toArray⟩)) rfl) rfl ?_; refine zY rfl hb36 rfl rfl ?_
     have l1_3 := leG26.trans leG34
     refine zV (rn_loadA ag26 (cs := [.slice a1 n1 c1, .slice a2 n2 c2, .slice a3 n3 c3]) rfl rfl (fun j v hj => (hS.sat.le l1_3).cell (hcb4.drop_take 0 3 j v hj))) rfl ?_; refine zY rfl hb36 rfl rfl ?_; obtain ⟨y37, hy37, H⟩ := bnd H
     have l0_3 := leG6.trans l1_3
     refine zO rfl (zC cb11 (f11_ok (x0 := x0) hS.sat (h1.mono RTLandPerson_mono l0_3) (h2.mono RTLandEvent_mono l0_3) (h3.mono RTLandMemory_mono l0_3) hy37) rfl rfl (fun w38 hb => ?_)); have hS := hS.keep hb; have hO := hO.below hb; refine zY rfl hb36 rfl rfl ?_; refine zV (rn_eqlS rfl rfl) rfl ?_; refine zV (rn_pickT (v := (.bool (y12.1 == y37))) rfl hb36 rfl) rfl ?_; refine zV (zm (v := (.bool (y12.1 == y37))) rfl) rfl ?_
     rcases bcases (y12.1 == y37) with hb39 | hb39
     ·have H := ifT hb39 H; refine zY rfl hb39 rfl rfl ?_; refine zV (zm (v := (.int .i64 y24.2)) rfl) rfl ?_; refine zY rfl hb39 rfl rfl ?_; refine zV (rn_eql rfl rfl) rfl ?_; refine zV (rn_pickT (v := (.bool (y24.2 == 0))) rfl hb39 rfl) rfl ?_; refine zV (zm (v := (.bool (y24.2 == 0))) rfl) rfl ?_
      rcases bcases (y24.2 == 0) with hb40 | hb40
      ·have H := ifT hb40 H; refine zY rfl hb40 rfl rfl ?_; refine zV (rn_loadA ag26 (cs := [.slice a27 n27 c27, .slice a28 n28 c28, .slice a29 n29 c29]) rfl rfl (fun j v hj => hS.sat.cell (hcG34.drop_take 0 3 j v hj))) rfl ?_; refine zY rfl hb40 rfl rfl ?_; refine zV (rn_loadA ag26 (cs := [.slice a1 n1 c1, .slice a2 n2 c2, .slice a3 n3 c3]) rfl rfl (fun j v hj => (hS.sat.le l1_3).cell (hcb4.drop_take 0 3 j v hj))) rfl ?_; refine zY rfl hb40 rfl rfl ?_; obtain ⟨y41, hy41, H⟩ := bnd H; refine zO rfl (zC cb12 (f12_ok (x0 := y24.1) (x1 := x0) hS.sat (h27.mono RTLandPerson_mono leG34) (h28.mono RTLandEvent_mono leG34) (h29.mono RTLandMemory_mono leG34) (h1.mono RTLandPerson_mono l0_3) (h2.mono RTLandEvent_mono l0_3) (h3.mono RTLandMemory_mono l0_3) hy41) rfl rfl (fun w42 hb => ?_)); have hS := hS.keep hb; have hO := hO.below hb; refine zV (rn_pickT (v := (.bool y41)) rfl hb40 rfl) rfl ?_; refine zV (zm (v := (.bool y41)) rfl) rfl ?_
       rcases bcases y41 with hb43 | hb43
       ·have H := ifT hb43 H; refine zY rfl hb43 rfl rfl ?_; obtain ⟨y44, hy44, H⟩ := bnd H; refine zO rfl (zC cb7 (f7_ok  hS.sat (hT.mono l0_3)  hy44) rfl rfl (fun w45 hb => ?_)); have hS := hS.keep hb; have hO := hO.below hb; refine zV (rn_pickT (v := (.bool y44)) rfl hb43 rfl) rfl ?_; refine zV (zA (v := (.bool y44)) rfl) rfl ?_; refine zN ?_
        have hO : Owns _ _ _ ([]) := hO
        have H := oi H; subst H
        exact ⟨_, G34, upds_self _ _ ⟨rfl, trivial⟩, Gle.refl _, hS, hO⟩
       ·have H := ifF hb43 H; refine zG rfl hb43 rfl rfl rfl ?_; refine zV (rn_pickF (v := (.bool false)) rfl hb43 rfl) rfl ?_; refine zV (zA (v := (.bool false)) rfl) rfl ?_; refine zN ?_
        have hO : Owns _ _ _ ([]) := hO
        have H := oi H; subst H
        exact ⟨_, G34, upds_self _ _ ⟨rfl, trivial⟩, Gle.refl _, hS, hO⟩
      ·have H := ifF hb40 H; refine zG rfl hb40 rfl rfl rfl ?_; refine zG rfl hb40 rfl rfl rfl ?_; refine zG rfl hb40 rfl rfl rfl ?_; refine zV (rn_pickF (v := (.bool false)) rfl hb40 rfl) rfl ?_; refine zV (zm (v := (.bool false)) rfl) rfl ?_; refine zG rfl rfl rfl rfl rfl ?_; refine zV (rn_pickF (v := (.bool false)) rfl rfl rfl) rfl ?_; refine zV (zA (v := (.bool false)) rfl) rfl ?_; refine zN ?_
       have hO : Owns _ _ _ ([]) := hO
       have H := oi H; subst H
       exact ⟨_, G34, upds_self _ _ ⟨rfl, trivial⟩, Gle.refl _, hS, hO⟩
     ·have H := ifF hb39 H; refine zG rfl hb39 rfl rfl rfl ?_; refine zG rfl hb39 rfl rfl rfl ?_; refine zV (rn_pickF (v := (.bool false)) rfl hb39 rfl) rfl ?_; refine zV (zm (v := (.bool false)) rfl) rfl ?_; refine zG rfl rfl rfl rfl rfl ?_; refine zG rfl rfl rfl rfl rfl ?_; refine zG rfl rfl rfl rfl rfl ?_; refine zV (rn_pickF (v := (.bool false)) rfl rfl rfl) rfl ?_; refine zV (zm (v := (.bool false)) rfl) rfl ?_; refine zG rfl rfl rfl rfl rfl ?_; refine zV (rn_pickF (v := (.bool false)) rfl rfl rfl) rfl ?_; refine zV (zA (v := (.bool false)) rfl) rfl ?_; refine zN ?_
      have hO : Owns _ _ _ ([]) := hO
      have H := oi H; subst H
      exact ⟨_, G34, upds_self _ _ ⟨rfl, trivial⟩, Gle.refl _, hS, hO⟩
    ·have H := ifF hb36 H; refine zG rfl hb36 rfl rfl rfl ?_; refine zG rfl hb36 rfl rfl rfl ?_; refine zG rfl hb36 rfl rfl rfl ?_; refine zG rfl hb36 rfl rfl rfl ?_; refine zV (rn_pickF (v := (.bool false)) rfl hb36 rfl) rfl ?_; refine zV (zm (v := (.bool false)) rfl) rfl ?_; refine zG rfl rfl rfl rfl rfl ?_; refine zG rfl rfl rfl rfl rfl ?_; refine zV (rn_pickF (v := (.bool false)) rfl rfl rfl) rfl ?_; refine zV (zm (v := (.bool false)) rfl) rfl ?_; refine zG rfl rfl rfl rfl rfl ?_; refine zG rfl rfl rfl rfl rfl ?_; refine zG rfl rfl rfl rfl rfl ?_; refine zV (rn_pickF (v := (.bool false)) rfl rfl rfl) rfl ?_; refine zV (zm (v := (.bool false)) rfl) rfl ?_; refine zG rfl rfl rfl rfl rfl ?_; refine zV (rn_pickF (v := (.bool false)) rfl rfl rfl) rfl ?_; refine zV (zA (v := (.bool false)) rfl) rfl ?_; refine zN ?_
     have hO : Owns _ _ _ ([]) := hO
     have H := oi H; subst H
     exact ⟨_, G34, upds_self _ _ ⟨rfl, trivial⟩, Gle.refl _, hS, hO⟩
   ·rintro F w46 ⟨Fb, G47, rfl, leG47, hS, hO⟩
    refine WC_ret ?_
    have H : some q35 = some r := H
    have H := oi H; subst H
    exact ⟨rfl, hS.below⟩
end Go.Proofs.YtcaflmilfhhikaaGreatDoor
