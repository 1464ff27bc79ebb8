/-
  The walks: each Go function computes its plain function (printed by a program of ours).
-/
import Derived.Test.YtcaflmilfhhikaaGreatDoorAl
import Derived.Test.YtcaflmilfhhikaaGreatDoorRd
import Derived.Test.YtcaflmilfhhikaaGreatDoorBaseQ
import Derived.Test.YtcaflmilfhhikaaGreatDoorBaseU
import Derived.Test.YtcaflmilfhhikaaGreatDoorIt
import Derived.Test.YtcaflmilfhhikaaGreatDoorLib
import Derived.Test.YtcaflmilfhhikaaGreatDoorBu
import Derived.Test.YtcaflmilfhhikaaGreatDoorP4W2
namespace Go.Proofs.YtcaflmilfhhikaaGreatDoor
open Go.RowKit
set_option linter.unusedVariables false

set_option maxRecDepth 20000
set_option linter.unusedVariables false
set_option maxHeartbeats 1000000 in
theorem f20_ok {G0 : Gm} {w0 : World} (hS0 : Sat G0 w0) {x0 : TLandBook} {a1 : Option Addr} {n1 c1 : Nat} {a2 : Option Addr} {n2 c2 : Nat} {a3 : Option Addr} {n3 c3 : Nat} {x1 : Int} (h1 : RSl RTLandPerson 2 G0 a1 n1 c1 x0.People) (h2 : RSl RTLandEvent 2 G0 a2 n2 c2 x0.Events) (h3 : RSl RTLandMemory 4 G0 a3 n3 c3 x0.Memories) {r : (List Int) × Int × Int} (H : f20 x0 x1 = some r) :
  Calls Tryz.prog 20 #[.agg #[zl a1 n1 c1, zl a2 n2 c2, zl a3 n3 c3], zi x1] w0 (RetG G0 w0 (fun G v => ∃ (ra0 : Option Addr) (rn0 rc0 : Nat), v = .tuple #[zl ra0 rn0 rc0, zi r.2.1, zi r.2.2] ∧ RSl RInt 1 G ra0 rn0 rc0 r.1)) := by
 have hS := Since.start hS0
 have hO : Owns G0 w0 w0.heap.size [] := Owns.nil (Nat.le_refl _)
 unfold f20 at H
 refine enter3 (N := 105) (shutG _ _ _) Tryz.func20 rfl rfl rfl rfl ?_; refine zS ?_; refine zO rfl (zW (v := fun b => zp b) (cs := [zl a1 n1 c1, zl a2 n2 c2, zl a3 n3 c3]) (e := 26) (rn_boxA rfl) hS.sat rfl (fun b4 G6 w5 hg hcb4 => ?_)); have hS := hS.grow hg; have hO := hO.grow hg
 have leG6 := hg.le
 refine zy (zl none 0 0) rfl rfl ?_; refine zy (zi 0) rfl rfl ?_; refine zy (zi 0) rfl rfl ?_; refine zN ?_; refine zQ ?_; have hS := hS.keep (below_drew _); have hO := hO.below (below_drew _)
 refine WC_regionD mixedO (fun _ w => Sat G6 w ∧ True) (.fl 0 (.fl 1 (.two 2 (.two 3 (.fl 4 (.fl 5 (.fl 6 (.on 7 (.on 8 (.on 9 .nil)))))) 7 (.on 3 (.on 4 (.fl 5 (.fl 6 (.on 8 (.on 9 .nil))))))) 7 (.on 2 (.on 3 (.on 4 (.fl 5 (.fl 6 (.on 8 (.on 9 .nil)))))))))) (by kernel_rfl) rfl (by kernel_rfl) (fun _ => ⟨hS.sat, trivial⟩) ?_
 refine zD rfl (fun w hw => rn_loadA ag26 (cs := [zl a1 n1 c1, zl a2 n2 c2, zl a3 n3 c3]) rfl rfl (fun j v hj => hw.1.cell (hcb4.drop_take 0 3 j v hj))) rfl ?_; refine zD rfl (fun w hw => zm (v := (zi x1)) rfl) rfl ?_; refine WD_two ?_ ?_
 ·obtain ⟨y7, hy7, H⟩ := bnd H; refine zE rfl rfl (zC cb37 (f37_ok (x0 := x1) (x1 := 0) (x2 := 5) hS.sat  hy7) rfl rfl (fun w8 hb => ?_)); have hS := hS.keep hb; have hO := hO.below hb; refine ⟨fun _ _ => ⟨hS.sat, trivial⟩, ?_⟩; refine WD_two ?_ ?_
  ·obtain ⟨y9, hy9, H⟩ := bnd H; refine zE rfl rfl (zC cb35 (f35_ok (x0 := x0) (x1 := y7) hS.sat (h1.mono RTLandPerson_mono leG6) (h2.mono RTLandEvent_mono leG6) (h3.mono RTLandMemory_mono leG6) hy9) rfl rfl (fun w10 hb => ?_)); have hS := hS.keep hb; have hO := hO.below hb; refine ⟨fun _ _ => ⟨hS.sat, trivial⟩, ?_⟩; refine zD rfl (fun w hw => zm (v := (.tuple #[.agg (cellsT y9.1).toArray, zi y9.2])) rfl) rfl ?_; refine zD rfl (fun w hw => zX (v := (.agg (cellsT y9.1).toArray)) rfl rfl) rfl ?_; refine zD rfl (fun w hw => zX (v := (zi y9.2)) rfl rfl) rfl ?_
   refine zE rfl rfl (zU (v := fun b => zp b) (cs := (cellsT (Tb.zero 64))) (e := 72) (by kernel_rfl) hS.sat hO rfl 64 1 (cellsT_len _) (by decide) (fun b11 w12 hb hO => ?_))
   have hS := hS.keep hb; refine ⟨fun _ _ => ⟨hS.sat, trivial⟩, ?_⟩; refine zE rfl rfl (OpP_storeTT sz72 hS hO (k := 0) rfl rfl rfl (fun w14 hS hO => ?_))
   have hO : Owns _ _ _ ([⟨72, 64, 1, zl (some ⟨b11, 0, none⟩) 1 1, cellsT y9.1⟩]) := hO
   refine ⟨fun _ _ => ⟨hS.sat, trivial⟩, ?_⟩; refine zE rfl rfl (OpP_val (zA (v := (zi y9.2)) rfl) rfl ?_)
   refine ⟨fun _ h => noneed (by kernel_rfl) h, ?_⟩
   refine zI ?_; refine zQ ?_; refine zS ?_; refine zx (zi y9.2) rfl rfl ?_; refine zV (rn_neq rfl rfl) rfl ?_; refine zN ?_; refine zT rfl (fun hb15 => ?_) (fun hb15 => ?_)
   ·have H := ifT hb15 H; refine zS ?_; refine zx (zi y9.2) rfl rfl ?_; refine zy (zl none 0 0) rfl rfl ?_; refine zy (zi 0) rfl rfl ?_; refine zy (zi y9.2) rfl rfl ?_; refine zN ?_; refine WC_ret ?_
    have H : some ([], 0, y9.2) = some r := H
    have H := oi H; subst H
    exact ⟨_, _, rfl, hS.toGrow, _, _, _, rfl, (RSl.nil RInt 1 G6 none)⟩
   ·have H := ifF hb15 H; refine zP ?_; refine zS ?_; refine zy (zl none 0 0) rfl rfl ?_; refine zN ?_; refine zQ ?_; refine zS ?_; refine zV (zF fd26_1 rfl) rfl ?_; refine zV (zL na23 rfl (hS.sat.cell (hcb4 1 _ rfl))) rfl ?_; refine zV (rn_len sl23 rfl rfl (h2.mono RTLandEvent_mono leG6).1) rfl ?_; refine zx (zi 0) rfl rfl ?_; refine zN ?_; have hO := hO.cons_nil 3 1; obtain ⟨q19, hq19, H⟩ := bnd H; refine zM (fun F w => ∃ (p18 : (List Int) × (Tb 64)) (Fb : Fr) (G : Gm) (ap18_0 : Option Addr) (np18_0 cp18_0 : Nat) (clap18_0 : List Value), q19 = .inl p18 ∧ F = upds Fb [(2, zp b4), (9, zl ap18_0 np18_0 cp18_0)] ∧ Gle G6 G ∧ Since w0.heap.size G0 w0 G w ∧ Owns G w w0.heap.size [⟨3, 1, np18_0, zl ap18_0 np18_0 cp18_0, clap18_0⟩, ⟨72, 64, 1, zl (some ⟨b11, 0, none⟩) 1 1, cellsT p18.2⟩] ∧ np18_0 = p18.1.length ∧ Rd RInt 1 G clap18_0 p18.1) ?_ ?_
    ·refine WC_block (WC_loop hq19 (fun s17 F w => ∃ (Fb : Fr) (G : Gm) (as17_0 : Option Addr) (ns17_0 cs17_0 : Nat) (clas17_0 : List Value), F = upds Fb [(1, zi x1), (2, zp b4), (7, zp b11), (9, zl as17_0 ns17_0 cs17_0), (28, zl a2 n2 c2), (29, zi (x0.Events.length : Int)), (30, zi s17.2.1)] ∧ Gle G6 G ∧ Since w0.heap.size G0 w0 G w ∧ Owns G w w0.heap.size [⟨3, 1, ns17_0, zl as17_0 ns17_0 cs17_0, clas17_0⟩, ⟨72, 64, 1, zl (some ⟨b11, 0, none⟩) 1 1, cellsT s17.2.2⟩] ∧ ns17_0 = s17.1.length ∧ Rd RInt 1 G clas17_0 s17.1) ?_ ?_)
     ·have hO : Owns _ _ _ ([⟨3, 1, 0, zl none 0 0, []⟩, ⟨72, 64, 1, zl (some ⟨b11, 0, none⟩) 1 1, cellsT y9.1⟩]) := hO
      exact ⟨_, G6, none, 0, 0, [], upds_self _ _ ⟨rfl, rfl, rfl, rfl, rfl, rfl, rfl, trivial⟩, Gle.refl _, hS, hO, rfl, (Rd.nil RInt 1 G6)⟩
     ·rintro s17 F w21 t20 ⟨Fb, G22, as17_0, ns17_0, cs17_0, clas17_0, rfl, leG22, hS, hO, hnhs17_0, hs17_0⟩
      intro H1 hqq19
      have Hoq19 := H; have H := H1
      unfold f20_b0 at H
      refine zS ?_; refine zV (rn_lss rfl rfl) rfl ?_; refine zN ?_; refine zQ ?_; refine zT rfl (fun hb23 => ?_) (fun hb23 => ?_)
      ·have H := ifT hb23 H; refine zP ?_; refine zQ ?_; obtain ⟨q24, hq24, H⟩ := bnd H; refine zM (fun F w => ∃ (p25 : (List Int) × (Tb 64)) (Fb : Fr) (G : Gm) (ap25_0 : Option Addr) (np25_0 cp25_0 : Nat) (clap25_0 : List Value), q24 = .inl p25 ∧ F = upds Fb [(1, zi x1), (2, zp b4), (7, zp b11), (9, zl ap25_0 np25_0 cp25_0), (28, zl a2 n2 c2), (29, zi (x0.Events.length : Int)), (30, zi s17.2.1)] ∧ Gle G22 G ∧ Since w0.heap.size G0 w0 G w ∧ Owns G w w0.heap.size [⟨3, 1, np25_0, zl ap25_0 np25_0 cp25_0, clap25_0⟩, ⟨72, 64, 1, zl (some ⟨b11, 0, none⟩) 1 1, cellsT p25.2⟩] ∧ np25_0 = p25.1.length ∧ Rd RInt 1 G clap25_0 p25.1) ?_ ?_
       ·have Hoq24 := H; have H := hq24; refine WC_block ?_; refine zS ?_; refine zx (zi s17.2.1) rfl rfl ?_; obtain ⟨y26, hy26, H⟩ := bnd H
        have l0_2 := leG6.trans leG22
        refine WL_idx sl23 (h2.mono RTLandEvent_mono l0_2) hy26 rfl rfl rfl ?_
        rintro b27 o27 _ hcb27 _ ⟨⟩
        refine zV (rn_loadA ag57 (cs := [zi y26.Strip, zi y26.Holder]) rfl rfl (fun j v hj => hS.sat.cell (hcb27.drop_take 0 2 j v hj))) rfl ?_
        refine zO rfl (zU (v := fun b => zp b) (cs := [zi 0, zi 0]) (e := 57) (by kernel_rfl) hS.sat hO rfl 2 1 rfl (by decide) (fun b28 w29 hb hO => ?_))
        have hS := hS.keep hb; refine zy (zi s17.2.1) rfl rfl ?_; refine zO rfl (OpP_store (vs := [zi y26.Strip, zi y26.Holder]) sz57 hS hO (k := 0) rfl rfl rfl rfl rfl (one_all rfl) (Nat.le_of_ble_eq_true rfl) (fun w31 hS hO => ?_))
        have hO : Owns _ _ _ ([zb 57 2 b28 [zi y26.Strip, zi y26.Holder], ⟨3, 1, ns17_0, zl as17_0 ns17_0 cs17_0, clas17_0⟩, ⟨72, 64, 1, zl (some ⟨b11, 0, none⟩) 1 1, cellsT s17.2.2⟩]) := hO
        obtain ⟨G32, leG32, hS, hO, hqG32, _⟩ := hO.freeze hS (k := 0) rfl
        have hcG32 : Cells G32 b28 0 [zi y26.Strip, zi y26.Holder] := (hqG32 _ _ _ _ rfl)
        refine zN ?_; refine zQ ?_; refine zS ?_; refine zV (zF fd57_0 rfl) rfl ?_; refine zV (zL na3 rfl (hS.sat.cell (hcG32 0 _ rfl))) rfl ?_; refine zx (zi x1) rfl rfl ?_; refine zV (rn_neq rfl rfl) rfl ?_; refine zN ?_; refine zT rfl (fun hb33 => ?_) (fun hb33 => ?_)
        ·have H := ifT hb33 H; refine WC_exit rfl ?_
         have hO : Owns _ _ _ ([⟨3, 1, ns17_0, zl as17_0 ns17_0 cs17_0, clas17_0⟩, ⟨72, 64, 1, zl (some ⟨b11, 0, none⟩) 1 1, cellsT s17.2.2⟩]) := hO
         have H := oi H; subst H
         exact ⟨_, _, G32, as17_0, ns17_0, cs17_0, clas17_0, rfl, upds_self _ _ ⟨rfl, rfl, rfl, rfl, rfl, rfl, rfl, trivial⟩, leG32, hS, hO, hnhs17_0, (hs17_0.mono RInt_mono leG32)⟩
        ·have H := ifF hb33 H; refine zP ?_; refine zS ?_; refine zx (zl as17_0 ns17_0 cs17_0) rfl rfl ?_; refine zV (rn_len (m := s17.1.length) sl41 rfl rfl hnhs17_0) rfl ?_; refine zy (zi (s17.1.length : Int)) rfl rfl ?_; refine zN ?_; refine zQ ?_; refine zS ?_; refine zx (zl as17_0 ns17_0 cs17_0) rfl rfl ?_; refine zV (rn_len (m := s17.1.length) sl41 rfl rfl hnhs17_0) rfl ?_; refine zx (zi 0) rfl rfl ?_; refine zN ?_; obtain ⟨q36, hq36, H⟩ := bnd H; refine zM (fun F w => ∃ (p35 : Int × (Tb 64)) (Fb : Fr) (G : Gm), q36 = .inl p35 ∧ F = upds Fb [(1, zi x1), (2, zp b4), (7, zp b11), (9, zl as17_0 ns17_0 cs17_0), (10, zi s17.2.1), (12, zi p35.1), (28, zl a2 n2 c2), (29, zi (x0.Events.length : Int)), (30, zi s17.2.1)] ∧ Gle G32 G ∧ Since w0.heap.size G0 w0 G w ∧ Owns G w w0.heap.size [⟨3, 1, ns17_0, zl as17_0 ns17_0 cs17_0, clas17_0⟩, ⟨72, 64, 1, zl (some ⟨b11, 0, none⟩) 1 1, cellsT p35.2⟩]) ?_ ?_
         ·refine WC_block (WC_loop hq36 (fun s34 F w => ∃ (Fb : Fr) (G : Gm), F = upds Fb [(1, zi x1), (2, zp b4), (7, zp b11), (9, zl as17_0 ns17_0 cs17_0), (10, zi s17.2.1), (12, zi s34.1), (28, zl a2 n2 c2), (29, zi (x0.Events.length : Int)), (30, zi s17.2.1), (41, zl as17_0 ns17_0 cs17_0), (42, zi (s17.1.length : Int)), (43, zi s34.2.1)] ∧ Gle G32 G ∧ Since w0.heap.size G0 w0 G w ∧ Owns G w w0.heap.size [⟨3, 1, ns17_0, zl as17_0 ns17_0 cs17_0, clas17_0⟩, ⟨72, 64, 1, zl (some ⟨b11, 0, none⟩) 1 1, cellsT s34.2.2⟩]) ?_ ?_)
          ·have hO : Owns _ _ _ ([⟨3, 1, ns17_0, zl as17_0 ns17_0 cs17_0, clas17_0⟩, ⟨72, 64, 1, zl (some ⟨b11, 0, none⟩) 1 1, cellsT s17.2.2⟩]) := hO
           exact ⟨_, G32, upds_self _ _ ⟨rfl, rfl, rfl, rfl, rfl, rfl, rfl, rfl, rfl, rfl, rfl, rfl, trivial⟩, Gle.refl _, hS, hO⟩
          ·rintro s34 F w38 t37 ⟨Fb, G39, rfl, leG39, hS, hO⟩
           intro H1 hqq36
           have Hoq36 := H; have H := H1
           unfold f20_b1 at H
           refine zS ?_; refine zV (rn_lss rfl rfl) rfl ?_; refine zN ?_; refine zQ ?_; refine zT rfl (fun hb40 => ?_) (fun hb40 => ?_)
           ·have H := ifT hb40 H; refine zP ?_; refine zQ ?_; obtain ⟨q41, hq41, H⟩ := bnd H; refine zM (fun F w => ∃ (p42 : Int) (Fb : Fr) (G : Gm), q41 = .inl p42 ∧ F = upds Fb [(1, zi x1), (2, zp b4), (7, zp b11), (9, zl as17_0 ns17_0 cs17_0), (10, zi s17.2.1), (12, zi p42), (28, zl a2 n2 c2), (29, zi (x0.Events.length : Int)), (30, zi s17.2.1), (41, zl as17_0 ns17_0 cs17_0), (42, zi (s17.1.length : Int)), (43, zi s34.2.1)] ∧ Gle G39 G ∧ Since w0.heap.size G0 w0 G w ∧ Owns G w w0.heap.size [⟨3, 1, ns17_0, zl as17_0 ns17_0 cs17_0, clas17_0⟩, ⟨72, 64, 1, zl (some ⟨b11, 0, none⟩) 1 1, cellsT s34.2.2⟩]) ?_ ?_
            ·have Hoq41 := H; have H := hq41; refine WC_block ?_; refine zS ?_; refine zx (zi s34.2.1) rfl rfl ?_; obtain ⟨y43, hy43, H⟩ := bnd H
             have l2_4 := leG32.trans leG39
             refine WL_idxO sl41 hO (k := 0) rfl hnhs17_0 (hs17_0.mono RInt_mono l2_4) hy43 rfl rfl rfl ?_
             rintro b44 ob44 _ hb44 _ hcb44 ⟨⟩
             refine zV (zL na3 rfl (zH hO (k := 0) rfl hb44 _ 0 (hcb44 0 _ rfl))) rfl ?_; refine zy (zi s34.2.1) rfl rfl ?_; refine zy (zi y43) rfl rfl ?_; refine zN ?_; refine WC_block ?_; refine zS ?_; refine zV (rn_loadT ag72 hO (k := 1) rfl rfl) rfl ?_; refine zx (zi s17.2.1) rfl rfl ?_; refine zx (zi y43) rfl rfl ?_; obtain ⟨y45, hy45, H⟩ := bnd H; refine zO rfl (zC cb36 (f36_ok (x0 := s34.2.2) (x1 := s17.2.1) (x2 := y43) hS.sat  hy45) rfl rfl (fun w46 hb => ?_)); have hS := hS.keep hb; have hO := hO.below hb
             refine zV (v := (zi y45.Low)) (by kernel_rfl) rfl ?_
             refine zV (rn_gtr rfl rfl) rfl ?_; refine zy (.bool (decide (0 < y45.Low))) rfl rfl ?_; refine zN ?_; refine zT rfl (fun hb47 => ?_) (fun hb47 => ?_)
             ·have H := ifT hb47 H; refine zR ?_; refine zx (zi s34.1) rfl rfl ?_; refine zx (zi s34.2.1) rfl rfl ?_; refine zV (rn_min rfl rfl) rfl ?_; refine zy (zi (if s34.2.1 < s34.1 then s34.2.1 else s34.1)) rfl rfl ?_; refine zN ?_
              have hO : Owns _ _ _ ([⟨3, 1, ns17_0, zl as17_0 ns17_0 cs17_0, clas17_0⟩, ⟨72, 64, 1, zl (some ⟨b11, 0, none⟩) 1 1, cellsT s34.2.2⟩]) := hO
              have H := oi H; subst H
              exact ⟨_, _, G39, rfl, upds_self _ _ ⟨rfl, rfl, rfl, rfl, rfl, rfl, rfl, rfl, rfl, rfl, rfl, rfl, trivial⟩, Gle.refl _, hS, hO⟩
             ·have H := ifF hb47 H; refine zS ?_; refine zV (rn_loadT ag72 hO (k := 1) rfl rfl) rfl ?_; refine zx (zi y43) rfl rfl ?_; refine zx (zi s17.2.1) rfl rfl ?_; obtain ⟨y48, hy48, H⟩ := bnd H; refine zO rfl (zC cb36 (f36_ok (x0 := s34.2.2) (x1 := y43) (x2 := s17.2.1) hS.sat  hy48) rfl rfl (fun w49 hb => ?_)); have hS := hS.keep hb; have hO := hO.below hb
              refine zV (v := (zi y48.Low)) (by kernel_rfl) rfl ?_
              refine zV (rn_leq rfl rfl) rfl ?_; refine zy (.bool (decide (y48.Low ≤ 0))) rfl rfl ?_; refine zN ?_; refine zT rfl (fun hb50 => ?_) (fun hb50 => ?_)
              ·have H := ifT hb50 H; refine zS ?_; refine zy (zl none 0 0) rfl rfl ?_; refine zy (zi 0) rfl rfl ?_; refine zy (zi 8) rfl rfl ?_; refine zN ?_; refine WC_ret ?_; have H := oi H; subst H; have H := Hoq41; have H := oi H; subst H
               have hres := hqq36 _ rfl
               subst hres; have H := Hoq36; have H := oi H; subst H; have H := Hoq24; have H := oi H; subst H
               have hres := hqq19 _ rfl
               subst hres; have H := Hoq19
               have H : some ([], 0, 8) = some r := H
               have H := oi H; subst H
               exact ⟨_, _, rfl, hS.toGrow, _, _, _, rfl, (RSl.nil RInt 1 G39 none)⟩
              ·have H := ifF hb50 H; refine zP ?_
               have hO : Owns _ _ _ ([⟨3, 1, ns17_0, zl as17_0 ns17_0 cs17_0, clas17_0⟩, ⟨72, 64, 1, zl (some ⟨b11, 0, none⟩) 1 1, cellsT s34.2.2⟩]) := hO
               have H := oi H; subst H
               exact ⟨_, _, G39, rfl, upds_self _ _ ⟨rfl, rfl, rfl, rfl, rfl, rfl, rfl, rfl, rfl, rfl, rfl, rfl, trivial⟩, Gle.refl _, hS, hO⟩
            ·rintro F w51 ⟨p42, Fb, G52, rfl, rfl, leG52, hS, hO⟩
             refine zR ?_; refine zV (rn_add rfl rfl) rfl ?_; refine zx (zi (IntKind.i64.wrap (s34.2.1 + 1))) rfl rfl ?_; refine zN ?_
             have hO : Owns _ _ _ ([⟨3, 1, ns17_0, zl as17_0 ns17_0 cs17_0, clas17_0⟩, ⟨72, 64, 1, zl (some ⟨b11, 0, none⟩) 1 1, cellsT s34.2.2⟩]) := hO
             have H := oi H; subst H; refine ⟨_, rfl, ?_⟩
             have l3_5 := leG39.trans leG52
             exact ⟨_, G52, upds_self _ _ ⟨rfl, rfl, rfl, rfl, rfl, rfl, rfl, rfl, rfl, rfl, rfl, rfl, trivial⟩, l3_5, hS, hO⟩
           ·have H := ifF hb40 H; refine WC_exit rfl ?_
            have hO : Owns _ _ _ ([⟨3, 1, ns17_0, zl as17_0 ns17_0 cs17_0, clas17_0⟩, ⟨72, 64, 1, zl (some ⟨b11, 0, none⟩) 1 1, cellsT s34.2.2⟩]) := hO
            have H := oi H; subst H
            have hres := hqq36 _ rfl
            subst hres
            exact ⟨_, _, G39, rfl, upds_self _ _ ⟨rfl, rfl, rfl, rfl, rfl, rfl, rfl, rfl, rfl, trivial⟩, leG39, hS, hO⟩
         ·rintro F w54 ⟨p35, Fb, G55, rfl, rfl, leG55, hS, hO⟩
          refine zR ?_; refine zx (zl as17_0 ns17_0 cs17_0) rfl rfl ?_; refine zx (zi p35.1) rfl rfl ?_; refine zx (zi s17.2.1) rfl rfl ?_
          refine zO rfl (zU (v := fun b => zl (some ⟨b, 0, none⟩) 1 1) (cs := [zi s17.2.1]) (e := 3) (by kernel_rfl) hS.sat hO rfl 1 1 rfl (by decide) (fun b56 w57 hb hO => ?_))
          have hS := hS.keep hb
          have hrb56 : Rd RInt 1 G55 [zi s17.2.1] [s17.2.1] := (Rd.cons (c := [zi s17.2.1]) rfl rfl (Rd.nil RInt 1 _))
          have hO := hO.front (k := 0) rfl; have hO := hO.front (k := 1) rfl
          have hO : Owns _ _ _ ([⟨3, 1, ns17_0, zl as17_0 ns17_0 cs17_0, clas17_0⟩, zb 3 1 b56 [zi s17.2.1], ⟨72, 64, 1, zl (some ⟨b11, 0, none⟩) 1 1, cellsT p35.2⟩]) := hO
          obtain ⟨y59, hy59, H⟩ := bnd H
          have l2_4 := leG32.trans leG55
          refine zO rfl (OpP_lent (fi := []) (al := [zl as17_0 ns17_0 cs17_0, zi p35.1, zl (some ⟨b56, 0, none⟩) 1 1]) (ca := []) cb46 (f46_ok (i := p35.1) (x := s17.2.1) hS hO hnhs17_0 (hs17_0.mono RInt_mono l2_4) hy59) rfl rfl rfl (fun vG61 G61 w60 L62 leG61 hS hO hvG61 => ?_)); obtain ⟨aw60, cw60, clw60, rfl, rfl, hrw60⟩ := hvG61
          have hO : Owns _ _ _ ([⟨3, 1, y59.length, zl aw60 y59.length cw60, clw60⟩, zb 3 1 b56 [zi s17.2.1], ⟨72, 64, 1, zl (some ⟨b11, 0, none⟩) 1 1, cellsT p35.2⟩]) := hO
          have hO := hO.drop 1
          have hO : Owns _ _ _ ([⟨3, 1, y59.length, zl aw60 y59.length cw60, clw60⟩, ⟨72, 64, 1, zl (some ⟨b11, 0, none⟩) 1 1, cellsT p35.2⟩]) := hO
          refine zy (zl aw60 y59.length cw60) rfl rfl ?_; refine zN ?_
          have hO : Owns _ _ _ ([⟨3, 1, y59.length, zl aw60 y59.length cw60, clw60⟩, ⟨72, 64, 1, zl (some ⟨b11, 0, none⟩) 1 1, cellsT p35.2⟩]) := hO
          have H := oi H; subst H
          have l2_5 := l2_4.trans leG61
          exact ⟨_, _, G61, aw60, y59.length, cw60, clw60, rfl, upds_self _ _ ⟨rfl, rfl, rfl, rfl, rfl, rfl, rfl, trivial⟩, l2_5, hS, hO, rfl, hrw60⟩
       ·rintro F w64 ⟨p25, Fb, G65, ap25_0, np25_0, cp25_0, clap25_0, rfl, rfl, leG65, hS, hO, hnhp25_0, hp25_0⟩
        refine zR ?_; refine zV (rn_add rfl rfl) rfl ?_; refine zx (zi (IntKind.i64.wrap (s17.2.1 + 1))) rfl rfl ?_; refine zN ?_
        have hO : Owns _ _ _ ([⟨3, 1, np25_0, zl ap25_0 np25_0 cp25_0, clap25_0⟩, ⟨72, 64, 1, zl (some ⟨b11, 0, none⟩) 1 1, cellsT p25.2⟩]) := hO
        have H := oi H; subst H; refine ⟨_, rfl, ?_⟩
        have l1_3 := leG22.trans leG65
        exact ⟨_, G65, ap25_0, np25_0, cp25_0, clap25_0, upds_self _ _ ⟨rfl, rfl, rfl, rfl, rfl, rfl, rfl, trivial⟩, l1_3, hS, hO, hnhp25_0, hp25_0⟩
      ·have H := ifF hb23 H; refine WC_exit rfl ?_
       have hO : Owns _ _ _ ([⟨3, 1, ns17_0, zl as17_0 ns17_0 cs17_0, clas17_0⟩, ⟨72, 64, 1, zl (some ⟨b11, 0, none⟩) 1 1, cellsT s17.2.2⟩]) := hO
       have H := oi H; subst H
       have hres := hqq19 _ rfl
       subst hres
       exact ⟨_, _, G22, as17_0, ns17_0, cs17_0, clas17_0, rfl, upds_self _ _ ⟨rfl, rfl, trivial⟩, leG22, hS, hO, hnhs17_0, hs17_0⟩
    ·rintro F w67 ⟨p18, Fb, G68, ap18_0, np18_0, cp18_0, clap18_0, rfl, rfl, leG68, hS, hO, hnhp18_0, hp18_0⟩
     refine zS ?_; refine zV (rn_loadA ag26 (cs := [zl a1 n1 c1, zl a2 n2 c2, zl a3 n3 c3]) rfl rfl (fun j v hj => (hS.sat.le leG68).cell (hcb4.drop_take 0 3 j v hj))) rfl ?_; refine zO rfl (OpP_in1 (N' := 7) [.agg #[zl a1 n1 c1, zl a2 n2 c2, zl a3 n3 c3]] cb38 Tryz.func38 rfl rfl rfl rfl rfl rfl ?_); refine zS ?_; refine zO rfl (zW (v := fun b => zp b) (cs := [zl a1 n1 c1, zl a2 n2 c2, zl a3 n3 c3]) (e := 26) (rn_boxA rfl) hS.sat rfl (fun b69 G71 w70 hg hcb69 => ?_)); have hS := hS.grow hg; have hO := hO.grow hg
     have leG71 := hg.le
     refine zy (.pointer none) rfl rfl ?_; refine zN ?_; refine zS ?_; refine zV (rn_loadA ag26 (cs := [zl a1 n1 c1, zl a2 n2 c2, zl a3 n3 c3]) rfl rfl (fun j v hj => hS.sat.cell (hcb69.drop_take 0 3 j v hj))) rfl ?_; refine zO rfl (OpP_makeMap (e := 79) hS hO rfl (fun r72 w73 hS hO => ?_))
     have hO : Owns _ _ _ ([⟨79, 2, ([] : (List (Int × Bool))).length, .map (some r72), kvs kvI vvB ([] : (List (Int × Bool)))⟩, ⟨3, 1, np18_0, zl ap18_0 np18_0 cp18_0, clap18_0⟩, ⟨72, 64, 1, zl (some ⟨b11, 0, none⟩) 1 1, cellsT p18.2⟩]) := hO
     refine zV (v := (.agg #[zl a1 n1 c1, zl a2 n2 c2, zl a3 n3 c3, .map (some r72)])) (by kernel_rfl) rfl ?_
     refine zO rfl (zW (v := fun b => zp b) (cs := [zl a1 n1 c1, zl a2 n2 c2, zl a3 n3 c3, .map (some r72)]) (e := 119) (rn_boxA rfl) hS.sat rfl (fun b75 G77 w76 hg hcb75 => ?_)); have hS := hS.grow hg; have hO := hO.grow hg
     have leG77 := hg.le
     refine zy (zp b75) rfl rfl ?_; refine zN ?_; refine WC_ret ?_; refine ⟨(zp b75), rfl, ?_⟩
     have hO : Owns _ _ _ ([⟨79, 2, ([] : (List (Int × Bool))).length, .map (some r72), kvs kvI vvB ([] : (List (Int × Bool)))⟩, ⟨3, 1, np18_0, zl ap18_0 np18_0 cp18_0, clap18_0⟩, ⟨72, 64, 1, zl (some ⟨b11, 0, none⟩) 1 1, cellsT p18.2⟩]) := hO
     refine zy (zp b75) rfl rfl ?_; refine zN ?_; refine zQ ?_; refine zS ?_; refine zy (zi 1) rfl rfl ?_; refine zN ?_; obtain ⟨q80, hq80, H⟩ := bnd H; refine zM (fun F w => ∃ (p79 : (Tb 64) × (List (Int × Bool))) (Fb : Fr) (G : Gm), q80 = .inl p79 ∧ F = upds Fb [(9, zl ap18_0 np18_0 cp18_0)] ∧ Gle G77 G ∧ Since w0.heap.size G0 w0 G w ∧ Owns G w w0.heap.size [⟨79, 2, (p79.2).length, .map (some r72), kvs kvI vvB (p79.2)⟩, ⟨3, 1, np18_0, zl ap18_0 np18_0 cp18_0, clap18_0⟩, ⟨72, 64, 1, zl (some ⟨b11, 0, none⟩) 1 1, cellsT p79.1⟩]) ?_ ?_
     ·refine WC_block (WC_loop hq80 (fun s78 F w => ∃ (Fb : Fr) (G : Gm), F = upds Fb [(2, zp b4), (9, zl ap18_0 np18_0 cp18_0), (15, zp b75), (16, zi s78.1)] ∧ Gle G77 G ∧ Since w0.heap.size G0 w0 G w ∧ Owns G w w0.heap.size [⟨79, 2, (s78.2.2).length, .map (some r72), kvs kvI vvB (s78.2.2)⟩, ⟨3, 1, np18_0, zl ap18_0 np18_0 cp18_0, clap18_0⟩, ⟨72, 64, 1, zl (some ⟨b11, 0, none⟩) 1 1, cellsT s78.2.1⟩]) ?_ ?_)
      ·have hO : Owns _ _ _ ([⟨79, 2, ([] : (List (Int × Bool))).length, .map (some r72), kvs kvI vvB ([] : (List (Int × Bool)))⟩, ⟨3, 1, np18_0, zl ap18_0 np18_0 cp18_0, clap18_0⟩, ⟨72, 64, 1, zl (some ⟨b11, 0, none⟩) 1 1, cellsT p18.2⟩]) := hO
       exact ⟨_, G77, upds_self _ _ ⟨rfl, rfl, rfl, rfl, trivial⟩, Gle.refl _, hS, hO⟩
      ·rintro s78 F w82 t81 ⟨Fb, G83, rfl, leG83, hS, hO⟩
       intro H1 hqq80
       have Hoq80 := H; have H := H1
       unfold f20_b2 at H
       refine zQ ?_; refine zS ?_; refine zx (zi s78.1) rfl rfl ?_; refine zx (zl ap18_0 np18_0 cp18_0) rfl rfl ?_; refine zV (rn_len (m := p18.1.length) sl41 rfl rfl hnhp18_0) rfl ?_; refine zV (rn_lss rfl rfl) rfl ?_; refine zN ?_; refine zT rfl (fun hb84 => ?_) (fun hb84 => ?_)
       ·have H := ifT hb84 H; refine zP ?_; refine zQ ?_; refine WC_block ?_; refine zQ ?_; have hS := hS.keep (below_drew _); have hO := hO.below (below_drew _)
        refine WC_regionD mixedO (fun _ w => Sat G83 w ∧ Owns G83 w w0.heap.size [⟨79, 2, (s78.2.2).length, .map (some r72), kvs kvI vvB (s78.2.2)⟩, ⟨3, 1, np18_0, zl ap18_0 np18_0 cp18_0, clap18_0⟩, ⟨72, 64, 1, zl (some ⟨b11, 0, none⟩) 1 1, cellsT s78.2.1⟩]) (.fl 0 (.fl 1 (.fl 2 (.fl 3 (.fl 4 (.fl 5 (.fl 6 (.fl 7 (.fl 8 (.fl 9 (.fl 10 (.fl 11 (.fl 12 (.on 13 (.on 14 (.on 15 (.on 16 (.on 17 (.on 18 (.on 19 (.on 20 (.on 21 .nil)))))))))))))))))))))) (by kernel_rfl) rfl (by kernel_rfl) (fun _ => ⟨hS.sat, hO⟩) ?_
        refine zD rfl (fun w hw => zm (v := (zp b75)) rfl) rfl ?_; refine zD rfl (fun w hw => zF fd26_1 rfl) rfl ?_; refine zD rfl (fun w hw => zL na23 rfl ((hw.1.le (((leG68.trans leG71).trans leG77).trans leG83)).cell (hcb4 1 _ rfl))) rfl ?_; refine zD rfl (fun w hw => zm (v := (zl ap18_0 np18_0 cp18_0)) rfl) rfl ?_; refine zD rfl (fun w hw => zm (v := (zi s78.1)) rfl) rfl ?_; obtain ⟨y85, hy85, H⟩ := bnd H
        have l2_5 := (leG71.trans leG77).trans leG83
        refine WD_idxO rfl sl41 hO (k := 1) rfl hnhp18_0 (hp18_0.mono RInt_mono l2_5) hy85 rfl rfl rfl ?_
        rintro b86 ob86 _ hb86 _ hcb86 ⟨⟩
        refine zD rfl (fun w hw => zL na3 rfl (zH hw.2 (k := 1) rfl hb86 _ 0 (hcb86 0 _ rfl))) rfl ?_; obtain ⟨y87, hy87, H⟩ := bnd H
        have l0_5 := (leG6.trans leG68).trans l2_5
        refine WD_idx rfl sl23 (h2.mono RTLandEvent_mono l0_5) hy87 rfl rfl rfl ?_
        rintro b88 o88 _ hcb88 _ ⟨⟩
        refine zD rfl (fun w hw => zF fd57_1 rfl) rfl ?_; refine zD rfl (fun w hw => zL na3 rfl (hw.1.cell (hcb88 1 _ rfl))) rfl ?_; refine zD rfl (fun w hw => zF fd26_1 rfl) rfl ?_; refine zD rfl (fun w hw => zL na23 rfl ((hw.1.le (leG68.trans l2_5)).cell (hcb4 1 _ rfl))) rfl ?_; refine zD rfl (fun w hw => zm (v := (zl ap18_0 np18_0 cp18_0)) rfl) rfl ?_; refine zE rfl rfl (OpP_val (zm (v := (zi s78.1)) rfl) rfl ?_); refine ⟨fun _ _ => ⟨hS.sat, hO⟩, ?_⟩; refine zE rfl rfl (OpP_val (rn_sub rfl rfl) rfl ?_); refine ⟨fun _ _ => ⟨hS.sat, hO⟩, ?_⟩; obtain ⟨y89, hy89, H⟩ := bnd H; refine zE rfl rfl (OpP_idxO sl41 hO (k := 1) rfl hnhp18_0 (hp18_0.mono RInt_mono l2_5) hy89 rfl rfl rfl ?_)
        rintro b90 ob90 _ hb90 _ hcb90 ⟨⟩
        refine ⟨fun _ _ => ⟨hS.sat, hO⟩, ?_⟩; refine zE rfl rfl (OpP_val (zL na3 rfl (zH hO (k := 1) rfl hb90 _ 0 (hcb90 0 _ rfl))) rfl ?_); refine ⟨fun _ _ => ⟨hS.sat, hO⟩, ?_⟩; obtain ⟨y91, hy91, H⟩ := bnd H; refine zE rfl rfl (OpP_idx sl23 (h2.mono RTLandEvent_mono l0_5) hy91 rfl rfl rfl ?_)
        rintro b92 o92 _ hcb92 _ ⟨⟩
        refine ⟨fun _ _ => ⟨hS.sat, hO⟩, ?_⟩; refine zE rfl rfl (OpP_val (zF fd57_1 rfl) rfl ?_); refine ⟨fun _ _ => ⟨hS.sat, hO⟩, ?_⟩; refine zE rfl rfl (OpP_val (zL na3 rfl (hS.sat.cell (hcb92 1 _ rfl))) rfl ?_); refine ⟨fun _ _ => ⟨hS.sat, hO⟩, ?_⟩; obtain ⟨y93, hy93, H⟩ := bnd H
        have hx95 := f47_ok (x0 := x0) (x1 := y87.Holder) (x2 := y91.Holder) hS.sat (hcb75.mono leG83) (h1.mono RTLandPerson_mono l0_5) (h2.mono RTLandEvent_mono l0_5) (h3.mono RTLandMemory_mono l0_5) hy93
        refine zE rfl rfl (zC cb47 hx95 rfl rfl (fun w94 hb => ?_)); have hS := hS.keep hb; have hO := hO.below hb
        refine ⟨fun _ h => noneed (by kernel_rfl) h, ?_⟩
        refine zE rfl rfl (OpP_val (rn_not rfl) rfl ?_)
        refine ⟨fun _ h => noneed (by kernel_rfl) h, ?_⟩
        refine zI ?_; refine zT rfl (fun hb96 => ?_) (fun hb96 => ?_)
        ·have H := ifT hb96 H; refine zS ?_; refine zx (zl ap18_0 np18_0 cp18_0) rfl rfl ?_; refine zx (zi s78.1) rfl rfl ?_; refine zy (zl ap18_0 np18_0 cp18_0) rfl rfl ?_; refine zy (zi s78.1) rfl rfl ?_; refine zy (zi 0) rfl rfl ?_; refine zN ?_; refine WC_ret ?_; obtain ⟨G97, leG97, hS, hO, hfG97⟩ := hO.freezeS hS RInt_mono (k := 1) rfl (hp18_0.mono RInt_mono l2_5) hnhp18_0; have H := oi H; subst H
         have hres := hqq80 _ rfl
         subst hres; have H := Hoq80
         have H : some (p18.1, s78.1, 0) = some r := H
         have H := oi H; subst H
         exact ⟨_, _, rfl, hS.toGrow, _, _, _, rfl, hfG97⟩
        ·have H := ifF hb96 H; refine zP ?_; refine zR ?_; refine zx (zi s78.1) rfl rfl ?_; refine zV (rn_add rfl rfl) rfl ?_; refine zy (zi (IntKind.i64.wrap (s78.1 + 1))) rfl rfl ?_; refine zN ?_
         have hO : Owns _ _ _ ([⟨79, 2, (s78.2.2).length, .map (some r72), kvs kvI vvB (s78.2.2)⟩, ⟨3, 1, np18_0, zl ap18_0 np18_0 cp18_0, clap18_0⟩, ⟨72, 64, 1, zl (some ⟨b11, 0, none⟩) 1 1, cellsT s78.2.1⟩]) := hO
         have H := oi H; subst H; refine ⟨_, rfl, ?_⟩
         exact ⟨_, G83, upds_self _ _ ⟨rfl, rfl, rfl, rfl, trivial⟩, leG83, hS, hO⟩
       ·have H := ifF hb84 H; refine WC_exit rfl ?_
        have hO : Owns _ _ _ ([⟨79, 2, (s78.2.2).length, .map (some r72), kvs kvI vvB (s78.2.2)⟩, ⟨3, 1, np18_0, zl ap18_0 np18_0 cp18_0, clap18_0⟩, ⟨72, 64, 1, zl (some ⟨b11, 0, none⟩) 1 1, cellsT s78.2.1⟩]) := hO
        have H := oi H; subst H
        have hres := hqq80 _ rfl
        subst hres
        exact ⟨_, _, G83, rfl, upds_self _ _ ⟨rfl, trivial⟩, leG83, hS, hO⟩
     ·rintro F w98 ⟨p79, Fb, G99, rfl, rfl, leG99, hS, hO⟩
      refine zS ?_; refine zx (zl ap18_0 np18_0 cp18_0) rfl rfl ?_; refine zy (zl ap18_0 np18_0 cp18_0) rfl rfl ?_; refine zy (zi (-1)) rfl rfl ?_; refine zy (zi 0) rfl rfl ?_; refine zN ?_; refine WC_ret ?_
      have l2_5 := (leG71.trans leG77).trans leG99
      obtain ⟨G100, leG100, hS, hO, hfG100⟩ := hO.freezeS hS RInt_mono (k := 1) rfl (hp18_0.mono RInt_mono l2_5) hnhp18_0
      have H : some (p18.1, (-1), 0) = some r := H
      have H := oi H; subst H
      exact ⟨_, _, rfl, hS.toGrow, _, _, _, rfl, hfG100⟩
  ·refine zE rfl rfl (zU (v := fun b => zp b) (cs := (cellsT (Tb.zero 64))) (e := 72) (by kernel_rfl) hS.sat hO rfl 64 1 (cellsT_len _) (by decide) (fun b9 w10 hb hO => ?_))
   have hS := hS.keep hb; refine ⟨fun _ _ => ⟨hS.sat, trivial⟩, ?_⟩; obtain ⟨y12, hy12, H⟩ := bnd H; refine zE rfl rfl (zC cb35 (f35_ok (x0 := x0) (x1 := y7) hS.sat (h1.mono RTLandPerson_mono leG6) (h2.mono RTLandEvent_mono leG6) (h3.mono RTLandMemory_mono leG6) hy12) rfl rfl (fun w13 hb => ?_)); have hS := hS.keep hb; have hO := hO.below hb; refine ⟨fun _ _ => ⟨hS.sat, trivial⟩, ?_⟩; refine zE rfl rfl (OpP_val (zm (v := (.tuple #[.agg (cellsT y12.1).toArray, zi y12.2])) rfl) rfl ?_); refine ⟨fun _ _ => ⟨hS.sat, trivial⟩, ?_⟩; refine zD rfl (fun w hw => zX (v := (.agg (cellsT y12.1).toArray)) rfl rfl) rfl ?_; refine zD rfl (fun w hw => zX (v := (zi y12.2)) rfl rfl) rfl ?_; refine zE rfl rfl (OpP_storeTT sz72 hS hO (k := 0) rfl rfl rfl (fun w14 hS hO => ?_))
   have hO : Owns _ _ _ ([⟨72, 64, 1, zl (some ⟨b9, 0, none⟩) 1 1, cellsT y12.1⟩]) := hO
   refine ⟨fun _ _ => ⟨hS.sat, trivial⟩, ?_⟩; refine zE rfl rfl (OpP_val (zA (v := (zi y12.2)) rfl) rfl ?_)
   refine ⟨fun _ h => noneed (by kernel_rfl) h, ?_⟩
   refine zI ?_; refine zQ ?_; refine zS ?_; refine zx (zi y12.2) rfl rfl ?_; refine zV (rn_neq rfl rfl) rfl ?_; refine zN ?_; refine zT rfl (fun hb15 => ?_) (fun hb15 => ?_)
   ·have H := ifT hb15 H; refine zS ?_; refine zx (zi y12.2) rfl rfl ?_; refine zy (zl none 0 0) rfl rfl ?_; refine zy (zi 0) rfl rfl ?_; refine zy (zi y12.2) rfl rfl ?_; refine zN ?_; refine WC_ret ?_
    have H : some ([], 0, y12.2) = some r := H
    have H := oi H; subst H
    exact ⟨_, _, rfl, hS.toGrow, _, _, _, rfl, (RSl.nil RInt 1 G6 none)⟩
   ·have H := ifF hb15 H; refine zP ?_; refine zS ?_; refine zy (zl none 0 0) rfl rfl ?_; refine zN ?_; refine zQ ?_; refine zS ?_; refine zV (zF fd26_1 rfl) rfl ?_; refine zV (zL na23 rfl (hS.sat.cell (hcb4 1 _ rfl))) rfl ?_; refine zV (rn_len sl23 rfl rfl (h2.mono RTLandEvent_mono leG6).1) rfl ?_; refine zx (zi 0) rfl rfl ?_; refine zN ?_; have hO := hO.cons_nil 3 1; obtain ⟨q19, hq19, H⟩ := bnd H; refine zM (fun F w => ∃ (p18 : (List Int) × (Tb 64)) (Fb : Fr) (G : Gm) (ap18_0 : Option Addr) (np18_0 cp18_0 : Nat) (clap18_0 : List Value), q19 = .inl p18 ∧ F = upds Fb [(2, zp b4), (9, zl ap18_0 np18_0 cp18_0)] ∧ Gle G6 G ∧ Since w0.heap.size G0 w0 G w ∧ Owns G w w0.heap.size [⟨3, 1, np18_0, zl ap18_0 np18_0 cp18_0, clap18_0⟩, ⟨72, 64, 1, zl (some ⟨b9, 0, none⟩) 1 1, cellsT p18.2⟩] ∧ np18_0 = p18.1.length ∧ Rd RInt 1 G clap18_0 p18.1) ?_ ?_
    ·refine WC_block (WC_loop hq19 (fun s17 F w => ∃ (Fb : Fr) (G : Gm) (as17_0 : Option Addr) (ns17_0 cs17_0 : Nat) (clas17_0 : List Value), F = upds Fb [(1, zi x1), (2, zp b4), (7, zp b9), (9, zl as17_0 ns17_0 cs17_0), (28, zl a2 n2 c2), (29, zi (x0.Events.length : Int)), (30, zi s17.2.1)] ∧ Gle G6 G ∧ Since w0.heap.size G0 w0 G w ∧ Owns G w w0.heap.size [⟨3, 1, ns17_0, zl as17_0 ns17_0 cs17_0, clas17_0⟩, ⟨72, 64, 1, zl (some ⟨b9, 0, none⟩) 1 1, cellsT s17.2.2⟩] ∧ ns17_0 = s17.1.length ∧ Rd RInt 1 G clas17_0 s17.1) ?_ ?_)
     ·have hO : Owns _ _ _ ([⟨3, 1, 0, zl none 0 0, []⟩, ⟨72, 64, 1, zl (some ⟨b9, 0, none⟩) 1 1, cellsT y12.1⟩]) := hO
      exact ⟨_, G6, none, 0, 0, [], upds_self _ _ ⟨rfl, rfl, rfl, rfl, rfl, rfl, rfl, trivial⟩, Gle.refl _, hS, hO, rfl, (Rd.nil RInt 1 G6)⟩
     ·rintro s17 F w21 t20 ⟨Fb, G22, as17_0, ns17_0, cs17_0, clas17_0, rfl, leG22, hS, hO, hnhs17_0, hs17_0⟩
      intro H1 hqq19
      have Hoq19 := H; have H := H1
      unfold f20_b0 at H
      refine zS ?_; refine zV (rn_lss rfl rfl) rfl ?_; refine zN ?_; refine zQ ?_; refine zT rfl (fun hb23 => ?_) (fun hb23 => ?_)
      ·have H := ifT hb23 H; refine zP ?_; refine zQ ?_; obtain ⟨q24, hq24, H⟩ := bnd H; refine zM (fun F w => ∃ (p25 : (List Int) × (Tb 64)) (Fb : Fr) (G : Gm) (ap25_0 : Option Addr) (np25_0 cp25_0 : Nat) (clap25_0 : List Value), q24 = .inl p25 ∧ F = upds Fb [(1, zi x1), (2, zp b4), (7, zp b9), (9, zl ap25_0 np25_0 cp25_0), (28, zl a2 n2 c2), (29, zi (x0.Events.length : Int)), (30, zi s17.2.1)] ∧ Gle G22 G ∧ Since w0.heap.size G0 w0 G w ∧ Owns G w w0.heap.size [⟨3, 1, np25_0, zl ap25_0 np25_0 cp25_0, clap25_0⟩, ⟨72, 64, 1, zl (some ⟨b9, 0, none⟩) 1 1, cellsT p25.2⟩] ∧ np25_0 = p25.1.length ∧ Rd RInt 1 G clap25_0 p25.1) ?_ ?_
       ·have Hoq24 := H; have H := hq24; refine WC_block ?_; refine zS ?_; refine zx (zi s17.2.1) rfl rfl ?_; obtain ⟨y26, hy26, H⟩ := bnd H
        have l0_2 := leG6.trans leG22
        refine WL_idx sl23 (h2.mono RTLandEvent_mono l0_2) hy26 rfl rfl rfl ?_
        rintro b27 o27 _ hcb27 _ ⟨⟩
        refine zV (rn_loadA ag57 (cs := [zi y26.Strip, zi y26.Holder]) rfl rfl (fun j v hj => hS.sat.cell (hcb27.drop_take 0 2 j v hj))) rfl ?_
        refine zO rfl (zU (v := fun b => zp b) (cs := [zi 0, zi 0]) (e := 57) (by kernel_rfl) hS.sat hO rfl 2 1 rfl (by decide) (fun b28 w29 hb hO => ?_))
        have hS := hS.keep hb; refine zy (zi s17.2.1) rfl rfl ?_; refine zO rfl (OpP_store (vs := [zi y26.Strip, zi y26.Holder]) sz57 hS hO (k := 0) rfl rfl rfl rfl rfl (one_all rfl) (Nat.le_of_ble_eq_true rfl) (fun w31 hS hO => ?_))
        have hO : Owns _ _ _ ([zb 57 2 b28 [zi y26.Strip, zi y26.Holder], ⟨3, 1, ns17_0, zl as17_0 ns17_0 cs17_0, clas17_0⟩, ⟨72, 64, 1, zl (some ⟨b9, 0, none⟩) 1 1, cellsT s17.2.2⟩]) := hO
        obtain ⟨G32, leG32, hS, hO, hqG32, _⟩ := hO.freeze hS (k := 0) rfl
        have hcG32 : Cells G32 b28 0 [zi y26.Strip, zi y26.Holder] := (hqG32 _ _ _ _ rfl)
        refine zN ?_; refine zQ ?_; refine zS ?_; refine zV (zF fd57_0 rfl) rfl ?_; refine zV (zL na3 rfl (hS.sat.cell (hcG32 0 _ rfl))) rfl ?_; refine zx (zi x1) rfl rfl ?_; refine zV (rn_neq rfl rfl) rfl ?_; refine zN ?_; refine zT rfl (fun hb33 => ?_) (fun hb33 => ?_)
        ·have H := ifT hb33 H; refine WC_exit rfl ?_
         have hO : Owns _ _ _ ([⟨3, 1, ns17_0, zl as17_0 ns17_0 cs17_0, clas17_0⟩, ⟨72, 64, 1, zl (some ⟨b9, 0, none⟩) 1 1, cellsT s17.2.2⟩]) := hO
         have H := oi H; subst H
         exact ⟨_, _, G32, as17_0, ns17_0, cs17_0, clas17_0, rfl, upds_self _ _ ⟨rfl, rfl, rfl, rfl, rfl, rfl, rfl, trivial⟩, leG32, hS, hO, hnhs17_0, (hs17_0.mono RInt_mono leG32)⟩
        ·have H := ifF hb33 H; refine zP ?_; refine zS ?_; refine zx (zl as17_0 ns17_0 cs17_0) rfl rfl ?_; refine zV (rn_len (m := s17.1.length) sl41 rfl rfl hnhs17_0) rfl ?_; refine zy (zi (s17.1.length : Int)) rfl rfl ?_; refine zN ?_; refine zQ ?_; refine zS ?_; refine zx (zl as17_0 ns17_0 cs17_0) rfl rfl ?_; refine zV (rn_len (m := s17.1.length) sl41 rfl rfl hnhs17_0) rfl ?_; refine zx (zi 0) rfl rfl ?_; refine zN ?_; obtain ⟨q36, hq36, H⟩ := bnd H; refine zM (fun F w => ∃ (p35 : Int × (Tb 64)) (Fb : Fr) (G : Gm), q36 = .inl p35 ∧ F = upds Fb [(1, zi x1), (2, zp b4), (7, zp b9), (9, zl as17_0 ns17_0 cs17_0), (10, zi s17.2.1), (12, zi p35.1), (28, zl a2 n2 c2), (29, zi (x0.Events.length : Int)), (30, zi s17.2.1)] ∧ Gle G32 G ∧ Since w0.heap.size G0 w0 G w ∧ Owns G w w0.heap.size [⟨3, 1, ns17_0, zl as17_0 ns17_0 cs17_0, clas17_0⟩, ⟨72, 64, 1, zl (some ⟨b9, 0, none⟩) 1 1, cellsT p35.2⟩]) ?_ ?_
         ·refine WC_block (WC_loop hq36 (fun s34 F w => ∃ (Fb : Fr) (G : Gm), F = upds Fb [(1, zi x1), (2, zp b4), (7, zp b9), (9, zl as17_0 ns17_0 cs17_0), (10, zi s17.2.1), (12, zi s34.1), (28, zl a2 n2 c2), (29, zi (x0.Events.length : Int)), (30, zi s17.2.1), (41, zl as17_0 ns17_0 cs17_0), (42, zi (s17.1.length : Int)), (43, zi s34.2.1)] ∧ Gle G32 G ∧ Since w0.heap.size G0 w0 G w ∧ Owns G w w0.heap.size [⟨3, 1, ns17_0, zl as17_0 ns17_0 cs17_0, clas17_0⟩, ⟨72, 64, 1, zl (some ⟨b9, 0, none⟩) 1 1, cellsT s34.2.2⟩]) ?_ ?_)
          ·have hO : Owns _ _ _ ([⟨3, 1, ns17_0, zl as17_0 ns17_0 cs17_0, clas17_0⟩, ⟨72, 64, 1, zl (some ⟨b9, 0, none⟩) 1 1, cellsT s17.2.2⟩]) := hO
           exact ⟨_, G32, upds_self _ _ ⟨rfl, rfl, rfl, rfl, rfl, rfl, rfl, rfl, rfl, rfl, rfl, rfl, trivial⟩, Gle.refl _, hS, hO⟩
          ·rintro s34 F w38 t37 ⟨Fb, G39, rfl, leG39, hS, hO⟩
           intro H1 hqq36
           have Hoq36 := H; have H := H1
           unfold f20_b1 at H
           refine zS ?_; refine zV (rn_lss rfl rfl) rfl ?_; refine zN ?_; refine zQ ?_; refine zT rfl (fun hb40 => ?_) (fun hb40 => ?_)
           ·have H := ifT hb40 H; refine zP ?_; refine zQ ?_; obtain ⟨q41, hq41, H⟩ := bnd H; refine zM (fun F w => ∃ (p42 : Int) (Fb : Fr) (G : Gm), q41 = .inl p42 ∧ F = upds Fb [(1, zi x1), (2, zp b4), (7, zp b9), (9, zl as17_0 ns17_0 cs17_0), (10, zi s17.2.1), (12, zi p42), (28, zl a2 n2 c2), (29, zi (x0.Events.length : Int)), (30, zi s17.2.1), (41, zl as17_0 ns17_0 cs17_0), (42, zi (s17.1.length : Int)), (43, zi s34.2.1)] ∧ Gle G39 G ∧ Since w0.heap.size G0 w0 G w ∧ Owns G w w0.heap.size [⟨3, 1, ns17_0, zl as17_0 ns17_0 cs17_0, clas17_0⟩, ⟨72, 64, 1, zl (some ⟨b9, 0, none⟩) 1 1, cellsT s34.2.2⟩]) ?_ ?_
            ·have Hoq41 := H; have H := hq41; refine WC_block ?_; refine zS ?_; refine zx (zi s34.2.1) rfl rfl ?_; obtain ⟨y43, hy43, H⟩ := bnd H
             have l2_4 := leG32.trans leG39
             refine WL_idxO sl41 hO (k := 0) rfl hnhs17_0 (hs17_0.mono RInt_mono l2_4) hy43 rfl rfl rfl ?_
             rintro b44 ob44 _ hb44 _ hcb44 ⟨⟩
             refine zV (zL na3 rfl (zH hO (k := 0) rfl hb44 _ 0 (hcb44 0 _ rfl))) rfl ?_; refine zy (zi s34.2.1) rfl rfl ?_; refine zy (zi y43) rfl rfl ?_; refine zN ?_; refine WC_block ?_; refine zS ?_; refine zV (rn_loadT ag72 hO (k := 1) rfl rfl) rfl ?_; refine zx (zi s17.2.1) rfl rfl ?_; refine zx (zi y43) rfl rfl ?_; obtain ⟨y45, hy45, H⟩ := bnd H; refine zO rfl (zC cb36 (f36_ok (x0 := s34.2.2) (x1 := s17.2.1) (x2 := y43) hS.sat  hy45) rfl rfl (fun w46 hb => ?_)); have hS := hS.keep hb; have hO := hO.below hb
             refine zV (v := (zi y45.Low)) (by kernel_rfl) rfl ?_
             refine zV (rn_gtr rfl rfl) rfl ?_; refine zy (.bool (decide (0 < y45.Low))) rfl rfl ?_; refine zN ?_; refine zT rfl (fun hb47 => ?_) (fun hb47 => ?_)
             ·have H := ifT hb47 H; refine zR ?_; refine zx (zi s34.1) rfl rfl ?_; refine zx (zi s34.2.1) rfl rfl ?_; refine zV (rn_min rfl rfl) rfl ?_; refine zy (zi (if s34.2.1 < s34.1 then s34.2.1 else s34.1)) rfl rfl ?_; refine zN ?_
              have hO : Owns _ _ _ ([⟨3, 1, ns17_0, zl as17_0 ns17_0 cs17_0, clas17_0⟩, ⟨72, 64, 1, zl (some ⟨b9, 0, none⟩) 1 1, cellsT s34.2.2⟩]) := hO
              have H := oi H; subst H
              exact ⟨_, _, G39, rfl, upds_self _ _ ⟨rfl, rfl, rfl, rfl, rfl, rfl, rfl, rfl, rfl, rfl, rfl, rfl, trivial⟩, Gle.refl _, hS, hO⟩
             ·have H := ifF hb47 H; refine zS ?_; refine zV (rn_loadT ag72 hO (k := 1) rfl rfl) rfl ?_; refine zx (zi y43) rfl rfl ?_; refine zx (zi s17.2.1) rfl rfl ?_; obtain ⟨y48, hy48, H⟩ := bnd H; refine zO rfl (zC cb36 (f36_ok (x0 := s34.2.2) (x1 := y43) (x2 := s17.2.1) hS.sat  hy48) rfl rfl (fun w49 hb => ?_)); have hS := hS.keep hb; have hO := hO.below hb
              refine zV (v := (zi y48.Low)) (by kernel_rfl) rfl ?_
              refine zV (rn_leq rfl rfl) rfl ?_; refine zy (.bool (decide (y48.Low ≤ 0))) rfl rfl ?_; refine zN ?_; refine zT rfl (fun hb50 => ?_) (fun hb50 => ?_)
              ·have H := ifT hb50 H; refine zS ?_; refine zy (zl none 0 0) rfl rfl ?_; refine zy (zi 0) rfl rfl ?_; refine zy (zi 8) rfl rfl ?_; refine zN ?_; refine WC_ret ?_; have H := oi H; subst H; have H := Hoq41; have H := oi H; subst H
               have hres := hqq36 _ rfl
               subst hres; have H := Hoq36; have H := oi H; subst H; have H := Hoq24; have H := oi H; subst H
               have hres := hqq19 _ rfl
               subst hres; have H := Hoq19
               have H : some ([], 0, 8) = some r := H
               have H := oi H; subst H
               exact ⟨_, _, rfl, hS.toGrow, _, _, _, rfl, (RSl.nil RInt 1 G39 none)⟩
              ·have H := ifF hb50 H; refine zP ?_
               have hO : Owns _ _ _ ([⟨3, 1, ns17_0, zl as17_0 ns17_0 cs17_0, clas17_0⟩, ⟨72, 64, 1, zl (some ⟨b9, 0, none⟩) 1 1, cellsT s34.2.2⟩]) := hO
               have H := oi H; subst H
               exact ⟨_, _, G39, rfl, upds_self _ _ ⟨rfl, rfl, rfl, rfl, rfl, rfl, rfl, rfl, rfl, rfl, rfl, rfl, trivial⟩, Gle.refl _, hS, hO⟩
            ·rintro F w51 ⟨p42, Fb, G52, rfl, rfl, leG52, hS, hO⟩
             refine zR ?_; refine zV (rn_add rfl rfl) rfl ?_; refine zx (zi (IntKind.i64.wrap (s34.2.1 + 1))) rfl rfl ?_; refine zN ?_
             have hO : Owns _ _ _ ([⟨3, 1, ns17_0, zl as17_0 ns17_0 cs17_0, clas17_0⟩, ⟨72, 64, 1, zl (some ⟨b9, 0, none⟩) 1 1, cellsT s34.2.2⟩]) := hO
             have H := oi H; subst H; refine ⟨_, rfl, ?_⟩
             have l3_5 := leG39.trans leG52
             exact ⟨_, G52, upds_self _ _ ⟨rfl, rfl, rfl, rfl, rfl, rfl, rfl, rfl, rfl, rfl, rfl, rfl, trivial⟩, l3_5, hS, hO⟩
           ·have H := ifF hb40 H; refine WC_exit rfl ?_
            have hO : Owns _ _ _ ([⟨3, 1, ns17_0, zl as17_0 ns17_0 cs17_0, clas17_0⟩, ⟨72, 64, 1, zl (some ⟨b9, 0, none⟩) 1 1, cellsT s34.2.2⟩]) := hO
            have H := oi H; subst H
            have hres := hqq36 _ rfl
            subst hres
            exact ⟨_, _, G39, rfl, upds_self _ _ ⟨rfl, rfl, rfl, rfl, rfl, rfl, rfl, rfl, rfl, trivial⟩, leG39, hS, hO⟩
         ·rintro F w54 ⟨p35, Fb, G55, rfl, rfl, leG55, hS, hO⟩
          refine zR ?_; refine zx (zl as17_0 ns17_0 cs17_0) rfl rfl ?_; refine zx (zi p35.1) rfl rfl ?_; refine zx (zi s17.2.1) rfl rfl ?_
          refine zO rfl (zU (v := fun b => zl (some ⟨b, 0, none⟩) 1 1) (cs := [zi s17.2.1]) (e := 3) (by kernel_rfl) hS.sat hO rfl 1 1 rfl (by decide) (fun b56 w57 hb hO => ?_))
          have hS := hS.keep hb
          have hrb56 : Rd RInt 1 G55 [zi s17.2.1] [s17.2.1] := (Rd.cons (c := [zi s17.2.1]) rfl rfl (Rd.nil RInt 1 _))
          have hO := hO.front (k := 0) rfl; have hO := hO.front (k := 1) rfl
          have hO : Owns _ _ _ ([⟨3, 1, ns17_0, zl as17_0 ns17_0 cs17_0, clas17_0⟩, zb 3 1 b56 [zi s17.2.1], ⟨72, 64, 1, zl (some ⟨b9, 0, none⟩) 1 1, cellsT p35.2⟩]) := hO
          obtain ⟨y59, hy59, H⟩ := bnd H
          have l2_4 := leG32.trans leG55
          refine zO rfl (OpP_lent (fi := []) (al := [zl as17_0 ns17_0 cs17_0, zi p35.1, zl (some ⟨b56, 0, none⟩) 1 1]) (ca := []) cb46 (f46_ok (i := p35.1) (x := s17.2.1) hS hO hnhs17_0 (hs17_0.mono RInt_mono l2_4) hy59) rfl rfl rfl (fun vG61 G61 w60 L62 leG61 hS hO hvG61 => ?_)); obtain ⟨aw60, cw60, clw60, rfl, rfl, hrw60⟩ := hvG61
          have hO : Owns _ _ _ ([⟨3, 1, y59.length, zl aw60 y59.length cw60, clw60⟩, zb 3 1 b56 [zi s17.2.1], ⟨72, 64, 1, zl (some ⟨b9, 0, none⟩) 1 1, cellsT p35.2⟩]) := hO
          have hO := hO.drop 1
          have hO : Owns _ _ _ ([⟨3, 1, y59.length, zl aw60 y59.length cw60, clw60⟩, ⟨72, 64, 1, zl (some ⟨b9, 0, none⟩) 1 1, cellsT p35.2⟩]) := hO
          refine zy (zl aw60 y59.length cw60) rfl rfl ?_; refine zN ?_
          have hO : Owns _ _ _ ([⟨3, 1, y59.length, zl aw60 y59.length cw60, clw60⟩, ⟨72, 64, 1, zl (some ⟨b9, 0, none⟩) 1 1, cellsT p35.2⟩]) := hO
          have H := oi H; subst H
          have l2_5 := l2_4.trans leG61
          exact ⟨_, _, G61, aw60, y59.length, cw60, clw60, rfl, upds_self _ _ ⟨rfl, rfl, rfl, rfl, rfl, rfl, rfl, trivial⟩, l2_5, hS, hO, rfl, hrw60⟩
       ·rintro F w64 ⟨p25, Fb, G65, ap25_0, np25_0, cp25_0, clap25_0, rfl, rfl, leG65, hS, hO, hnhp25_0, hp25_0⟩
        refine zR ?_; refine zV (rn_add rfl rfl) rfl ?_; refine zx (zi (IntKind.i64.wrap (s17.2.1 + 1))) rfl rfl ?_; refine zN ?_
        have hO : Owns _ _ _ ([⟨3, 1, np25_0, zl ap25_0 np25_0 cp25_0, clap25_0⟩, ⟨72, 64, 1, zl (some ⟨b9, 0, none⟩) 1 1, cellsT p25.2⟩]) := hO
        have H := oi H; subst H; refine ⟨_, rfl, ?_⟩
        have l1_3 := leG22.trans leG65
        exact ⟨_, G65, ap25_0, np25_0, cp25_0, clap25_0, upds_self _ _ ⟨rfl, rfl, rfl, rfl, rfl, rfl, rfl, trivial⟩, l1_3, hS, hO, hnhp25_0, hp25_0⟩
      ·have H := ifF hb23 H; refine WC_exit rfl ?_
       have hO : Owns _ _ _ ([⟨3, 1, ns17_0, zl as17_0 ns17_0 cs17_0, clas17_0⟩, ⟨72, 64, 1, zl (some ⟨b9, 0, none⟩) 1 1, cellsT s17.2.2⟩]) := hO
       have H := oi H; subst H
       have hres := hqq19 _ rfl
       subst hres
       exact ⟨_, _, G22, as17_0, ns17_0, cs17_0, clas17_0, rfl, upds_self _ _ ⟨rfl, rfl, trivial⟩, leG22, hS, hO, hnhs17_0, hs17_0⟩
    ·rintro F w67 ⟨p18, Fb, G68, ap18_0, np18_0, cp18_0, clap18_0, rfl, rfl, leG68, hS, hO, hnhp18_0, hp18_0⟩
     refine zS ?_; refine zV (rn_loadA ag26 (cs := [zl a1 n1 c1, zl a2 n2 c2, zl a3 n3 c3]) rfl rfl (fun j v hj => (hS.sat.le leG68).cell (hcb4.drop_take 0 3 j v hj))) rfl ?_; refine zO rfl (OpP_in1 (N' := 7) [.agg #[zl a1 n1 c1, zl a2 n2 c2, zl a3 n3 c3]] cb38 Tryz.func38 rfl rfl rfl rfl rfl rfl ?_); refine zS ?_; refine zO rfl (zW (v := fun b => zp b) (cs := [zl a1 n1 c1, zl a2 n2 c2, zl a3 n3 c3]) (e := 26) (rn_boxA rfl) hS.sat rfl (fun b69 G71 w70 hg hcb69 => ?_)); have hS := hS.grow hg; have hO := hO.grow hg
     have leG71 := hg.le
     refine zy (.pointer none) rfl rfl ?_; refine zN ?_; refine zS ?_; refine zV (rn_loadA ag26 (cs := [zl a1 n1 c1, zl a2 n2 c2, zl a3 n3 c3]) rfl rfl (fun j v hj => hS.sat.cell (hcb69.drop_take 0 3 j v hj))) rfl ?_; refine zO rfl (OpP_makeMap (e := 79) hS hO rfl (fun r72 w73 hS hO => ?_))
     have hO : Owns _ _ _ ([⟨79, 2, ([] : (List (Int × Bool))).length, .map (some r72), kvs kvI vvB ([] : (List (Int × Bool)))⟩, ⟨3, 1, np18_0, zl ap18_0 np18_0 cp18_0, clap18_0⟩, ⟨72, 64, 1, zl (some ⟨b9, 0, none⟩) 1 1, cellsT p18.2⟩]) := hO
     refine zV (v := (.agg #[zl a1 n1 c1, zl a2 n2 c2, zl a3 n3 c3, .map (some r72)])) (by kernel_rfl) rfl ?_
     refine zO rfl (zW (v := fun b => zp b) (cs := [zl a1 n1 c1, zl a2 n2 c2, zl a3 n3 c3, .map (some r72)]) (e := 119) (rn_boxA rfl) hS.sat rfl (fun b75 G77 w76 hg hcb75 => ?_)); have hS := hS.grow hg; have hO := hO.grow hg
     have leG77 := hg.le
     refine zy (zp b75) rfl rfl ?_; refine zN ?_; refine WC_ret ?_; refine ⟨(zp b75), rfl, ?_⟩
     have hO : Owns _ _ _ ([⟨79, 2, ([] : (List (Int × Bool))).length, .map (some r72), kvs kvI vvB ([] : (List (Int × Bool)))⟩, ⟨3, 1, np18_0, zl ap18_0 np18_0 cp18_0, clap18_0⟩, ⟨72, 64, 1, zl (some ⟨b9, 0, none⟩) 1 1, cellsT p18.2⟩]) := hO
     refine zy (zp b75) rfl rfl ?_; refine zN ?_; refine zQ ?_; refine zS ?_; refine zy (zi 1) rfl rfl ?_; refine zN ?_; obtain ⟨q80, hq80, H⟩ := bnd H; refine zM (fun F w => ∃ (p79 : (Tb 64) × (List (Int × Bool))) (Fb : Fr) (G : Gm), q80 = .inl p79 ∧ F = upds Fb [(9, zl ap18_0 np18_0 cp18_0)] ∧ Gle G77 G ∧ Since w0.heap.size G0 w0 G w ∧ Owns G w w0.heap.size [⟨79, 2, (p79.2).length, .map (some r72), kvs kvI vvB (p79.2)⟩, ⟨3, 1, np18_0, zl ap18_0 np18_0 cp18_0, clap18_0⟩, ⟨72, 64, 1, zl (some ⟨b9, 0, none⟩) 1 1, cellsT p79.1⟩]) ?_ ?_
     ·refine WC_block (WC_loop hq80 (fun s78 F w => ∃ (Fb : Fr) (G : Gm), F = upds Fb [(2, zp b4), (9, zl ap18_0 np18_0 cp18_0), (15, zp b75), (16, zi s78.1)] ∧ Gle G77 G ∧ Since w0.heap.size G0 w0 G w ∧ Owns G w w0.heap.size [⟨79, 2, (s78.2.2).length, .map (some r72), kvs kvI vvB (s78.2.2)⟩, ⟨3, 1, np18_0, zl ap18_0 np18_0 cp18_0, clap18_0⟩, ⟨72, 64, 1, zl (some ⟨b9, 0, none⟩) 1 1, cellsT s78.2.1⟩]) ?_ ?_)
      ·have hO : Owns _ _ _ ([⟨79, 2, ([] : (List (Int × Bool))).length, .map (some r72), kvs kvI vvB ([] : (List (Int × Bool)))⟩, ⟨3, 1, np18_0, zl ap18_0 np18_0 cp18_0, clap18_0⟩, ⟨72, 64, 1, zl (some ⟨b9, 0, none⟩) 1 1, cellsT p18.2⟩]) := hO
       exact ⟨_, G77, upds_self _ _ ⟨rfl, rfl, rfl, rfl, trivial⟩, Gle.refl _, hS, hO⟩
      ·rintro s78 F w82 t81 ⟨Fb, G83, rfl, leG83, hS, hO⟩
       intro H1 hqq80
       have Hoq80 := H; have H := H1
       unfold f20_b2 at H
       refine zQ ?_; refine zS ?_; refine zx (zi s78.1) rfl rfl ?_; refine zx (zl ap18_0 np18_0 cp18_0) rfl rfl ?_; refine zV (rn_len (m := p18.1.length) sl41 rfl rfl hnhp18_0) rfl ?_; refine zV (rn_lss rfl rfl) rfl ?_; refine zN ?_; refine zT rfl (fun hb84 => ?_) (fun hb84 => ?_)
       ·have H := ifT hb84 H; refine zP ?_; refine zQ ?_; refine WC_block ?_; refine zQ ?_; have hS := hS.keep (below_drew _); have hO := hO.below (below_drew _)
        refine WC_regionD mixedO (fun _ w => Sat G83 w ∧ Owns G83 w w0.heap.size [⟨79, 2, (s78.2.2).length, .map (some r72), kvs kvI vvB (s78.2.2)⟩, ⟨3, 1, np18_0, zl ap18_0 np18_0 cp18_0, clap18_0⟩, ⟨72, 64, 1, zl (some ⟨b9, 0, none⟩) 1 1, cellsT s78.2.1⟩]) (.fl 0 (.fl 1 (.fl 2 (.fl 3 (.fl 4 (.fl 5 (.fl 6 (.fl 7 (.fl 8 (.fl 9 (.fl 10 (.fl 11 (.fl 12 (.on 13 (.on 14 (.on 15 (.on 16 (.on 17 (.on 18 (.on 19 (.on 20 (.on 21 .nil)))))))))))))))))))))) (by kernel_rfl) rfl (by kernel_rfl) (fun _ => ⟨hS.sat, hO⟩) ?_
        refine zD rfl (fun w hw => zm (v := (zp b75)) rfl) rfl ?_; refine zD rfl (fun w hw => zF fd26_1 rfl) rfl ?_; refine zD rfl (fun w hw => zL na23 rfl ((hw.1.le (((leG68.trans leG71).trans leG77).trans leG83)).cell (hcb4 1 _ rfl))) rfl ?_; refine zD rfl (fun w hw => zm (v := (zl ap18_0 np18_0 cp18_0)) rfl) rfl ?_; refine zD rfl (fun w hw => zm (v := (zi s78.1)) rfl) rfl ?_; obtain ⟨y85, hy85, H⟩ := bnd H
        have l2_5 := (leG71.trans leG77).trans leG83
        refine WD_idxO rfl sl41 hO (k := 1) rfl hnhp18_0 (hp18_0.mono RInt_mono l2_5) hy85 rfl rfl rfl ?_
        rintro b86 ob86 _ hb86 _ hcb86 ⟨⟩
        refine zD rfl (fun w hw => zL na3 rfl (zH hw.2 (k := 1) rfl hb86 _ 0 (hcb86 0 _ rfl))) rfl ?_; obtain ⟨y87, hy87, H⟩ := bnd H
        have l0_5 := (leG6.trans leG68).trans l2_5
        refine WD_idx rfl sl23 (h2.mono RTLandEvent_mono l0_5) hy87 rfl rfl rfl ?_
        rintro b88 o88 _ hcb88 _ ⟨⟩
        refine zD rfl (fun w hw => zF fd57_1 rfl) rfl ?_; refine zD rfl (fun w hw => zL na3 rfl (hw.1.cell (hcb88 1 _ rfl))) rfl ?_; refine zD rfl (fun w hw => zF fd26_1 rfl) rfl ?_; refine zD rfl (fun w hw => zL na23 rfl ((hw.1.le (leG68.trans l2_5)).cell (hcb4 1 _ rfl))) rfl ?_; refine zD rfl (fun w hw => zm (v := (zl ap18_0 np18_0 cp18_0)) rfl) rfl ?_; refine zE rfl rfl (OpP_val (zm (v := (zi s78.1)) rfl) rfl ?_); refine ⟨fun _ _ => ⟨hS.sat, hO⟩, ?_⟩; refine zE rfl rfl (OpP_val (rn_sub rfl rfl) rfl ?_); refine ⟨fun _ _ => ⟨hS.sat, hO⟩, ?_⟩; obtain ⟨y89, hy89, H⟩ := bnd H; refine zE rfl rfl (OpP_idxO sl41 hO (k := 1) rfl hnhp18_0 (hp18_0.mono RInt_mono l2_5) hy89 rfl rfl rfl ?_)
        rintro b90 ob90 _ hb90 _ hcb90 ⟨⟩
        refine ⟨fun _ _ => ⟨hS.sat, hO⟩, ?_⟩; refine zE rfl rfl (OpP_val (zL na3 rfl (zH hO (k := 1) rfl hb90 _ 0 (hcb90 0 _ rfl))) rfl ?_); refine ⟨fun _ _ => ⟨hS.sat, hO⟩, ?_⟩; obtain ⟨y91, hy91, H⟩ := bnd H; refine zE rfl rfl (OpP_idx sl23 (h2.mono RTLandEvent_mono l0_5) hy91 rfl rfl rfl ?_)
        rintro b92 o92 _ hcb92 _ ⟨⟩
        refine ⟨fun _ _ => ⟨hS.sat, hO⟩, ?_⟩; refine zE rfl rfl (OpP_val (zF fd57_1 rfl) rfl ?_); refine ⟨fun _ _ => ⟨hS.sat, hO⟩, ?_⟩; refine zE rfl rfl (OpP_val (zL na3 rfl (hS.sat.cell (hcb92 1 _ rfl))) rfl ?_); refine ⟨fun _ _ => ⟨hS.sat, hO⟩, ?_⟩; obtain ⟨y93, hy93, H⟩ := bnd H
        have hx95 := f47_ok (x0 := x0) (x1 := y87.Holder) (x2 := y91.Holder) hS.sat (hcb75.mono leG83) (h1.mono RTLandPerson_mono l0_5) (h2.mono RTLandEvent_mono l0_5) (h3.mono RTLandMemory_mono l0_5) hy93
        refine zE rfl rfl (zC cb47 hx95 rfl rfl (fun w94 hb => ?_)); have hS := hS.keep hb; have hO := hO.below hb
        refine ⟨fun _ h => noneed (by kernel_rfl) h, ?_⟩
        refine zE rfl rfl (OpP_val (rn_not rfl) rfl ?_)
        refine ⟨fun _ h => noneed (by kernel_rfl) h, ?_⟩
        refine zI ?_; refine zT rfl (fun hb96 => ?_) (fun hb96 => ?_)
        ·have H := ifT hb96 H; refine zS ?_; refine zx (zl ap18_0 np18_0 cp18_0) rfl rfl ?_; refine zx (zi s78.1) rfl rfl ?_; refine zy (zl ap18_0 np18_0 cp18_0) rfl rfl ?_; refine zy (zi s78.1) rfl rfl ?_; refine zy (zi 0) rfl rfl ?_; refine zN ?_; refine WC_ret ?_; obtain ⟨G97, leG97, hS, hO, hfG97⟩ := hO.freezeS hS RInt_mono (k := 1) rfl (hp18_0.mono RInt_mono l2_5) hnhp18_0; have H := oi H; subst H
         have hres := hqq80 _ rfl
         subst hres; have H := Hoq80
         have H : some (p18.1, s78.1, 0) = some r := H
         have H := oi H; subst H
         exact ⟨_, _, rfl, hS.toGrow, _, _, _, rfl, hfG97⟩
        ·have H := ifF hb96 H; refine zP ?_; refine zR ?_; refine zx (zi s78.1) rfl rfl ?_; refine zV (rn_add rfl rfl) rfl ?_; refine zy (zi (IntKind.i64.wrap (s78.1 + 1))) rfl rfl ?_; refine zN ?_
         have hO : Owns _ _ _ ([⟨79, 2, (s78.2.2).length, .map (some r72), kvs kvI vvB (s78.2.2)⟩, ⟨3, 1, np18_0, zl ap18_0 np18_0 cp18_0, clap18_0⟩, ⟨72, 64, 1, zl (some ⟨b9, 0, none⟩) 1 1, cellsT s78.2.1⟩]) := hO
         have H := oi H; subst H; refine ⟨_, rfl, ?_⟩
         exact ⟨_, G83, upds_self _ _ ⟨rfl, rfl, rfl, rfl, trivial⟩, leG83, hS, hO⟩
       ·have H := ifF hb84 H; refine WC_exit rfl ?_
        have hO : Owns _ _ _ ([⟨79, 2, (s78.2.2).length, .map (some r72), kvs kvI vvB (s78.2.2)⟩, ⟨3, 1, np18_0, zl ap18_0 np18_0 cp18_0, clap18_0⟩, ⟨72, 64, 1, zl (some ⟨b9, 0, none⟩) 1 1, cellsT s78.2.1⟩]) := hO
        have H := oi H; subst H
        have hres := hqq80 _ rfl
        subst hres
        exact ⟨_, _, G83, rfl, upds_self _ _ ⟨rfl, trivial⟩, leG83, hS, hO⟩
     ·rintro F w98 ⟨p79, Fb, G99, rfl, rfl, leG99, hS, hO⟩
      refine zS ?_; refine zx (zl ap18_0 np18_0 cp18_0) rfl rfl ?_; refine zy (zl ap18_0 np18_0 cp18_0) rfl rfl ?_; refine zy (zi (-1)) rfl rfl ?_; refine zy (zi 0) rfl rfl ?_; refine zN ?_; refine WC_ret ?_
      have l2_5 := (leG71.trans leG77).trans leG99
      obtain ⟨G100, leG100, hS, hO, hfG100⟩ := hO.freezeS hS RInt_mono (k := 1) rfl (hp18_0.mono RInt_mono l2_5) hnhp18_0
      have H : some (p18.1, (-1), 0) = some r := H
      have H := oi H; subst H
      exact ⟨_, _, rfl, hS.toGrow, _, _, _, rfl, hfG100⟩
 ·refine zE rfl rfl (zU (v := fun b => zp b) (cs := (cellsT (Tb.zero 64))) (e := 72) (by kernel_rfl) hS.sat hO rfl 64 1 (cellsT_len _) (by decide) (fun b7 w8 hb hO => ?_))
  have hS := hS.keep hb; refine ⟨fun _ _ => ⟨hS.sat, trivial⟩, ?_⟩; obtain ⟨y10, hy10, H⟩ := bnd H; refine zE rfl rfl (zC cb37 (f37_ok (x0 := x1) (x1 := 0) (x2 := 5) hS.sat  hy10) rfl rfl (fun w11 hb => ?_)); have hS := hS.keep hb; have hO := hO.below hb; refine ⟨fun _ _ => ⟨hS.sat, trivial⟩, ?_⟩; obtain ⟨y12, hy12, H⟩ := bnd H; refine zE rfl rfl (zC cb35 (f35_ok (x0 := x0) (x1 := y10) hS.sat (h1.mono RTLandPerson_mono leG6) (h2.mono RTLandEvent_mono leG6) (h3.mono RTLandMemory_mono leG6) hy12) rfl rfl (fun w13 hb => ?_)); have hS := hS.keep hb; have hO := hO.below hb; refine ⟨fun _ _ => ⟨hS.sat, trivial⟩, ?_⟩; refine zE rfl rfl (OpP_val (zm (v := (.tuple #[.agg (cellsT y12.1).toArray, zi y12.2])) rfl) rfl ?_); refine ⟨fun _ _ => ⟨hS.sat, trivial⟩, ?_⟩; refine zD rfl (fun w hw => zX (v := (.agg (cellsT y12.1).toArray)) rfl rfl) rfl ?_; refine zD rfl (fun w hw => zX (v := (zi y12.2)) rfl rfl) rfl ?_; refine zE rfl rfl (OpP_storeTT sz72 hS hO (k := 0) rfl rfl rfl (fun w14 hS hO => ?_))
  have hO : Owns _ _ _ ([⟨72, 64, 1, zl (some ⟨b7, 0, none⟩) 1 1, cellsT y12.1⟩]) := hO
  refine ⟨fun _ _ => ⟨hS.sat, trivial⟩, ?_⟩; refine zE rfl rfl (OpP_val (zA (v := (zi y12.2)) rfl) rfl ?_)
  refine ⟨fun _ h => noneed (by kernel_rfl) h, ?_⟩
  refine zI ?_; refine zQ ?_; refine zS ?_; refine zx (zi y12.2) rfl rfl ?_; refine zV (rn_neq rfl rfl) rfl ?_; refine zN ?_; refine zT rfl (fun hb15 => ?_) (fun hb15 => ?_)
  ·have H := ifT hb15 H; refine zS ?_; refine zx (zi y12.2) rfl rfl ?_; refine zy (zl none 0 0) rfl rfl ?_; refine zy (zi 0) rfl rfl ?_; refine zy (zi y12.2) rfl rfl ?_; refine zN ?_; refine WC_ret ?_
   have H : some ([], 0, y12.2) = some r := H
   have H := oi H; subst H
   exact ⟨_, _, rfl, hS.toGrow, _, _, _, rfl, (RSl.nil RInt 1 G6 none)⟩
  ·have H := ifF hb15 H; refine zP ?_; refine zS ?_; refine zy (zl none 0 0) rfl rfl ?_; refine zN ?_; refine zQ ?_; refine zS ?_; refine zV (zF fd26_1 rfl) rfl ?_; refine zV (zL na23 rfl (hS.sat.cell (hcb4 1 _ rfl))) rfl ?_; refine zV (rn_len sl23 rfl rfl (h2.mono RTLandEvent_mono leG6).1) rfl ?_; refine zx (zi 0) rfl rfl ?_; refine zN ?_; have hO := hO.cons_nil 3 1; obtain ⟨q19, hq19, H⟩ := bnd H; refine zM (fun F w => ∃ (p18 : (List Int) × (Tb 64)) (Fb : Fr) (G : Gm) (ap18_0 : Option Addr) (np18_0 cp18_0 : Nat) (clap18_0 : List Value), q19 = .inl p18 ∧ F = upds Fb [(2, zp b4), (9, zl ap18_0 np18_0 cp18_0)] ∧ Gle G6 G ∧ Since w0.heap.size G0 w0 G w ∧ Owns G w w0.heap.size [⟨3, 1, np18_0, zl ap18_0 np18_0 cp18_0, clap18_0⟩, ⟨72, 64, 1, zl (some ⟨b7, 0, none⟩) 1 1, cellsT p18.2⟩] ∧ np18_0 = p18.1.length ∧ Rd RInt 1 G clap18_0 p18.1) ?_ ?_
   ·refine WC_block (WC_loop hq19 (fun s17 F w => ∃ (Fb : Fr) (G : Gm) (as17_0 : Option Addr) (ns17_0 cs17_0 : Nat) (clas17_0 : List Value), F = upds Fb [(1, zi x1), (2, zp b4), (7, zp b7), (9, zl as17_0 ns17_0 cs17_0), (28, zl a2 n2 c2), (29, zi (x0.Events.length : Int)), (30, zi s17.2.1)] ∧ Gle G6 G ∧ Since w0.heap.size G0 w0 G w ∧ Owns G w w0.heap.size [⟨3, 1, ns17_0, zl as17_0 ns17_0 cs17_0, clas17_0⟩, ⟨72, 64, 1, zl (some ⟨b7, 0, none⟩) 1 1, cellsT s17.2.2⟩] ∧ ns17_0 = s17.1.length ∧ Rd RInt 1 G clas17_0 s17.1) ?_ ?_)
    ·have hO : Owns _ _ _ ([⟨3, 1, 0, zl none 0 0, []⟩, ⟨72, 64, 1, zl (some ⟨b7, 0, none⟩) 1 1, cellsT y12.1⟩]) := hO
     exact ⟨_, G6, none, 0, 0, [], upds_self _ _ ⟨rfl, rfl, rfl, rfl, rfl, rfl, rfl, trivial⟩, Gle.refl _, hS, hO, rfl, (Rd.nil RInt 1 G6)⟩
    ·rintro s17 F w21 t20 ⟨Fb, G22, as17_0, ns17_0, cs17_0, clas17_0, rfl, leG22, hS, hO, hnhs17_0, hs17_0⟩
     intro H1 hqq19
     have Hoq19 := H; have H := H1
     unfold f20_b0 at H
     refine zS ?_; refine zV (rn_lss rfl rfl) rfl ?_; refine zN ?_; refine zQ ?_; refine zT rfl (fun hb23 => ?_) (fun hb23 => ?_)
     ·have H := ifT hb23 H; refine zP ?_; refine zQ ?_; obtain ⟨q24, hq24, H⟩ := bnd H; refine zM (fun F w => ∃ (p25 : (List Int) × (Tb 64)) (Fb : Fr) (G : Gm) (ap25_0 : Option Addr) (np25_0 cp25_0 : Nat) (clap25_0 : List Value), q24 = .inl p25 ∧ F = upds Fb [(1, zi x1), (2, zp b4), (7, zp b7), (9, zl ap25_0 np25_0 cp25_0), (28, zl a2 n2 c2), (29, zi (x0.Events.length : Int)), (30, zi s17.2.1)] ∧ Gle G22 G ∧ Since w0.heap.size G0 w0 G w ∧ Owns G w w0.heap.size [⟨3, 1, np25_0, zl ap25_0 np25_0 cp25_0, clap25_0⟩, ⟨72, 64, 1, zl (some ⟨b7, 0, none⟩) 1 1, cellsT p25.2⟩] ∧ np25_0 = p25.1.length ∧ Rd RInt 1 G clap25_0 p25.1) ?_ ?_
      ·have Hoq24 := H; have H := hq24; refine WC_block ?_; refine zS ?_; refine zx (zi s17.2.1) rfl rfl ?_; obtain ⟨y26, hy26, H⟩ := bnd H
       have l0_2 := leG6.trans leG22
       refine WL_idx sl23 (h2.mono RTLandEvent_mono l0_2) hy26 rfl rfl rfl ?_
       rintro b27 o27 _ hcb27 _ ⟨⟩
       refine zV (rn_loadA ag57 (cs := [zi y26.Strip, zi y26.Holder]) rfl rfl (fun j v hj => hS.sat.cell (hcb27.drop_take 0 2 j v hj))) rfl ?_
       refine zO rfl (zU (v := fun b => zp b) (cs := [zi 0, zi 0]) (e := 57) (by kernel_rfl) hS.sat hO rfl 2 1 rfl (by decide) (fun b28 w29 hb hO => ?_))
       have hS := hS.keep hb; refine zy (zi s17.2.1) rfl rfl ?_; refine zO rfl (OpP_store (vs := [zi y26.Strip, zi y26.Holder]) sz57 hS hO (k := 0) rfl rfl rfl rfl rfl (one_all rfl) (Nat.le_of_ble_eq_true rfl) (fun w31 hS hO => ?_))
       have hO : Owns _ _ _ ([zb 57 2 b28 [zi y26.Strip, zi y26.Holder], ⟨3, 1, ns17_0, zl as17_0 ns17_0 cs17_0, clas17_0⟩, ⟨72, 64, 1, zl (some ⟨b7, 0, none⟩) 1 1, cellsT s17.2.2⟩]) := hO
       obtain ⟨G32, leG32, hS, hO, hqG32, _⟩ := hO.freeze hS (k := 0) rfl
       have hcG32 : Cells G32 b28 0 [zi y26.Strip, zi y26.Holder] := (hqG32 _ _ _ _ rfl)
       refine zN ?_; refine zQ ?_; refine zS ?_; refine zV (zF fd57_0 rfl) rfl ?_; refine zV (zL na3 rfl (hS.sat.cell (hcG32 0 _ rfl))) rfl ?_; refine zx (zi x1) rfl rfl ?_; refine zV (rn_neq rfl rfl) rfl ?_; refine zN ?_; refine zT rfl (fun hb33 => ?_) (fun hb33 => ?_)
       ·have H := ifT hb33 H; refine WC_exit rfl ?_
        have hO : Owns _ _ _ ([⟨3, 1, ns17_0, zl as17_0 ns17_0 cs17_0, clas17_0⟩, ⟨72, 64, 1, zl (some ⟨b7, 0, none⟩) 1 1, cellsT s17.2.2⟩]) := hO
        have H := oi H; subst H
        exact ⟨_, _, G32, as17_0, ns17_0, cs17_0, clas17_0, rfl, upds_self _ _ ⟨rfl, rfl, rfl, rfl, rfl, rfl, rfl, trivial⟩, leG32, hS, hO, hnhs17_0, (hs17_0.mono RInt_mono leG32)⟩
       ·have H := ifF hb33 H; refine zP ?_; refine zS ?_; refine zx (zl as17_0 ns17_0 cs17_0) rfl rfl ?_; refine zV (rn_len (m := s17.1.length) sl41 rfl rfl hnhs17_0) rfl ?_; refine zy (zi (s17.1.length : Int)) rfl rfl ?_; refine zN ?_; refine zQ ?_; refine zS ?_; refine zx (zl as17_0 ns17_0 cs17_0) rfl rfl ?_; refine zV (rn_len (m := s17.1.length) sl41 rfl rfl hnhs17_0) rfl ?_; refine zx (zi 0) rfl rfl ?_; refine zN ?_; obtain ⟨q36, hq36, H⟩ := bnd H; refine zM (fun F w => ∃ (p35 : Int × (Tb 64)) (Fb : Fr) (G : Gm), q36 = .inl p35 ∧ F = upds Fb [(1, zi x1), (2, zp b4), (7, zp b7), (9, zl as17_0 ns17_0 cs17_0), (10, zi s17.2.1), (12, zi p35.1), (28, zl a2 n2 c2), (29, zi (x0.Events.length : Int)), (30, zi s17.2.1)] ∧ Gle G32 G ∧ Since w0.heap.size G0 w0 G w ∧ Owns G w w0.heap.size [⟨3, 1, ns17_0, zl as17_0 ns17_0 cs17_0, clas17_0⟩, ⟨72, 64, 1, zl (some ⟨b7, 0, none⟩) 1 1, cellsT p35.2⟩]) ?_ ?_
        ·refine WC_block (WC_loop hq36 (fun s34 F w => ∃ (Fb : Fr) (G : Gm), F = upds Fb [(1, zi x1), (2, zp b4), (7, zp b7), (9, zl as17_0 ns17_0 cs17_0), (10, zi s17.2.1), (12, zi s34.1), (28, zl a2 n2 c2), (29, zi (x0.Events.length : Int)), (30, zi s17.2.1), (41, zl as17_0 ns17_0 cs17_0), (42, zi (s17.1.length : Int)), (43, zi s34.2.1)] ∧ Gle G32 G ∧ Since w0.heap.size G0 w0 G w ∧ Owns G w w0.heap.size [⟨3, 1, ns17_0, zl as17_0 ns17_0 cs17_0, clas17_0⟩, ⟨72, 64, 1, zl (some ⟨b7, 0, none⟩) 1 1, cellsT s34.2.2⟩]) ?_ ?_)
         ·have hO : Owns _ _ _ ([⟨3, 1, ns17_0, zl as17_0 ns17_0 cs17_0, clas17_0⟩, ⟨72, 64, 1, zl (some ⟨b7, 0, none⟩) 1 1, cellsT s17.2.2⟩]) := hO
          exact ⟨_, G32, upds_self _ _ ⟨rfl, rfl, rfl, rfl, rfl, rfl, rfl, rfl, rfl, rfl, rfl, rfl, trivial⟩, Gle.refl _, hS, hO⟩
         ·rintro s34 F w38 t37 ⟨Fb, G39, rfl, leG39, hS, hO⟩
          intro H1 hqq36
          have Hoq36 := H; have H := H1
          unfold f20_b1 at H
          refine zS ?_; refine zV (rn_lss rfl rfl) rfl ?_; refine zN ?_; refine zQ ?_; refine zT rfl (fun hb40 => ?_) (fun hb40 => ?_)
          ·have H := ifT hb40 H; refine zP ?_; refine zQ ?_; obtain ⟨q41, hq41, H⟩ := bnd H; refine zM (fun F w => ∃ (p42 : Int) (Fb : Fr) (G : Gm), q41 = .inl p42 ∧ F = upds Fb [(1, zi x1), (2, zp b4), (7, zp b7), (9, zl as17_0 ns17_0 cs17_0), (10, zi s17.2.1), (12, zi p42), (28, zl a2 n2 c2), (29, zi (x0.Events.length : Int)), (30, zi s17.2.1), (41, zl as17_0 ns17_0 cs17_0), (42, zi (s17.1.length : Int)), (43, zi s34.2.1)] ∧ Gle G39 G ∧ Since w0.heap.size G0 w0 G w ∧ Owns G w w0.heap.size [⟨3, 1, ns17_0, zl as17_0 ns17_0 cs17_0, clas17_0⟩, ⟨72, 64, 1, zl (some ⟨b7, 0, none⟩) 1 1, cellsT s34.2.2⟩]) ?_ ?_
           ·have Hoq41 := H; have H := hq41; refine WC_block ?_; refine zS ?_; refine zx (zi s34.2.1) rfl rfl ?_; obtain ⟨y43, hy43, H⟩ := bnd H
            have l2_4 := leG32.trans leG39
            refine WL_idxO sl41 hO (k := 0) rfl hnhs17_0 (hs17_0.mono RInt_mono l2_4) hy43 rfl rfl rfl ?_
            rintro b44 ob44 _ hb44 _ hcb44 ⟨⟩
            refine zV (zL na3 rfl (zH hO (k := 0) rfl hb44 _ 0 (hcb44 0 _ rfl))) rfl ?_; refine zy (zi s34.2.1) rfl rfl ?_; refine zy (zi y43) rfl rfl ?_; refine zN ?_; refine WC_block ?_; refine zS ?_; refine zV (rn_loadT ag72 hO (k := 1) rfl rfl) rfl ?_; refine zx (zi s17.2.1) rfl rfl ?_; refine zx (zi y43) rfl rfl ?_; obtain ⟨y45, hy45, H⟩ := bnd H; refine zO rfl (zC cb36 (f36_ok (x0 := s34.2.2) (x1 := s17.2.1) (x2 := y43) hS.sat  hy45) rfl rfl (fun w46 hb => ?_)); have hS := hS.keep hb; have hO := hO.below hb
            refine zV (v := (zi y45.Low)) (by kernel_rfl) rfl ?_
            refine zV (rn_gtr rfl rfl) rfl ?_; refine zy (.bool (decide (0 < y45.Low))) rfl rfl ?_; refine zN ?_; refine zT rfl (fun hb47 => ?_) (fun hb47 => ?_)
            ·have H := ifT hb47 H; refine zR ?_; refine zx (zi s34.1) rfl rfl ?_; refine zx (zi s34.2.1) rfl rfl ?_; refine zV (rn_min rfl rfl) rfl ?_; refine zy (zi (if s34.2.1 < s34.1 then s34.2.1 else s34.1)) rfl rfl ?_; refine zN ?_
             have hO : Owns _ _ _ ([⟨3, 1, ns17_0, zl as17_0 ns17_0 cs17_0, clas17_0⟩, ⟨72, 64, 1, zl (some ⟨b7, 0, none⟩) 1 1, cellsT s34.2.2⟩]) := hO
             have H := oi H; subst H
             exact ⟨_, _, G39, rfl, upds_self _ _ ⟨rfl, rfl, rfl, rfl, rfl, rfl, rfl, rfl, rfl, rfl, rfl, rfl, trivial⟩, Gle.refl _, hS, hO⟩
            ·have H := ifF hb47 H; refine zS ?_; refine zV (rn_loadT ag72 hO (k := 1) rfl rfl) rfl ?_; refine zx (zi y43) rfl rfl ?_; refine zx (zi s17.2.1) rfl rfl ?_; obtain ⟨y48, hy48, H⟩ := bnd H; refine zO rfl (zC cb36 (f36_ok (x0 := s34.2.2) (x1 := y43) (x2 := s17.2.1) hS.sat  hy48) rfl rfl (fun w49 hb => ?_)); have hS := hS.keep hb; have hO := hO.below hb
             refine zV (v := (zi y48.Low)) (by kernel_rfl) rfl ?_
             refine zV (rn_leq rfl rfl) rfl ?_; refine zy (.bool (decide (y48.Low ≤ 0))) rfl rfl ?_; refine zN ?_; refine zT rfl (fun hb50 => ?_) (fun hb50 => ?_)
             ·have H := ifT hb50 H; refine zS ?_; refine zy (zl none 0 0) rfl rfl ?_; refine zy (zi 0) rfl rfl ?_; refine zy (zi 8) rfl rfl ?_; refine zN ?_; refine WC_ret ?_; have H := oi H; subst H; have H := Hoq41; have H := oi H; subst H
              have hres := hqq36 _ rfl
              subst hres; have H := Hoq36; have H := oi H; subst H; have H := Hoq24; have H := oi H; subst H
              have hres := hqq19 _ rfl
              subst hres; have H := Hoq19
              have H : some ([], 0, 8) = some r := H
              have H := oi H; subst H
              exact ⟨_, _, rfl, hS.toGrow, _, _, _, rfl, (RSl.nil RInt 1 G39 none)⟩
             ·have H := ifF hb50 H; refine zP ?_
              have hO : Owns _ _ _ ([⟨3, 1, ns17_0, zl as17_0 ns17_0 cs17_0, clas17_0⟩, ⟨72, 64, 1, zl (some ⟨b7, 0, none⟩) 1 1, cellsT s34.2.2⟩]) := hO
              have H := oi H; subst H
              exact ⟨_, _, G39, rfl, upds_self _ _ ⟨rfl, rfl, rfl, rfl, rfl, rfl, rfl, rfl, rfl, rfl, rfl, rfl, trivial⟩, Gle.refl _, hS, hO⟩
           ·rintro F w51 ⟨p42, Fb, G52, rfl, rfl, leG52, hS, hO⟩
            refine zR ?_; refine zV (rn_add rfl rfl) rfl ?_; refine zx (zi (IntKind.i64.wrap (s34.2.1 + 1))) rfl rfl ?_; refine zN ?_
            have hO : Owns _ _ _ ([⟨3, 1, ns17_0, zl as17_0 ns17_0 cs17_0, clas17_0⟩, ⟨72, 64, 1, zl (some ⟨b7, 0, none⟩) 1 1, cellsT s34.2.2⟩]) := hO
            have H := oi H; subst H; refine ⟨_, rfl, ?_⟩
            have l3_5 := leG39.trans leG52
            exact ⟨_, G52, upds_self _ _ ⟨rfl, rfl, rfl, rfl, rfl, rfl, rfl, rfl, rfl, rfl, rfl, rfl, trivial⟩, l3_5, hS, hO⟩
          ·have H := ifF hb40 H; refine WC_exit rfl ?_
           have hO : Owns _ _ _ ([⟨3, 1, ns17_0, zl as17_0 ns17_0 cs17_0, clas17_0⟩, ⟨72, 64, 1, zl (some ⟨b7, 0, none⟩) 1 1, cellsT s34.2.2⟩]) := hO
           have H := oi H; subst H
           have hres := hqq36 _ rfl
           subst hres
           exact ⟨_, _, G39, rfl, upds_self _ _ ⟨rfl, rfl, rfl, rfl, rfl, rfl, rfl, rfl, rfl, trivial⟩, leG39, hS, hO⟩
        ·rintro F w54 ⟨p35, Fb, G55, rfl, rfl, leG55, hS, hO⟩
         refine zR ?_; refine zx (zl as17_0 ns17_0 cs17_0) rfl rfl ?_; refine zx (zi p35.1) rfl rfl ?_; refine zx (zi s17.2.1) rfl rfl ?_
         refine zO rfl (zU (v := fun b => zl (some ⟨b, 0, none⟩) 1 1) (cs := [zi s17.2.1]) (e := 3) (by kernel_rfl) hS.sat hO rfl 1 1 rfl (by decide) (fun b56 w57 hb hO => ?_))
         have hS := hS.keep hb
         have hrb56 : Rd RInt 1 G55 [zi s17.2.1] [s17.2.1] := (Rd.cons (c := [zi s17.2.1]) rfl rfl (Rd.nil RInt 1 _))
         have hO := hO.front (k := 0) rfl; have hO := hO.front (k := 1) rfl
         have hO : Owns _ _ _ ([⟨3, 1, ns17_0, zl as17_0 ns17_0 cs17_0, clas17_0⟩, zb 3 1 b56 [zi s17.2.1], ⟨72, 64, 1, zl (some ⟨b7, 0, none⟩) 1 1, cellsT p35.2⟩]) := hO
         obtain ⟨y59, hy59, H⟩ := bnd H
         have l2_4 := leG32.trans leG55
         refine zO rfl (OpP_lent (fi := []) (al := [zl as17_0 ns17_0 cs17_0, zi p35.1, zl (some ⟨b56, 0, none⟩) 1 1]) (ca := []) cb46 (f46_ok (i := p35.1) (x := s17.2.1) hS hO hnhs17_0 (hs17_0.mono RInt_mono l2_4) hy59) rfl rfl rfl (fun vG61 G61 w60 L62 leG61 hS hO hvG61 => ?_)); obtain ⟨aw60, cw60, clw60, rfl, rfl, hrw60⟩ := hvG61
         have hO : Owns _ _ _ ([⟨3, 1, y59.length, zl aw60 y59.length cw60, clw60⟩, zb 3 1 b56 [zi s17.2.1], ⟨72, 64, 1, zl (some ⟨b7, 0, none⟩) 1 1, cellsT p35.2⟩]) := hO
         have hO := hO.drop 1
         have hO : Owns _ _ _ ([⟨3, 1, y59.length, zl aw60 y59.length cw60, clw60⟩, ⟨72, 64, 1, zl (some ⟨b7, 0, none⟩) 1 1, cellsT p35.2⟩]) := hO
         refine zy (zl aw60 y59.length cw60) rfl rfl ?_; refine zN ?_
         have hO : Owns _ _ _ ([⟨3, 1, y59.length, zl aw60 y59.length cw60, clw60⟩, ⟨72, 64, 1, zl (some ⟨b7, 0, none⟩) 1 1, cellsT p35.2⟩]) := hO
         have H := oi H; subst H
         have l2_5 := l2_4.trans leG61
         exact ⟨_, _, G61, aw60, y59.length, cw60, clw60, rfl, upds_self _ _ ⟨rfl, rfl, rfl, rfl, rfl, rfl, rfl, trivial⟩, l2_5, hS, hO, rfl, hrw60⟩
      ·rintro F w64 ⟨p25, Fb, G65, ap25_0, np25_0, cp25_0, clap25_0, rfl, rfl, leG65, hS, hO, hnhp25_0, hp25_0⟩
       refine zR ?_; refine zV (rn_add rfl rfl) rfl ?_; refine zx (zi (IntKind.i64.wrap (s17.2.1 + 1))) rfl rfl ?_; refine zN ?_
       have hO : Owns _ _ _ ([⟨3, 1, np25_0, zl ap25_0 np25_0 cp25_0, clap25_0⟩, ⟨72, 64, 1, zl (some ⟨b7, 0, none⟩) 1 1, cellsT p25.2⟩]) := hO
       have H := oi H; subst H; refine ⟨_, rfl, ?_⟩
       have l1_3 := leG22.trans leG65
       exact ⟨_, G65, ap25_0, np25_0, cp25_0, clap25_0, upds_self _ _ ⟨rfl, rfl, rfl, rfl, rfl, rfl, rfl, trivial⟩, l1_3, hS, hO, hnhp25_0, hp25_0⟩
     ·have H := ifF hb23 H; refine WC_exit rfl ?_
      have hO : Owns _ _ _ ([⟨3, 1, ns17_0, zl as17_0 ns17_0 cs17_0, clas17_0⟩, ⟨72, 64, 1, zl (some ⟨b7, 0, none⟩) 1 1, cellsT s17.2.2⟩]) := hO
      have H := oi H; subst H
      have hres := hqq19 _ rfl
      subst hres
      exact ⟨_, _, G22, as17_0, ns17_0, cs17_0, clas17_0, rfl, upds_self _ _ ⟨rfl, rfl, trivial⟩, leG22, hS, hO, hnhs17_0, hs17_0⟩
   ·rintro F w67 ⟨p18, Fb, G68, ap18_0, np18_0, cp18_0, clap18_0, rfl, rfl, leG68, hS, hO, hnhp18_0, hp18_0⟩
    refine zS ?_; refine zV (rn_loadA ag26 (cs := [zl a1 n1 c1, zl a2 n2 c2, zl a3 n3 c3]) rfl rfl (fun j v hj => (hS.sat.le leG68).cell (hcb4.drop_take 0 3 j v hj))) rfl ?_; refine zO rfl (OpP_in1 (N' := 7) [.agg #[zl a1 n1 c1, zl a2 n2 c2, zl a3 n3 c3]] cb38 Tryz.func38 rfl rfl rfl rfl rfl rfl ?_); refine zS ?_; refine zO rfl (zW (v := fun b => zp b) (cs := [zl a1 n1 c1, zl a2 n2 c2, zl a3 n3 c3]) (e := 26) (rn_boxA rfl) hS.sat rfl (fun b69 G71 w70 hg hcb69 => ?_)); have hS := hS.grow hg; have hO := hO.grow hg
    have leG71 := hg.le
    refine zy (.pointer none) rfl rfl ?_; refine zN ?_; refine zS ?_; refine zV (rn_loadA ag26 (cs := [zl a1 n1 c1, zl a2 n2 c2, zl a3 n3 c3]) rfl rfl (fun j v hj => hS.sat.cell (hcb69.drop_take 0 3 j v hj))) rfl ?_; refine zO rfl (OpP_makeMap (e := 79) hS hO rfl (fun r72 w73 hS hO => ?_))
    have hO : Owns _ _ _ ([⟨79, 2, ([] : (List (Int × Bool))).length, .map (some r72), kvs kvI vvB ([] : (List (Int × Bool)))⟩, ⟨3, 1, np18_0, zl ap18_0 np18_0 cp18_0, clap18_0⟩, ⟨72, 64, 1, zl (some ⟨b7, 0, none⟩) 1 1, cellsT p18.2⟩]) := hO
    refine zV (v := (.agg #[zl a1 n1 c1, zl a2 n2 c2, zl a3 n3 c3, .map (some r72)])) (by kernel_rfl) rfl ?_
    refine zO rfl (zW (v := fun b => zp b) (cs := [zl a1 n1 c1, zl a2 n2 c2, zl a3 n3 c3, .map (some r72)]) (e := 119) (rn_boxA rfl) hS.sat rfl (fun b75 G77 w76 hg hcb75 => ?_)); have hS := hS.grow hg; have hO := hO.grow hg
    have leG77 := hg.le
    refine zy (zp b75) rfl rfl ?_; refine zN ?_; refine WC_ret ?_; refine ⟨(zp b75), rfl, ?_⟩
    have hO : Owns _ _ _ ([⟨79, 2, ([] : (List (Int × Bool))).length, .map (some r72), kvs kvI vvB ([] : (List (Int × Bool)))⟩, ⟨3, 1, np18_0, zl ap18_0 np18_0 cp18_0, clap18_0⟩, ⟨72, 64, 1, zl (some ⟨b7, 0, none⟩) 1 1, cellsT p18.2⟩]) := hO
    refine zy (zp b75) rfl rfl ?_; refine zN ?_; refine zQ ?_; refine zS ?_; refine zy (zi 1) rfl rfl ?_; refine zN ?_; obtain ⟨q80, hq80, H⟩ := bnd H; refine zM (fun F w => ∃ (p79 : (Tb 64) × (List (Int × Bool))) (Fb : Fr) (G : Gm), q80 = .inl p79 ∧ F = upds Fb [(9, zl ap18_0 np18_0 cp18_0)] ∧ Gle G77 G ∧ Since w0.heap.size G0 w0 G w ∧ Owns G w w0.heap.size [⟨79, 2, (p79.2).length, .map (some r72), kvs kvI vvB (p79.2)⟩, ⟨3, 1, np18_0, zl ap18_0 np18_0 cp18_0, clap18_0⟩, ⟨72, 64, 1, zl (some ⟨b7, 0, none⟩) 1 1, cellsT p79.1⟩]) ?_ ?_
    ·refine WC_block (WC_loop hq80 (fun s78 F w => ∃ (Fb : Fr) (G : Gm), F = upds Fb [(2, zp b4), (9, zl ap18_0 np18_0 cp18_0), (15, zp b75), (16, zi s78.1)] ∧ Gle G77 G ∧ Since w0.heap.size G0 w0 G w ∧ Owns G w w0.heap.size [⟨79, 2, (s78.2.2).length, .map (some r72), kvs kvI vvB (s78.2.2)⟩, ⟨3, 1, np18_0, zl ap18_0 np18_0 cp18_0, clap18_0⟩, ⟨72, 64, 1, zl (some ⟨b7, 0, none⟩) 1 1, cellsT s78.2.1⟩]) ?_ ?_)
     ·have hO : Owns _ _ _ ([⟨79, 2, ([] : (List (Int × Bool))).length, .map (some r72), kvs kvI vvB ([] : (List (Int × Bool)))⟩, ⟨3, 1, np18_0, zl ap18_0 np18_0 cp18_0, clap18_0⟩, ⟨72, 64, 1, zl (some ⟨b7, 0, none⟩) 1 1, cellsT p18.2⟩]) := hO
      exact ⟨_, G77, upds_self _ _ ⟨rfl, rfl, rfl, rfl, trivial⟩, Gle.refl _, hS, hO⟩
     ·rintro s78 F w82 t81 ⟨Fb, G83, rfl, leG83, hS, hO⟩
      intro H1 hqq80
      have Hoq80 := H; have H := H1
      unfold f20_b2 at H
      refine zQ ?_; refine zS ?_; refine zx (zi s78.1) rfl rfl ?_; refine zx (zl ap18_0 np18_0 cp18_0) rfl rfl ?_; refine zV (rn_len (m := p18.1.length) sl41 rfl rfl hnhp18_0) rfl ?_; refine zV (rn_lss rfl rfl) rfl ?_; refine zN ?_; refine zT rfl (fun hb84 => ?_) (fun hb84 => ?_)
      ·have H := ifT hb84 H; refine zP ?_; refine zQ ?_; refine WC_block ?_; refine zQ ?_; have hS := hS.keep (below_drew _); have hO := hO.below (below_drew _)
       refine WC_regionD mixedO (fun _ w => Sat G83 w ∧ Owns G83 w w0.heap.size [⟨79, 2, (s78.2.2).length, .map (some r72), kvs kvI vvB (s78.2.2)⟩, ⟨3, 1, np18_0, zl ap18_0 np18_0 cp18_0, clap18_0⟩, ⟨72, 64, 1, zl (some ⟨b7, 0, none⟩) 1 1, cellsT s78.2.1⟩]) (.fl 0 (.fl 1 (.fl 2 (.fl 3 (.fl 4 (.fl 5 (.fl 6 (.fl 7 (.fl 8 (.fl 9 (.fl 10 (.fl 11 (.fl 12 (.on 13 (.on 14 (.on 15 (.on 16 (.on 17 (.on 18 (.on 19 (.on 20 (.on 21 .nil)))))))))))))))))))))) (by kernel_rfl) rfl (by kernel_rfl) (fun _ => ⟨hS.sat, hO⟩) ?_
       refine zD rfl (fun w hw => zm (v := (zp b75)) rfl) rfl ?_; refine zD rfl (fun w hw => zF fd26_1 rfl) rfl ?_; refine zD rfl (fun w hw => zL na23 rfl ((hw.1.le (((leG68.trans leG71).trans leG77).trans leG83)).cell (hcb4 1 _ rfl))) rfl ?_; refine zD rfl (fun w hw => zm (v := (zl ap18_0 np18_0 cp18_0)) rfl) rfl ?_; refine zD rfl (fun w hw => zm (v := (zi s78.1)) rfl) rfl ?_; obtain ⟨y85, hy85, H⟩ := bnd H
       have l2_5 := (leG71.trans leG77).trans leG83
       refine WD_idxO rfl sl41 hO (k := 1) rfl hnhp18_0 (hp18_0.mono RInt_mono l2_5) hy85 rfl rfl rfl ?_
       rintro b86 ob86 _ hb86 _ hcb86 ⟨⟩
       refine zD rfl (fun w hw => zL na3 rfl (zH hw.2 (k := 1) rfl hb86 _ 0 (hcb86 0 _ rfl))) rfl ?_; obtain ⟨y87, hy87, H⟩ := bnd H
       have l0_5 := (leG6.trans leG68).trans l2_5
       refine WD_idx rfl sl23 (h2.mono RTLandEvent_mono l0_5) hy87 rfl rfl rfl ?_
       rintro b88 o88 _ hcb88 _ ⟨⟩
       refine zD rfl (fun w hw => zF fd57_1 rfl) rfl ?_; refine zD rfl (fun w hw => zL na3 rfl (hw.1.cell (hcb88 1 _ rfl))) rfl ?_; refine zD rfl (fun w hw => zF fd26_1 rfl) rfl ?_; refine zD rfl (fun w hw => zL na23 rfl ((hw.1.le (leG68.trans l2_5)).cell (hcb4 1 _ rfl))) rfl ?_; refine zD rfl (fun w hw => zm (v := (zl ap18_0 np18_0 cp18_0)) rfl) rfl ?_; refine zE rfl rfl (OpP_val (zm (v := (zi s78.1)) rfl) rfl ?_); refine ⟨fun _ _ => ⟨hS.sat, hO⟩, ?_⟩; refine zE rfl rfl (OpP_val (rn_sub rfl rfl) rfl ?_); refine ⟨fun _ _ => ⟨hS.sat, hO⟩, ?_⟩; obtain ⟨y89, hy89, H⟩ := bnd H; refine zE rfl rfl (OpP_idxO sl41 hO (k := 1) rfl hnhp18_0 (hp18_0.mono RInt_mono l2_5) hy89 rfl rfl rfl ?_)
       rintro b90 ob90 _ hb90 _ hcb90 ⟨⟩
       refine ⟨fun _ _ => ⟨hS.sat, hO⟩, ?_⟩; refine zE rfl rfl (OpP_val (zL na3 rfl (zH hO (k := 1) rfl hb90 _ 0 (hcb90 0 _ rfl))) rfl ?_); refine ⟨fun _ _ => ⟨hS.sat, hO⟩, ?_⟩; obtain ⟨y91, hy91, H⟩ := bnd H; refine zE rfl rfl (OpP_idx sl23 (h2.mono RTLandEvent_mono l0_5) hy91 rfl rfl rfl ?_)
       rintro b92 o92 _ hcb92 _ ⟨⟩
       refine ⟨fun _ _ => ⟨hS.sat, hO⟩, ?_⟩; refine zE rfl rfl (OpP_val (zF fd57_1 rfl) rfl ?_); refine ⟨fun _ _ => ⟨hS.sat, hO⟩, ?_⟩; refine zE rfl rfl (OpP_val (zL na3 rfl (hS.sat.cell (hcb92 1 _ rfl))) rfl ?_); refine ⟨fun _ _ => ⟨hS.sat, hO⟩, ?_⟩; obtain ⟨y93, hy93, H⟩ := bnd H
       have hx95 := f47_ok (x0 := x0) (x1 := y87.Holder) (x2 := y91.Holder) hS.sat (hcb75.mono leG83) (h1.mono RTLandPerson_mono l0_5) (h2.mono RTLandEvent_mono l0_5) (h3.mono RTLandMemory_mono l0_5) hy93
       refine zE rfl rfl (zC cb47 hx95 rfl rfl (fun w94 hb => ?_)); have hS := hS.keep hb; have hO := hO.below hb
       refine ⟨fun _ h => noneed (by kernel_rfl) h, ?_⟩
       refine zE rfl rfl (OpP_val (rn_not rfl) rfl ?_)
       refine ⟨fun _ h => noneed (by kernel_rfl) h, ?_⟩
       refine zI ?_; refine zT rfl (fun hb96 => ?_) (fun hb96 => ?_)
       ·have H := ifT hb96 H; refine zS ?_; refine zx (zl ap18_0 np18_0 cp18_0) rfl rfl ?_; refine zx (zi s78.1) rfl rfl ?_; refine zy (zl ap18_0 np18_0 cp18_0) rfl rfl ?_; refine zy (zi s78.1) rfl rfl ?_; refine zy (zi 0) rfl rfl ?_; refine zN ?_; refine WC_ret ?_; obtain ⟨G97, leG97, hS, hO, hfG97⟩ := hO.freezeS hS RInt_mono (k := 1) rfl (hp18_0.mono RInt_mono l2_5) hnhp18_0; have H := oi H; subst H
        have hres := hqq80 _ rfl
        subst hres; have H := Hoq80
        have H : some (p18.1, s78.1, 0) = some r := H
        have H := oi H; subst H
        exact ⟨_, _, rfl, hS.toGrow, _, _, _, rfl, hfG97⟩
       ·have H := ifF hb96 H; refine zP ?_; refine zR ?_; refine zx (zi s78.1) rfl rfl ?_; refine zV (rn_add rfl rfl) rfl ?_; refine zy (zi (IntKind.i64.wrap (s78.1 + 1))) rfl rfl ?_; refine zN ?_
        have hO : Owns _ _ _ ([⟨79, 2, (s78.2.2).length, .map (some r72), kvs kvI vvB (s78.2.2)⟩, ⟨3, 1, np18_0, zl ap18_0 np18_0 cp18_0, clap18_0⟩, ⟨72, 64, 1, zl (some ⟨b7, 0, none⟩) 1 1, cellsT s78.2.1⟩]) := hO
        have H := oi H; subst H; refine ⟨_, rfl, ?_⟩
        exact ⟨_, G83, upds_self _ _ ⟨rfl, rfl, rfl, rfl, trivial⟩, leG83, hS, hO⟩
      ·have H := ifF hb84 H; refine WC_exit rfl ?_
       have hO : Owns _ _ _ ([⟨79, 2, (s78.2.2).length, .map (some r72), kvs kvI vvB (s78.2.2)⟩, ⟨3, 1, np18_0, zl ap18_0 np18_0 cp18_0, clap18_0⟩, ⟨72, 64, 1, zl (some ⟨b7, 0, none⟩) 1 1, cellsT s78.2.1⟩]) := hO
       have H := oi H; subst H
       have hres := hqq80 _ rfl
       subst hres
       exact ⟨_, _, G83, rfl, upds_self _ _ ⟨rfl, trivial⟩, leG83, hS, hO⟩
    ·rintro F w98 ⟨p79, Fb, G99, rfl, rfl, leG99, hS, hO⟩
     refine zS ?_; refine zx (zl ap18_0 np18_0 cp18_0) rfl rfl ?_; refine zy (zl ap18_0 np18_0 cp18_0) rfl rfl ?_; refine zy (zi (-1)) rfl rfl ?_; refine zy (zi 0) rfl rfl ?_; refine zN ?_; refine WC_ret ?_
     have l2_5 := (leG71.trans leG77).trans leG99
     obtain ⟨G100, leG100, hS, hO, hfG100⟩ := hO.freezeS hS RInt_mono (k := 1) rfl (hp18_0.mono RInt_mono l2_5) hnhp18_0
     have H : some (p18.1, (-1), 0) = some r := H
     have H := oi H; subst H
     exact ⟨_, _, rfl, hS.toGrow, _, _, _, rfl, hfG100⟩
set_option maxHeartbeats 1000000 in
theorem f21_ok {G0 : Gm} {w0 : World} (hS0 : Sat G0 w0) {x0 : (List Int)} {a1 : Option Addr} {n1 c1 : Nat} {x1 : (List Int)} {a2 : Option Addr} {n2 c2 : Nat} (h1 : RSl RInt 1 G0 a1 n1 c1 x0) (h2 : RSl RInt 1 G0 a2 n2 c2 x1) {r : Bool} (H : f21 x0 x1 = some r) :
  Calls Tryz.prog 21 #[zl a1 n1 c1, zl a2 n2 c2] w0 (RetV w0 (.bool r)) := by
 have hS := Since.start hS0
 have hO : Owns G0 w0 w0.heap.size [] := Owns.nil (Nat.le_refl _)
 unfold f21 at H
 refine enter1 (N := 26) (shutV _ _) Tryz.func21 rfl rfl rfl rfl ?_; refine zS ?_; refine zy (.bool false) rfl rfl ?_; refine zN ?_; refine zQ ?_; refine zS ?_; refine zx (zl a1 n1 c1) rfl rfl ?_; refine zV (rn_len sl41 rfl rfl h1.1) rfl ?_; refine zx (zl a2 n2 c2) rfl rfl ?_; refine zV (rn_len sl41 rfl rfl h2.1) rfl ?_; refine zV (rn_neq rfl rfl) rfl ?_; refine zN ?_; refine zT rfl (fun hb3 => ?_) (fun hb3 => ?_)
 ·have H := ifT hb3 H; refine zS ?_; refine zy (.bool false) rfl rfl ?_; refine zN ?_; refine WC_ret ?_
  have H : some false = some r := H
  have H := oi H; subst H
  exact ⟨rfl, hS.below⟩
 ·have H := ifF hb3 H; refine zP ?_; refine zQ ?_; refine zS ?_; refine zy (zi 0) rfl rfl ?_; refine zN ?_; obtain ⟨q6, hq6, H⟩ := bnd H; refine zM (fun F w => ∃ (p5 : Unit) (Fb : Fr) (G : Gm), q6 = .inl p5 ∧ F = upds Fb [] ∧ Gle G0 G ∧ Since w0.heap.size G0 w0 G w ∧ Owns G w w0.heap.size []) ?_ ?_
  ·refine WC_block (WC_loop hq6 (fun s4 F w => ∃ (Fb : Fr) (G : Gm), F = upds Fb [(0, zl a1 n1 c1), (1, zl a2 n2 c2), (5, zi s4)] ∧ Gle G0 G ∧ Since w0.heap.size G0 w0 G w ∧ Owns G w w0.heap.size []) ?_ ?_)
   ·have hO : Owns _ _ _ ([]) := hO
    exact ⟨_, G0, upds_self _ _ ⟨rfl, rfl, rfl, trivial⟩, Gle.refl _, hS, hO⟩
   ·rintro s4 F w8 t7 ⟨Fb, G9, rfl, leG9, hS, hO⟩
    intro H1 hqq6
    have Hoq6 := H; have H := H1
    unfold f21_b0 at H
    refine zQ ?_; refine zS ?_; refine zx (zi s4) rfl rfl ?_; refine zx (zl a1 n1 c1) rfl rfl ?_; refine zV (rn_len sl41 rfl rfl (h1.mono RInt_mono leG9).1) rfl ?_; refine zV (rn_lss rfl rfl) rfl ?_; refine zN ?_; refine zT rfl (fun hb10 => ?_) (fun hb10 => ?_)
    ·have H := ifT hb10 H; refine zP ?_; refine zQ ?_; refine WC_block ?_; refine zQ ?_; have hS := hS.keep (below_drew _); have hO := hO.below (below_drew _)
     refine WC_regionD mixedO (fun _ w => Sat G9 w ∧ True) (.fl 0 (.fl 1 (.fl 2 (.fl 3 (.fl 4 (.on 5 (.on 6 (.on 7 (.on 8 .nil))))))))) (by kernel_rfl) rfl (by kernel_rfl) (fun _ => ⟨hS.sat, trivial⟩) ?_
     refine zD rfl (fun w hw => zm (v := (zl a1 n1 c1)) rfl) rfl ?_; refine zD rfl (fun w hw => zm (v := (zi s4)) rfl) rfl ?_; obtain ⟨y11, hy11, H⟩ := bnd H; refine WD_idx rfl sl41 (h1.mono RInt_mono leG9) hy11 rfl rfl rfl ?_
     rintro b12 o12 _ hcb12 _ ⟨⟩
     refine zD rfl (fun w hw => zL na3 rfl (hw.1.cell (hcb12 0 _ rfl))) rfl ?_; refine zD rfl (fun w hw => zm (v := (zl a2 n2 c2)) rfl) rfl ?_; refine zE rfl rfl (OpP_val (zm (v := (zi s4)) rfl) rfl ?_); refine ⟨fun _ _ => ⟨hS.sat, trivial⟩, ?_⟩; obtain ⟨y13, hy13, H⟩ := bnd H; refine zE rfl rfl (OpP_idx sl41 (h2.mono RInt_mono leG9) hy13 rfl rfl rfl ?_)
     rintro b14 o14 _ hcb14 _ ⟨⟩
     refine ⟨fun _ _ => ⟨hS.sat, trivial⟩, ?_⟩; refine zE rfl rfl (OpP_val (zL na3 rfl (hS.sat.cell (hcb14 0 _ rfl))) rfl ?_); refine ⟨fun _ _ => ⟨hS.sat, trivial⟩, ?_⟩; refine zE rfl rfl (OpP_val (rn_neq rfl rfl) rfl ?_)
     refine ⟨fun _ h => noneed (by kernel_rfl) h, ?_⟩
     refine zI ?_; refine zT rfl (fun hb15 => ?_) (fun hb15 => ?_)
     ·have H := ifT hb15 H; refine zS ?_; refine zy (.bool false) rfl rfl ?_; refine zN ?_; refine WC_ret ?_; have H := oi H; subst H
      have hres := hqq6 _ rfl
      subst hres; have H := Hoq6
      have H : some false = some r := H
      have H := oi H; subst H
      exact ⟨rfl, hS.below⟩
     ·have H := ifF hb15 H; refine zP ?_; refine zR ?_; refine zx (zi s4) rfl rfl ?_; refine zV (rn_add rfl rfl) rfl ?_; refine zy (zi (IntKind.i64.wrap (s4 + 1))) rfl rfl ?_; refine zN ?_
      have hO : Owns _ _ _ ([]) := hO
      have H := oi H; subst H; refine ⟨_, rfl, ?_⟩
      exact ⟨_, G9, upds_self _ _ ⟨rfl, rfl, rfl, trivial⟩, leG9, hS, hO⟩
    ·have H := ifF hb10 H; refine WC_exit rfl ?_
     have hO : Owns _ _ _ ([]) := hO
     have H := oi H; subst H
     have hres := hqq6 _ rfl
     subst hres
     exact ⟨_, _, G9, rfl, rfl, leG9, hS, hO⟩
  ·rintro F w16 ⟨p5, Fb, G17, rfl, rfl, leG17, hS, hO⟩
   refine zS ?_; refine zy (.bool true) rfl rfl ?_; refine zN ?_; refine WC_ret ?_
   have H : some true = some r := H
   have H := oi H; subst H
   exact ⟨rfl, hS.below⟩
set_option maxHeartbeats 1000000 in
theorem f7_ok {G0 : Gm} {w0 : World} (hS0 : Sat G0 w0)  (hT : TabZ Tryz.prog G0) {r : Bool} (H : f7 = some r) :
  Calls Tryz.prog 7 #[] w0 (RetV w0 (.bool r)) := by
 have hS := Since.start hS0
 have hO : Owns G0 w0 w0.heap.size [] := Owns.nil (Nat.le_refl _)
 unfold f7 at H
 refine enter1 (N := 98) (shutV _ _) Tryz.func7 rfl rfl rfl rfl ?_; refine zS ?_; refine zy (.bool false) rfl rfl ?_; refine zN ?_; refine zS ?_; obtain ⟨y1, hy1, H⟩ := bnd H; refine zO rfl (OpP_callG cb15 (f15_ok  hS.sat  hy1) rfl rfl (fun vy1 G3 w2 hg hvy1 => ?_)); obtain ⟨a4, n4, c4, a5, n5, c5, a6, n6, c6, ⟨⟩, h4, h5, h6⟩ := hvy1; have hS := hS.grow hg; have hO := hO.grow hg
 have leG3 := hg.le
 obtain ⟨y7, hy7, H⟩ := bnd H; refine zO rfl (OpP_callG cb14 (f14_ok (x0 := y1) hS.sat h4 h5 h6 hy7) rfl rfl (fun vy7 G9 w8 hg hvy7 => ?_)); obtain ⟨a10, n10, c10, ⟨⟩, h10⟩ := hvy7; have hS := hS.grow hg; have hO := hO.grow hg
 have leG9 := hg.le
 refine zx (.tuple #[zl a10 n10 c10, zi y7.2]) rfl rfl ?_; refine zV (zX (v := (zl a10 n10 c10)) rfl rfl) rfl ?_; refine zV (zX (v := (zi y7.2)) rfl rfl) rfl ?_; refine zy (zl a10 n10 c10) rfl rfl ?_; refine zy (zi y7.2) rfl rfl ?_; refine zN ?_; refine zS ?_; obtain ⟨y11, hy11, H⟩ := bnd H; refine zO rfl (OpP_callG cb15 (f15_ok  hS.sat  hy11) rfl rfl (fun vy11 G13 w12 hg hvy11 => ?_)); obtain ⟨a14, n14, c14, a15, n15, c15, a16, n16, c16, ⟨⟩, h14, h15, h16⟩ := hvy11; have hS := hS.grow hg; have hO := hO.grow hg
 have leG13 := hg.le
 obtain ⟨y17, hy17, H⟩ := bnd H; refine zO rfl (zC cb16 (f16_ok (x0 := y11) (x1 := 2) (x2 := 3) hS.sat h14 h15 h16 hy17) rfl rfl (fun w18 hb => ?_)); have hS := hS.keep hb; have hO := hO.below hb; refine zx (.tuple #[.agg #[zi y17.1.Low, zi y17.1.High], zi y17.2]) rfl rfl ?_; refine zV (zX (v := (.agg #[zi y17.1.Low, zi y17.1.High])) rfl rfl) rfl ?_; refine zV (zX (v := (zi y17.2)) rfl rfl) rfl ?_
 refine zO rfl (zU (v := fun b => zp b) (cs := [zi 0, zi 0]) (e := 46) (by kernel_rfl) hS.sat hO rfl 2 1 rfl (by decide) (fun b19 w20 hb hO => ?_))
 have hS := hS.keep hb; refine zO rfl (OpP_store (vs := [zi y17.1.Low, zi y17.1.High]) sz46 hS hO (k := 0) rfl rfl rfl rfl rfl (one_all rfl) (Nat.le_of_ble_eq_true rfl) (fun w22 hS hO => ?_))
 have hO : Owns _ _ _ ([zb 46 2 b19 [zi y17.1.Low, zi y17.1.High]]) := hO
 obtain ⟨G23, leG23, hS, hO, hqG23, _⟩ := hO.freeze hS (k := 0) rfl
 have hcG23 : Cells G23 b19 0 [zi y17.1.Low, zi y17.1.High] := (hqG23 _ _ _ _ rfl)
 refine zy (zi y17.2) rfl rfl ?_; refine zN ?_; refine zS ?_; obtain ⟨y24, hy24, H⟩ := bnd H; refine zO rfl (OpP_callG cb18 (f18_ok  hS.sat  hy24) rfl rfl (fun vy24 G26 w25 hg hvy24 => ?_)); obtain ⟨a27, n27, c27, a28, n28, c28, a29, n29, c29, ⟨⟩, h27, h28, h29⟩ := hvy24; have hS := hS.grow hg; have hO := hO.grow hg
 have leG26 := hg.le
 obtain ⟨y30, hy30, H⟩ := bnd H; refine zO rfl (OpP_callG cb17 (f17_ok (x0 := y24) hS.sat h27 h28 h29 hy30) rfl rfl (fun vy30 G32 w31 hg hvy30 => ?_)); obtain ⟨a33, n33, c33, ⟨⟩, h33⟩ := hvy30; have hS := hS.grow hg; have hO := hO.grow hg
 have leG32 := hg.le
 refine zx (.tuple #[zl a33 n33 c33, zi y30.2]) rfl rfl ?_; refine zV (zX (v := (zl a33 n33 c33)) rfl rfl) rfl ?_; refine zV (zX (v := (zi y30.2)) rfl rfl) rfl ?_; refine zy (zl a33 n33 c33) rfl rfl ?_; refine zy (zi y30.2) rfl rfl ?_; refine zN ?_; refine zS ?_; obtain ⟨y34, hy34, H⟩ := bnd H; refine zO rfl (OpP_callG cb18 (f18_ok  hS.sat  hy34) rfl rfl (fun vy34 G36 w35 hg hvy34 => ?_)); obtain ⟨a37, n37, c37, a38, n38, c38, a39, n39, c39, ⟨⟩, h37, h38, h39⟩ := hvy34; have hS := hS.grow hg; have hO := hO.grow hg
 have leG36 := hg.le
 obtain ⟨y40, hy40, H⟩ := bnd H; refine zO rfl (OpP_callG cb19 (f19_ok (x0 := y34) hS.sat h37 h38 h39 hy40) rfl rfl (fun vy40 G42 w41 hg hvy40 => ?_)); obtain ⟨a43, n43, c43, ⟨⟩, h43⟩ := hvy40; have hS := hS.grow hg; have hO := hO.grow hg
 have leG42 := hg.le
 refine zx (.tuple #[zl a43 n43 c43, zi y40.2]) rfl rfl ?_; refine zV (zX (v := (zl a43 n43 c43)) rfl rfl) rfl ?_; refine zV (zX (v := (zi y40.2)) rfl rfl) rfl ?_; refine zy (zl a43 n43 c43) rfl rfl ?_; refine zy (zi y40.2) rfl rfl ?_; refine zN ?_; refine zS ?_; obtain ⟨y44, hy44, H⟩ := bnd H; refine zO rfl (OpP_callG cb15 (f15_ok  hS.sat  hy44) rfl rfl (fun vy44 G46 w45 hg hvy44 => ?_)); obtain ⟨a47, n47, c47, a48, n48, c48, a49, n49, c49, ⟨⟩, h47, h48, h49⟩ := hvy44; have hS := hS.grow hg; have hO := hO.grow hg
 have leG46 := hg.le
 obtain ⟨y50, hy50, H⟩ := bnd H; refine zO rfl (OpP_callG cb20 (f20_ok (x0 := y44) (x1 := 0) hS.sat h47 h48 h49 hy50) rfl rfl (fun vy50 G52 w51 hg hvy50 => ?_)); obtain ⟨a53, n53, c53, ⟨⟩, h53⟩ := hvy50; have hS := hS.grow hg; have hO := hO.grow hg
 have leG52 := hg.le
 refine zx (.tuple #[zl a53 n53 c53, zi y50.2.1, zi y50.2.2]) rfl rfl ?_; refine zV (zX (v := (zl a53 n53 c53)) rfl rfl) rfl ?_; refine zV (zX (v := (zi y50.2.1)) rfl rfl) rfl ?_; refine zV (zX (v := (zi y50.2.2)) rfl rfl) rfl ?_; refine zy (zl a53 n53 c53) rfl rfl ?_; refine zy (zi y50.2.1) rfl rfl ?_; refine zy (zi y50.2.2) rfl rfl ?_; refine zN ?_; refine zS ?_; obtain ⟨y54, hy54, H⟩ := bnd H; refine zO rfl (OpP_callG cb15 (f15_ok  hS.sat  hy54) rfl rfl (fun vy54 G56 w55 hg hvy54 => ?_)); obtain ⟨a57, n57, c57, a58, n58, c58, a59, n59, c59, ⟨⟩, h57, h58, h59⟩ := hvy54; have hS := hS.grow hg; have hO := hO.grow hg
 have leG56 := hg.le
 obtain ⟨y60, hy60, H⟩ := bnd H
 have l0_11 := (((((((((leG3.trans leG9).trans leG13).trans leG23).trans leG26).trans leG32).trans leG36).trans leG42).trans leG46).trans leG52).trans leG56
 refine zO rfl (zC cb8 (f8_ok (x0 := y54) hS.sat (hT.mono l0_11) h57 h58 h59 hy60) rfl rfl (fun w61 hb => ?_)); have hS := hS.keep hb; have hO := hO.below hb; refine zx (.tuple #[.string ⟨y60.1.toArray⟩, zi y60.2]) rfl rfl ?_; refine zV (zX (v := (.string ⟨y60.1.toArray⟩)) rfl rfl) rfl ?_; refine zV (zX (v := (zi y60.2)) rfl rfl) rfl ?_; refine zy (.string ⟨y60.1.toArray⟩) rfl rfl ?_; refine zy (zi y60.2) rfl rfl ?_; refine zN ?_; refine zQ ?_; refine zQ ?_; obtain ⟨q62, hq62, H⟩ := bnd H; refine zM (fun F w => ∃ (Fb : Fr), F = upds Fb [(1, zl a10 n10 c10), (3, zp b19), (5, zl a33 n33 c33), (7, zl a43 n43 c43), (9, zl a53 n53 c53), (10, zi y50.2.1), (12, .string ⟨y60.1.toArray⟩), (66, .bool q62)] ∧ w61 = w) ?_ ?_
 ·have Hoq62 := H; have H := hq62; refine zR ?_; refine zx (zi y7.2) rfl rfl ?_; refine zV (rn_neq rfl rfl) rfl ?_; refine zx (.bool (y7.2 != 0)) rfl rfl ?_
  rcases bcases (y7.2 != 0) with hb63 | hb63
  ·have H := ifT hb63 H; refine zG rfl hb63 rfl rfl rfl ?_; refine zG rfl hb63 rfl rfl rfl ?_; refine zV (rn_pickT (v := (.bool true)) rfl hb63 rfl) rfl ?_; refine zx (.bool true) rfl rfl ?_; refine zG rfl rfl rfl rfl rfl ?_; refine zG rfl rfl rfl rfl rfl ?_; refine zV (rn_pickT (v := (.bool true)) rfl rfl rfl) rfl ?_; refine zx (.bool true) rfl rfl ?_; refine zG rfl rfl rfl rfl rfl ?_; refine zG rfl rfl rfl rfl rfl ?_; refine zV (rn_pickT (v := (.bool true)) rfl rfl rfl) rfl ?_; refine zx (.bool true) rfl rfl ?_; refine zG rfl rfl rfl rfl rfl ?_; refine zG rfl rfl rfl rfl rfl ?_; refine zV (rn_pickT (v := (.bool true)) rfl rfl rfl) rfl ?_; refine zx (.bool true) rfl rfl ?_; refine zG rfl rfl rfl rfl rfl ?_; refine zG rfl rfl rfl rfl rfl ?_; refine zV (rn_pickT (v := (.bool true)) rfl rfl rfl) rfl ?_; refine zN ?_; have H := oi H; subst H
   exact ⟨_, upds_self _ _ ⟨rfl, rfl, rfl, rfl, rfl, rfl, rfl, rfl, trivial⟩, rfl⟩
  ·have H := ifF hb63 H; refine zY rfl hb63 rfl rfl ?_; refine zx (zi y17.2) rfl rfl ?_; refine zY rfl hb63 rfl rfl ?_; refine zV (rn_neq rfl rfl) rfl ?_; refine zV (rn_pickF (v := (.bool (y17.2 != 0))) rfl hb63 rfl) rfl ?_; refine zx (.bool (y17.2 != 0)) rfl rfl ?_
   rcases bcases (y17.2 != 0) with hb64 | hb64
   ·have H := ifT hb64 H; refine zG rfl hb64 rfl rfl rfl ?_; refine zG rfl hb64 rfl rfl rfl ?_; refine zV (rn_pickT (v := (.bool true)) rfl hb64 rfl) rfl ?_; refine zx (.bool true) rfl rfl ?_; refine zG rfl rfl rfl rfl rfl ?_; refine zG rfl rfl rfl rfl rfl ?_; refine zV (rn_pickT (v := (.bool true)) rfl rfl rfl) rfl ?_; refine zx (.bool true) rfl rfl ?_; refine zG rfl rfl rfl rfl rfl ?_; refine zG rfl rfl rfl rfl rfl ?_; refine zV (rn_pickT (v := (.bool true)) rfl rfl rfl) rfl ?_; refine zx (.bool true) rfl rfl ?_; refine zG rfl rfl rfl rfl rfl ?_; refine zG rfl rfl rfl rfl rfl ?_; refine zV (rn_pickT (v := (.bool true)) rfl rfl rfl) rfl ?_; refine zN ?_; have H := oi H; subst H
    exact ⟨_, upds_self _ _ ⟨rfl, rfl, rfl, rfl, rfl, rfl, rfl, rfl, trivial⟩, rfl⟩
   ·have H := ifF hb64 H; refine zY rfl hb64 rfl rfl ?_; refine zx (zi y30.2) rfl rfl ?_; refine zY rfl hb64 rfl rfl ?_; refine zV (rn_neq rfl rfl) rfl ?_; refine zV (rn_pickF (v := (.bool (y30.2 != 0))) rfl hb64 rfl) rfl ?_; refine zx (.bool (y30.2 != 0)) rfl rfl ?_
    rcases bcases (y30.2 != 0) with hb65 | hb65
    ·have H := ifT hb65 H; refine zG rfl hb65 rfl rfl rfl ?_; refine zG rfl hb65 rfl rfl rfl ?_; refine zV (rn_pickT (v := (.bool true)) rfl hb65 rfl) rfl ?_; refine zx (.bool true) rfl rfl ?_; refine zG rfl rfl rfl rfl rfl ?_; refine zG rfl rfl rfl rfl rfl ?_; refine zV (rn_pickT (v := (.bool true)) rfl rfl rfl) rfl ?_; refine zx (.bool true) rfl rfl ?_; refine zG rfl rfl rfl rfl rfl ?_; refine zG rfl rfl rfl rfl rfl ?_; refine zV (rn_pickT (v := (.bool true)) rfl rfl rfl) rfl ?_; refine zN ?_; have H := oi H; subst H
     exact ⟨_, upds_self _ _ ⟨rfl, rfl, rfl, rfl, rfl, rfl, rfl, rfl, trivial⟩, rfl⟩
    ·have H := ifF hb65 H; refine zY rfl hb65 rfl rfl ?_; refine zx (zi y40.2) rfl rfl ?_; refine zY rfl hb65 rfl rfl ?_; refine zV (rn_neq rfl rfl) rfl ?_; refine zV (rn_pickF (v := (.bool (y40.2 != 0))) rfl hb65 rfl) rfl ?_; refine zx (.bool (y40.2 != 0)) rfl rfl ?_
     rcases bcases (y40.2 != 0) with hb66 | hb66
     ·have H := ifT hb66 H; refine zG rfl hb66 rfl rfl rfl ?_; refine zG rfl hb66 rfl rfl rfl ?_; refine zV (rn_pickT (v := (.bool true)) rfl hb66 rfl) rfl ?_; refine zx (.bool true) rfl rfl ?_; refine zG rfl rfl rfl rfl rfl ?_; refine zG rfl rfl rfl rfl rfl ?_; refine zV (rn_pickT (v := (.bool true)) rfl rfl rfl) rfl ?_; refine zN ?_; have H := oi H; subst H
      exact ⟨_, upds_self _ _ ⟨rfl, rfl, rfl, rfl, rfl, rfl, rfl, rfl, trivial⟩, rfl⟩
     ·have H := ifF hb66 H; refine zY rfl hb66 rfl rfl ?_; refine zx (zi y50.2.2) rfl rfl ?_; refine zY rfl hb66 rfl rfl ?_; refine zV (rn_neq rfl rfl) rfl ?_; refine zV (rn_pickF (v := (.bool (y50.2.2 != 0))) rfl hb66 rfl) rfl ?_; refine zx (.bool (y50.2.2 != 0)) rfl rfl ?_
      rcases bcases (y50.2.2 != 0) with hb67 | hb67
      ·have H := ifT hb67 H; refine zG rfl hb67 rfl rfl rfl ?_; refine zG rfl hb67 rfl rfl rfl ?_; refine zV (rn_pickT (v := (.bool true)) rfl hb67 rfl) rfl ?_; refine zN ?_; have H := oi H; subst H
       exact ⟨_, upds_self _ _ ⟨rfl, rfl, rfl, rfl, rfl, rfl, rfl, rfl, trivial⟩, rfl⟩
      ·have H := ifF hb67 H; refine zY rfl hb67 rfl rfl ?_; refine zx (zi y60.2) rfl rfl ?_; refine zY rfl hb67 rfl rfl ?_; refine zV (rn_neq rfl rfl) rfl ?_; refine zV (rn_pickF (v := (.bool (y60.2 != 0))) rfl hb67 rfl) rfl ?_; refine zN ?_; have H := oi H; subst H
       exact ⟨_, upds_self _ _ ⟨rfl, rfl, rfl, rfl, rfl, rfl, rfl, rfl, trivial⟩, rfl⟩
 ·rintro F wl ⟨Fb, rfl, rfl⟩
  refine zT rfl (fun hb70 => ?_) (fun hb70 => ?_)
  ·have H := ifT hb70 H; refine zS ?_; refine zy (.bool false) rfl rfl ?_; refine zN ?_; refine WC_ret ?_
   have H : some false = some r := H
   have H := oi H; subst H
   exact ⟨rfl, hS.below⟩
  ·have H := ifF hb70 H; refine zP ?_; refine zQ ?_; obtain ⟨q71, hq71, H⟩ := bnd H; refine zM (fun F w => ∃ (Fb : Fr) (G : Gm), F = upds Fb [(0, .bool q71)] ∧ Gle G56 G ∧ Since w0.heap.size G0 w0 G w ∧ Owns G w w0.heap.size []) ?_ ?_
   ·have Hoq71 := H; have H := hq71; refine zR ?_; refine zx (zl a10 n10 c10) rfl rfl ?_
    refine zO rfl (zW (v := fun b => zl (some ⟨b, 0, none⟩) 4 4) (cs := [zi 0, zi 10, zi 15, zi 7]) (e := 3) (by kernel_rfl) hS.sat rfl (fun b72 G74 w73 hg hcb72 => ?_))
    have hS := hS.grow hg; have hO := hO.grow hg
    have leG74 := hg.le
    have hfb72 : RSl RInt 1 G74 (some ⟨b72, 0, none⟩) 4 4 [0, 10, 15, 7] := RSl.of_rd hcb72 (Rd.cons (c := [zi 0]) rfl rfl (Rd.cons (c := [zi 10]) rfl rfl (Rd.cons (c := [zi 15]) rfl rfl (Rd.cons (c := [zi 7]) rfl rfl (Rd.nil RInt 1 _))))) rfl (by decide)
    obtain ⟨y75, hy75, H⟩ := bnd H
    have l2_12 := ((((((((leG13.trans leG23).trans leG26).trans leG32).trans leG36).trans leG42).trans leG46).trans leG52).trans leG56).trans leG74
    refine zO rfl (zC cb21 (f21_ok (x0 := y7.1) (x1 := [0, 10, 15, 7]) hS.sat (h10.mono RInt_mono l2_12) hfb72 hy75) rfl rfl (fun w76 hb => ?_)); have hS := hS.keep hb; have hO := hO.below hb; refine zx (.bool y75) rfl rfl ?_
    rcases bcases y75 with hb77 | hb77
    ·have H := ifT hb77 H; refine zY rfl hb77 rfl rfl ?_
     have l4_12 := ((((((leG26.trans leG32).trans leG36).trans leG42).trans leG46).trans leG52).trans leG56).trans leG74
     refine zV (rn_loadA ag46 (cs := [zi y17.1.Low, zi y17.1.High]) rfl rfl (fun j v hj => (hS.sat.le l4_12).cell (hcG23.drop_take 0 2 j v hj))) rfl ?_; refine zY rfl hb77 rfl rfl ?_
     refine zV (v := (.agg #[zi (-9), zi (-5)])) (by kernel_rfl) rfl ?_
     refine zY rfl hb77 rfl rfl ?_; refine zV (rn_eqlA (xs := [y17.1.Low, y17.1.High]) (ys := [(-9), (-5)]) in46 rfl rfl rfl rfl) rfl ?_; refine zV (rn_pickT (v := (.bool (([y17.1.Low, y17.1.High] : List Int) == [(-9), (-5)]))) rfl hb77 rfl) rfl ?_; refine zx (.bool (([y17.1.Low, y17.1.High] : List Int) == [(-9), (-5)])) rfl rfl ?_
     rcases bcases (([y17.1.Low, y17.1.High] : List Int) == [(-9), (-5)]) with hb78 | hb78
     ·have H := ifT hb78 H; refine zY rfl hb78 rfl rfl ?_; refine zx (zl a33 n33 c33) rfl rfl ?_; refine zY rfl hb78 rfl rfl ?_
      refine zO rfl (zW (v := fun b => zl (some ⟨b, 0, none⟩) 3 3) (cs := [zi 1, zi 2, zi 4]) (e := 3) (by kernel_rfl) hS.sat rfl (fun b79 G81 w80 hg hcb79 => ?_))
      have hS := hS.grow hg; have hO := hO.grow hg
      have leG81 := hg.le
      have hfb79 : RSl RInt 1 G81 (some ⟨b79, 0, none⟩) 3 3 [1, 2, 4] := RSl.of_rd hcb79 (Rd.cons (c := [zi 1]) rfl rfl (Rd.cons (c := [zi 2]) rfl rfl (Rd.cons (c := [zi 4]) rfl rfl (Rd.nil RInt 1 _)))) rfl (by decide)
      refine zY rfl hb78 rfl rfl ?_; obtain ⟨y82, hy82, H⟩ := bnd H
      have l6_13 := (((((leG36.trans leG42).trans leG46).trans leG52).trans leG56).trans leG74).trans leG81
      refine zO rfl (zC cb21 (f21_ok (x0 := y30.1) (x1 := [1, 2, 4]) hS.sat (h33.mono RInt_mono l6_13) hfb79 hy82) rfl rfl (fun w83 hb => ?_)); have hS := hS.keep hb; have hO := hO.below hb; refine zV (rn_pickT (v := (.bool y82)) rfl hb78 rfl) rfl ?_; refine zx (.bool y82) rfl rfl ?_
      rcases bcases y82 with hb84 | hb84
      ·have H := ifT hb84 H; refine zY rfl hb84 rfl rfl ?_; refine zx (zl a43 n43 c43) rfl rfl ?_; refine zY rfl hb84 rfl rfl ?_
       refine zO rfl (zW (v := fun b => zl (some ⟨b, 0, none⟩) 1 1) (cs := [zi 1]) (e := 3) (by kernel_rfl) hS.sat rfl (fun b85 G87 w86 hg hcb85 => ?_))
       have hS := hS.grow hg; have hO := hO.grow hg
       have leG87 := hg.le
       have hfb85 : RSl RInt 1 G87 (some ⟨b85, 0, none⟩) 1 1 [1] := RSl.of_rd hcb85 (Rd.cons (c := [zi 1]) rfl rfl (Rd.nil RInt 1 _)) rfl (by decide)
       refine zY rfl hb84 rfl rfl ?_; obtain ⟨y88, hy88, H⟩ := bnd H
       have l8_14 := ((((leG46.trans leG52).trans leG56).trans leG74).trans leG81).trans leG87
       refine zO rfl (zC cb21 (f21_ok (x0 := y40.1) (x1 := [1]) hS.sat (h43.mono RInt_mono l8_14) hfb85 hy88) rfl rfl (fun w89 hb => ?_)); have hS := hS.keep hb; have hO := hO.below hb; refine zV (rn_pickT (v := (.bool y88)) rfl hb84 rfl) rfl ?_; refine zx (.bool y88) rfl rfl ?_
       rcases bcases y88 with hb90 | hb90
       ·have H := ifT hb90 H; refine zY rfl hb90 rfl rfl ?_; refine zx (zl a53 n53 c53) rfl rfl ?_; refine zY rfl hb90 rfl rfl ?_
        refine zO rfl (zW (v := fun b => zl (some ⟨b, 0, none⟩) 3 3) (cs := [zi 0, zi 1, zi 2]) (e := 3) (by kernel_rfl) hS.sat rfl (fun b91 G93 w92 hg hcb91 => ?_))
        have hS := hS.grow hg; have hO := hO.grow hg
        have leG93 := hg.le
        have hfb91 : RSl RInt 1 G93 (some ⟨b91, 0, none⟩) 3 3 [0, 1, 2] := RSl.of_rd hcb91 (Rd.cons (c := [zi 0]) rfl rfl (Rd.cons (c := [zi 1]) rfl rfl (Rd.cons (c := [zi 2]) rfl rfl (Rd.nil RInt 1 _)))) rfl (by decide)
        refine zY rfl hb90 rfl rfl ?_; obtain ⟨y94, hy94, H⟩ := bnd H
        have l10_15 := (((leG56.trans leG74).trans leG81).trans leG87).trans leG93
        refine zO rfl (zC cb21 (f21_ok (x0 := y50.1) (x1 := [0, 1, 2]) hS.sat (h53.mono RInt_mono l10_15) hfb91 hy94) rfl rfl (fun w95 hb => ?_)); have hS := hS.keep hb; have hO := hO.below hb; refine zV (rn_pickT (v := (.bool y94)) rfl hb90 rfl) rfl ?_; refine zx (.bool y94) rfl rfl ?_
        rcases bcases y94 with hb96 | hb96
        ·have H := ifT hb96 H; refine zY rfl hb96 rfl rfl ?_; refine zx (zi y50.2.1) rfl rfl ?_; refine zY rfl hb96 rfl rfl ?_; refine zV (rn_eql rfl rfl) rfl ?_; refine zV (rn_pickT (v := (.bool (y50.2.1 == (-1)))) rfl hb96 rfl) rfl ?_; refine zx (.bool (y50.2.1 == (-1))) rfl rfl ?_
         rcases bcases (y50.2.1 == (-1)) with hb97 | hb97
         ·have H := ifT hb97 H; refine zY rfl hb97 rfl rfl ?_; refine zx (.string ⟨y60.1.toArray⟩) rfl rfl ?_; refine zY rfl hb97 rfl rfl ?_; refine zV (rn_eqlS rfl rfl) rfl ?_; refine zV (rn_pickT (v := (.bool (y60.1 == ([108, 97, 110, 100, 32, 52, 32, 52, 32, 52, 10, 112, 101, 114, 115, 111, 110, 32, 45, 32, 45, 10, 112, 101, 114, 115, 111, 110, 32, 48, 32, 45, 10, 112, 101, 114, 115, 111, 110, 32, 49, 32, 45, 10, 112, 101, 114, 115, 111, 110, 32, 45, 32, 48, 10, 101, 118, 101, 110, 116, 32, 48, 32, 48, 10, 101, 118, 101, 110, 116, 32, 48, 32, 49, 10, 101, 118, 101, 110, 116, 32, 48, 32, 50, 10, 101, 118, 101, 110, 116, 32, 49, 32, 49, 10, 109, 101, 109, 111, 114, 121, 32, 48, 32, 49, 32, 49, 48, 32, 50, 48, 10, 109, 101, 109, 111, 114, 121, 32, 49, 32, 50, 32, 53, 32, 56, 10, 109, 101, 109, 111, 114, 121, 32, 48, 32, 50, 32, 49, 50, 32, 49, 54, 10, 109, 101, 109, 111, 114, 121, 32, 49, 32, 51, 32, 45, 51, 32, 48, 10, 101, 110, 100, 32, 51, 54, 10] : List UInt8)))) rfl hb97 rfl) rfl ?_; refine zy (.bool (y60.1 == ([108, 97, 110, 100, 32, 52, 32, 52, 32, 52, 10, 112, 101, 114, 115, 111, 110, 32, 45, 32, 45, 10, 112, 101, 114, 115, 111, 110, 32, 48, 32, 45, 10, 112, 101, 114, 115, 111, 110, 32, 49, 32, 45, 10, 112, 101, 114, 115, 111, 110, 32, 45, 32, 48, 10, 101, 118, 101, 110, 116, 32, 48, 32, 48, 10, 101, 118, 101, 110, 116, 32, 48, 32, 49, 10, 101, 118, 101, 110, 116, 32, 48, 32, 50, 10, 101, 118, 101, 110, 116, 32, 49, 32, 49, 10, 109, 101, 109, 111, 114, 121, 32, 48, 32, 49, 32, 49, 48, 32, 50, 48, 10, 109, 101, 109, 111, 114, 121, 32, 49, 32, 50, 32, 53, 32, 56, 10, 109, 101, 109, 111, 114, 121, 32, 48, 32, 50, 32, 49, 50, 32, 49, 54, 10, 109, 101, 109, 111, 114, 121, 32, 49, 32, 51, 32, 45, 51, 32, 48, 10, 101, 110, 100, 32, 51, 54, 10] : List UInt8))) rfl rfl ?_; refine zN ?_
          have hO : Owns _ _ _ ([]) := hO
          have H := oi H; subst H
          have l11_15 := ((leG74.trans leG81).trans leG87).trans leG93
          exact ⟨_, G93, upds_self _ _ ⟨rfl, trivial⟩, l11_15, hS, hO⟩
         ·have H := ifF hb97 H; refine zG rfl hb97 rfl rfl rfl ?_; refine zG rfl hb97 rfl rfl rfl ?_; refine zV (rn_pickF (v := (.bool false)) rfl hb97 rfl) rfl ?_; refine zy (.bool false) rfl rfl ?_; refine zN ?_
          have hO : Owns _ _ _ ([]) := hO
          have H := oi H; subst H
          have l11_15 := ((leG74.trans leG81).trans leG87).trans leG93
          exact ⟨_, G93, upds_self _ _ ⟨rfl, trivial⟩, l11_15, hS, hO⟩
        ·have H := ifF hb96 H; refine zG rfl hb96 rfl rfl rfl ?_; refine zG rfl hb96 rfl rfl rfl ?_; refine zV (rn_pickF (v := (.bool false)) rfl hb96 rfl) rfl ?_; refine zx (.bool false) rfl rfl ?_; refine zG rfl rfl rfl rfl rfl ?_; refine zG rfl rfl rfl rfl rfl ?_; refine zV (rn_pickF (v := (.bool false)) rfl rfl rfl) rfl ?_; refine zy (.bool false) rfl rfl ?_; refine zN ?_
         have hO : Owns _ _ _ ([]) := hO
         have H := oi H; subst H
         have l11_15 := ((leG74.trans leG81).trans leG87).trans leG93
         exact ⟨_, G93, upds_self _ _ ⟨rfl, trivial⟩, l11_15, hS, hO⟩
       ·have H := ifF hb90 H; refine zG rfl hb90 rfl rfl rfl ?_; refine zG rfl hb90 rfl rfl rfl ?_; refine zG rfl hb90 rfl rfl rfl ?_; refine zV (rn_pickF (v := (.bool false)) rfl hb90 rfl) rfl ?_; refine zx (.bool false) rfl rfl ?_; refine zG rfl rfl rfl rfl rfl ?_; refine zG rfl rfl rfl rfl rfl ?_; refine zV (rn_pickF (v := (.bool false)) rfl rfl rfl) rfl ?_; refine zx (.bool false) rfl rfl ?_; refine zG rfl rfl rfl rfl rfl ?_; refine zG rfl rfl rfl rfl rfl ?_; refine zV (rn_pickF (v := (.bool false)) rfl rfl rfl) rfl ?_; refine zy (.bool false) rfl rfl ?_; refine zN ?_
        have hO : Owns _ _ _ ([]) := hO
        have H := oi H; subst H
        have l11_14 := (leG74.trans leG81).trans leG87
        exact ⟨_, G87, upds_self _ _ ⟨rfl, trivial⟩, l11_14, hS, hO⟩
      ·have H := ifF hb84 H; refine zG rfl hb84 rfl rfl rfl ?_; refine zG rfl hb84 rfl rfl rfl ?_; refine zG rfl hb84 rfl rfl rfl ?_; refine zV (rn_pickF (v := (.bool false)) rfl hb84 rfl) rfl ?_; refine zx (.bool false) rfl rfl ?_; refine zG rfl rfl rfl rfl rfl ?_; refine zG rfl rfl rfl rfl rfl ?_; refine zG rfl rfl rfl rfl rfl ?_; refine zV (rn_pickF (v := (.bool false)) rfl rfl rfl) rfl ?_; refine zx (.bool false) rfl rfl ?_; refine zG rfl rfl rfl rfl rfl ?_; refine zG rfl rfl rfl rfl rfl ?_; refine zV (rn_pickF (v := (.bool false)) rfl rfl rfl) rfl ?_; refine zx (.bool false) rfl rfl ?_; refine zG rfl rfl rfl rfl rfl ?_; refine zG rfl rfl rfl rfl rfl ?_; refine zV (rn_pickF (v := (.bool false)) rfl rfl rfl) rfl ?_; refine zy (.bool false) rfl rfl ?_; refine zN ?_
       have hO : Owns _ _ _ ([]) := hO
       have H := oi H; subst H
       have l11_13 := leG74.trans leG81
       exact ⟨_, G81, upds_self _ _ ⟨rfl, trivial⟩, l11_13, hS, hO⟩
     ·have H := ifF hb78 H; refine zG rfl hb78 rfl rfl rfl ?_; refine zG rfl hb78 rfl rfl rfl ?_; refine zG rfl hb78 rfl rfl rfl ?_; refine zV (rn_pickF (v := (.bool false)) rfl hb78 rfl) rfl ?_; refine zx (.bool false) rfl rfl ?_; refine zG rfl rfl rfl rfl rfl ?_; refine zG rfl rfl rfl rfl rfl ?_; refine zG rfl rfl rfl rfl rfl ?_; refine zV (rn_pickF (v := (.bool false)) rfl rfl rfl) rfl ?_; refine zx (.bool false) rfl rfl ?_; refine zG rfl rfl rfl rfl rfl ?_; refine zG rfl rfl rfl rfl rfl ?_; refine zG rfl rfl rfl rfl rfl ?_; refine zV (rn_pickF (v := (.bool false)) rfl rfl rfl) rfl ?_; refine zx (.bool false) rfl rfl ?_; refine zG rfl rfl rfl rfl rfl ?_; refine zG rfl rfl rfl rfl rfl ?_; refine zV (rn_pickF (v := (.bool false)) rfl rfl rfl) rfl ?_; refine zx (.bool false) rfl rfl ?_; refine zG rfl rfl rfl rfl rfl ?_; refine zG rfl rfl rfl rfl rfl ?_; refine zV (rn_pickF (v := (.bool false)) rfl rfl rfl) rfl ?_; refine zy (.bool false) rfl rfl ?_; refine zN ?_
      have hO : Owns _ _ _ ([]) := hO
      have H := oi H; subst H
      exact ⟨_, G74, upds_self _ _ ⟨rfl, trivial⟩, leG74, hS, hO⟩
    ·have H := ifF hb77 H; refine zG rfl hb77 rfl rfl rfl ?_; refine zG rfl hb77 rfl rfl rfl ?_; refine zG rfl hb77 rfl rfl rfl ?_; refine zV (rn_pickF (v := (.bool false)) rfl hb77 rfl) rfl ?_; refine zx (.bool false) rfl rfl ?_; refine zG rfl rfl rfl rfl rfl ?_; refine zG rfl rfl rfl rfl rfl ?_; refine zG rfl rfl rfl rfl rfl ?_; refine zV (rn_pickF (v := (.bool false)) rfl rfl rfl) rfl ?_; refine zx (.bool false) rfl rfl ?_; refine zG rfl rfl rfl rfl rfl ?_; refine zG rfl rfl rfl rfl rfl ?_; refine zG rfl rfl rfl rfl rfl ?_; refine zV (rn_pickF (v := (.bool false)) rfl rfl rfl) rfl ?_; refine zx (.bool false) rfl rfl ?_; refine zG rfl rfl rfl rfl rfl ?_; refine zG rfl rfl rfl rfl rfl ?_; refine zG rfl rfl rfl rfl rfl ?_; refine zV (rn_pickF (v := (.bool false)) rfl rfl rfl) rfl ?_; refine zx (.bool false) rfl rfl ?_; refine zG rfl rfl rfl rfl rfl ?_; refine zG rfl rfl rfl rfl rfl ?_; refine zV (rn_pickF (v := (.bool false)) rfl rfl rfl) rfl ?_; refine zx (.bool false) rfl rfl ?_; refine zG rfl rfl rfl rfl rfl ?_; refine zG rfl rfl rfl rfl rfl ?_; refine zV (rn_pickF (v := (.bool false)) rfl rfl rfl) rfl ?_; refine zy (.bool false) rfl rfl ?_; refine zN ?_
     have hO : Owns _ _ _ ([]) := hO
     have H := oi H; subst H
     exact ⟨_, G74, upds_self _ _ ⟨rfl, trivial⟩, leG74, hS, hO⟩
   ·rintro F w98 ⟨Fb, G99, rfl, leG99, hS, hO⟩
    refine WC_ret ?_
    have H : some q71 = some r := H
    have H := oi H; subst H
    exact ⟨rfl, hS.below⟩
set_option maxHeartbeats 1000000 in
theorem f24_ok {G0 : Gm} {w0 : World} (hS0 : Sat G0 w0) {x0 : Int} {x1 : Int} {x2 : Int}  {r : Bool} (H : f24 x0 x1 x2 = some r) :
  Calls Tryz.prog 24 #[zi x0, zi x1, zi x2] w0 (RetV w0 (.bool r)) := by
 have hS := Since.start hS0
 have hO : Owns G0 w0 w0.heap.size [] := Owns.nil (Nat.le_refl _)
 unfold f24 at H
 refine enter1 (N := 15) (shutV _ _) Tryz.func24 rfl rfl rfl rfl ?_; refine zS ?_; refine zy (.bool false) rfl rfl ?_; refine zN ?_; refine zQ ?_; obtain ⟨q1, hq1, H⟩ := bnd H; refine zM (fun F w => ∃ (Fb : Fr), F = upds Fb [(6, .bool q1)] ∧ w0 = w) ?_ ?_
 ·have Hoq1 := H; have H := hq1; refine zR ?_; refine zx (zi x0) rfl rfl ?_; refine zx (zi x1) rfl rfl ?_; refine zV (rn_geq rfl rfl) rfl ?_; refine zx (.bool (decide (x1 ≤ x0))) rfl rfl ?_
  rcases bcases (decide (x1 ≤ x0)) with hb2 | hb2
  ·have H := ifT hb2 H; refine zY rfl hb2 rfl rfl ?_; refine zx (zi x0) rfl rfl ?_; refine zY rfl hb2 rfl rfl ?_; refine zx (zi x2) rfl rfl ?_; refine zY rfl hb2 rfl rfl ?_; refine zV (rn_leq rfl rfl) rfl ?_; refine zV (rn_pickT (v := (.bool (decide (x0 ≤ x2)))) rfl hb2 rfl) rfl ?_; refine zy (.bool (decide (x0 ≤ x2))) rfl rfl ?_; refine zN ?_; have H := oi H; subst H
   exact ⟨_, upds_self _ _ ⟨rfl, trivial⟩, rfl⟩
  ·have H := ifF hb2 H; refine zG rfl hb2 rfl rfl rfl ?_; refine zG rfl hb2 rfl rfl rfl ?_; refine zG rfl hb2 rfl rfl rfl ?_; refine zV (rn_pickF (v := (.bool false)) rfl hb2 rfl) rfl ?_; refine zy (.bool false) rfl rfl ?_; refine zN ?_; have H := oi H; subst H
   exact ⟨_, upds_self _ _ ⟨rfl, trivial⟩, rfl⟩
 ·rintro F wl ⟨Fb, rfl, rfl⟩
  refine WC_ret ?_
  have H : some q1 = some r := H
  have H := oi H; subst H
  exact ⟨rfl, hS.below⟩
set_option maxHeartbeats 1000000 in
theorem f25_ok {G0 : Gm} {w0 : World} (hS0 : Sat G0 w0) {x0 : Int}  {r : Bool} (H : f25 x0 = some r) :
  Calls Tryz.prog 25 #[zi x0] w0 (RetV w0 (.bool r)) := by
 have hS := Since.start hS0
 have hO : Owns G0 w0 w0.heap.size [] := Owns.nil (Nat.le_refl _)
 unfold f25 at H
 refine enter1 (N := 5) (shutV _ _) Tryz.func25 rfl rfl rfl rfl ?_; refine zS ?_; refine zy (.bool false) rfl rfl ?_; refine zN ?_; refine zS ?_; refine zx (zi x0) rfl rfl ?_; obtain ⟨y1, hy1, H⟩ := bnd H; refine zO rfl (zC cb24 (f24_ok (x0 := x0) (x1 := 0) (x2 := 5) hS.sat  hy1) rfl rfl (fun w2 hb => ?_)); have hS := hS.keep hb; have hO := hO.below hb; refine zy (.bool y1) rfl rfl ?_; refine zN ?_; refine WC_ret ?_
 have H : some y1 = some r := H
 have H := oi H; subst H
 exact ⟨rfl, hS.below⟩
set_option maxHeartbeats 1000000 in
theorem f26_ok {G0 : Gm} {w0 : World} (hS0 : Sat G0 w0) {x0 : TLandBook} {a1 : Option Addr} {n1 c1 : Nat} {a2 : Option Addr} {n2 c2 : Nat} {a3 : Option Addr} {n3 c3 : Nat} {x1 : Int} (h1 : RSl RTLandPerson 2 G0 a1 n1 c1 x0.People) (h2 : RSl RTLandEvent 2 G0 a2 n2 c2 x0.Events) (h3 : RSl RTLandMemory 4 G0 a3 n3 c3 x0.Memories) {r : Bool} (H : f26 x0 x1 = some r) :
  Calls Tryz.prog 26 #[.agg #[zl a1 n1 c1, zl a2 n2 c2, zl a3 n3 c3], zi x1] w0 (RetV w0 (.bool r)) := by
 have hS := Since.start hS0
 have hO : Owns G0 w0 w0.heap.size [] := Owns.nil (Nat.le_refl _)
 unfold f26 at H
 refine enter1 (N := 11) (shutV _ _) Tryz.func26 rfl rfl rfl rfl ?_; refine zS ?_; refine zO rfl (zW (v := fun b => zp b) (cs := [zl a1 n1 c1, zl a2 n2 c2, zl a3 n3 c3]) (e := 26) (rn_boxA rfl) hS.sat rfl (fun b4 G6 w5 hg hcb4 => ?_)); have hS := hS.grow hg; have hO := hO.grow hg
 have leG6 := hg.le
 refine zy (.bool false) rfl rfl ?_; refine zN ?_; refine zS ?_; refine zx (zi x1) rfl rfl ?_; refine zV (zF fd26_0 rfl) rfl ?_; refine zV (zL na22 rfl (hS.sat.cell (hcb4 0 _ rfl))) rfl ?_; refine zV (rn_len sl22 rfl rfl (h1.mono RTLandPerson_mono leG6).1) rfl ?_; refine zV (rn_sub rfl rfl) rfl ?_; obtain ⟨y7, hy7, H⟩ := bnd H; refine zO rfl (zC cb24 (f24_ok (x0 := x1) (x1 := 0) (x2 := IntKind.i64.wrap ((x0.People.length : Int) - 1)) hS.sat  hy7) rfl rfl (fun w8 hb => ?_)); have hS := hS.keep hb; have hO := hO.below hb; refine zy (.bool y7) rfl rfl ?_; refine zN ?_; refine WC_ret ?_
 have H : some y7 = some r := H
 have H := oi H; subst H
 exact ⟨rfl, hS.below⟩
set_option maxHeartbeats 1000000 in
theorem f27_ok {G0 : Gm} {w0 : World} (hS0 : Sat G0 w0) {x0 : TLandBook} {a1 : Option Addr} {n1 c1 : Nat} {a2 : Option Addr} {n2 c2 : Nat} {a3 : Option Addr} {n3 c3 : Nat} {x1 : Int} (h1 : RSl RTLandPerson 2 G0 a1 n1 c1 x0.People) (h2 : RSl RTLandEvent 2 G0 a2 n2 c2 x0.Events) (h3 : RSl RTLandMemory 4 G0 a3 n3 c3 x0.Memories) {r : Bool} (H : f27 x0 x1 = some r) :
  Calls Tryz.prog 27 #[.agg #[zl a1 n1 c1, zl a2 n2 c2, zl a3 n3 c3], zi x1] w0 (RetV w0 (.bool r)) := by
 have hS := Since.start hS0
 have hO : Owns G0 w0 w0.heap.size [] := Owns.nil (Nat.le_refl _)
 unfold f27 at H
 refine enter1 (N := 11) (shutV _ _) Tryz.func27 rfl rfl rfl rfl ?_; refine zS ?_; refine zO rfl (zW (v := fun b => zp b) (cs := [zl a1 n1 c1, zl a2 n2 c2, zl a3 n3 c3]) (e := 26) (rn_boxA rfl) hS.sat rfl (fun b4 G6 w5 hg hcb4 => ?_)); have hS := hS.grow hg; have hO := hO.grow hg
 have leG6 := hg.le
 refine zy (.bool false) rfl rfl ?_; refine zN ?_; refine zS ?_; refine zx (zi x1) rfl rfl ?_; refine zV (zF fd26_1 rfl) rfl ?_; refine zV (zL na23 rfl (hS.sat.cell (hcb4 1 _ rfl))) rfl ?_; refine zV (rn_len sl23 rfl rfl (h2.mono RTLandEvent_mono leG6).1) rfl ?_; refine zV (rn_sub rfl rfl) rfl ?_; obtain ⟨y7, hy7, H⟩ := bnd H; refine zO rfl (zC cb24 (f24_ok (x0 := x1) (x1 := 0) (x2 := IntKind.i64.wrap ((x0.Events.length : Int) - 1)) hS.sat  hy7) rfl rfl (fun w8 hb => ?_)); have hS := hS.keep hb; have hO := hO.below hb; refine zy (.bool y7) rfl rfl ?_; refine zN ?_; refine WC_ret ?_
 have H : some y7 = some r := H
 have H := oi H; subst H
 exact ⟨rfl, hS.below⟩
set_option maxHeartbeats 1000000 in
theorem f9_ok {G0 : Gm} {w0 : World} (hS0 : Sat G0 w0) {x0 : TLandBook} {a1 : Option Addr} {n1 c1 : Nat} {a2 : Option Addr} {n2 c2 : Nat} {a3 : Option Addr} {n3 c3 : Nat} (h1 : RSl RTLandPerson 2 G0 a1 n1 c1 x0.People) (h2 : RSl RTLandEvent 2 G0 a2 n2 c2 x0.Events) (h3 : RSl RTLandMemory 4 G0 a3 n3 c3 x0.Memories) {r : Bool} (H : f9 x0 = some r) :
  Calls Tryz.prog 9 #[.agg #[zl a1 n1 c1, zl a2 n2 c2, zl a3 n3 c3]] w0 (RetV w0 (.bool r)) := by
 have hS := Since.start hS0
 have hO : Owns G0 w0 w0.heap.size [] := Owns.nil (Nat.le_refl _)
 unfold f9 at H
 refine enter1 (N := 130) (shutV _ _) Tryz.func9 rfl rfl rfl rfl ?_; refine zS ?_; refine zO rfl (zW (v := fun b => zp b) (cs := [zl a1 n1 c1, zl a2 n2 c2, zl a3 n3 c3]) (e := 26) (rn_boxA rfl) hS.sat rfl (fun b4 G6 w5 hg hcb4 => ?_)); have hS := hS.grow hg; have hO := hO.grow hg
 have leG6 := hg.le
 refine zy (.bool false) rfl rfl ?_; refine zN ?_; refine zQ ?_; refine zS ?_; refine zy (zi 0) rfl rfl ?_; refine zN ?_; obtain ⟨q9, hq9, H⟩ := bnd H; refine zM (fun F w => ∃ (p8 : Unit) (Fb : Fr) (G : Gm), q9 = .inl p8 ∧ F = upds Fb [(1, zp b4)] ∧ Gle G6 G ∧ Since w0.heap.size G0 w0 G w ∧ Owns G w w0.heap.size []) ?_ ?_
 ·refine WC_block (WC_loop hq9 (fun s7 F w => ∃ (Fb : Fr) (G : Gm), F = upds Fb [(1, zp b4), (3, zi s7)] ∧ Gle G6 G ∧ Since w0.heap.size G0 w0 G w ∧ Owns G w w0.heap.size []) ?_ ?_)
  ·have hO : Owns _ _ _ ([]) := hO
   exact ⟨_, G6, upds_self _ _ ⟨rfl, rfl, trivial⟩, Gle.refl _, hS, hO⟩
  ·rintro s7 F w11 t10 ⟨Fb, G12, rfl, leG12, hS, hO⟩
   intro H1 hqq9
   have Hoq9 := H; have H := H1
   unfold f9_b0 at H
   refine zQ ?_; refine zS ?_; refine zx (zi s7) rfl rfl ?_; refine zV (zF fd26_0 rfl) rfl ?_; refine zV (zL na22 rfl ((hS.sat.le leG12).cell (hcb4 0 _ rfl))) rfl ?_
   have l0_2 := leG6.trans leG12
   refine zV (rn_len sl22 rfl rfl (h1.mono RTLandPerson_mono l0_2).1) rfl ?_; refine zV (rn_lss rfl rfl) rfl ?_; refine zN ?_; refine zT rfl (fun hb13 => ?_) (fun hb13 => ?_)
   ·have H := ifT hb13 H; refine zP ?_; refine zQ ?_; refine WC_block ?_; refine zQ ?_; obtain ⟨q14, hq14, H⟩ := bnd H; refine zM (fun F w => ∃ (Fb : Fr) (G : Gm), F = upds Fb [(1, zp b4), (3, zi s7), (35, .bool q14)] ∧ Gle G12 G ∧ Since w0.heap.size G0 w0 G w ∧ Owns G w w0.heap.size []) ?_ ?_
    ·have Hoq14 := H; have H := hq14; refine zR ?_; refine zV (zF fd26_0 rfl) rfl ?_; refine zV (zL na22 rfl ((hS.sat.le leG12).cell (hcb4 0 _ rfl))) rfl ?_; refine zx (zi s7) rfl rfl ?_; obtain ⟨y15, hy15, H⟩ := bnd H; refine WL_idx sl22 (h1.mono RTLandPerson_mono l0_2) hy15 rfl rfl rfl ?_
     rintro b16 o16 _ hcb16 _ ⟨⟩
     refine zV (zF fd54_0 rfl) rfl ?_; refine zV (zL na3 rfl (hS.sat.cell (hcb16 0 _ rfl))) rfl ?_; refine zx (zi s7) rfl rfl ?_; refine zV (rn_sub rfl rfl) rfl ?_; obtain ⟨y17, hy17, H⟩ := bnd H; refine zO rfl (zC cb24 (f24_ok (x0 := y15.Mother) (x1 := (-1)) (x2 := IntKind.i64.wrap (s7 - 1)) hS.sat  hy17) rfl rfl (fun w18 hb => ?_)); have hS := hS.keep hb; have hO := hO.below hb; refine zV (rn_not rfl) rfl ?_; refine zx (.bool (!y17)) rfl rfl ?_
     rcases bcases (!y17) with hb19 | hb19
     ·have H := ifT hb19 H; refine zG rfl hb19 rfl rfl rfl ?_; refine zG rfl hb19 rfl rfl rfl ?_; refine zG rfl hb19 rfl rfl rfl ?_; refine zG rfl hb19 rfl rfl rfl ?_; refine zG rfl hb19 rfl rfl rfl ?_; refine zG rfl hb19 rfl rfl rfl ?_; refine zG rfl hb19 rfl rfl rfl ?_; refine zG rfl hb19 rfl rfl rfl ?_; refine zG rfl hb19 rfl rfl rfl ?_; refine zG rfl hb19 rfl rfl rfl ?_; refine zV (rn_pickT (v := (.bool true)) rfl hb19 rfl) rfl ?_; refine zN ?_
      have hO : Owns _ _ _ ([]) := hO
      have H := oi H; subst H
      exact ⟨_, G12, upds_self _ _ ⟨rfl, rfl, rfl, trivial⟩, Gle.refl _, hS, hO⟩
     ·have H := ifF hb19 H; refine zY rfl hb19 rfl rfl ?_; refine zV (zF fd26_0 rfl) rfl ?_; refine zY rfl hb19 rfl rfl ?_; refine zV (zL na22 rfl ((hS.sat.le leG12).cell (hcb4 0 _ rfl))) rfl ?_; refine zY rfl hb19 rfl rfl ?_; refine zx (zi s7) rfl rfl ?_; refine zY rfl hb19 rfl rfl ?_; refine WL_idx sl22 (h1.mono RTLandPerson_mono l0_2) hy15 rfl rfl rfl ?_
      rintro b20 o20 _ hcb20 _ ⟨⟩
      refine zY rfl hb19 rfl rfl ?_; refine zV (zF fd54_1 rfl) rfl ?_; refine zY rfl hb19 rfl rfl ?_; refine zV (zL na3 rfl (hS.sat.cell (hcb20 1 _ rfl))) rfl ?_; refine zY rfl hb19 rfl rfl ?_; refine zx (zi s7) rfl rfl ?_; refine zY rfl hb19 rfl rfl ?_; refine zV (rn_sub rfl rfl) rfl ?_; refine zY rfl hb19 rfl rfl ?_; obtain ⟨y21, hy21, H⟩ := bnd H; refine zO rfl (zC cb24 (f24_ok (x0 := y15.Adopted) (x1 := (-1)) (x2 := IntKind.i64.wrap (s7 - 1)) hS.sat  hy21) rfl rfl (fun w22 hb => ?_)); have hS := hS.keep hb; have hO := hO.below hb; refine zY rfl hb19 rfl rfl ?_; refine zV (rn_not rfl) rfl ?_; refine zV (rn_pickF (v := (.bool (!y21))) rfl hb19 rfl) rfl ?_; refine zN ?_
      have hO : Owns _ _ _ ([]) := hO
      have H := oi H; subst H
      exact ⟨_, G12, upds_self _ _ ⟨rfl, rfl, rfl, trivial⟩, Gle.refl _, hS, hO⟩
    ·rintro F w23 ⟨Fb, G24, rfl, leG24, hS, hO⟩
     refine zT rfl (fun hb25 => ?_) (fun hb25 => ?_)
     ·have H := ifT hb25 H; refine zS ?_; refine zy (.bool false) rfl rfl ?_; refine zN ?_; refine WC_ret ?_; have H := oi H; subst H
      have hres := hqq9 _ rfl
      subst hres; have H := Hoq9
      have H : some false = some r := H
      have H := oi H; subst H
      exact ⟨rfl, hS.below⟩
     ·have H := ifF hb25 H; refine zP ?_; refine zR ?_; refine zx (zi s7) rfl rfl ?_; refine zV (rn_add rfl rfl) rfl ?_; refine zy (zi (IntKind.i64.wrap (s7 + 1))) rfl rfl ?_; refine zN ?_
      have hO : Owns _ _ _ ([]) := hO
      have H := oi H; subst H; refine ⟨_, rfl, ?_⟩
      have l1_3 := leG12.trans leG24
      exact ⟨_, G24, upds_self _ _ ⟨rfl, rfl, trivial⟩, l1_3, hS, hO⟩
   ·have H := ifF hb13 H; refine WC_exit rfl ?_
    have hO : Owns _ _ _ ([]) := hO
    have H := oi H; subst H
    have hres := hqq9 _ rfl
    subst hres
    exact ⟨_, _, G12, rfl, upds_self _ _ ⟨rfl, trivial⟩, leG12, hS, hO⟩
 ·rintro F w26 ⟨p8, Fb, G27, rfl, rfl, leG27, hS, hO⟩
  refine zQ ?_; refine zS ?_; refine zy (zi 0) rfl rfl ?_; refine zN ?_; obtain ⟨q30, hq30, H⟩ := bnd H; refine zM (fun F w => ∃ (p29 : Unit) (Fb : Fr) (G : Gm), q30 = .inl p29 ∧ F = upds Fb [(1, zp b4)] ∧ Gle G27 G ∧ Since w0.heap.size G0 w0 G w ∧ Owns G w w0.heap.size []) ?_ ?_
  ·refine WC_block (WC_loop hq30 (fun s28 F w => ∃ (Fb : Fr) (G : Gm), F = upds Fb [(1, zp b4), (4, zi s28)] ∧ Gle G27 G ∧ Since w0.heap.size G0 w0 G w ∧ Owns G w w0.heap.size []) ?_ ?_)
   ·have hO : Owns _ _ _ ([]) := hO
    exact ⟨_, G27, upds_self _ _ ⟨rfl, rfl, trivial⟩, Gle.refl _, hS, hO⟩
   ·rintro s28 F w32 t31 ⟨Fb, G33, rfl, leG33, hS, hO⟩
    intro H1 hqq30
    have Hoq30 := H; have H := H1
    unfold f9_b1 at H
    refine zQ ?_; refine zS ?_; refine zx (zi s28) rfl rfl ?_; refine zV (zF fd26_1 rfl) rfl ?_
    have l1_3 := leG27.trans leG33
    refine zV (zL na23 rfl ((hS.sat.le l1_3).cell (hcb4 1 _ rfl))) rfl ?_
    have l0_3 := leG6.trans l1_3
    refine zV (rn_len sl23 rfl rfl (h2.mono RTLandEvent_mono l0_3).1) rfl ?_; refine zV (rn_lss rfl rfl) rfl ?_; refine zN ?_; refine zT rfl (fun hb34 => ?_) (fun hb34 => ?_)
    ·have H := ifT hb34 H; refine zP ?_; refine zQ ?_; refine WC_block ?_; refine zQ ?_; obtain ⟨q35, hq35, H⟩ := bnd H; refine zM (fun F w => ∃ (Fb : Fr) (G : Gm), F = upds Fb [(1, zp b4), (4, zi s28), (61, .bool q35)] ∧ Gle G33 G ∧ Since w0.heap.size G0 w0 G w ∧ Owns G w w0.heap.size []) ?_ ?_
     ·have Hoq35 := H; have H := hq35; have hS := hS.keep (below_drew _); have hO := hO.below (below_drew _)
      refine WC_regionD mixedO (fun _ w => Sat G33 w ∧ True) (.fl 0 (.fl 1 (.on 2 (.on 3 (.on 4 (.on 5 (.on 6 (.on 7 (.on 8 (.fl 9 (.fl 10 (.fl 11 (.on 12 (.on 13 (.on 14 (.on 15 (.on 16 (.on 17 (.on 18 .nil))))))))))))))))))) (by kernel_rfl) rfl (by kernel_rfl) (fun _ => ⟨hS.sat, trivial⟩) ?_
      refine zD rfl (fun w hw => zF fd26_1 rfl) rfl ?_; refine zD rfl (fun w hw => zL na23 rfl ((hw.1.le l1_3).cell (hcb4 1 _ rfl))) rfl ?_; refine zE rfl rfl (OpP_val (zm (v := (zi s28)) rfl) rfl ?_); refine ⟨fun _ _ => ⟨hS.sat, trivial⟩, ?_⟩; obtain ⟨y36, hy36, H⟩ := bnd H; refine zE rfl rfl (OpP_idx sl23 (h2.mono RTLandEvent_mono l0_3) hy36 rfl rfl rfl ?_)
      rintro b37 o37 _ hcb37 _ ⟨⟩
      refine ⟨fun _ _ => ⟨hS.sat, trivial⟩, ?_⟩; refine zE rfl rfl (OpP_val (zF fd57_0 rfl) rfl ?_); refine ⟨fun _ _ => ⟨hS.sat, trivial⟩, ?_⟩; refine zE rfl rfl (OpP_val (zL na3 rfl (hS.sat.cell (hcb37 0 _ rfl))) rfl ?_); refine ⟨fun _ _ => ⟨hS.sat, trivial⟩, ?_⟩; obtain ⟨y38, hy38, H⟩ := bnd H; refine zE rfl rfl (zC cb25 (f25_ok (x0 := y36.Strip) hS.sat  hy38) rfl rfl (fun w39 hb => ?_)); have hS := hS.keep hb; have hO := hO.below hb; refine ⟨fun _ _ => ⟨hS.sat, trivial⟩, ?_⟩; refine zE rfl rfl (OpP_val (rn_not rfl) rfl ?_); refine ⟨fun _ _ => ⟨hS.sat, trivial⟩, ?_⟩; refine zE rfl rfl (OpP_val (zm (v := (.bool (!y38))) rfl) rfl ?_); refine ⟨fun _ _ => ⟨hS.sat, trivial⟩, ?_⟩
      rcases bcases (!y38) with hb40 | hb40
      ·have H := ifT hb40 H; refine zK rfl rfl hb40 rfl rfl rfl ?_; refine zK rfl rfl hb40 rfl rfl rfl ?_; refine zK rfl rfl hb40 rfl rfl rfl ?_; refine zJ rfl rfl hb40 rfl rfl rfl (fun _ _ => ⟨hS.sat, trivial⟩) ?_; refine zJ rfl rfl hb40 rfl rfl rfl (fun _ _ => ⟨hS.sat, trivial⟩) ?_; refine zJ rfl rfl hb40 rfl rfl rfl (fun _ _ => ⟨hS.sat, trivial⟩) ?_; refine zJ rfl rfl hb40 rfl rfl rfl (fun _ _ => ⟨hS.sat, trivial⟩) ?_
       refine zJ rfl rfl hb40 rfl rfl rfl (fun _ h => noneed (by kernel_rfl) h) ?_
       refine zJ rfl rfl hb40 rfl rfl rfl (fun _ h => noneed (by kernel_rfl) h) ?_
       refine zE rfl rfl (OpP_val (rn_pickT (v := (.bool true)) rfl hb40 rfl) rfl ?_)
       refine ⟨fun _ h => noneed (by kernel_rfl) h, ?_⟩
       refine zI ?_
       have hO : Owns _ _ _ ([]) := hO
       have H := oi H; subst H
       exact ⟨_, G33, upds_self _ _ ⟨rfl, rfl, rfl, trivial⟩, Gle.refl _, hS, hO⟩
      ·have H := ifF hb40 H; refine zB rfl rfl hb40 rfl rfl (fun w hw => rn_loadA ag26 (cs := [zl a1 n1 c1, zl a2 n2 c2, zl a3 n3 c3]) rfl rfl (fun j v hj => (hw.1.le l1_3).cell (hcb4.drop_take 0 3 j v hj))) rfl ?_; refine zB rfl rfl hb40 rfl rfl (fun w hw => zF fd26_1 rfl) rfl ?_; refine zB rfl rfl hb40 rfl rfl (fun w hw => zL na23 rfl ((hw.1.le l1_3).cell (hcb4 1 _ rfl))) rfl ?_; refine WD_opY rfl rfl rfl hb40 rfl rfl (OpP_val (zm (v := (zi s28)) rfl) rfl ?_); refine ⟨fun _ _ => ⟨hS.sat, trivial⟩, ?_⟩; refine WD_opY rfl rfl rfl hb40 rfl rfl (OpP_idx sl23 (h2.mono RTLandEvent_mono l0_3) hy36 rfl rfl rfl ?_)
       rintro b41 o41 _ hcb41 _ ⟨⟩
       refine ⟨fun _ _ => ⟨hS.sat, trivial⟩, ?_⟩; refine WD_opY rfl rfl rfl hb40 rfl rfl (OpP_val (zF fd57_1 rfl) rfl ?_); refine ⟨fun _ _ => ⟨hS.sat, trivial⟩, ?_⟩; refine WD_opY rfl rfl rfl hb40 rfl rfl (OpP_val (zL na3 rfl (hS.sat.cell (hcb41 1 _ rfl))) rfl ?_); refine ⟨fun _ _ => ⟨hS.sat, trivial⟩, ?_⟩; obtain ⟨y42, hy42, H⟩ := bnd H; refine WD_opY rfl rfl rfl hb40 rfl rfl (zC cb26 (f26_ok (x0 := x0) (x1 := y36.Holder) hS.sat (h1.mono RTLandPerson_mono l0_3) (h2.mono RTLandEvent_mono l0_3) (h3.mono RTLandMemory_mono l0_3) hy42) rfl rfl (fun w43 hb => ?_)); have hS := hS.keep hb; have hO := hO.below hb
       refine ⟨fun _ h => noneed (by kernel_rfl) h, ?_⟩
       refine WD_opY rfl rfl rfl hb40 rfl rfl (OpP_val (rn_not rfl) rfl ?_)
       refine ⟨fun _ h => noneed (by kernel_rfl) h, ?_⟩
       refine zE rfl rfl (OpP_val (rn_pickF (v := (.bool (!y42))) rfl hb40 rfl) rfl ?_)
       refine ⟨fun _ h => noneed (by kernel_rfl) h, ?_⟩
       refine zI ?_
       have hO : Owns _ _ _ ([]) := hO
       have H := oi H; subst H
       exact ⟨_, G33, upds_self _ _ ⟨rfl, rfl, rfl, trivial⟩, Gle.refl _, hS, hO⟩
     ·rintro F w44 ⟨Fb, G45, rfl, leG45, hS, hO⟩
      refine zT rfl (fun hb46 => ?_) (fun hb46 => ?_)
      ·have H := ifT hb46 H; refine zS ?_; refine zy (.bool false) rfl rfl ?_; refine zN ?_; refine WC_ret ?_; have H := oi H; subst H
       have hres := hqq30 _ rfl
       subst hres; have H := Hoq30
       have H : some false = some r := H
       have H := oi H; subst H
       exact ⟨rfl, hS.below⟩
      ·have H := ifF hb46 H; refine zP ?_; refine zR ?_; refine zx (zi s28) rfl rfl ?_; refine zV (rn_add rfl rfl) rfl ?_; refine zy (zi (IntKind.i64.wrap (s28 + 1))) rfl rfl ?_; refine zN ?_
       have hO : Owns _ _ _ ([]) := hO
       have H := oi H; subst H; refine ⟨_, rfl, ?_⟩
       have l2_4 := leG33.trans leG45
       exact ⟨_, G45, upds_self _ _ ⟨rfl, rfl, trivial⟩, l2_4, hS, hO⟩
    ·have H := ifF hb34 H; refine WC_exit rfl ?_
     have hO : Owns _ _ _ ([]) := hO
     have H := oi H; subst H
     have hres := hqq30 _ rfl
     subst hres
     exact ⟨_, _, G33, rfl, upds_self _ _ ⟨rfl, trivial⟩, leG33, hS, hO⟩
  ·rintro F w47 ⟨p29, Fb, G48, rfl, rfl, leG48, hS, hO⟩
   refine zQ ?_; refine zS ?_; refine zy (zi 0) rfl rfl ?_; refine zN ?_; obtain ⟨q51, hq51, H⟩ := bnd H; refine zM (fun F w => ∃ (p50 : Unit) (Fb : Fr) (G : Gm), q51 = .inl p50 ∧ F = upds Fb [(1, zp b4)] ∧ Gle G48 G ∧ Since w0.heap.size G0 w0 G w ∧ Owns G w w0.heap.size []) ?_ ?_
   ·refine WC_block (WC_loop hq51 (fun s49 F w => ∃ (Fb : Fr) (G : Gm), F = upds Fb [(1, zp b4), (5, zi s49)] ∧ Gle G48 G ∧ Since w0.heap.size G0 w0 G w ∧ Owns G w w0.heap.size []) ?_ ?_)
    ·have hO : Owns _ _ _ ([]) := hO
     exact ⟨_, G48, upds_self _ _ ⟨rfl, rfl, trivial⟩, Gle.refl _, hS, hO⟩
    ·rintro s49 F w53 t52 ⟨Fb, G54, rfl, leG54, hS, hO⟩
     intro H1 hqq51
     have Hoq51 := H; have H := H1
     unfold f9_b2 at H
     refine zQ ?_; refine zS ?_; refine zx (zi s49) rfl rfl ?_; refine zV (zF fd26_2 rfl) rfl ?_
     have l1_4 := (leG27.trans leG48).trans leG54
     refine zV (zL na24 rfl ((hS.sat.le l1_4).cell (hcb4 2 _ rfl))) rfl ?_
     have l0_4 := leG6.trans l1_4
     refine zV (rn_len sl24 rfl rfl (h3.mono RTLandMemory_mono l0_4).1) rfl ?_; refine zV (rn_lss rfl rfl) rfl ?_; refine zN ?_; refine zT rfl (fun hb55 => ?_) (fun hb55 => ?_)
     ·have H := ifT hb55 H; refine zP ?_; refine zQ ?_; refine WC_block ?_; refine zS ?_; refine zV (zF fd26_2 rfl) rfl ?_; refine zV (zL na24 rfl ((hS.sat.le l1_4).cell (hcb4 2 _ rfl))) rfl ?_; refine zx (zi s49) rfl rfl ?_; obtain ⟨y56, hy56, H⟩ := bnd H; refine WL_idx sl24 (h3.mono RTLandMemory_mono l0_4) hy56 rfl rfl rfl ?_
      rintro b57 o57 _ hcb57 _ ⟨⟩
      refine zV (rn_loadA ag60 (cs := [zi y56.From, zi y56.To, zi y56.Years.Low, zi y56.Years.High]) rfl rfl (fun j v hj => hS.sat.cell (hcb57.drop_take 0 4 j v hj))) rfl ?_
      refine zO rfl (zU (v := fun b => zp b) (cs := [zi 0, zi 0, zi 0, zi 0]) (e := 60) (by kernel_rfl) hS.sat hO rfl 4 1 rfl (by decide) (fun b58 w59 hb hO => ?_))
      have hS := hS.keep hb; refine zO rfl (OpP_store (vs := [zi y56.From, zi y56.To, zi y56.Years.Low, zi y56.Years.High]) sz60 hS hO (k := 0) rfl rfl rfl rfl rfl (one_all rfl) (Nat.le_of_ble_eq_true rfl) (fun w61 hS hO => ?_))
      have hO : Owns _ _ _ ([zb 60 4 b58 [zi y56.From, zi y56.To, zi y56.Years.Low, zi y56.Years.High]]) := hO
      obtain ⟨G62, leG62, hS, hO, hqG62, _⟩ := hO.freeze hS (k := 0) rfl
      have hcG62 : Cells G62 b58 0 [zi y56.From, zi y56.To, zi y56.Years.Low, zi y56.Years.High] := (hqG62 _ _ _ _ rfl)
      refine zN ?_; refine zQ ?_; obtain ⟨q63, hq63, H⟩ := bnd H; refine zM (fun F w => ∃ (Fb : Fr) (G : Gm), F = upds Fb [(1, zp b4), (5, zi s49), (113, .bool q63)] ∧ Gle G62 G ∧ Since w0.heap.size G0 w0 G w ∧ Owns G w w0.heap.size []) ?_ ?_
      ·have Hoq63 := H; have H := hq63; refine zR ?_
       have l1_5 := l1_4.trans leG62
       refine zV (rn_loadA ag26 (cs := [zl a1 n1 c1, zl a2 n2 c2, zl a3 n3 c3]) rfl rfl (fun j v hj => (hS.sat.le l1_5).cell (hcb4.drop_take 0 3 j v hj))) rfl ?_; refine zV (zF fd60_0 rfl) rfl ?_; refine zV (zL na3 rfl (hS.sat.cell (hcG62 0 _ rfl))) rfl ?_; obtain ⟨y64, hy64, H⟩ := bnd H
       have l0_5 := l0_4.trans leG62
       refine zO rfl (zC cb27 (f27_ok (x0 := x0) (x1 := y56.From) hS.sat (h1.mono RTLandPerson_mono l0_5) (h2.mono RTLandEvent_mono l0_5) (h3.mono RTLandMemory_mono l0_5) hy64) rfl rfl (fun w65 hb => ?_)); have hS := hS.keep hb; have hO := hO.below hb; refine zV (rn_not rfl) rfl ?_; refine zx (.bool (!y64)) rfl rfl ?_
       rcases bcases (!y64) with hb66 | hb66
       ·have H := ifT hb66 H; refine zG rfl hb66 rfl rfl rfl ?_; refine zG rfl hb66 rfl rfl rfl ?_; refine zG rfl hb66 rfl rfl rfl ?_; refine zG rfl hb66 rfl rfl rfl ?_; refine zG rfl hb66 rfl rfl rfl ?_; refine zV (rn_pickT (v := (.bool true)) rfl hb66 rfl) rfl ?_; refine zx (.bool true) rfl rfl ?_; refine zG rfl rfl rfl rfl rfl ?_; refine zG rfl rfl rfl rfl rfl ?_; refine zG rfl rfl rfl rfl rfl ?_; refine zG rfl rfl rfl rfl rfl ?_; refine zG rfl rfl rfl rfl rfl ?_; refine zV (rn_pickT (v := (.bool true)) rfl rfl rfl) rfl ?_; refine zx (.bool true) rfl rfl ?_; refine zG rfl rfl rfl rfl rfl ?_; refine zG rfl rfl rfl rfl rfl ?_; refine zG rfl rfl rfl rfl rfl ?_; refine zG rfl rfl rfl rfl rfl ?_; refine zV (rn_pickT (v := (.bool true)) rfl rfl rfl) rfl ?_; refine zx (.bool true) rfl rfl ?_; refine zG rfl rfl rfl rfl rfl ?_; refine zG rfl rfl rfl rfl rfl ?_; refine zG rfl rfl rfl rfl rfl ?_; refine zG rfl rfl rfl rfl rfl ?_; refine zG rfl rfl rfl rfl rfl ?_; refine zG rfl rfl rfl rfl rfl ?_; refine zG rfl rfl rfl rfl rfl ?_; refine zV (rn_pickT (v := (.bool true)) rfl rfl rfl) rfl ?_; refine zx (.bool true) rfl rfl ?_; refine zG rfl rfl rfl rfl rfl ?_; refine zG rfl rfl rfl rfl rfl ?_; refine zG rfl rfl rfl rfl rfl ?_; refine zG rfl rfl rfl rfl rfl ?_; refine zV (rn_pickT (v := (.bool true)) rfl rfl rfl) rfl ?_; refine zN ?_
        have hO : Owns _ _ _ ([]) := hO
        have H := oi H; subst H
        exact ⟨_, G62, upds_self _ _ ⟨rfl, rfl, rfl, trivial⟩, Gle.refl _, hS, hO⟩
       ·have H := ifF hb66 H; refine zY rfl hb66 rfl rfl ?_; refine zV (rn_loadA ag26 (cs := [zl a1 n1 c1, zl a2 n2 c2, zl a3 n3 c3]) rfl rfl (fun j v hj => (hS.sat.le l1_5).cell (hcb4.drop_take 0 3 j v hj))) rfl ?_; refine zY rfl hb66 rfl rfl ?_; refine zV (zF fd60_1 rfl) rfl ?_; refine zY rfl hb66 rfl rfl ?_; refine zV (zL na3 rfl (hS.sat.cell (hcG62 1 _ rfl))) rfl ?_; refine zY rfl hb66 rfl rfl ?_; obtain ⟨y67, hy67, H⟩ := bnd H; refine zO rfl (zC cb27 (f27_ok (x0 := x0) (x1 := y56.To) hS.sat (h1.mono RTLandPerson_mono l0_5) (h2.mono RTLandEvent_mono l0_5) (h3.mono RTLandMemory_mono l0_5) hy67) rfl rfl (fun w68 hb => ?_)); have hS := hS.keep hb; have hO := hO.below hb; refine zY rfl hb66 rfl rfl ?_; refine zV (rn_not rfl) rfl ?_; refine zV (rn_pickF (v := (.bool (!y67))) rfl hb66 rfl) rfl ?_; refine zx (.bool (!y67)) rfl rfl ?_
        rcases bcases (!y67) with hb69 | hb69
        ·have H := ifT hb69 H; refine zG rfl hb69 rfl rfl rfl ?_; refine zG rfl hb69 rfl rfl rfl ?_; refine zG rfl hb69 rfl rfl rfl ?_; refine zG rfl hb69 rfl rfl rfl ?_; refine zG rfl hb69 rfl rfl rfl ?_; refine zV (rn_pickT (v := (.bool true)) rfl hb69 rfl) rfl ?_; refine zx (.bool true) rfl rfl ?_; refine zG rfl rfl rfl rfl rfl ?_; refine zG rfl rfl rfl rfl rfl ?_; refine zG rfl rfl rfl rfl rfl ?_; refine zG rfl rfl rfl rfl rfl ?_; refine zV (rn_pickT (v := (.bool true)) rfl rfl rfl) rfl ?_; refine zx (.bool true) rfl rfl ?_; refine zG rfl rfl rfl rfl rfl ?_; refine zG rfl rfl rfl rfl rfl ?_; refine zG rfl rfl rfl rfl rfl ?_; refine zG rfl rfl rfl rfl rfl ?_; refine zG rfl rfl rfl rfl rfl ?_; refine zG rfl rfl rfl rfl rfl ?_; refine zG rfl rfl rfl rfl rfl ?_; refine zV (rn_pickT (v := (.bool true)) rfl rfl rfl) rfl ?_; refine zx (.bool true) rfl rfl ?_; refine zG rfl rfl rfl rfl rfl ?_; refine zG rfl rfl rfl rfl rfl ?_; refine zG rfl rfl rfl rfl rfl ?_; refine zG rfl rfl rfl rfl rfl ?_; refine zV (rn_pickT (v := (.bool true)) rfl rfl rfl) rfl ?_; refine zN ?_
         have hO : Owns _ _ _ ([]) := hO
         have H := oi H; subst H
         exact ⟨_, G62, upds_self _ _ ⟨rfl, rfl, rfl, trivial⟩, Gle.refl _, hS, hO⟩
        ·have H := ifF hb69 H; refine zY rfl hb69 rfl rfl ?_; refine zV (zF fd60_0 rfl) rfl ?_; refine zY rfl hb69 rfl rfl ?_; refine zV (zL na3 rfl (hS.sat.cell (hcG62 0 _ rfl))) rfl ?_; refine zY rfl hb69 rfl rfl ?_; refine zV (zF fd60_1 rfl) rfl ?_; refine zY rfl hb69 rfl rfl ?_; refine zV (zL na3 rfl (hS.sat.cell (hcG62 1 _ rfl))) rfl ?_; refine zY rfl hb69 rfl rfl ?_; refine zV (rn_eql rfl rfl) rfl ?_; refine zV (rn_pickF (v := (.bool (y56.From == y56.To))) rfl hb69 rfl) rfl ?_; refine zx (.bool (y56.From == y56.To)) rfl rfl ?_
         rcases bcases (y56.From == y56.To) with hb70 | hb70
         ·have H := ifT hb70 H; refine zG rfl hb70 rfl rfl rfl ?_; refine zG rfl hb70 rfl rfl rfl ?_; refine zG rfl hb70 rfl rfl rfl ?_; refine zG rfl hb70 rfl rfl rfl ?_; refine zV (rn_pickT (v := (.bool true)) rfl hb70 rfl) rfl ?_; refine zx (.bool true) rfl rfl ?_; refine zG rfl rfl rfl rfl rfl ?_; refine zG rfl rfl rfl rfl rfl ?_; refine zG rfl rfl rfl rfl rfl ?_; refine zG rfl rfl rfl rfl rfl ?_; refine zG rfl rfl rfl rfl rfl ?_; refine zG rfl rfl rfl rfl rfl ?_; refine zG rfl rfl rfl rfl rfl ?_; refine zV (rn_pickT (v := (.bool true)) rfl rfl rfl) rfl ?_; refine zx (.bool true) rfl rfl ?_; refine zG rfl rfl rfl rfl rfl ?_; refine zG rfl rfl rfl rfl rfl ?_; refine zG rfl rfl rfl rfl rfl ?_; refine zG rfl rfl rfl rfl rfl ?_; refine zV (rn_pickT (v := (.bool true)) rfl rfl rfl) rfl ?_; refine zN ?_
          have hO : Owns _ _ _ ([]) := hO
          have H := oi H; subst H
          exact ⟨_, G62, upds_self _ _ ⟨rfl, rfl, rfl, trivial⟩, Gle.refl _, hS, hO⟩
         ·have H := ifF hb70 H; refine zY rfl hb70 rfl rfl ?_; refine zV (zF fd60_2 rfl) rfl ?_; refine zY rfl hb70 rfl rfl ?_; refine zV (zF fd46_0 rfl) rfl ?_; refine zY rfl hb70 rfl rfl ?_; refine zV (zL na3 rfl (hS.sat.cell (hcG62 2 _ rfl))) rfl ?_; refine zY rfl hb70 rfl rfl ?_; refine zV (rn_lss rfl rfl) rfl ?_; refine zV (rn_pickF (v := (.bool (decide (y56.Years.Low < (-1000))))) rfl hb70 rfl) rfl ?_; refine zV (zm (v := (.bool (decide (y56.Years.Low < (-1000))))) rfl) rfl ?_
          rcases bcases (decide (y56.Years.Low < (-1000))) with hb71 | hb71
          ·have H := ifT hb71 H; refine zG rfl hb71 rfl rfl rfl ?_; refine zG rfl hb71 rfl rfl rfl ?_; refine zG rfl hb71 rfl rfl rfl ?_; refine zG rfl hb71 rfl rfl rfl ?_; refine zG rfl hb71 rfl rfl rfl ?_; refine zG rfl hb71 rfl rfl rfl ?_; refine zG rfl hb71 rfl rfl rfl ?_; refine zV (rn_pickT (v := (.bool true)) rfl hb71 rfl) rfl ?_; refine zx (.bool true) rfl rfl ?_; refine zG rfl rfl rfl rfl rfl ?_; refine zG rfl rfl rfl rfl rfl ?_; refine zG rfl rfl rfl rfl rfl ?_; refine zG rfl rfl rfl rfl rfl ?_; refine zV (rn_pickT (v := (.bool true)) rfl rfl rfl) rfl ?_; refine zN ?_
           have hO : Owns _ _ _ ([]) := hO
           have H := oi H; subst H
           exact ⟨_, G62, upds_self _ _ ⟨rfl, rfl, rfl, trivial⟩, Gle.refl _, hS, hO⟩
          ·have H := ifF hb71 H; refine zY rfl hb71 rfl rfl ?_; refine zV (zF fd60_2 rfl) rfl ?_; refine zY rfl hb71 rfl rfl ?_; refine zV (zF fd46_0 rfl) rfl ?_; refine zY rfl hb71 rfl rfl ?_; refine zV (zL na3 rfl (hS.sat.cell (hcG62 2 _ rfl))) rfl ?_; refine zY rfl hb71 rfl rfl ?_; refine zV (zF fd60_2 rfl) rfl ?_; refine zY rfl hb71 rfl rfl ?_; refine zV (zF fd46_1 rfl) rfl ?_; refine zY rfl hb71 rfl rfl ?_; refine zV (zL na3 rfl (hS.sat.cell (hcG62 3 _ rfl))) rfl ?_; refine zY rfl hb71 rfl rfl ?_; refine zV (rn_gtr rfl rfl) rfl ?_; refine zV (rn_pickF (v := (.bool (decide (y56.Years.High < y56.Years.Low)))) rfl hb71 rfl) rfl ?_; refine zx (.bool (decide (y56.Years.High < y56.Years.Low))) rfl rfl ?_
           rcases bcases (decide (y56.Years.High < y56.Years.Low)) with hb72 | hb72
           ·have H := ifT hb72 H; refine zG rfl hb72 rfl rfl rfl ?_; refine zG rfl hb72 rfl rfl rfl ?_; refine zG rfl hb72 rfl rfl rfl ?_; refine zG rfl hb72 rfl rfl rfl ?_; refine zV (rn_pickT (v := (.bool true)) rfl hb72 rfl) rfl ?_; refine zN ?_
            have hO : Owns _ _ _ ([]) := hO
            have H := oi H; subst H
            exact ⟨_, G62, upds_self _ _ ⟨rfl, rfl, rfl, trivial⟩, Gle.refl _, hS, hO⟩
           ·have H := ifF hb72 H; refine zY rfl hb72 rfl rfl ?_; refine zV (zF fd60_2 rfl) rfl ?_; refine zY rfl hb72 rfl rfl ?_; refine zV (zF fd46_1 rfl) rfl ?_; refine zY rfl hb72 rfl rfl ?_; refine zV (zL na3 rfl (hS.sat.cell (hcG62 3 _ rfl))) rfl ?_; refine zY rfl hb72 rfl rfl ?_; refine zV (rn_gtr rfl rfl) rfl ?_; refine zV (rn_pickF (v := (.bool (decide (1000 < y56.Years.High)))) rfl hb72 rfl) rfl ?_; refine zN ?_
            have hO : Owns _ _ _ ([]) := hO
            have H := oi H; subst H
            exact ⟨_, G62, upds_self _ _ ⟨rfl, rfl, rfl, trivial⟩, Gle.refl _, hS, hO⟩
      ·rintro F w73 ⟨Fb, G74, rfl, leG74, hS, hO⟩
       refine zT rfl (fun hb75 => ?_) (fun hb75 => ?_)
       ·have H := ifT hb75 H; refine zS ?_; refine zy (.bool false) rfl rfl ?_; refine zN ?_; refine WC_ret ?_; have H := oi H; subst H
        have hres := hqq51 _ rfl
        subst hres; have H := Hoq51
        have H : some false = some r := H
        have H := oi H; subst H
        exact ⟨rfl, hS.below⟩
       ·have H := ifF hb75 H; refine zP ?_; refine zR ?_; refine zx (zi s49) rfl rfl ?_; refine zV (rn_add rfl rfl) rfl ?_; refine zy (zi (IntKind.i64.wrap (s49 + 1))) rfl rfl ?_; refine zN ?_
        have hO : Owns _ _ _ ([]) := hO
        have H := oi H; subst H; refine ⟨_, rfl, ?_⟩
        have l3_6 := (leG54.trans leG62).trans leG74
        exact ⟨_, G74, upds_self _ _ ⟨rfl, rfl, trivial⟩, l3_6, hS, hO⟩
     ·have H := ifF hb55 H; refine WC_exit rfl ?_
      have hO : Owns _ _ _ ([]) := hO
      have H := oi H; subst H
      have hres := hqq51 _ rfl
      subst hres
      exact ⟨_, _, G54, rfl, upds_self _ _ ⟨rfl, trivial⟩, leG54, hS, hO⟩
   ·rintro F w76 ⟨p50, Fb, G77, rfl, rfl, leG77, hS, hO⟩
    refine zQ ?_; obtain ⟨q78, hq78, H⟩ := bnd H; refine zM (fun F w => ∃ (Fb : Fr) (G : Gm), F = upds Fb [(2, .bool q78)] ∧ Gle G77 G ∧ Since w0.heap.size G0 w0 G w ∧ Owns G w w0.heap.size []) ?_ ?_
    ·have Hoq78 := H; have H := hq78; refine zR ?_; refine zV (zF fd26_0 rfl) rfl ?_
     have l1_4 := (leG27.trans leG48).trans leG77
     refine zV (zL na22 rfl ((hS.sat.le l1_4).cell (hcb4 0 _ rfl))) rfl ?_
     have l0_4 := leG6.trans l1_4
     refine zV (rn_len sl22 rfl rfl (h1.mono RTLandPerson_mono l0_4).1) rfl ?_; obtain ⟨y79, hy79, H⟩ := bnd H; refine zO rfl (zC cb24 (f24_ok (x0 := (x0.People.length : Int)) (x1 := 1) (x2 := 10) hS.sat  hy79) rfl rfl (fun w80 hb => ?_)); have hS := hS.keep hb; have hO := hO.below hb; refine zx (.bool y79) rfl rfl ?_
     rcases bcases y79 with hb81 | hb81
     ·have H := ifT hb81 H; refine zY rfl hb81 rfl rfl ?_; refine zV (zF fd26_1 rfl) rfl ?_; refine zY rfl hb81 rfl rfl ?_; refine zV (zL na23 rfl ((hS.sat.le l1_4).cell (hcb4 1 _ rfl))) rfl ?_; refine zY rfl hb81 rfl rfl ?_; refine zV (rn_len sl23 rfl rfl (h2.mono RTLandEvent_mono l0_4).1) rfl ?_; refine zY rfl hb81 rfl rfl ?_; obtain ⟨y82, hy82, H⟩ := bnd H; refine zO rfl (zC cb24 (f24_ok (x0 := (x0.Events.length : Int)) (x1 := 1) (x2 := 7) hS.sat  hy82) rfl rfl (fun w83 hb => ?_)); have hS := hS.keep hb; have hO := hO.below hb; refine zV (rn_pickT (v := (.bool y82)) rfl hb81 rfl) rfl ?_; refine zx (.bool y82) rfl rfl ?_
      rcases bcases y82 with hb84 | hb84
      ·have H := ifT hb84 H; refine zY rfl hb84 rfl rfl ?_; refine zV (zF fd26_2 rfl) rfl ?_; refine zY rfl hb84 rfl rfl ?_; refine zV (zL na24 rfl ((hS.sat.le l1_4).cell (hcb4 2 _ rfl))) rfl ?_; refine zY rfl hb84 rfl rfl ?_; refine zV (rn_len sl24 rfl rfl (h3.mono RTLandMemory_mono l0_4).1) rfl ?_; refine zY rfl hb84 rfl rfl ?_; refine zV (rn_leq rfl rfl) rfl ?_; refine zV (rn_pickT (v := (.bool (decide ((x0.Memories.length : Int) ≤ 10)))) rfl hb84 rfl) rfl ?_; refine zV (zA (v := (.bool (decide ((x0.Memories.length : Int) ≤ 10)))) rfl) rfl ?_; refine zN ?_
       have hO : Owns _ _ _ ([]) := hO
       have H := oi H; subst H
       exact ⟨_, G77, upds_self _ _ ⟨rfl, trivial⟩, Gle.refl _, hS, hO⟩
      ·have H := ifF hb84 H; refine zG rfl hb84 rfl rfl rfl ?_; refine zG rfl hb84 rfl rfl rfl ?_; refine zG rfl hb84 rfl rfl rfl ?_; refine zG rfl hb84 rfl rfl rfl ?_; refine zV (rn_pickF (v := (.bool false)) rfl hb84 rfl) rfl ?_; refine zy (.bool false) rfl rfl ?_; refine zN ?_
       have hO : Owns _ _ _ ([]) := hO
       have H := oi H; subst H
       exact ⟨_, G77, upds_self _ _ ⟨rfl, trivial⟩, Gle.refl _, hS, hO⟩
     ·have H := ifF hb81 H; refine zG rfl hb81 rfl rfl rfl ?_; refine zG rfl hb81 rfl rfl rfl ?_; refine zG rfl hb81 rfl rfl rfl ?_; refine zG rfl hb81 rfl rfl rfl ?_; refine zV (rn_pickF (v := (.bool false)) rfl hb81 rfl) rfl ?_; refine zx (.bool false) rfl rfl ?_; refine zG rfl rfl rfl rfl rfl ?_; refine zG rfl rfl rfl rfl rfl ?_; refine zG rfl rfl rfl rfl rfl ?_; refine zG rfl rfl rfl rfl rfl ?_; refine zV (rn_pickF (v := (.bool false)) rfl rfl rfl) rfl ?_; refine zy (.bool false) rfl rfl ?_; refine zN ?_
      have hO : Owns _ _ _ ([]) := hO
      have H := oi H; subst H
      exact ⟨_, G77, upds_self _ _ ⟨rfl, trivial⟩, Gle.refl _, hS, hO⟩
    ·rintro F w85 ⟨Fb, G86, rfl, leG86, hS, hO⟩
     refine WC_ret ?_
     have H : some q78 = some r := H
     have H := oi H; subst H
     exact ⟨rfl, hS.below⟩
set_option maxHeartbeats 1000000 in
theorem f58_ok {G0 : Gm} {w0 : World} (hS0 : Sat G0 w0) {x0 : Bool} {x1 : (List UInt8)}  {r : (Unit) ⊕ List UInt8} (H : f58 x0 x1 = some r) :
  Calls Tryz.prog 58 #[.bool x0, zs x1] w0 (RetE w0 (Sum.elim (fun v : Unit => Ending.returned (.tuple #[])) (fun x : List UInt8 => Ending.panicked [{ v := .iface 62 (.agg #[zs x]), recovered := false }]) r)) := by
 have hS := Since.start hS0
 have hO : Owns G0 w0 w0.heap.size [] := Owns.nil (Nat.le_refl _)
 unfold f58 at H
 refine enterE0 (N := 9) Tryz.func58 rfl rfl rfl rfl ?_; refine zS ?_; refine zx (.bool x0) rfl rfl ?_; refine zV (rn_not rfl) rfl ?_; refine zN ?_; refine zT rfl (fun hb1 => ?_) (fun hb1 => ?_)
 ·have H := ifT hb1 H; refine zR ?_; refine zx (zs x1) rfl rfl ?_
  refine zV (v := (.agg #[zs x1])) (by kernel_rfl) rfl ?_
  refine zV (v := (.iface 62 (.agg #[zs x1]))) (by kernel_rfl) rfl ?_
  refine zO rfl (OpP_panic (v := (.iface 62 (.agg #[zs x1]))) rfl ⟨_, _, rfl⟩ ?_)
  have H : some (Sum.inr x1) = some r := H
  have H := oi H; subst H
  exact ⟨rfl, hS.below⟩
 ·have H := ifF hb1 H; refine zP ?_
  have H : some (.inl ()) = some r := H
  have H := oi H; subst H
  exact ⟨rfl, hS.below⟩
set_option maxHeartbeats 1000000 in
theorem f60_ok {G0 : Gm} {w0 : World} (hS0 : Sat G0 w0) {x0 : (List UInt8)} (hT : TabZ Tryz.prog G0) {r : (Int) ⊕ List UInt8} (H : f60 x0 = some r) :
  Calls Tryz.prog 60 #[zs x0] w0 (RetE w0 (Sum.elim (fun v : Int => Ending.returned (zi v)) (fun x : List UInt8 => Ending.panicked [{ v := .iface 62 (.agg #[zs x]), recovered := false }]) r)) := by
 have hS := Since.start hS0
 have hO : Owns G0 w0 w0.heap.size [] := Owns.nil (Nat.le_refl _)
 unfold f60 at H
 refine enterE1 (N := 47) Tryz.func60 rfl rfl rfl rfl ?_; refine zS ?_; refine zy (zi 0) rfl rfl ?_; refine zN ?_; refine zS ?_; refine zx (zs x0) rfl rfl ?_; obtain ⟨y1, hy1, H⟩ := bnd H; refine zO rfl (zC cb77 (f77_ok (x0 := x0) (x1 := ([45] : List UInt8)) hS.sat  hy1) rfl rfl (fun w2 hb => ?_)); have hS := hS.keep hb; have hO := hO.below hb; refine zy (zs y1) rfl rfl ?_; refine zN ?_; refine zS ?_; refine zx (zs y1) rfl rfl ?_; obtain ⟨y3, hy3, H⟩ := bnd H; refine zO rfl (OpP_enter (rn_call cb78 rfl) rfl (f78_ok (x0 := y1) hS.sat hT hy3) (fun _ w4 ⟨uy3, hry3, hey3, hb⟩ => ⟨_, hry3, .below hb, ?_⟩)); have hS := hS.keep hb; have hO := hO.below hb; refine zx (.tuple #[zi y3.1, uy3]) rfl rfl ?_; refine zV (zX (v := (zi y3.1)) rfl rfl) rfl ?_; refine zV (zX (v := uy3) rfl rfl) rfl ?_; refine zy (zi y3.1) rfl rfl ?_; refine zV (zA (v := uy3) rfl) rfl ?_; refine zN ?_; refine zQ ?_; obtain ⟨q5, hq5, H⟩ := bnd H; refine zM (fun F w => ∃ (p6 : Unit) (Fb : Fr) (G : Gm), q5 = .inl p6 ∧ F = upds Fb [(0, zs x0), (3, zs y1), (4, zi y3.1)] ∧ Gle G0 G ∧ Since w0.heap.size G0 w0 G w ∧ Owns G w w0.heap.size []) ?_ ?_
 ·have Hoq5 := H; have H := hq5; refine zR ?_; refine zV (zm (v := uy3) rfl) rfl ?_; refine zV (rn_eqlE hey3 rfl ⟨_, Tryz.underlying95⟩) rfl ?_; refine zx (.bool y3.2) rfl rfl ?_
  rcases bcases y3.2 with hb7 | hb7
  ·have H := ifT hb7 H; refine zY rfl hb7 rfl rfl ?_; refine zx (zi y3.1) rfl rfl ?_; refine zY rfl hb7 rfl rfl ?_; refine zV (rn_geq rfl rfl) rfl ?_; refine zV (rn_pickT (v := (.bool (decide (0 ≤ y3.1)))) rfl hb7 rfl) rfl ?_; refine zx (.bool (decide (0 ≤ y3.1))) rfl rfl ?_
   rcases bcases (decide (0 ≤ y3.1)) with hb8 | hb8
   ·have H := ifT hb8 H; refine zY rfl hb8 rfl rfl ?_; refine zx (zs y1) rfl rfl ?_; refine zY rfl hb8 rfl rfl ?_; refine zV (rn_lenS Tryz.underlying9 rfl rfl) rfl ?_; refine zY rfl hb8 rfl rfl ?_; refine zV (rn_leq rfl rfl) rfl ?_; refine zV (rn_pickT (v := (.bool (decide ((y1.length : Int) ≤ 4)))) rfl hb8 rfl) rfl ?_; refine zV (zm (v := (.bool (decide ((y1.length : Int) ≤ 4)))) rfl) rfl ?_
    rcases bcases (decide ((y1.length : Int) ≤ 4)) with hb9 | hb9
    ·have H := ifT hb9 H; refine zY rfl hb9 rfl rfl ?_; refine zx (zi y3.1) rfl rfl ?_; refine zY rfl hb9 rfl rfl ?_; obtain ⟨y10, hy10, H⟩ := bnd H; refine zO rfl (zC cb74 (f74_ok (n := y3.1) hS.sat hT.tab hy10) rfl rfl (fun w11 hb => ?_)); have hS := hS.keep hb; have hO := hO.below hb; refine zY rfl hb9 rfl rfl ?_; refine zx (zs y1) rfl rfl ?_; refine zY rfl hb9 rfl rfl ?_; refine zV (rn_eqlS rfl rfl) rfl ?_; refine zV (rn_pickT (v := (.bool (y10 == y1))) rfl hb9 rfl) rfl ?_; refine zx (.bool (y10 == y1)) rfl rfl ?_
     rcases bcases (y10 == y1) with hb12 | hb12
     ·have H := ifT hb12 H; refine zY rfl hb12 rfl rfl ?_; refine zx (zi y3.1) rfl rfl ?_; refine zY rfl hb12 rfl rfl ?_; refine zV (rn_gtr rfl rfl) rfl ?_; refine zY rfl hb12 rfl rfl ?_; refine zx (.bool (decide (0 < y3.1))) rfl rfl ?_
      rcases bcases (decide (0 < y3.1)) with hb13 | hb13
      ·have H := ifT hb13 H; refine zG rfl hb13 rfl rfl rfl ?_; refine zG rfl hb13 rfl rfl rfl ?_; refine zG rfl hb13 rfl rfl rfl ?_; refine zY rfl hb12 rfl rfl ?_; refine zV (rn_pickT (v := (.bool true)) rfl hb13 rfl) rfl ?_; refine zV (rn_pickT (v := (.bool true)) rfl hb12 rfl) rfl ?_; refine zx (zs x0) rfl rfl ?_; obtain ⟨y14, hy14, H⟩ := bnd H
       have hxy14 := f58_ok (x0 := true) (x1 := x0) hS.sat  hy14
       refine zO rfl (OpP_enterP (rn_call cb58 rfl) rfl hxy14 (fun _ w15 hR => ?_)); obtain ⟨rfl, hb⟩ := hR; have hS := hS.keep hb; have hO := hO.below hb
       rcases y14 with v16 | v17
       ·refine .inl ⟨_, rfl, .below hb, ?_⟩; refine zN ?_
        have hO : Owns _ _ _ ([]) := hO
        have H := oi H; subst H
        exact ⟨_, _, G0, rfl, upds_self _ _ ⟨rfl, rfl, rfl, trivial⟩, Gle.refl _, hS, hO⟩
       ·refine .inr ⟨_, rfl, .below hb, ?_⟩; have H := oi H; subst H; have H := Hoq5
        have H : some (Sum.inr v17) = some r := H
        have H := oi H; subst H
        exact ⟨rfl, hS.below⟩
      ·have H := ifF hb13 H; refine zY rfl hb13 rfl rfl ?_; refine zx (zs x0) rfl rfl ?_; refine zY rfl hb13 rfl rfl ?_; refine zx (zs y1) rfl rfl ?_; refine zY rfl hb13 rfl rfl ?_; refine zV (rn_eqlS rfl rfl) rfl ?_; refine zY rfl hb12 rfl rfl ?_; refine zV (rn_pickF (v := (.bool (x0 == y1))) rfl hb13 rfl) rfl ?_; refine zV (rn_pickT (v := (.bool (x0 == y1))) rfl hb12 rfl) rfl ?_; refine zx (zs x0) rfl rfl ?_; obtain ⟨y18, hy18, H⟩ := bnd H
       have hxy18 := f58_ok (x0 := x0 == y1) (x1 := x0) hS.sat  hy18
       refine zO rfl (OpP_enterP (rn_call cb58 rfl) rfl hxy18 (fun _ w19 hR => ?_)); obtain ⟨rfl, hb⟩ := hR; have hS := hS.keep hb; have hO := hO.below hb
       rcases y18 with v20 | v21
       ·refine .inl ⟨_, rfl, .below hb, ?_⟩; refine zN ?_
        have hO : Owns _ _ _ ([]) := hO
        have H := oi H; subst H
        exact ⟨_, _, G0, rfl, upds_self _ _ ⟨rfl, rfl, rfl, trivial⟩, Gle.refl _, hS, hO⟩
       ·refine .inr ⟨_, rfl, .below hb, ?_⟩; have H := oi H; subst H; have H := Hoq5
        have H : some (Sum.inr v21) = some r := H
        have H := oi H; subst H
        exact ⟨rfl, hS.below⟩
     ·have H := ifF hb12 H; refine zG rfl hb12 rfl rfl rfl ?_; refine zG rfl hb12 rfl rfl rfl ?_; refine zG rfl hb12 rfl rfl rfl ?_; refine WL_guardU rfl rfl rfl rfl ?_; refine WL_guardU rfl rfl rfl rfl ?_; refine WL_guardU rfl rfl rfl rfl ?_; refine zG rfl hb12 rfl rfl rfl ?_; refine zV (rn_pickF (v := (.bool false)) rfl hb12 rfl) rfl ?_; refine zx (zs x0) rfl rfl ?_; obtain ⟨y22, hy22, H⟩ := bnd H
      have hxy22 := f58_ok (x0 := false) (x1 := x0) hS.sat  hy22
      refine zO rfl (OpP_enterP (rn_call cb58 rfl) rfl hxy22 (fun _ w23 hR => ?_)); obtain ⟨rfl, hb⟩ := hR; have hS := hS.keep hb; have hO := hO.below hb
      rcases y22 with v24 | v25
      ·refine .inl ⟨_, rfl, .below hb, ?_⟩; refine zN ?_
       have hO : Owns _ _ _ ([]) := hO
       have H := oi H; subst H
       exact ⟨_, _, G0, rfl, upds_self _ _ ⟨rfl, rfl, rfl, trivial⟩, Gle.refl _, hS, hO⟩
      ·refine .inr ⟨_, rfl, .below hb, ?_⟩; have H := oi H; subst H; have H := Hoq5
       have H : some (Sum.inr v25) = some r := H
       have H := oi H; subst H
       exact ⟨rfl, hS.below⟩
    ·have H := ifF hb9 H; refine zG rfl hb9 rfl rfl rfl ?_; refine zG rfl hb9 rfl rfl rfl ?_; refine zG rfl hb9 rfl rfl rfl ?_; refine zG rfl hb9 rfl rfl rfl ?_; refine zV (rn_pickF (v := (.bool false)) rfl hb9 rfl) rfl ?_; refine zx (.bool false) rfl rfl ?_; refine zG rfl rfl rfl rfl rfl ?_; refine zG rfl rfl rfl rfl rfl ?_; refine zG rfl rfl rfl rfl rfl ?_; refine WL_guardU rfl rfl rfl rfl ?_; refine WL_guardU rfl rfl rfl rfl ?_; refine WL_guardU rfl rfl rfl rfl ?_; refine zG rfl rfl rfl rfl rfl ?_; refine zV (rn_pickF (v := (.bool false)) rfl rfl rfl) rfl ?_; refine zx (zs x0) rfl rfl ?_; obtain ⟨y26, hy26, H⟩ := bnd H
     have hxy26 := f58_ok (x0 := false) (x1 := x0) hS.sat  hy26
     refine zO rfl (OpP_enterP (rn_call cb58 rfl) rfl hxy26 (fun _ w27 hR => ?_)); obtain ⟨rfl, hb⟩ := hR; have hS := hS.keep hb; have hO := hO.below hb
     rcases y26 with v28 | v29
     ·refine .inl ⟨_, rfl, .below hb, ?_⟩; refine zN ?_
      have hO : Owns _ _ _ ([]) := hO
      have H := oi H; subst H
      exact ⟨_, _, G0, rfl, upds_self _ _ ⟨rfl, rfl, rfl, trivial⟩, Gle.refl _, hS, hO⟩
     ·refine .inr ⟨_, rfl, .below hb, ?_⟩; have H := oi H; subst H; have H := Hoq5
      have H : some (Sum.inr v29) = some r := H
      have H := oi H; subst H
      exact ⟨rfl, hS.below⟩
   ·have H := ifF hb8 H; refine zG rfl hb8 rfl rfl rfl ?_; refine zG rfl hb8 rfl rfl rfl ?_; refine zG rfl hb8 rfl rfl rfl ?_; refine zV (rn_pickF (v := (.bool false)) rfl hb8 rfl) rfl ?_; refine zx (.bool false) rfl rfl ?_; refine zG rfl rfl rfl rfl rfl ?_; refine zG rfl rfl rfl rfl rfl ?_; refine zG rfl rfl rfl rfl rfl ?_; refine zG rfl rfl rfl rfl rfl ?_; refine zV (rn_pickF (v := (.bool false)) rfl rfl rfl) rfl ?_; refine zx (.bool false) rfl rfl ?_; refine zG rfl rfl rfl rfl rfl ?_; refine zG rfl rfl rfl rfl rfl ?_; refine zG rfl rfl rfl rfl rfl ?_; refine WL_guardU rfl rfl rfl rfl ?_; refine WL_guardU rfl rfl rfl rfl ?_; refine WL_guardU rfl rfl rfl rfl ?_; refine zG rfl rfl rfl rfl rfl ?_; refine zV (rn_pickF (v := (.bool false)) rfl rfl rfl) rfl ?_; refine zx (zs x0) rfl rfl ?_; obtain ⟨y30, hy30, H⟩ := bnd H
    have hxy30 := f58_ok (x0 := false) (x1 := x0) hS.sat  hy30
    refine zO rfl (OpP_enterP (rn_call cb58 rfl) rfl hxy30 (fun _ w31 hR => ?_)); obtain ⟨rfl, hb⟩ := hR; have hS := hS.keep hb; have hO := hO.below hb
    rcases y30 with v32 | v33
    ·refine .inl ⟨_, rfl, .below hb, ?_⟩; refine zN ?_
     have hO : Owns _ _ _ ([]) := hO
     have H := oi H; subst H
     exact ⟨_, _, G0, rfl, upds_self _ _ ⟨rfl, rfl, rfl, trivial⟩, Gle.refl _, hS, hO⟩
    ·refine .inr ⟨_, rfl, .below hb, ?_⟩; have H := oi H; subst H; have H := Hoq5
     have H : some (Sum.inr v33) = some r := H
     have H := oi H; subst H
     exact ⟨rfl, hS.below⟩
  ·have H := ifF hb7 H; refine zG rfl hb7 rfl rfl rfl ?_; refine zG rfl hb7 rfl rfl rfl ?_; refine zV (rn_pickF (v := (.bool false)) rfl hb7 rfl) rfl ?_; refine zx (.bool false) rfl rfl ?_; refine zG rfl rfl rfl rfl rfl ?_; refine zG rfl rfl rfl rfl rfl ?_; refine zG rfl rfl rfl rfl rfl ?_; refine zV (rn_pickF (v := (.bool false)) rfl rfl rfl) rfl ?_; refine zx (.bool false) rfl rfl ?_; refine zG rfl rfl rfl rfl rfl ?_; refine zG rfl rfl rfl rfl rfl ?_; refine zG rfl rfl rfl rfl rfl ?_; refine zG rfl rfl rfl rfl rfl ?_; refine zV (rn_pickF (v := (.bool false)) rfl rfl rfl) rfl ?_; refine zx (.bool false) rfl rfl ?_; refine zG rfl rfl rfl rfl rfl ?_; refine zG rfl rfl rfl rfl rfl ?_; refine zG rfl rfl rfl rfl rfl ?_; refine WL_guardU rfl rfl rfl rfl ?_; refine WL_guardU rfl rfl rfl rfl ?_; refine WL_guardU rfl rfl rfl rfl ?_; refine zG rfl rfl rfl rfl rfl ?_; refine zV (rn_pickF (v := (.bool false)) rfl rfl rfl) rfl ?_; refine zx (zs x0) rfl rfl ?_; obtain ⟨y34, hy34, H⟩ := bnd H
   have hxy34 := f58_ok (x0 := false) (x1 := x0) hS.sat  hy34
   refine zO rfl (OpP_enterP (rn_call cb58 rfl) rfl hxy34 (fun _ w35 hR => ?_)); obtain ⟨rfl, hb⟩ := hR; have hS := hS.keep hb; have hO := hO.below hb
   rcases y34 with v36 | v37
   ·refine .inl ⟨_, rfl, .below hb, ?_⟩; refine zN ?_
    have hO : Owns _ _ _ ([]) := hO
    have H := oi H; subst H
    exact ⟨_, _, G0, rfl, upds_self _ _ ⟨rfl, rfl, rfl, trivial⟩, Gle.refl _, hS, hO⟩
   ·refine .inr ⟨_, rfl, .below hb, ?_⟩; have H := oi H; subst H; have H := Hoq5
    have H : some (Sum.inr v37) = some r := H
    have H := oi H; subst H
    exact ⟨rfl, hS.below⟩
 ·rintro F w38 ⟨p6, Fb, G39, rfl, rfl, leG39, hS, hO⟩
  refine zQ ?_; refine zS ?_; refine zx (zs x0) rfl rfl ?_; refine zx (zs y1) rfl rfl ?_; refine zV (rn_neqS rfl rfl) rfl ?_; refine zN ?_; refine zT rfl (fun hb40 => ?_) (fun hb40 => ?_)
  ·have H := ifT hb40 H; refine zS ?_; refine zx (zi y3.1) rfl rfl ?_; refine zV (rn_neg rfl) rfl ?_; refine zy (zi (IntKind.i64.wrap (0 - y3.1))) rfl rfl ?_; refine zN ?_; refine WC_ret ?_
   have H : some (.inl (IntKind.i64.wrap (0 - y3.1))) = some r := H
   have H := oi H; subst H
   exact ⟨rfl, hS.below⟩
  ·have H := ifF hb40 H; refine zP ?_; refine zS ?_; refine zx (zi y3.1) rfl rfl ?_; refine zy (zi y3.1) rfl rfl ?_; refine zN ?_; refine WC_ret ?_
   have H : some (.inl y3.1) = some r := H
   have H := oi H; subst H
   exact ⟨rfl, hS.below⟩
end Go.Proofs.YtcaflmilfhhikaaGreatDoor
