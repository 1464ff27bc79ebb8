/-
  The walks: each Go function computes its plain function (printed by a program of ours).
-/
import Derived.Test.YtcaflmilfhhikaaGreatDoorAl
import Derived.Test.YtcaflmilfhhikaaGreatDoorRd
import Derived.Test.YtcaflmilfhhikaaGreatDoorBaseQ
import Derived.Test.YtcaflmilfhhikaaGreatDoorBaseU
import Derived.Test.YtcaflmilfhhikaaGreatDoorIt
import Derived.Test.YtcaflmilfhhikaaGreatDoorLib
import Derived.Test.YtcaflmilfhhikaaGreatDoorBu
import Derived.Test.YtcaflmilfhhikaaGreatDoorP4W3
namespace Go.Proofs.YtcaflmilfhhikaaGreatDoor
open Go.RowKit
set_option linter.unusedVariables false

set_option maxRecDepth 20000
set_option linter.unusedVariables false
set_option maxHeartbeats 1000000 in
theorem f29_ok {G0 : Gm} {w0 : World} (hS0 : Sat G0 w0) {x0 : (List UInt8)} (hT : TabZ Tryz.prog G0) {r : (TLandBook) ⊕ List UInt8} (H : f29 x0 = some r) :
  Calls Tryz.prog 29 #[zs x0] w0 (RetX G0 w0 (fun G v => ∃ r1, r = .inl r1 ∧ ∃ (ra0 : Option Addr) (rn0 rc0 : Nat) (ra1 : Option Addr) (rn1 rc1 : Nat) (ra2 : Option Addr) (rn2 rc2 : Nat), v = .agg #[zl ra0 rn0 rc0, zl ra1 rn1 rc1, zl ra2 rn2 rc2] ∧ RSl RTLandPerson 2 G ra0 rn0 rc0 r1.People ∧ RSl RTLandEvent 2 G ra1 rn1 rc1 r1.Events ∧ RSl RTLandMemory 4 G ra2 rn2 rc2 r1.Memories) (fun v => ∃ x : List UInt8, r = .inr x ∧ v = .iface 62 (.agg #[zs x]))) := by
 have hS := Since.start hS0
 have hO : Owns G0 w0 w0.heap.size [] := Owns.nil (Nat.le_refl _)
 unfold f29 at H
 refine enterGX (N := 110) (shutX _ _ _ _) [.cell 2 26] Tryz.func29 rfl rfl rfl rfl ?_; refine zS ?_
 refine zO rfl (zU (v := fun b => zp b) (cs := [zl none 0 0, zl none 0 0, zl none 0 0]) (e := 26) (by kernel_rfl) hS.sat hO rfl 3 1 rfl (by decide) (fun b1 w2 hb hO => ?_))
 have hS := hS.keep hb; refine zN ?_; refine zS ?_; refine zx (zs x0) rfl rfl ?_; obtain ⟨y4, hy4, H⟩ := bnd H; refine zO rfl (zC cb57 (f57_ok (x0 := x0) (x1 := ([10] : List UInt8)) hS.sat  hy4) rfl rfl (fun w5 hb => ?_)); have hS := hS.keep hb; have hO := hO.below hb; refine zx (.tuple #[.string ⟨y4.1.toArray⟩, .bool y4.2]) rfl rfl ?_; refine zV (zX (v := (.string ⟨y4.1.toArray⟩)) rfl rfl) rfl ?_; refine zV (zX (v := (.bool y4.2)) rfl rfl) rfl ?_; refine zy (.string ⟨y4.1.toArray⟩) rfl rfl ?_; refine zy (.bool y4.2) rfl rfl ?_; refine zN ?_; refine zS ?_; refine zx (.bool y4.2) rfl rfl ?_; refine zx (zs x0) rfl rfl ?_; obtain ⟨y6, hy6, H⟩ := bnd H
 have hxy6 := f58_ok (x0 := y4.2) (x1 := x0) hS.sat  hy6
 refine zO rfl (OpP_enterP (rn_call cb58 rfl) rfl hxy6 (fun _ w7 hR => ?_)); obtain ⟨rfl, hb⟩ := hR; have hS := hS.keep hb; have hO := hO.below hb
 rcases y6 with v8 | v9
 ·refine .inl ⟨_, rfl, .below hb, ?_⟩; refine zN ?_; refine zS ?_; refine zx (.string ⟨y4.1.toArray⟩) rfl rfl ?_; obtain ⟨y10, hy10, H⟩ := bnd H; refine zO rfl (OpP_callG cb59 (f59_ok (x0 := y4.1) (x1 := ([10] : List UInt8)) hS.sat  hy10) rfl rfl (fun vy10 G12 w11 hg hvy10 => ?_)); obtain ⟨a13, n13, c13, ⟨⟩, h13⟩ := hvy10; have hS := hS.grow hg; have hO := hO.grow hg
  have leG12 := hg.le
  refine zy (zl a13 n13 c13) rfl rfl ?_; refine zN ?_; refine zS ?_; refine zx (zl a13 n13 c13) rfl rfl ?_; obtain ⟨y14, hy14, H⟩ := bnd H; refine WL_idx sl66 h13 hy14 rfl rfl rfl ?_
  rintro b15 o15 _ hcb15 _ ⟨⟩
  refine zV (zL na9 rfl (hS.sat.cell (hcb15 0 _ rfl))) rfl ?_; obtain ⟨y16, hy16, H⟩ := bnd H; refine zO rfl (OpP_callG cb59 (f59_ok (x0 := y14) (x1 := ([32] : List UInt8)) hS.sat  hy16) rfl rfl (fun vy16 G18 w17 hg hvy16 => ?_)); obtain ⟨a19, n19, c19, ⟨⟩, h19⟩ := hvy16; have hS := hS.grow hg; have hO := hO.grow hg
  have leG18 := hg.le
  refine zy (zl a19 n19 c19) rfl rfl ?_; refine zN ?_; refine zQ ?_; obtain ⟨q20, hq20, H⟩ := bnd H; refine zM (fun F w => ∃ (p21 : Unit) (Fb : Fr) (G : Gm), q20 = .inl p21 ∧ F = upds Fb [(0, zs x0), (2, zp b1), (5, zl a13 n13 c13), (6, zl a19 n19 c19)] ∧ Gle G18 G ∧ Since w0.heap.size G0 w0 G w ∧ Owns G w w0.heap.size [zb 26 3 b1 [zl none 0 0, zl none 0 0, zl none 0 0]]) ?_ ?_
  ·have Hoq20 := H; have H := hq20; have hS := hS.keep (below_drew _); have hO := hO.below (below_drew _)
   refine WC_regionD mixedO (fun _ w => Sat G18 w ∧ Owns G18 w w0.heap.size [zb 26 3 b1 [zl none 0 0, zl none 0 0, zl none 0 0]]) (.fl 0 (.fl 1 (.fl 2 (.fl 3 (.fl 4 (.fl 5 (.fl 6 (.fl 7 (.fl 8 (.on 9 (.on 10 (.on 11 (.on 12 .nil))))))))))))) (by kernel_rfl) rfl (by kernel_rfl) (fun _ => ⟨hS.sat, hO⟩) ?_
   refine zD rfl (fun w hw => zm (v := (zl a19 n19 c19)) rfl) rfl ?_; refine zD rfl (fun w hw => rn_len sl66 rfl rfl h19.1) rfl ?_; refine zD rfl (fun w hw => rn_eql rfl rfl) rfl ?_; refine zD rfl (fun w hw => zm (v := (.bool ((y16.length : Int) == 4))) rfl) rfl ?_
   rcases bcases ((y16.length : Int) == 4) with hb22 | hb22
   ·have H := ifT hb22 H; refine zB rfl rfl hb22 rfl rfl (fun w hw => zm (v := (zl a19 n19 c19)) rfl) rfl ?_; obtain ⟨y23, hy23, H⟩ := bnd H; refine WD_idxY rfl rfl hb22 rfl rfl sl66 h19 hy23 rfl rfl rfl ?_
    rintro b24 o24 _ hcb24 _ ⟨⟩
    refine zB rfl rfl hb22 rfl rfl (fun w hw => zL na9 rfl (hw.1.cell (hcb24 0 _ rfl))) rfl ?_; refine zB rfl rfl hb22 rfl rfl (fun w hw => rn_eqlS rfl rfl) rfl ?_; refine zD rfl (fun w hw => rn_pickT (v := (.bool (y23 == ([108, 97, 110, 100] : List UInt8)))) rfl hb22 rfl) rfl ?_; refine zE rfl rfl (OpP_val (zm (v := (zl a13 n13 c13)) rfl) rfl ?_); refine ⟨fun _ _ => ⟨hS.sat, hO⟩, ?_⟩; refine zE rfl rfl (OpP_idx sl66 (h13.mono RStr_mono leG18) hy14 rfl rfl rfl ?_)
    rintro b25 o25 _ hcb25 _ ⟨⟩
    refine ⟨fun _ _ => ⟨hS.sat, hO⟩, ?_⟩; refine zE rfl rfl (OpP_val (zL na9 rfl (hS.sat.cell (hcb25 0 _ rfl))) rfl ?_); refine ⟨fun _ _ => ⟨hS.sat, hO⟩, ?_⟩; obtain ⟨y26, hy26, H⟩ := bnd H
    have hxy26 := f58_ok (x0 := y23 == ([108, 97, 110, 100] : List UInt8)) (x1 := y14) hS.sat  hy26
    refine zE rfl rfl (OpP_enterP (rn_call cb58 rfl) rfl hxy26 (fun _ w27 hR => ?_)); obtain ⟨rfl, hb⟩ := hR; have hS := hS.keep hb; have hO := hO.below hb
    rcases y26 with v28 | v29
    ·refine .inl ⟨_, rfl, .below hb, ?_⟩
     refine ⟨fun _ h => noneed (by kernel_rfl) h, ?_⟩
     refine zI ?_
     have hO : Owns _ _ _ ([zb 26 3 b1 [zl none 0 0, zl none 0 0, zl none 0 0]]) := hO
     have H := oi H; subst H
     exact ⟨_, _, G18, rfl, upds_self _ _ ⟨rfl, rfl, rfl, rfl, trivial⟩, Gle.refl _, hS, hO⟩
    ·refine .inr ⟨_, rfl, .below hb, ?_⟩; have H := oi H; subst H; have H := Hoq20
     have H : some (Sum.inr v29) = some r := H
     have H := oi H; subst H
     exact .inr ⟨_, rfl, ⟨_, rfl, rfl⟩, hS.below⟩
   ·have H := ifF hb22 H; refine zK rfl rfl hb22 rfl rfl rfl ?_; refine zK rfl rfl hb22 rfl rfl rfl ?_; refine zK rfl rfl hb22 rfl rfl rfl ?_; refine zK rfl rfl hb22 rfl rfl rfl ?_; refine zD rfl (fun w hw => rn_pickF (v := (.bool false)) rfl hb22 rfl) rfl ?_; refine zE rfl rfl (OpP_val (zm (v := (zl a13 n13 c13)) rfl) rfl ?_); refine ⟨fun _ _ => ⟨hS.sat, hO⟩, ?_⟩; refine zE rfl rfl (OpP_idx sl66 (h13.mono RStr_mono leG18) hy14 rfl rfl rfl ?_)
    rintro b30 o30 _ hcb30 _ ⟨⟩
    refine ⟨fun _ _ => ⟨hS.sat, hO⟩, ?_⟩; refine zE rfl rfl (OpP_val (zL na9 rfl (hS.sat.cell (hcb30 0 _ rfl))) rfl ?_); refine ⟨fun _ _ => ⟨hS.sat, hO⟩, ?_⟩; obtain ⟨y31, hy31, H⟩ := bnd H
    have hxy31 := f58_ok (x0 := false) (x1 := y14) hS.sat  hy31
    refine zE rfl rfl (OpP_enterP (rn_call cb58 rfl) rfl hxy31 (fun _ w32 hR => ?_)); obtain ⟨rfl, hb⟩ := hR; have hS := hS.keep hb; have hO := hO.below hb
    rcases y31 with v33 | v34
    ·refine .inl ⟨_, rfl, .below hb, ?_⟩
     refine ⟨fun _ h => noneed (by kernel_rfl) h, ?_⟩
     refine zI ?_
     have hO : Owns _ _ _ ([zb 26 3 b1 [zl none 0 0, zl none 0 0, zl none 0 0]]) := hO
     have H := oi H; subst H
     exact ⟨_, _, G18, rfl, upds_self _ _ ⟨rfl, rfl, rfl, rfl, trivial⟩, Gle.refl _, hS, hO⟩
    ·refine .inr ⟨_, rfl, .below hb, ?_⟩; have H := oi H; subst H; have H := Hoq20
     have H : some (Sum.inr v34) = some r := H
     have H := oi H; subst H
     exact .inr ⟨_, rfl, ⟨_, rfl, rfl⟩, hS.below⟩
  ·rintro F w35 ⟨p21, Fb, G36, rfl, rfl, leG36, hS, hO⟩
   refine zS ?_
   refine zV (v := (.agg #[zl none 0 0, zl none 0 0, zl none 0 0])) (by kernel_rfl) rfl ?_
   refine zO rfl (zU (v := fun b => zp b) (cs := [zl none 0 0, zl none 0 0, zl none 0 0]) (e := 107) (rn_boxA rfl) hS.sat hO rfl 3 1 rfl (by decide) (fun b37 w38 hb hO => ?_))
   have hS := hS.keep hb; refine zy (zi 1) rfl rfl ?_; refine zy (zp b37) rfl rfl ?_; refine zN ?_; refine zQ ?_; refine zS ?_
   refine zV (v := (.agg #[.string ⟨([112, 101, 114, 115, 111, 110] : List UInt8).toArray⟩, .string ⟨([101, 118, 101, 110, 116] : List UInt8).toArray⟩, .string ⟨([109, 101, 109, 111, 114, 121] : List UInt8).toArray⟩])) (by kernel_rfl) rfl ?_
   refine zx (zi 0) rfl rfl ?_; refine zN ?_; refine WC_block (WC_loopI ?_); refine WI_step ?_; refine zS ?_
   refine zV (v := (.bool true)) (by kernel_rfl) rfl ?_
   refine zN ?_; refine zQ ?_; refine WC_condT _ rfl rfl ?_; refine zP ?_; refine zQ ?_; refine WC_block ?_; refine zS ?_; refine zx (zi 0) rfl rfl ?_
   refine zV (v := (.string ⟨([112, 101, 114, 115, 111, 110] : List UInt8).toArray⟩)) (by kernel_rfl) rfl ?_
   refine zy (zi 0) rfl rfl ?_; refine zy (.string ⟨([112, 101, 114, 115, 111, 110] : List UInt8).toArray⟩) rfl rfl ?_; refine zN ?_; refine zS ?_; refine zx (zl a19 n19 c19) rfl rfl ?_; refine zx (zi 0) rfl rfl ?_
   refine zV (v := (zi 1)) (by kernel_rfl) rfl ?_
   obtain ⟨y40, hy40, H⟩ := bnd H; refine WL_idx sl66 (h19.mono RStr_mono leG36) hy40 rfl rfl rfl ?_
   rintro b41 o41 _ hcb41 _ ⟨⟩
   refine zV (zL na9 rfl (hS.sat.cell (hcb41 0 _ rfl))) rfl ?_; obtain ⟨y42, hy42, H⟩ := bnd H
   have l0_3 := (leG12.trans leG18).trans leG36
   have hxy42 := f60_ok (x0 := y40) hS.sat (hT.mono l0_3)  hy42
   refine zO rfl (OpP_enterP (rn_call cb60 rfl) rfl hxy42 (fun _ w43 hR => ?_)); obtain ⟨rfl, hb⟩ := hR; have hS := hS.keep hb; have hO := hO.below hb
   rcases y42 with v44 | v45
   ·refine .inl ⟨_, rfl, .below hb, ?_⟩; refine zy (zi v44) rfl rfl ?_; refine zN ?_; refine zQ ?_; obtain ⟨q46, hq46, H⟩ := bnd H; refine zM (fun F w => ∃ (p47 : Unit) (Fb : Fr) (G : Gm), q46 = .inl p47 ∧ F = upds Fb [(0, zs x0), (2, zp b1), (5, zl a13 n13 c13), (6, zl a19 n19 c19), (7, zi 1), (8, zp b37), (10, .string ⟨([112, 101, 114, 115, 111, 110] : List UInt8).toArray⟩), (11, zi v44), (42, .agg #[.string ⟨([112, 101, 114, 115, 111, 110] : List UInt8).toArray⟩, .string ⟨([101, 118, 101, 110, 116] : List UInt8).toArray⟩, .string ⟨([109, 101, 109, 111, 114, 121] : List UInt8).toArray⟩]), (43, zi 0)] ∧ Gle G36 G ∧ Since w0.heap.size G0 w0 G w ∧ Owns G w w0.heap.size [zb 107 3 b37 [zl none 0 0, zl none 0 0, zl none 0 0], zb 26 3 b1 [zl none 0 0, zl none 0 0, zl none 0 0]]) ?_ ?_
    ·have Hoq46 := H; have H := hq46; refine zR ?_; refine zx (zi v44) rfl rfl ?_; refine zV (rn_geq rfl rfl) rfl ?_; refine zx (.bool (decide (0 ≤ v44))) rfl rfl ?_
     rcases bcases (decide (0 ≤ v44)) with hb48 | hb48
     ·have H := ifT hb48 H; refine zY rfl hb48 rfl rfl ?_; refine zx (zi v44) rfl rfl ?_; refine zY rfl hb48 rfl rfl ?_; refine zx (zl a13 n13 c13) rfl rfl ?_; refine zY rfl hb48 rfl rfl ?_
      have l1_3 := leG18.trans leG36
      refine zV (rn_len sl66 rfl rfl (h13.mono RStr_mono l1_3).1) rfl ?_; refine zY rfl hb48 rfl rfl ?_; refine zV (rn_leq rfl rfl) rfl ?_; refine zV (rn_pickT (v := (.bool (decide (v44 ≤ (y10.length : Int))))) rfl hb48 rfl) rfl ?_; refine zx (.string ⟨([112, 101, 114, 115, 111, 110] : List UInt8).toArray⟩) rfl rfl ?_; obtain ⟨y49, hy49, H⟩ := bnd H
      have hxy49 := f58_ok (x0 := decide (v44 ≤ (y10.length : Int))) (x1 := ([112, 101, 114, 115, 111, 110] : List UInt8)) hS.sat  hy49
      refine zO rfl (OpP_enterP (rn_call cb58 rfl) rfl hxy49 (fun _ w50 hR => ?_)); obtain ⟨rfl, hb⟩ := hR; have hS := hS.keep hb; have hO := hO.below hb
      rcases y49 with v51 | v52
      ·refine .inl ⟨_, rfl, .below hb, ?_⟩; refine zN ?_
       have hO : Owns _ _ _ ([zb 107 3 b37 [zl none 0 0, zl none 0 0, zl none 0 0], zb 26 3 b1 [zl none 0 0, zl none 0 0, zl none 0 0]]) := hO
       have H := oi H; subst H
       exact ⟨_, _, G36, rfl, upds_self _ _ ⟨rfl, rfl, rfl, rfl, rfl, rfl, rfl, rfl, rfl, rfl, trivial⟩, Gle.refl _, hS, hO⟩
      ·refine .inr ⟨_, rfl, .below hb, ?_⟩; have H := oi H; subst H; have H := Hoq46
       have H : some (Sum.inr v52) = some r := H
       have H := oi H; subst H
       exact .inr ⟨_, rfl, ⟨_, rfl, rfl⟩, hS.below⟩
     ·have H := ifF hb48 H; refine zG rfl hb48 rfl rfl rfl ?_; refine zG rfl hb48 rfl rfl rfl ?_; refine zG rfl hb48 rfl rfl rfl ?_; refine zG rfl hb48 rfl rfl rfl ?_; refine zV (rn_pickF (v := (.bool false)) rfl hb48 rfl) rfl ?_; refine zx (.string ⟨([112, 101, 114, 115, 111, 110] : List UInt8).toArray⟩) rfl rfl ?_; obtain ⟨y53, hy53, H⟩ := bnd H
      have hxy53 := f58_ok (x0 := false) (x1 := ([112, 101, 114, 115, 111, 110] : List UInt8)) hS.sat  hy53
      refine zO rfl (OpP_enterP (rn_call cb58 rfl) rfl hxy53 (fun _ w54 hR => ?_)); obtain ⟨rfl, hb⟩ := hR; have hS := hS.keep hb; have hO := hO.below hb
      rcases y53 with v55 | v56
      ·refine .inl ⟨_, rfl, .below hb, ?_⟩; refine zN ?_
       have hO : Owns _ _ _ ([zb 107 3 b37 [zl none 0 0, zl none 0 0, zl none 0 0], zb 26 3 b1 [zl none 0 0, zl none 0 0, zl none 0 0]]) := hO
       have H := oi H; subst H
       exact ⟨_, _, G36, rfl, upds_self _ _ ⟨rfl, rfl, rfl, rfl, rfl, rfl, rfl, rfl, rfl, rfl, trivial⟩, Gle.refl _, hS, hO⟩
      ·refine .inr ⟨_, rfl, .below hb, ?_⟩; have H := oi H; subst H; have H := Hoq46
       have H : some (Sum.inr v56) = some r := H
       have H := oi H; subst H
       exact .inr ⟨_, rfl, ⟨_, rfl, rfl⟩, hS.below⟩
    ·rintro F w57 ⟨p47, Fb, G58, rfl, rfl, leG58, hS, hO⟩
     refine zS ?_; refine zx (zi v44) rfl rfl ?_; refine zx (zi 0) rfl rfl ?_; refine zN ?_; have hO := hO.cons_nil 54 2; have hO := hO.cons_nil 57 2; have hO := hO.cons_nil 60 4
     have hO : Owns _ _ _ ([⟨60, 4, 0, zl none 0 0, []⟩, ⟨57, 2, 0, zl none 0 0, []⟩, ⟨54, 2, 0, zl none 0 0, []⟩, zb 107 3 b37 [zl none 0 0, zl none 0 0, zl none 0 0], zb 26 3 b1 [zl none 0 0, zl none 0 0, zl none 0 0]]) := hO
     obtain ⟨q64, hq64, H⟩ := bnd H; refine zM (fun F w => ∃ (p63 : Int × TReader × TLandBook) (Fb : Fr) (G : Gm) (ap63_0 : Option Addr) (np63_0 cp63_0 : Nat) (clap63_0 : List Value) (ap63_1 : Option Addr) (np63_1 cp63_1 : Nat) (clap63_1 : List Value) (ap63_2 : Option Addr) (np63_2 cp63_2 : Nat) (clap63_2 : List Value) (ap63_3 : Option Addr) (np63_3 cp63_3 : Nat) (ap63_4 : Option Addr) (np63_4 cp63_4 : Nat) (ap63_5 : Option Addr) (np63_5 cp63_5 : Nat), q64 = .inl p63 ∧ F = upds Fb [(0, zs x0), (2, zp b1), (5, zl a13 n13 c13), (6, zl a19 n19 c19), (7, zi p63.1), (8, zp b37), (42, .agg #[.string ⟨([112, 101, 114, 115, 111, 110] : List UInt8).toArray⟩, .string ⟨([101, 118, 101, 110, 116] : List UInt8).toArray⟩, .string ⟨([109, 101, 109, 111, 114, 121] : List UInt8).toArray⟩]), (43, zi 0)] ∧ Gle G58 G ∧ Since w0.heap.size G0 w0 G w ∧ Owns G w w0.heap.size [⟨60, 4, np63_2, zl ap63_2 np63_2 cp63_2, clap63_2⟩, ⟨57, 2, np63_1, zl ap63_1 np63_1 cp63_1, clap63_1⟩, ⟨54, 2, np63_0, zl ap63_0 np63_0 cp63_0, clap63_0⟩, zb 107 3 b37 [zl ap63_0 np63_0 cp63_0, zl ap63_1 np63_1 cp63_1, zl ap63_2 np63_2 cp63_2], zb 26 3 b1 [zl ap63_3 np63_3 cp63_3, zl ap63_4 np63_4 cp63_4, zl ap63_5 np63_5 cp63_5]] ∧ np63_0 = p63.2.1.b.People.length ∧ Rd RTLandPerson 2 G clap63_0 p63.2.1.b.People ∧ np63_1 = p63.2.1.b.Events.length ∧ Rd RTLandEvent 2 G clap63_1 p63.2.1.b.Events ∧ np63_2 = p63.2.1.b.Memories.length ∧ Rd RTLandMemory 4 G clap63_2 p63.2.1.b.Memories ∧ RSl RTLandPerson 2 G ap63_3 np63_3 cp63_3 p63.2.2.People ∧ RSl RTLandEvent 2 G ap63_4 np63_4 cp63_4 p63.2.2.Events ∧ RSl RTLandMemory 4 G ap63_5 np63_5 cp63_5 p63.2.2.Memories) ?_ ?_
     ·refine WC_block (WC_loop hq64 (fun s62 F w => ∃ (Fb : Fr) (G : Gm) (as62_0 : Option Addr) (ns62_0 cs62_0 : Nat) (clas62_0 : List Value) (as62_1 : Option Addr) (ns62_1 cs62_1 : Nat) (clas62_1 : List Value) (as62_2 : Option Addr) (ns62_2 cs62_2 : Nat) (clas62_2 : List Value) (as62_3 : Option Addr) (ns62_3 cs62_3 : Nat) (as62_4 : Option Addr) (ns62_4 cs62_4 : Nat) (as62_5 : Option Addr) (ns62_5 cs62_5 : Nat), F = upds Fb [(0, zs x0), (2, zp b1), (5, zl a13 n13 c13), (6, zl a19 n19 c19), (7, zi s62.1), (8, zp b37), (10, .string ⟨([112, 101, 114, 115, 111, 110] : List UInt8).toArray⟩), (42, .agg #[.string ⟨([112, 101, 114, 115, 111, 110] : List UInt8).toArray⟩, .string ⟨([101, 118, 101, 110, 116] : List UInt8).toArray⟩, .string ⟨([109, 101, 109, 111, 114, 121] : List UInt8).toArray⟩]), (43, zi 0), (63, zi v44), (64, zi s62.2.1)] ∧ Gle G58 G ∧ Since w0.heap.size G0 w0 G w ∧ Owns G w w0.heap.size [⟨60, 4, ns62_2, zl as62_2 ns62_2 cs62_2, clas62_2⟩, ⟨57, 2, ns62_1, zl as62_1 ns62_1 cs62_1, clas62_1⟩, ⟨54, 2, ns62_0, zl as62_0 ns62_0 cs62_0, clas62_0⟩, zb 107 3 b37 [zl as62_0 ns62_0 cs62_0, zl as62_1 ns62_1 cs62_1, zl as62_2 ns62_2 cs62_2], zb 26 3 b1 [zl as62_3 ns62_3 cs62_3, zl as62_4 ns62_4 cs62_4, zl as62_5 ns62_5 cs62_5]] ∧ ns62_0 = s62.2.2.1.b.People.length ∧ Rd RTLandPerson 2 G clas62_0 s62.2.2.1.b.People ∧ ns62_1 = s62.2.2.1.b.Events.length ∧ Rd RTLandEvent 2 G clas62_1 s62.2.2.1.b.Events ∧ ns62_2 = s62.2.2.1.b.Memories.length ∧ Rd RTLandMemory 4 G clas62_2 s62.2.2.1.b.Memories ∧ RSl RTLandPerson 2 G as62_3 ns62_3 cs62_3 s62.2.2.2.People ∧ RSl RTLandEvent 2 G as62_4 ns62_4 cs62_4 s62.2.2.2.Events ∧ RSl RTLandMemory 4 G as62_5 ns62_5 cs62_5 s62.2.2.2.Memories) ?_ ?_)
      ·have hO : Owns _ _ _ ([⟨60, 4, 0, zl none 0 0, []⟩, ⟨57, 2, 0, zl none 0 0, []⟩, ⟨54, 2, 0, zl none 0 0, []⟩, zb 107 3 b37 [zl none 0 0, zl none 0 0, zl none 0 0], zb 26 3 b1 [zl none 0 0, zl none 0 0, zl none 0 0]]) := hO
       exact ⟨_, G58, none, 0, 0, [], none, 0, 0, [], none, 0, 0, [], none, 0, 0, none, 0, 0, none, 0, 0, upds_self _ _ ⟨rfl, rfl, rfl, rfl, rfl, rfl, rfl, rfl, rfl, rfl, rfl, trivial⟩, Gle.refl _, hS, hO, rfl, (Rd.nil RTLandPerson 2 G58), rfl, (Rd.nil RTLandEvent 2 G58), rfl, (Rd.nil RTLandMemory 4 G58), (RSl.nil _ _ _ _), (RSl.nil _ _ _ _), (RSl.nil _ _ _ _)⟩
      ·rintro s62 F w66 t65 ⟨Fb, G67, as62_0, ns62_0, cs62_0, clas62_0, as62_1, ns62_1, cs62_1, clas62_1, as62_2, ns62_2, cs62_2, clas62_2, as62_3, ns62_3, cs62_3, as62_4, ns62_4, cs62_4, as62_5, ns62_5, cs62_5, rfl, leG67, hS, hO, hnhs62_0, hs62_0, hnhs62_1, hs62_1, hnhs62_2, hs62_2, hs62_3, hs62_4, hs62_5⟩
       intro H1 hqq64
       have Hoq64 := H; have H := H1
       unfold f29_b0 at H
       refine zS ?_; refine zV (rn_lss rfl rfl) rfl ?_; refine zN ?_; refine zQ ?_; refine zT rfl (fun hb68 => ?_) (fun hb68 => ?_)
       ·have H := ifT hb68 H; refine zP ?_; refine zQ ?_; refine WC_block ?_; refine zS ?_; refine zx (zi s62.1) rfl rfl ?_; refine zx (zl a13 n13 c13) rfl rfl ?_
        have l1_5 := ((leG18.trans leG36).trans leG58).trans leG67
        refine zV (rn_len sl66 rfl rfl (h13.mono RStr_mono l1_5).1) rfl ?_; refine zV (rn_lss rfl rfl) rfl ?_; refine zx (.string ⟨([112, 101, 114, 115, 111, 110] : List UInt8).toArray⟩) rfl rfl ?_; obtain ⟨y69, hy69, H⟩ := bnd H
        have hxy69 := f58_ok (x0 := decide (s62.1 < (y10.length : Int))) (x1 := ([112, 101, 114, 115, 111, 110] : List UInt8)) hS.sat  hy69
        refine zO rfl (OpP_enterP (rn_call cb58 rfl) rfl hxy69 (fun _ w70 hR => ?_)); obtain ⟨rfl, hb⟩ := hR; have hS := hS.keep hb; have hO := hO.below hb
        rcases y69 with v71 | v72
        ·refine .inl ⟨_, rfl, .below hb, ?_⟩; refine zN ?_; refine zS ?_; refine zx (zl a13 n13 c13) rfl rfl ?_; refine zx (zi s62.1) rfl rfl ?_; obtain ⟨y73, hy73, H⟩ := bnd H; refine WL_idx sl66 (h13.mono RStr_mono l1_5) hy73 rfl rfl rfl ?_
         rintro b74 o74 _ hcb74 _ ⟨⟩
         refine zV (zL na9 rfl (hS.sat.cell (hcb74 0 _ rfl))) rfl ?_; obtain ⟨y75, hy75, H⟩ := bnd H; refine zO rfl (OpP_callG cb59 (f59_ok (x0 := y73) (x1 := ([32] : List UInt8)) hS.sat  hy75) rfl rfl (fun vy75 G77 w76 hg hvy75 => ?_)); obtain ⟨a78, n78, c78, ⟨⟩, h78⟩ := hvy75; have hS := hS.grow hg; have hO := hO.grow hg
         have leG77 := hg.le
         refine zy (zl a78 n78 c78) rfl rfl ?_; refine zN ?_; refine zQ ?_; have hS := hS.keep (below_drew _); have hO := hO.below (below_drew _)
         refine WC_regionD mixedO (fun _ w => Sat G77 w ∧ Owns G77 w w0.heap.size [⟨60, 4, ns62_2, zl as62_2 ns62_2 cs62_2, clas62_2⟩, ⟨57, 2, ns62_1, zl as62_1 ns62_1 cs62_1, clas62_1⟩, ⟨54, 2, ns62_0, zl as62_0 ns62_0 cs62_0, clas62_0⟩, zb 107 3 b37 [zl as62_0 ns62_0 cs62_0, zl as62_1 ns62_1 cs62_1, zl as62_2 ns62_2 cs62_2], zb 26 3 b1 [zl as62_3 ns62_3 cs62_3, zl as62_4 ns62_4 cs62_4, zl as62_5 ns62_5 cs62_5]]) (.fl 0 (.fl 1 (.fl 2 (.fl 3 (.fl 4 (.fl 5 (.on 6 (.on 7 (.on 8 (.on 9 .nil)))))))))) (by kernel_rfl) rfl (by kernel_rfl) (fun _ => ⟨hS.sat, hO⟩) ?_
         refine zD rfl (fun w hw => zm (v := (zl a78 n78 c78)) rfl) rfl ?_; obtain ⟨y79, hy79, H⟩ := bnd H; refine WD_idx rfl sl66 h78 hy79 rfl rfl rfl ?_
         rintro b80 o80 _ hcb80 _ ⟨⟩
         refine zD rfl (fun w hw => zL na9 rfl (hw.1.cell (hcb80 0 _ rfl))) rfl ?_; refine zD rfl (fun w hw => zm (v := (.string ⟨([112, 101, 114, 115, 111, 110] : List UInt8).toArray⟩)) rfl) rfl ?_; refine zD rfl (fun w hw => rn_eqlS rfl rfl) rfl ?_; refine zD rfl (fun w hw => zm (v := (zl a13 n13 c13)) rfl) rfl ?_; refine zE rfl rfl (OpP_val (zm (v := (zi s62.1)) rfl) rfl ?_); refine ⟨fun _ _ => ⟨hS.sat, hO⟩, ?_⟩
         have l1_6 := l1_5.trans leG77
         refine zE rfl rfl (OpP_idx sl66 (h13.mono RStr_mono l1_6) hy73 rfl rfl rfl ?_)
         rintro b81 o81 _ hcb81 _ ⟨⟩
         refine ⟨fun _ _ => ⟨hS.sat, hO⟩, ?_⟩; refine zE rfl rfl (OpP_val (zL na9 rfl (hS.sat.cell (hcb81 0 _ rfl))) rfl ?_); refine ⟨fun _ _ => ⟨hS.sat, hO⟩, ?_⟩; obtain ⟨y82, hy82, H⟩ := bnd H
         have hxy82 := f58_ok (x0 := y79 == ([112, 101, 114, 115, 111, 110] : List UInt8)) (x1 := y73) hS.sat  hy82
         refine zE rfl rfl (OpP_enterP (rn_call cb58 rfl) rfl hxy82 (fun _ w83 hR => ?_)); obtain ⟨rfl, hb⟩ := hR; have hS := hS.keep hb; have hO := hO.below hb
         rcases y82 with v84 | v85
         ·refine .inl ⟨_, rfl, .below hb, ?_⟩
          refine ⟨fun _ h => noneed (by kernel_rfl) h, ?_⟩
          refine zI ?_; refine zQ ?_; have hS := hS.keep (below_drew _); have hO := hO.below (below_drew _)
          refine WC_regionD mixedO (fun _ w => Sat G77 w ∧ Owns G77 w w0.heap.size [⟨60, 4, ns62_2, zl as62_2 ns62_2 cs62_2, clas62_2⟩, ⟨57, 2, ns62_1, zl as62_1 ns62_1 cs62_1, clas62_1⟩, ⟨54, 2, ns62_0, zl as62_0 ns62_0 cs62_0, clas62_0⟩, zb 107 3 b37 [zl as62_0 ns62_0 cs62_0, zl as62_1 ns62_1 cs62_1, zl as62_2 ns62_2 cs62_2], zb 26 3 b1 [zl as62_3 ns62_3 cs62_3, zl as62_4 ns62_4 cs62_4, zl as62_5 ns62_5 cs62_5]]) (.fl 1 (.fl 3 (.fl 4 (.fl 5 (.on 0 (.on 2 (.on 6 .nil))))))) (by kernel_rfl) rfl (by kernel_rfl) (fun _ => ⟨hS.sat, hO⟩) ?_
          refine zD rfl (fun w hw => zm (v := (.string ⟨([112, 101, 114, 115, 111, 110] : List UInt8).toArray⟩)) rfl) rfl ?_; refine zD rfl (fun w hw => zm (v := (zp b37)) rfl) rfl ?_; refine zD rfl (fun w hw => zm (v := (zl a78 n78 c78)) rfl) rfl ?_; obtain ⟨y86, hy86, H⟩ := bnd H; obtain ⟨hl0, hl1, hl2, _⟩ := subL_some hy86
          have hln := h78.1
          have hnc := h78.2.1.2
          obtain ⟨ay86, ny86, cy86, hsl, hsy86⟩ := RSl.sub h78 hy86 (q := n78) ((Int.toNat_natCast _).trans hln.symm)
          refine zD (v := (zl ay86 ny86 cy86)) rfl (fun w hw => (rn_sliceL sl66 rfl rfl hl0 (by omega) _).trans (congrArg (fun v => Result.ok (Next.value v) _) hsl)) rfl ?_
          refine zE rfl rfl (OpP_in1 (N' := 3) [] cb61 Tryz.func61 rfl rfl rfl rfl rfl rfl ?_); refine zS ?_; refine zy (.map none) rfl rfl ?_; refine zN ?_; refine zS ?_; refine zO rfl (OpP_makeMap (e := 9) hS hO rfl (fun r87 w88 hS hO => ?_))
          have hO : Owns _ _ _ ([⟨9, 2, ([] : (List ((List UInt8) × Nat))).length, .map (some r87), kvs kvS vvF ([] : (List ((List UInt8) × Nat)))⟩, ⟨60, 4, ns62_2, zl as62_2 ns62_2 cs62_2, clas62_2⟩, ⟨57, 2, ns62_1, zl as62_1 ns62_1 cs62_1, clas62_1⟩, ⟨54, 2, ns62_0, zl as62_0 ns62_0 cs62_0, clas62_0⟩, zb 107 3 b37 [zl as62_0 ns62_0 cs62_0, zl as62_1 ns62_1 cs62_1, zl as62_2 ns62_2 cs62_2], zb 26 3 b1 [zl as62_3 ns62_3 cs62_3, zl as62_4 ns62_4 cs62_4, zl as62_5 ns62_5 cs62_5]]) := hO
          refine zO rfl (OpP_insert (k := 0) (vv := vvF) (v := 79) (a := ([112, 101, 114, 115, 111, 110] : List UInt8)) mp111 (keyOk_S ui9) hS hO rfl rfl rfl rfl rfl (fun w90 hS hO => ?_))
          have hO : Owns _ _ _ ([⟨9, 2, (updM ([] : (List ((List UInt8) × Nat))) ([112, 101, 114, 115, 111, 110] : List UInt8) 79).length, .map (some r87), kvs kvS vvF (updM ([] : (List ((List UInt8) × Nat))) ([112, 101, 114, 115, 111, 110] : List UInt8) 79)⟩, ⟨60, 4, ns62_2, zl as62_2 ns62_2 cs62_2, clas62_2⟩, ⟨57, 2, ns62_1, zl as62_1 ns62_1 cs62_1, clas62_1⟩, ⟨54, 2, ns62_0, zl as62_0 ns62_0 cs62_0, clas62_0⟩, zb 107 3 b37 [zl as62_0 ns62_0 cs62_0, zl as62_1 ns62_1 cs62_1, zl as62_2 ns62_2 cs62_2], zb 26 3 b1 [zl as62_3 ns62_3 cs62_3, zl as62_4 ns62_4 cs62_4, zl as62_5 ns62_5 cs62_5]]) := hO
          refine zO rfl (OpP_insert (k := 0) (vv := vvF) (v := 80) (a := ([101, 118, 101, 110, 116] : List UInt8)) mp111 (keyOk_S ui9) hS hO rfl rfl rfl rfl rfl (fun w91 hS hO => ?_))
          have hO : Owns _ _ _ ([⟨9, 2, (updM (updM ([] : (List ((List UInt8) × Nat))) ([112, 101, 114, 115, 111, 110] : List UInt8) 79) ([101, 118, 101, 110, 116] : List UInt8) 80).length, .map (some r87), kvs kvS vvF (updM (updM ([] : (List ((List UInt8) × Nat))) ([112, 101, 114, 115, 111, 110] : List UInt8) 79) ([101, 118, 101, 110, 116] : List UInt8) 80)⟩, ⟨60, 4, ns62_2, zl as62_2 ns62_2 cs62_2, clas62_2⟩, ⟨57, 2, ns62_1, zl as62_1 ns62_1 cs62_1, clas62_1⟩, ⟨54, 2, ns62_0, zl as62_0 ns62_0 cs62_0, clas62_0⟩, zb 107 3 b37 [zl as62_0 ns62_0 cs62_0, zl as62_1 ns62_1 cs62_1, zl as62_2 ns62_2 cs62_2], zb 26 3 b1 [zl as62_3 ns62_3 cs62_3, zl as62_4 ns62_4 cs62_4, zl as62_5 ns62_5 cs62_5]]) := hO
          refine zO rfl (OpP_insert (k := 0) (vv := vvF) (v := 81) (a := ([109, 101, 109, 111, 114, 121] : List UInt8)) mp111 (keyOk_S ui9) hS hO rfl rfl rfl rfl rfl (fun w92 hS hO => ?_))
          have hO : Owns _ _ _ ([⟨9, 2, (updM (updM (updM ([] : (List ((List UInt8) × Nat))) ([112, 101, 114, 115, 111, 110] : List UInt8) 79) ([101, 118, 101, 110, 116] : List UInt8) 80) ([109, 101, 109, 111, 114, 121] : List UInt8) 81).length, .map (some r87), kvs kvS vvF (updM (updM (updM ([] : (List ((List UInt8) × Nat))) ([112, 101, 114, 115, 111, 110] : List UInt8) 79) ([101, 118, 101, 110, 116] : List UInt8) 80) ([109, 101, 109, 111, 114, 121] : List UInt8) 81)⟩, ⟨60, 4, ns62_2, zl as62_2 ns62_2 cs62_2, clas62_2⟩, ⟨57, 2, ns62_1, zl as62_1 ns62_1 cs62_1, clas62_1⟩, ⟨54, 2, ns62_0, zl as62_0 ns62_0 cs62_0, clas62_0⟩, zb 107 3 b37 [zl as62_0 ns62_0 cs62_0, zl as62_1 ns62_1 cs62_1, zl as62_2 ns62_2 cs62_2], zb 26 3 b1 [zl as62_3 ns62_3 cs62_3, zl as62_4 ns62_4 cs62_4, zl as62_5 ns62_5 cs62_5]]) := hO
          refine zx (.map (some r87)) rfl rfl ?_; refine zy (.map (some r87)) rfl rfl ?_; refine zN ?_; refine WC_ret ?_; refine ⟨(.map (some r87)), rfl, ?_⟩
          have hO : Owns _ _ _ ([⟨9, 2, (updM (updM (updM ([] : (List ((List UInt8) × Nat))) ([112, 101, 114, 115, 111, 110] : List UInt8) 79) ([101, 118, 101, 110, 116] : List UInt8) 80) ([109, 101, 109, 111, 114, 121] : List UInt8) 81).length, .map (some r87), kvs kvS vvF (updM (updM (updM ([] : (List ((List UInt8) × Nat))) ([112, 101, 114, 115, 111, 110] : List UInt8) 79) ([101, 118, 101, 110, 116] : List UInt8) 80) ([109, 101, 109, 111, 114, 121] : List UInt8) 81)⟩, ⟨60, 4, ns62_2, zl as62_2 ns62_2 cs62_2, clas62_2⟩, ⟨57, 2, ns62_1, zl as62_1 ns62_1 cs62_1, clas62_1⟩, ⟨54, 2, ns62_0, zl as62_0 ns62_0 cs62_0, clas62_0⟩, zb 107 3 b37 [zl as62_0 ns62_0 cs62_0, zl as62_1 ns62_1 cs62_1, zl as62_2 ns62_2 cs62_2], zb 26 3 b1 [zl as62_3 ns62_3 cs62_3, zl as62_4 ns62_4 cs62_4, zl as62_5 ns62_5 cs62_5]]) := hO
          refine ⟨fun _ _ => ⟨hS.sat, (hO.drop 0)⟩, ?_⟩; refine zE rfl rfl (OpP_val (v := vvF 79) (rn_lookupF (k := 0) (vv := vvF) (a := ([112, 101, 114, 115, 111, 110] : List UInt8)) (v := 79) mp111 (keyOk_S ui9) hO rfl rfl rfl rfl) rfl ?_); refine ⟨fun _ _ => ⟨hS.sat, (hO.drop 0)⟩, ?_⟩; refine zE rfl rfl (OpP_inCP0 (N' := 49) (fi := []) (al := [zp b37, zl ay86 ny86 cy86]) (ca := []) cb79 Tryz.func79 rfl rfl rfl rfl rfl rfl rfl ?_); refine zS ?_; refine zx (zl ay86 ny86 cy86) rfl rfl ?_; refine zV (rn_len sl66 rfl rfl hsy86.1) rfl ?_; refine zV (rn_eql rfl rfl) rfl ?_; obtain ⟨y93, hy93, H⟩ := bnd H
          have hxy93 := f58_ok (x0 := (y86.length : Int) == 2) (x1 := ([112, 101, 114, 115, 111, 110] : List UInt8)) hS.sat  hy93
          refine zO rfl (OpP_enterP (rn_call cb58 rfl) rfl hxy93 (fun _ w94 hR => ?_)); obtain ⟨rfl, hb⟩ := hR; have hS := hS.keep hb; have hO := hO.below hb
          rcases y93 with v95 | v96
          ·refine .inl ⟨_, rfl, .below hb, ?_⟩; refine zN ?_; refine zS ?_
           refine zO rfl (zU (v := fun b => zp b) (cs := (cellsT (Tb.zero 2))) (e := 126) (by kernel_rfl) hS.sat hO rfl 2 1 (cellsT_len _) (by decide) (fun b97 w98 hb hO => ?_))
           have hS := hS.keep hb; refine zN ?_; refine zQ ?_; refine zS ?_; refine zx (zl ay86 ny86 cy86) rfl rfl ?_; refine zV (rn_len sl66 rfl rfl hsy86.1) rfl ?_; refine zx (zi 0) rfl rfl ?_; refine zN ?_
           have hO : Owns _ _ _ ([⟨126, 2, 1, zl (some ⟨b97, 0, none⟩) 1 1, cellsT (Tb.zero 2)⟩, ⟨9, 2, (updM (updM (updM ([] : (List ((List UInt8) × Nat))) ([112, 101, 114, 115, 111, 110] : List UInt8) 79) ([101, 118, 101, 110, 116] : List UInt8) 80) ([109, 101, 109, 111, 114, 121] : List UInt8) 81).length, .map (some r87), kvs kvS vvF (updM (updM (updM ([] : (List ((List UInt8) × Nat))) ([112, 101, 114, 115, 111, 110] : List UInt8) 79) ([101, 118, 101, 110, 116] : List UInt8) 80) ([109, 101, 109, 111, 114, 121] : List UInt8) 81)⟩, ⟨60, 4, ns62_2, zl as62_2 ns62_2 cs62_2, clas62_2⟩, ⟨57, 2, ns62_1, zl as62_1 ns62_1 cs62_1, clas62_1⟩, ⟨54, 2, ns62_0, zl as62_0 ns62_0 cs62_0, clas62_0⟩, zb 107 3 b37 [zl as62_0 ns62_0 cs62_0, zl as62_1 ns62_1 cs62_1, zl as62_2 ns62_2 cs62_2], zb 26 3 b1 [zl as62_3 ns62_3 cs62_3, zl as62_4 ns62_4 cs62_4, zl as62_5 ns62_5 cs62_5]]) := hO
           obtain ⟨q102, hq102, H⟩ := bnd H; refine zM (fun F w => ∃ (p101 : (Tb 2) × TReader × TLandBook × (List ((List UInt8) × Nat))) (Fb : Fr) (G : Gm) (ap101_0 : Option Addr) (np101_0 cp101_0 : Nat) (clap101_0 : List Value) (ap101_1 : Option Addr) (np101_1 cp101_1 : Nat) (clap101_1 : List Value) (ap101_2 : Option Addr) (np101_2 cp101_2 : Nat) (clap101_2 : List Value) (ap101_3 : Option Addr) (np101_3 cp101_3 : Nat) (ap101_4 : Option Addr) (np101_4 cp101_4 : Nat) (ap101_5 : Option Addr) (np101_5 cp101_5 : Nat), q102 = .inl p101 ∧ F = upds Fb [(0, zp b37), (4, zp b97)] ∧ Gle G77 G ∧ Since w0.heap.size G0 w0 G w ∧ Owns G w w0.heap.size [⟨126, 2, 1, zl (some ⟨b97, 0, none⟩) 1 1, cellsT p101.1⟩, ⟨9, 2, (p101.2.2.2).length, .map (some r87), kvs kvS vvF (p101.2.2.2)⟩, ⟨60, 4, np101_2, zl ap101_2 np101_2 cp101_2, clap101_2⟩, ⟨57, 2, np101_1, zl ap101_1 np101_1 cp101_1, clap101_1⟩, ⟨54, 2, np101_0, zl ap101_0 np101_0 cp101_0, clap101_0⟩, zb 107 3 b37 [zl ap101_0 np101_0 cp101_0, zl ap101_1 np101_1 cp101_1, zl ap101_2 np101_2 cp101_2], zb 26 3 b1 [zl ap101_3 np101_3 cp101_3, zl ap101_4 np101_4 cp101_4, zl ap101_5 np101_5 cp101_5]] ∧ np101_0 = p101.2.1.b.People.length ∧ Rd RTLandPerson 2 G clap101_0 p101.2.1.b.People ∧ np101_1 = p101.2.1.b.Events.length ∧ Rd RTLandEvent 2 G clap101_1 p101.2.1.b.Events ∧ np101_2 = p101.2.1.b.Memories.length ∧ Rd RTLandMemory 4 G clap101_2 p101.2.1.b.Memories ∧ RSl RTLandPerson 2 G ap101_3 np101_3 cp101_3 p101.2.2.1.People ∧ RSl RTLandEvent 2 G ap101_4 np101_4 cp101_4 p101.2.2.1.Events ∧ RSl RTLandMemory 4 G ap101_5 np101_5 cp101_5 p101.2.2.1.Memories) ?_ ?_
           ·refine WC_block (WC_loop hq102 (fun s100 F w => ∃ (Fb : Fr) (G : Gm) (as100_0 : Option Addr) (ns100_0 cs100_0 : Nat) (clas100_0 : List Value) (as100_1 : Option Addr) (ns100_1 cs100_1 : Nat) (clas100_1 : List Value) (as100_2 : Option Addr) (ns100_2 cs100_2 : Nat) (clas100_2 : List Value) (as100_3 : Option Addr) (ns100_3 cs100_3 : Nat) (as100_4 : Option Addr) (ns100_4 cs100_4 : Nat) (as100_5 : Option Addr) (ns100_5 cs100_5 : Nat), F = upds Fb [(0, zp b37), (4, zp b97), (11, zl ay86 ny86 cy86), (12, zi (y86.length : Int)), (13, zi s100.1)] ∧ Gle G77 G ∧ Since w0.heap.size G0 w0 G w ∧ Owns G w w0.heap.size [⟨126, 2, 1, zl (some ⟨b97, 0, none⟩) 1 1, cellsT s100.2.1⟩, ⟨9, 2, (s100.2.2.2.2).length, .map (some r87), kvs kvS vvF (s100.2.2.2.2)⟩, ⟨60, 4, ns100_2, zl as100_2 ns100_2 cs100_2, clas100_2⟩, ⟨57, 2, ns100_1, zl as100_1 ns100_1 cs100_1, clas100_1⟩, ⟨54, 2, ns100_0, zl as100_0 ns100_0 cs100_0, clas100_0⟩, zb 107 3 b37 [zl as100_0 ns100_0 cs100_0, zl as100_1 ns100_1 cs100_1, zl as100_2 ns100_2 cs100_2], zb 26 3 b1 [zl as100_3 ns100_3 cs100_3, zl as100_4 ns100_4 cs100_4, zl as100_5 ns100_5 cs100_5]] ∧ ns100_0 = s100.2.2.1.b.People.length ∧ Rd RTLandPerson 2 G clas100_0 s100.2.2.1.b.People ∧ ns100_1 = s100.2.2.1.b.Events.length ∧ Rd RTLandEvent 2 G clas100_1 s100.2.2.1.b.Events ∧ ns100_2 = s100.2.2.1.b.Memories.length ∧ Rd RTLandMemory 4 G clas100_2 s100.2.2.1.b.Memories ∧ RSl RTLandPerson 2 G as100_3 ns100_3 cs100_3 s100.2.2.2.1.People ∧ RSl RTLandEvent 2 G as100_4 ns100_4 cs100_4 s100.2.2.2.1.Events ∧ RSl RTLandMemory 4 G as100_5 ns100_5 cs100_5 s100.2.2.2.1.Memories) ?_ ?_)
            ·have hO : Owns _ _ _ ([⟨126, 2, 1, zl (some ⟨b97, 0, none⟩) 1 1, cellsT (Tb.zero 2)⟩, ⟨9, 2, (updM (updM (updM ([] : (List ((List UInt8) × Nat))) ([112, 101, 114, 115, 111, 110] : List UInt8) 79) ([101, 118, 101, 110, 116] : List UInt8) 80) ([109, 101, 109, 111, 114, 121] : List UInt8) 81).length, .map (some r87), kvs kvS vvF (updM (updM (updM ([] : (List ((List UInt8) × Nat))) ([112, 101, 114, 115, 111, 110] : List UInt8) 79) ([101, 118, 101, 110, 116] : List UInt8) 80) ([109, 101, 109, 111, 114, 121] : List UInt8) 81)⟩, ⟨60, 4, ns62_2, zl as62_2 ns62_2 cs62_2, clas62_2⟩, ⟨57, 2, ns62_1, zl as62_1 ns62_1 cs62_1, clas62_1⟩, ⟨54, 2, ns62_0, zl as62_0 ns62_0 cs62_0, clas62_0⟩, zb 107 3 b37 [zl as62_0 ns62_0 cs62_0, zl as62_1 ns62_1 cs62_1, zl as62_2 ns62_2 cs62_2], zb 26 3 b1 [zl as62_3 ns62_3 cs62_3, zl as62_4 ns62_4 cs62_4, zl as62_5 ns62_5 cs62_5]]) := hO
             exact ⟨_, G77, as62_0, ns62_0, cs62_0, clas62_0, as62_1, ns62_1, cs62_1, clas62_1, as62_2, ns62_2, cs62_2, clas62_2, as62_3, ns62_3, cs62_3, as62_4, ns62_4, cs62_4, as62_5, ns62_5, cs62_5, upds_self _ _ ⟨rfl, rfl, rfl, rfl, rfl, trivial⟩, Gle.refl _, hS, hO, hnhs62_0, (hs62_0.mono RTLandPerson_mono leG77), hnhs62_1, (hs62_1.mono RTLandEvent_mono leG77), hnhs62_2, (hs62_2.mono RTLandMemory_mono leG77), (hs62_3.mono RTLandPerson_mono leG77), (hs62_4.mono RTLandEvent_mono leG77), (hs62_5.mono RTLandMemory_mono leG77)⟩
            ·rintro s100 F w104 t103 ⟨Fb, G105, as100_0, ns100_0, cs100_0, clas100_0, as100_1, ns100_1, cs100_1, clas100_1, as100_2, ns100_2, cs100_2, clas100_2, as100_3, ns100_3, cs100_3, as100_4, ns100_4, cs100_4, as100_5, ns100_5, cs100_5, rfl, leG105, hS, hO, hnhs100_0, hs100_0, hnhs100_1, hs100_1, hnhs100_2, hs100_2, hs100_3, hs100_4, hs100_5⟩
             intro H1 hqq102
             have Hoq102 := H; have H := H1
             unfold f29_b1 at H
             refine zS ?_; refine zV (rn_lss rfl rfl) rfl ?_; refine zN ?_; refine zQ ?_; refine zT rfl (fun hb106 => ?_) (fun hb106 => ?_)
             ·have H := ifT hb106 H; refine zP ?_; refine zQ ?_; obtain ⟨q107, hq107, H⟩ := bnd H; refine zM (fun F w => ∃ (p108 : (Tb 2)) (Fb : Fr) (G : Gm), q107 = .inl p108 ∧ F = upds Fb [(0, zp b37), (4, zp b97), (11, zl ay86 ny86 cy86), (12, zi (y86.length : Int)), (13, zi s100.1)] ∧ Gle G105 G ∧ Since w0.heap.size G0 w0 G w ∧ Owns G w w0.heap.size [⟨126, 2, 1, zl (some ⟨b97, 0, none⟩) 1 1, cellsT p108⟩, ⟨9, 2, (s100.2.2.2.2).length, .map (some r87), kvs kvS vvF (s100.2.2.2.2)⟩, ⟨60, 4, ns100_2, zl as100_2 ns100_2 cs100_2, clas100_2⟩, ⟨57, 2, ns100_1, zl as100_1 ns100_1 cs100_1, clas100_1⟩, ⟨54, 2, ns100_0, zl as100_0 ns100_0 cs100_0, clas100_0⟩, zb 107 3 b37 [zl as100_0 ns100_0 cs100_0, zl as100_1 ns100_1 cs100_1, zl as100_2 ns100_2 cs100_2], zb 26 3 b1 [zl as100_3 ns100_3 cs100_3, zl as100_4 ns100_4 cs100_4, zl as100_5 ns100_5 cs100_5]]) ?_ ?_
              ·have Hoq107 := H; have H := hq107; refine WC_block ?_; refine zS ?_; refine zx (zi s100.1) rfl rfl ?_; obtain ⟨y109, hy109, H⟩ := bnd H; refine WL_idx sl66 (hsy86.mono RStr_mono leG105) hy109 rfl rfl rfl ?_
               rintro b110 o110 _ hcb110 _ ⟨⟩
               refine zV (zL na9 rfl (hS.sat.cell (hcb110 0 _ rfl))) rfl ?_; refine zy (zi s100.1) rfl rfl ?_; refine zy (zs y109) rfl rfl ?_; refine zN ?_; refine zQ ?_; refine zS ?_; refine zx (zs y109) rfl rfl ?_; refine zV (rn_eqlS rfl rfl) rfl ?_; refine zN ?_; refine zT rfl (fun hb111 => ?_) (fun hb111 => ?_)
               ·have H := ifT hb111 H; refine zS ?_; refine zx (zi s100.1) rfl rfl ?_; obtain ⟨j112, hj112, H⟩ := bnd H
                have hl113 : 0 + j112 * 1 < 2 := by have := (ckI_some hj112).2; omega
                refine zV (rn_idxA ar126 rfl rfl hj112) rfl ?_; refine zO rfl (OpP_storeT sz3 hS hO (k := 0) rfl rfl rfl hl113 (fun w114 hS hO => ?_))
                have hO : Owns _ _ _ ([⟨126, 2, 1, zl (some ⟨b97, 0, none⟩) 1 1, cellsT (tset s100.2.1 (0 + j112 * 1) (-1))⟩, ⟨9, 2, (s100.2.2.2.2).length, .map (some r87), kvs kvS vvF (s100.2.2.2.2)⟩, ⟨60, 4, ns100_2, zl as100_2 ns100_2 cs100_2, clas100_2⟩, ⟨57, 2, ns100_1, zl as100_1 ns100_1 cs100_1, clas100_1⟩, ⟨54, 2, ns100_0, zl as100_0 ns100_0 cs100_0, clas100_0⟩, zb 107 3 b37 [zl as100_0 ns100_0 cs100_0, zl as100_1 ns100_1 cs100_1, zl as100_2 ns100_2 cs100_2], zb 26 3 b1 [zl as100_3 ns100_3 cs100_3, zl as100_4 ns100_4 cs100_4, zl as100_5 ns100_5 cs100_5]]) := hO
                refine zN ?_; refine WC_exit rfl ?_
                have hO : Owns _ _ _ ([⟨126, 2, 1, zl (some ⟨b97, 0, none⟩) 1 1, cellsT (tset s100.2.1 (0 + j112 * 1) (-1))⟩, ⟨9, 2, (s100.2.2.2.2).length, .map (some r87), kvs kvS vvF (s100.2.2.2.2)⟩, ⟨60, 4, ns100_2, zl as100_2 ns100_2 cs100_2, clas100_2⟩, ⟨57, 2, ns100_1, zl as100_1 ns100_1 cs100_1, clas100_1⟩, ⟨54, 2, ns100_0, zl as100_0 ns100_0 cs100_0, clas100_0⟩, zb 107 3 b37 [zl as100_0 ns100_0 cs100_0, zl as100_1 ns100_1 cs100_1, zl as100_2 ns100_2 cs100_2], zb 26 3 b1 [zl as100_3 ns100_3 cs100_3, zl as100_4 ns100_4 cs100_4, zl as100_5 ns100_5 cs100_5]]) := hO
                have H := oi H; subst H
                exact ⟨_, _, G105, rfl, upds_self _ _ ⟨rfl, rfl, rfl, rfl, rfl, trivial⟩, Gle.refl _, hS, hO⟩
               ·have H := ifF hb111 H; refine zP ?_; refine zS ?_; refine zx (zi s100.1) rfl rfl ?_; refine zx (zs y109) rfl rfl ?_; obtain ⟨y115, hy115, H⟩ := bnd H
                have l0_7 := (((l0_3.trans leG58).trans leG67).trans leG77).trans leG105
                have hxy115 := f60_ok (x0 := y109) hS.sat (hT.mono l0_7)  hy115
                refine zO rfl (OpP_enterP (rn_call cb60 rfl) rfl hxy115 (fun _ w116 hR => ?_)); obtain ⟨rfl, hb⟩ := hR; have hS := hS.keep hb; have hO := hO.below hb
                rcases y115 with v117 | v118
                ·refine .inl ⟨_, rfl, .below hb, ?_⟩; obtain ⟨j119, hj119, H⟩ := bnd H
                 have hl120 : 0 + j119 * 1 < 2 := by have := (ckI_some hj119).2; omega
                 refine zV (rn_idxA ar126 rfl rfl hj119) rfl ?_; refine zO rfl (OpP_storeT sz3 hS hO (k := 0) rfl rfl rfl hl120 (fun w121 hS hO => ?_))
                 have hO : Owns _ _ _ ([⟨126, 2, 1, zl (some ⟨b97, 0, none⟩) 1 1, cellsT (tset s100.2.1 (0 + j119 * 1) v117)⟩, ⟨9, 2, (s100.2.2.2.2).length, .map (some r87), kvs kvS vvF (s100.2.2.2.2)⟩, ⟨60, 4, ns100_2, zl as100_2 ns100_2 cs100_2, clas100_2⟩, ⟨57, 2, ns100_1, zl as100_1 ns100_1 cs100_1, clas100_1⟩, ⟨54, 2, ns100_0, zl as100_0 ns100_0 cs100_0, clas100_0⟩, zb 107 3 b37 [zl as100_0 ns100_0 cs100_0, zl as100_1 ns100_1 cs100_1, zl as100_2 ns100_2 cs100_2], zb 26 3 b1 [zl as100_3 ns100_3 cs100_3, zl as100_4 ns100_4 cs100_4, zl as100_5 ns100_5 cs100_5]]) := hO
                 refine zN ?_; refine zR ?_; refine zx (zi s100.1) rfl rfl ?_; obtain ⟨j122, hj122, H⟩ := bnd H
                 have hl123 : 0 + j122 * 1 < 2 := by have := (ckI_some hj122).2; omega
                 refine zV (rn_idxA ar126 rfl rfl hj122) rfl ?_; refine zV (zL na3 rfl (tab_cell hO (k := 0) rfl hl123)) rfl ?_; refine zV (rn_neq rfl rfl) rfl ?_; refine zx (zs y109) rfl rfl ?_; obtain ⟨y124, hy124, H⟩ := bnd H
                 have hxy124 := f58_ok (x0 := (tget (tset s100.2.1 (0 + j119 * 1) v117) (0 + j122 * 1)) != (-1)) (x1 := y109) hS.sat  hy124
                 refine zO rfl (OpP_enterP (rn_call cb58 rfl) rfl hxy124 (fun _ w125 hR => ?_)); obtain ⟨rfl, hb⟩ := hR; have hS := hS.keep hb; have hO := hO.below hb
                 rcases y124 with v126 | v127
                 ·refine .inl ⟨_, rfl, .below hb, ?_⟩; refine zN ?_
                  have hO : Owns _ _ _ ([⟨126, 2, 1, zl (some ⟨b97, 0, none⟩) 1 1, cellsT (tset s100.2.1 (0 + j119 * 1) v117)⟩, ⟨9, 2, (s100.2.2.2.2).length, .map (some r87), kvs kvS vvF (s100.2.2.2.2)⟩, ⟨60, 4, ns100_2, zl as100_2 ns100_2 cs100_2, clas100_2⟩, ⟨57, 2, ns100_1, zl as100_1 ns100_1 cs100_1, clas100_1⟩, ⟨54, 2, ns100_0, zl as100_0 ns100_0 cs100_0, clas100_0⟩, zb 107 3 b37 [zl as100_0 ns100_0 cs100_0, zl as100_1 ns100_1 cs100_1, zl as100_2 ns100_2 cs100_2], zb 26 3 b1 [zl as100_3 ns100_3 cs100_3, zl as100_4 ns100_4 cs100_4, zl as100_5 ns100_5 cs100_5]]) := hO
                  have H := oi H; subst H
                  exact ⟨_, _, G105, rfl, upds_self _ _ ⟨rfl, rfl, rfl, rfl, rfl, trivial⟩, Gle.refl _, hS, hO⟩
                 ·refine .inr ⟨_, rfl, .below hb, ?_⟩; have H := oi H; subst H; have H := Hoq107; have H := oi H; subst H
                  have hres := hqq102 _ rfl
                  subst hres; have H := Hoq102; have H := oi H; subst H
                  have hres := hqq64 _ rfl
                  subst hres; have H := Hoq64
                  have H : some (Sum.inr v127) = some r := H
                  have H := oi H; subst H
                  exact .inr ⟨_, rfl, ⟨_, rfl, rfl⟩, hS.below⟩
                ·refine .inr ⟨_, rfl, .below hb, ?_⟩; have H := oi H; subst H; have H := Hoq107; have H := oi H; subst H
                 have hres := hqq102 _ rfl
                 subst hres; have H := Hoq102; have H := oi H; subst H
                 have hres := hqq64 _ rfl
                 subst hres; have H := Hoq64
                 have H : some (Sum.inr v118) = some r := H
                 have H := oi H; subst H
                 exact .inr ⟨_, rfl, ⟨_, rfl, rfl⟩, hS.below⟩
              ·rintro F w128 ⟨p108, Fb, G129, rfl, rfl, leG129, hS, hO⟩
               refine zR ?_; refine zV (rn_add rfl rfl) rfl ?_; refine zx (zi (IntKind.i64.wrap (s100.1 + 1))) rfl rfl ?_; refine zN ?_
               have hO : Owns _ _ _ ([⟨126, 2, 1, zl (some ⟨b97, 0, none⟩) 1 1, cellsT p108⟩, ⟨9, 2, (s100.2.2.2.2).length, .map (some r87), kvs kvS vvF (s100.2.2.2.2)⟩, ⟨60, 4, ns100_2, zl as100_2 ns100_2 cs100_2, clas100_2⟩, ⟨57, 2, ns100_1, zl as100_1 ns100_1 cs100_1, clas100_1⟩, ⟨54, 2, ns100_0, zl as100_0 ns100_0 cs100_0, clas100_0⟩, zb 107 3 b37 [zl as100_0 ns100_0 cs100_0, zl as100_1 ns100_1 cs100_1, zl as100_2 ns100_2 cs100_2], zb 26 3 b1 [zl as100_3 ns100_3 cs100_3, zl as100_4 ns100_4 cs100_4, zl as100_5 ns100_5 cs100_5]]) := hO
               have H := oi H; subst H; refine ⟨_, rfl, ?_⟩
               have l6_8 := leG105.trans leG129
               exact ⟨_, G129, as100_0, ns100_0, cs100_0, clas100_0, as100_1, ns100_1, cs100_1, clas100_1, as100_2, ns100_2, cs100_2, clas100_2, as100_3, ns100_3, cs100_3, as100_4, ns100_4, cs100_4, as100_5, ns100_5, cs100_5, upds_self _ _ ⟨rfl, rfl, rfl, rfl, rfl, trivial⟩, l6_8, hS, hO, hnhs100_0, (hs100_0.mono RTLandPerson_mono leG129), hnhs100_1, (hs100_1.mono RTLandEvent_mono leG129), hnhs100_2, (hs100_2.mono RTLandMemory_mono leG129), (hs100_3.mono RTLandPerson_mono leG129), (hs100_4.mono RTLandEvent_mono leG129), (hs100_5.mono RTLandMemory_mono leG129)⟩
             ·have H := ifF hb106 H; refine WC_exit rfl ?_
              have hO : Owns _ _ _ ([⟨126, 2, 1, zl (some ⟨b97, 0, none⟩) 1 1, cellsT s100.2.1⟩, ⟨9, 2, (s100.2.2.2.2).length, .map (some r87), kvs kvS vvF (s100.2.2.2.2)⟩, ⟨60, 4, ns100_2, zl as100_2 ns100_2 cs100_2, clas100_2⟩, ⟨57, 2, ns100_1, zl as100_1 ns100_1 cs100_1, clas100_1⟩, ⟨54, 2, ns100_0, zl as100_0 ns100_0 cs100_0, clas100_0⟩, zb 107 3 b37 [zl as100_0 ns100_0 cs100_0, zl as100_1 ns100_1 cs100_1, zl as100_2 ns100_2 cs100_2], zb 26 3 b1 [zl as100_3 ns100_3 cs100_3, zl as100_4 ns100_4 cs100_4, zl as100_5 ns100_5 cs100_5]]) := hO
              have H := oi H; subst H
              have hres := hqq102 _ rfl
              subst hres
              exact ⟨_, _, G105, as100_0, ns100_0, cs100_0, clas100_0, as100_1, ns100_1, cs100_1, clas100_1, as100_2, ns100_2, cs100_2, clas100_2, as100_3, ns100_3, cs100_3, as100_4, ns100_4, cs100_4, as100_5, ns100_5, cs100_5, rfl, upds_self _ _ ⟨rfl, rfl, trivial⟩, leG105, hS, hO, hnhs100_0, hs100_0, hnhs100_1, hs100_1, hnhs100_2, hs100_2, hs100_3, hs100_4, hs100_5⟩
           ·rintro F w131 ⟨p101, Fb, G132, ap101_0, np101_0, cp101_0, clap101_0, ap101_1, np101_1, cp101_1, clap101_1, ap101_2, np101_2, cp101_2, clap101_2, ap101_3, np101_3, cp101_3, ap101_4, np101_4, cp101_4, ap101_5, np101_5, cp101_5, rfl, rfl, leG132, hS, hO, hnhp101_0, hp101_0, hnhp101_1, hp101_1, hnhp101_2, hp101_2, hp101_3, hp101_4, hp101_5⟩
            have hS := hS.keep (below_drew _); have hO := hO.below (below_drew _)
            refine WC_regionD mixedO (fun _ w => Sat G132 w ∧ Owns G132 w w0.heap.size [⟨126, 2, 1, zl (some ⟨b97, 0, none⟩) 1 1, cellsT p101.1⟩, ⟨9, 2, (p101.2.2.2).length, .map (some r87), kvs kvS vvF (p101.2.2.2)⟩, ⟨60, 4, np101_2, zl ap101_2 np101_2 cp101_2, clap101_2⟩, ⟨57, 2, np101_1, zl ap101_1 np101_1 cp101_1, clap101_1⟩, zb 107 3 b37 [zl ap101_0 np101_0 cp101_0, zl ap101_1 np101_1 cp101_1, zl ap101_2 np101_2 cp101_2], zb 26 3 b1 [zl ap101_3 np101_3 cp101_3, zl ap101_4 np101_4 cp101_4, zl ap101_5 np101_5 cp101_5]]) (.fl 0 (.fl 1 (.fl 2 (.fl 3 (.fl 4 (.fl 5 (.fl 6 (.fl 7 (.on 8 (.on 9 (.on 10 (.on 11 (.on 12 (.on 13 (.on 14 (.on 15 (.on 16 .nil))))))))))))))))) (by kernel_rfl) rfl (by kernel_rfl) (fun _ => ⟨hS.sat, (hO.drop 4)⟩) ?_
            refine zD rfl (fun w hw => zm (v := (zp b37)) rfl) rfl ?_; refine zD rfl (fun w hw => zm (v := (zp b37)) rfl) rfl ?_
            refine zD (v := (zp b37)) rfl (fun w hw => by kernel_rfl) rfl ?_
            refine zD rfl (fun w hw => zF fd107_0 rfl) rfl ?_; refine zD rfl (fun w hw => zF fd26_0 rfl) rfl ?_; refine zD rfl (fun w hw => zL na22 rfl (own_cell hw.2 (k := 4) rfl (j := 0) rfl)) rfl ?_
            have hl133 : 0 + 0 * 1 < 2 := by omega
            refine zD rfl (fun w hw => rn_idxA ar126 rfl rfl (show ckI 0 2 = some 0 by decide)) rfl ?_
            refine zD rfl (fun w hw => zL na3 rfl (tab_cell hw.2 (k := 0) rfl hl133)) rfl ?_
            have hl134 : 0 + 1 * 1 < 2 := by omega
            refine zE rfl rfl (OpP_val (rn_idxA ar126 rfl rfl (show ckI 1 2 = some 1 by decide)) rfl ?_)
            refine ⟨fun _ _ => ⟨hS.sat, (hO.drop 4)⟩, ?_⟩; refine zE rfl rfl (OpP_val (zL na3 rfl (tab_cell hO (k := 0) rfl hl134)) rfl ?_); refine ⟨fun _ _ => ⟨hS.sat, (hO.drop 4)⟩, ?_⟩
            refine zE rfl rfl (OpP_val (v := (.agg #[zi (tget p101.1 (0 + 0 * 1)), zi (tget p101.1 (0 + 1 * 1))])) (by kernel_rfl) rfl ?_)
            refine ⟨fun _ _ => ⟨hS.sat, (hO.drop 4)⟩, ?_⟩
            refine zE rfl rfl (zW (v := fun b => zl (some ⟨b, 0, none⟩) 1 1) (cs := [zi (tget p101.1 (0 + 0 * 1)), zi (tget p101.1 (0 + 1 * 1))]) (e := 54) (by kernel_rfl) hS.sat rfl (fun b135 G137 w136 hg hcb135 => ?_))
            have hS := hS.grow hg; have hO := hO.grow hg
            have leG137 := hg.le
            have hfb135 : RSl RTLandPerson 2 G137 (some ⟨b135, 0, none⟩) 1 1 [(⟨tget p101.1 (0 + 0 * 1), tget p101.1 (0 + 1 * 1)⟩ : TLandPerson)] := RSl.of_rd hcb135 (Rd.cons (c := [zi (tget p101.1 (0 + 0 * 1)), zi (tget p101.1 (0 + 1 * 1))]) rfl rfl (Rd.nil RTLandPerson 2 _)) rfl (by decide)
            refine ⟨fun _ _ => ⟨hS.sat.le leG137, (hO.drop 4).le leG137⟩, ?_⟩; obtain ⟨y138, hy138, H⟩ := bnd H; refine zE rfl rfl (OpP_append (k := 4) sl22 RTLandPerson_one hS hO rfl hnhp101_0 (hp101_0.mono RTLandPerson_mono leG137) hfb135 hy138 rfl rfl rfl rfl rfl (fun aw139 cw139 w139 clw139 hS hO hrw139 => ?_))
            have hO : Owns _ _ _ ([⟨126, 2, 1, zl (some ⟨b97, 0, none⟩) 1 1, cellsT p101.1⟩, ⟨9, 2, (p101.2.2.2).length, .map (some r87), kvs kvS vvF (p101.2.2.2)⟩, ⟨60, 4, np101_2, zl ap101_2 np101_2 cp101_2, clap101_2⟩, ⟨57, 2, np101_1, zl ap101_1 np101_1 cp101_1, clap101_1⟩, ⟨54, 2, y138.length, zl aw139 y138.length cw139, clw139⟩, zb 107 3 b37 [zl ap101_0 np101_0 cp101_0, zl ap101_1 np101_1 cp101_1, zl ap101_2 np101_2 cp101_2], zb 26 3 b1 [zl ap101_3 np101_3 cp101_3, zl ap101_4 np101_4 cp101_4, zl ap101_5 np101_5 cp101_5]]) := hO
            refine ⟨fun _ _ => ⟨hS.sat.le leG137, (hO.drop 4).le leG137⟩, ?_⟩
            refine zE rfl rfl (OpP_val (v := (zp b37)) (by kernel_rfl) rfl ?_)
            refine ⟨fun _ h => noneed (by kernel_rfl) h, ?_⟩
            refine zE rfl rfl (OpP_val (zF fd107_0 rfl) rfl ?_)
            refine ⟨fun _ h => noneed (by kernel_rfl) h, ?_⟩
            refine zE rfl rfl (OpP_val (zF fd26_0 rfl) rfl ?_)
            refine ⟨fun _ h => noneed (by kernel_rfl) h, ?_⟩
            refine zE rfl rfl (OpP_store (vs := [zl aw139 y138.length cw139]) sz22 hS hO (k := 5) rfl rfl rfl rfl rfl (one_all rfl) (Nat.le_of_ble_eq_true rfl) (fun w140 hS hO => ?_))
            have hO : Owns _ _ _ ([⟨126, 2, 1, zl (some ⟨b97, 0, none⟩) 1 1, cellsT p101.1⟩, ⟨9, 2, (p101.2.2.2).length, .map (some r87), kvs kvS vvF (p101.2.2.2)⟩, ⟨60, 4, np101_2, zl ap101_2 np101_2 cp101_2, clap101_2⟩, ⟨57, 2, np101_1, zl ap101_1 np101_1 cp101_1, clap101_1⟩, ⟨54, 2, y138.length, zl aw139 y138.length cw139, clw139⟩, zb 107 3 b37 [zl aw139 y138.length cw139, zl ap101_1 np101_1 cp101_1, zl ap101_2 np101_2 cp101_2], zb 26 3 b1 [zl ap101_3 np101_3 cp101_3, zl ap101_4 np101_4 cp101_4, zl ap101_5 np101_5 cp101_5]]) := hO
            refine ⟨fun _ h => noneed (by kernel_rfl) h, ?_⟩
            refine zI ?_; have hO := hO.drop 0
            have hO : Owns _ _ _ ([⟨9, 2, (p101.2.2.2).length, .map (some r87), kvs kvS vvF (p101.2.2.2)⟩, ⟨60, 4, np101_2, zl ap101_2 np101_2 cp101_2, clap101_2⟩, ⟨57, 2, np101_1, zl ap101_1 np101_1 cp101_1, clap101_1⟩, ⟨54, 2, y138.length, zl aw139 y138.length cw139, clw139⟩, zb 107 3 b37 [zl aw139 y138.length cw139, zl ap101_1 np101_1 cp101_1, zl ap101_2 np101_2 cp101_2], zb 26 3 b1 [zl ap101_3 np101_3 cp101_3, zl ap101_4 np101_4 cp101_4, zl ap101_5 np101_5 cp101_5]]) := hO
            refine ⟨fun _ h => noneed (by kernel_rfl) h, ?_⟩
            refine zI ?_; refine zR ?_; refine zx (zi s62.1) rfl rfl ?_; refine zV (rn_add rfl rfl) rfl ?_; refine zy (zi (IntKind.i64.wrap (s62.1 + 1))) rfl rfl ?_; refine zN ?_; refine zR ?_; refine zV (rn_add rfl rfl) rfl ?_; refine zx (zi (IntKind.i64.wrap (s62.2.1 + 1))) rfl rfl ?_; refine zN ?_; have hO := hO.drop 0
            have hO : Owns _ _ _ ([⟨60, 4, np101_2, zl ap101_2 np101_2 cp101_2, clap101_2⟩, ⟨57, 2, np101_1, zl ap101_1 np101_1 cp101_1, clap101_1⟩, ⟨54, 2, y138.length, zl aw139 y138.length cw139, clw139⟩, zb 107 3 b37 [zl aw139 y138.length cw139, zl ap101_1 np101_1 cp101_1, zl ap101_2 np101_2 cp101_2], zb 26 3 b1 [zl ap101_3 np101_3 cp101_3, zl ap101_4 np101_4 cp101_4, zl ap101_5 np101_5 cp101_5]]) := hO
            have H := oi H; subst H; refine ⟨_, rfl, ?_⟩
            have l4_8 := ((leG67.trans leG77).trans leG132).trans leG137
            exact ⟨_, G137, aw139, y138.length, cw139, clw139, ap101_1, np101_1, cp101_1, clap101_1, ap101_2, np101_2, cp101_2, clap101_2, ap101_3, np101_3, cp101_3, ap101_4, np101_4, cp101_4, ap101_5, np101_5, cp101_5, upds_self _ _ ⟨rfl, rfl, rfl, rfl, rfl, rfl, rfl, rfl, rfl, rfl, rfl, trivial⟩, l4_8, hS, hO, rfl, hrw139, hnhp101_1, (hp101_1.mono RTLandEvent_mono leG137), hnhp101_2, (hp101_2.mono RTLandMemory_mono leG137), (hp101_3.mono RTLandPerson_mono leG137), (hp101_4.mono RTLandEvent_mono leG137), (hp101_5.mono RTLandMemory_mono leG137)⟩
          ·refine .inr ⟨_, rfl, .below hb, ?_⟩; have H := oi H; subst H
           have hres := hqq64 _ rfl
           subst hres; have H := Hoq64
           have H : some (Sum.inr v96) = some r := H
           have H := oi H; subst H
           exact .inr ⟨_, rfl, ⟨_, rfl, rfl⟩, hS.below⟩
         ·refine .inr ⟨_, rfl, .below hb, ?_⟩; have H := oi H; subst H
          have hres := hqq64 _ rfl
          subst hres; have H := Hoq64
          have H : some (Sum.inr v85) = some r := H
          have H := oi H; subst H
          exact .inr ⟨_, rfl, ⟨_, rfl, rfl⟩, hS.below⟩
        ·refine .inr ⟨_, rfl, .below hb, ?_⟩; have H := oi H; subst H
         have hres := hqq64 _ rfl
         subst hres; have H := Hoq64
         have H : some (Sum.inr v72) = some r := H
         have H := oi H; subst H
         exact .inr ⟨_, rfl, ⟨_, rfl, rfl⟩, hS.below⟩
       ·have H := ifF hb68 H; refine WC_exit rfl ?_
        have hO : Owns _ _ _ ([⟨60, 4, ns62_2, zl as62_2 ns62_2 cs62_2, clas62_2⟩, ⟨57, 2, ns62_1, zl as62_1 ns62_1 cs62_1, clas62_1⟩, ⟨54, 2, ns62_0, zl as62_0 ns62_0 cs62_0, clas62_0⟩, zb 107 3 b37 [zl as62_0 ns62_0 cs62_0, zl as62_1 ns62_1 cs62_1, zl as62_2 ns62_2 cs62_2], zb 26 3 b1 [zl as62_3 ns62_3 cs62_3, zl as62_4 ns62_4 cs62_4, zl as62_5 ns62_5 cs62_5]]) := hO
        have H := oi H; subst H
        have hres := hqq64 _ rfl
        subst hres
        exact ⟨_, _, G67, as62_0, ns62_0, cs62_0, clas62_0, as62_1, ns62_1, cs62_1, clas62_1, as62_2, ns62_2, cs62_2, clas62_2, as62_3, ns62_3, cs62_3, as62_4, ns62_4, cs62_4, as62_5, ns62_5, cs62_5, rfl, upds_self _ _ ⟨rfl, rfl, rfl, rfl, rfl, rfl, rfl, rfl, trivial⟩, leG67, hS, hO, hnhs62_0, hs62_0, hnhs62_1, hs62_1, hnhs62_2, hs62_2, hs62_3, hs62_4, hs62_5⟩
     ·rintro F w142 ⟨p63, Fb, G143, ap63_0, np63_0, cp63_0, clap63_0, ap63_1, np63_1, cp63_1, clap63_1, ap63_2, np63_2, cp63_2, clap63_2, ap63_3, np63_3, cp63_3, ap63_4, np63_4, cp63_4, ap63_5, np63_5, cp63_5, rfl, rfl, leG143, hS, hO, hnhp63_0, hp63_0, hnhp63_1, hp63_1, hnhp63_2, hp63_2, hp63_3, hp63_4, hp63_5⟩
      refine zR ?_
      refine zV (v := (zi 1)) (by kernel_rfl) rfl ?_
      refine zx (zi 1) rfl rfl ?_; refine zN ?_; refine WI_step ?_; refine zS ?_
      refine zV (v := (.bool true)) (by kernel_rfl) rfl ?_
      refine zN ?_; refine zQ ?_; refine WC_condT _ rfl rfl ?_; refine zP ?_; refine zQ ?_; refine WC_block ?_; refine zS ?_; refine zx (zi 1) rfl rfl ?_
      refine zV (v := (.string ⟨([101, 118, 101, 110, 116] : List UInt8).toArray⟩)) (by kernel_rfl) rfl ?_
      refine zy (zi 1) rfl rfl ?_; refine zy (.string ⟨([101, 118, 101, 110, 116] : List UInt8).toArray⟩) rfl rfl ?_; refine zN ?_; refine zS ?_; refine zx (zl a19 n19 c19) rfl rfl ?_; refine zx (zi 1) rfl rfl ?_
      refine zV (v := (zi 2)) (by kernel_rfl) rfl ?_
      obtain ⟨y144, hy144, H⟩ := bnd H
      have l2_5 := (leG36.trans leG58).trans leG143
      refine WL_idx sl66 (h19.mono RStr_mono l2_5) hy144 rfl rfl rfl ?_
      rintro b145 o145 _ hcb145 _ ⟨⟩
      refine zV (zL na9 rfl (hS.sat.cell (hcb145 0 _ rfl))) rfl ?_; obtain ⟨y146, hy146, H⟩ := bnd H
      have l0_5 := (l0_3.trans leG58).trans leG143
      have hxy146 := f60_ok (x0 := y144) hS.sat (hT.mono l0_5)  hy146
      refine zO rfl (OpP_enterP (rn_call cb60 rfl) rfl hxy146 (fun _ w147 hR => ?_)); obtain ⟨rfl, hb⟩ := hR; have hS := hS.keep hb; have hO := hO.below hb
      rcases y146 with v148 | v149
      ·refine .inl ⟨_, rfl, .below hb, ?_⟩; refine zy (zi v148) rfl rfl ?_; refine zN ?_; refine zQ ?_; obtain ⟨q150, hq150, H⟩ := bnd H; refine zM (fun F w => ∃ (p151 : Unit) (Fb : Fr) (G : Gm), q150 = .inl p151 ∧ F = upds Fb [(0, zs x0), (2, zp b1), (5, zl a13 n13 c13), (6, zl a19 n19 c19), (7, zi p63.1), (8, zp b37), (10, .string ⟨([101, 118, 101, 110, 116] : List UInt8).toArray⟩), (11, zi v148), (42, .agg #[.string ⟨([112, 101, 114, 115, 111, 110] : List UInt8).toArray⟩, .string ⟨([101, 118, 101, 110, 116] : List UInt8).toArray⟩, .string ⟨([109, 101, 109, 111, 114, 121] : List UInt8).toArray⟩]), (43, zi 1)] ∧ Gle G143 G ∧ Since w0.heap.size G0 w0 G w ∧ Owns G w w0.heap.size [⟨60, 4, np63_2, zl ap63_2 np63_2 cp63_2, clap63_2⟩, ⟨57, 2, np63_1, zl ap63_1 np63_1 cp63_1, clap63_1⟩, ⟨54, 2, np63_0, zl ap63_0 np63_0 cp63_0, clap63_0⟩, zb 107 3 b37 [zl ap63_0 np63_0 cp63_0, zl ap63_1 np63_1 cp63_1, zl ap63_2 np63_2 cp63_2], zb 26 3 b1 [zl ap63_3 np63_3 cp63_3, zl ap63_4 np63_4 cp63_4, zl ap63_5 np63_5 cp63_5]]) ?_ ?_
       ·have Hoq150 := H; have H := hq150; refine zR ?_; refine zx (zi v148) rfl rfl ?_; refine zV (rn_geq rfl rfl) rfl ?_; refine zx (.bool (decide (0 ≤ v148))) rfl rfl ?_
        rcases bcases (decide (0 ≤ v148)) with hb152 | hb152
        ·have H := ifT hb152 H; refine zY rfl hb152 rfl rfl ?_; refine zx (zi v148) rfl rfl ?_; refine zY rfl hb152 rfl rfl ?_; refine zx (zl a13 n13 c13) rfl rfl ?_; refine zY rfl hb152 rfl rfl ?_
         have l1_5 := leG18.trans l2_5
         refine zV (rn_len sl66 rfl rfl (h13.mono RStr_mono l1_5).1) rfl ?_; refine zY rfl hb152 rfl rfl ?_; refine zV (rn_leq rfl rfl) rfl ?_; refine zV (rn_pickT (v := (.bool (decide (v148 ≤ (y10.length : Int))))) rfl hb152 rfl) rfl ?_; refine zx (.string ⟨([101, 118, 101, 110, 116] : List UInt8).toArray⟩) rfl rfl ?_; obtain ⟨y153, hy153, H⟩ := bnd H
         have hxy153 := f58_ok (x0 := decide (v148 ≤ (y10.length : Int))) (x1 := ([101, 118, 101, 110, 116] : List UInt8)) hS.sat  hy153
         refine zO rfl (OpP_enterP (rn_call cb58 rfl) rfl hxy153 (fun _ w154 hR => ?_)); obtain ⟨rfl, hb⟩ := hR; have hS := hS.keep hb; have hO := hO.below hb
         rcases y153 with v155 | v156
         ·refine .inl ⟨_, rfl, .below hb, ?_⟩; refine zN ?_
          have hO : Owns _ _ _ ([⟨60, 4, np63_2, zl ap63_2 np63_2 cp63_2, clap63_2⟩, ⟨57, 2, np63_1, zl ap63_1 np63_1 cp63_1, clap63_1⟩, ⟨54, 2, np63_0, zl ap63_0 np63_0 cp63_0, clap63_0⟩, zb 107 3 b37 [zl ap63_0 np63_0 cp63_0, zl ap63_1 np63_1 cp63_1, zl ap63_2 np63_2 cp63_2], zb 26 3 b1 [zl ap63_3 np63_3 cp63_3, zl ap63_4 np63_4 cp63_4, zl ap63_5 np63_5 cp63_5]]) := hO
          have H := oi H; subst H
          exact ⟨_, _, G143, rfl, upds_self _ _ ⟨rfl, rfl, rfl, rfl, rfl, rfl, rfl, rfl, rfl, rfl, trivial⟩, Gle.refl _, hS, hO⟩
         ·refine .inr ⟨_, rfl, .below hb, ?_⟩; have H := oi H; subst H; have H := Hoq150
          have H : some (Sum.inr v156) = some r := H
          have H := oi H; subst H
          exact .inr ⟨_, rfl, ⟨_, rfl, rfl⟩, hS.below⟩
        ·have H := ifF hb152 H; refine zG rfl hb152 rfl rfl rfl ?_; refine zG rfl hb152 rfl rfl rfl ?_; refine zG rfl hb152 rfl rfl rfl ?_; refine zG rfl hb152 rfl rfl rfl ?_; refine zV (rn_pickF (v := (.bool false)) rfl hb152 rfl) rfl ?_; refine zx (.string ⟨([101, 118, 101, 110, 116] : List UInt8).toArray⟩) rfl rfl ?_; obtain ⟨y157, hy157, H⟩ := bnd H
         have hxy157 := f58_ok (x0 := false) (x1 := ([101, 118, 101, 110, 116] : List UInt8)) hS.sat  hy157
         refine zO rfl (OpP_enterP (rn_call cb58 rfl) rfl hxy157 (fun _ w158 hR => ?_)); obtain ⟨rfl, hb⟩ := hR; have hS := hS.keep hb; have hO := hO.below hb
         rcases y157 with v159 | v160
         ·refine .inl ⟨_, rfl, .below hb, ?_⟩; refine zN ?_
          have hO : Owns _ _ _ ([⟨60, 4, np63_2, zl ap63_2 np63_2 cp63_2, clap63_2⟩, ⟨57, 2, np63_1, zl ap63_1 np63_1 cp63_1, clap63_1⟩, ⟨54, 2, np63_0, zl ap63_0 np63_0 cp63_0, clap63_0⟩, zb 107 3 b37 [zl ap63_0 np63_0 cp63_0, zl ap63_1 np63_1 cp63_1, zl ap63_2 np63_2 cp63_2], zb 26 3 b1 [zl ap63_3 np63_3 cp63_3, zl ap63_4 np63_4 cp63_4, zl ap63_5 np63_5 cp63_5]]) := hO
          have H := oi H; subst H
          exact ⟨_, _, G143, rfl, upds_self _ _ ⟨rfl, rfl, rfl, rfl, rfl, rfl, rfl, rfl, rfl, rfl, trivial⟩, Gle.refl _, hS, hO⟩
         ·refine .inr ⟨_, rfl, .below hb, ?_⟩; have H := oi H; subst H; have H := Hoq150
          have H : some (Sum.inr v160) = some r := H
          have H := oi H; subst H
          exact .inr ⟨_, rfl, ⟨_, rfl, rfl⟩, hS.below⟩
       ·rintro F w161 ⟨p151, Fb, G162, rfl, rfl, leG162, hS, hO⟩
        refine zS ?_; refine zx (zi v148) rfl rfl ?_; refine zx (zi 0) rfl rfl ?_; refine zN ?_
        have hO : Owns _ _ _ ([⟨60, 4, np63_2, zl ap63_2 np63_2 cp63_2, clap63_2⟩, ⟨57, 2, np63_1, zl ap63_1 np63_1 cp63_1, clap63_1⟩, ⟨54, 2, np63_0, zl ap63_0 np63_0 cp63_0, clap63_0⟩, zb 107 3 b37 [zl ap63_0 np63_0 cp63_0, zl ap63_1 np63_1 cp63_1, zl ap63_2 np63_2 cp63_2], zb 26 3 b1 [zl ap63_3 np63_3 cp63_3, zl ap63_4 np63_4 cp63_4, zl ap63_5 np63_5 cp63_5]]) := hO
        obtain ⟨q165, hq165, H⟩ := bnd H; refine zM (fun F w => ∃ (p164 : Int × TReader × TLandBook) (Fb : Fr) (G : Gm) (ap164_0 : Option Addr) (np164_0 cp164_0 : Nat) (clap164_0 : List Value) (ap164_1 : Option Addr) (np164_1 cp164_1 : Nat) (clap164_1 : List Value) (ap164_2 : Option Addr) (np164_2 cp164_2 : Nat) (clap164_2 : List Value) (ap164_3 : Option Addr) (np164_3 cp164_3 : Nat) (ap164_4 : Option Addr) (np164_4 cp164_4 : Nat) (ap164_5 : Option Addr) (np164_5 cp164_5 : Nat), q165 = .inl p164 ∧ F = upds Fb [(0, zs x0), (2, zp b1), (5, zl a13 n13 c13), (6, zl a19 n19 c19), (7, zi p164.1), (8, zp b37), (42, .agg #[.string ⟨([112, 101, 114, 115, 111, 110] : List UInt8).toArray⟩, .string ⟨([101, 118, 101, 110, 116] : List UInt8).toArray⟩, .string ⟨([109, 101, 109, 111, 114, 121] : List UInt8).toArray⟩]), (43, zi 1)] ∧ Gle G162 G ∧ Since w0.heap.size G0 w0 G w ∧ Owns G w w0.heap.size [⟨60, 4, np164_2, zl ap164_2 np164_2 cp164_2, clap164_2⟩, ⟨57, 2, np164_1, zl ap164_1 np164_1 cp164_1, clap164_1⟩, ⟨54, 2, np164_0, zl ap164_0 np164_0 cp164_0, clap164_0⟩, zb 107 3 b37 [zl ap164_0 np164_0 cp164_0, zl ap164_1 np164_1 cp164_1, zl ap164_2 np164_2 cp164_2], zb 26 3 b1 [zl ap164_3 np164_3 cp164_3, zl ap164_4 np164_4 cp164_4, zl ap164_5 np164_5 cp164_5]] ∧ np164_0 = p164.2.1.b.People.length ∧ Rd RTLandPerson 2 G clap164_0 p164.2.1.b.People ∧ np164_1 = p164.2.1.b.Events.length ∧ Rd RTLandEvent 2 G clap164_1 p164.2.1.b.Events ∧ np164_2 = p164.2.1.b.Memories.length ∧ Rd RTLandMemory 4 G clap164_2 p164.2.1.b.Memories ∧ RSl RTLandPerson 2 G ap164_3 np164_3 cp164_3 p164.2.2.People ∧ RSl RTLandEvent 2 G ap164_4 np164_4 cp164_4 p164.2.2.Events ∧ RSl RTLandMemory 4 G ap164_5 np164_5 cp164_5 p164.2.2.Memories) ?_ ?_
        ·refine WC_block (WC_loop hq165 (fun s163 F w => ∃ (Fb : Fr) (G : Gm) (as163_0 : Option Addr) (ns163_0 cs163_0 : Nat) (clas163_0 : List Value) (as163_1 : Option Addr) (ns163_1 cs163_1 : Nat) (clas163_1 : List Value) (as163_2 : Option Addr) (ns163_2 cs163_2 : Nat) (clas163_2 : List Value) (as163_3 : Option Addr) (ns163_3 cs163_3 : Nat) (as163_4 : Option Addr) (ns163_4 cs163_4 : Nat) (as163_5 : Option Addr) (ns163_5 cs163_5 : Nat), F = upds Fb [(0, zs x0), (2, zp b1), (5, zl a13 n13 c13), (6, zl a19 n19 c19), (7, zi s163.1), (8, zp b37), (10, .string ⟨([101, 118, 101, 110, 116] : List UInt8).toArray⟩), (42, .agg #[.string ⟨([112, 101, 114, 115, 111, 110] : List UInt8).toArray⟩, .string ⟨([101, 118, 101, 110, 116] : List UInt8).toArray⟩, .string ⟨([109, 101, 109, 111, 114, 121] : List UInt8).toArray⟩]), (43, zi 1), (63, zi v148), (64, zi s163.2.1)] ∧ Gle G162 G ∧ Since w0.heap.size G0 w0 G w ∧ Owns G w w0.heap.size [⟨60, 4, ns163_2, zl as163_2 ns163_2 cs163_2, clas163_2⟩, ⟨57, 2, ns163_1, zl as163_1 ns163_1 cs163_1, clas163_1⟩, ⟨54, 2, ns163_0, zl as163_0 ns163_0 cs163_0, clas163_0⟩, zb 107 3 b37 [zl as163_0 ns163_0 cs163_0, zl as163_1 ns163_1 cs163_1, zl as163_2 ns163_2 cs163_2], zb 26 3 b1 [zl as163_3 ns163_3 cs163_3, zl as163_4 ns163_4 cs163_4, zl as163_5 ns163_5 cs163_5]] ∧ ns163_0 = s163.2.2.1.b.People.length ∧ Rd RTLandPerson 2 G clas163_0 s163.2.2.1.b.People ∧ ns163_1 = s163.2.2.1.b.Events.length ∧ Rd RTLandEvent 2 G clas163_1 s163.2.2.1.b.Events ∧ ns163_2 = s163.2.2.1.b.Memories.length ∧ Rd RTLandMemory 4 G clas163_2 s163.2.2.1.b.Memories ∧ RSl RTLandPerson 2 G as163_3 ns163_3 cs163_3 s163.2.2.2.People ∧ RSl RTLandEvent 2 G as163_4 ns163_4 cs163_4 s163.2.2.2.Events ∧ RSl RTLandMemory 4 G as163_5 ns163_5 cs163_5 s163.2.2.2.Memories) ?_ ?_)
         ·have hO : Owns _ _ _ ([⟨60, 4, np63_2, zl ap63_2 np63_2 cp63_2, clap63_2⟩, ⟨57, 2, np63_1, zl ap63_1 np63_1 cp63_1, clap63_1⟩, ⟨54, 2, np63_0, zl ap63_0 np63_0 cp63_0, clap63_0⟩, zb 107 3 b37 [zl ap63_0 np63_0 cp63_0, zl ap63_1 np63_1 cp63_1, zl ap63_2 np63_2 cp63_2], zb 26 3 b1 [zl ap63_3 np63_3 cp63_3, zl ap63_4 np63_4 cp63_4, zl ap63_5 np63_5 cp63_5]]) := hO
          exact ⟨_, G162, ap63_0, np63_0, cp63_0, clap63_0, ap63_1, np63_1, cp63_1, clap63_1, ap63_2, np63_2, cp63_2, clap63_2, ap63_3, np63_3, cp63_3, ap63_4, np63_4, cp63_4, ap63_5, np63_5, cp63_5, upds_self _ _ ⟨rfl, rfl, rfl, rfl, rfl, rfl, rfl, rfl, rfl, rfl, rfl, trivial⟩, Gle.refl _, hS, hO, hnhp63_0, (hp63_0.mono RTLandPerson_mono leG162), hnhp63_1, (hp63_1.mono RTLandEvent_mono leG162), hnhp63_2, (hp63_2.mono RTLandMemory_mono leG162), (hp63_3.mono RTLandPerson_mono leG162), (hp63_4.mono RTLandEvent_mono leG162), (hp63_5.mono RTLandMemory_mono leG162)⟩
         ·rintro s163 F w167 t166 ⟨Fb, G168, as163_0, ns163_0, cs163_0, clas163_0, as163_1, ns163_1, cs163_1, clas163_1, as163_2, ns163_2, cs163_2, clas163_2, as163_3, ns163_3, cs163_3, as163_4, ns163_4, cs163_4, as163_5, ns163_5, cs163_5, rfl, leG168, hS, hO, hnhs163_0, hs163_0, hnhs163_1, hs163_1, hnhs163_2, hs163_2, hs163_3, hs163_4, hs163_5⟩
          intro H1 hqq165
          have Hoq165 := H; have H := H1
          unfold f29_b2 at H
          refine zS ?_; refine zV (rn_lss rfl rfl) rfl ?_; refine zN ?_; refine zQ ?_; refine zT rfl (fun hb169 => ?_) (fun hb169 => ?_)
          ·have H := ifT hb169 H; refine zP ?_; refine zQ ?_; refine WC_block ?_; refine zS ?_; refine zx (zi s163.1) rfl rfl ?_; refine zx (zl a13 n13 c13) rfl rfl ?_
           have l1_7 := ((leG18.trans l2_5).trans leG162).trans leG168
           refine zV (rn_len sl66 rfl rfl (h13.mono RStr_mono l1_7).1) rfl ?_; refine zV (rn_lss rfl rfl) rfl ?_; refine zx (.string ⟨([101, 118, 101, 110, 116] : List UInt8).toArray⟩) rfl rfl ?_; obtain ⟨y170, hy170, H⟩ := bnd H
           have hxy170 := f58_ok (x0 := decide (s163.1 < (y10.length : Int))) (x1 := ([101, 118, 101, 110, 116] : List UInt8)) hS.sat  hy170
           refine zO rfl (OpP_enterP (rn_call cb58 rfl) rfl hxy170 (fun _ w171 hR => ?_)); obtain ⟨rfl, hb⟩ := hR; have hS := hS.keep hb; have hO := hO.below hb
           rcases y170 with v172 | v173
           ·refine .inl ⟨_, rfl, .below hb, ?_⟩; refine zN ?_; refine zS ?_; refine zx (zl a13 n13 c13) rfl rfl ?_; refine zx (zi s163.1) rfl rfl ?_; obtain ⟨y174, hy174, H⟩ := bnd H; refine WL_idx sl66 (h13.mono RStr_mono l1_7) hy174 rfl rfl rfl ?_
            rintro b175 o175 _ hcb175 _ ⟨⟩
            refine zV (zL na9 rfl (hS.sat.cell (hcb175 0 _ rfl))) rfl ?_; obtain ⟨y176, hy176, H⟩ := bnd H; refine zO rfl (OpP_callG cb59 (f59_ok (x0 := y174) (x1 := ([32] : List UInt8)) hS.sat  hy176) rfl rfl (fun vy176 G178 w177 hg hvy176 => ?_)); obtain ⟨a179, n179, c179, ⟨⟩, h179⟩ := hvy176; have hS := hS.grow hg; have hO := hO.grow hg
            have leG178 := hg.le
            refine zy (zl a179 n179 c179) rfl rfl ?_; refine zN ?_; refine zQ ?_; have hS := hS.keep (below_drew _); have hO := hO.below (below_drew _)
            refine WC_regionD mixedO (fun _ w => Sat G178 w ∧ Owns G178 w w0.heap.size [⟨60, 4, ns163_2, zl as163_2 ns163_2 cs163_2, clas163_2⟩, ⟨57, 2, ns163_1, zl as163_1 ns163_1 cs163_1, clas163_1⟩, ⟨54, 2, ns163_0, zl as163_0 ns163_0 cs163_0, clas163_0⟩, zb 107 3 b37 [zl as163_0 ns163_0 cs163_0, zl as163_1 ns163_1 cs163_1, zl as163_2 ns163_2 cs163_2], zb 26 3 b1 [zl as163_3 ns163_3 cs163_3, zl as163_4 ns163_4 cs163_4, zl as163_5 ns163_5 cs163_5]]) (.fl 0 (.fl 1 (.fl 2 (.fl 3 (.fl 4 (.fl 5 (.on 6 (.on 7 (.on 8 (.on 9 .nil)))))))))) (by kernel_rfl) rfl (by kernel_rfl) (fun _ => ⟨hS.sat, hO⟩) ?_
            refine zD rfl (fun w hw => zm (v := (zl a179 n179 c179)) rfl) rfl ?_; obtain ⟨y180, hy180, H⟩ := bnd H; refine WD_idx rfl sl66 h179 hy180 rfl rfl rfl ?_
            rintro b181 o181 _ hcb181 _ ⟨⟩
            refine zD rfl (fun w hw => zL na9 rfl (hw.1.cell (hcb181 0 _ rfl))) rfl ?_; refine zD rfl (fun w hw => zm (v := (.string ⟨([101, 118, 101, 110, 116] : List UInt8).toArray⟩)) rfl) rfl ?_; refine zD rfl (fun w hw => rn_eqlS rfl rfl) rfl ?_; refine zD rfl (fun w hw => zm (v := (zl a13 n13 c13)) rfl) rfl ?_; refine zE rfl rfl (OpP_val (zm (v := (zi s163.1)) rfl) rfl ?_); refine ⟨fun _ _ => ⟨hS.sat, hO⟩, ?_⟩
            have l1_8 := l1_7.trans leG178
            refine zE rfl rfl (OpP_idx sl66 (h13.mono RStr_mono l1_8) hy174 rfl rfl rfl ?_)
            rintro b182 o182 _ hcb182 _ ⟨⟩
            refine ⟨fun _ _ => ⟨hS.sat, hO⟩, ?_⟩; refine zE rfl rfl (OpP_val (zL na9 rfl (hS.sat.cell (hcb182 0 _ rfl))) rfl ?_); refine ⟨fun _ _ => ⟨hS.sat, hO⟩, ?_⟩; obtain ⟨y183, hy183, H⟩ := bnd H
            have hxy183 := f58_ok (x0 := y180 == ([101, 118, 101, 110, 116] : List UInt8)) (x1 := y174) hS.sat  hy183
            refine zE rfl rfl (OpP_enterP (rn_call cb58 rfl) rfl hxy183 (fun _ w184 hR => ?_)); obtain ⟨rfl, hb⟩ := hR; have hS := hS.keep hb; have hO := hO.below hb
            rcases y183 with v185 | v186
            ·refine .inl ⟨_, rfl, .below hb, ?_⟩
             refine ⟨fun _ h => noneed (by kernel_rfl) h, ?_⟩
             refine zI ?_; refine zQ ?_; have hS := hS.keep (below_drew _); have hO := hO.below (below_drew _)
             refine WC_regionD mixedO (fun _ w => Sat G178 w ∧ Owns G178 w w0.heap.size [⟨60, 4, ns163_2, zl as163_2 ns163_2 cs163_2, clas163_2⟩, ⟨57, 2, ns163_1, zl as163_1 ns163_1 cs163_1, clas163_1⟩, ⟨54, 2, ns163_0, zl as163_0 ns163_0 cs163_0, clas163_0⟩, zb 107 3 b37 [zl as163_0 ns163_0 cs163_0, zl as163_1 ns163_1 cs163_1, zl as163_2 ns163_2 cs163_2], zb 26 3 b1 [zl as163_3 ns163_3 cs163_3, zl as163_4 ns163_4 cs163_4, zl as163_5 ns163_5 cs163_5]]) (.fl 1 (.fl 3 (.fl 4 (.fl 5 (.on 0 (.on 2 (.on 6 .nil))))))) (by kernel_rfl) rfl (by kernel_rfl) (fun _ => ⟨hS.sat, hO⟩) ?_
             refine zD rfl (fun w hw => zm (v := (.string ⟨([101, 118, 101, 110, 116] : List UInt8).toArray⟩)) rfl) rfl ?_; refine zD rfl (fun w hw => zm (v := (zp b37)) rfl) rfl ?_; refine zD rfl (fun w hw => zm (v := (zl a179 n179 c179)) rfl) rfl ?_; obtain ⟨y187, hy187, H⟩ := bnd H; obtain ⟨hl0, hl1, hl2, _⟩ := subL_some hy187
             have hln := h179.1
             have hnc := h179.2.1.2
             obtain ⟨ay187, ny187, cy187, hsl, hsy187⟩ := RSl.sub h179 hy187 (q := n179) ((Int.toNat_natCast _).trans hln.symm)
             refine zD (v := (zl ay187 ny187 cy187)) rfl (fun w hw => (rn_sliceL sl66 rfl rfl hl0 (by omega) _).trans (congrArg (fun v => Result.ok (Next.value v) _) hsl)) rfl ?_
             refine zE rfl rfl (OpP_in1 (N' := 3) [] cb61 Tryz.func61 rfl rfl rfl rfl rfl rfl ?_); refine zS ?_; refine zy (.map none) rfl rfl ?_; refine zN ?_; refine zS ?_; refine zO rfl (OpP_makeMap (e := 9) hS hO rfl (fun r188 w189 hS hO => ?_))
             have hO : Owns _ _ _ ([⟨9, 2, ([] : (List ((List UInt8) × Nat))).length, .map (some r188), kvs kvS vvF ([] : (List ((List UInt8) × Nat)))⟩, ⟨60, 4, ns163_2, zl as163_2 ns163_2 cs163_2, clas163_2⟩, ⟨57, 2, ns163_1, zl as163_1 ns163_1 cs163_1, clas163_1⟩, ⟨54, 2, ns163_0, zl as163_0 ns163_0 cs163_0, clas163_0⟩, zb 107 3 b37 [zl as163_0 ns163_0 cs163_0, zl as163_1 ns163_1 cs163_1, zl as163_2 ns163_2 cs163_2], zb 26 3 b1 [zl as163_3 ns163_3 cs163_3, zl as163_4 ns163_4 cs163_4, zl as163_5 ns163_5 cs163_5]]) := hO
             refine zO rfl (OpP_insert (k := 0) (vv := vvF) (v := 79) (a := ([112, 101, 114, 115, 111, 110] : List UInt8)) mp111 (keyOk_S ui9) hS hO rfl rfl rfl rfl rfl (fun w191 hS hO => ?_))
             have hO : Owns _ _ _ ([⟨9, 2, (updM ([] : (List ((List UInt8) × Nat))) ([112, 101, 114, 115, 111, 110] : List UInt8) 79).length, .map (some r188), kvs kvS vvF (updM ([] : (List ((List UInt8) × Nat))) ([112, 101, 114, 115, 111, 110] : List UInt8) 79)⟩, ⟨60, 4, ns163_2, zl as163_2 ns163_2 cs163_2, clas163_2⟩, ⟨57, 2, ns163_1, zl as163_1 ns163_1 cs163_1, clas163_1⟩, ⟨54, 2, ns163_0, zl as163_0 ns163_0 cs163_0, clas163_0⟩, zb 107 3 b37 [zl as163_0 ns163_0 cs163_0, zl as163_1 ns163_1 cs163_1, zl as163_2 ns163_2 cs163_2], zb 26 3 b1 [zl as163_3 ns163_3 cs163_3, zl as163_4 ns163_4 cs163_4, zl as163_5 ns163_5 cs163_5]]) := hO
             refine zO rfl (OpP_insert (k := 0) (vv := vvF) (v := 80) (a := ([101, 118, 101, 110, 116] : List UInt8)) mp111 (keyOk_S ui9) hS hO rfl rfl rfl rfl rfl (fun w192 hS hO => ?_))
             have hO : Owns _ _ _ ([⟨9, 2, (updM (updM ([] : (List ((List UInt8) × Nat))) ([112, 101, 114, 115, 111, 110] : List UInt8) 79) ([101, 118, 101, 110, 116] : List UInt8) 80).length, .map (some r188), kvs kvS vvF (updM (updM ([] : (List ((List UInt8) × Nat))) ([112, 101, 114, 115, 111, 110] : List UInt8) 79) ([101, 118, 101, 110, 116] : List UInt8) 80)⟩, ⟨60, 4, ns163_2, zl as163_2 ns163_2 cs163_2, clas163_2⟩, ⟨57, 2, ns163_1, zl as163_1 ns163_1 cs163_1, clas163_1⟩, ⟨54, 2, ns163_0, zl as163_0 ns163_0 cs163_0, clas163_0⟩, zb 107 3 b37 [zl as163_0 ns163_0 cs163_0, zl as163_1 ns163_1 cs163_1, zl as163_2 ns163_2 cs163_2], zb 26 3 b1 [zl as163_3 ns163_3 cs163_3, zl as163_4 ns163_4 cs163_4, zl as163_5 ns163_5 cs163_5]]) := hO
             refine zO rfl (OpP_insert (k := 0) (vv := vvF) (v := 81) (a := ([109, 101, 109, 111, 114, 121] : List UInt8)) mp111 (keyOk_S ui9) hS hO rfl rfl rfl rfl rfl (fun w193 hS hO => ?_))
             have hO : Owns _ _ _ ([⟨9, 2, (updM (updM (updM ([] : (List ((List UInt8) × Nat))) ([112, 101, 114, 115, 111, 110] : List UInt8) 79) ([101, 118, 101, 110, 116] : List UInt8) 80) ([109, 101, 109, 111, 114, 121] : List UInt8) 81).length, .map (some r188), kvs kvS vvF (updM (updM (updM ([] : (List ((List UInt8) × Nat))) ([112, 101, 114, 115, 111, 110] : List UInt8) 79) ([101, 118, 101, 110, 116] : List UInt8) 80) ([109, 101, 109, 111, 114, 121] : List UInt8) 81)⟩, ⟨60, 4, ns163_2, zl as163_2 ns163_2 cs163_2, clas163_2⟩, ⟨57, 2, ns163_1, zl as163_1 ns163_1 cs163_1, clas163_1⟩, ⟨54, 2, ns163_0, zl as163_0 ns163_0 cs163_0, clas163_0⟩, zb 107 3 b37 [zl as163_0 ns163_0 cs163_0, zl as163_1 ns163_1 cs163_1, zl as163_2 ns163_2 cs163_2], zb 26 3 b1 [zl as163_3 ns163_3 cs163_3, zl as163_4 ns163_4 cs163_4, zl as163_5 ns163_5 cs163_5]]) := hO
             refine zx (.map (some r188)) rfl rfl ?_; refine zy (.map (some r188)) rfl rfl ?_; refine zN ?_; refine WC_ret ?_; refine ⟨(.map (some r188)), rfl, ?_⟩
             have hO : Owns _ _ _ ([⟨9, 2, (updM (updM (updM ([] : (List ((List UInt8) × Nat))) ([112, 101, 114, 115, 111, 110] : List UInt8) 79) ([101, 118, 101, 110, 116] : List UInt8) 80) ([109, 101, 109, 111, 114, 121] : List UInt8) 81).length, .map (some r188), kvs kvS vvF (updM (updM (updM ([] : (List ((List UInt8) × Nat))) ([112, 101, 114, 115, 111, 110] : List UInt8) 79) ([101, 118, 101, 110, 116] : List UInt8) 80) ([109, 101, 109, 111, 114, 121] : List UInt8) 81)⟩, ⟨60, 4, ns163_2, zl as163_2 ns163_2 cs163_2, clas163_2⟩, ⟨57, 2, ns163_1, zl as163_1 ns163_1 cs163_1, clas163_1⟩, ⟨54, 2, ns163_0, zl as163_0 ns163_0 cs163_0, clas163_0⟩, zb 107 3 b37 [zl as163_0 ns163_0 cs163_0, zl as163_1 ns163_1 cs163_1, zl as163_2 ns163_2 cs163_2], zb 26 3 b1 [zl as163_3 ns163_3 cs163_3, zl as163_4 ns163_4 cs163_4, zl as163_5 ns163_5 cs163_5]]) := hO
             refine ⟨fun _ _ => ⟨hS.sat, (hO.drop 0)⟩, ?_⟩; refine zE rfl rfl (OpP_val (v := vvF 80) (rn_lookupF (k := 0) (vv := vvF) (a := ([101, 118, 101, 110, 116] : List UInt8)) (v := 80) mp111 (keyOk_S ui9) hO rfl rfl rfl rfl) rfl ?_); refine ⟨fun _ _ => ⟨hS.sat, (hO.drop 0)⟩, ?_⟩; refine zE rfl rfl (OpP_inCP0 (N' := 32) (fi := []) (al := [zp b37, zl ay187 ny187 cy187]) (ca := []) cb80 Tryz.func80 rfl rfl rfl rfl rfl rfl rfl ?_); refine zS ?_; refine zx (zl ay187 ny187 cy187) rfl rfl ?_; refine zV (rn_len sl66 rfl rfl hsy187.1) rfl ?_; refine zV (rn_eql rfl rfl) rfl ?_; obtain ⟨y194, hy194, H⟩ := bnd H
             have hxy194 := f58_ok (x0 := (y187.length : Int) == 2) (x1 := ([101, 118, 101, 110, 116] : List UInt8)) hS.sat  hy194
             refine zO rfl (OpP_enterP (rn_call cb58 rfl) rfl hxy194 (fun _ w195 hR => ?_)); obtain ⟨rfl, hb⟩ := hR; have hS := hS.keep hb; have hO := hO.below hb
             rcases y194 with v196 | v197
             ·refine .inl ⟨_, rfl, .below hb, ?_⟩; refine zN ?_; refine zS ?_; refine zx (zl ay187 ny187 cy187) rfl rfl ?_; obtain ⟨y198, hy198, H⟩ := bnd H; refine WL_idx sl66 hsy187 hy198 rfl rfl rfl ?_
              rintro b199 o199 _ hcb199 _ ⟨⟩
              refine zV (zL na9 rfl (hS.sat.cell (hcb199 0 _ rfl))) rfl ?_; obtain ⟨y200, hy200, H⟩ := bnd H
              have l0_8 := ((l0_5.trans leG162).trans leG168).trans leG178
              have hxy200 := f60_ok (x0 := y198) hS.sat (hT.mono l0_8)  hy200
              refine zO rfl (OpP_enterP (rn_call cb60 rfl) rfl hxy200 (fun _ w201 hR => ?_)); obtain ⟨rfl, hb⟩ := hR; have hS := hS.keep hb; have hO := hO.below hb
              rcases y200 with v202 | v203
              ·refine .inl ⟨_, rfl, .below hb, ?_⟩; refine zy (zi v202) rfl rfl ?_; refine zN ?_; refine zS ?_; refine zx (zl ay187 ny187 cy187) rfl rfl ?_; obtain ⟨y204, hy204, H⟩ := bnd H; refine WL_idx sl66 hsy187 hy204 rfl rfl rfl ?_
               rintro b205 o205 _ hcb205 _ ⟨⟩
               refine zV (zL na9 rfl (hS.sat.cell (hcb205 0 _ rfl))) rfl ?_; obtain ⟨y206, hy206, H⟩ := bnd H
               have hxy206 := f60_ok (x0 := y204) hS.sat (hT.mono l0_8)  hy206
               refine zO rfl (OpP_enterP (rn_call cb60 rfl) rfl hxy206 (fun _ w207 hR => ?_)); obtain ⟨rfl, hb⟩ := hR; have hS := hS.keep hb; have hO := hO.below hb
               rcases y206 with v208 | v209
               ·refine .inl ⟨_, rfl, .below hb, ?_⟩; refine zy (zi v208) rfl rfl ?_; refine zN ?_; refine zR ?_; refine zx (zp b37) rfl rfl ?_; refine zx (zp b37) rfl rfl ?_
                refine zV (v := (zp b37)) (by kernel_rfl) rfl ?_
                refine zV (zF fd107_0 rfl) rfl ?_; refine zV (zF fd26_1 rfl) rfl ?_; refine zV (zL na23 rfl (own_cell hO (k := 4) rfl (j := 1) rfl)) rfl ?_; refine zx (zi v202) rfl rfl ?_; refine zx (zi v208) rfl rfl ?_
                refine zV (v := (.agg #[zi v202, zi v208])) (by kernel_rfl) rfl ?_
                refine zO rfl (zW (v := fun b => zl (some ⟨b, 0, none⟩) 1 1) (cs := [zi v202, zi v208]) (e := 57) (by kernel_rfl) hS.sat rfl (fun b210 G212 w211 hg hcb210 => ?_))
                have hS := hS.grow hg; have hO := hO.grow hg
                have leG212 := hg.le
                have hfb210 : RSl RTLandEvent 2 G212 (some ⟨b210, 0, none⟩) 1 1 [(⟨v202, v208⟩ : TLandEvent)] := RSl.of_rd hcb210 (Rd.cons (c := [zi v202, zi v208]) rfl rfl (Rd.nil RTLandEvent 2 _)) rfl (by decide)
                obtain ⟨y213, hy213, H⟩ := bnd H
                have l7_9 := leG178.trans leG212
                refine zO rfl (OpP_append (k := 2) sl23 RTLandEvent_one hS hO rfl hnhs163_1 (hs163_1.mono RTLandEvent_mono l7_9) hfb210 hy213 rfl rfl rfl rfl rfl (fun aw214 cw214 w214 clw214 hS hO hrw214 => ?_))
                have hO : Owns _ _ _ ([⟨9, 2, (updM (updM (updM ([] : (List ((List UInt8) × Nat))) ([112, 101, 114, 115, 111, 110] : List UInt8) 79) ([101, 118, 101, 110, 116] : List UInt8) 80) ([109, 101, 109, 111, 114, 121] : List UInt8) 81).length, .map (some r188), kvs kvS vvF (updM (updM (updM ([] : (List ((List UInt8) × Nat))) ([112, 101, 114, 115, 111, 110] : List UInt8) 79) ([101, 118, 101, 110, 116] : List UInt8) 80) ([109, 101, 109, 111, 114, 121] : List UInt8) 81)⟩, ⟨60, 4, ns163_2, zl as163_2 ns163_2 cs163_2, clas163_2⟩, ⟨57, 2, y213.length, zl aw214 y213.length cw214, clw214⟩, ⟨54, 2, ns163_0, zl as163_0 ns163_0 cs163_0, clas163_0⟩, zb 107 3 b37 [zl as163_0 ns163_0 cs163_0, zl as163_1 ns163_1 cs163_1, zl as163_2 ns163_2 cs163_2], zb 26 3 b1 [zl as163_3 ns163_3 cs163_3, zl as163_4 ns163_4 cs163_4, zl as163_5 ns163_5 cs163_5]]) := hO
                refine zV (v := (zp b37)) (by kernel_rfl) rfl ?_
                refine zV (zF fd107_0 rfl) rfl ?_; refine zV (zF fd26_1 rfl) rfl ?_; refine zO rfl (OpP_store (vs := [zl aw214 y213.length cw214]) sz23 hS hO (k := 4) rfl rfl rfl rfl rfl (one_all rfl) (Nat.le_of_ble_eq_true rfl) (fun w215 hS hO => ?_))
                have hO : Owns _ _ _ ([⟨9, 2, (updM (updM (updM ([] : (List ((List UInt8) × Nat))) ([112, 101, 114, 115, 111, 110] : List UInt8) 79) ([101, 118, 101, 110, 116] : List UInt8) 80) ([109, 101, 109, 111, 114, 121] : List UInt8) 81).length, .map (some r188), kvs kvS vvF (updM (updM (updM ([] : (List ((List UInt8) × Nat))) ([112, 101, 114, 115, 111, 110] : List UInt8) 79) ([101, 118, 101, 110, 116] : List UInt8) 80) ([109, 101, 109, 111, 114, 121] : List UInt8) 81)⟩, ⟨60, 4, ns163_2, zl as163_2 ns163_2 cs163_2, clas163_2⟩, ⟨57, 2, y213.length, zl aw214 y213.length cw214, clw214⟩, ⟨54, 2, ns163_0, zl as163_0 ns163_0 cs163_0, clas163_0⟩, zb 107 3 b37 [zl as163_0 ns163_0 cs163_0, zl aw214 y213.length cw214, zl as163_2 ns163_2 cs163_2], zb 26 3 b1 [zl as163_3 ns163_3 cs163_3, zl as163_4 ns163_4 cs163_4, zl as163_5 ns163_5 cs163_5]]) := hO
                refine zN ?_
                have hO : Owns _ _ _ ([⟨9, 2, (updM (updM (updM ([] : (List ((List UInt8) × Nat))) ([112, 101, 114, 115, 111, 110] : List UInt8) 79) ([101, 118, 101, 110, 116] : List UInt8) 80) ([109, 101, 109, 111, 114, 121] : List UInt8) 81).length, .map (some r188), kvs kvS vvF (updM (updM (updM ([] : (List ((List UInt8) × Nat))) ([112, 101, 114, 115, 111, 110] : List UInt8) 79) ([101, 118, 101, 110, 116] : List UInt8) 80) ([109, 101, 109, 111, 114, 121] : List UInt8) 81)⟩, ⟨60, 4, ns163_2, zl as163_2 ns163_2 cs163_2, clas163_2⟩, ⟨57, 2, y213.length, zl aw214 y213.length cw214, clw214⟩, ⟨54, 2, ns163_0, zl as163_0 ns163_0 cs163_0, clas163_0⟩, zb 107 3 b37 [zl as163_0 ns163_0 cs163_0, zl aw214 y213.length cw214, zl as163_2 ns163_2 cs163_2], zb 26 3 b1 [zl as163_3 ns163_3 cs163_3, zl as163_4 ns163_4 cs163_4, zl as163_5 ns163_5 cs163_5]]) := hO
                refine ⟨fun _ h => noneed (by kernel_rfl) h, ?_⟩
                refine zI ?_; refine zR ?_; refine zx (zi s163.1) rfl rfl ?_; refine zV (rn_add rfl rfl) rfl ?_; refine zy (zi (IntKind.i64.wrap (s163.1 + 1))) rfl rfl ?_; refine zN ?_; refine zR ?_; refine zV (rn_add rfl rfl) rfl ?_; refine zx (zi (IntKind.i64.wrap (s163.2.1 + 1))) rfl rfl ?_; refine zN ?_; have hO := hO.drop 0
                have hO : Owns _ _ _ ([⟨60, 4, ns163_2, zl as163_2 ns163_2 cs163_2, clas163_2⟩, ⟨57, 2, y213.length, zl aw214 y213.length cw214, clw214⟩, ⟨54, 2, ns163_0, zl as163_0 ns163_0 cs163_0, clas163_0⟩, zb 107 3 b37 [zl as163_0 ns163_0 cs163_0, zl aw214 y213.length cw214, zl as163_2 ns163_2 cs163_2], zb 26 3 b1 [zl as163_3 ns163_3 cs163_3, zl as163_4 ns163_4 cs163_4, zl as163_5 ns163_5 cs163_5]]) := hO
                have H := oi H; subst H; refine ⟨_, rfl, ?_⟩
                have l6_9 := leG168.trans l7_9
                exact ⟨_, G212, as163_0, ns163_0, cs163_0, clas163_0, aw214, y213.length, cw214, clw214, as163_2, ns163_2, cs163_2, clas163_2, as163_3, ns163_3, cs163_3, as163_4, ns163_4, cs163_4, as163_5, ns163_5, cs163_5, upds_self _ _ ⟨rfl, rfl, rfl, rfl, rfl, rfl, rfl, rfl, rfl, rfl, rfl, trivial⟩, l6_9, hS, hO, hnhs163_0, (hs163_0.mono RTLandPerson_mono l7_9), rfl, hrw214, hnhs163_2, (hs163_2.mono RTLandMemory_mono l7_9), (hs163_3.mono RTLandPerson_mono l7_9), (hs163_4.mono RTLandEvent_mono l7_9), (hs163_5.mono RTLandMemory_mono l7_9)⟩
               ·refine .inr ⟨_, rfl, .below hb, ?_⟩; have H := oi H; subst H
                have hres := hqq165 _ rfl
                subst hres; have H := Hoq165
                have H : some (Sum.inr v209) = some r := H
                have H := oi H; subst H
                exact .inr ⟨_, rfl, ⟨_, rfl, rfl⟩, hS.below⟩
              ·refine .inr ⟨_, rfl, .below hb, ?_⟩; have H := oi H; subst H
               have hres := hqq165 _ rfl
               subst hres; have H := Hoq165
               have H : some (Sum.inr v203) = some r := H
               have H := oi H; subst H
               exact .inr ⟨_, rfl, ⟨_, rfl, rfl⟩, hS.below⟩
             ·refine .inr ⟨_, rfl, .below hb, ?_⟩; have H := oi H; subst H
              have hres := hqq165 _ rfl
              subst hres; have H := Hoq165
              have H : some (Sum.inr v197) = some r := H
              have H := oi H; subst H
              exact .inr ⟨_, rfl, ⟨_, rfl, rfl⟩, hS.below⟩
            ·refine .inr ⟨_, rfl, .below hb, ?_⟩; have H := oi H; subst H
             have hres := hqq165 _ rfl
             subst hres; have H := Hoq165
             have H : some (Sum.inr v186) = some r := H
             have H := oi H; subst H
             exact .inr ⟨_, rfl, ⟨_, rfl, rfl⟩, hS.below⟩
           ·refine .inr ⟨_, rfl, .below hb, ?_⟩; have H := oi H; subst H
            have hres := hqq165 _ rfl
            subst hres; have H := Hoq165
            have H : some (Sum.inr v173) = some r := H
            have H := oi H; subst H
            exact .inr ⟨_, rfl, ⟨_, rfl, rfl⟩, hS.below⟩
          ·have H := ifF hb169 H; refine WC_exit rfl ?_
           have hO : Owns _ _ _ ([⟨60, 4, ns163_2, zl as163_2 ns163_2 cs163_2, clas163_2⟩, ⟨57, 2, ns163_1, zl as163_1 ns163_1 cs163_1, clas163_1⟩, ⟨54, 2, ns163_0, zl as163_0 ns163_0 cs163_0, clas163_0⟩, zb 107 3 b37 [zl as163_0 ns163_0 cs163_0, zl as163_1 ns163_1 cs163_1, zl as163_2 ns163_2 cs163_2], zb 26 3 b1 [zl as163_3 ns163_3 cs163_3, zl as163_4 ns163_4 cs163_4, zl as163_5 ns163_5 cs163_5]]) := hO
           have H := oi H; subst H
           have hres := hqq165 _ rfl
           subst hres
           exact ⟨_, _, G168, as163_0, ns163_0, cs163_0, clas163_0, as163_1, ns163_1, cs163_1, clas163_1, as163_2, ns163_2, cs163_2, clas163_2, as163_3, ns163_3, cs163_3, as163_4, ns163_4, cs163_4, as163_5, ns163_5, cs163_5, rfl, upds_self _ _ ⟨rfl, rfl, rfl, rfl, rfl, rfl, rfl, rfl, trivial⟩, leG168, hS, hO, hnhs163_0, hs163_0, hnhs163_1, hs163_1, hnhs163_2, hs163_2, hs163_3, hs163_4, hs163_5⟩
        ·rintro F w216 ⟨p164, Fb, G217, ap164_0, np164_0, cp164_0, clap164_0, ap164_1, np164_1, cp164_1, clap164_1, ap164_2, np164_2, cp164_2, clap164_2, ap164_3, np164_3, cp164_3, ap164_4, np164_4, cp164_4, ap164_5, np164_5, cp164_5, rfl, rfl, leG217, hS, hO, hnhp164_0, hp164_0, hnhp164_1, hp164_1, hnhp164_2, hp164_2, hp164_3, hp164_4, hp164_5⟩
         refine zR ?_
         refine zV (v := (zi 2)) (by kernel_rfl) rfl ?_
         refine zx (zi 2) rfl rfl ?_; refine zN ?_; refine WI_step ?_; refine zS ?_
         refine zV (v := (.bool true)) (by kernel_rfl) rfl ?_
         refine zN ?_; refine zQ ?_; refine WC_condT _ rfl rfl ?_; refine zP ?_; refine zQ ?_; refine WC_block ?_; refine zS ?_; refine zx (zi 2) rfl rfl ?_
         refine zV (v := (.string ⟨([109, 101, 109, 111, 114, 121] : List UInt8).toArray⟩)) (by kernel_rfl) rfl ?_
         refine zy (zi 2) rfl rfl ?_; refine zy (.string ⟨([109, 101, 109, 111, 114, 121] : List UInt8).toArray⟩) rfl rfl ?_; refine zN ?_; refine zS ?_; refine zx (zl a19 n19 c19) rfl rfl ?_; refine zx (zi 2) rfl rfl ?_
         refine zV (v := (zi 3)) (by kernel_rfl) rfl ?_
         obtain ⟨y218, hy218, H⟩ := bnd H
         have l2_7 := (l2_5.trans leG162).trans leG217
         refine WL_idx sl66 (h19.mono RStr_mono l2_7) hy218 rfl rfl rfl ?_
         rintro b219 o219 _ hcb219 _ ⟨⟩
         refine zV (zL na9 rfl (hS.sat.cell (hcb219 0 _ rfl))) rfl ?_; obtain ⟨y220, hy220, H⟩ := bnd H
         have l0_7 := (l0_5.trans leG162).trans leG217
         have hxy220 := f60_ok (x0 := y218) hS.sat (hT.mono l0_7)  hy220
         refine zO rfl (OpP_enterP (rn_call cb60 rfl) rfl hxy220 (fun _ w221 hR => ?_)); obtain ⟨rfl, hb⟩ := hR; have hS := hS.keep hb; have hO := hO.below hb
         rcases y220 with v222 | v223
         ·refine .inl ⟨_, rfl, .below hb, ?_⟩; refine zy (zi v222) rfl rfl ?_; refine zN ?_; refine zQ ?_; obtain ⟨q224, hq224, H⟩ := bnd H; refine zM (fun F w => ∃ (p225 : Unit) (Fb : Fr) (G : Gm), q224 = .inl p225 ∧ F = upds Fb [(0, zs x0), (2, zp b1), (5, zl a13 n13 c13), (6, zl a19 n19 c19), (7, zi p164.1), (8, zp b37), (10, .string ⟨([109, 101, 109, 111, 114, 121] : List UInt8).toArray⟩), (11, zi v222), (42, .agg #[.string ⟨([112, 101, 114, 115, 111, 110] : List UInt8).toArray⟩, .string ⟨([101, 118, 101, 110, 116] : List UInt8).toArray⟩, .string ⟨([109, 101, 109, 111, 114, 121] : List UInt8).toArray⟩]), (43, zi 2)] ∧ Gle G217 G ∧ Since w0.heap.size G0 w0 G w ∧ Owns G w w0.heap.size [⟨60, 4, np164_2, zl ap164_2 np164_2 cp164_2, clap164_2⟩, ⟨57, 2, np164_1, zl ap164_1 np164_1 cp164_1, clap164_1⟩, ⟨54, 2, np164_0, zl ap164_0 np164_0 cp164_0, clap164_0⟩, zb 107 3 b37 [zl ap164_0 np164_0 cp164_0, zl ap164_1 np164_1 cp164_1, zl ap164_2 np164_2 cp164_2], zb 26 3 b1 [zl ap164_3 np164_3 cp164_3, zl ap164_4 np164_4 cp164_4, zl ap164_5 np164_5 cp164_5]]) ?_ ?_
          ·have Hoq224 := H; have H := hq224; refine zR ?_; refine zx (zi v222) rfl rfl ?_; refine zV (rn_geq rfl rfl) rfl ?_; refine zx (.bool (decide (0 ≤ v222))) rfl rfl ?_
           rcases bcases (decide (0 ≤ v222)) with hb226 | hb226
           ·have H := ifT hb226 H; refine zY rfl hb226 rfl rfl ?_; refine zx (zi v222) rfl rfl ?_; refine zY rfl hb226 rfl rfl ?_; refine zx (zl a13 n13 c13) rfl rfl ?_; refine zY rfl hb226 rfl rfl ?_
            have l1_7 := leG18.trans l2_7
            refine zV (rn_len sl66 rfl rfl (h13.mono RStr_mono l1_7).1) rfl ?_; refine zY rfl hb226 rfl rfl ?_; refine zV (rn_leq rfl rfl) rfl ?_; refine zV (rn_pickT (v := (.bool (decide (v222 ≤ (y10.length : Int))))) rfl hb226 rfl) rfl ?_; refine zx (.string ⟨([109, 101, 109, 111, 114, 121] : List UInt8).toArray⟩) rfl rfl ?_; obtain ⟨y227, hy227, H⟩ := bnd H
            have hxy227 := f58_ok (x0 := decide (v222 ≤ (y10.length : Int))) (x1 := ([109, 101, 109, 111, 114, 121] : List UInt8)) hS.sat  hy227
            refine zO rfl (OpP_enterP (rn_call cb58 rfl) rfl hxy227 (fun _ w228 hR => ?_)); obtain ⟨rfl, hb⟩ := hR; have hS := hS.keep hb; have hO := hO.below hb
            rcases y227 with v229 | v230
            ·refine .inl ⟨_, rfl, .below hb, ?_⟩; refine zN ?_
             have hO : Owns _ _ _ ([⟨60, 4, np164_2, zl ap164_2 np164_2 cp164_2, clap164_2⟩, ⟨57, 2, np164_1, zl ap164_1 np164_1 cp164_1, clap164_1⟩, ⟨54, 2, np164_0, zl ap164_0 np164_0 cp164_0, clap164_0⟩, zb 107 3 b37 [zl ap164_0 np164_0 cp164_0, zl ap164_1 np164_1 cp164_1, zl ap164_2 np164_2 cp164_2], zb 26 3 b1 [zl ap164_3 np164_3 cp164_3, zl ap164_4 np164_4 cp164_4, zl ap164_5 np164_5 cp164_5]]) := hO
             have H := oi H; subst H
             exact ⟨_, _, G217, rfl, upds_self _ _ ⟨rfl, rfl, rfl, rfl, rfl, rfl, rfl, rfl, rfl, rfl, trivial⟩, Gle.refl _, hS, hO⟩
            ·refine .inr ⟨_, rfl, .below hb, ?_⟩; have H := oi H; subst H; have H := Hoq224
             have H : some (Sum.inr v230) = some r := H
             have H := oi H; subst H
             exact .inr ⟨_, rfl, ⟨_, rfl, rfl⟩, hS.below⟩
           ·have H := ifF hb226 H; refine zG rfl hb226 rfl rfl rfl ?_; refine zG rfl hb226 rfl rfl rfl ?_; refine zG rfl hb226 rfl rfl rfl ?_; refine zG rfl hb226 rfl rfl rfl ?_; refine zV (rn_pickF (v := (.bool false)) rfl hb226 rfl) rfl ?_; refine zx (.string ⟨([109, 101, 109, 111, 114, 121] : List UInt8).toArray⟩) rfl rfl ?_; obtain ⟨y231, hy231, H⟩ := bnd H
            have hxy231 := f58_ok (x0 := false) (x1 := ([109, 101, 109, 111, 114, 121] : List UInt8)) hS.sat  hy231
            refine zO rfl (OpP_enterP (rn_call cb58 rfl) rfl hxy231 (fun _ w232 hR => ?_)); obtain ⟨rfl, hb⟩ := hR; have hS := hS.keep hb; have hO := hO.below hb
            rcases y231 with v233 | v234
            ·refine .inl ⟨_, rfl, .below hb, ?_⟩; refine zN ?_
             have hO : Owns _ _ _ ([⟨60, 4, np164_2, zl ap164_2 np164_2 cp164_2, clap164_2⟩, ⟨57, 2, np164_1, zl ap164_1 np164_1 cp164_1, clap164_1⟩, ⟨54, 2, np164_0, zl ap164_0 np164_0 cp164_0, clap164_0⟩, zb 107 3 b37 [zl ap164_0 np164_0 cp164_0, zl ap164_1 np164_1 cp164_1, zl ap164_2 np164_2 cp164_2], zb 26 3 b1 [zl ap164_3 np164_3 cp164_3, zl ap164_4 np164_4 cp164_4, zl ap164_5 np164_5 cp164_5]]) := hO
             have H := oi H; subst H
             exact ⟨_, _, G217, rfl, upds_self _ _ ⟨rfl, rfl, rfl, rfl, rfl, rfl, rfl, rfl, rfl, rfl, trivial⟩, Gle.refl _, hS, hO⟩
            ·refine .inr ⟨_, rfl, .below hb, ?_⟩; have H := oi H; subst H; have H := Hoq224
             have H : some (Sum.inr v234) = some r := H
             have H := oi H; subst H
             exact .inr ⟨_, rfl, ⟨_, rfl, rfl⟩, hS.below⟩
          ·rintro F w235 ⟨p225, Fb, G236, rfl, rfl, leG236, hS, hO⟩
           refine zS ?_; refine zx (zi v222) rfl rfl ?_; refine zx (zi 0) rfl rfl ?_; refine zN ?_
           have hO : Owns _ _ _ ([⟨60, 4, np164_2, zl ap164_2 np164_2 cp164_2, clap164_2⟩, ⟨57, 2, np164_1, zl ap164_1 np164_1 cp164_1, clap164_1⟩, ⟨54, 2, np164_0, zl ap164_0 np164_0 cp164_0, clap164_0⟩, zb 107 3 b37 [zl ap164_0 np164_0 cp164_0, zl ap164_1 np164_1 cp164_1, zl ap164_2 np164_2 cp164_2], zb 26 3 b1 [zl ap164_3 np164_3 cp164_3, zl ap164_4 np164_4 cp164_4, zl ap164_5 np164_5 cp164_5]]) := hO
           obtain ⟨q239, hq239, H⟩ := bnd H; refine zM (fun F w => ∃ (p238 : Int × TReader × TLandBook) (Fb : Fr) (G : Gm) (ap238_0 : Option Addr) (np238_0 cp238_0 : Nat) (clap238_0 : List Value) (ap238_1 : Option Addr) (np238_1 cp238_1 : Nat) (clap238_1 : List Value) (ap238_2 : Option Addr) (np238_2 cp238_2 : Nat) (clap238_2 : List Value) (ap238_3 : Option Addr) (np238_3 cp238_3 : Nat) (ap238_4 : Option Addr) (np238_4 cp238_4 : Nat) (ap238_5 : Option Addr) (np238_5 cp238_5 : Nat), q239 = .inl p238 ∧ F = upds Fb [(0, zs x0), (2, zp b1), (5, zl a13 n13 c13), (6, zl a19 n19 c19), (7, zi p238.1), (8, zp b37), (42, .agg #[.string ⟨([112, 101, 114, 115, 111, 110] : List UInt8).toArray⟩, .string ⟨([101, 118, 101, 110, 116] : List UInt8).toArray⟩, .string ⟨([109, 101, 109, 111, 114, 121] : List UInt8).toArray⟩]), (43, zi 2)] ∧ Gle G236 G ∧ Since w0.heap.size G0 w0 G w ∧ Owns G w w0.heap.size [⟨60, 4, np238_2, zl ap238_2 np238_2 cp238_2, clap238_2⟩, ⟨57, 2, np238_1, zl ap238_1 np238_1 cp238_1, clap238_1⟩, ⟨54, 2, np238_0, zl ap238_0 np238_0 cp238_0, clap238_0⟩, zb 107 3 b37 [zl ap238_0 np238_0 cp238_0, zl ap238_1 np238_1 cp238_1, zl ap238_2 np238_2 cp238_2], zb 26 3 b1 [zl ap238_3 np238_3 cp238_3, zl ap238_4 np238_4 cp238_4, zl ap238_5 np238_5 cp238_5]] ∧ np238_0 = p238.2.1.b.People.length ∧ Rd RTLandPerson 2 G clap238_0 p238.2.1.b.People ∧ np238_1 = p238.2.1.b.Events.length ∧ Rd RTLandEvent 2 G clap238_1 p238.2.1.b.Events ∧ np238_2 = p238.2.1.b.Memories.length ∧ Rd RTLandMemory 4 G clap238_2 p238.2.1.b.Memories ∧ RSl RTLandPerson 2 G ap238_3 np238_3 cp238_3 p238.2.2.People ∧ RSl RTLandEvent 2 G ap238_4 np238_4 cp238_4 p238.2.2.Events ∧ RSl RTLandMemory 4 G ap238_5 np238_5 cp238_5 p238.2.2.Memories) ?_ ?_
           ·refine WC_block (WC_loop hq239 (fun s237 F w => ∃ (Fb : Fr) (G : Gm) (as237_0 : Option Addr) (ns237_0 cs237_0 : Nat) (clas237_0 : List Value) (as237_1 : Option Addr) (ns237_1 cs237_1 : Nat) (clas237_1 : List Value) (as237_2 : Option Addr) (ns237_2 cs237_2 : Nat) (clas237_2 : List Value) (as237_3 : Option Addr) (ns237_3 cs237_3 : Nat) (as237_4 : Option Addr) (ns237_4 cs237_4 : Nat) (as237_5 : Option Addr) (ns237_5 cs237_5 : Nat), F = upds Fb [(0, zs x0), (2, zp b1), (5, zl a13 n13 c13), (6, zl a19 n19 c19), (7, zi s237.1), (8, zp b37), (10, .string ⟨([109, 101, 109, 111, 114, 121] : List UInt8).toArray⟩), (42, .agg #[.string ⟨([112, 101, 114, 115, 111, 110] : List UInt8).toArray⟩, .string ⟨([101, 118, 101, 110, 116] : List UInt8).toArray⟩, .string ⟨([109, 101, 109, 111, 114, 121] : List UInt8).toArray⟩]), (43, zi 2), (63, zi v222), (64, zi s237.2.1)] ∧ Gle G236 G ∧ Since w0.heap.size G0 w0 G w ∧ Owns G w w0.heap.size [⟨60, 4, ns237_2, zl as237_2 ns237_2 cs237_2, clas237_2⟩, ⟨57, 2, ns237_1, zl as237_1 ns237_1 cs237_1, clas237_1⟩, ⟨54, 2, ns237_0, zl as237_0 ns237_0 cs237_0, clas237_0⟩, zb 107 3 b37 [zl as237_0 ns237_0 cs237_0, zl as237_1 ns237_1 cs237_1, zl as237_2 ns237_2 cs237_2], zb 26 3 b1 [zl as237_3 ns237_3 cs237_3, zl as237_4 ns237_4 cs237_4, zl as237_5 ns237_5 cs237_5]] ∧ ns237_0 = s237.2.2.1.b.People.length ∧ Rd RTLandPerson 2 G clas237_0 s237.2.2.1.b.People ∧ ns237_1 = s237.2.2.1.b.Events.length ∧ Rd RTLandEvent 2 G clas237_1 s237.2.2.1.b.Events ∧ ns237_2 = s237.2.2.1.b.Memories.length ∧ Rd RTLandMemory 4 G clas237_2 s237.2.2.1.b.Memories ∧ RSl RTLandPerson 2 G as237_3 ns237_3 cs237_3 s237.2.2.2.People ∧ RSl RTLandEvent 2 G as237_4 ns237_4 cs237_4 s237.2.2.2.Events ∧ RSl RTLandMemory 4 G as237_5 ns237_5 cs237_5 s237.2.2.2.Memories) ?_ ?_)
            ·have hO : Owns _ _ _ ([⟨60, 4, np164_2, zl ap164_2 np164_2 cp164_2, clap164_2⟩, ⟨57, 2, np164_1, zl ap164_1 np164_1 cp164_1, clap164_1⟩, ⟨54, 2, np164_0, zl ap164_0 np164_0 cp164_0, clap164_0⟩, zb 107 3 b37 [zl ap164_0 np164_0 cp164_0, zl ap164_1 np164_1 cp164_1, zl ap164_2 np164_2 cp164_2], zb 26 3 b1 [zl ap164_3 np164_3 cp164_3, zl ap164_4 np164_4 cp164_4, zl ap164_5 np164_5 cp164_5]]) := hO
             exact ⟨_, G236, ap164_0, np164_0, cp164_0, clap164_0, ap164_1, np164_1, cp164_1, clap164_1, ap164_2, np164_2, cp164_2, clap164_2, ap164_3, np164_3, cp164_3, ap164_4, np164_4, cp164_4, ap164_5, np164_5, cp164_5, upds_self _ _ ⟨rfl, rfl, rfl, rfl, rfl, rfl, rfl, rfl, rfl, rfl, rfl, trivial⟩, Gle.refl _, hS, hO, hnhp164_0, (hp164_0.mono RTLandPerson_mono leG236), hnhp164_1, (hp164_1.mono RTLandEvent_mono leG236), hnhp164_2, (hp164_2.mono RTLandMemory_mono leG236), (hp164_3.mono RTLandPerson_mono leG236), (hp164_4.mono RTLandEvent_mono leG236), (hp164_5.mono RTLandMemory_mono leG236)⟩
            ·rintro s237 F w241 t240 ⟨Fb, G242, as237_0, ns237_0, cs237_0, clas237_0, as237_1, ns237_1, cs237_1, clas237_1, as237_2, ns237_2, cs237_2, clas237_2, as237_3, ns237_3, cs237_3, as237_4, ns237_4, cs237_4, as237_5, ns237_5, cs237_5, rfl, leG242, hS, hO, hnhs237_0, hs237_0, hnhs237_1, hs237_1, hnhs237_2, hs237_2, hs237_3, hs237_4, hs237_5⟩
             intro H1 hqq239
             have Hoq239 := H; have H := H1
             unfold f29_b3 at H
             refine zS ?_; refine zV (rn_lss rfl rfl) rfl ?_; refine zN ?_; refine zQ ?_; refine zT rfl (fun hb243 => ?_) (fun hb243 => ?_)
             ·have H := ifT hb243 H; refine zP ?_; refine zQ ?_; refine WC_block ?_; refine zS ?_; refine zx (zi s237.1) rfl rfl ?_; refine zx (zl a13 n13 c13) rfl rfl ?_
              have l1_9 := ((leG18.trans l2_7).trans leG236).trans leG242
              refine zV (rn_len sl66 rfl rfl (h13.mono RStr_mono l1_9).1) rfl ?_; refine zV (rn_lss rfl rfl) rfl ?_; refine zx (.string ⟨([109, 101, 109, 111, 114, 121] : List UInt8).toArray⟩) rfl rfl ?_; obtain ⟨y244, hy244, H⟩ := bnd H
              have hxy244 := f58_ok (x0 := decide (s237.1 < (y10.length : Int))) (x1 := ([109, 101, 109, 111, 114, 121] : List UInt8)) hS.sat  hy244
              refine zO rfl (OpP_enterP (rn_call cb58 rfl) rfl hxy244 (fun _ w245 hR => ?_)); obtain ⟨rfl, hb⟩ := hR; have hS := hS.keep hb; have hO := hO.below hb
              rcases y244 with v246 | v247
              ·refine .inl ⟨_, rfl, .below hb, ?_⟩; refine zN ?_; refine zS ?_; refine zx (zl a13 n13 c13) rfl rfl ?_; refine zx (zi s237.1) rfl rfl ?_; obtain ⟨y248, hy248, H⟩ := bnd H; refine WL_idx sl66 (h13.mono RStr_mono l1_9) hy248 rfl rfl rfl ?_
               rintro b249 o249 _ hcb249 _ ⟨⟩
               refine zV (zL na9 rfl (hS.sat.cell (hcb249 0 _ rfl))) rfl ?_; obtain ⟨y250, hy250, H⟩ := bnd H; refine zO rfl (OpP_callG cb59 (f59_ok (x0 := y248) (x1 := ([32] : List UInt8)) hS.sat  hy250) rfl rfl (fun vy250 G252 w251 hg hvy250 => ?_)); obtain ⟨a253, n253, c253, ⟨⟩, h253⟩ := hvy250; have hS := hS.grow hg; have hO := hO.grow hg
               have leG252 := hg.le
               refine zy (zl a253 n253 c253) rfl rfl ?_; refine zN ?_; refine zQ ?_; have hS := hS.keep (below_drew _); have hO := hO.below (below_drew _)
               refine WC_regionD mixedO (fun _ w => Sat G252 w ∧ Owns G252 w w0.heap.size [⟨60, 4, ns237_2, zl as237_2 ns237_2 cs237_2, clas237_2⟩, ⟨57, 2, ns237_1, zl as237_1 ns237_1 cs237_1, clas237_1⟩, ⟨54, 2, ns237_0, zl as237_0 ns237_0 cs237_0, clas237_0⟩, zb 107 3 b37 [zl as237_0 ns237_0 cs237_0, zl as237_1 ns237_1 cs237_1, zl as237_2 ns237_2 cs237_2], zb 26 3 b1 [zl as237_3 ns237_3 cs237_3, zl as237_4 ns237_4 cs237_4, zl as237_5 ns237_5 cs237_5]]) (.fl 0 (.fl 1 (.fl 2 (.fl 3 (.fl 4 (.fl 5 (.on 6 (.on 7 (.on 8 (.on 9 .nil)))))))))) (by kernel_rfl) rfl (by kernel_rfl) (fun _ => ⟨hS.sat, hO⟩) ?_
               refine zD rfl (fun w hw => zm (v := (zl a253 n253 c253)) rfl) rfl ?_; obtain ⟨y254, hy254, H⟩ := bnd H; refine WD_idx rfl sl66 h253 hy254 rfl rfl rfl ?_
               rintro b255 o255 _ hcb255 _ ⟨⟩
               refine zD rfl (fun w hw => zL na9 rfl (hw.1.cell (hcb255 0 _ rfl))) rfl ?_; refine zD rfl (fun w hw => zm (v := (.string ⟨([109, 101, 109, 111, 114, 121] : List UInt8).toArray⟩)) rfl) rfl ?_; refine zD rfl (fun w hw => rn_eqlS rfl rfl) rfl ?_; refine zD rfl (fun w hw => zm (v := (zl a13 n13 c13)) rfl) rfl ?_; refine zE rfl rfl (OpP_val (zm (v := (zi s237.1)) rfl) rfl ?_); refine ⟨fun _ _ => ⟨hS.sat, hO⟩, ?_⟩
               have l1_10 := l1_9.trans leG252
               refine zE rfl rfl (OpP_idx sl66 (h13.mono RStr_mono l1_10) hy248 rfl rfl rfl ?_)
               rintro b256 o256 _ hcb256 _ ⟨⟩
               refine ⟨fun _ _ => ⟨hS.sat, hO⟩, ?_⟩; refine zE rfl rfl (OpP_val (zL na9 rfl (hS.sat.cell (hcb256 0 _ rfl))) rfl ?_); refine ⟨fun _ _ => ⟨hS.sat, hO⟩, ?_⟩; obtain ⟨y257, hy257, H⟩ := bnd H
               have hxy257 := f58_ok (x0 := y254 == ([109, 101, 109, 111, 114, 121] : List UInt8)) (x1 := y248) hS.sat  hy257
               refine zE rfl rfl (OpP_enterP (rn_call cb58 rfl) rfl hxy257 (fun _ w258 hR => ?_)); obtain ⟨rfl, hb⟩ := hR; have hS := hS.keep hb; have hO := hO.below hb
               rcases y257 with v259 | v260
               ·refine .inl ⟨_, rfl, .below hb, ?_⟩
                refine ⟨fun _ h => noneed (by kernel_rfl) h, ?_⟩
                refine zI ?_; refine zQ ?_; have hS := hS.keep (below_drew _); have hO := hO.below (below_drew _)
                refine WC_regionD mixedO (fun _ w => Sat G252 w ∧ Owns G252 w w0.heap.size [⟨60, 4, ns237_2, zl as237_2 ns237_2 cs237_2, clas237_2⟩, ⟨57, 2, ns237_1, zl as237_1 ns237_1 cs237_1, clas237_1⟩, ⟨54, 2, ns237_0, zl as237_0 ns237_0 cs237_0, clas237_0⟩, zb 107 3 b37 [zl as237_0 ns237_0 cs237_0, zl as237_1 ns237_1 cs237_1, zl as237_2 ns237_2 cs237_2], zb 26 3 b1 [zl as237_3 ns237_3 cs237_3, zl as237_4 ns237_4 cs237_4, zl as237_5 ns237_5 cs237_5]]) (.fl 1 (.fl 3 (.fl 4 (.fl 5 (.on 0 (.on 2 (.on 6 .nil))))))) (by kernel_rfl) rfl (by kernel_rfl) (fun _ => ⟨hS.sat, hO⟩) ?_
                refine zD rfl (fun w hw => zm (v := (.string ⟨([109, 101, 109, 111, 114, 121] : List UInt8).toArray⟩)) rfl) rfl ?_; refine zD rfl (fun w hw => zm (v := (zp b37)) rfl) rfl ?_; refine zD rfl (fun w hw => zm (v := (zl a253 n253 c253)) rfl) rfl ?_; obtain ⟨y261, hy261, H⟩ := bnd H; obtain ⟨hl0, hl1, hl2, _⟩ := subL_some hy261
                have hln := h253.1
                have hnc := h253.2.1.2
                obtain ⟨ay261, ny261, cy261, hsl, hsy261⟩ := RSl.sub h253 hy261 (q := n253) ((Int.toNat_natCast _).trans hln.symm)
                refine zD (v := (zl ay261 ny261 cy261)) rfl (fun w hw => (rn_sliceL sl66 rfl rfl hl0 (by omega) _).trans (congrArg (fun v => Result.ok (Next.value v) _) hsl)) rfl ?_
                refine zE rfl rfl (OpP_in1 (N' := 3) [] cb61 Tryz.func61 rfl rfl rfl rfl rfl rfl ?_); refine zS ?_; refine zy (.map none) rfl rfl ?_; refine zN ?_; refine zS ?_; refine zO rfl (OpP_makeMap (e := 9) hS hO rfl (fun r262 w263 hS hO => ?_))
                have hO : Owns _ _ _ ([⟨9, 2, ([] : (List ((List UInt8) × Nat))).length, .map (some r262), kvs kvS vvF ([] : (List ((List UInt8) × Nat)))⟩, ⟨60, 4, ns237_2, zl as237_2 ns237_2 cs237_2, clas237_2⟩, ⟨57, 2, ns237_1, zl as237_1 ns237_1 cs237_1, clas237_1⟩, ⟨54, 2, ns237_0, zl as237_0 ns237_0 cs237_0, clas237_0⟩, zb 107 3 b37 [zl as237_0 ns237_0 cs237_0, zl as237_1 ns237_1 cs237_1, zl as237_2 ns237_2 cs237_2], zb 26 3 b1 [zl as237_3 ns237_3 cs237_3, zl as237_4 ns237_4 cs237_4, zl as237_5 ns237_5 cs237_5]]) := hO
                refine zO rfl (OpP_insert (k := 0) (vv := vvF) (v := 79) (a := ([112, 101, 114, 115, 111, 110] : List UInt8)) mp111 (keyOk_S ui9) hS hO rfl rfl rfl rfl rfl (fun w265 hS hO => ?_))
                have hO : Owns _ _ _ ([⟨9, 2, (updM ([] : (List ((List UInt8) × Nat))) ([112, 101, 114, 115, 111, 110] : List UInt8) 79).length, .map (some r262), kvs kvS vvF (updM ([] : (List ((List UInt8) × Nat))) ([112, 101, 114, 115, 111, 110] : List UInt8) 79)⟩, ⟨60, 4, ns237_2, zl as237_2 ns237_2 cs237_2, clas237_2⟩, ⟨57, 2, ns237_1, zl as237_1 ns237_1 cs237_1, clas237_1⟩, ⟨54, 2, ns237_0, zl as237_0 ns237_0 cs237_0, clas237_0⟩, zb 107 3 b37 [zl as237_0 ns237_0 cs237_0, zl as237_1 ns237_1 cs237_1, zl as237_2 ns237_2 cs237_2], zb 26 3 b1 [zl as237_3 ns237_3 cs237_3, zl as237_4 ns237_4 cs237_4, zl as237_5 ns237_5 cs237_5]]) := hO
                refine zO rfl (OpP_insert (k := 0) (vv := vvF) (v := 80) (a := ([101, 118, 101, 110, 116] : List UInt8)) mp111 (keyOk_S ui9) hS hO rfl rfl rfl rfl rfl (fun w266 hS hO => ?_))
                have hO : Owns _ _ _ ([⟨9, 2, (updM (updM ([] : (List ((List UInt8) × Nat))) ([112, 101, 114, 115, 111, 110] : List UInt8) 79) ([101, 118, 101, 110, 116] : List UInt8) 80).length, .map (some r262), kvs kvS vvF (updM (updM ([] : (List ((List UInt8) × Nat))) ([112, 101, 114, 115, 111, 110] : List UInt8) 79) ([101, 118, 101, 110, 116] : List UInt8) 80)⟩, ⟨60, 4, ns237_2, zl as237_2 ns237_2 cs237_2, clas237_2⟩, ⟨57, 2, ns237_1, zl as237_1 ns237_1 cs237_1, clas237_1⟩, ⟨54, 2, ns237_0, zl as237_0 ns237_0 cs237_0, clas237_0⟩, zb 107 3 b37 [zl as237_0 ns237_0 cs237_0, zl as237_1 ns237_1 cs237_1, zl as237_2 ns237_2 cs237_2], zb 26 3 b1 [zl as237_3 ns237_3 cs237_3, zl as237_4 ns237_4 cs237_4, zl as237_5 ns237_5 cs237_5]]) := hO
                refine zO rfl (OpP_insert (k := 0) (vv := vvF) (v := 81) (a := ([109, 101, 109, 111, 114, 121] : List UInt8)) mp111 (keyOk_S ui9) hS hO rfl rfl rfl rfl rfl (fun w267 hS hO => ?_))
                have hO : Owns _ _ _ ([⟨9, 2, (updM (updM (updM ([] : (List ((List UInt8) × Nat))) ([112, 101, 114, 115, 111, 110] : List UInt8) 79) ([101, 118, 101, 110, 116] : List UInt8) 80) ([109, 101, 109, 111, 114, 121] : List UInt8) 81).length, .map (some r262), kvs kvS vvF (updM (updM (updM ([] : (List ((List UInt8) × Nat))) ([112, 101, 114, 115, 111, 110] : List UInt8) 79) ([101, 118, 101, 110, 116] : List UInt8) 80) ([109, 101, 109, 111, 114, 121] : List UInt8) 81)⟩, ⟨60, 4, ns237_2, zl as237_2 ns237_2 cs237_2, clas237_2⟩, ⟨57, 2, ns237_1, zl as237_1 ns237_1 cs237_1, clas237_1⟩, ⟨54, 2, ns237_0, zl as237_0 ns237_0 cs237_0, clas237_0⟩, zb 107 3 b37 [zl as237_0 ns237_0 cs237_0, zl as237_1 ns237_1 cs237_1, zl as237_2 ns237_2 cs237_2], zb 26 3 b1 [zl as237_3 ns237_3 cs237_3, zl as237_4 ns237_4 cs237_4, zl as237_5 ns237_5 cs237_5]]) := hO
                refine zx (.map (some r262)) rfl rfl ?_; refine zy (.map (some r262)) rfl rfl ?_; refine zN ?_; refine WC_ret ?_; refine ⟨(.map (some r262)), rfl, ?_⟩
                have hO : Owns _ _ _ ([⟨9, 2, (updM (updM (updM ([] : (List ((List UInt8) × Nat))) ([112, 101, 114, 115, 111, 110] : List UInt8) 79) ([101, 118, 101, 110, 116] : List UInt8) 80) ([109, 101, 109, 111, 114, 121] : List UInt8) 81).length, .map (some r262), kvs kvS vvF (updM (updM (updM ([] : (List ((List UInt8) × Nat))) ([112, 101, 114, 115, 111, 110] : List UInt8) 79) ([101, 118, 101, 110, 116] : List UInt8) 80) ([109, 101, 109, 111, 114, 121] : List UInt8) 81)⟩, ⟨60, 4, ns237_2, zl as237_2 ns237_2 cs237_2, clas237_2⟩, ⟨57, 2, ns237_1, zl as237_1 ns237_1 cs237_1, clas237_1⟩, ⟨54, 2, ns237_0, zl as237_0 ns237_0 cs237_0, clas237_0⟩, zb 107 3 b37 [zl as237_0 ns237_0 cs237_0, zl as237_1 ns237_1 cs237_1, zl as237_2 ns237_2 cs237_2], zb 26 3 b1 [zl as237_3 ns237_3 cs237_3, zl as237_4 ns237_4 cs237_4, zl as237_5 ns237_5 cs237_5]]) := hO
                refine ⟨fun _ _ => ⟨hS.sat, (hO.drop 0)⟩, ?_⟩; refine zE rfl rfl (OpP_val (v := vvF 81) (rn_lookupF (k := 0) (vv := vvF) (a := ([109, 101, 109, 111, 114, 121] : List UInt8)) (v := 81) mp111 (keyOk_S ui9) hO rfl rfl rfl rfl) rfl ?_); refine ⟨fun _ _ => ⟨hS.sat, (hO.drop 0)⟩, ?_⟩; refine zE rfl rfl (OpP_inCP0 (N' := 44) (fi := []) (al := [zp b37, zl ay261 ny261 cy261]) (ca := []) cb81 Tryz.func81 rfl rfl rfl rfl rfl rfl rfl ?_); refine zS ?_; refine zx (zl ay261 ny261 cy261) rfl rfl ?_; refine zV (rn_len sl66 rfl rfl hsy261.1) rfl ?_; refine zV (rn_eql rfl rfl) rfl ?_; obtain ⟨y268, hy268, H⟩ := bnd H
                have hxy268 := f58_ok (x0 := (y261.length : Int) == 4) (x1 := ([109, 101, 109, 111, 114, 121] : List UInt8)) hS.sat  hy268
                refine zO rfl (OpP_enterP (rn_call cb58 rfl) rfl hxy268 (fun _ w269 hR => ?_)); obtain ⟨rfl, hb⟩ := hR; have hS := hS.keep hb; have hO := hO.below hb
                rcases y268 with v270 | v271
                ·refine .inl ⟨_, rfl, .below hb, ?_⟩; refine zN ?_; refine zS ?_
                 refine zO rfl (zU (v := fun b => zp b) (cs := (cellsT (Tb.zero 4))) (e := 137) (by kernel_rfl) hS.sat hO rfl 4 1 (cellsT_len _) (by decide) (fun b272 w273 hb hO => ?_))
                 have hS := hS.keep hb; refine zN ?_; refine zQ ?_; refine zS ?_; refine zx (zl ay261 ny261 cy261) rfl rfl ?_; refine zV (rn_len sl66 rfl rfl hsy261.1) rfl ?_; refine zx (zi 0) rfl rfl ?_; refine zN ?_
                 have hO : Owns _ _ _ ([⟨137, 4, 1, zl (some ⟨b272, 0, none⟩) 1 1, cellsT (Tb.zero 4)⟩, ⟨9, 2, (updM (updM (updM ([] : (List ((List UInt8) × Nat))) ([112, 101, 114, 115, 111, 110] : List UInt8) 79) ([101, 118, 101, 110, 116] : List UInt8) 80) ([109, 101, 109, 111, 114, 121] : List UInt8) 81).length, .map (some r262), kvs kvS vvF (updM (updM (updM ([] : (List ((List UInt8) × Nat))) ([112, 101, 114, 115, 111, 110] : List UInt8) 79) ([101, 118, 101, 110, 116] : List UInt8) 80) ([109, 101, 109, 111, 114, 121] : List UInt8) 81)⟩, ⟨60, 4, ns237_2, zl as237_2 ns237_2 cs237_2, clas237_2⟩, ⟨57, 2, ns237_1, zl as237_1 ns237_1 cs237_1, clas237_1⟩, ⟨54, 2, ns237_0, zl as237_0 ns237_0 cs237_0, clas237_0⟩, zb 107 3 b37 [zl as237_0 ns237_0 cs237_0, zl as237_1 ns237_1 cs237_1, zl as237_2 ns237_2 cs237_2], zb 26 3 b1 [zl as237_3 ns237_3 cs237_3, zl as237_4 ns237_4 cs237_4, zl as237_5 ns237_5 cs237_5]]) := hO
                 obtain ⟨q277, hq277, H⟩ := bnd H; refine zM (fun F w => ∃ (p276 : (Tb 4) × TReader × TLandBook × (List ((List UInt8) × Nat))) (Fb : Fr) (G : Gm) (ap276_0 : Option Addr) (np276_0 cp276_0 : Nat) (clap276_0 : List Value) (ap276_1 : Option Addr) (np276_1 cp276_1 : Nat) (clap276_1 : List Value) (ap276_2 : Option Addr) (np276_2 cp276_2 : Nat) (clap276_2 : List Value) (ap276_3 : Option Addr) (np276_3 cp276_3 : Nat) (ap276_4 : Option Addr) (np276_4 cp276_4 : Nat) (ap276_5 : Option Addr) (np276_5 cp276_5 : Nat), q277 = .inl p276 ∧ F = upds Fb [(0, zp b37), (4, zp b272)] ∧ Gle G252 G ∧ Since w0.heap.size G0 w0 G w ∧ Owns G w w0.heap.size [⟨137, 4, 1, zl (some ⟨b272, 0, none⟩) 1 1, cellsT p276.1⟩, ⟨9, 2, (p276.2.2.2).length, .map (some r262), kvs kvS vvF (p276.2.2.2)⟩, ⟨60, 4, np276_2, zl ap276_2 np276_2 cp276_2, clap276_2⟩, ⟨57, 2, np276_1, zl ap276_1 np276_1 cp276_1, clap276_1⟩, ⟨54, 2, np276_0, zl ap276_0 np276_0 cp276_0, clap276_0⟩, zb 107 3 b37 [zl ap276_0 np276_0 cp276_0, zl ap276_1 np276_1 cp276_1, zl ap276_2 np276_2 cp276_2], zb 26 3 b1 [zl ap276_3 np276_3 cp276_3, zl ap276_4 np276_4 cp276_4, zl ap276_5 np276_5 cp276_5]] ∧ np276_0 = p276.2.1.b.People.length ∧ Rd RTLandPerson 2 G clap276_0 p276.2.1.b.People ∧ np276_1 = p276.2.1.b.Events.length ∧ Rd RTLandEvent 2 G clap276_1 p276.2.1.b.Events ∧ np276_2 = p276.2.1.b.Memories.length ∧ Rd RTLandMemory 4 G clap276_2 p276.2.1.b.Memories ∧ RSl RTLandPerson 2 G ap276_3 np276_3 cp276_3 p276.2.2.1.People ∧ RSl RTLandEvent 2 G ap276_4 np276_4 cp276_4 p276.2.2.1.Events ∧ RSl RTLandMemory 4 G ap276_5 np276_5 cp276_5 p276.2.2.1.Memories) ?_ ?_
                 ·refine WC_block (WC_loop hq277 (fun s275 F w => ∃ (Fb : Fr) (G : Gm) (as275_0 : Option Addr) (ns275_0 cs275_0 : Nat) (clas275_0 : List Value) (as275_1 : Option Addr) (ns275_1 cs275_1 : Nat) (clas275_1 : List Value) (as275_2 : Option Addr) (ns275_2 cs275_2 : Nat) (clas275_2 : List Value) (as275_3 : Option Addr) (ns275_3 cs275_3 : Nat) (as275_4 : Option Addr) (ns275_4 cs275_4 : Nat) (as275_5 : Option Addr) (ns275_5 cs275_5 : Nat), F = upds Fb [(0, zp b37), (4, zp b272), (11, zl ay261 ny261 cy261), (12, zi (y261.length : Int)), (13, zi s275.1)] ∧ Gle G252 G ∧ Since w0.heap.size G0 w0 G w ∧ Owns G w w0.heap.size [⟨137, 4, 1, zl (some ⟨b272, 0, none⟩) 1 1, cellsT s275.2.1⟩, ⟨9, 2, (s275.2.2.2.2).length, .map (some r262), kvs kvS vvF (s275.2.2.2.2)⟩, ⟨60, 4, ns275_2, zl as275_2 ns275_2 cs275_2, clas275_2⟩, ⟨57, 2, ns275_1, zl as275_1 ns275_1 cs275_1, clas275_1⟩, ⟨54, 2, ns275_0, zl as275_0 ns275_0 cs275_0, clas275_0⟩, zb 107 3 b37 [zl as275_0 ns275_0 cs275_0, zl as275_1 ns275_1 cs275_1, zl as275_2 ns275_2 cs275_2], zb 26 3 b1 [zl as275_3 ns275_3 cs275_3, zl as275_4 ns275_4 cs275_4, zl as275_5 ns275_5 cs275_5]] ∧ ns275_0 = s275.2.2.1.b.People.length ∧ Rd RTLandPerson 2 G clas275_0 s275.2.2.1.b.People ∧ ns275_1 = s275.2.2.1.b.Events.length ∧ Rd RTLandEvent 2 G clas275_1 s275.2.2.1.b.Events ∧ ns275_2 = s275.2.2.1.b.Memories.length ∧ Rd RTLandMemory 4 G clas275_2 s275.2.2.1.b.Memories ∧ RSl RTLandPerson 2 G as275_3 ns275_3 cs275_3 s275.2.2.2.1.People ∧ RSl RTLandEvent 2 G as275_4 ns275_4 cs275_4 s275.2.2.2.1.Events ∧ RSl RTLandMemory 4 G as275_5 ns275_5 cs275_5 s275.2.2.2.1.Memories) ?_ ?_)
                  ·have hO : Owns _ _ _ ([⟨137, 4, 1, zl (some ⟨b272, 0, none⟩) 1 1, cellsT (Tb.zero 4)⟩, ⟨9, 2, (updM (updM (updM ([] : (List ((List UInt8) × Nat))) ([112, 101, 114, 115, 111, 110] : List UInt8) 79) ([101, 118, 101, 110, 116] : List UInt8) 80) ([109, 101, 109, 111, 114, 121] : List UInt8) 81).length, .map (some r262), kvs kvS vvF (updM (updM (updM ([] : (List ((List UInt8) × Nat))) ([112, 101, 114, 115, 111, 110] : List UInt8) 79) ([101, 118, 101, 110, 116] : List UInt8) 80) ([109, 101, 109, 111, 114, 121] : List UInt8) 81)⟩, ⟨60, 4, ns237_2, zl as237_2 ns237_2 cs237_2, clas237_2⟩, ⟨57, 2, ns237_1, zl as237_1 ns237_1 cs237_1, clas237_1⟩, ⟨54, 2, ns237_0, zl as237_0 ns237_0 cs237_0, clas237_0⟩, zb 107 3 b37 [zl as237_0 ns237_0 cs237_0, zl as237_1 ns237_1 cs237_1, zl as237_2 ns237_2 cs237_2], zb 26 3 b1 [zl as237_3 ns237_3 cs237_3, zl as237_4 ns237_4 cs237_4, zl as237_5 ns237_5 cs237_5]]) := hO
                   exact ⟨_, G252, as237_0, ns237_0, cs237_0, clas237_0, as237_1, ns237_1, cs237_1, clas237_1, as237_2, ns237_2, cs237_2, clas237_2, as237_3, ns237_3, cs237_3, as237_4, ns237_4, cs237_4, as237_5, ns237_5, cs237_5, upds_self _ _ ⟨rfl, rfl, rfl, rfl, rfl, trivial⟩, Gle.refl _, hS, hO, hnhs237_0, (hs237_0.mono RTLandPerson_mono leG252), hnhs237_1, (hs237_1.mono RTLandEvent_mono leG252), hnhs237_2, (hs237_2.mono RTLandMemory_mono leG252), (hs237_3.mono RTLandPerson_mono leG252), (hs237_4.mono RTLandEvent_mono leG252), (hs237_5.mono RTLandMemory_mono leG252)⟩
                  ·rintro s275 F w279 t278 ⟨Fb, G280, as275_0, ns275_0, cs275_0, clas275_0, as275_1, ns275_1, cs275_1, clas275_1, as275_2, ns275_2, cs275_2, clas275_2, as275_3, ns275_3, cs275_3, as275_4, ns275_4, cs275_4, as275_5, ns275_5, cs275_5, rfl, leG280, hS, hO, hnhs275_0, hs275_0, hnhs275_1, hs275_1, hnhs275_2, hs275_2, hs275_3, hs275_4, hs275_5⟩
                   intro H1 hqq277
                   have Hoq277 := H; have H := H1
                   unfold f29_b4 at H
                   refine zS ?_; refine zV (rn_lss rfl rfl) rfl ?_; refine zN ?_; refine zQ ?_; refine zT rfl (fun hb281 => ?_) (fun hb281 => ?_)
                   ·have H := ifT hb281 H; refine zP ?_; refine zQ ?_; refine WC_block ?_; refine zS ?_; refine zx (zi s275.1) rfl rfl ?_; obtain ⟨y282, hy282, H⟩ := bnd H; refine WL_idx sl66 (hsy261.mono RStr_mono leG280) hy282 rfl rfl rfl ?_
                    rintro b283 o283 _ hcb283 _ ⟨⟩
                    refine zV (zL na9 rfl (hS.sat.cell (hcb283 0 _ rfl))) rfl ?_; refine zy (zi s275.1) rfl rfl ?_; refine zy (zs y282) rfl rfl ?_; refine zN ?_; refine zR ?_; refine zx (zi s275.1) rfl rfl ?_; refine zx (zs y282) rfl rfl ?_; obtain ⟨y284, hy284, H⟩ := bnd H
                    have l0_11 := (((l0_7.trans leG236).trans leG242).trans leG252).trans leG280
                    have hxy284 := f60_ok (x0 := y282) hS.sat (hT.mono l0_11)  hy284
                    refine zO rfl (OpP_enterP (rn_call cb60 rfl) rfl hxy284 (fun _ w285 hR => ?_)); obtain ⟨rfl, hb⟩ := hR; have hS := hS.keep hb; have hO := hO.below hb
                    rcases y284 with v286 | v287
                    ·refine .inl ⟨_, rfl, .below hb, ?_⟩; obtain ⟨j288, hj288, H⟩ := bnd H
                     have hl289 : 0 + j288 * 1 < 4 := by have := (ckI_some hj288).2; omega
                     refine zV (rn_idxA ar137 rfl rfl hj288) rfl ?_; refine zO rfl (OpP_storeT sz3 hS hO (k := 0) rfl rfl rfl hl289 (fun w290 hS hO => ?_))
                     have hO : Owns _ _ _ ([⟨137, 4, 1, zl (some ⟨b272, 0, none⟩) 1 1, cellsT (tset s275.2.1 (0 + j288 * 1) v286)⟩, ⟨9, 2, (s275.2.2.2.2).length, .map (some r262), kvs kvS vvF (s275.2.2.2.2)⟩, ⟨60, 4, ns275_2, zl as275_2 ns275_2 cs275_2, clas275_2⟩, ⟨57, 2, ns275_1, zl as275_1 ns275_1 cs275_1, clas275_1⟩, ⟨54, 2, ns275_0, zl as275_0 ns275_0 cs275_0, clas275_0⟩, zb 107 3 b37 [zl as275_0 ns275_0 cs275_0, zl as275_1 ns275_1 cs275_1, zl as275_2 ns275_2 cs275_2], zb 26 3 b1 [zl as275_3 ns275_3 cs275_3, zl as275_4 ns275_4 cs275_4, zl as275_5 ns275_5 cs275_5]]) := hO
                     refine zN ?_; refine zR ?_; refine zV (rn_add rfl rfl) rfl ?_; refine zx (zi (IntKind.i64.wrap (s275.1 + 1))) rfl rfl ?_; refine zN ?_
                     have hO : Owns _ _ _ ([⟨137, 4, 1, zl (some ⟨b272, 0, none⟩) 1 1, cellsT (tset s275.2.1 (0 + j288 * 1) v286)⟩, ⟨9, 2, (s275.2.2.2.2).length, .map (some r262), kvs kvS vvF (s275.2.2.2.2)⟩, ⟨60, 4, ns275_2, zl as275_2 ns275_2 cs275_2, clas275_2⟩, ⟨57, 2, ns275_1, zl as275_1 ns275_1 cs275_1, clas275_1⟩, ⟨54, 2, ns275_0, zl as275_0 ns275_0 cs275_0, clas275_0⟩, zb 107 3 b37 [zl as275_0 ns275_0 cs275_0, zl as275_1 ns275_1 cs275_1, zl as275_2 ns275_2 cs275_2], zb 26 3 b1 [zl as275_3 ns275_3 cs275_3, zl as275_4 ns275_4 cs275_4, zl as275_5 ns275_5 cs275_5]]) := hO
                     have H := oi H; subst H; refine ⟨_, rfl, ?_⟩
                     exact ⟨_, G280, as275_0, ns275_0, cs275_0, clas275_0, as275_1, ns275_1, cs275_1, clas275_1, as275_2, ns275_2, cs275_2, clas275_2, as275_3, ns275_3, cs275_3, as275_4, ns275_4, cs275_4, as275_5, ns275_5, cs275_5, upds_self _ _ ⟨rfl, rfl, rfl, rfl, rfl, trivial⟩, leG280, hS, hO, hnhs275_0, hs275_0, hnhs275_1, hs275_1, hnhs275_2, hs275_2, hs275_3, hs275_4, hs275_5⟩
                    ·refine .inr ⟨_, rfl, .below hb, ?_⟩; have H := oi H; subst H
                     have hres := hqq277 _ rfl
                     subst hres; have H := Hoq277; have H := oi H; subst H
                     have hres := hqq239 _ rfl
                     subst hres; have H := Hoq239
                     have H : some (Sum.inr v287) = some r := H
                     have H := oi H; subst H
                     exact .inr ⟨_, rfl, ⟨_, rfl, rfl⟩, hS.below⟩
                   ·have H := ifF hb281 H; refine WC_exit rfl ?_
                    have hO : Owns _ _ _ ([⟨137, 4, 1, zl (some ⟨b272, 0, none⟩) 1 1, cellsT s275.2.1⟩, ⟨9, 2, (s275.2.2.2.2).length, .map (some r262), kvs kvS vvF (s275.2.2.2.2)⟩, ⟨60, 4, ns275_2, zl as275_2 ns275_2 cs275_2, clas275_2⟩, ⟨57, 2, ns275_1, zl as275_1 ns275_1 cs275_1, clas275_1⟩, ⟨54, 2, ns275_0, zl as275_0 ns275_0 cs275_0, clas275_0⟩, zb 107 3 b37 [zl as275_0 ns275_0 cs275_0, zl as275_1 ns275_1 cs275_1, zl as275_2 ns275_2 cs275_2], zb 26 3 b1 [zl as275_3 ns275_3 cs275_3, zl as275_4 ns275_4 cs275_4, zl as275_5 ns275_5 cs275_5]]) := hO
                    have H := oi H; subst H
                    have hres := hqq277 _ rfl
                    subst hres
                    exact ⟨_, _, G280, as275_0, ns275_0, cs275_0, clas275_0, as275_1, ns275_1, cs275_1, clas275_1, as275_2, ns275_2, cs275_2, clas275_2, as275_3, ns275_3, cs275_3, as275_4, ns275_4, cs275_4, as275_5, ns275_5, cs275_5, rfl, upds_self _ _ ⟨rfl, rfl, trivial⟩, leG280, hS, hO, hnhs275_0, hs275_0, hnhs275_1, hs275_1, hnhs275_2, hs275_2, hs275_3, hs275_4, hs275_5⟩
                 ·rintro F w291 ⟨p276, Fb, G292, ap276_0, np276_0, cp276_0, clap276_0, ap276_1, np276_1, cp276_1, clap276_1, ap276_2, np276_2, cp276_2, clap276_2, ap276_3, np276_3, cp276_3, ap276_4, np276_4, cp276_4, ap276_5, np276_5, cp276_5, rfl, rfl, leG292, hS, hO, hnhp276_0, hp276_0, hnhp276_1, hp276_1, hnhp276_2, hp276_2, hp276_3, hp276_4, hp276_5⟩
                  have hS := hS.keep (below_drew _); have hO := hO.below (below_drew _)
                  refine WC_regionD mixedO (fun _ w => Sat G292 w ∧ Owns G292 w w0.heap.size [⟨137, 4, 1, zl (some ⟨b272, 0, none⟩) 1 1, cellsT p276.1⟩, ⟨9, 2, (p276.2.2.2).length, .map (some r262), kvs kvS vvF (p276.2.2.2)⟩, ⟨57, 2, np276_1, zl ap276_1 np276_1 cp276_1, clap276_1⟩, ⟨54, 2, np276_0, zl ap276_0 np276_0 cp276_0, clap276_0⟩, zb 107 3 b37 [zl ap276_0 np276_0 cp276_0, zl ap276_1 np276_1 cp276_1, zl ap276_2 np276_2 cp276_2], zb 26 3 b1 [zl ap276_3 np276_3 cp276_3, zl ap276_4 np276_4 cp276_4, zl ap276_5 np276_5 cp276_5]]) (.fl 0 (.fl 1 (.fl 2 (.fl 3 (.fl 4 (.fl 5 (.fl 6 (.fl 7 (.fl 8 (.fl 9 (.fl 10 (.fl 11 (.on 12 (.on 13 (.on 14 (.on 15 (.on 16 (.on 17 (.on 18 (.on 19 (.on 20 (.on 21 .nil)))))))))))))))))))))) (by kernel_rfl) rfl (by kernel_rfl) (fun _ => ⟨hS.sat, (hO.drop 2)⟩) ?_
                  refine zD rfl (fun w hw => zm (v := (zp b37)) rfl) rfl ?_; refine zD rfl (fun w hw => zm (v := (zp b37)) rfl) rfl ?_
                  refine zD (v := (zp b37)) rfl (fun w hw => by kernel_rfl) rfl ?_
                  refine zD rfl (fun w hw => zF fd107_0 rfl) rfl ?_; refine zD rfl (fun w hw => zF fd26_2 rfl) rfl ?_; refine zD rfl (fun w hw => zL na24 rfl (own_cell hw.2 (k := 4) rfl (j := 2) rfl)) rfl ?_
                  have hl293 : 0 + 0 * 1 < 4 := by omega
                  refine zD rfl (fun w hw => rn_idxA ar137 rfl rfl (show ckI 0 4 = some 0 by decide)) rfl ?_
                  refine zD rfl (fun w hw => zL na3 rfl (tab_cell hw.2 (k := 0) rfl hl293)) rfl ?_
                  have hl294 : 0 + 1 * 1 < 4 := by omega
                  refine zD rfl (fun w hw => rn_idxA ar137 rfl rfl (show ckI 1 4 = some 1 by decide)) rfl ?_
                  refine zD rfl (fun w hw => zL na3 rfl (tab_cell hw.2 (k := 0) rfl hl294)) rfl ?_
                  have hl295 : 0 + 2 * 1 < 4 := by omega
                  refine zD rfl (fun w hw => rn_idxA ar137 rfl rfl (show ckI 2 4 = some 2 by decide)) rfl ?_
                  refine zD rfl (fun w hw => zL na3 rfl (tab_cell hw.2 (k := 0) rfl hl295)) rfl ?_
                  have hl296 : 0 + 3 * 1 < 4 := by omega
                  refine zE rfl rfl (OpP_val (rn_idxA ar137 rfl rfl (show ckI 3 4 = some 3 by decide)) rfl ?_)
                  refine ⟨fun _ _ => ⟨hS.sat, (hO.drop 2)⟩, ?_⟩; refine zE rfl rfl (OpP_val (zL na3 rfl (tab_cell hO (k := 0) rfl hl296)) rfl ?_); refine ⟨fun _ _ => ⟨hS.sat, (hO.drop 2)⟩, ?_⟩
                  refine zE rfl rfl (OpP_val (v := (.agg #[zi (tget p276.1 (0 + 2 * 1)), zi (tget p276.1 (0 + 3 * 1))])) (by kernel_rfl) rfl ?_)
                  refine ⟨fun _ _ => ⟨hS.sat, (hO.drop 2)⟩, ?_⟩
                  refine zE rfl rfl (OpP_val (v := (.agg #[zi (tget p276.1 (0 + 0 * 1)), zi (tget p276.1 (0 + 1 * 1)), zi (tget p276.1 (0 + 2 * 1)), zi (tget p276.1 (0 + 3 * 1))])) (by kernel_rfl) rfl ?_)
                  refine ⟨fun _ _ => ⟨hS.sat, (hO.drop 2)⟩, ?_⟩
                  refine zE rfl rfl (zW (v := fun b => zl (some ⟨b, 0, none⟩) 1 1) (cs := [zi (tget p276.1 (0 + 0 * 1)), zi (tget p276.1 (0 + 1 * 1)), zi (tget p276.1 (0 + 2 * 1)), zi (tget p276.1 (0 + 3 * 1))]) (e := 60) (by kernel_rfl) hS.sat rfl (fun b297 G299 w298 hg hcb297 => ?_))
                  have hS := hS.grow hg; have hO := hO.grow hg
                  have leG299 := hg.le
                  have hfb297 : RSl RTLandMemory 4 G299 (some ⟨b297, 0, none⟩) 1 1 [(⟨tget p276.1 (0 + 0 * 1), tget p276.1 (0 + 1 * 1), (⟨tget p276.1 (0 + 2 * 1), tget p276.1 (0 + 3 * 1)⟩ : TSpan)⟩ : TLandMemory)] := RSl.of_rd hcb297 (Rd.cons (c := [zi (tget p276.1 (0 + 0 * 1)), zi (tget p276.1 (0 + 1 * 1)), zi (tget p276.1 (0 + 2 * 1)), zi (tget p276.1 (0 + 3 * 1))]) rfl rfl (Rd.nil RTLandMemory 4 _)) rfl (by decide)
                  refine ⟨fun _ _ => ⟨hS.sat.le leG299, (hO.drop 2).le leG299⟩, ?_⟩; obtain ⟨y300, hy300, H⟩ := bnd H; refine zE rfl rfl (OpP_append (k := 2) sl24 RTLandMemory_one hS hO rfl hnhp276_2 (hp276_2.mono RTLandMemory_mono leG299) hfb297 hy300 rfl rfl rfl rfl rfl (fun aw301 cw301 w301 clw301 hS hO hrw301 => ?_))
                  have hO : Owns _ _ _ ([⟨137, 4, 1, zl (some ⟨b272, 0, none⟩) 1 1, cellsT p276.1⟩, ⟨9, 2, (p276.2.2.2).length, .map (some r262), kvs kvS vvF (p276.2.2.2)⟩, ⟨60, 4, y300.length, zl aw301 y300.length cw301, clw301⟩, ⟨57, 2, np276_1, zl ap276_1 np276_1 cp276_1, clap276_1⟩, ⟨54, 2, np276_0, zl ap276_0 np276_0 cp276_0, clap276_0⟩, zb 107 3 b37 [zl ap276_0 np276_0 cp276_0, zl ap276_1 np276_1 cp276_1, zl ap276_2 np276_2 cp276_2], zb 26 3 b1 [zl ap276_3 np276_3 cp276_3, zl ap276_4 np276_4 cp276_4, zl ap276_5 np276_5 cp276_5]]) := hO
                  refine ⟨fun _ _ => ⟨hS.sat.le leG299, (hO.drop 2).le leG299⟩, ?_⟩
                  refine zE rfl rfl (OpP_val (v := (zp b37)) (by kernel_rfl) rfl ?_)
                  refine ⟨fun _ h => noneed (by kernel_rfl) h, ?_⟩
                  refine zE rfl rfl (OpP_val (zF fd107_0 rfl) rfl ?_)
                  refine ⟨fun _ h => noneed (by kernel_rfl) h, ?_⟩
                  refine zE rfl rfl (OpP_val (zF fd26_2 rfl) rfl ?_)
                  refine ⟨fun _ h => noneed (by kernel_rfl) h, ?_⟩
                  refine zE rfl rfl (OpP_store (vs := [zl aw301 y300.length cw301]) sz24 hS hO (k := 5) rfl rfl rfl rfl rfl (one_all rfl) (Nat.le_of_ble_eq_true rfl) (fun w302 hS hO => ?_))
                  have hO : Owns _ _ _ ([⟨137, 4, 1, zl (some ⟨b272, 0, none⟩) 1 1, cellsT p276.1⟩, ⟨9, 2, (p276.2.2.2).length, .map (some r262), kvs kvS vvF (p276.2.2.2)⟩, ⟨60, 4, y300.length, zl aw301 y300.length cw301, clw301⟩, ⟨57, 2, np276_1, zl ap276_1 np276_1 cp276_1, clap276_1⟩, ⟨54, 2, np276_0, zl ap276_0 np276_0 cp276_0, clap276_0⟩, zb 107 3 b37 [zl ap276_0 np276_0 cp276_0, zl ap276_1 np276_1 cp276_1, zl aw301 y300.length cw301], zb 26 3 b1 [zl ap276_3 np276_3 cp276_3, zl ap276_4 np276_4 cp276_4, zl ap276_5 np276_5 cp276_5]]) := hO
                  refine ⟨fun _ h => noneed (by kernel_rfl) h, ?_⟩
                  refine zI ?_; have hO := hO.drop 0
                  have hO : Owns _ _ _ ([⟨9, 2, (p276.2.2.2).length, .map (some r262), kvs kvS vvF (p276.2.2.2)⟩, ⟨60, 4, y300.length, zl aw301 y300.length cw301, clw301⟩, ⟨57, 2, np276_1, zl ap276_1 np276_1 cp276_1, clap276_1⟩, ⟨54, 2, np276_0, zl ap276_0 np276_0 cp276_0, clap276_0⟩, zb 107 3 b37 [zl ap276_0 np276_0 cp276_0, zl ap276_1 np276_1 cp276_1, zl aw301 y300.length cw301], zb 26 3 b1 [zl ap276_3 np276_3 cp276_3, zl ap276_4 np276_4 cp276_4, zl ap276_5 np276_5 cp276_5]]) := hO
                  refine ⟨fun _ h => noneed (by kernel_rfl) h, ?_⟩
                  refine zI ?_; refine zR ?_; refine zx (zi s237.1) rfl rfl ?_; refine zV (rn_add rfl rfl) rfl ?_; refine zy (zi (IntKind.i64.wrap (s237.1 + 1))) rfl rfl ?_; refine zN ?_; refine zR ?_; refine zV (rn_add rfl rfl) rfl ?_; refine zx (zi (IntKind.i64.wrap (s237.2.1 + 1))) rfl rfl ?_; refine zN ?_; have hO := hO.drop 0
                  have hO : Owns _ _ _ ([⟨60, 4, y300.length, zl aw301 y300.length cw301, clw301⟩, ⟨57, 2, np276_1, zl ap276_1 np276_1 cp276_1, clap276_1⟩, ⟨54, 2, np276_0, zl ap276_0 np276_0 cp276_0, clap276_0⟩, zb 107 3 b37 [zl ap276_0 np276_0 cp276_0, zl ap276_1 np276_1 cp276_1, zl aw301 y300.length cw301], zb 26 3 b1 [zl ap276_3 np276_3 cp276_3, zl ap276_4 np276_4 cp276_4, zl ap276_5 np276_5 cp276_5]]) := hO
                  have H := oi H; subst H; refine ⟨_, rfl, ?_⟩
                  have l8_12 := ((leG242.trans leG252).trans leG292).trans leG299
                  exact ⟨_, G299, ap276_0, np276_0, cp276_0, clap276_0, ap276_1, np276_1, cp276_1, clap276_1, aw301, y300.length, cw301, clw301, ap276_3, np276_3, cp276_3, ap276_4, np276_4, cp276_4, ap276_5, np276_5, cp276_5, upds_self _ _ ⟨rfl, rfl, rfl, rfl, rfl, rfl, rfl, rfl, rfl, rfl, rfl, trivial⟩, l8_12, hS, hO, hnhp276_0, (hp276_0.mono RTLandPerson_mono leG299), hnhp276_1, (hp276_1.mono RTLandEvent_mono leG299), rfl, hrw301, (hp276_3.mono RTLandPerson_mono leG299), (hp276_4.mono RTLandEvent_mono leG299), (hp276_5.mono RTLandMemory_mono leG299)⟩
                ·refine .inr ⟨_, rfl, .below hb, ?_⟩; have H := oi H; subst H
                 have hres := hqq239 _ rfl
                 subst hres; have H := Hoq239
                 have H : some (Sum.inr v271) = some r := H
                 have H := oi H; subst H
                 exact .inr ⟨_, rfl, ⟨_, rfl, rfl⟩, hS.below⟩
               ·refine .inr ⟨_, rfl, .below hb, ?_⟩; have H := oi H; subst H
                have hres := hqq239 _ rfl
                subst hres; have H := Hoq239
                have H : some (Sum.inr v260) = some r := H
                have H := oi H; subst H
                exact .inr ⟨_, rfl, ⟨_, rfl, rfl⟩, hS.below⟩
              ·refine .inr ⟨_, rfl, .below hb, ?_⟩; have H := oi H; subst H
               have hres := hqq239 _ rfl
               subst hres; have H := Hoq239
               have H : some (Sum.inr v247) = some r := H
               have H := oi H; subst H
               exact .inr ⟨_, rfl, ⟨_, rfl, rfl⟩, hS.below⟩
             ·have H := ifF hb243 H; refine WC_exit rfl ?_
              have hO : Owns _ _ _ ([⟨60, 4, ns237_2, zl as237_2 ns237_2 cs237_2, clas237_2⟩, ⟨57, 2, ns237_1, zl as237_1 ns237_1 cs237_1, clas237_1⟩, ⟨54, 2, ns237_0, zl as237_0 ns237_0 cs237_0, clas237_0⟩, zb 107 3 b37 [zl as237_0 ns237_0 cs237_0, zl as237_1 ns237_1 cs237_1, zl as237_2 ns237_2 cs237_2], zb 26 3 b1 [zl as237_3 ns237_3 cs237_3, zl as237_4 ns237_4 cs237_4, zl as237_5 ns237_5 cs237_5]]) := hO
              have H := oi H; subst H
              have hres := hqq239 _ rfl
              subst hres
              exact ⟨_, _, G242, as237_0, ns237_0, cs237_0, clas237_0, as237_1, ns237_1, cs237_1, clas237_1, as237_2, ns237_2, cs237_2, clas237_2, as237_3, ns237_3, cs237_3, as237_4, ns237_4, cs237_4, as237_5, ns237_5, cs237_5, rfl, upds_self _ _ ⟨rfl, rfl, rfl, rfl, rfl, rfl, rfl, rfl, trivial⟩, leG242, hS, hO, hnhs237_0, hs237_0, hnhs237_1, hs237_1, hnhs237_2, hs237_2, hs237_3, hs237_4, hs237_5⟩
           ·rintro F w304 ⟨p238, Fb, G305, ap238_0, np238_0, cp238_0, clap238_0, ap238_1, np238_1, cp238_1, clap238_1, ap238_2, np238_2, cp238_2, clap238_2, ap238_3, np238_3, cp238_3, ap238_4, np238_4, cp238_4, ap238_5, np238_5, cp238_5, rfl, rfl, leG305, hS, hO, hnhp238_0, hp238_0, hnhp238_1, hp238_1, hnhp238_2, hp238_2, hp238_3, hp238_4, hp238_5⟩
            refine zR ?_
            refine zV (v := (zi 3)) (by kernel_rfl) rfl ?_
            refine zx (zi 3) rfl rfl ?_; refine zN ?_; refine WI_step ?_; refine zS ?_
            refine zV (v := (.bool false)) (by kernel_rfl) rfl ?_
            refine zN ?_; refine zQ ?_; refine WC_condF _ rfl rfl ?_; refine WC_exit rfl ?_; refine zS ?_; refine zx (zp b37) rfl rfl ?_
            refine zV (v := (zp b37)) (by kernel_rfl) rfl ?_
            refine zV (zF fd107_0 rfl) rfl ?_; refine zV (rn_loadA ag26 (cs := [zl ap238_0 np238_0 cp238_0, zl ap238_1 np238_1 cp238_1, zl ap238_2 np238_2 cp238_2]) rfl rfl (fun j v hj => own_sub hO (k := 3) rfl 0 3 j v hj)) rfl ?_; obtain ⟨G306, leG306, hS, hO, hfG306⟩ := hO.freezeS hS RTLandPerson_mono (k := 2) rfl hp238_0 hnhp238_0; obtain ⟨G307, leG307, hS, hO, hfG307⟩ := hO.freezeS hS RTLandEvent_mono (k := 1) rfl (hp238_1.mono RTLandEvent_mono leG306) hnhp238_1
            have l9_11 := leG306.trans leG307
            obtain ⟨G308, leG308, hS, hO, hfG308⟩ := hO.freezeS hS RTLandMemory_mono (k := 0) rfl (hp238_2.mono RTLandMemory_mono l9_11) hnhp238_2; obtain ⟨y309, hy309, H⟩ := bnd H
            have l10_12 := leG307.trans leG308
            have l0_12 := (((l0_7.trans leG236).trans leG305).trans l9_11).trans leG308
            refine zO rfl (zC cb23 (f23_ok (x0 := (⟨p238.2.1.b.People, p238.2.1.b.Events, p238.2.1.b.Memories⟩ : TLandBook)) hS.sat (hT.mono l0_12) (hfG306.mono RTLandPerson_mono l10_12) (hfG307.mono RTLandEvent_mono leG308) hfG308 hy309) rfl rfl (fun w310 hb => ?_)); have hS := hS.keep hb; have hO := hO.below hb; refine zx (zs x0) rfl rfl ?_; refine zV (rn_eqlS rfl rfl) rfl ?_; obtain ⟨y311, hy311, H⟩ := bnd H
            have hxy311 := f58_ok (x0 := y309 == x0) (x1 := ([101, 110, 100] : List UInt8)) hS.sat  hy311
            refine zO rfl (OpP_enterP (rn_call cb58 rfl) rfl hxy311 (fun _ w312 hR => ?_)); obtain ⟨rfl, hb⟩ := hR; have hS := hS.keep hb; have hO := hO.below hb
            rcases y311 with v313 | v314
            ·refine .inl ⟨_, rfl, .below hb, ?_⟩; refine zN ?_; refine zS ?_; refine zx (zp b37) rfl rfl ?_
             refine zV (v := (zp b37)) (by kernel_rfl) rfl ?_
             refine zV (zF fd107_0 rfl) rfl ?_; refine zV (rn_loadA ag26 (cs := [zl ap238_0 np238_0 cp238_0, zl ap238_1 np238_1 cp238_1, zl ap238_2 np238_2 cp238_2]) rfl rfl (fun j v hj => own_sub hO (k := 0) rfl 0 3 j v hj)) rfl ?_; refine zO rfl (OpP_store (vs := [zl ap238_0 np238_0 cp238_0, zl ap238_1 np238_1 cp238_1, zl ap238_2 np238_2 cp238_2]) sz26 hS hO (k := 1) rfl rfl rfl rfl rfl (one_all rfl) (Nat.le_of_ble_eq_true rfl) (fun w315 hS hO => ?_))
             have hO : Owns _ _ _ ([zb 107 3 b37 [zl ap238_0 np238_0 cp238_0, zl ap238_1 np238_1 cp238_1, zl ap238_2 np238_2 cp238_2], zb 26 3 b1 [zl ap238_0 np238_0 cp238_0, zl ap238_1 np238_1 cp238_1, zl ap238_2 np238_2 cp238_2]]) := hO
             obtain ⟨G316, leG316, hS, hO, hqG316, _⟩ := hO.freeze hS (k := 1) rfl
             have hcG316 : Cells G316 b1 0 [zl ap238_0 np238_0 cp238_0, zl ap238_1 np238_1 cp238_1, zl ap238_2 np238_2 cp238_2] := (hqG316 _ _ _ _ rfl)
             refine zN ?_; refine WC_ret ?_
             have H : some (.inl (⟨p238.2.1.b.People, p238.2.1.b.Events, p238.2.1.b.Memories⟩ : TLandBook)) = some r := H
             have H := oi H; subst H
             have l10_13 := l10_12.trans leG316
             have l11_13 := leG308.trans leG316
             exact ⟨[.agg #[zl ap238_0 np238_0 cp238_0, zl ap238_1 np238_1 cp238_1, zl ap238_2 np238_2 cp238_2]], ⟨⟨_, rfl, ld_agg (cs := [zl ap238_0 np238_0 cp238_0, zl ap238_1 np238_1 cp238_1, zl ap238_2 np238_2 cp238_2]) ag26 rfl (fun j v hj => hS.sat.cell (hcG316 j v hj))⟩, trivial⟩, .inl ⟨_, _, rfl, hS.toGrow, _, rfl, _, _, _, _, _, _, _, _, _, rfl, (hfG306.mono RTLandPerson_mono l10_13), (hfG307.mono RTLandEvent_mono l11_13), (hfG308.mono RTLandMemory_mono leG316)⟩⟩
            ·refine .inr ⟨_, rfl, .below hb, ?_⟩
             have H : some (Sum.inr v314) = some r := H
             have H := oi H; subst H
             exact .inr ⟨_, rfl, ⟨_, rfl, rfl⟩, hS.below⟩
         ·refine .inr ⟨_, rfl, .below hb, ?_⟩
          have H : some (Sum.inr v223) = some r := H
          have H := oi H; subst H
          exact .inr ⟨_, rfl, ⟨_, rfl, rfl⟩, hS.below⟩
      ·refine .inr ⟨_, rfl, .below hb, ?_⟩
       have H : some (Sum.inr v149) = some r := H
       have H := oi H; subst H
       exact .inr ⟨_, rfl, ⟨_, rfl, rfl⟩, hS.below⟩
   ·refine .inr ⟨_, rfl, .below hb, ?_⟩
    have H : some (Sum.inr v45) = some r := H
    have H := oi H; subst H
    exact .inr ⟨_, rfl, ⟨_, rfl, rfl⟩, hS.below⟩
 ·refine .inr ⟨_, rfl, .below hb, ?_⟩
  have H : some (Sum.inr v9) = some r := H
  have H := oi H; subst H
  exact .inr ⟨_, rfl, ⟨_, rfl, rfl⟩, hS.below⟩
set_option maxHeartbeats 1000000 in
theorem rn_invoke {P : Program} {k : Nat} {fi ca : Array Value} {w : World} (hk : callB P k = true) : (invoke (.fn (.func k) ca) fi).run P w = .ok (.enter k (fi ++ ca)) w := by
 unfold callB at hk
 split at hk
 ·rename_i fn hf
  simp only [Bool.and_eq_true, Bool.not_eq_true'] at hk
  obtain ⟨c, hb⟩ := Option.isSome_iff_exists.1 hk.2
  have hn : ¬ fn.name = "runtime.NumGoroutine" := by simpa using hk.1
  simp [invoke, callFunc, hf, hn, hb]
 ·cases hk
theorem CallsDIn.imp {F : Fence} {n : Nat} {P : Program} {f : FuncId} {args : Array Value} {u : FrameMode} {w : World} {R R' : Ending → FrameMode → World → Prop} (h : CallsDIn F n P f args u w R) (k : ∀ e u' w', R e u' w' → R' e u' w') : CallsDIn F n P f args u w R' :=
 ⟨h.1, fun c cs h1 h2 => let ⟨e, u', w', fr, h3, h4⟩ := h.2 c cs h1 h2; ⟨e, u', w', fr, k _ _ _ h3, h4⟩⟩
theorem un62 : Tryz.prog.underlying 62 = some (.struct (Tryz.prog.fieldsOf 62)) := by kernel_rfl
theorem rn_isWrong (v : Value) (w : World) (e : Operand → Value) (t : Nat) (he : e (.tmp t) = .iface 62 v) (d : Option Nat) (ty : TypeId) (pos : String) (af : Array Edge) (gd : Option (Nat × Bool)) :
  (execOp e ⟨d, .typeAssert (.tmp t) 20 62 true, ty, pos, af, gd⟩).run Tryz.prog w = .ok (.value (.tuple #[v, .bool true])) w := by
 simp only [execOp, he, Instr.typeAssert, Sem.run_bind, run_underlying un62, Result.andThen_ok]
 simp
theorem f28_ret (b1 b4 : Nat) (w : World) : CallsDIn Fence.wide 0 Tryz.prog 28 #[zp b1, zp b4] .returning w fun e u' w' => e = .returned (.tuple #[]) ∧ u' = .returning ∧ w' = w := by
 refine callsDIn_of_wpSIn Tryz.func28 rfl trivial fun c₀ cs hu => ?_
 apply wpSIn_seq
 apply wpSIn_region
 simp [wpOpsSIn, go_sem, recoverD, hu, Tryz.ntmps28, Exit.thenS]
 refine wpSIn_of_wpIn rfl ?_
 refine wpIn_mono (WC_block (κ := ⟨none, none, 0, true, []⟩) (N := 12) (n := fun _ w' => w' = w) (r := fun _ w' => w' = w) (x := []) (p := fun _ _ _ => False) (F := frOf _) (w := w) ?_ _ w ⟨by simp, Calm.nil _ _, Keeps.refl _, Nat.zero_le _⟩ rfl) ?_
 ·refine zS ?_; refine zV (rn_eqlE (b := true) rfl rfl ⟨_, Tryz.underlying20⟩) rfl ?_; refine zN ?_; refine WC_condT true rfl rfl ?_; refine zR ?_; refine zV (zA (v := .nilIface) rfl) rfl ?_
  exact zN rfl
 ·rintro e a' w' ⟨p1, p3⟩
  have hd := p1.calm.none rfl
  cases e with
  | normal => exact ⟨hd, _, rfl, _, by simp [results, Tryz.results28], rfl, hu, p3⟩
  | ret => exact ⟨hd, _, rfl, _, by simp [results, Tryz.results28], rfl, hu, p3⟩
  | exit k => obtain ⟨K, hK, _⟩ := p3; cases hK
  | goto l => exact p3.elim
  | panic c => exact p3.elim
  | outgrown => exact p3.elim
theorem f28_rec {B : Nat} {G0 : Gm} {w0 : World} {G : Gm} {w : World} {b1 b4 : Nat} {x : List UInt8} {cs1 cs4 : List Value} (h1 : cs1.length = 3) (h4 : cs4.length = 1) (hS : Since B G0 w0 G w) (hO : Owns G w B [⟨29, 1, 1, zl (some ⟨b4, 0, none⟩) 1 1, cs4⟩, ⟨26, 3, 1, zl (some ⟨b1, 0, none⟩) 1 1, cs1⟩]) (older : List PanicEntry) :
  CallsDIn Fence.wide 0 Tryz.prog 28 #[zp b1, zp b4] (.panicking ({ v := .iface 62 (.agg #[zs x]), recovered := false } :: older)) w fun e u' w' =>
   e = .returned (.tuple #[]) ∧ u' = .panicking ({ v := .iface 62 (.agg #[zs x]), recovered := true } :: older) ∧ ∃ G', Since B G0 w0 G' w' ∧ Owns G' w' B [zb 29 1 b4 [zi 4], zb 26 3 b1 [zl none 0 0, zl none 0 0, zl none 0 0]] := by
 refine callsDIn_of_wpSIn Tryz.func28 rfl trivial fun c₀ cs hu => ?_
 apply wpSIn_seq
 apply wpSIn_region
 simp [wpOpsSIn, go_sem, recoverD, hu, Tryz.ntmps28, Exit.thenS]
 refine wpSIn_of_wpIn rfl ?_; obtain ⟨Z, hZ⟩ : ∃ Z : World → Prop, Z = fun w' => ∃ G', Since B G0 w0 G' w' ∧ Owns G' w' B [zb 29 1 b4 [zi 4], zb 26 3 b1 [zl none 0 0, zl none 0 0, zl none 0 0]] := ⟨_, rfl⟩
 refine wpIn_mono (WC_block (κ := ⟨none, none, 0, true, []⟩) (N := 12) (n := fun _ w' => Z w') (r := fun _ w' => Z w') (x := []) (p := fun _ _ _ => False) (F := frOf _) (w := w) ?_ _ w ⟨by simp, Calm.nil _ _, Keeps.refl _, Nat.zero_le _⟩ rfl) ?_
 ·refine zS ?_; refine zV (rn_eqlE (b := false) ⟨_, _, rfl⟩ rfl ⟨_, Tryz.underlying20⟩) rfl ?_; refine zN ?_; refine WC_condF false rfl rfl ?_; refine zS ?_; refine zV (rn_isWrong (.agg #[zs x]) w _ 5 rfl _ _ _ _ _) rfl ?_; refine zV (v := .bool true) (zX (vs := #[.agg #[zs x], .bool true]) rfl rfl) rfl ?_; refine zV (v := .agg #[zs x]) (zX (vs := #[.agg #[zs x], .bool true]) rfl rfl) rfl ?_; refine zN ?_; refine WC_condT true rfl rfl ?_; refine zS ?_
  refine zO rfl (zU (v := fun b => zp b) (cs := [.string ⟨#[]⟩]) (e := 62) (by kernel_rfl) hS.sat hO rfl 1 1 rfl (by decide) (fun b5 w1 hb hO => ?_))
  have hS := hS.keep hb; refine zO rfl (OpP_store (vs := [zs x]) sz62 hS hO (k := 0) rfl rfl rfl rfl rfl (one_all rfl) (Nat.le_of_ble_eq_true rfl) (fun w2 hS hO => ?_)); refine zN ?_; refine zR ?_
  refine zV (v := (.agg #[zl none 0 0, zl none 0 0, zl none 0 0])) (by kernel_rfl) rfl ?_
  refine zO rfl (OpP_store (vs := [zl none 0 0, zl none 0 0, zl none 0 0]) sz26 hS hO (k := 2) rfl rfl rfl rfl rfl (one_all rfl) (by rw [h1]; decide) (fun w3 hS hO => ?_))
  refine zO rfl (OpP_store (vs := [zi 4]) sz29 hS hO (k := 1) rfl rfl rfl rfl rfl (one_all rfl) (by rw [h4]; decide) (fun w4 hS hO => ?_))
  refine zN ?_; subst hZ; have hO := hO.drop 0
  have e1 : splice cs1 0 [zl none 0 0, zl none 0 0, zl none 0 0] = [zl none 0 0, zl none 0 0, zl none 0 0] := by unfold splice; rw [List.drop_of_length_le (by simp [h1])]; simp
  have e4 : splice cs4 0 [zi 4] = [zi 4] := by unfold splice; rw [List.drop_of_length_le (by simp [h4])]; simp
  refine ⟨_, hS, ?_⟩
  have hO : Owns _ w4 B [⟨29, 1, 1, zl (some ⟨b4, 0, none⟩) 1 1, splice cs4 0 [zi 4]⟩, ⟨26, 3, 1, zl (some ⟨b1, 0, none⟩) 1 1, splice cs1 0 [zl none 0 0, zl none 0 0, zl none 0 0]⟩] := hO
  rw [e1, e4] at hO
  exact hO
 ·rintro e a' w' ⟨p1, p3⟩
  have hd := p1.calm.none rfl
  subst hZ; cases e with
  | normal => exact ⟨hd, _, rfl, _, by simp [results, Tryz.results28], rfl, rfl, p3⟩
  | ret => exact ⟨hd, _, rfl, _, by simp [results, Tryz.results28], rfl, rfl, p3⟩
  | exit k => obtain ⟨K, hK, _⟩ := p3; cases hK
  | goto l => exact p3.elim
  | panic c => exact p3.elim
  | outgrown => exact p3.elim
theorem f10_ok {G0 : Gm} {w0 : World} (hS0 : Sat G0 w0) {x0 : (List UInt8)} (hT : TabZ Tryz.prog G0) {r : TLandBook × Int} (H : f10 x0 = some r) :
  Calls Tryz.prog 10 #[zs x0] w0 (RetG G0 w0 (fun G v => ∃ (ra0 : Option Addr) (rn0 rc0 : Nat) (ra1 : Option Addr) (rn1 rc1 : Nat) (ra2 : Option Addr) (rn2 rc2 : Nat), v = .tuple #[.agg #[zl ra0 rn0 rc0, zl ra1 rn1 rc1, zl ra2 rn2 rc2], zi r.2] ∧ RSl RTLandPerson 2 G ra0 rn0 rc0 r.1.People ∧ RSl RTLandEvent 2 G ra1 rn1 rc1 r.1.Events ∧ RSl RTLandMemory 4 G ra2 rn2 rc2 r.1.Memories)) := by
 have hS := Since.start hS0
 have hO : Owns G0 w0 w0.heap.size [] := Owns.nil (Nat.le_refl _)
 unfold f10 at H
 refine enterB (N := 16) Tryz.func10 rfl rfl rfl ?_; obtain ⟨RR, hRR⟩ : ∃ RR : Ending → World → Prop, RR = RetG G0 w0 (fun G v => ∃ (ra0 : Option Addr) (rn0 rc0 : Nat) (ra1 : Option Addr) (rn1 rc1 : Nat) (ra2 : Option Addr) (rn2 rc2 : Nat), v = .tuple #[.agg #[zl ra0 rn0 rc0, zl ra1 rn1 rc1, zl ra2 rn2 rc2], zi r.2] ∧ RSl RTLandPerson 2 G ra0 rn0 rc0 r.1.People ∧ RSl RTLandEvent 2 G ra1 rn1 rc1 r.1.Events ∧ RSl RTLandMemory 4 G ra2 rn2 rc2 r.1.Memories) := ⟨_, rfl⟩
 rw [← hRR]
 have hLv : ∀ (tmps : Array Value) w', (∃ vs, ResOk Tryz.prog (fun t => tmps.getD t undef) w' [.cell 2 26, .cell 3 29] vs ∧ RR (.returned (resOf vs)) w') → LeavesInM Fence.wide 0 Tryz.prog Tryz.f10 tmps RR [] .returning w' := fun tmps w' ⟨vs, h1, h2⟩ => ⟨_, run_resG rfl h1, h2⟩
 refine WB_seq (fun _ _ => False) (fun _ _ h => h.elim) ?_; refine zR ?_
 refine zO rfl (zU (v := fun b => zp b) (cs := [zl none 0 0, zl none 0 0, zl none 0 0]) (e := 26) (by kernel_rfl) hS.sat hO rfl 3 1 rfl (by decide) (fun b1 w2 hb hO => ?_))
 have hS := hS.keep hb
 refine zO rfl (zU (v := fun b => zp b) (cs := [zi 0]) (e := 29) (by kernel_rfl) hS.sat hO rfl 1 1 rfl (by decide) (fun b4 w5 hb hO => ?_))
 have hS := hS.keep hb; refine zN ?_; refine WB_seq (fun F w' => ∃ vs, ResOk Tryz.prog F w' [.cell 2 26, .cell 3 29] vs ∧ RR (.returned (resOf vs)) w') hLv ?_; refine zS ?_; refine zx (zs x0) rfl rfl ?_; refine zV (rn_lenS Tryz.underlying9 rfl rfl) rfl ?_; refine zV (rn_gtr rfl rfl) rfl ?_; refine zN ?_; refine zT rfl (fun hb7 => ?_) (fun hb7 => ?_)
 ·have H := ifT hb7 H; refine zS ?_
  refine zV (v := (.agg #[zl none 0 0, zl none 0 0, zl none 0 0])) (by kernel_rfl) rfl ?_
  refine zO rfl (OpP_store (vs := [zl none 0 0, zl none 0 0, zl none 0 0]) sz26 hS hO (k := 1) rfl rfl rfl rfl rfl (one_all rfl) (Nat.le_of_ble_eq_true rfl) (fun w8 hS hO => ?_)); refine zO rfl (OpP_store (vs := [zi 3]) sz29 hS hO (k := 0) rfl rfl rfl rfl rfl (one_all rfl) (Nat.le_of_ble_eq_true rfl) (fun w9 hS hO => ?_))
  have hO : Owns _ _ _ ([zb 29 1 b4 [zi 3], zb 26 3 b1 [zl none 0 0, zl none 0 0, zl none 0 0]]) := hO
  refine zN ?_; refine WC_ret ?_; have H := oi H; subst H; subst hRR
  exact ⟨[.agg #[zl none 0 0, zl none 0 0, zl none 0 0], zi 3], ⟨⟨_, rfl, ld_agg (cs := [zl none 0 0, zl none 0 0, zl none 0 0]) ag26 rfl (fun j v hj => own_sub hO (k := 1) rfl 0 3 j v hj)⟩, ⟨_, rfl, ld_one na29 (own_cell hO (k := 0) rfl (j := 0) rfl)⟩, trivial⟩, ⟨_, _, rfl, hS.toGrow, _, _, _, _, _, _, _, _, _, rfl, (RSl.nil RTLandPerson 2 G0 none), (RSl.nil RTLandEvent 2 G0 none), (RSl.nil RTLandMemory 4 G0 none)⟩⟩
 ·have H := ifF hb7 H; refine zP ?_; refine WB_defer (fun d F w' => d = { target := .fn (.func 28) #[zp b1, zp b4], args := #[] } ∧ ∃ vs, ResOk Tryz.prog F w' [.cell 2 26, .cell 3 29] vs ∧ RR (.returned (resOf vs)) w')
   (fun d ch F w' => d = { target := .fn (.func 28) #[zp b1, zp b4], args := #[] } ∧ ∃ (x : List UInt8) (G : Gm) (cs1 : List Value), ch = [{ v := .iface 62 (.agg #[zs x]), recovered := false }] ∧ some ((⟨[], [], []⟩ : TLandBook), (4 : Int)) = some r ∧ cs1.length = 3 ∧ F 2 = zp b1 ∧ F 3 = zp b4 ∧ Since w0.heap.size G0 w0 G w' ∧ Owns G w' w0.heap.size [zb 29 1 b4 [zi 0], ⟨26, 3, 1, zl (some ⟨b1, 0, none⟩) 1 1, cs1⟩]) ?_ ?_ ?_
  ·rintro d tmps w' ⟨rfl, vs, h1, h2⟩
   refine ⟨by simp, .inr ⟨fun h => (by cases h), _, _, 28, #[zp b1, zp b4], rfl, rn_invoke cb28, fun _ _ => trivial, CallsDIn.imp (f28_ret b1 b4 w') ?_⟩⟩
   rintro e u' w'' ⟨rfl, rfl, rfl⟩
   exact hLv tmps w'' ⟨vs, h1, h2⟩
  ·rintro d ch tmps w' ⟨rfl, x, G, cs1, rfl, H, hl1, hF2, hF3, hS, hO⟩
   refine ⟨by simp, .inr ⟨fun h => (by cases h), _, _, 28, #[zp b1, zp b4], rfl, rn_invoke cb28, fun _ _ => trivial, CallsDIn.imp (f28_rec hl1 rfl hS hO []) ?_⟩⟩
   rintro e u' w'' ⟨rfl, rfl, G', hS, hO⟩
   have H := oi H; subst H; subst hRR
   exact hLv tmps w'' ⟨[.agg #[zl none 0 0, zl none 0 0, zl none 0 0], zi 4], ⟨⟨_, hF2, ld_agg (cs := [zl none 0 0, zl none 0 0, zl none 0 0]) ag26 rfl (fun j v hj => own_sub hO (k := 1) rfl 0 3 j v hj)⟩, ⟨_, hF3, ld_one na29 (own_cell hO (k := 0) rfl (j := 0) rfl)⟩, trivial⟩, ⟨_, _, rfl, hS.toGrow, _, _, _, _, _, _, _, _, _, rfl, (RSl.nil RTLandPerson 2 G' none), (RSl.nil RTLandEvent 2 G' none), (RSl.nil RTLandMemory 4 G' none)⟩⟩
  ·refine WLd_val (rn_func (vs := []) (us := [zp b1, zp b4]) rfl rfl) rfl ?_
   refine WLd_defer (d := { target := .fn (.func 28) #[zp b1, zp b4], args := #[] }) (fun D => by simp) (by simp [execOp, resolve, ev, Deferred.ofValue, upd]) ?_
   refine zS ?_; refine zx (zs x0) rfl rfl ?_; obtain ⟨y10, hy10, H⟩ := bnd H
   have hxy10 := f29_ok (x0 := x0) hS.sat hT hy10
   refine zO rfl (OpP_enterP (rn_call cb29 rfl) rfl hxy10 (fun _ w11 hR => ?_))
   rcases hR with ⟨_, G12, rfl, hg, v13, rfl, a15, n15, c15, a16, n16, c16, a17, n17, c17, rfl, h15, h16, h17⟩ | ⟨_, rfl, ⟨v14, rfl, rfl⟩, hb⟩
   ·have hS := hS.grow hg; have hO := hO.grow hg
    have leG12 := hg.le
    refine .inl ⟨_, rfl, .below hg.below, ?_⟩; refine zO rfl (OpP_store (vs := [zl a15 n15 c15, zl a16 n16 c16, zl a17 n17 c17]) sz26 hS hO (k := 1) rfl rfl rfl rfl rfl (one_all rfl) (Nat.le_of_ble_eq_true rfl) (fun w18 hS hO => ?_))
    have hO : Owns _ _ _ ([zb 29 1 b4 [zi 0], zb 26 3 b1 [zl a15 n15 c15, zl a16 n16 c16, zl a17 n17 c17]]) := hO
    refine zN ?_; refine zQ ?_; refine zS ?_; refine zV (rn_loadA ag26 (cs := [zl a15 n15 c15, zl a16 n16 c16, zl a17 n17 c17]) rfl rfl (fun j v hj => own_sub hO (k := 1) rfl 0 3 j v hj)) rfl ?_; obtain ⟨y19, hy19, H⟩ := bnd H; refine zO rfl (zC cb22 (f22_ok (x0 := v13) hS.sat h15 h16 h17 hy19) rfl rfl (fun w20 hb => ?_)); have hS := hS.keep hb; have hO := hO.below hb; refine zV (rn_not rfl) rfl ?_; refine zN ?_; refine zT rfl (fun hb21 => ?_) (fun hb21 => ?_)
    ·have H := ifT hb21 H; refine zS ?_
     refine zV (v := (.agg #[zl none 0 0, zl none 0 0, zl none 0 0])) (by kernel_rfl) rfl ?_
     refine zO rfl (OpP_store (vs := [zl none 0 0, zl none 0 0, zl none 0 0]) sz26 hS hO (k := 1) rfl rfl rfl rfl rfl (one_all rfl) (Nat.le_of_ble_eq_true rfl) (fun w22 hS hO => ?_)); refine zO rfl (OpP_store (vs := [zi 2]) sz29 hS hO (k := 0) rfl rfl rfl rfl rfl (one_all rfl) (Nat.le_of_ble_eq_true rfl) (fun w23 hS hO => ?_))
     have hO : Owns _ _ _ ([zb 29 1 b4 [zi 2], zb 26 3 b1 [zl none 0 0, zl none 0 0, zl none 0 0]]) := hO
     refine zN ?_; refine WC_ret ?_; have H := oi H; subst H; subst hRR
     exact ⟨rfl, [.agg #[zl none 0 0, zl none 0 0, zl none 0 0], zi 2], ⟨⟨_, rfl, ld_agg (cs := [zl none 0 0, zl none 0 0, zl none 0 0]) ag26 rfl (fun j v hj => own_sub hO (k := 1) rfl 0 3 j v hj)⟩, ⟨_, rfl, ld_one na29 (own_cell hO (k := 0) rfl (j := 0) rfl)⟩, trivial⟩, ⟨_, _, rfl, hS.toGrow, _, _, _, _, _, _, _, _, _, rfl, (RSl.nil RTLandPerson 2 G12 none), (RSl.nil RTLandEvent 2 G12 none), (RSl.nil RTLandMemory 4 G12 none)⟩⟩
    ·have H := ifF hb21 H; refine zP ?_; refine zS ?_; refine zV (rn_loadA ag26 (cs := [zl a15 n15 c15, zl a16 n16 c16, zl a17 n17 c17]) rfl rfl (fun j v hj => own_sub hO (k := 1) rfl 0 3 j v hj)) rfl ?_; refine zO rfl (OpP_store (vs := [zl a15 n15 c15, zl a16 n16 c16, zl a17 n17 c17]) sz26 hS hO (k := 1) rfl rfl rfl rfl rfl (one_all rfl) (Nat.le_of_ble_eq_true rfl) (fun w24 hS hO => ?_)); refine zO rfl (OpP_store (vs := [zi 0]) sz29 hS hO (k := 0) rfl rfl rfl rfl rfl (one_all rfl) (Nat.le_of_ble_eq_true rfl) (fun w25 hS hO => ?_))
     have hO : Owns _ _ _ ([zb 29 1 b4 [zi 0], zb 26 3 b1 [zl a15 n15 c15, zl a16 n16 c16, zl a17 n17 c17]]) := hO
     refine zN ?_; refine WC_ret ?_; have H := oi H; subst H; subst hRR
     exact ⟨rfl, [.agg #[zl a15 n15 c15, zl a16 n16 c16, zl a17 n17 c17], zi 0], ⟨⟨_, rfl, ld_agg (cs := [zl a15 n15 c15, zl a16 n16 c16, zl a17 n17 c17]) ag26 rfl (fun j v hj => own_sub hO (k := 1) rfl 0 3 j v hj)⟩, ⟨_, rfl, ld_one na29 (own_cell hO (k := 0) rfl (j := 0) rfl)⟩, trivial⟩, ⟨_, _, rfl, hS.toGrow, _, _, _, _, _, _, _, _, _, rfl, h15, h16, h17⟩⟩
   ·have hS := hS.keep hb; have hO := hO.below hb; refine .inr ⟨_, rfl, .below hb, ?_⟩
    exact ⟨rfl, v14, G0, [zl none 0 0, zl none 0 0, zl none 0 0], rfl, H, rfl, rfl, rfl, hS, hO⟩
set_option maxHeartbeats 1000000 in
theorem f30_ok : ∀ (n : Nat) {G0 : Gm} {w0 : World} (hS0 : Sat G0 w0) {x0 : Int}  {r : (List UInt8)} (H : f30 n x0 = some r),
  Calls Tryz.prog 30 #[zi x0] w0 (RetV w0 (zs r)) := by
 intro n
 induction n with
 | zero => intro G0 w0 hS0 x0 r H; cases H
 | succ n ih =>
  intro G0 w0 hS0 x0 r H
  obtain ⟨rec, hrec⟩ : ∃ f, f = f30 n := ⟨_, rfl⟩
  have H : f30_F (f30 n) x0 = some r := H
  rw [← hrec] at H
  have hS := Since.start hS0
  have hO : Owns G0 w0 w0.heap.size [] := Owns.nil (Nat.le_refl _)
  unfold f30_F at H
  refine enter1 (N := 29) (shutV _ _) Tryz.func30 rfl rfl rfl rfl ?_; refine zS ?_; refine zy (.string ⟨([] : List UInt8).toArray⟩) rfl rfl ?_; refine zN ?_; refine zQ ?_; refine zS ?_; refine zx (zi x0) rfl rfl ?_; refine zV (rn_lss rfl rfl) rfl ?_; refine zN ?_; refine zT rfl (fun hb1 => ?_) (fun hb1 => ?_)
  ·have H := ifT hb1 H; refine zS ?_; refine zx (zi x0) rfl rfl ?_; refine zV (rn_neg rfl) rfl ?_; obtain ⟨y2, hy2, H⟩ := bnd H
   refine zO rfl (zC cb30 (ih (x0 := IntKind.i64.wrap (0 - x0)) hS.sat  (by rw [← hrec]; exact hy2)) rfl rfl (fun w3 hb => ?_))
   have hS := hS.keep hb; have hO := hO.below hb; obtain ⟨y4, hy4, H⟩ := bnd H; refine zV (rn_catS rfl rfl hy4) rfl ?_; refine zy (zs y4) rfl rfl ?_; refine zN ?_; refine WC_ret ?_
   have H : some y4 = some r := H
   have H := oi H; subst H
   exact ⟨rfl, hS.below⟩
  ·have H := ifF hb1 H; refine zP ?_; refine zS ?_; refine zx (zi x0) rfl rfl ?_
   refine zV (rn_rem rfl rfl (by decide)) rfl ?_
   refine zV (rn_add rfl rfl) rfl ?_; refine zV (rn_conv Tryz.underlying3 Tryz.underlying5 rfl) rfl ?_
   refine zO rfl (zW (v := fun b => zl (some ⟨b, 0, none⟩) 1 1) (cs := [.int .u8 (IntKind.u8.wrap (IntKind.i64.wrap (48 + (x0.tmod 10))))]) (e := 5) (by kernel_rfl) hS.sat rfl (fun b5 G7 w6 hg hcb5 => ?_))
   have hS := hS.grow hg; have hO := hO.grow hg
   have leG7 := hg.le
   have hfb5 : RSl (RIntK .u8) 1 G7 (some ⟨b5, 0, none⟩) 1 1 [IntKind.u8.wrap (IntKind.i64.wrap (48 + (x0.tmod 10)))] := RSl.of_rd hcb5 (Rd.cons (c := [.int .u8 (IntKind.u8.wrap (IntKind.i64.wrap (48 + (x0.tmod 10))))]) rfl rfl (Rd.nil (RIntK .u8) 1 _)) rfl (by decide)
   refine zV (rn_convNS Tryz.underlying39 Tryz.underlying5 Tryz.underlying9 hS.sat rfl hfb5 (by simp)) rfl ?_
   refine zV (zA (v := (.string ⟨(strN [IntKind.u8.wrap (IntKind.i64.wrap (48 + (x0.tmod 10)))]).toArray⟩)) rfl) rfl ?_; refine zN ?_; refine zQ ?_; obtain ⟨q10, hq10, H⟩ := bnd H; refine zM (fun F w => ∃ (Fb : Fr) (G : Gm), F = upds Fb [(3, zs q10)] ∧ Gle G7 G ∧ Since w0.heap.size G0 w0 G w ∧ Owns G w w0.heap.size []) ?_ ?_
   ·refine WC_block (WC_loop hq10 (fun s8 F w => ∃ (Fb : Fr) (G : Gm), F = upds Fb [(0, zi s8.1), (3, .string ⟨s8.2.toArray⟩)] ∧ Gle G7 G ∧ Since w0.heap.size G0 w0 G w ∧ Owns G w w0.heap.size []) ?_ ?_)
    ·have hO : Owns _ _ _ ([]) := hO
     exact ⟨_, G7, upds_self _ _ ⟨rfl, rfl, trivial⟩, Gle.refl _, hS, hO⟩
    ·rintro s8 F w12 t11 ⟨Fb, G13, rfl, leG13, hS, hO⟩
     intro H1 hqq10
     have Hoq10 := H; have H := H1
     unfold f30_b0 at H
     refine zQ ?_; refine zS ?_; refine zx (zi s8.1) rfl rfl ?_; refine zV (rn_geq rfl rfl) rfl ?_; refine zN ?_; refine zT rfl (fun hb14 => ?_) (fun hb14 => ?_)
     ·have H := ifT hb14 H; refine zP ?_; refine WC_block ?_; refine zS ?_; refine zx (zi s8.1) rfl rfl ?_
      refine zV (rn_quo rfl rfl (by decide)) rfl ?_
      refine zy (zi (IntKind.i64.wrap (s8.1.tdiv 10))) rfl rfl ?_; refine zN ?_; refine zR ?_; refine zx (zi (IntKind.i64.wrap (s8.1.tdiv 10))) rfl rfl ?_
      refine zV (rn_rem rfl rfl (by decide)) rfl ?_
      refine zV (rn_add rfl rfl) rfl ?_; refine zV (rn_conv Tryz.underlying3 Tryz.underlying5 rfl) rfl ?_
      refine zO rfl (zW (v := fun b => zl (some ⟨b, 0, none⟩) 1 1) (cs := [.int .u8 (IntKind.u8.wrap (IntKind.i64.wrap (48 + ((IntKind.i64.wrap (s8.1.tdiv 10)).tmod 10))))]) (e := 5) (by kernel_rfl) hS.sat rfl (fun b15 G17 w16 hg hcb15 => ?_))
      have hS := hS.grow hg; have hO := hO.grow hg
      have leG17 := hg.le
      have hfb15 : RSl (RIntK .u8) 1 G17 (some ⟨b15, 0, none⟩) 1 1 [IntKind.u8.wrap (IntKind.i64.wrap (48 + ((IntKind.i64.wrap (s8.1.tdiv 10)).tmod 10)))] := RSl.of_rd hcb15 (Rd.cons (c := [.int .u8 (IntKind.u8.wrap (IntKind.i64.wrap (48 + ((IntKind.i64.wrap (s8.1.tdiv 10)).tmod 10))))]) rfl rfl (Rd.nil (RIntK .u8) 1 _)) rfl (by decide)
      refine zV (rn_convNS Tryz.underlying39 Tryz.underlying5 Tryz.underlying9 hS.sat rfl hfb15 (by simp)) rfl ?_
      refine zx (.string ⟨s8.2.toArray⟩) rfl rfl ?_; obtain ⟨y18, hy18, H⟩ := bnd H; refine zV (rn_catS rfl rfl hy18) rfl ?_; refine zy (zs y18) rfl rfl ?_; refine zN ?_
      have hO : Owns _ _ _ ([]) := hO
      have H := oi H; subst H; refine ⟨_, rfl, ?_⟩
      have l1_3 := leG13.trans leG17
      exact ⟨_, G17, upds_self _ _ ⟨rfl, rfl, trivial⟩, l1_3, hS, hO⟩
     ·have H := ifF hb14 H; refine WC_exit rfl ?_
      have hO : Owns _ _ _ ([]) := hO
      have H := oi H; subst H
      have hres := hqq10 _ rfl
      subst hres
      exact ⟨_, G13, upds_self _ _ ⟨rfl, trivial⟩, leG13, hS, hO⟩
   ·rintro F w19 ⟨Fb, G20, rfl, leG20, hS, hO⟩
    refine zS ?_; refine zx (zs q10) rfl rfl ?_; refine zy (zs q10) rfl rfl ?_; refine zN ?_; refine WC_ret ?_
    have H : some q10 = some r := H
    have H := oi H; subst H
    exact ⟨rfl, hS.below⟩
set_option maxHeartbeats 1000000 in
theorem f32_ok {G0 : Gm} {w0 : World} (hS0 : Sat G0 w0) {x0 : (List UInt8)}  {r : (List UInt8)} (H : f32 x0 = some r) :
  Calls Tryz.prog 32 #[zs x0] w0 (RetV w0 (zs r)) := by
 have hS := Since.start hS0
 have hO : Owns G0 w0 w0.heap.size [] := Owns.nil (Nat.le_refl _)
 unfold f32 at H
 refine enter1 (N := 44) (shutV _ _) Tryz.func32 rfl rfl rfl rfl ?_; refine zS ?_; refine zy (.string ⟨([] : List UInt8).toArray⟩) rfl rfl ?_; refine zN ?_; refine zS ?_; refine zy (zi 0) rfl rfl ?_; refine zy (zi 0) rfl rfl ?_; refine zN ?_; refine zQ ?_; refine zS ?_; refine zy (zi 0) rfl rfl ?_; refine zN ?_; obtain ⟨q3, hq3, H⟩ := bnd H; refine zM (fun F w => ∃ (Fb : Fr), F = upds Fb [(3, zi q3)] ∧ w0 = w) ?_ ?_
 ·refine WC_block (WC_loop hq3 (fun s1 F w => ∃ (Fb : Fr), F = upds Fb [(0, zs x0), (3, zi s1.1), (4, zi s1.2.1), (5, zi s1.2.2)] ∧ w0 = w) ?_ ?_)
  ·exact ⟨_, upds_self _ _ ⟨rfl, rfl, rfl, rfl, trivial⟩, rfl⟩
  ·rintro s1 F wl t4 ⟨Fb, rfl, rfl⟩
   intro H1 hqq3
   have Hoq3 := H; have H := H1
   unfold f32_b0 at H
   refine zQ ?_; refine zS ?_; refine zx (zi s1.2.2) rfl rfl ?_; refine zx (zs x0) rfl rfl ?_; refine zV (rn_lenS Tryz.underlying9 rfl rfl) rfl ?_; refine zV (rn_lss rfl rfl) rfl ?_; refine zN ?_; refine zT rfl (fun hb7 => ?_) (fun hb7 => ?_)
   ·have H := ifT hb7 H; refine zP ?_; refine zQ ?_; obtain ⟨q8, hq8, H⟩ := bnd H; refine zM (fun F w => ∃ (Fb : Fr), F = upds Fb [(0, zs x0), (3, zi q8.1), (4, zi q8.2), (5, zi s1.2.2)] ∧ w0 = w) ?_ ?_
    ·have Hoq8 := H; have H := hq8; refine WC_block ?_; refine zQ ?_; obtain ⟨q9, hq9, H⟩ := bnd H; refine zM (fun F w => ∃ (Fb : Fr), F = upds Fb [(0, zs x0), (3, zi s1.1), (4, zi s1.2.1), (5, zi s1.2.2), (21, .bool q9)] ∧ w0 = w) ?_ ?_
     ·have Hoq9 := H; have H := hq9; refine zR ?_; refine zx (zs x0) rfl rfl ?_; refine zx (zi s1.2.2) rfl rfl ?_; obtain ⟨y10, hy10, H⟩ := bnd H; refine zV (rn_idxS Tryz.underlying9 rfl rfl hy10) rfl ?_; refine zV (rn_geq rfl rfl) rfl ?_; refine zV (zm (v := (.bool (decide (48 ≤ (y10.toNat : Int))))) rfl) rfl ?_
      rcases bcases (decide (48 ≤ (y10.toNat : Int))) with hb11 | hb11
      ·have H := ifT hb11 H; refine zY rfl hb11 rfl rfl ?_; refine zx (zs x0) rfl rfl ?_; refine zY rfl hb11 rfl rfl ?_; refine zx (zi s1.2.2) rfl rfl ?_; refine zY rfl hb11 rfl rfl ?_; obtain ⟨y12, hy12, H⟩ := bnd H; refine zV (rn_idxS Tryz.underlying9 rfl rfl hy12) rfl ?_; refine zY rfl hb11 rfl rfl ?_; refine zV (rn_leq rfl rfl) rfl ?_; refine zV (rn_pickT (v := (.bool (decide ((y12.toNat : Int) ≤ 57)))) rfl hb11 rfl) rfl ?_; refine zN ?_; have H := oi H; subst H
       exact ⟨_, upds_self _ _ ⟨rfl, rfl, rfl, rfl, rfl, trivial⟩, rfl⟩
      ·have H := ifF hb11 H; refine zG rfl hb11 rfl rfl rfl ?_; refine zG rfl hb11 rfl rfl rfl ?_; refine zG rfl hb11 rfl rfl rfl ?_; refine zG rfl hb11 rfl rfl rfl ?_; refine zV (rn_pickF (v := (.bool false)) rfl hb11 rfl) rfl ?_; refine zN ?_; have H := oi H; subst H
       exact ⟨_, upds_self _ _ ⟨rfl, rfl, rfl, rfl, rfl, trivial⟩, rfl⟩
     ·rintro F wl ⟨Fb, rfl, rfl⟩
      refine zT rfl (fun hb15 => ?_) (fun hb15 => ?_)
      ·have H := ifT hb15 H; refine zS ?_; refine zx (zi s1.1) rfl rfl ?_; refine zx (zs x0) rfl rfl ?_; refine zx (zi s1.2.2) rfl rfl ?_; obtain ⟨y16, hy16, H⟩ := bnd H; refine zV (rn_idxS Tryz.underlying9 rfl rfl hy16) rfl ?_; refine zV (rn_sub rfl rfl) rfl ?_; refine zV (rn_conv Tryz.underlying5 Tryz.underlying3 rfl) rfl ?_; refine zx (zi s1.2.1) rfl rfl ?_
       refine zV (rn_rem rfl rfl (by decide)) rfl ?_
       refine zV (rn_add rfl rfl) rfl ?_; refine zV (rn_mul rfl rfl) rfl ?_; refine zV (rn_add rfl rfl) rfl ?_; refine zV (zA (v := (zi (IntKind.i64.wrap (s1.1 + (IntKind.i64.wrap ((IntKind.i64.wrap (IntKind.u8.wrap ((y16.toNat : Int) - 48))) * (IntKind.i64.wrap ((s1.2.1.tmod 9) + 1)))))))) rfl) rfl ?_; refine zN ?_; refine zR ?_; refine zx (zi s1.2.1) rfl rfl ?_; refine zV (rn_add rfl rfl) rfl ?_; refine zy (zi (IntKind.i64.wrap (s1.2.1 + 1))) rfl rfl ?_; refine zN ?_; have H := oi H; subst H
       exact ⟨_, upds_self _ _ ⟨rfl, rfl, rfl, rfl, trivial⟩, rfl⟩
      ·have H := ifF hb15 H; refine zP ?_; have H := oi H; subst H
       exact ⟨_, upds_self _ _ ⟨rfl, rfl, rfl, rfl, trivial⟩, rfl⟩
    ·rintro F wl ⟨Fb, rfl, rfl⟩
     refine zR ?_; refine zx (zi s1.2.2) rfl rfl ?_; refine zV (rn_add rfl rfl) rfl ?_; refine zy (zi (IntKind.i64.wrap (s1.2.2 + 1))) rfl rfl ?_; refine zN ?_; have H := oi H; subst H; refine ⟨_, rfl, ?_⟩
     exact ⟨_, upds_self _ _ ⟨rfl, rfl, rfl, rfl, trivial⟩, rfl⟩
   ·have H := ifF hb7 H; refine WC_exit rfl ?_; have H := oi H; subst H
    have hres := hqq3 _ rfl
    subst hres
    exact ⟨_, upds_self _ _ ⟨rfl, trivial⟩, rfl⟩
 ·rintro F wl ⟨Fb, rfl, rfl⟩
  refine zS ?_; refine zx (zi q3) rfl rfl ?_
  refine zV (rn_rem rfl rfl (by decide)) rfl ?_
  refine zV (rn_quo rfl rfl (by decide)) rfl ?_
  obtain ⟨y21, hy21, H⟩ := bnd H; refine zO rfl (zC cb30 (f30_ok _ (x0 := IntKind.i64.wrap ((q3.tmod 97).tdiv 10)) hS.sat  hy21) rfl rfl (fun w22 hb => ?_)); have hS := hS.keep hb; have hO := hO.below hb; refine zx (zi q3) rfl rfl ?_
  refine zV (rn_rem rfl rfl (by decide)) rfl ?_
  refine zV (rn_rem rfl rfl (by decide)) rfl ?_
  obtain ⟨y23, hy23, H⟩ := bnd H; refine zO rfl (zC cb30 (f30_ok _ (x0 := (q3.tmod 97).tmod 10) hS.sat  hy23) rfl rfl (fun w24 hb => ?_)); have hS := hS.keep hb; have hO := hO.below hb; obtain ⟨y25, hy25, H⟩ := bnd H; refine zV (rn_catS rfl rfl hy25) rfl ?_; refine zy (zs y25) rfl rfl ?_; refine zN ?_; refine WC_ret ?_
  have H : some y25 = some r := H
  have H := oi H; subst H
  exact ⟨rfl, hS.below⟩
end Go.Proofs.YtcaflmilfhhikaaGreatDoor
