/-
  The walks: each Go function computes its plain function (printed by a program of ours).
-/
import Derived.Test.YtoklmemeanmfdaaGreatRd
import Derived.Test.YtoklmemeanmfdaaGreatBsC
import Derived.Test.YtoklmemeanmfdaaGreatLib
import Derived.Test.YtoklmemeanmfdaaGreatKnF
import Derived.Test.YtoklmemeanmfdaaGreatP3W2
namespace Go.Proofs.YtoklmemeanmfdaaGreat
open Go.RowKit
set_option linter.unusedVariables false

set_option maxRecDepth 20000
set_option linter.unusedVariables false
set_option maxHeartbeats 1000000 in
theorem f12_ok {G0 : Gm} {w0 : World} (hS0 : Sat G0 w0) {x0 : TLandBook} {a1 : Option Addr} {n1 c1 : Nat} {a2 : Option Addr} {n2 c2 : Nat} {a3 : Option Addr} {n3 c3 : Nat} {x1 : Int} (h1 : RSl RTLandPerson 2 G0 a1 n1 c1 x0.People) (h2 : RSl RTLandEvent 2 G0 a2 n2 c2 x0.Events) (h3 : RSl RTLandMemory 4 G0 a3 n3 c3 x0.Memories) {r : (List Int) × Int × Int} (H : f12 x0 x1 = some r) :
  Calls Tryz.prog 12 #[.agg #[.slice a1 n1 c1, .slice a2 n2 c2, .slice a3 n3 c3], .int .i64 x1] w0 (RetG G0 w0 (fun G v => ∃ (ra0 : Option Addr) (rn0 rc0 : Nat), v = .tuple #[.slice ra0 rn0 rc0, .int .i64 r.2.1, .int .i64 r.2.2] ∧ RSl RInt 1 G ra0 rn0 rc0 r.1)) := by
 have hS := Since.start hS0
 have hO : Owns G0 w0 w0.heap.size [] := Owns.nil (Nat.le_refl _)
 unfold f12 at H
 refine enter3 (N := 105) (shutG _ _ _) Tryz.func12 rfl rfl rfl rfl ?_; refine WC_seq ?_; refine WC_region ?_; refine WL_op rfl (OpP_newF (v := fun b => .pointer (some ⟨b, 0, none⟩)) (cs := [.slice a1 n1 c1, .slice a2 n2 c2, .slice a3 n3 c3]) (e := 43) (rn_boxA rfl) hS.sat rfl (fun b4 G6 w5 hg hcb4 => ?_)); have hS := hS.grow hg; have hO := hO.grow hg
 have leG6 := hg.le
 refine WL_val (rn_assign (v := (.slice none 0 0)) rfl) rfl ?_; refine WL_val (rn_assign (v := (.int .i64 0)) rfl) rfl ?_; refine WL_val (rn_assign (v := (.int .i64 0)) rfl) rfl ?_; refine WL_nil ?_; refine WC_seq ?_; have hS := hS.keep (below_drew _); have hO := hO.below (below_drew _)
 refine WC_regionD mixedO (fun _ w => Sat G6 w ∧ True) (.fl 0 (.fl 1 (.two 2 (.two 3 (.fl 4 (.fl 5 (.fl 6 (.on 7 (.on 8 (.on 9 .nil)))))) 7 (.on 3 (.on 4 (.fl 5 (.fl 6 (.on 8 (.on 9 .nil))))))) 7 (.on 2 (.on 3 (.on 4 (.fl 5 (.fl 6 (.on 8 (.on 9 .nil)))))))))) (by kernel_rfl) rfl (by kernel_rfl) (fun _ => ⟨hS.sat, trivial⟩) ?_
 refine WD_val rfl (fun w hw => rn_loadA ag43 (cs := [.slice a1 n1 c1, .slice a2 n2 c2, .slice a3 n3 c3]) rfl rfl (fun j v hj => hw.1.cell (hcb4.drop_take 0 3 j v hj))) rfl ?_; refine WD_val rfl (fun w hw => rn_move (v := (.int .i64 x1)) rfl) rfl ?_; refine WD_two ?_ ?_
 ·obtain ⟨y7, hy7, H⟩ := bnd H; refine WD_op rfl rfl (OpP_callV cb36 (f36_ok (x0 := x1) (x1 := 0) (x2 := 5) hS.sat  hy7) rfl rfl (fun w8 hb => ?_)); have hS := hS.keep hb; have hO := hO.below hb; refine ⟨fun _ _ => ⟨hS.sat, trivial⟩, ?_⟩; refine WD_two ?_ ?_
  ·obtain ⟨y9, hy9, H⟩ := bnd H; refine WD_op rfl rfl (OpP_callV cb39 (f39_ok (x0 := x0) (x1 := y7) hS.sat (h1.mono RTLandPerson_mono leG6) (h2.mono RTLandEvent_mono leG6) (h3.mono RTLandMemory_mono leG6) hy9) rfl rfl (fun w10 hb => ?_)); have hS := hS.keep hb; have hO := hO.below hb; refine ⟨fun _ _ => ⟨hS.sat, trivial⟩, ?_⟩; refine WD_val rfl (fun w hw => rn_move (v := (.tuple #[.agg (cellsT y9.1).toArray, .int .i64 y9.2])) rfl) rfl ?_; refine WD_val rfl (fun w hw => rn_extract (v := (.agg (cellsT y9.1).toArray)) rfl rfl) rfl ?_; refine WD_val rfl (fun w hw => rn_extract (v := (.int .i64 y9.2)) rfl rfl) rfl ?_
   refine WD_op rfl rfl (OpP_newO (v := fun b => .pointer (some ⟨b, 0, none⟩)) (cs := (cellsT (Tb.zero 64))) (e := 99) (by kernel_rfl) hS.sat hO rfl 64 1 (cellsT_len _) (by decide) (fun b11 w12 hb hO => ?_))
   have hS := hS.keep hb; refine ⟨fun _ _ => ⟨hS.sat, trivial⟩, ?_⟩; refine WD_op rfl rfl (OpP_storeTT sz99 hS hO (k := 0) rfl rfl rfl (fun w14 hS hO => ?_))
   have hO : Owns G6 w14 w0.heap.size ([⟨99, 64, 1, .slice (some ⟨b11, 0, none⟩) 1 1, cellsT y9.1⟩]) := hO
   refine ⟨fun _ _ => ⟨hS.sat, trivial⟩, ?_⟩; refine WD_op rfl rfl (OpP_val (rn_assign (v := (.int .i64 y9.2)) rfl) rfl ?_)
   refine ⟨fun _ h => noneed (by kernel_rfl) h, ?_⟩
   refine WD_nil ?_; refine WC_seq ?_; refine WC_seq ?_; refine WC_region ?_; refine WL_val (rn_move (v := (.int .i64 y9.2)) rfl) rfl ?_; refine WL_val (rn_neq rfl rfl) rfl ?_; refine WL_nil ?_; refine WC_cond rfl (fun hb15 => ?_) (fun hb15 => ?_)
   ·have H := ifT hb15 H; refine WC_seq ?_; refine WC_region ?_; refine WL_val (rn_move (v := (.int .i64 y9.2)) rfl) rfl ?_; refine WL_val (rn_assign (v := (.slice none 0 0)) rfl) rfl ?_; refine WL_val (rn_assign (v := (.int .i64 0)) rfl) rfl ?_; refine WL_val (rn_assign (v := (.int .i64 y9.2)) rfl) rfl ?_; refine WL_nil ?_; refine WC_ret ?_
    have H : some ([], 0, y9.2) = some r := H
    have H := Option.some.inj H; subst H
    exact ⟨_, _, rfl, hS.toGrow, _, _, _, rfl, (RSl.nil RInt 1 G6 none)⟩
   ·have H := ifF hb15 H; refine WC_skip ?_; refine WC_seq ?_; refine WC_region ?_; refine WL_val (rn_assign (v := (.slice none 0 0)) rfl) rfl ?_; refine WL_nil ?_; refine WC_seq ?_; refine WC_seq ?_; refine WC_region ?_; refine WL_val (rn_fld fd43_1 rfl) rfl ?_; refine WL_val (rn_load na40 rfl (hS.sat.cell (hcb4 1 _ rfl))) rfl ?_; refine WL_val (rn_len sl40 rfl rfl (h2.mono RTLandEvent_mono leG6).1) rfl ?_; refine WL_val (rn_move (v := (.int .i64 0)) rfl) rfl ?_; refine WL_nil ?_; have hO := hO.cons_nil 3 1; obtain ⟨q19, hq19, H⟩ := bnd H; refine WC_cut (fun F w => ∃ (p18 : (List Int) × (Tb 64)) (Fb : Fr) (G : Gm) (ap18_0 : Option Addr) (np18_0 cp18_0 : Nat) (clap18_0 : List Value), q19 = .inl p18 ∧ F = upds Fb [(2, .pointer (some ⟨b4, 0, none⟩)), (9, .slice ap18_0 np18_0 cp18_0)] ∧ Gle G6 G ∧ Since w0.heap.size G0 w0 G w ∧ Owns G w w0.heap.size [⟨3, 1, np18_0, .slice ap18_0 np18_0 cp18_0, clap18_0⟩, ⟨99, 64, 1, .slice (some ⟨b11, 0, none⟩) 1 1, cellsT p18.2⟩] ∧ np18_0 = p18.1.length ∧ Rd RInt 1 G clap18_0 p18.1) ?_ ?_
    ·refine WC_block (WC_loop hq19 (fun s17 F w => ∃ (Fb : Fr) (G : Gm) (as17_0 : Option Addr) (ns17_0 cs17_0 : Nat) (clas17_0 : List Value), F = upds Fb [(1, .int .i64 x1), (2, .pointer (some ⟨b4, 0, none⟩)), (7, .pointer (some ⟨b11, 0, none⟩)), (9, .slice as17_0 ns17_0 cs17_0), (28, .slice a2 n2 c2), (29, .int .i64 (x0.Events.length : Int)), (30, .int .i64 s17.2.1)] ∧ Gle G6 G ∧ Since w0.heap.size G0 w0 G w ∧ Owns G w w0.heap.size [⟨3, 1, ns17_0, .slice as17_0 ns17_0 cs17_0, clas17_0⟩, ⟨99, 64, 1, .slice (some ⟨b11, 0, none⟩) 1 1, cellsT s17.2.2⟩] ∧ ns17_0 = s17.1.length ∧ Rd RInt 1 G clas17_0 s17.1) ?_ ?_)
     ·have hO : Owns G6 w14 w0.heap.size ([⟨3, 1, 0, .slice none 0 0, []⟩, ⟨99, 64, 1, .slice (some ⟨b11, 0, none⟩) 1 1, cellsT y9.1⟩]) := hO
      exact ⟨_, G6, none, 0, 0, [], upds_self _ _ ⟨rfl, rfl, rfl, rfl, rfl, rfl, rfl, trivial⟩, Gle.refl _, hS, hO, rfl, (Rd.nil RInt 1 G6)⟩
     ·rintro s17 F w21 t20 ⟨Fb, G22, as17_0, ns17_0, cs17_0, clas17_0, rfl, leG22, hS, hO, hnhs17_0, hs17_0⟩
      intro H1 hqq19
      have Hoq19 := H; have H := H1
      unfold f12_b0 at H
      refine WC_seq ?_; refine WC_region ?_; refine WL_val (rn_lss rfl rfl) rfl ?_; refine WL_nil ?_; refine WC_seq ?_; refine WC_cond rfl (fun hb23 => ?_) (fun hb23 => ?_)
      ·have H := ifT hb23 H; refine WC_skip ?_; refine WC_seq ?_; obtain ⟨q24, hq24, H⟩ := bnd H; refine WC_cut (fun F w => ∃ (p25 : (List Int) × (Tb 64)) (Fb : Fr) (G : Gm) (ap25_0 : Option Addr) (np25_0 cp25_0 : Nat) (clap25_0 : List Value), q24 = .inl p25 ∧ F = upds Fb [(1, .int .i64 x1), (2, .pointer (some ⟨b4, 0, none⟩)), (7, .pointer (some ⟨b11, 0, none⟩)), (9, .slice ap25_0 np25_0 cp25_0), (28, .slice a2 n2 c2), (29, .int .i64 (x0.Events.length : Int)), (30, .int .i64 s17.2.1)] ∧ Gle G22 G ∧ Since w0.heap.size G0 w0 G w ∧ Owns G w w0.heap.size [⟨3, 1, np25_0, .slice ap25_0 np25_0 cp25_0, clap25_0⟩, ⟨99, 64, 1, .slice (some ⟨b11, 0, none⟩) 1 1, cellsT p25.2⟩] ∧ np25_0 = p25.1.length ∧ Rd RInt 1 G clap25_0 p25.1) ?_ ?_
       ·have Hoq24 := H; have H := hq24; refine WC_block ?_; refine WC_seq ?_; refine WC_region ?_; refine WL_val (rn_move (v := (.int .i64 s17.2.1)) rfl) rfl ?_; obtain ⟨y26, hy26, H⟩ := bnd H
        have l0_2 := leG6.trans leG22
        refine WL_idx sl40 (h2.mono RTLandEvent_mono l0_2) hy26 rfl rfl rfl ?_
        rintro b27 o27 _ hcb27 _ ⟨⟩
        refine WL_val (rn_loadA ag45 (cs := [.int .i64 y26.Strip, .int .i64 y26.Holder]) rfl rfl (fun j v hj => hS.sat.cell (hcb27.drop_take 0 2 j v hj))) rfl ?_
        refine WL_op rfl (OpP_newO (v := fun b => .pointer (some ⟨b, 0, none⟩)) (cs := [.int .i64 0, .int .i64 0]) (e := 45) (by kernel_rfl) hS.sat hO rfl 2 1 rfl (by decide) (fun b28 w29 hb hO => ?_))
        have hS := hS.keep hb; refine WL_val (rn_assign (v := (.int .i64 s17.2.1)) rfl) rfl ?_; refine WL_op rfl (OpP_store (vs := [.int .i64 y26.Strip, .int .i64 y26.Holder]) sz45 hS hO (k := 0) rfl rfl rfl rfl rfl (one_all rfl) (Nat.le_of_ble_eq_true rfl) (fun w31 hS hO => ?_))
        have hO : Owns G22 w31 w0.heap.size ([⟨45, 2, 1, .slice (some ⟨b28, 0, none⟩) 1 1, [.int .i64 y26.Strip, .int .i64 y26.Holder]⟩, ⟨3, 1, ns17_0, .slice as17_0 ns17_0 cs17_0, clas17_0⟩, ⟨99, 64, 1, .slice (some ⟨b11, 0, none⟩) 1 1, cellsT s17.2.2⟩]) := hO
        obtain ⟨G32, leG32, hS, hO, hqG32, _⟩ := hO.freeze hS (k := 0) rfl
        have hcG32 : Cells G32 b28 0 [.int .i64 y26.Strip, .int .i64 y26.Holder] := (hqG32 _ _ _ _ rfl)
        refine WL_nil ?_; refine WC_seq ?_; refine WC_seq ?_; refine WC_region ?_; refine WL_val (rn_fld fd45_0 rfl) rfl ?_; refine WL_val (rn_load na3 rfl (hS.sat.cell (hcG32 0 _ rfl))) rfl ?_; refine WL_val (rn_move (v := (.int .i64 x1)) rfl) rfl ?_; refine WL_val (rn_neq rfl rfl) rfl ?_; refine WL_nil ?_; refine WC_cond rfl (fun hb33 => ?_) (fun hb33 => ?_)
        ·have H := ifT hb33 H; refine WC_exit rfl ?_
         have hO : Owns G32 w31 w0.heap.size ([⟨3, 1, ns17_0, .slice as17_0 ns17_0 cs17_0, clas17_0⟩, ⟨99, 64, 1, .slice (some ⟨b11, 0, none⟩) 1 1, cellsT s17.2.2⟩]) := hO
         have H := Option.some.inj H; subst H
         exact ⟨_, _, G32, as17_0, ns17_0, cs17_0, clas17_0, rfl, upds_self _ _ ⟨rfl, rfl, rfl, rfl, rfl, rfl, rfl, trivial⟩, leG32, hS, hO, hnhs17_0, (hs17_0.mono RInt_mono leG32)⟩
        ·have H := ifF hb33 H; refine WC_skip ?_; refine WC_seq ?_; refine WC_region ?_; refine WL_val (rn_move (v := (.slice as17_0 ns17_0 cs17_0)) rfl) rfl ?_; refine WL_val (rn_len (m := s17.1.length) sl22 rfl rfl hnhs17_0) rfl ?_; refine WL_val (rn_assign (v := (.int .i64 (s17.1.length : Int))) rfl) rfl ?_; refine WL_nil ?_; refine WC_seq ?_; refine WC_seq ?_; refine WC_region ?_; refine WL_val (rn_move (v := (.slice as17_0 ns17_0 cs17_0)) rfl) rfl ?_; refine WL_val (rn_len (m := s17.1.length) sl22 rfl rfl hnhs17_0) rfl ?_; refine WL_val (rn_move (v := (.int .i64 0)) rfl) rfl ?_; refine WL_nil ?_; obtain ⟨q36, hq36, H⟩ := bnd H; refine WC_cut (fun F w => ∃ (p35 : Int × (Tb 64)) (Fb : Fr) (G : Gm), q36 = .inl p35 ∧ F = upds Fb [(1, .int .i64 x1), (2, .pointer (some ⟨b4, 0, none⟩)), (7, .pointer (some ⟨b11, 0, none⟩)), (9, .slice as17_0 ns17_0 cs17_0), (10, .int .i64 s17.2.1), (12, .int .i64 p35.1), (28, .slice a2 n2 c2), (29, .int .i64 (x0.Events.length : Int)), (30, .int .i64 s17.2.1)] ∧ Gle G32 G ∧ Since w0.heap.size G0 w0 G w ∧ Owns G w w0.heap.size [⟨3, 1, ns17_0, .slice as17_0 ns17_0 cs17_0, clas17_0⟩, ⟨99, 64, 1, .slice (some ⟨b11, 0, none⟩) 1 1, cellsT p35.2⟩]) ?_ ?_
         ·refine WC_block (WC_loop hq36 (fun s34 F w => ∃ (Fb : Fr) (G : Gm), F = upds Fb [(1, .int .i64 x1), (2, .pointer (some ⟨b4, 0, none⟩)), (7, .pointer (some ⟨b11, 0, none⟩)), (9, .slice as17_0 ns17_0 cs17_0), (10, .int .i64 s17.2.1), (12, .int .i64 s34.1), (28, .slice a2 n2 c2), (29, .int .i64 (x0.Events.length : Int)), (30, .int .i64 s17.2.1), (41, .slice as17_0 ns17_0 cs17_0), (42, .int .i64 (s17.1.length : Int)), (43, .int .i64 s34.2.1)] ∧ Gle G32 G ∧ Since w0.heap.size G0 w0 G w ∧ Owns G w w0.heap.size [⟨3, 1, ns17_0, .slice as17_0 ns17_0 cs17_0, clas17_0⟩, ⟨99, 64, 1, .slice (some ⟨b11, 0, none⟩) 1 1, cellsT s34.2.2⟩]) ?_ ?_)
          ·have hO : Owns G32 w31 w0.heap.size ([⟨3, 1, ns17_0, .slice as17_0 ns17_0 cs17_0, clas17_0⟩, ⟨99, 64, 1, .slice (some ⟨b11, 0, none⟩) 1 1, cellsT s17.2.2⟩]) := hO
           exact ⟨_, G32, upds_self _ _ ⟨rfl, rfl, rfl, rfl, rfl, rfl, rfl, rfl, rfl, rfl, rfl, rfl, trivial⟩, Gle.refl _, hS, hO⟩
          ·rintro s34 F w38 t37 ⟨Fb, G39, rfl, leG39, hS, hO⟩
           intro H1 hqq36
           have Hoq36 := H; have H := H1
           unfold f12_b1 at H
           refine WC_seq ?_; refine WC_region ?_; refine WL_val (rn_lss rfl rfl) rfl ?_; refine WL_nil ?_; refine WC_seq ?_; refine WC_cond rfl (fun hb40 => ?_) (fun hb40 => ?_)
           ·have H := ifT hb40 H; refine WC_skip ?_; refine WC_seq ?_; obtain ⟨q41, hq41, H⟩ := bnd H; refine WC_cut (fun F w => ∃ (p42 : Int) (Fb : Fr) (G : Gm), q41 = .inl p42 ∧ F = upds Fb [(1, .int .i64 x1), (2, .pointer (some ⟨b4, 0, none⟩)), (7, .pointer (some ⟨b11, 0, none⟩)), (9, .slice as17_0 ns17_0 cs17_0), (10, .int .i64 s17.2.1), (12, .int .i64 p42), (28, .slice a2 n2 c2), (29, .int .i64 (x0.Events.length : Int)), (30, .int .i64 s17.2.1), (41, .slice as17_0 ns17_0 cs17_0), (42, .int .i64 (s17.1.length : Int)), (43, .int .i64 s34.2.1)] ∧ Gle G39 G ∧ Since w0.heap.size G0 w0 G w ∧ Owns G w w0.heap.size [⟨3, 1, ns17_0, .slice as17_0 ns17_0 cs17_0, clas17_0⟩, ⟨99, 64, 1, .slice (some ⟨b11, 0, none⟩) 1 1, cellsT s34.2.2⟩]) ?_ ?_
            ·have Hoq41 := H; have H := hq41; refine WC_block ?_; refine WC_seq ?_; refine WC_region ?_; refine WL_val (rn_move (v := (.int .i64 s34.2.1)) rfl) rfl ?_; obtain ⟨y43, hy43, H⟩ := bnd H
             have l2_4 := leG32.trans leG39
             refine WL_idxO sl22 hO (k := 0) rfl hnhs17_0 (hs17_0.mono RInt_mono l2_4) hy43 rfl rfl rfl ?_
             rintro b44 ob44 _ hb44 _ hcb44 ⟨⟩
             refine WL_val (rn_load na3 rfl (own_cellB hO (k := 0) rfl hb44 _ 0 (hcb44 0 _ rfl))) rfl ?_; refine WL_val (rn_assign (v := (.int .i64 s34.2.1)) rfl) rfl ?_; refine WL_val (rn_assign (v := (.int .i64 y43)) rfl) rfl ?_; refine WL_nil ?_; refine WC_block ?_; refine WC_seq ?_; refine WC_region ?_; refine WL_val (rn_loadT ag99 hO (k := 1) rfl rfl) rfl ?_; refine WL_val (rn_move (v := (.int .i64 s17.2.1)) rfl) rfl ?_; refine WL_val (rn_move (v := (.int .i64 y43)) rfl) rfl ?_; obtain ⟨y45, hy45, H⟩ := bnd H; refine WL_op rfl (OpP_callV cb40 (f40_ok (x0 := s34.2.2) (x1 := s17.2.1) (x2 := y43) hS.sat  hy45) rfl rfl (fun w46 hb => ?_)); have hS := hS.keep hb; have hO := hO.below hb
             refine WL_val (v := (.int .i64 y45.Low)) (by kernel_rfl) rfl ?_
             refine WL_val (rn_gtr rfl rfl) rfl ?_; refine WL_val (rn_assign (v := (.bool (decide (0 < y45.Low)))) rfl) rfl ?_; refine WL_nil ?_; refine WC_cond rfl (fun hb47 => ?_) (fun hb47 => ?_)
             ·have H := ifT hb47 H; refine WC_region ?_; refine WL_val (rn_move (v := (.int .i64 s34.1)) rfl) rfl ?_; refine WL_val (rn_move (v := (.int .i64 s34.2.1)) rfl) rfl ?_; refine WL_val (rn_min rfl rfl) rfl ?_; refine WL_val (rn_assign (v := (.int .i64 (if s34.2.1 < s34.1 then s34.2.1 else s34.1))) rfl) rfl ?_; refine WL_nil ?_
              have hO : Owns G39 w46 w0.heap.size ([⟨3, 1, ns17_0, .slice as17_0 ns17_0 cs17_0, clas17_0⟩, ⟨99, 64, 1, .slice (some ⟨b11, 0, none⟩) 1 1, cellsT s34.2.2⟩]) := hO
              have H := Option.some.inj H; subst H
              exact ⟨_, _, G39, rfl, upds_self _ _ ⟨rfl, rfl, rfl, rfl, rfl, rfl, rfl, rfl, rfl, rfl, rfl, rfl, trivial⟩, Gle.refl _, hS, hO⟩
             ·have H := ifF hb47 H; refine WC_seq ?_; refine WC_region ?_; refine WL_val (rn_loadT ag99 hO (k := 1) rfl rfl) rfl ?_; refine WL_val (rn_move (v := (.int .i64 y43)) rfl) rfl ?_; refine WL_val (rn_move (v := (.int .i64 s17.2.1)) rfl) rfl ?_; obtain ⟨y48, hy48, H⟩ := bnd H; refine WL_op rfl (OpP_callV cb40 (f40_ok (x0 := s34.2.2) (x1 := y43) (x2 := s17.2.1) hS.sat  hy48) rfl rfl (fun w49 hb => ?_)); have hS := hS.keep hb; have hO := hO.below hb
              refine WL_val (v := (.int .i64 y48.Low)) (by kernel_rfl) rfl ?_
              refine WL_val (rn_leq rfl rfl) rfl ?_; refine WL_val (rn_assign (v := (.bool (decide (y48.Low ≤ 0)))) rfl) rfl ?_; refine WL_nil ?_; refine WC_cond rfl (fun hb50 => ?_) (fun hb50 => ?_)
              ·have H := ifT hb50 H; refine WC_seq ?_; refine WC_region ?_; refine WL_val (rn_assign (v := (.slice none 0 0)) rfl) rfl ?_; refine WL_val (rn_assign (v := (.int .i64 0)) rfl) rfl ?_; refine WL_val (rn_assign (v := (.int .i64 8)) rfl) rfl ?_; refine WL_nil ?_; refine WC_ret ?_; have H := Option.some.inj H; subst H; have H := Hoq41; have H := Option.some.inj H; subst H
               have hres := hqq36 _ rfl
               subst hres; have H := Hoq36; have H := Option.some.inj H; subst H; have H := Hoq24; have H := Option.some.inj H; subst H
               have hres := hqq19 _ rfl
               subst hres; have H := Hoq19
               have H : some ([], 0, 8) = some r := H
               have H := Option.some.inj H; subst H
               exact ⟨_, _, rfl, hS.toGrow, _, _, _, rfl, (RSl.nil RInt 1 G39 none)⟩
              ·have H := ifF hb50 H; refine WC_skip ?_
               have hO : Owns G39 w49 w0.heap.size ([⟨3, 1, ns17_0, .slice as17_0 ns17_0 cs17_0, clas17_0⟩, ⟨99, 64, 1, .slice (some ⟨b11, 0, none⟩) 1 1, cellsT s34.2.2⟩]) := hO
               have H := Option.some.inj H; subst H
               exact ⟨_, _, G39, rfl, upds_self _ _ ⟨rfl, rfl, rfl, rfl, rfl, rfl, rfl, rfl, rfl, rfl, rfl, rfl, trivial⟩, Gle.refl _, hS, hO⟩
            ·rintro F w51 ⟨p42, Fb, G52, rfl, rfl, leG52, hS, hO⟩
             refine WC_region ?_; refine WL_val (rn_add rfl rfl) rfl ?_; refine WL_val (rn_move (v := (.int .i64 (IntKind.i64.wrap (s34.2.1 + 1)))) rfl) rfl ?_; refine WL_nil ?_
             have hO : Owns G52 w51 w0.heap.size ([⟨3, 1, ns17_0, .slice as17_0 ns17_0 cs17_0, clas17_0⟩, ⟨99, 64, 1, .slice (some ⟨b11, 0, none⟩) 1 1, cellsT s34.2.2⟩]) := hO
             have H := Option.some.inj H; subst H; refine ⟨_, rfl, ?_⟩
             have l3_5 := leG39.trans leG52
             exact ⟨_, G52, upds_self _ _ ⟨rfl, rfl, rfl, rfl, rfl, rfl, rfl, rfl, rfl, rfl, rfl, rfl, trivial⟩, l3_5, hS, hO⟩
           ·have H := ifF hb40 H; refine WC_exit rfl ?_
            have hO : Owns G39 w38 w0.heap.size ([⟨3, 1, ns17_0, .slice as17_0 ns17_0 cs17_0, clas17_0⟩, ⟨99, 64, 1, .slice (some ⟨b11, 0, none⟩) 1 1, cellsT s34.2.2⟩]) := hO
            have H := Option.some.inj H; subst H
            have hres := hqq36 _ rfl
            subst hres
            exact ⟨_, _, G39, rfl, upds_self _ _ ⟨rfl, rfl, rfl, rfl, rfl, rfl, rfl, rfl, rfl, trivial⟩, leG39, hS, hO⟩
         ·rintro F w54 ⟨p35, Fb, G55, rfl, rfl, leG55, hS, hO⟩
          refine WC_region ?_; refine WL_val (rn_move (v := (.slice as17_0 ns17_0 cs17_0)) rfl) rfl ?_; refine WL_val (rn_move (v := (.int .i64 p35.1)) rfl) rfl ?_; refine WL_val (rn_move (v := (.int .i64 s17.2.1)) rfl) rfl ?_
          refine WL_op rfl (OpP_newO (v := fun b => .slice (some ⟨b, 0, none⟩) 1 1) (cs := [.int .i64 s17.2.1]) (e := 3) (by kernel_rfl) hS.sat hO rfl 1 1 rfl (by decide) (fun b56 w57 hb hO => ?_))
          have hS := hS.keep hb
          have hrb56 : Rd RInt 1 G55 [.int .i64 s17.2.1] [s17.2.1] := (Rd.cons (c := [.int .i64 s17.2.1]) rfl rfl (Rd.nil RInt 1 _))
          have hO := hO.front (k := 0) rfl; have hO := hO.front (k := 1) rfl
          have hO : Owns G55 w57 w0.heap.size ([⟨3, 1, ns17_0, .slice as17_0 ns17_0 cs17_0, clas17_0⟩, ⟨3, 1, 1, .slice (some ⟨b56, 0, none⟩) 1 1, [.int .i64 s17.2.1]⟩, ⟨99, 64, 1, .slice (some ⟨b11, 0, none⟩) 1 1, cellsT p35.2⟩]) := hO
          obtain ⟨y59, hy59, H⟩ := bnd H
          have l2_4 := leG32.trans leG55
          refine WL_op rfl (OpP_lent (fi := []) (al := [.slice as17_0 ns17_0 cs17_0, .int .i64 p35.1, .slice (some ⟨b56, 0, none⟩) 1 1]) (ca := []) cb41 (f41_ok (i := p35.1) (x := s17.2.1) hS hO hnhs17_0 (hs17_0.mono RInt_mono l2_4) hy59) rfl rfl rfl (fun vG61 G61 w60 L62 leG61 hS hO hvG61 => ?_)); obtain ⟨aw60, cw60, clw60, rfl, rfl, hrw60⟩ := hvG61
          have hO : Owns G61 w60 w0.heap.size ([⟨3, 1, y59.length, .slice aw60 y59.length cw60, clw60⟩, ⟨3, 1, 1, .slice (some ⟨b56, 0, none⟩) 1 1, [.int .i64 s17.2.1]⟩, ⟨99, 64, 1, .slice (some ⟨b11, 0, none⟩) 1 1, cellsT p35.2⟩]) := hO
          have hO := hO.drop 1
          have hO : Owns G61 w60 w0.heap.size ([⟨3, 1, y59.length, .slice aw60 y59.length cw60, clw60⟩, ⟨99, 64, 1, .slice (some ⟨b11, 0, none⟩) 1 1, cellsT p35.2⟩]) := hO
          refine WL_val (rn_assign (v := (.slice aw60 y59.length cw60)) rfl) rfl ?_; refine WL_nil ?_
          have hO : Owns G61 w60 w0.heap.size ([⟨3, 1, y59.length, .slice aw60 y59.length cw60, clw60⟩, ⟨99, 64, 1, .slice (some ⟨b11, 0, none⟩) 1 1, cellsT p35.2⟩]) := hO
          have H := Option.some.inj H; subst H
          have l2_5 := l2_4.trans leG61
          exact ⟨_, _, G61, aw60, y59.length, cw60, clw60, rfl, upds_self _ _ ⟨rfl, rfl, rfl, rfl, rfl, rfl, rfl, trivial⟩, l2_5, hS, hO, rfl, hrw60⟩
       ·rintro F w64 ⟨p25, Fb, G65, ap25_0, np25_0, cp25_0, clap25_0, rfl, rfl, leG65, hS, hO, hnhp25_0, hp25_0⟩
        refine WC_region ?_; refine WL_val (rn_add rfl rfl) rfl ?_; refine WL_val (rn_move (v := (.int .i64 (IntKind.i64.wrap (s17.2.1 + 1)))) rfl) rfl ?_; refine WL_nil ?_
        have hO : Owns G65 w64 w0.heap.size ([⟨3, 1, np25_0, .slice ap25_0 np25_0 cp25_0, clap25_0⟩, ⟨99, 64, 1, .slice (some ⟨b11, 0, none⟩) 1 1, cellsT p25.2⟩]) := hO
        have H := Option.some.inj H; subst H; refine ⟨_, rfl, ?_⟩
        have l1_3 := leG22.trans leG65
        exact ⟨_, G65, ap25_0, np25_0, cp25_0, clap25_0, upds_self _ _ ⟨rfl, rfl, rfl, rfl, rfl, rfl, rfl, trivial⟩, l1_3, hS, hO, hnhp25_0, hp25_0⟩
      ·have H := ifF hb23 H; refine WC_exit rfl ?_
       have hO : Owns G22 w21 w0.heap.size ([⟨3, 1, ns17_0, .slice as17_0 ns17_0 cs17_0, clas17_0⟩, ⟨99, 64, 1, .slice (some ⟨b11, 0, none⟩) 1 1, cellsT s17.2.2⟩]) := hO
       have H := Option.some.inj H; subst H
       have hres := hqq19 _ rfl
       subst hres
       exact ⟨_, _, G22, as17_0, ns17_0, cs17_0, clas17_0, rfl, upds_self _ _ ⟨rfl, rfl, trivial⟩, leG22, hS, hO, hnhs17_0, hs17_0⟩
    ·rintro F w67 ⟨p18, Fb, G68, ap18_0, np18_0, cp18_0, clap18_0, rfl, rfl, leG68, hS, hO, hnhp18_0, hp18_0⟩
     refine WC_seq ?_; refine WC_region ?_; refine WL_val (rn_loadA ag43 (cs := [.slice a1 n1 c1, .slice a2 n2 c2, .slice a3 n3 c3]) rfl rfl (fun j v hj => (hS.sat.le leG68).cell (hcb4.drop_take 0 3 j v hj))) rfl ?_; refine WL_op rfl (OpP_in1 (N' := 7) [.agg #[.slice a1 n1 c1, .slice a2 n2 c2, .slice a3 n3 c3]] cb42 Tryz.func42 rfl rfl rfl rfl rfl rfl ?_); refine WC_seq ?_; refine WC_region ?_; refine WL_op rfl (OpP_newF (v := fun b => .pointer (some ⟨b, 0, none⟩)) (cs := [.slice a1 n1 c1, .slice a2 n2 c2, .slice a3 n3 c3]) (e := 43) (rn_boxA rfl) hS.sat rfl (fun b69 G71 w70 hg hcb69 => ?_)); have hS := hS.grow hg; have hO := hO.grow hg
     have leG71 := hg.le
     refine WL_val (rn_assign (v := (.pointer none)) rfl) rfl ?_; refine WL_nil ?_; refine WC_seq ?_; refine WC_region ?_; refine WL_val (rn_loadA ag43 (cs := [.slice a1 n1 c1, .slice a2 n2 c2, .slice a3 n3 c3]) rfl rfl (fun j v hj => hS.sat.cell (hcb69.drop_take 0 3 j v hj))) rfl ?_; refine WL_op rfl (OpP_makeMap (e := 157) hS hO rfl (fun r72 w73 hS hO => ?_))
     have hO : Owns G71 w73 w0.heap.size ([⟨157, 2, ([] : (List (Int × Bool))).length, .map (some r72), kvs kvI vvB ([] : (List (Int × Bool)))⟩, ⟨3, 1, np18_0, .slice ap18_0 np18_0 cp18_0, clap18_0⟩, ⟨99, 64, 1, .slice (some ⟨b11, 0, none⟩) 1 1, cellsT p18.2⟩]) := hO
     refine WL_val (v := (.agg #[.slice a1 n1 c1, .slice a2 n2 c2, .slice a3 n3 c3, .map (some r72)])) (by kernel_rfl) rfl ?_
     refine WL_op rfl (OpP_newF (v := fun b => .pointer (some ⟨b, 0, none⟩)) (cs := [.slice a1 n1 c1, .slice a2 n2 c2, .slice a3 n3 c3, .map (some r72)]) (e := 162) (rn_boxA rfl) hS.sat rfl (fun b75 G77 w76 hg hcb75 => ?_)); have hS := hS.grow hg; have hO := hO.grow hg
     have leG77 := hg.le
     refine WL_val (rn_assign (v := (.pointer (some ⟨b75, 0, none⟩))) rfl) rfl ?_; refine WL_nil ?_; refine WC_ret ?_; refine ⟨(.pointer (some ⟨b75, 0, none⟩)), rfl, ?_⟩
     have hO : Owns G77 w76 w0.heap.size ([⟨157, 2, ([] : (List (Int × Bool))).length, .map (some r72), kvs kvI vvB ([] : (List (Int × Bool)))⟩, ⟨3, 1, np18_0, .slice ap18_0 np18_0 cp18_0, clap18_0⟩, ⟨99, 64, 1, .slice (some ⟨b11, 0, none⟩) 1 1, cellsT p18.2⟩]) := hO
     refine WL_val (rn_assign (v := (.pointer (some ⟨b75, 0, none⟩))) rfl) rfl ?_; refine WL_nil ?_; refine WC_seq ?_; refine WC_seq ?_; refine WC_region ?_; refine WL_val (rn_assign (v := (.int .i64 1)) rfl) rfl ?_; refine WL_nil ?_; obtain ⟨q80, hq80, H⟩ := bnd H; refine WC_cut (fun F w => ∃ (p79 : (Tb 64) × (List (Int × Bool))) (Fb : Fr) (G : Gm), q80 = .inl p79 ∧ F = upds Fb [(9, .slice ap18_0 np18_0 cp18_0)] ∧ Gle G77 G ∧ Since w0.heap.size G0 w0 G w ∧ Owns G w w0.heap.size [⟨157, 2, (p79.2).length, .map (some r72), kvs kvI vvB (p79.2)⟩, ⟨3, 1, np18_0, .slice ap18_0 np18_0 cp18_0, clap18_0⟩, ⟨99, 64, 1, .slice (some ⟨b11, 0, none⟩) 1 1, cellsT p79.1⟩]) ?_ ?_
     ·refine WC_block (WC_loop hq80 (fun s78 F w => ∃ (Fb : Fr) (G : Gm), F = upds Fb [(2, .pointer (some ⟨b4, 0, none⟩)), (9, .slice ap18_0 np18_0 cp18_0), (15, .pointer (some ⟨b75, 0, none⟩)), (16, .int .i64 s78.1)] ∧ Gle G77 G ∧ Since w0.heap.size G0 w0 G w ∧ Owns G w w0.heap.size [⟨157, 2, (s78.2.2).length, .map (some r72), kvs kvI vvB (s78.2.2)⟩, ⟨3, 1, np18_0, .slice ap18_0 np18_0 cp18_0, clap18_0⟩, ⟨99, 64, 1, .slice (some ⟨b11, 0, none⟩) 1 1, cellsT s78.2.1⟩]) ?_ ?_)
      ·have hO : Owns G77 w76 w0.heap.size ([⟨157, 2, ([] : (List (Int × Bool))).length, .map (some r72), kvs kvI vvB ([] : (List (Int × Bool)))⟩, ⟨3, 1, np18_0, .slice ap18_0 np18_0 cp18_0, clap18_0⟩, ⟨99, 64, 1, .slice (some ⟨b11, 0, none⟩) 1 1, cellsT p18.2⟩]) := hO
       exact ⟨_, G77, upds_self _ _ ⟨rfl, rfl, rfl, rfl, trivial⟩, Gle.refl _, hS, hO⟩
      ·rintro s78 F w82 t81 ⟨Fb, G83, rfl, leG83, hS, hO⟩
       intro H1 hqq80
       have Hoq80 := H; have H := H1
       unfold f12_b2 at H
       refine WC_seq ?_; refine WC_seq ?_; refine WC_region ?_; refine WL_val (rn_move (v := (.int .i64 s78.1)) rfl) rfl ?_; refine WL_val (rn_move (v := (.slice ap18_0 np18_0 cp18_0)) rfl) rfl ?_; refine WL_val (rn_len (m := p18.1.length) sl22 rfl rfl hnhp18_0) rfl ?_; refine WL_val (rn_lss rfl rfl) rfl ?_; refine WL_nil ?_; refine WC_cond rfl (fun hb84 => ?_) (fun hb84 => ?_)
       ·have H := ifT hb84 H; refine WC_skip ?_; refine WC_seq ?_; refine WC_block ?_; refine WC_seq ?_; have hS := hS.keep (below_drew _); have hO := hO.below (below_drew _)
        refine WC_regionD mixedO (fun _ w => Sat G83 w ∧ Owns G83 w w0.heap.size [⟨157, 2, (s78.2.2).length, .map (some r72), kvs kvI vvB (s78.2.2)⟩, ⟨3, 1, np18_0, .slice ap18_0 np18_0 cp18_0, clap18_0⟩, ⟨99, 64, 1, .slice (some ⟨b11, 0, none⟩) 1 1, cellsT s78.2.1⟩]) (.fl 0 (.fl 1 (.fl 2 (.fl 3 (.fl 4 (.fl 5 (.fl 6 (.fl 7 (.fl 8 (.fl 9 (.fl 10 (.fl 11 (.fl 12 (.on 13 (.on 14 (.on 15 (.on 16 (.on 17 (.on 18 (.on 19 (.on 20 (.on 21 .nil)))))))))))))))))))))) (by kernel_rfl) rfl (by kernel_rfl) (fun _ => ⟨hS.sat, hO⟩) ?_
        refine WD_val rfl (fun w hw => rn_move (v := (.pointer (some ⟨b75, 0, none⟩))) rfl) rfl ?_; refine WD_val rfl (fun w hw => rn_fld fd43_1 rfl) rfl ?_; refine WD_val rfl (fun w hw => rn_load na40 rfl ((hw.1.le (((leG68.trans leG71).trans leG77).trans leG83)).cell (hcb4 1 _ rfl))) rfl ?_; refine WD_val rfl (fun w hw => rn_move (v := (.slice ap18_0 np18_0 cp18_0)) rfl) rfl ?_; refine WD_val rfl (fun w hw => rn_move (v := (.int .i64 s78.1)) rfl) rfl ?_; obtain ⟨y85, hy85, H⟩ := bnd H
        have l2_5 := (leG71.trans leG77).trans leG83
        refine WD_idxO rfl sl22 hO (k := 1) rfl hnhp18_0 (hp18_0.mono RInt_mono l2_5) hy85 rfl rfl rfl ?_
        rintro b86 ob86 _ hb86 _ hcb86 ⟨⟩
        refine WD_val rfl (fun w hw => rn_load na3 rfl (own_cellB hw.2 (k := 1) rfl hb86 _ 0 (hcb86 0 _ rfl))) rfl ?_; obtain ⟨y87, hy87, H⟩ := bnd H
        have l0_5 := (leG6.trans leG68).trans l2_5
        refine WD_idx rfl sl40 (h2.mono RTLandEvent_mono l0_5) hy87 rfl rfl rfl ?_
        rintro b88 o88 _ hcb88 _ ⟨⟩
        refine WD_val rfl (fun w hw => rn_fld fd45_1 rfl) rfl ?_; refine WD_val rfl (fun w hw => rn_load na3 rfl (hw.1.cell (hcb88 1 _ rfl))) rfl ?_; refine WD_val rfl (fun w hw => rn_fld fd43_1 rfl) rfl ?_; refine WD_val rfl (fun w hw => rn_load na40 rfl ((hw.1.le (leG68.trans l2_5)).cell (hcb4 1 _ rfl))) rfl ?_; refine WD_val rfl (fun w hw => rn_move (v := (.slice ap18_0 np18_0 cp18_0)) rfl) rfl ?_; refine WD_op rfl rfl (OpP_val (rn_move (v := (.int .i64 s78.1)) rfl) rfl ?_); refine ⟨fun _ _ => ⟨hS.sat, hO⟩, ?_⟩; refine WD_op rfl rfl (OpP_val (rn_sub rfl rfl) rfl ?_); refine ⟨fun _ _ => ⟨hS.sat, hO⟩, ?_⟩; obtain ⟨y89, hy89, H⟩ := bnd H; refine WD_op rfl rfl (OpP_idxO sl22 hO (k := 1) rfl hnhp18_0 (hp18_0.mono RInt_mono l2_5) hy89 rfl rfl rfl ?_)
        rintro b90 ob90 _ hb90 _ hcb90 ⟨⟩
        refine ⟨fun _ _ => ⟨hS.sat, hO⟩, ?_⟩; refine WD_op rfl rfl (OpP_val (rn_load na3 rfl (own_cellB hO (k := 1) rfl hb90 _ 0 (hcb90 0 _ rfl))) rfl ?_); refine ⟨fun _ _ => ⟨hS.sat, hO⟩, ?_⟩; obtain ⟨y91, hy91, H⟩ := bnd H; refine WD_op rfl rfl (OpP_idx sl40 (h2.mono RTLandEvent_mono l0_5) hy91 rfl rfl rfl ?_)
        rintro b92 o92 _ hcb92 _ ⟨⟩
        refine ⟨fun _ _ => ⟨hS.sat, hO⟩, ?_⟩; refine WD_op rfl rfl (OpP_val (rn_fld fd45_1 rfl) rfl ?_); refine ⟨fun _ _ => ⟨hS.sat, hO⟩, ?_⟩; refine WD_op rfl rfl (OpP_val (rn_load na3 rfl (hS.sat.cell (hcb92 1 _ rfl))) rfl ?_); refine ⟨fun _ _ => ⟨hS.sat, hO⟩, ?_⟩; obtain ⟨y93, hy93, H⟩ := bnd H
        have hx95 := f43_ok (x0 := x0) (x1 := y87.Holder) (x2 := y91.Holder) hS.sat (hcb75.mono leG83) (h1.mono RTLandPerson_mono l0_5) (h2.mono RTLandEvent_mono l0_5) (h3.mono RTLandMemory_mono l0_5) hy93
        refine WD_op rfl rfl (OpP_callV cb43 hx95 rfl rfl (fun w94 hb => ?_)); have hS := hS.keep hb; have hO := hO.below hb
        refine ⟨fun _ h => noneed (by kernel_rfl) h, ?_⟩
        refine WD_op rfl rfl (OpP_val (rn_not rfl) rfl ?_)
        refine ⟨fun _ h => noneed (by kernel_rfl) h, ?_⟩
        refine WD_nil ?_; refine WC_cond rfl (fun hb96 => ?_) (fun hb96 => ?_)
        ·have H := ifT hb96 H; refine WC_seq ?_; refine WC_region ?_; refine WL_val (rn_move (v := (.slice ap18_0 np18_0 cp18_0)) rfl) rfl ?_; refine WL_val (rn_move (v := (.int .i64 s78.1)) rfl) rfl ?_; refine WL_val (rn_assign (v := (.slice ap18_0 np18_0 cp18_0)) rfl) rfl ?_; refine WL_val (rn_assign (v := (.int .i64 s78.1)) rfl) rfl ?_; refine WL_val (rn_assign (v := (.int .i64 0)) rfl) rfl ?_; refine WL_nil ?_; refine WC_ret ?_; obtain ⟨G97, leG97, hS, hO, hfG97⟩ := hO.freezeS hS RInt_mono (k := 1) rfl (hp18_0.mono RInt_mono l2_5) hnhp18_0; have H := Option.some.inj H; subst H
         have hres := hqq80 _ rfl
         subst hres; have H := Hoq80
         have H : some (p18.1, s78.1, 0) = some r := H
         have H := Option.some.inj H; subst H
         exact ⟨_, _, rfl, hS.toGrow, _, _, _, rfl, hfG97⟩
        ·have H := ifF hb96 H; refine WC_skip ?_; refine WC_region ?_; refine WL_val (rn_move (v := (.int .i64 s78.1)) rfl) rfl ?_; refine WL_val (rn_add rfl rfl) rfl ?_; refine WL_val (rn_assign (v := (.int .i64 (IntKind.i64.wrap (s78.1 + 1)))) rfl) rfl ?_; refine WL_nil ?_
         have hO : Owns G83 w94 w0.heap.size ([⟨157, 2, (s78.2.2).length, .map (some r72), kvs kvI vvB (s78.2.2)⟩, ⟨3, 1, np18_0, .slice ap18_0 np18_0 cp18_0, clap18_0⟩, ⟨99, 64, 1, .slice (some ⟨b11, 0, none⟩) 1 1, cellsT s78.2.1⟩]) := hO
         have H := Option.some.inj H; subst H; refine ⟨_, rfl, ?_⟩
         exact ⟨_, G83, upds_self _ _ ⟨rfl, rfl, rfl, rfl, trivial⟩, leG83, hS, hO⟩
       ·have H := ifF hb84 H; refine WC_exit rfl ?_
        have hO : Owns G83 w82 w0.heap.size ([⟨157, 2, (s78.2.2).length, .map (some r72), kvs kvI vvB (s78.2.2)⟩, ⟨3, 1, np18_0, .slice ap18_0 np18_0 cp18_0, clap18_0⟩, ⟨99, 64, 1, .slice (some ⟨b11, 0, none⟩) 1 1, cellsT s78.2.1⟩]) := hO
        have H := Option.some.inj H; subst H
        have hres := hqq80 _ rfl
        subst hres
        exact ⟨_, _, G83, rfl, upds_self _ _ ⟨rfl, trivial⟩, leG83, hS, hO⟩
     ·rintro F w98 ⟨p79, Fb, G99, rfl, rfl, leG99, hS, hO⟩
      refine WC_seq ?_; refine WC_region ?_; refine WL_val (rn_move (v := (.slice ap18_0 np18_0 cp18_0)) rfl) rfl ?_; refine WL_val (rn_assign (v := (.slice ap18_0 np18_0 cp18_0)) rfl) rfl ?_; refine WL_val (rn_assign (v := (.int .i64 (-1))) rfl) rfl ?_; refine WL_val (rn_assign (v := (.int .i64 0)) rfl) rfl ?_; refine WL_nil ?_; refine WC_ret ?_
      have l2_5 := (leG71.trans leG77).trans leG99
      obtain ⟨G100, leG100, hS, hO, hfG100⟩ := hO.freezeS hS RInt_mono (k := 1) rfl (hp18_0.mono RInt_mono l2_5) hnhp18_0
      have H : some (p18.1, (-1), 0) = some r := H
      have H := Option.some.inj H; subst H
      exact ⟨_, _, rfl, hS.toGrow, _, _, _, rfl, hfG100⟩
  ·refine WD_op rfl rfl (OpP_newO (v := fun b => .pointer (some ⟨b, 0, none⟩)) (cs := (cellsT (Tb.zero 64))) (e := 99) (by kernel_rfl) hS.sat hO rfl 64 1 (cellsT_len _) (by decide) (fun b9 w10 hb hO => ?_))
   have hS := hS.keep hb; refine ⟨fun _ _ => ⟨hS.sat, trivial⟩, ?_⟩; obtain ⟨y12, hy12, H⟩ := bnd H; refine WD_op rfl rfl (OpP_callV cb39 (f39_ok (x0 := x0) (x1 := y7) hS.sat (h1.mono RTLandPerson_mono leG6) (h2.mono RTLandEvent_mono leG6) (h3.mono RTLandMemory_mono leG6) hy12) rfl rfl (fun w13 hb => ?_)); have hS := hS.keep hb; have hO := hO.below hb; refine ⟨fun _ _ => ⟨hS.sat, trivial⟩, ?_⟩; refine WD_op rfl rfl (OpP_val (rn_move (v := (.tuple #[.agg (cellsT y12.1).toArray, .int .i64 y12.2])) rfl) rfl ?_); refine ⟨fun _ _ => ⟨hS.sat, trivial⟩, ?_⟩; refine WD_val rfl (fun w hw => rn_extract (v := (.agg (cellsT y12.1).toArray)) rfl rfl) rfl ?_; refine WD_val rfl (fun w hw => rn_extract (v := (.int .i64 y12.2)) rfl rfl) rfl ?_; refine WD_op rfl rfl (OpP_storeTT sz99 hS hO (k := 0) rfl rfl rfl (fun w14 hS hO => ?_))
   have hO : Owns G6 w14 w0.heap.size ([⟨99, 64, 1, .slice (some ⟨b9, 0, none⟩) 1 1, cellsT y12.1⟩]) := hO
   refine ⟨fun _ _ => ⟨hS.sat, trivial⟩, ?_⟩; refine WD_op rfl rfl (OpP_val (rn_assign (v := (.int .i64 y12.2)) rfl) rfl ?_)
   refine ⟨fun _ h => noneed (by kernel_rfl) h, ?_⟩
   refine WD_nil ?_; refine WC_seq ?_; refine WC_seq ?_; refine WC_region ?_; refine WL_val (rn_move (v := (.int .i64 y12.2)) rfl) rfl ?_; refine WL_val (rn_neq rfl rfl) rfl ?_; refine WL_nil ?_; refine WC_cond rfl (fun hb15 => ?_) (fun hb15 => ?_)
   ·have H := ifT hb15 H; refine WC_seq ?_; refine WC_region ?_; refine WL_val (rn_move (v := (.int .i64 y12.2)) rfl) rfl ?_; refine WL_val (rn_assign (v := (.slice none 0 0)) rfl) rfl ?_; refine WL_val (rn_assign (v := (.int .i64 0)) rfl) rfl ?_; refine WL_val (rn_assign (v := (.int .i64 y12.2)) rfl) rfl ?_; refine WL_nil ?_; refine WC_ret ?_
    have H : some ([], 0, y12.2) = some r := H
    have H := Option.some.inj H; subst H
    exact ⟨_, _, rfl, hS.toGrow, _, _, _, rfl, (RSl.nil RInt 1 G6 none)⟩
   ·have H := ifF hb15 H; refine WC_skip ?_; refine WC_seq ?_; refine WC_region ?_; refine WL_val (rn_assign (v := (.slice none 0 0)) rfl) rfl ?_; refine WL_nil ?_; refine WC_seq ?_; refine WC_seq ?_; refine WC_region ?_; refine WL_val (rn_fld fd43_1 rfl) rfl ?_; refine WL_val (rn_load na40 rfl (hS.sat.cell (hcb4 1 _ rfl))) rfl ?_; refine WL_val (rn_len sl40 rfl rfl (h2.mono RTLandEvent_mono leG6).1) rfl ?_; refine WL_val (rn_move (v := (.int .i64 0)) rfl) rfl ?_; refine WL_nil ?_; have hO := hO.cons_nil 3 1; obtain ⟨q19, hq19, H⟩ := bnd H; refine WC_cut (fun F w => ∃ (p18 : (List Int) × (Tb 64)) (Fb : Fr) (G : Gm) (ap18_0 : Option Addr) (np18_0 cp18_0 : Nat) (clap18_0 : List Value), q19 = .inl p18 ∧ F = upds Fb [(2, .pointer (some ⟨b4, 0, none⟩)), (9, .slice ap18_0 np18_0 cp18_0)] ∧ Gle G6 G ∧ Since w0.heap.size G0 w0 G w ∧ Owns G w w0.heap.size [⟨3, 1, np18_0, .slice ap18_0 np18_0 cp18_0, clap18_0⟩, ⟨99, 64, 1, .slice (some ⟨b9, 0, none⟩) 1 1, cellsT p18.2⟩] ∧ np18_0 = p18.1.length ∧ Rd RInt 1 G clap18_0 p18.1) ?_ ?_
    ·refine WC_block (WC_loop hq19 (fun s17 F w => ∃ (Fb : Fr) (G : Gm) (as17_0 : Option Addr) (ns17_0 cs17_0 : Nat) (clas17_0 : List Value), F = upds Fb [(1, .int .i64 x1), (2, .pointer (some ⟨b4, 0, none⟩)), (7, .pointer (some ⟨b9, 0, none⟩)), (9, .slice as17_0 ns17_0 cs17_0), (28, .slice a2 n2 c2), (29, .int .i64 (x0.Events.length : Int)), (30, .int .i64 s17.2.1)] ∧ Gle G6 G ∧ Since w0.heap.size G0 w0 G w ∧ Owns G w w0.heap.size [⟨3, 1, ns17_0, .slice as17_0 ns17_0 cs17_0, clas17_0⟩, ⟨99, 64, 1, .slice (some ⟨b9, 0, none⟩) 1 1, cellsT s17.2.2⟩] ∧ ns17_0 = s17.1.length ∧ Rd RInt 1 G clas17_0 s17.1) ?_ ?_)
     ·have hO : Owns G6 w14 w0.heap.size ([⟨3, 1, 0, .slice none 0 0, []⟩, ⟨99, 64, 1, .slice (some ⟨b9, 0, none⟩) 1 1, cellsT y12.1⟩]) := hO
      exact ⟨_, G6, none, 0, 0, [], upds_self _ _ ⟨rfl, rfl, rfl, rfl, rfl, rfl, rfl, trivial⟩, Gle.refl _, hS, hO, rfl, (Rd.nil RInt 1 G6)⟩
     ·rintro s17 F w21 t20 ⟨Fb, G22, as17_0, ns17_0, cs17_0, clas17_0, rfl, leG22, hS, hO, hnhs17_0, hs17_0⟩
      intro H1 hqq19
      have Hoq19 := H; have H := H1
      unfold f12_b0 at H
      refine WC_seq ?_; refine WC_region ?_; refine WL_val (rn_lss rfl rfl) rfl ?_; refine WL_nil ?_; refine WC_seq ?_; refine WC_cond rfl (fun hb23 => ?_) (fun hb23 => ?_)
      ·have H := ifT hb23 H; refine WC_skip ?_; refine WC_seq ?_; obtain ⟨q24, hq24, H⟩ := bnd H; refine WC_cut (fun F w => ∃ (p25 : (List Int) × (Tb 64)) (Fb : Fr) (G : Gm) (ap25_0 : Option Addr) (np25_0 cp25_0 : Nat) (clap25_0 : List Value), q24 = .inl p25 ∧ F = upds Fb [(1, .int .i64 x1), (2, .pointer (some ⟨b4, 0, none⟩)), (7, .pointer (some ⟨b9, 0, none⟩)), (9, .slice ap25_0 np25_0 cp25_0), (28, .slice a2 n2 c2), (29, .int .i64 (x0.Events.length : Int)), (30, .int .i64 s17.2.1)] ∧ Gle G22 G ∧ Since w0.heap.size G0 w0 G w ∧ Owns G w w0.heap.size [⟨3, 1, np25_0, .slice ap25_0 np25_0 cp25_0, clap25_0⟩, ⟨99, 64, 1, .slice (some ⟨b9, 0, none⟩) 1 1, cellsT p25.2⟩] ∧ np25_0 = p25.1.length ∧ Rd RInt 1 G clap25_0 p25.1) ?_ ?_
       ·have Hoq24 := H; have H := hq24; refine WC_block ?_; refine WC_seq ?_; refine WC_region ?_; refine WL_val (rn_move (v := (.int .i64 s17.2.1)) rfl) rfl ?_; obtain ⟨y26, hy26, H⟩ := bnd H
        have l0_2 := leG6.trans leG22
        refine WL_idx sl40 (h2.mono RTLandEvent_mono l0_2) hy26 rfl rfl rfl ?_
        rintro b27 o27 _ hcb27 _ ⟨⟩
        refine WL_val (rn_loadA ag45 (cs := [.int .i64 y26.Strip, .int .i64 y26.Holder]) rfl rfl (fun j v hj => hS.sat.cell (hcb27.drop_take 0 2 j v hj))) rfl ?_
        refine WL_op rfl (OpP_newO (v := fun b => .pointer (some ⟨b, 0, none⟩)) (cs := [.int .i64 0, .int .i64 0]) (e := 45) (by kernel_rfl) hS.sat hO rfl 2 1 rfl (by decide) (fun b28 w29 hb hO => ?_))
        have hS := hS.keep hb; refine WL_val (rn_assign (v := (.int .i64 s17.2.1)) rfl) rfl ?_; refine WL_op rfl (OpP_store (vs := [.int .i64 y26.Strip, .int .i64 y26.Holder]) sz45 hS hO (k := 0) rfl rfl rfl rfl rfl (one_all rfl) (Nat.le_of_ble_eq_true rfl) (fun w31 hS hO => ?_))
        have hO : Owns G22 w31 w0.heap.size ([⟨45, 2, 1, .slice (some ⟨b28, 0, none⟩) 1 1, [.int .i64 y26.Strip, .int .i64 y26.Holder]⟩, ⟨3, 1, ns17_0, .slice as17_0 ns17_0 cs17_0, clas17_0⟩, ⟨99, 64, 1, .slice (some ⟨b9, 0, none⟩) 1 1, cellsT s17.2.2⟩]) := hO
        obtain ⟨G32, leG32, hS, hO, hqG32, _⟩ := hO.freeze hS (k := 0) rfl
        have hcG32 : Cells G32 b28 0 [.int .i64 y26.Strip, .int .i64 y26.Holder] := (hqG32 _ _ _ _ rfl)
        refine WL_nil ?_; refine WC_seq ?_; refine WC_seq ?_; refine WC_region ?_; refine WL_val (rn_fld fd45_0 rfl) rfl ?_; refine WL_val (rn_load na3 rfl (hS.sat.cell (hcG32 0 _ rfl))) rfl ?_; refine WL_val (rn_move (v := (.int .i64 x1)) rfl) rfl ?_; refine WL_val (rn_neq rfl rfl) rfl ?_; refine WL_nil ?_; refine WC_cond rfl (fun hb33 => ?_) (fun hb33 => ?_)
        ·have H := ifT hb33 H; refine WC_exit rfl ?_
         have hO : Owns G32 w31 w0.heap.size ([⟨3, 1, ns17_0, .slice as17_0 ns17_0 cs17_0, clas17_0⟩, ⟨99, 64, 1, .slice (some ⟨b9, 0, none⟩) 1 1, cellsT s17.2.2⟩]) := hO
         have H := Option.some.inj H; subst H
         exact ⟨_, _, G32, as17_0, ns17_0, cs17_0, clas17_0, rfl, upds_self _ _ ⟨rfl, rfl, rfl, rfl, rfl, rfl, rfl, trivial⟩, leG32, hS, hO, hnhs17_0, (hs17_0.mono RInt_mono leG32)⟩
        ·have H := ifF hb33 H; refine WC_skip ?_; refine WC_seq ?_; refine WC_region ?_; refine WL_val (rn_move (v := (.slice as17_0 ns17_0 cs17_0)) rfl) rfl ?_; refine WL_val (rn_len (m := s17.1.length) sl22 rfl rfl hnhs17_0) rfl ?_; refine WL_val (rn_assign (v := (.int .i64 (s17.1.length : Int))) rfl) rfl ?_; refine WL_nil ?_; refine WC_seq ?_; refine WC_seq ?_; refine WC_region ?_; refine WL_val (rn_move (v := (.slice as17_0 ns17_0 cs17_0)) rfl) rfl ?_; refine WL_val (rn_len (m := s17.1.length) sl22 rfl rfl hnhs17_0) rfl ?_; refine WL_val (rn_move (v := (.int .i64 0)) rfl) rfl ?_; refine WL_nil ?_; obtain ⟨q36, hq36, H⟩ := bnd H; refine WC_cut (fun F w => ∃ (p35 : Int × (Tb 64)) (Fb : Fr) (G : Gm), q36 = .inl p35 ∧ F = upds Fb [(1, .int .i64 x1), (2, .pointer (some ⟨b4, 0, none⟩)), (7, .pointer (some ⟨b9, 0, none⟩)), (9, .slice as17_0 ns17_0 cs17_0), (10, .int .i64 s17.2.1), (12, .int .i64 p35.1), (28, .slice a2 n2 c2), (29, .int .i64 (x0.Events.length : Int)), (30, .int .i64 s17.2.1)] ∧ Gle G32 G ∧ Since w0.heap.size G0 w0 G w ∧ Owns G w w0.heap.size [⟨3, 1, ns17_0, .slice as17_0 ns17_0 cs17_0, clas17_0⟩, ⟨99, 64, 1, .slice (some ⟨b9, 0, none⟩) 1 1, cellsT p35.2⟩]) ?_ ?_
         ·refine WC_block (WC_loop hq36 (fun s34 F w => ∃ (Fb : Fr) (G : Gm), F = upds Fb [(1, .int .i64 x1), (2, .pointer (some ⟨b4, 0, none⟩)), (7, .pointer (some ⟨b9, 0, none⟩)), (9, .slice as17_0 ns17_0 cs17_0), (10, .int .i64 s17.2.1), (12, .int .i64 s34.1), (28, .slice a2 n2 c2), (29, .int .i64 (x0.Events.length : Int)), (30, .int .i64 s17.2.1), (41, .slice as17_0 ns17_0 cs17_0), (42, .int .i64 (s17.1.length : Int)), (43, .int .i64 s34.2.1)] ∧ Gle G32 G ∧ Since w0.heap.size G0 w0 G w ∧ Owns G w w0.heap.size [⟨3, 1, ns17_0, .slice as17_0 ns17_0 cs17_0, clas17_0⟩, ⟨99, 64, 1, .slice (some ⟨b9, 0, none⟩) 1 1, cellsT s34.2.2⟩]) ?_ ?_)
          ·have hO : Owns G32 w31 w0.heap.size ([⟨3, 1, ns17_0, .slice as17_0 ns17_0 cs17_0, clas17_0⟩, ⟨99, 64, 1, .slice (some ⟨b9, 0, none⟩) 1 1, cellsT s17.2.2⟩]) := hO
           exact ⟨_, G32, upds_self _ _ ⟨rfl, rfl, rfl, rfl, rfl, rfl, rfl, rfl, rfl, rfl, rfl, rfl, trivial⟩, Gle.refl _, hS, hO⟩
          ·rintro s34 F w38 t37 ⟨Fb, G39, rfl, leG39, hS, hO⟩
           intro H1 hqq36
           have Hoq36 := H; have H := H1
           unfold f12_b1 at H
           refine WC_seq ?_; refine WC_region ?_; refine WL_val (rn_lss rfl rfl) rfl ?_; refine WL_nil ?_; refine WC_seq ?_; refine WC_cond rfl (fun hb40 => ?_) (fun hb40 => ?_)
           ·have H := ifT hb40 H; refine WC_skip ?_; refine WC_seq ?_; obtain ⟨q41, hq41, H⟩ := bnd H; refine WC_cut (fun F w => ∃ (p42 : Int) (Fb : Fr) (G : Gm), q41 = .inl p42 ∧ F = upds Fb [(1, .int .i64 x1), (2, .pointer (some ⟨b4, 0, none⟩)), (7, .pointer (some ⟨b9, 0, none⟩)), (9, .slice as17_0 ns17_0 cs17_0), (10, .int .i64 s17.2.1), (12, .int .i64 p42), (28, .slice a2 n2 c2), (29, .int .i64 (x0.Events.length : Int)), (30, .int .i64 s17.2.1), (41, .slice as17_0 ns17_0 cs17_0), (42, .int .i64 (s17.1.length : Int)), (43, .int .i64 s34.2.1)] ∧ Gle G39 G ∧ Since w0.heap.size G0 w0 G w ∧ Owns G w w0.heap.size [⟨3, 1, ns17_0, .slice as17_0 ns17_0 cs17_0, clas17_0⟩, ⟨99, 64, 1, .slice (some ⟨b9, 0, none⟩) 1 1, cellsT s34.2.2⟩]) ?_ ?_
            ·have Hoq41 := H; have H := hq41; refine WC_block ?_; refine WC_seq ?_; refine WC_region ?_; refine WL_val (rn_move (v := (.int .i64 s34.2.1)) rfl) rfl ?_; obtain ⟨y43, hy43, H⟩ := bnd H
             have l2_4 := leG32.trans leG39
             refine WL_idxO sl22 hO (k := 0) rfl hnhs17_0 (hs17_0.mono RInt_mono l2_4) hy43 rfl rfl rfl ?_
             rintro b44 ob44 _ hb44 _ hcb44 ⟨⟩
             refine WL_val (rn_load na3 rfl (own_cellB hO (k := 0) rfl hb44 _ 0 (hcb44 0 _ rfl))) rfl ?_; refine WL_val (rn_assign (v := (.int .i64 s34.2.1)) rfl) rfl ?_; refine WL_val (rn_assign (v := (.int .i64 y43)) rfl) rfl ?_; refine WL_nil ?_; refine WC_block ?_; refine WC_seq ?_; refine WC_region ?_; refine WL_val (rn_loadT ag99 hO (k := 1) rfl rfl) rfl ?_; refine WL_val (rn_move (v := (.int .i64 s17.2.1)) rfl) rfl ?_; refine WL_val (rn_move (v := (.int .i64 y43)) rfl) rfl ?_; obtain ⟨y45, hy45, H⟩ := bnd H; refine WL_op rfl (OpP_callV cb40 (f40_ok (x0 := s34.2.2) (x1 := s17.2.1) (x2 := y43) hS.sat  hy45) rfl rfl (fun w46 hb => ?_)); have hS := hS.keep hb; have hO := hO.below hb
             refine WL_val (v := (.int .i64 y45.Low)) (by kernel_rfl) rfl ?_
             refine WL_val (rn_gtr rfl rfl) rfl ?_; refine WL_val (rn_assign (v := (.bool (decide (0 < y45.Low)))) rfl) rfl ?_; refine WL_nil ?_; refine WC_cond rfl (fun hb47 => ?_) (fun hb47 => ?_)
             ·have H := ifT hb47 H; refine WC_region ?_; refine WL_val (rn_move (v := (.int .i64 s34.1)) rfl) rfl ?_; refine WL_val (rn_move (v := (.int .i64 s34.2.1)) rfl) rfl ?_; refine WL_val (rn_min rfl rfl) rfl ?_; refine WL_val (rn_assign (v := (.int .i64 (if s34.2.1 < s34.1 then s34.2.1 else s34.1))) rfl) rfl ?_; refine WL_nil ?_
              have hO : Owns G39 w46 w0.heap.size ([⟨3, 1, ns17_0, .slice as17_0 ns17_0 cs17_0, clas17_0⟩, ⟨99, 64, 1, .slice (some ⟨b9, 0, none⟩) 1 1, cellsT s34.2.2⟩]) := hO
              have H := Option.some.inj H; subst H
              exact ⟨_, _, G39, rfl, upds_self _ _ ⟨rfl, rfl, rfl, rfl, rfl, rfl, rfl, rfl, rfl, rfl, rfl, rfl, trivial⟩, Gle.refl _, hS, hO⟩
             ·have H := ifF hb47 H; refine WC_seq ?_; refine WC_region ?_; refine WL_val (rn_loadT ag99 hO (k := 1) rfl rfl) rfl ?_; refine WL_val (rn_move (v := (.int .i64 y43)) rfl) rfl ?_; refine WL_val (rn_move (v := (.int .i64 s17.2.1)) rfl) rfl ?_; obtain ⟨y48, hy48, H⟩ := bnd H; refine WL_op rfl (OpP_callV cb40 (f40_ok (x0 := s34.2.2) (x1 := y43) (x2 := s17.2.1) hS.sat  hy48) rfl rfl (fun w49 hb => ?_)); have hS := hS.keep hb; have hO := hO.below hb
              refine WL_val (v := (.int .i64 y48.Low)) (by kernel_rfl) rfl ?_
              refine WL_val (rn_leq rfl rfl) rfl ?_; refine WL_val (rn_assign (v := (.bool (decide (y48.Low ≤ 0)))) rfl) rfl ?_; refine WL_nil ?_; refine WC_cond rfl (fun hb50 => ?_) (fun hb50 => ?_)
              ·have H := ifT hb50 H; refine WC_seq ?_; refine WC_region ?_; refine WL_val (rn_assign (v := (.slice none 0 0)) rfl) rfl ?_; refine WL_val (rn_assign (v := (.int .i64 0)) rfl) rfl ?_; refine WL_val (rn_assign (v := (.int .i64 8)) rfl) rfl ?_; refine WL_nil ?_; refine WC_ret ?_; have H := Option.some.inj H; subst H; have H := Hoq41; have H := Option.some.inj H; subst H
               have hres := hqq36 _ rfl
               subst hres; have H := Hoq36; have H := Option.some.inj H; subst H; have H := Hoq24; have H := Option.some.inj H; subst H
               have hres := hqq19 _ rfl
               subst hres; have H := Hoq19
               have H : some ([], 0, 8) = some r := H
               have H := Option.some.inj H; subst H
               exact ⟨_, _, rfl, hS.toGrow, _, _, _, rfl, (RSl.nil RInt 1 G39 none)⟩
              ·have H := ifF hb50 H; refine WC_skip ?_
               have hO : Owns G39 w49 w0.heap.size ([⟨3, 1, ns17_0, .slice as17_0 ns17_0 cs17_0, clas17_0⟩, ⟨99, 64, 1, .slice (some ⟨b9, 0, none⟩) 1 1, cellsT s34.2.2⟩]) := hO
               have H := Option.some.inj H; subst H
               exact ⟨_, _, G39, rfl, upds_self _ _ ⟨rfl, rfl, rfl, rfl, rfl, rfl, rfl, rfl, rfl, rfl, rfl, rfl, trivial⟩, Gle.refl _, hS, hO⟩
            ·rintro F w51 ⟨p42, Fb, G52, rfl, rfl, leG52, hS, hO⟩
             refine WC_region ?_; refine WL_val (rn_add rfl rfl) rfl ?_; refine WL_val (rn_move (v := (.int .i64 (IntKind.i64.wrap (s34.2.1 + 1)))) rfl) rfl ?_; refine WL_nil ?_
             have hO : Owns G52 w51 w0.heap.size ([⟨3, 1, ns17_0, .slice as17_0 ns17_0 cs17_0, clas17_0⟩, ⟨99, 64, 1, .slice (some ⟨b9, 0, none⟩) 1 1, cellsT s34.2.2⟩]) := hO
             have H := Option.some.inj H; subst H; refine ⟨_, rfl, ?_⟩
             have l3_5 := leG39.trans leG52
             exact ⟨_, G52, upds_self _ _ ⟨rfl, rfl, rfl, rfl, rfl, rfl, rfl, rfl, rfl, rfl, rfl, rfl, trivial⟩, l3_5, hS, hO⟩
           ·have H := ifF hb40 H; refine WC_exit rfl ?_
            have hO : Owns G39 w38 w0.heap.size ([⟨3, 1, ns17_0, .slice as17_0 ns17_0 cs17_0, clas17_0⟩, ⟨99, 64, 1, .slice (some ⟨b9, 0, none⟩) 1 1, cellsT s34.2.2⟩]) := hO
            have H := Option.some.inj H; subst H
            have hres := hqq36 _ rfl
            subst hres
            exact ⟨_, _, G39, rfl, upds_self _ _ ⟨rfl, rfl, rfl, rfl, rfl, rfl, rfl, rfl, rfl, trivial⟩, leG39, hS, hO⟩
         ·rintro F w54 ⟨p35, Fb, G55, rfl, rfl, leG55, hS, hO⟩
          refine WC_region ?_; refine WL_val (rn_move (v := (.slice as17_0 ns17_0 cs17_0)) rfl) rfl ?_; refine WL_val (rn_move (v := (.int .i64 p35.1)) rfl) rfl ?_; refine WL_val (rn_move (v := (.int .i64 s17.2.1)) rfl) rfl ?_
          refine WL_op rfl (OpP_newO (v := fun b => .slice (some ⟨b, 0, none⟩) 1 1) (cs := [.int .i64 s17.2.1]) (e := 3) (by kernel_rfl) hS.sat hO rfl 1 1 rfl (by decide) (fun b56 w57 hb hO => ?_))
          have hS := hS.keep hb
          have hrb56 : Rd RInt 1 G55 [.int .i64 s17.2.1] [s17.2.1] := (Rd.cons (c := [.int .i64 s17.2.1]) rfl rfl (Rd.nil RInt 1 _))
          have hO := hO.front (k := 0) rfl; have hO := hO.front (k := 1) rfl
          have hO : Owns G55 w57 w0.heap.size ([⟨3, 1, ns17_0, .slice as17_0 ns17_0 cs17_0, clas17_0⟩, ⟨3, 1, 1, .slice (some ⟨b56, 0, none⟩) 1 1, [.int .i64 s17.2.1]⟩, ⟨99, 64, 1, .slice (some ⟨b9, 0, none⟩) 1 1, cellsT p35.2⟩]) := hO
          obtain ⟨y59, hy59, H⟩ := bnd H
          have l2_4 := leG32.trans leG55
          refine WL_op rfl (OpP_lent (fi := []) (al := [.slice as17_0 ns17_0 cs17_0, .int .i64 p35.1, .slice (some ⟨b56, 0, none⟩) 1 1]) (ca := []) cb41 (f41_ok (i := p35.1) (x := s17.2.1) hS hO hnhs17_0 (hs17_0.mono RInt_mono l2_4) hy59) rfl rfl rfl (fun vG61 G61 w60 L62 leG61 hS hO hvG61 => ?_)); obtain ⟨aw60, cw60, clw60, rfl, rfl, hrw60⟩ := hvG61
          have hO : Owns G61 w60 w0.heap.size ([⟨3, 1, y59.length, .slice aw60 y59.length cw60, clw60⟩, ⟨3, 1, 1, .slice (some ⟨b56, 0, none⟩) 1 1, [.int .i64 s17.2.1]⟩, ⟨99, 64, 1, .slice (some ⟨b9, 0, none⟩) 1 1, cellsT p35.2⟩]) := hO
          have hO := hO.drop 1
          have hO : Owns G61 w60 w0.heap.size ([⟨3, 1, y59.length, .slice aw60 y59.length cw60, clw60⟩, ⟨99, 64, 1, .slice (some ⟨b9, 0, none⟩) 1 1, cellsT p35.2⟩]) := hO
          refine WL_val (rn_assign (v := (.slice aw60 y59.length cw60)) rfl) rfl ?_; refine WL_nil ?_
          have hO : Owns G61 w60 w0.heap.size ([⟨3, 1, y59.length, .slice aw60 y59.length cw60, clw60⟩, ⟨99, 64, 1, .slice (some ⟨b9, 0, none⟩) 1 1, cellsT p35.2⟩]) := hO
          have H := Option.some.inj H; subst H
          have l2_5 := l2_4.trans leG61
          exact ⟨_, _, G61, aw60, y59.length, cw60, clw60, rfl, upds_self _ _ ⟨rfl, rfl, rfl, rfl, rfl, rfl, rfl, trivial⟩, l2_5, hS, hO, rfl, hrw60⟩
       ·rintro F w64 ⟨p25, Fb, G65, ap25_0, np25_0, cp25_0, clap25_0, rfl, rfl, leG65, hS, hO, hnhp25_0, hp25_0⟩
        refine WC_region ?_; refine WL_val (rn_add rfl rfl) rfl ?_; refine WL_val (rn_move (v := (.int .i64 (IntKind.i64.wrap (s17.2.1 + 1)))) rfl) rfl ?_; refine WL_nil ?_
        have hO : Owns G65 w64 w0.heap.size ([⟨3, 1, np25_0, .slice ap25_0 np25_0 cp25_0, clap25_0⟩, ⟨99, 64, 1, .slice (some ⟨b9, 0, none⟩) 1 1, cellsT p25.2⟩]) := hO
        have H := Option.some.inj H; subst H; refine ⟨_, rfl, ?_⟩
        have l1_3 := leG22.trans leG65
        exact ⟨_, G65, ap25_0, np25_0, cp25_0, clap25_0, upds_self _ _ ⟨rfl, rfl, rfl, rfl, rfl, rfl, rfl, trivial⟩, l1_3, hS, hO, hnhp25_0, hp25_0⟩
      ·have H := ifF hb23 H; refine WC_exit rfl ?_
       have hO : Owns G22 w21 w0.heap.size ([⟨3, 1, ns17_0, .slice as17_0 ns17_0 cs17_0, clas17_0⟩, ⟨99, 64, 1, .slice (some ⟨b9, 0, none⟩) 1 1, cellsT s17.2.2⟩]) := hO
       have H := Option.some.inj H; subst H
       have hres := hqq19 _ rfl
       subst hres
       exact ⟨_, _, G22, as17_0, ns17_0, cs17_0, clas17_0, rfl, upds_self _ _ ⟨rfl, rfl, trivial⟩, leG22, hS, hO, hnhs17_0, hs17_0⟩
    ·rintro F w67 ⟨p18, Fb, G68, ap18_0, np18_0, cp18_0, clap18_0, rfl, rfl, leG68, hS, hO, hnhp18_0, hp18_0⟩
     refine WC_seq ?_; refine WC_region ?_; refine WL_val (rn_loadA ag43 (cs := [.slice a1 n1 c1, .slice a2 n2 c2, .slice a3 n3 c3]) rfl rfl (fun j v hj => (hS.sat.le leG68).cell (hcb4.drop_take 0 3 j v hj))) rfl ?_; refine WL_op rfl (OpP_in1 (N' := 7) [.agg #[.slice a1 n1 c1, .slice a2 n2 c2, .slice a3 n3 c3]] cb42 Tryz.func42 rfl rfl rfl rfl rfl rfl ?_); refine WC_seq ?_; refine WC_region ?_; refine WL_op rfl (OpP_newF (v := fun b => .pointer (some ⟨b, 0, none⟩)) (cs := [.slice a1 n1 c1, .slice a2 n2 c2, .slice a3 n3 c3]) (e := 43) (rn_boxA rfl) hS.sat rfl (fun b69 G71 w70 hg hcb69 => ?_)); have hS := hS.grow hg; have hO := hO.grow hg
     have leG71 := hg.le
     refine WL_val (rn_assign (v := (.pointer none)) rfl) rfl ?_; refine WL_nil ?_; refine WC_seq ?_; refine WC_region ?_; refine WL_val (rn_loadA ag43 (cs := [.slice a1 n1 c1, .slice a2 n2 c2, .slice a3 n3 c3]) rfl rfl (fun j v hj => hS.sat.cell (hcb69.drop_take 0 3 j v hj))) rfl ?_; refine WL_op rfl (OpP_makeMap (e := 157) hS hO rfl (fun r72 w73 hS hO => ?_))
     have hO : Owns G71 w73 w0.heap.size ([⟨157, 2, ([] : (List (Int × Bool))).length, .map (some r72), kvs kvI vvB ([] : (List (Int × Bool)))⟩, ⟨3, 1, np18_0, .slice ap18_0 np18_0 cp18_0, clap18_0⟩, ⟨99, 64, 1, .slice (some ⟨b9, 0, none⟩) 1 1, cellsT p18.2⟩]) := hO
     refine WL_val (v := (.agg #[.slice a1 n1 c1, .slice a2 n2 c2, .slice a3 n3 c3, .map (some r72)])) (by kernel_rfl) rfl ?_
     refine WL_op rfl (OpP_newF (v := fun b => .pointer (some ⟨b, 0, none⟩)) (cs := [.slice a1 n1 c1, .slice a2 n2 c2, .slice a3 n3 c3, .map (some r72)]) (e := 162) (rn_boxA rfl) hS.sat rfl (fun b75 G77 w76 hg hcb75 => ?_)); have hS := hS.grow hg; have hO := hO.grow hg
     have leG77 := hg.le
     refine WL_val (rn_assign (v := (.pointer (some ⟨b75, 0, none⟩))) rfl) rfl ?_; refine WL_nil ?_; refine WC_ret ?_; refine ⟨(.pointer (some ⟨b75, 0, none⟩)), rfl, ?_⟩
     have hO : Owns G77 w76 w0.heap.size ([⟨157, 2, ([] : (List (Int × Bool))).length, .map (some r72), kvs kvI vvB ([] : (List (Int × Bool)))⟩, ⟨3, 1, np18_0, .slice ap18_0 np18_0 cp18_0, clap18_0⟩, ⟨99, 64, 1, .slice (some ⟨b9, 0, none⟩) 1 1, cellsT p18.2⟩]) := hO
     refine WL_val (rn_assign (v := (.pointer (some ⟨b75, 0, none⟩))) rfl) rfl ?_; refine WL_nil ?_; refine WC_seq ?_; refine WC_seq ?_; refine WC_region ?_; refine WL_val (rn_assign (v := (.int .i64 1)) rfl) rfl ?_; refine WL_nil ?_; obtain ⟨q80, hq80, H⟩ := bnd H; refine WC_cut (fun F w => ∃ (p79 : (Tb 64) × (List (Int × Bool))) (Fb : Fr) (G : Gm), q80 = .inl p79 ∧ F = upds Fb [(9, .slice ap18_0 np18_0 cp18_0)] ∧ Gle G77 G ∧ Since w0.heap.size G0 w0 G w ∧ Owns G w w0.heap.size [⟨157, 2, (p79.2).length, .map (some r72), kvs kvI vvB (p79.2)⟩, ⟨3, 1, np18_0, .slice ap18_0 np18_0 cp18_0, clap18_0⟩, ⟨99, 64, 1, .slice (some ⟨b9, 0, none⟩) 1 1, cellsT p79.1⟩]) ?_ ?_
     ·refine WC_block (WC_loop hq80 (fun s78 F w => ∃ (Fb : Fr) (G : Gm), F = upds Fb [(2, .pointer (some ⟨b4, 0, none⟩)), (9, .slice ap18_0 np18_0 cp18_0), (15, .pointer (some ⟨b75, 0, none⟩)), (16, .int .i64 s78.1)] ∧ Gle G77 G ∧ Since w0.heap.size G0 w0 G w ∧ Owns G w w0.heap.size [⟨157, 2, (s78.2.2).length, .map (some r72), kvs kvI vvB (s78.2.2)⟩, ⟨3, 1, np18_0, .slice ap18_0 np18_0 cp18_0, clap18_0⟩, ⟨99, 64, 1, .slice (some ⟨b9, 0, none⟩) 1 1, cellsT s78.2.1⟩]) ?_ ?_)
      ·have hO : Owns G77 w76 w0.heap.size ([⟨157, 2, ([] : (List (Int × Bool))).length, .map (some r72), kvs kvI vvB ([] : (List (Int × Bool)))⟩, ⟨3, 1, np18_0, .slice ap18_0 np18_0 cp18_0, clap18_0⟩, ⟨99, 64, 1, .slice (some ⟨b9, 0, none⟩) 1 1, cellsT p18.2⟩]) := hO
       exact ⟨_, G77, upds_self _ _ ⟨rfl, rfl, rfl, rfl, trivial⟩, Gle.refl _, hS, hO⟩
      ·rintro s78 F w82 t81 ⟨Fb, G83, rfl, leG83, hS, hO⟩
       intro H1 hqq80
       have Hoq80 := H; have H := H1
       unfold f12_b2 at H
       refine WC_seq ?_; refine WC_seq ?_; refine WC_region ?_; refine WL_val (rn_move (v := (.int .i64 s78.1)) rfl) rfl ?_; refine WL_val (rn_move (v := (.slice ap18_0 np18_0 cp18_0)) rfl) rfl ?_; refine WL_val (rn_len (m := p18.1.length) sl22 rfl rfl hnhp18_0) rfl ?_; refine WL_val (rn_lss rfl rfl) rfl ?_; refine WL_nil ?_; refine WC_cond rfl (fun hb84 => ?_) (fun hb84 => ?_)
       ·have H := ifT hb84 H; refine WC_skip ?_; refine WC_seq ?_; refine WC_block ?_; refine WC_seq ?_; have hS := hS.keep (below_drew _); have hO := hO.below (below_drew _)
        refine WC_regionD mixedO (fun _ w => Sat G83 w ∧ Owns G83 w w0.heap.size [⟨157, 2, (s78.2.2).length, .map (some r72), kvs kvI vvB (s78.2.2)⟩, ⟨3, 1, np18_0, .slice ap18_0 np18_0 cp18_0, clap18_0⟩, ⟨99, 64, 1, .slice (some ⟨b9, 0, none⟩) 1 1, cellsT s78.2.1⟩]) (.fl 0 (.fl 1 (.fl 2 (.fl 3 (.fl 4 (.fl 5 (.fl 6 (.fl 7 (.fl 8 (.fl 9 (.fl 10 (.fl 11 (.fl 12 (.on 13 (.on 14 (.on 15 (.on 16 (.on 17 (.on 18 (.on 19 (.on 20 (.on 21 .nil)))))))))))))))))))))) (by kernel_rfl) rfl (by kernel_rfl) (fun _ => ⟨hS.sat, hO⟩) ?_
        refine WD_val rfl (fun w hw => rn_move (v := (.pointer (some ⟨b75, 0, none⟩))) rfl) rfl ?_; refine WD_val rfl (fun w hw => rn_fld fd43_1 rfl) rfl ?_; refine WD_val rfl (fun w hw => rn_load na40 rfl ((hw.1.le (((leG68.trans leG71).trans leG77).trans leG83)).cell (hcb4 1 _ rfl))) rfl ?_; refine WD_val rfl (fun w hw => rn_move (v := (.slice ap18_0 np18_0 cp18_0)) rfl) rfl ?_; refine WD_val rfl (fun w hw => rn_move (v := (.int .i64 s78.1)) rfl) rfl ?_; obtain ⟨y85, hy85, H⟩ := bnd H
        have l2_5 := (leG71.trans leG77).trans leG83
        refine WD_idxO rfl sl22 hO (k := 1) rfl hnhp18_0 (hp18_0.mono RInt_mono l2_5) hy85 rfl rfl rfl ?_
        rintro b86 ob86 _ hb86 _ hcb86 ⟨⟩
        refine WD_val rfl (fun w hw => rn_load na3 rfl (own_cellB hw.2 (k := 1) rfl hb86 _ 0 (hcb86 0 _ rfl))) rfl ?_; obtain ⟨y87, hy87, H⟩ := bnd H
        have l0_5 := (leG6.trans leG68).trans l2_5
        refine WD_idx rfl sl40 (h2.mono RTLandEvent_mono l0_5) hy87 rfl rfl rfl ?_
        rintro b88 o88 _ hcb88 _ ⟨⟩
        refine WD_val rfl (fun w hw => rn_fld fd45_1 rfl) rfl ?_; refine WD_val rfl (fun w hw => rn_load na3 rfl (hw.1.cell (hcb88 1 _ rfl))) rfl ?_; refine WD_val rfl (fun w hw => rn_fld fd43_1 rfl) rfl ?_; refine WD_val rfl (fun w hw => rn_load na40 rfl ((hw.1.le (leG68.trans l2_5)).cell (hcb4 1 _ rfl))) rfl ?_; refine WD_val rfl (fun w hw => rn_move (v := (.slice ap18_0 np18_0 cp18_0)) rfl) rfl ?_; refine WD_op rfl rfl (OpP_val (rn_move (v := (.int .i64 s78.1)) rfl) rfl ?_); refine ⟨fun _ _ => ⟨hS.sat, hO⟩, ?_⟩; refine WD_op rfl rfl (OpP_val (rn_sub rfl rfl) rfl ?_); refine ⟨fun _ _ => ⟨hS.sat, hO⟩, ?_⟩; obtain ⟨y89, hy89, H⟩ := bnd H; refine WD_op rfl rfl (OpP_idxO sl22 hO (k := 1) rfl hnhp18_0 (hp18_0.mono RInt_mono l2_5) hy89 rfl rfl rfl ?_)
        rintro b90 ob90 _ hb90 _ hcb90 ⟨⟩
        refine ⟨fun _ _ => ⟨hS.sat, hO⟩, ?_⟩; refine WD_op rfl rfl (OpP_val (rn_load na3 rfl (own_cellB hO (k := 1) rfl hb90 _ 0 (hcb90 0 _ rfl))) rfl ?_); refine ⟨fun _ _ => ⟨hS.sat, hO⟩, ?_⟩; obtain ⟨y91, hy91, H⟩ := bnd H; refine WD_op rfl rfl (OpP_idx sl40 (h2.mono RTLandEvent_mono l0_5) hy91 rfl rfl rfl ?_)
        rintro b92 o92 _ hcb92 _ ⟨⟩
        refine ⟨fun _ _ => ⟨hS.sat, hO⟩, ?_⟩; refine WD_op rfl rfl (OpP_val (rn_fld fd45_1 rfl) rfl ?_); refine ⟨fun _ _ => ⟨hS.sat, hO⟩, ?_⟩; refine WD_op rfl rfl (OpP_val (rn_load na3 rfl (hS.sat.cell (hcb92 1 _ rfl))) rfl ?_); refine ⟨fun _ _ => ⟨hS.sat, hO⟩, ?_⟩; obtain ⟨y93, hy93, H⟩ := bnd H
        have hx95 := f43_ok (x0 := x0) (x1 := y87.Holder) (x2 := y91.Holder) hS.sat (hcb75.mono leG83) (h1.mono RTLandPerson_mono l0_5) (h2.mono RTLandEvent_mono l0_5) (h3.mono RTLandMemory_mono l0_5) hy93
        refine WD_op rfl rfl (OpP_callV cb43 hx95 rfl rfl (fun w94 hb => ?_)); have hS := hS.keep hb; have hO := hO.below hb
        refine ⟨fun _ h => noneed (by kernel_rfl) h, ?_⟩
        refine WD_op rfl rfl (OpP_val (rn_not rfl) rfl ?_)
        refine ⟨fun _ h => noneed (by kernel_rfl) h, ?_⟩
        refine WD_nil ?_; refine WC_cond rfl (fun hb96 => ?_) (fun hb96 => ?_)
        ·have H := ifT hb96 H; refine WC_seq ?_; refine WC_region ?_; refine WL_val (rn_move (v := (.slice ap18_0 np18_0 cp18_0)) rfl) rfl ?_; refine WL_val (rn_move (v := (.int .i64 s78.1)) rfl) rfl ?_; refine WL_val (rn_assign (v := (.slice ap18_0 np18_0 cp18_0)) rfl) rfl ?_; refine WL_val (rn_assign (v := (.int .i64 s78.1)) rfl) rfl ?_; refine WL_val (rn_assign (v := (.int .i64 0)) rfl) rfl ?_; refine WL_nil ?_; refine WC_ret ?_; obtain ⟨G97, leG97, hS, hO, hfG97⟩ := hO.freezeS hS RInt_mono (k := 1) rfl (hp18_0.mono RInt_mono l2_5) hnhp18_0; have H := Option.some.inj H; subst H
         have hres := hqq80 _ rfl
         subst hres; have H := Hoq80
         have H : some (p18.1, s78.1, 0) = some r := H
         have H := Option.some.inj H; subst H
         exact ⟨_, _, rfl, hS.toGrow, _, _, _, rfl, hfG97⟩
        ·have H := ifF hb96 H; refine WC_skip ?_; refine WC_region ?_; refine WL_val (rn_move (v := (.int .i64 s78.1)) rfl) rfl ?_; refine WL_val (rn_add rfl rfl) rfl ?_; refine WL_val (rn_assign (v := (.int .i64 (IntKind.i64.wrap (s78.1 + 1)))) rfl) rfl ?_; refine WL_nil ?_
         have hO : Owns G83 w94 w0.heap.size ([⟨157, 2, (s78.2.2).length, .map (some r72), kvs kvI vvB (s78.2.2)⟩, ⟨3, 1, np18_0, .slice ap18_0 np18_0 cp18_0, clap18_0⟩, ⟨99, 64, 1, .slice (some ⟨b9, 0, none⟩) 1 1, cellsT s78.2.1⟩]) := hO
         have H := Option.some.inj H; subst H; refine ⟨_, rfl, ?_⟩
         exact ⟨_, G83, upds_self _ _ ⟨rfl, rfl, rfl, rfl, trivial⟩, leG83, hS, hO⟩
       ·have H := ifF hb84 H; refine WC_exit rfl ?_
        have hO : Owns G83 w82 w0.heap.size ([⟨157, 2, (s78.2.2).length, .map (some r72), kvs kvI vvB (s78.2.2)⟩, ⟨3, 1, np18_0, .slice ap18_0 np18_0 cp18_0, clap18_0⟩, ⟨99, 64, 1, .slice (some ⟨b9, 0, none⟩) 1 1, cellsT s78.2.1⟩]) := hO
        have H := Option.some.inj H; subst H
        have hres := hqq80 _ rfl
        subst hres
        exact ⟨_, _, G83, rfl, upds_self _ _ ⟨rfl, trivial⟩, leG83, hS, hO⟩
     ·rintro F w98 ⟨p79, Fb, G99, rfl, rfl, leG99, hS, hO⟩
      refine WC_seq ?_; refine WC_region ?_; refine WL_val (rn_move (v := (.slice ap18_0 np18_0 cp18_0)) rfl) rfl ?_; refine WL_val (rn_assign (v := (.slice ap18_0 np18_0 cp18_0)) rfl) rfl ?_; refine WL_val (rn_assign (v := (.int .i64 (-1))) rfl) rfl ?_; refine WL_val (rn_assign (v := (.int .i64 0)) rfl) rfl ?_; refine WL_nil ?_; refine WC_ret ?_
      have l2_5 := (leG71.trans leG77).trans leG99
      obtain ⟨G100, leG100, hS, hO, hfG100⟩ := hO.freezeS hS RInt_mono (k := 1) rfl (hp18_0.mono RInt_mono l2_5) hnhp18_0
      have H : some (p18.1, (-1), 0) = some r := H
      have H := Option.some.inj H; subst H
      exact ⟨_, _, rfl, hS.toGrow, _, _, _, rfl, hfG100⟩
 ·refine WD_op rfl rfl (OpP_newO (v := fun b => .pointer (some ⟨b, 0, none⟩)) (cs := (cellsT (Tb.zero 64))) (e := 99) (by kernel_rfl) hS.sat hO rfl 64 1 (cellsT_len _) (by decide) (fun b7 w8 hb hO => ?_))
  have hS := hS.keep hb; refine ⟨fun _ _ => ⟨hS.sat, trivial⟩, ?_⟩; obtain ⟨y10, hy10, H⟩ := bnd H; refine WD_op rfl rfl (OpP_callV cb36 (f36_ok (x0 := x1) (x1 := 0) (x2 := 5) hS.sat  hy10) rfl rfl (fun w11 hb => ?_)); have hS := hS.keep hb; have hO := hO.below hb; refine ⟨fun _ _ => ⟨hS.sat, trivial⟩, ?_⟩; obtain ⟨y12, hy12, H⟩ := bnd H; refine WD_op rfl rfl (OpP_callV cb39 (f39_ok (x0 := x0) (x1 := y10) hS.sat (h1.mono RTLandPerson_mono leG6) (h2.mono RTLandEvent_mono leG6) (h3.mono RTLandMemory_mono leG6) hy12) rfl rfl (fun w13 hb => ?_)); have hS := hS.keep hb; have hO := hO.below hb; refine ⟨fun _ _ => ⟨hS.sat, trivial⟩, ?_⟩; refine WD_op rfl rfl (OpP_val (rn_move (v := (.tuple #[.agg (cellsT y12.1).toArray, .int .i64 y12.2])) rfl) rfl ?_); refine ⟨fun _ _ => ⟨hS.sat, trivial⟩, ?_⟩; refine WD_val rfl (fun w hw => rn_extract (v := (.agg (cellsT y12.1).toArray)) rfl rfl) rfl ?_; refine WD_val rfl (fun w hw => rn_extract (v := (.int .i64 y12.2)) rfl rfl) rfl ?_; refine WD_op rfl rfl (OpP_storeTT sz99 hS hO (k := 0) rfl rfl rfl (fun w14 hS hO => ?_))
  have hO : Owns G6 w14 w0.heap.size ([⟨99, 64, 1, .slice (some ⟨b7, 0, none⟩) 1 1, cellsT y12.1⟩]) := hO
  refine ⟨fun _ _ => ⟨hS.sat, trivial⟩, ?_⟩; refine WD_op rfl rfl (OpP_val (rn_assign (v := (.int .i64 y12.2)) rfl) rfl ?_)
  refine ⟨fun _ h => noneed (by kernel_rfl) h, ?_⟩
  refine WD_nil ?_; refine WC_seq ?_; refine WC_seq ?_; refine WC_region ?_; refine WL_val (rn_move (v := (.int .i64 y12.2)) rfl) rfl ?_; refine WL_val (rn_neq rfl rfl) rfl ?_; refine WL_nil ?_; refine WC_cond rfl (fun hb15 => ?_) (fun hb15 => ?_)
  ·have H := ifT hb15 H; refine WC_seq ?_; refine WC_region ?_; refine WL_val (rn_move (v := (.int .i64 y12.2)) rfl) rfl ?_; refine WL_val (rn_assign (v := (.slice none 0 0)) rfl) rfl ?_; refine WL_val (rn_assign (v := (.int .i64 0)) rfl) rfl ?_; refine WL_val (rn_assign (v := (.int .i64 y12.2)) rfl) rfl ?_; refine WL_nil ?_; refine WC_ret ?_
   have H : some ([], 0, y12.2) = some r := H
   have H := Option.some.inj H; subst H
   exact ⟨_, _, rfl, hS.toGrow, _, _, _, rfl, (RSl.nil RInt 1 G6 none)⟩
  ·have H := ifF hb15 H; refine WC_skip ?_; refine WC_seq ?_; refine WC_region ?_; refine WL_val (rn_assign (v := (.slice none 0 0)) rfl) rfl ?_; refine WL_nil ?_; refine WC_seq ?_; refine WC_seq ?_; refine WC_region ?_; refine WL_val (rn_fld fd43_1 rfl) rfl ?_; refine WL_val (rn_load na40 rfl (hS.sat.cell (hcb4 1 _ rfl))) rfl ?_; refine WL_val (rn_len sl40 rfl rfl (h2.mono RTLandEvent_mono leG6).1) rfl ?_; refine WL_val (rn_move (v := (.int .i64 0)) rfl) rfl ?_; refine WL_nil ?_; have hO := hO.cons_nil 3 1; obtain ⟨q19, hq19, H⟩ := bnd H; refine WC_cut (fun F w => ∃ (p18 : (List Int) × (Tb 64)) (Fb : Fr) (G : Gm) (ap18_0 : Option Addr) (np18_0 cp18_0 : Nat) (clap18_0 : List Value), q19 = .inl p18 ∧ F = upds Fb [(2, .pointer (some ⟨b4, 0, none⟩)), (9, .slice ap18_0 np18_0 cp18_0)] ∧ Gle G6 G ∧ Since w0.heap.size G0 w0 G w ∧ Owns G w w0.heap.size [⟨3, 1, np18_0, .slice ap18_0 np18_0 cp18_0, clap18_0⟩, ⟨99, 64, 1, .slice (some ⟨b7, 0, none⟩) 1 1, cellsT p18.2⟩] ∧ np18_0 = p18.1.length ∧ Rd RInt 1 G clap18_0 p18.1) ?_ ?_
   ·refine WC_block (WC_loop hq19 (fun s17 F w => ∃ (Fb : Fr) (G : Gm) (as17_0 : Option Addr) (ns17_0 cs17_0 : Nat) (clas17_0 : List Value), F = upds Fb [(1, .int .i64 x1), (2, .pointer (some ⟨b4, 0, none⟩)), (7, .pointer (some ⟨b7, 0, none⟩)), (9, .slice as17_0 ns17_0 cs17_0), (28, .slice a2 n2 c2), (29, .int .i64 (x0.Events.length : Int)), (30, .int .i64 s17.2.1)] ∧ Gle G6 G ∧ Since w0.heap.size G0 w0 G w ∧ Owns G w w0.heap.size [⟨3, 1, ns17_0, .slice as17_0 ns17_0 cs17_0, clas17_0⟩, ⟨99, 64, 1, .slice (some ⟨b7, 0, none⟩) 1 1, cellsT s17.2.2⟩] ∧ ns17_0 = s17.1.length ∧ Rd RInt 1 G clas17_0 s17.1) ?_ ?_)
    ·have hO : Owns G6 w14 w0.heap.size ([⟨3, 1, 0, .slice none 0 0, []⟩, ⟨99, 64, 1, .slice (some ⟨b7, 0, none⟩) 1 1, cellsT y12.1⟩]) := hO
     exact ⟨_, G6, none, 0, 0, [], upds_self _ _ ⟨rfl, rfl, rfl, rfl, rfl, rfl, rfl, trivial⟩, Gle.refl _, hS, hO, rfl, (Rd.nil RInt 1 G6)⟩
    ·rintro s17 F w21 t20 ⟨Fb, G22, as17_0, ns17_0, cs17_0, clas17_0, rfl, leG22, hS, hO, hnhs17_0, hs17_0⟩
     intro H1 hqq19
     have Hoq19 := H; have H := H1
     unfold f12_b0 at H
     refine WC_seq ?_; refine WC_region ?_; refine WL_val (rn_lss rfl rfl) rfl ?_; refine WL_nil ?_; refine WC_seq ?_; refine WC_cond rfl (fun hb23 => ?_) (fun hb23 => ?_)
     ·have H := ifT hb23 H; refine WC_skip ?_; refine WC_seq ?_; obtain ⟨q24, hq24, H⟩ := bnd H; refine WC_cut (fun F w => ∃ (p25 : (List Int) × (Tb 64)) (Fb : Fr) (G : Gm) (ap25_0 : Option Addr) (np25_0 cp25_0 : Nat) (clap25_0 : List Value), q24 = .inl p25 ∧ F = upds Fb [(1, .int .i64 x1), (2, .pointer (some ⟨b4, 0, none⟩)), (7, .pointer (some ⟨b7, 0, none⟩)), (9, .slice ap25_0 np25_0 cp25_0), (28, .slice a2 n2 c2), (29, .int .i64 (x0.Events.length : Int)), (30, .int .i64 s17.2.1)] ∧ Gle G22 G ∧ Since w0.heap.size G0 w0 G w ∧ Owns G w w0.heap.size [⟨3, 1, np25_0, .slice ap25_0 np25_0 cp25_0, clap25_0⟩, ⟨99, 64, 1, .slice (some ⟨b7, 0, none⟩) 1 1, cellsT p25.2⟩] ∧ np25_0 = p25.1.length ∧ Rd RInt 1 G clap25_0 p25.1) ?_ ?_
      ·have Hoq24 := H; have H := hq24; refine WC_block ?_; refine WC_seq ?_; refine WC_region ?_; refine WL_val (rn_move (v := (.int .i64 s17.2.1)) rfl) rfl ?_; obtain ⟨y26, hy26, H⟩ := bnd H
       have l0_2 := leG6.trans leG22
       refine WL_idx sl40 (h2.mono RTLandEvent_mono l0_2) hy26 rfl rfl rfl ?_
       rintro b27 o27 _ hcb27 _ ⟨⟩
       refine WL_val (rn_loadA ag45 (cs := [.int .i64 y26.Strip, .int .i64 y26.Holder]) rfl rfl (fun j v hj => hS.sat.cell (hcb27.drop_take 0 2 j v hj))) rfl ?_
       refine WL_op rfl (OpP_newO (v := fun b => .pointer (some ⟨b, 0, none⟩)) (cs := [.int .i64 0, .int .i64 0]) (e := 45) (by kernel_rfl) hS.sat hO rfl 2 1 rfl (by decide) (fun b28 w29 hb hO => ?_))
       have hS := hS.keep hb; refine WL_val (rn_assign (v := (.int .i64 s17.2.1)) rfl) rfl ?_; refine WL_op rfl (OpP_store (vs := [.int .i64 y26.Strip, .int .i64 y26.Holder]) sz45 hS hO (k := 0) rfl rfl rfl rfl rfl (one_all rfl) (Nat.le_of_ble_eq_true rfl) (fun w31 hS hO => ?_))
       have hO : Owns G22 w31 w0.heap.size ([⟨45, 2, 1, .slice (some ⟨b28, 0, none⟩) 1 1, [.int .i64 y26.Strip, .int .i64 y26.Holder]⟩, ⟨3, 1, ns17_0, .slice as17_0 ns17_0 cs17_0, clas17_0⟩, ⟨99, 64, 1, .slice (some ⟨b7, 0, none⟩) 1 1, cellsT s17.2.2⟩]) := hO
       obtain ⟨G32, leG32, hS, hO, hqG32, _⟩ := hO.freeze hS (k := 0) rfl
       have hcG32 : Cells G32 b28 0 [.int .i64 y26.Strip, .int .i64 y26.Holder] := (hqG32 _ _ _ _ rfl)
       refine WL_nil ?_; refine WC_seq ?_; refine WC_seq ?_; refine WC_region ?_; refine WL_val (rn_fld fd45_0 rfl) rfl ?_; refine WL_val (rn_load na3 rfl (hS.sat.cell (hcG32 0 _ rfl))) rfl ?_; refine WL_val (rn_move (v := (.int .i64 x1)) rfl) rfl ?_; refine WL_val (rn_neq rfl rfl) rfl ?_; refine WL_nil ?_; refine WC_cond rfl (fun hb33 => ?_) (fun hb33 => ?_)
       ·have H := ifT hb33 H; refine WC_exit rfl ?_
        have hO : Owns G32 w31 w0.heap.size ([⟨3, 1, ns17_0, .slice as17_0 ns17_0 cs17_0, clas17_0⟩, ⟨99, 64, 1, .slice (some ⟨b7, 0, none⟩) 1 1, cellsT s17.2.2⟩]) := hO
        have H := Option.some.inj H; subst H
        exact ⟨_, _, G32, as17_0, ns17_0, cs17_0, clas17_0, rfl, upds_self _ _ ⟨rfl, rfl, rfl, rfl, rfl, rfl, rfl, trivial⟩, leG32, hS, hO, hnhs17_0, (hs17_0.mono RInt_mono leG32)⟩
       ·have H := ifF hb33 H; refine WC_skip ?_; refine WC_seq ?_; refine WC_region ?_; refine WL_val (rn_move (v := (.slice as17_0 ns17_0 cs17_0)) rfl) rfl ?_; refine WL_val (rn_len (m := s17.1.length) sl22 rfl rfl hnhs17_0) rfl ?_; refine WL_val (rn_assign (v := (.int .i64 (s17.1.length : Int))) rfl) rfl ?_; refine WL_nil ?_; refine WC_seq ?_; refine WC_seq ?_; refine WC_region ?_; refine WL_val (rn_move (v := (.slice as17_0 ns17_0 cs17_0)) rfl) rfl ?_; refine WL_val (rn_len (m := s17.1.length) sl22 rfl rfl hnhs17_0) rfl ?_; refine WL_val (rn_move (v := (.int .i64 0)) rfl) rfl ?_; refine WL_nil ?_; obtain ⟨q36, hq36, H⟩ := bnd H; refine WC_cut (fun F w => ∃ (p35 : Int × (Tb 64)) (Fb : Fr) (G : Gm), q36 = .inl p35 ∧ F = upds Fb [(1, .int .i64 x1), (2, .pointer (some ⟨b4, 0, none⟩)), (7, .pointer (some ⟨b7, 0, none⟩)), (9, .slice as17_0 ns17_0 cs17_0), (10, .int .i64 s17.2.1), (12, .int .i64 p35.1), (28, .slice a2 n2 c2), (29, .int .i64 (x0.Events.length : Int)), (30, .int .i64 s17.2.1)] ∧ Gle G32 G ∧ Since w0.heap.size G0 w0 G w ∧ Owns G w w0.heap.size [⟨3, 1, ns17_0, .slice as17_0 ns17_0 cs17_0, clas17_0⟩, ⟨99, 64, 1, .slice (some ⟨b7, 0, none⟩) 1 1, cellsT p35.2⟩]) ?_ ?_
        ·refine WC_block (WC_loop hq36 (fun s34 F w => ∃ (Fb : Fr) (G : Gm), F = upds Fb [(1, .int .i64 x1), (2, .pointer (some ⟨b4, 0, none⟩)), (7, .pointer (some ⟨b7, 0, none⟩)), (9, .slice as17_0 ns17_0 cs17_0), (10, .int .i64 s17.2.1), (12, .int .i64 s34.1), (28, .slice a2 n2 c2), (29, .int .i64 (x0.Events.length : Int)), (30, .int .i64 s17.2.1), (41, .slice as17_0 ns17_0 cs17_0), (42, .int .i64 (s17.1.length : Int)), (43, .int .i64 s34.2.1)] ∧ Gle G32 G ∧ Since w0.heap.size G0 w0 G w ∧ Owns G w w0.heap.size [⟨3, 1, ns17_0, .slice as17_0 ns17_0 cs17_0, clas17_0⟩, ⟨99, 64, 1, .slice (some ⟨b7, 0, none⟩) 1 1, cellsT s34.2.2⟩]) ?_ ?_)
         ·have hO : Owns G32 w31 w0.heap.size ([⟨3, 1, ns17_0, .slice as17_0 ns17_0 cs17_0, clas17_0⟩, ⟨99, 64, 1, .slice (some ⟨b7, 0, none⟩) 1 1, cellsT s17.2.2⟩]) := hO
          exact ⟨_, G32, upds_self _ _ ⟨rfl, rfl, rfl, rfl, rfl, rfl, rfl, rfl, rfl, rfl, rfl, rfl, trivial⟩, Gle.refl _, hS, hO⟩
         ·rintro s34 F w38 t37 ⟨Fb, G39, rfl, leG39, hS, hO⟩
          intro H1 hqq36
          have Hoq36 := H; have H := H1
          unfold f12_b1 at H
          refine WC_seq ?_; refine WC_region ?_; refine WL_val (rn_lss rfl rfl) rfl ?_; refine WL_nil ?_; refine WC_seq ?_; refine WC_cond rfl (fun hb40 => ?_) (fun hb40 => ?_)
          ·have H := ifT hb40 H; refine WC_skip ?_; refine WC_seq ?_; obtain ⟨q41, hq41, H⟩ := bnd H; refine WC_cut (fun F w => ∃ (p42 : Int) (Fb : Fr) (G : Gm), q41 = .inl p42 ∧ F = upds Fb [(1, .int .i64 x1), (2, .pointer (some ⟨b4, 0, none⟩)), (7, .pointer (some ⟨b7, 0, none⟩)), (9, .slice as17_0 ns17_0 cs17_0), (10, .int .i64 s17.2.1), (12, .int .i64 p42), (28, .slice a2 n2 c2), (29, .int .i64 (x0.Events.length : Int)), (30, .int .i64 s17.2.1), (41, .slice as17_0 ns17_0 cs17_0), (42, .int .i64 (s17.1.length : Int)), (43, .int .i64 s34.2.1)] ∧ Gle G39 G ∧ Since w0.heap.size G0 w0 G w ∧ Owns G w w0.heap.size [⟨3, 1, ns17_0, .slice as17_0 ns17_0 cs17_0, clas17_0⟩, ⟨99, 64, 1, .slice (some ⟨b7, 0, none⟩) 1 1, cellsT s34.2.2⟩]) ?_ ?_
           ·have Hoq41 := H; have H := hq41; refine WC_block ?_; refine WC_seq ?_; refine WC_region ?_; refine WL_val (rn_move (v := (.int .i64 s34.2.1)) rfl) rfl ?_; obtain ⟨y43, hy43, H⟩ := bnd H
            have l2_4 := leG32.trans leG39
            refine WL_idxO sl22 hO (k := 0) rfl hnhs17_0 (hs17_0.mono RInt_mono l2_4) hy43 rfl rfl rfl ?_
            rintro b44 ob44 _ hb44 _ hcb44 ⟨⟩
            refine WL_val (rn_load na3 rfl (own_cellB hO (k := 0) rfl hb44 _ 0 (hcb44 0 _ rfl))) rfl ?_; refine WL_val (rn_assign (v := (.int .i64 s34.2.1)) rfl) rfl ?_; refine WL_val (rn_assign (v := (.int .i64 y43)) rfl) rfl ?_; refine WL_nil ?_; refine WC_block ?_; refine WC_seq ?_; refine WC_region ?_; refine WL_val (rn_loadT ag99 hO (k := 1) rfl rfl) rfl ?_; refine WL_val (rn_move (v := (.int .i64 s17.2.1)) rfl) rfl ?_; refine WL_val (rn_move (v := (.int .i64 y43)) rfl) rfl ?_; obtain ⟨y45, hy45, H⟩ := bnd H; refine WL_op rfl (OpP_callV cb40 (f40_ok (x0 := s34.2.2) (x1 := s17.2.1) (x2 := y43) hS.sat  hy45) rfl rfl (fun w46 hb => ?_)); have hS := hS.keep hb; have hO := hO.below hb
            refine WL_val (v := (.int .i64 y45.Low)) (by kernel_rfl) rfl ?_
            refine WL_val (rn_gtr rfl rfl) rfl ?_; refine WL_val (rn_assign (v := (.bool (decide (0 < y45.Low)))) rfl) rfl ?_; refine WL_nil ?_; refine WC_cond rfl (fun hb47 => ?_) (fun hb47 => ?_)
            ·have H := ifT hb47 H; refine WC_region ?_; refine WL_val (rn_move (v := (.int .i64 s34.1)) rfl) rfl ?_; refine WL_val (rn_move (v := (.int .i64 s34.2.1)) rfl) rfl ?_; refine WL_val (rn_min rfl rfl) rfl ?_; refine WL_val (rn_assign (v := (.int .i64 (if s34.2.1 < s34.1 then s34.2.1 else s34.1))) rfl) rfl ?_; refine WL_nil ?_
             have hO : Owns G39 w46 w0.heap.size ([⟨3, 1, ns17_0, .slice as17_0 ns17_0 cs17_0, clas17_0⟩, ⟨99, 64, 1, .slice (some ⟨b7, 0, none⟩) 1 1, cellsT s34.2.2⟩]) := hO
             have H := Option.some.inj H; subst H
             exact ⟨_, _, G39, rfl, upds_self _ _ ⟨rfl, rfl, rfl, rfl, rfl, rfl, rfl, rfl, rfl, rfl, rfl, rfl, trivial⟩, Gle.refl _, hS, hO⟩
            ·have H := ifF hb47 H; refine WC_seq ?_; refine WC_region ?_; refine WL_val (rn_loadT ag99 hO (k := 1) rfl rfl) rfl ?_; refine WL_val (rn_move (v := (.int .i64 y43)) rfl) rfl ?_; refine WL_val (rn_move (v := (.int .i64 s17.2.1)) rfl) rfl ?_; obtain ⟨y48, hy48, H⟩ := bnd H; refine WL_op rfl (OpP_callV cb40 (f40_ok (x0 := s34.2.2) (x1 := y43) (x2 := s17.2.1) hS.sat  hy48) rfl rfl (fun w49 hb => ?_)); have hS := hS.keep hb; have hO := hO.below hb
             refine WL_val (v := (.int .i64 y48.Low)) (by kernel_rfl) rfl ?_
             refine WL_val (rn_leq rfl rfl) rfl ?_; refine WL_val (rn_assign (v := (.bool (decide (y48.Low ≤ 0)))) rfl) rfl ?_; refine WL_nil ?_; refine WC_cond rfl (fun hb50 => ?_) (fun hb50 => ?_)
             ·have H := ifT hb50 H; refine WC_seq ?_; refine WC_region ?_; refine WL_val (rn_assign (v := (.slice none 0 0)) rfl) rfl ?_; refine WL_val (rn_assign (v := (.int .i64 0)) rfl) rfl ?_; refine WL_val (rn_assign (v := (.int .i64 8)) rfl) rfl ?_; refine WL_nil ?_; refine WC_ret ?_; have H := Option.some.inj H; subst H; have H := Hoq41; have H := Option.some.inj H; subst H
              have hres := hqq36 _ rfl
              subst hres; have H := Hoq36; have H := Option.some.inj H; subst H; have H := Hoq24; have H := Option.some.inj H; subst H
              have hres := hqq19 _ rfl
              subst hres; have H := Hoq19
              have H : some ([], 0, 8) = some r := H
              have H := Option.some.inj H; subst H
              exact ⟨_, _, rfl, hS.toGrow, _, _, _, rfl, (RSl.nil RInt 1 G39 none)⟩
             ·have H := ifF hb50 H; refine WC_skip ?_
              have hO : Owns G39 w49 w0.heap.size ([⟨3, 1, ns17_0, .slice as17_0 ns17_0 cs17_0, clas17_0⟩, ⟨99, 64, 1, .slice (some ⟨b7, 0, none⟩) 1 1, cellsT s34.2.2⟩]) := hO
              have H := Option.some.inj H; subst H
              exact ⟨_, _, G39, rfl, upds_self _ _ ⟨rfl, rfl, rfl, rfl, rfl, rfl, rfl, rfl, rfl, rfl, rfl, rfl, trivial⟩, Gle.refl _, hS, hO⟩
           ·rintro F w51 ⟨p42, Fb, G52, rfl, rfl, leG52, hS, hO⟩
            refine WC_region ?_; refine WL_val (rn_add rfl rfl) rfl ?_; refine WL_val (rn_move (v := (.int .i64 (IntKind.i64.wrap (s34.2.1 + 1)))) rfl) rfl ?_; refine WL_nil ?_
            have hO : Owns G52 w51 w0.heap.size ([⟨3, 1, ns17_0, .slice as17_0 ns17_0 cs17_0, clas17_0⟩, ⟨99, 64, 1, .slice (some ⟨b7, 0, none⟩) 1 1, cellsT s34.2.2⟩]) := hO
            have H := Option.some.inj H; subst H; refine ⟨_, rfl, ?_⟩
            have l3_5 := leG39.trans leG52
            exact ⟨_, G52, upds_self _ _ ⟨rfl, rfl, rfl, rfl, rfl, rfl, rfl, rfl, rfl, rfl, rfl, rfl, trivial⟩, l3_5, hS, hO⟩
          ·have H := ifF hb40 H; refine WC_exit rfl ?_
           have hO : Owns G39 w38 w0.heap.size ([⟨3, 1, ns17_0, .slice as17_0 ns17_0 cs17_0, clas17_0⟩, ⟨99, 64, 1, .slice (some ⟨b7, 0, none⟩) 1 1, cellsT s34.2.2⟩]) := hO
           have H := Option.some.inj H; subst H
           have hres := hqq36 _ rfl
           subst hres
           exact ⟨_, _, G39, rfl, upds_self _ _ ⟨rfl, rfl, rfl, rfl, rfl, rfl, rfl, rfl, rfl, trivial⟩, leG39, hS, hO⟩
        ·rintro F w54 ⟨p35, Fb, G55, rfl, rfl, leG55, hS, hO⟩
         refine WC_region ?_; refine WL_val (rn_move (v := (.slice as17_0 ns17_0 cs17_0)) rfl) rfl ?_; refine WL_val (rn_move (v := (.int .i64 p35.1)) rfl) rfl ?_; refine WL_val (rn_move (v := (.int .i64 s17.2.1)) rfl) rfl ?_
         refine WL_op rfl (OpP_newO (v := fun b => .slice (some ⟨b, 0, none⟩) 1 1) (cs := [.int .i64 s17.2.1]) (e := 3) (by kernel_rfl) hS.sat hO rfl 1 1 rfl (by decide) (fun b56 w57 hb hO => ?_))
         have hS := hS.keep hb
         have hrb56 : Rd RInt 1 G55 [.int .i64 s17.2.1] [s17.2.1] := (Rd.cons (c := [.int .i64 s17.2.1]) rfl rfl (Rd.nil RInt 1 _))
         have hO := hO.front (k := 0) rfl; have hO := hO.front (k := 1) rfl
         have hO : Owns G55 w57 w0.heap.size ([⟨3, 1, ns17_0, .slice as17_0 ns17_0 cs17_0, clas17_0⟩, ⟨3, 1, 1, .slice (some ⟨b56, 0, none⟩) 1 1, [.int .i64 s17.2.1]⟩, ⟨99, 64, 1, .slice (some ⟨b7, 0, none⟩) 1 1, cellsT p35.2⟩]) := hO
         obtain ⟨y59, hy59, H⟩ := bnd H
         have l2_4 := leG32.trans leG55
         refine WL_op rfl (OpP_lent (fi := []) (al := [.slice as17_0 ns17_0 cs17_0, .int .i64 p35.1, .slice (some ⟨b56, 0, none⟩) 1 1]) (ca := []) cb41 (f41_ok (i := p35.1) (x := s17.2.1) hS hO hnhs17_0 (hs17_0.mono RInt_mono l2_4) hy59) rfl rfl rfl (fun vG61 G61 w60 L62 leG61 hS hO hvG61 => ?_)); obtain ⟨aw60, cw60, clw60, rfl, rfl, hrw60⟩ := hvG61
         have hO : Owns G61 w60 w0.heap.size ([⟨3, 1, y59.length, .slice aw60 y59.length cw60, clw60⟩, ⟨3, 1, 1, .slice (some ⟨b56, 0, none⟩) 1 1, [.int .i64 s17.2.1]⟩, ⟨99, 64, 1, .slice (some ⟨b7, 0, none⟩) 1 1, cellsT p35.2⟩]) := hO
         have hO := hO.drop 1
         have hO : Owns G61 w60 w0.heap.size ([⟨3, 1, y59.length, .slice aw60 y59.length cw60, clw60⟩, ⟨99, 64, 1, .slice (some ⟨b7, 0, none⟩) 1 1, cellsT p35.2⟩]) := hO
         refine WL_val (rn_assign (v := (.slice aw60 y59.length cw60)) rfl) rfl ?_; refine WL_nil ?_
         have hO : Owns G61 w60 w0.heap.size ([⟨3, 1, y59.length, .slice aw60 y59.length cw60, clw60⟩, ⟨99, 64, 1, .slice (some ⟨b7, 0, none⟩) 1 1, cellsT p35.2⟩]) := hO
         have H := Option.some.inj H; subst H
         have l2_5 := l2_4.trans leG61
         exact ⟨_, _, G61, aw60, y59.length, cw60, clw60, rfl, upds_self _ _ ⟨rfl, rfl, rfl, rfl, rfl, rfl, rfl, trivial⟩, l2_5, hS, hO, rfl, hrw60⟩
      ·rintro F w64 ⟨p25, Fb, G65, ap25_0, np25_0, cp25_0, clap25_0, rfl, rfl, leG65, hS, hO, hnhp25_0, hp25_0⟩
       refine WC_region ?_; refine WL_val (rn_add rfl rfl) rfl ?_; refine WL_val (rn_move (v := (.int .i64 (IntKind.i64.wrap (s17.2.1 + 1)))) rfl) rfl ?_; refine WL_nil ?_
       have hO : Owns G65 w64 w0.heap.size ([⟨3, 1, np25_0, .slice ap25_0 np25_0 cp25_0, clap25_0⟩, ⟨99, 64, 1, .slice (some ⟨b7, 0, none⟩) 1 1, cellsT p25.2⟩]) := hO
       have H := Option.some.inj H; subst H; refine ⟨_, rfl, ?_⟩
       have l1_3 := leG22.trans leG65
       exact ⟨_, G65, ap25_0, np25_0, cp25_0, clap25_0, upds_self _ _ ⟨rfl, rfl, rfl, rfl, rfl, rfl, rfl, trivial⟩, l1_3, hS, hO, hnhp25_0, hp25_0⟩
     ·have H := ifF hb23 H; refine WC_exit rfl ?_
      have hO : Owns G22 w21 w0.heap.size ([⟨3, 1, ns17_0, .slice as17_0 ns17_0 cs17_0, clas17_0⟩, ⟨99, 64, 1, .slice (some ⟨b7, 0, none⟩) 1 1, cellsT s17.2.2⟩]) := hO
      have H := Option.some.inj H; subst H
      have hres := hqq19 _ rfl
      subst hres
      exact ⟨_, _, G22, as17_0, ns17_0, cs17_0, clas17_0, rfl, upds_self _ _ ⟨rfl, rfl, trivial⟩, leG22, hS, hO, hnhs17_0, hs17_0⟩
   ·rintro F w67 ⟨p18, Fb, G68, ap18_0, np18_0, cp18_0, clap18_0, rfl, rfl, leG68, hS, hO, hnhp18_0, hp18_0⟩
    refine WC_seq ?_; refine WC_region ?_; refine WL_val (rn_loadA ag43 (cs := [.slice a1 n1 c1, .slice a2 n2 c2, .slice a3 n3 c3]) rfl rfl (fun j v hj => (hS.sat.le leG68).cell (hcb4.drop_take 0 3 j v hj))) rfl ?_; refine WL_op rfl (OpP_in1 (N' := 7) [.agg #[.slice a1 n1 c1, .slice a2 n2 c2, .slice a3 n3 c3]] cb42 Tryz.func42 rfl rfl rfl rfl rfl rfl ?_); refine WC_seq ?_; refine WC_region ?_; refine WL_op rfl (OpP_newF (v := fun b => .pointer (some ⟨b, 0, none⟩)) (cs := [.slice a1 n1 c1, .slice a2 n2 c2, .slice a3 n3 c3]) (e := 43) (rn_boxA rfl) hS.sat rfl (fun b69 G71 w70 hg hcb69 => ?_)); have hS := hS.grow hg; have hO := hO.grow hg
    have leG71 := hg.le
    refine WL_val (rn_assign (v := (.pointer none)) rfl) rfl ?_; refine WL_nil ?_; refine WC_seq ?_; refine WC_region ?_; refine WL_val (rn_loadA ag43 (cs := [.slice a1 n1 c1, .slice a2 n2 c2, .slice a3 n3 c3]) rfl rfl (fun j v hj => hS.sat.cell (hcb69.drop_take 0 3 j v hj))) rfl ?_; refine WL_op rfl (OpP_makeMap (e := 157) hS hO rfl (fun r72 w73 hS hO => ?_))
    have hO : Owns G71 w73 w0.heap.size ([⟨157, 2, ([] : (List (Int × Bool))).length, .map (some r72), kvs kvI vvB ([] : (List (Int × Bool)))⟩, ⟨3, 1, np18_0, .slice ap18_0 np18_0 cp18_0, clap18_0⟩, ⟨99, 64, 1, .slice (some ⟨b7, 0, none⟩) 1 1, cellsT p18.2⟩]) := hO
    refine WL_val (v := (.agg #[.slice a1 n1 c1, .slice a2 n2 c2, .slice a3 n3 c3, .map (some r72)])) (by kernel_rfl) rfl ?_
    refine WL_op rfl (OpP_newF (v := fun b => .pointer (some ⟨b, 0, none⟩)) (cs := [.slice a1 n1 c1, .slice a2 n2 c2, .slice a3 n3 c3, .map (some r72)]) (e := 162) (rn_boxA rfl) hS.sat rfl (fun b75 G77 w76 hg hcb75 => ?_)); have hS := hS.grow hg; have hO := hO.grow hg
    have leG77 := hg.le
    refine WL_val (rn_assign (v := (.pointer (some ⟨b75, 0, none⟩))) rfl) rfl ?_; refine WL_nil ?_; refine WC_ret ?_; refine ⟨(.pointer (some ⟨b75, 0, none⟩)), rfl, ?_⟩
    have hO : Owns G77 w76 w0.heap.size ([⟨157, 2, ([] : (List (Int × Bool))).length, .map (some r72), kvs kvI vvB ([] : (List (Int × Bool)))⟩, ⟨3, 1, np18_0, .slice ap18_0 np18_0 cp18_0, clap18_0⟩, ⟨99, 64, 1, .slice (some ⟨b7, 0, none⟩) 1 1, cellsT p18.2⟩]) := hO
    refine WL_val (rn_assign (v := (.pointer (some ⟨b75, 0, none⟩))) rfl) rfl ?_; refine WL_nil ?_; refine WC_seq ?_; refine WC_seq ?_; refine WC_region ?_; refine WL_val (rn_assign (v := (.int .i64 1)) rfl) rfl ?_; refine WL_nil ?_; obtain ⟨q80, hq80, H⟩ := bnd H; refine WC_cut (fun F w => ∃ (p79 : (Tb 64) × (List (Int × Bool))) (Fb : Fr) (G : Gm), q80 = .inl p79 ∧ F = upds Fb [(9, .slice ap18_0 np18_0 cp18_0)] ∧ Gle G77 G ∧ Since w0.heap.size G0 w0 G w ∧ Owns G w w0.heap.size [⟨157, 2, (p79.2).length, .map (some r72), kvs kvI vvB (p79.2)⟩, ⟨3, 1, np18_0, .slice ap18_0 np18_0 cp18_0, clap18_0⟩, ⟨99, 64, 1, .slice (some ⟨b7, 0, none⟩) 1 1, cellsT p79.1⟩]) ?_ ?_
    ·refine WC_block (WC_loop hq80 (fun s78 F w => ∃ (Fb : Fr) (G : Gm), F = upds Fb [(2, .pointer (some ⟨b4, 0, none⟩)), (9, .slice ap18_0 np18_0 cp18_0), (15, .pointer (some ⟨b75, 0, none⟩)), (16, .int .i64 s78.1)] ∧ Gle G77 G ∧ Since w0.heap.size G0 w0 G w ∧ Owns G w w0.heap.size [⟨157, 2, (s78.2.2).length, .map (some r72), kvs kvI vvB (s78.2.2)⟩, ⟨3, 1, np18_0, .slice ap18_0 np18_0 cp18_0, clap18_0⟩, ⟨99, 64, 1, .slice (some ⟨b7, 0, none⟩) 1 1, cellsT s78.2.1⟩]) ?_ ?_)
     ·have hO : Owns G77 w76 w0.heap.size ([⟨157, 2, ([] : (List (Int × Bool))).length, .map (some r72), kvs kvI vvB ([] : (List (Int × Bool)))⟩, ⟨3, 1, np18_0, .slice ap18_0 np18_0 cp18_0, clap18_0⟩, ⟨99, 64, 1, .slice (some ⟨b7, 0, none⟩) 1 1, cellsT p18.2⟩]) := hO
      exact ⟨_, G77, upds_self _ _ ⟨rfl, rfl, rfl, rfl, trivial⟩, Gle.refl _, hS, hO⟩
     ·rintro s78 F w82 t81 ⟨Fb, G83, rfl, leG83, hS, hO⟩
      intro H1 hqq80
      have Hoq80 := H; have H := H1
      unfold f12_b2 at H
      refine WC_seq ?_; refine WC_seq ?_; refine WC_region ?_; refine WL_val (rn_move (v := (.int .i64 s78.1)) rfl) rfl ?_; refine WL_val (rn_move (v := (.slice ap18_0 np18_0 cp18_0)) rfl) rfl ?_; refine WL_val (rn_len (m := p18.1.length) sl22 rfl rfl hnhp18_0) rfl ?_; refine WL_val (rn_lss rfl rfl) rfl ?_; refine WL_nil ?_; refine WC_cond rfl (fun hb84 => ?_) (fun hb84 => ?_)
      ·have H := ifT hb84 H; refine WC_skip ?_; refine WC_seq ?_; refine WC_block ?_; refine WC_seq ?_; have hS := hS.keep (below_drew _); have hO := hO.below (below_drew _)
       refine WC_regionD mixedO (fun _ w => Sat G83 w ∧ Owns G83 w w0.heap.size [⟨157, 2, (s78.2.2).length, .map (some r72), kvs kvI vvB (s78.2.2)⟩, ⟨3, 1, np18_0, .slice ap18_0 np18_0 cp18_0, clap18_0⟩, ⟨99, 64, 1, .slice (some ⟨b7, 0, none⟩) 1 1, cellsT s78.2.1⟩]) (.fl 0 (.fl 1 (.fl 2 (.fl 3 (.fl 4 (.fl 5 (.fl 6 (.fl 7 (.fl 8 (.fl 9 (.fl 10 (.fl 11 (.fl 12 (.on 13 (.on 14 (.on 15 (.on 16 (.on 17 (.on 18 (.on 19 (.on 20 (.on 21 .nil)))))))))))))))))))))) (by kernel_rfl) rfl (by kernel_rfl) (fun _ => ⟨hS.sat, hO⟩) ?_
       refine WD_val rfl (fun w hw => rn_move (v := (.pointer (some ⟨b75, 0, none⟩))) rfl) rfl ?_; refine WD_val rfl (fun w hw => rn_fld fd43_1 rfl) rfl ?_; refine WD_val rfl (fun w hw => rn_load na40 rfl ((hw.1.le (((leG68.trans leG71).trans leG77).trans leG83)).cell (hcb4 1 _ rfl))) rfl ?_; refine WD_val rfl (fun w hw => rn_move (v := (.slice ap18_0 np18_0 cp18_0)) rfl) rfl ?_; refine WD_val rfl (fun w hw => rn_move (v := (.int .i64 s78.1)) rfl) rfl ?_; obtain ⟨y85, hy85, H⟩ := bnd H
       have l2_5 := (leG71.trans leG77).trans leG83
       refine WD_idxO rfl sl22 hO (k := 1) rfl hnhp18_0 (hp18_0.mono RInt_mono l2_5) hy85 rfl rfl rfl ?_
       rintro b86 ob86 _ hb86 _ hcb86 ⟨⟩
       refine WD_val rfl (fun w hw => rn_load na3 rfl (own_cellB hw.2 (k := 1) rfl hb86 _ 0 (hcb86 0 _ rfl))) rfl ?_; obtain ⟨y87, hy87, H⟩ := bnd H
       have l0_5 := (leG6.trans leG68).trans l2_5
       refine WD_idx rfl sl40 (h2.mono RTLandEvent_mono l0_5) hy87 rfl rfl rfl ?_
       rintro b88 o88 _ hcb88 _ ⟨⟩
       refine WD_val rfl (fun w hw => rn_fld fd45_1 rfl) rfl ?_; refine WD_val rfl (fun w hw => rn_load na3 rfl (hw.1.cell (hcb88 1 _ rfl))) rfl ?_; refine WD_val rfl (fun w hw => rn_fld fd43_1 rfl) rfl ?_; refine WD_val rfl (fun w hw => rn_load na40 rfl ((hw.1.le (leG68.trans l2_5)).cell (hcb4 1 _ rfl))) rfl ?_; refine WD_val rfl (fun w hw => rn_move (v := (.slice ap18_0 np18_0 cp18_0)) rfl) rfl ?_; refine WD_op rfl rfl (OpP_val (rn_move (v := (.int .i64 s78.1)) rfl) rfl ?_); refine ⟨fun _ _ => ⟨hS.sat, hO⟩, ?_⟩; refine WD_op rfl rfl (OpP_val (rn_sub rfl rfl) rfl ?_); refine ⟨fun _ _ => ⟨hS.sat, hO⟩, ?_⟩; obtain ⟨y89, hy89, H⟩ := bnd H; refine WD_op rfl rfl (OpP_idxO sl22 hO (k := 1) rfl hnhp18_0 (hp18_0.mono RInt_mono l2_5) hy89 rfl rfl rfl ?_)
       rintro b90 ob90 _ hb90 _ hcb90 ⟨⟩
       refine ⟨fun _ _ => ⟨hS.sat, hO⟩, ?_⟩; refine WD_op rfl rfl (OpP_val (rn_load na3 rfl (own_cellB hO (k := 1) rfl hb90 _ 0 (hcb90 0 _ rfl))) rfl ?_); refine ⟨fun _ _ => ⟨hS.sat, hO⟩, ?_⟩; obtain ⟨y91, hy91, H⟩ := bnd H; refine WD_op rfl rfl (OpP_idx sl40 (h2.mono RTLandEvent_mono l0_5) hy91 rfl rfl rfl ?_)
       rintro b92 o92 _ hcb92 _ ⟨⟩
       refine ⟨fun _ _ => ⟨hS.sat, hO⟩, ?_⟩; refine WD_op rfl rfl (OpP_val (rn_fld fd45_1 rfl) rfl ?_); refine ⟨fun _ _ => ⟨hS.sat, hO⟩, ?_⟩; refine WD_op rfl rfl (OpP_val (rn_load na3 rfl (hS.sat.cell (hcb92 1 _ rfl))) rfl ?_); refine ⟨fun _ _ => ⟨hS.sat, hO⟩, ?_⟩; obtain ⟨y93, hy93, H⟩ := bnd H
       have hx95 := f43_ok (x0 := x0) (x1 := y87.Holder) (x2 := y91.Holder) hS.sat (hcb75.mono leG83) (h1.mono RTLandPerson_mono l0_5) (h2.mono RTLandEvent_mono l0_5) (h3.mono RTLandMemory_mono l0_5) hy93
       refine WD_op rfl rfl (OpP_callV cb43 hx95 rfl rfl (fun w94 hb => ?_)); have hS := hS.keep hb; have hO := hO.below hb
       refine ⟨fun _ h => noneed (by kernel_rfl) h, ?_⟩
       refine WD_op rfl rfl (OpP_val (rn_not rfl) rfl ?_)
       refine ⟨fun _ h => noneed (by kernel_rfl) h, ?_⟩
       refine WD_nil ?_; refine WC_cond rfl (fun hb96 => ?_) (fun hb96 => ?_)
       ·have H := ifT hb96 H; refine WC_seq ?_; refine WC_region ?_; refine WL_val (rn_move (v := (.slice ap18_0 np18_0 cp18_0)) rfl) rfl ?_; refine WL_val (rn_move (v := (.int .i64 s78.1)) rfl) rfl ?_; refine WL_val (rn_assign (v := (.slice ap18_0 np18_0 cp18_0)) rfl) rfl ?_; refine WL_val (rn_assign (v := (.int .i64 s78.1)) rfl) rfl ?_; refine WL_val (rn_assign (v := (.int .i64 0)) rfl) rfl ?_; refine WL_nil ?_; refine WC_ret ?_; obtain ⟨G97, leG97, hS, hO, hfG97⟩ := hO.freezeS hS RInt_mono (k := 1) rfl (hp18_0.mono RInt_mono l2_5) hnhp18_0; have H := Option.some.inj H; subst H
        have hres := hqq80 _ rfl
        subst hres; have H := Hoq80
        have H : some (p18.1, s78.1, 0) = some r := H
        have H := Option.some.inj H; subst H
        exact ⟨_, _, rfl, hS.toGrow, _, _, _, rfl, hfG97⟩
       ·have H := ifF hb96 H; refine WC_skip ?_; refine WC_region ?_; refine WL_val (rn_move (v := (.int .i64 s78.1)) rfl) rfl ?_; refine WL_val (rn_add rfl rfl) rfl ?_; refine WL_val (rn_assign (v := (.int .i64 (IntKind.i64.wrap (s78.1 + 1)))) rfl) rfl ?_; refine WL_nil ?_
        have hO : Owns G83 w94 w0.heap.size ([⟨157, 2, (s78.2.2).length, .map (some r72), kvs kvI vvB (s78.2.2)⟩, ⟨3, 1, np18_0, .slice ap18_0 np18_0 cp18_0, clap18_0⟩, ⟨99, 64, 1, .slice (some ⟨b7, 0, none⟩) 1 1, cellsT s78.2.1⟩]) := hO
        have H := Option.some.inj H; subst H; refine ⟨_, rfl, ?_⟩
        exact ⟨_, G83, upds_self _ _ ⟨rfl, rfl, rfl, rfl, trivial⟩, leG83, hS, hO⟩
      ·have H := ifF hb84 H; refine WC_exit rfl ?_
       have hO : Owns G83 w82 w0.heap.size ([⟨157, 2, (s78.2.2).length, .map (some r72), kvs kvI vvB (s78.2.2)⟩, ⟨3, 1, np18_0, .slice ap18_0 np18_0 cp18_0, clap18_0⟩, ⟨99, 64, 1, .slice (some ⟨b7, 0, none⟩) 1 1, cellsT s78.2.1⟩]) := hO
       have H := Option.some.inj H; subst H
       have hres := hqq80 _ rfl
       subst hres
       exact ⟨_, _, G83, rfl, upds_self _ _ ⟨rfl, trivial⟩, leG83, hS, hO⟩
    ·rintro F w98 ⟨p79, Fb, G99, rfl, rfl, leG99, hS, hO⟩
     refine WC_seq ?_; refine WC_region ?_; refine WL_val (rn_move (v := (.slice ap18_0 np18_0 cp18_0)) rfl) rfl ?_; refine WL_val (rn_assign (v := (.slice ap18_0 np18_0 cp18_0)) rfl) rfl ?_; refine WL_val (rn_assign (v := (.int .i64 (-1))) rfl) rfl ?_; refine WL_val (rn_assign (v := (.int .i64 0)) rfl) rfl ?_; refine WL_nil ?_; refine WC_ret ?_
     have l2_5 := (leG71.trans leG77).trans leG99
     obtain ⟨G100, leG100, hS, hO, hfG100⟩ := hO.freezeS hS RInt_mono (k := 1) rfl (hp18_0.mono RInt_mono l2_5) hnhp18_0
     have H : some (p18.1, (-1), 0) = some r := H
     have H := Option.some.inj H; subst H
     exact ⟨_, _, rfl, hS.toGrow, _, _, _, rfl, hfG100⟩
set_option maxHeartbeats 1000000 in
theorem f3_ok {G0 : Gm} {w0 : World} (hS0 : Sat G0 w0) {x0 : TShipPass} {a1 : Option Addr} {n1 c1 : Nat} {a2 : Option Addr} {n2 c2 : Nat} {x1 : TSpan} {x2 : Int} (h1 : RSl RInt 1 G0 a1 n1 c1 x0.Tides) (h2 : RSl RTSpan 2 G0 a2 n2 c2 x0.Swell) {r : Bool} (H : f3 x0 x1 x2 = some r) :
  Calls Tryz.prog 3 #[.agg #[.slice a1 n1 c1, .int .i64 x0.Depth, .int .i64 x0.Draft, .slice a2 n2 c2, .int .i64 x0.Light.Low, .int .i64 x0.Light.High], .agg #[.int .i64 x1.Low, .int .i64 x1.High], .int .i64 x2] w0 (RetV w0 (.bool r)) := by
 have hS := Since.start hS0
 have hO : Owns G0 w0 w0.heap.size [] := Owns.nil (Nat.le_refl _)
 unfold f3 at H
 refine enter1 (N := 181) (shutV _ _) Tryz.func3 rfl rfl rfl rfl ?_; refine WC_seq ?_; refine WC_region ?_; refine WL_op rfl (OpP_newF (v := fun b => .pointer (some ⟨b, 0, none⟩)) (cs := [.slice a1 n1 c1, .int .i64 x0.Depth, .int .i64 x0.Draft, .slice a2 n2 c2, .int .i64 x0.Light.Low, .int .i64 x0.Light.High]) (e := 27) (rn_boxA rfl) hS.sat rfl (fun b3 G5 w4 hg hcb3 => ?_)); have hS := hS.grow hg; have hO := hO.grow hg
 have leG5 := hg.le
 refine WL_op rfl (OpP_newF (v := fun b => .pointer (some ⟨b, 0, none⟩)) (cs := [.int .i64 x1.Low, .int .i64 x1.High]) (e := 25) (rn_boxA rfl) hS.sat rfl (fun b6 G8 w7 hg hcb6 => ?_)); have hS := hS.grow hg; have hO := hO.grow hg
 have leG8 := hg.le
 refine WL_val (rn_assign (v := (.bool false)) rfl) rfl ?_; refine WL_nil ?_; refine WC_seq ?_; refine WC_seq ?_; obtain ⟨q9, hq9, H⟩ := bnd H; refine WC_cut (fun F w => ∃ (Fb : Fr) (G : Gm), F = upds Fb [(2, .int .i64 x2), (3, .pointer (some ⟨b3, 0, none⟩)), (4, .pointer (some ⟨b6, 0, none⟩)), (49, .bool q9)] ∧ Gle G8 G ∧ Since w0.heap.size G0 w0 G w ∧ Owns G w w0.heap.size []) ?_ ?_
 ·have Hoq9 := H; have H := hq9; refine WC_region ?_; refine WL_val (rn_fld fd27_0 rfl) rfl ?_; refine WL_val (rn_load na22 rfl ((hS.sat.le leG8).cell (hcb3 0 _ rfl))) rfl ?_
  have l0_2 := leG5.trans leG8
  refine WL_val (rn_len sl22 rfl rfl (h1.mono RInt_mono l0_2).1) rfl ?_; refine WL_val (rn_gtr rfl rfl) rfl ?_; refine WL_val (rn_move (v := (.bool (decide (60 < (x0.Tides.length : Int))))) rfl) rfl ?_
  rcases bcases (decide (60 < (x0.Tides.length : Int))) with hb10 | hb10
  ·have H := ifT hb10 H; refine WL_guardN rfl hb10 rfl rfl rfl ?_; refine WL_guardN rfl hb10 rfl rfl rfl ?_; refine WL_guardN rfl hb10 rfl rfl rfl ?_; refine WL_guardN rfl hb10 rfl rfl rfl ?_; refine WL_val (rn_pickT (v := (.bool true)) rfl hb10 rfl) rfl ?_; refine WL_val (rn_move (v := (.bool true)) rfl) rfl ?_; refine WL_guardN rfl rfl rfl rfl rfl ?_; refine WL_guardN rfl rfl rfl rfl rfl ?_; refine WL_guardN rfl rfl rfl rfl rfl ?_; refine WL_val (rn_pickT (v := (.bool true)) rfl rfl rfl) rfl ?_; refine WL_val (rn_move (v := (.bool true)) rfl) rfl ?_; refine WL_guardN rfl rfl rfl rfl rfl ?_; refine WL_guardN rfl rfl rfl rfl rfl ?_; refine WL_guardN rfl rfl rfl rfl rfl ?_; refine WL_val (rn_pickT (v := (.bool true)) rfl rfl rfl) rfl ?_; refine WL_val (rn_move (v := (.bool true)) rfl) rfl ?_; refine WL_guardN rfl rfl rfl rfl rfl ?_; refine WL_guardN rfl rfl rfl rfl rfl ?_; refine WL_guardN rfl rfl rfl rfl rfl ?_; refine WL_val (rn_pickT (v := (.bool true)) rfl rfl rfl) rfl ?_; refine WL_val (rn_move (v := (.bool true)) rfl) rfl ?_; refine WL_guardN rfl rfl rfl rfl rfl ?_; refine WL_guardN rfl rfl rfl rfl rfl ?_; refine WL_val (rn_pickT (v := (.bool true)) rfl rfl rfl) rfl ?_; refine WL_nil ?_
   have hO : Owns G8 w7 w0.heap.size ([]) := hO
   have H := Option.some.inj H; subst H
   exact ⟨_, G8, upds_self _ _ ⟨rfl, rfl, rfl, rfl, trivial⟩, Gle.refl _, hS, hO⟩
  ·have H := ifF hb10 H; refine WL_guardY rfl hb10 rfl rfl ?_; refine WL_val (rn_fld fd27_3 rfl) rfl ?_; refine WL_guardY rfl hb10 rfl rfl ?_; refine WL_val (rn_load na23 rfl ((hS.sat.le leG8).cell (hcb3 3 _ rfl))) rfl ?_; refine WL_guardY rfl hb10 rfl rfl ?_; refine WL_val (rn_len sl23 rfl rfl (h2.mono RTSpan_mono l0_2).1) rfl ?_; refine WL_guardY rfl hb10 rfl rfl ?_; refine WL_val (rn_gtr rfl rfl) rfl ?_; refine WL_val (rn_pickF (v := (.bool (decide (70 < (x0.Swell.length : Int))))) rfl hb10 rfl) rfl ?_; refine WL_val (rn_move (v := (.bool (decide (70 < (x0.Swell.length : Int))))) rfl) rfl ?_
   rcases bcases (decide (70 < (x0.Swell.length : Int))) with hb11 | hb11
   ·have H := ifT hb11 H; refine WL_guardN rfl hb11 rfl rfl rfl ?_; refine WL_guardN rfl hb11 rfl rfl rfl ?_; refine WL_guardN rfl hb11 rfl rfl rfl ?_; refine WL_val (rn_pickT (v := (.bool true)) rfl hb11 rfl) rfl ?_; refine WL_val (rn_move (v := (.bool true)) rfl) rfl ?_; refine WL_guardN rfl rfl rfl rfl rfl ?_; refine WL_guardN rfl rfl rfl rfl rfl ?_; refine WL_guardN rfl rfl rfl rfl rfl ?_; refine WL_val (rn_pickT (v := (.bool true)) rfl rfl rfl) rfl ?_; refine WL_val (rn_move (v := (.bool true)) rfl) rfl ?_; refine WL_guardN rfl rfl rfl rfl rfl ?_; refine WL_guardN rfl rfl rfl rfl rfl ?_; refine WL_guardN rfl rfl rfl rfl rfl ?_; refine WL_val (rn_pickT (v := (.bool true)) rfl rfl rfl) rfl ?_; refine WL_val (rn_move (v := (.bool true)) rfl) rfl ?_; refine WL_guardN rfl rfl rfl rfl rfl ?_; refine WL_guardN rfl rfl rfl rfl rfl ?_; refine WL_val (rn_pickT (v := (.bool true)) rfl rfl rfl) rfl ?_; refine WL_nil ?_
    have hO : Owns G8 w7 w0.heap.size ([]) := hO
    have H := Option.some.inj H; subst H
    exact ⟨_, G8, upds_self _ _ ⟨rfl, rfl, rfl, rfl, trivial⟩, Gle.refl _, hS, hO⟩
   ·have H := ifF hb11 H; refine WL_guardY rfl hb11 rfl rfl ?_; refine WL_val (rn_loadA ag27 (cs := [.slice a1 n1 c1, .int .i64 x0.Depth, .int .i64 x0.Draft, .slice a2 n2 c2, .int .i64 x0.Light.Low, .int .i64 x0.Light.High]) rfl rfl (fun j v hj => (hS.sat.le leG8).cell (hcb3.drop_take 0 6 j v hj))) rfl ?_; refine WL_guardY rfl hb11 rfl rfl ?_; obtain ⟨y12, hy12, H⟩ := bnd H; refine WL_op rfl (OpP_callV cb4 (f4_ok (x0 := x0) hS.sat (h1.mono RInt_mono l0_2) (h2.mono RTSpan_mono l0_2) hy12) rfl rfl (fun w13 hb => ?_)); have hS := hS.keep hb; have hO := hO.below hb; refine WL_guardY rfl hb11 rfl rfl ?_; refine WL_val (rn_not rfl) rfl ?_; refine WL_val (rn_pickF (v := (.bool (!y12))) rfl hb11 rfl) rfl ?_; refine WL_val (rn_move (v := (.bool (!y12))) rfl) rfl ?_
    rcases bcases (!y12) with hb14 | hb14
    ·have H := ifT hb14 H; refine WL_guardN rfl hb14 rfl rfl rfl ?_; refine WL_guardN rfl hb14 rfl rfl rfl ?_; refine WL_guardN rfl hb14 rfl rfl rfl ?_; refine WL_val (rn_pickT (v := (.bool true)) rfl hb14 rfl) rfl ?_; refine WL_val (rn_move (v := (.bool true)) rfl) rfl ?_; refine WL_guardN rfl rfl rfl rfl rfl ?_; refine WL_guardN rfl rfl rfl rfl rfl ?_; refine WL_guardN rfl rfl rfl rfl rfl ?_; refine WL_val (rn_pickT (v := (.bool true)) rfl rfl rfl) rfl ?_; refine WL_val (rn_move (v := (.bool true)) rfl) rfl ?_; refine WL_guardN rfl rfl rfl rfl rfl ?_; refine WL_guardN rfl rfl rfl rfl rfl ?_; refine WL_val (rn_pickT (v := (.bool true)) rfl rfl rfl) rfl ?_; refine WL_nil ?_
     have hO : Owns G8 w13 w0.heap.size ([]) := hO
     have H := Option.some.inj H; subst H
     exact ⟨_, G8, upds_self _ _ ⟨rfl, rfl, rfl, rfl, trivial⟩, Gle.refl _, hS, hO⟩
    ·have H := ifF hb14 H; refine WL_guardY rfl hb14 rfl rfl ?_; refine WL_val (rn_loadA ag25 (cs := [.int .i64 x1.Low, .int .i64 x1.High]) rfl rfl (fun j v hj => hS.sat.cell (hcb6.drop_take 0 2 j v hj))) rfl ?_; refine WL_guardY rfl hb14 rfl rfl ?_; obtain ⟨y15, hy15, H⟩ := bnd H; refine WL_op rfl (OpP_callV cb5 (f5_ok (x0 := x1) hS.sat  hy15) rfl rfl (fun w16 hb => ?_)); have hS := hS.keep hb; have hO := hO.below hb; refine WL_guardY rfl hb14 rfl rfl ?_; refine WL_val (rn_not rfl) rfl ?_; refine WL_val (rn_pickF (v := (.bool (!y15))) rfl hb14 rfl) rfl ?_; refine WL_val (rn_move (v := (.bool (!y15))) rfl) rfl ?_
     rcases bcases (!y15) with hb17 | hb17
     ·have H := ifT hb17 H; refine WL_guardN rfl hb17 rfl rfl rfl ?_; refine WL_guardN rfl hb17 rfl rfl rfl ?_; refine WL_guardN rfl hb17 rfl rfl rfl ?_; refine WL_val (rn_pickT (v := (.bool true)) rfl hb17 rfl) rfl ?_; refine WL_val (rn_move (v := (.bool true)) rfl) rfl ?_; refine WL_guardN rfl rfl rfl rfl rfl ?_; refine WL_guardN rfl rfl rfl rfl rfl ?_; refine WL_val (rn_pickT (v := (.bool true)) rfl rfl rfl) rfl ?_; refine WL_nil ?_
      have hO : Owns G8 w16 w0.heap.size ([]) := hO
      have H := Option.some.inj H; subst H
      exact ⟨_, G8, upds_self _ _ ⟨rfl, rfl, rfl, rfl, trivial⟩, Gle.refl _, hS, hO⟩
     ·have H := ifF hb17 H; refine WL_guardY rfl hb17 rfl rfl ?_; refine WL_val (rn_move (v := (.int .i64 x2)) rfl) rfl ?_; refine WL_guardY rfl hb17 rfl rfl ?_; obtain ⟨y18, hy18, H⟩ := bnd H; refine WL_op rfl (OpP_callV cb6 (f6_ok (x0 := x2) hS.sat  hy18) rfl rfl (fun w19 hb => ?_)); have hS := hS.keep hb; have hO := hO.below hb; refine WL_guardY rfl hb17 rfl rfl ?_; refine WL_val (rn_not rfl) rfl ?_; refine WL_val (rn_pickF (v := (.bool (!y18))) rfl hb17 rfl) rfl ?_; refine WL_val (rn_move (v := (.bool (!y18))) rfl) rfl ?_
      rcases bcases (!y18) with hb20 | hb20
      ·have H := ifT hb20 H; refine WL_guardN rfl hb20 rfl rfl rfl ?_; refine WL_guardN rfl hb20 rfl rfl rfl ?_; refine WL_val (rn_pickT (v := (.bool true)) rfl hb20 rfl) rfl ?_; refine WL_nil ?_
       have hO : Owns G8 w19 w0.heap.size ([]) := hO
       have H := Option.some.inj H; subst H
       exact ⟨_, G8, upds_self _ _ ⟨rfl, rfl, rfl, rfl, trivial⟩, Gle.refl _, hS, hO⟩
      ·have H := ifF hb20 H; refine WL_guardY rfl hb20 rfl rfl ?_; refine WL_val (rn_move (v := (.int .i64 x2)) rfl) rfl ?_; refine WL_guardY rfl hb20 rfl rfl ?_; refine WL_val (rn_gtr rfl rfl) rfl ?_; refine WL_val (rn_pickF (v := (.bool (decide (7 < x2)))) rfl hb20 rfl) rfl ?_; refine WL_nil ?_
       have hO : Owns G8 w19 w0.heap.size ([]) := hO
       have H := Option.some.inj H; subst H
       exact ⟨_, G8, upds_self _ _ ⟨rfl, rfl, rfl, rfl, trivial⟩, Gle.refl _, hS, hO⟩
 ·rintro F w21 ⟨Fb, G22, rfl, leG22, hS, hO⟩
  refine WC_cond rfl (fun hb23 => ?_) (fun hb23 => ?_)
  ·have H := ifT hb23 H; refine WC_seq ?_; refine WC_region ?_; obtain ⟨y24, hy24, H⟩ := bnd H; refine WL_op rfl (OpP_callV cb7 (f7_ok  hS.sat  hy24) rfl rfl (fun w25 hb => ?_)); have hS := hS.keep hb; have hO := hO.below hb; refine WL_val (rn_assign (v := (.bool y24)) rfl) rfl ?_; refine WL_nil ?_; refine WC_ret ?_
   have H : some y24 = some r := H
   have H := Option.some.inj H; subst H
   exact ⟨rfl, hS.below⟩
  ·have H := ifF hb23 H; refine WC_skip ?_; refine WC_seq ?_; refine WC_region ?_
   have l1_3 := leG8.trans leG22
   refine WL_val (rn_loadA ag27 (cs := [.slice a1 n1 c1, .int .i64 x0.Depth, .int .i64 x0.Draft, .slice a2 n2 c2, .int .i64 x0.Light.Low, .int .i64 x0.Light.High]) rfl rfl (fun j v hj => (hS.sat.le l1_3).cell (hcb3.drop_take 0 6 j v hj))) rfl ?_; refine WL_val (rn_loadA ag25 (cs := [.int .i64 x1.Low, .int .i64 x1.High]) rfl rfl (fun j v hj => (hS.sat.le leG22).cell (hcb6.drop_take 0 2 j v hj))) rfl ?_; refine WL_val (rn_move (v := (.int .i64 x2)) rfl) rfl ?_; obtain ⟨y26, hy26, H⟩ := bnd H
   have l0_3 := leG5.trans l1_3
   refine WL_op rfl (OpP_callG cb8 (f8_ok (x0 := x0) (x1 := x1) (x2 := x2) hS.sat (h1.mono RInt_mono l0_3) (h2.mono RTSpan_mono l0_3) hy26) rfl rfl (fun vy26 G28 w27 hg hvy26 => ?_)); obtain ⟨a29, n29, c29, ⟨⟩, h29⟩ := hvy26; have hS := hS.grow hg; have hO := hO.grow hg
   have leG28 := hg.le
   refine WL_val (rn_move (v := (.tuple #[.slice a29 n29 c29, .int .i64 y26.2])) rfl) rfl ?_; refine WL_val (rn_extract (v := (.slice a29 n29 c29)) rfl rfl) rfl ?_; refine WL_val (rn_extract (v := (.int .i64 y26.2)) rfl rfl) rfl ?_; refine WL_val (rn_assign (v := (.slice a29 n29 c29)) rfl) rfl ?_; refine WL_val (rn_assign (v := (.int .i64 y26.2)) rfl) rfl ?_; refine WL_nil ?_; refine WC_seq ?_; refine WC_seq ?_; refine WC_region ?_; refine WL_val (rn_move (v := (.int .i64 y26.2)) rfl) rfl ?_; refine WL_val (rn_neq rfl rfl) rfl ?_; refine WL_nil ?_; refine WC_cond rfl (fun hb30 => ?_) (fun hb30 => ?_)
   ·have H := ifT hb30 H; refine WC_seq ?_; obtain ⟨q31, hq31, H⟩ := bnd H; refine WC_cut (fun F w => ∃ (Fb : Fr) (G : Gm), F = upds Fb [(6, .bool q31)] ∧ Gle G28 G ∧ Since w0.heap.size G0 w0 G w ∧ Owns G w w0.heap.size []) ?_ ?_
    ·have Hoq31 := H; have H := hq31; refine WC_region ?_; refine WL_val (rn_move (v := (.int .i64 y26.2)) rfl) rfl ?_; refine WL_val (rn_eql rfl rfl) rfl ?_; refine WL_val (rn_move (v := (.bool (y26.2 == 5))) rfl) rfl ?_
     rcases bcases (y26.2 == 5) with hb32 | hb32
     ·have H := ifT hb32 H; refine WL_guardY rfl hb32 rfl rfl ?_; obtain ⟨y33, hy33, H⟩ := bnd H; refine WL_op rfl (OpP_callV cb7 (f7_ok  hS.sat  hy33) rfl rfl (fun w34 hb => ?_)); have hS := hS.keep hb; have hO := hO.below hb; refine WL_val (rn_pickT (v := (.bool y33)) rfl hb32 rfl) rfl ?_; refine WL_val (rn_assign (v := (.bool y33)) rfl) rfl ?_; refine WL_nil ?_
      have hO : Owns G28 w34 w0.heap.size ([]) := hO
      have H := Option.some.inj H; subst H
      exact ⟨_, G28, upds_self _ _ ⟨rfl, trivial⟩, Gle.refl _, hS, hO⟩
     ·have H := ifF hb32 H; refine WL_guardN rfl hb32 rfl rfl rfl ?_; refine WL_val (rn_pickF (v := (.bool false)) rfl hb32 rfl) rfl ?_; refine WL_val (rn_assign (v := (.bool false)) rfl) rfl ?_; refine WL_nil ?_
      have hO : Owns G28 w27 w0.heap.size ([]) := hO
      have H := Option.some.inj H; subst H
      exact ⟨_, G28, upds_self _ _ ⟨rfl, trivial⟩, Gle.refl _, hS, hO⟩
    ·rintro F w35 ⟨Fb, G36, rfl, leG36, hS, hO⟩
     refine WC_ret ?_
     have H : some q31 = some r := H
     have H := Option.some.inj H; subst H
     exact ⟨rfl, hS.below⟩
   ·have H := ifF hb30 H; refine WC_skip ?_; refine WC_seq ?_; refine WC_seq ?_; refine WC_region ?_
    have l1_4 := l1_3.trans leG28
    refine WL_val (rn_loadA ag27 (cs := [.slice a1 n1 c1, .int .i64 x0.Depth, .int .i64 x0.Draft, .slice a2 n2 c2, .int .i64 x0.Light.Low, .int .i64 x0.Light.High]) rfl rfl (fun j v hj => (hS.sat.le l1_4).cell (hcb3.drop_take 0 6 j v hj))) rfl ?_
    have l2_4 := leG22.trans leG28
    refine WL_val (rn_loadA ag25 (cs := [.int .i64 x1.Low, .int .i64 x1.High]) rfl rfl (fun j v hj => (hS.sat.le l2_4).cell (hcb6.drop_take 0 2 j v hj))) rfl ?_; refine WL_val (rn_move (v := (.int .i64 x2)) rfl) rfl ?_; refine WL_val (rn_move (v := (.slice a29 n29 c29)) rfl) rfl ?_; obtain ⟨y37, hy37, H⟩ := bnd H
    have l0_4 := l0_3.trans leG28
    refine WL_op rfl (OpP_callV cb9 (f9_ok (x0 := x0) (x1 := x1) (x2 := x2) (x3 := y26.1) hS.sat (h1.mono RInt_mono l0_4) (h2.mono RTSpan_mono l0_4) h29 hy37) rfl rfl (fun w38 hb => ?_)); have hS := hS.keep hb; have hO := hO.below hb; refine WL_val (rn_not rfl) rfl ?_; refine WL_nil ?_; refine WC_cond rfl (fun hb39 => ?_) (fun hb39 => ?_)
    ·have H := ifT hb39 H; refine WC_seq ?_; refine WC_region ?_; refine WL_val (rn_assign (v := (.bool false)) rfl) rfl ?_; refine WL_nil ?_; refine WC_ret ?_
     have H : some false = some r := H
     have H := Option.some.inj H; subst H
     exact ⟨rfl, hS.below⟩
    ·have H := ifF hb39 H; refine WC_skip ?_; refine WC_seq ?_; refine WC_region ?_
     refine WL_val (v := (.agg #[.int .i64 (-1), .int .i64 (-1)])) (by kernel_rfl) rfl ?_
     refine WL_op rfl (OpP_newF (v := fun b => .slice (some ⟨b, 0, none⟩) 1 1) (cs := [.int .i64 (-1), .int .i64 (-1)]) (e := 38) (by kernel_rfl) hS.sat rfl (fun b40 G42 w41 hg hcb40 => ?_))
     have hS := hS.grow hg; have hO := hO.grow hg
     have leG42 := hg.le
     have hfb40 : RSl RTLandPerson 2 G42 (some ⟨b40, 0, none⟩) 1 1 [(⟨(-1), (-1)⟩ : TLandPerson)] := RSl.of_rd hcb40 (Rd.cons (c := [.int .i64 (-1), .int .i64 (-1)]) rfl rfl (Rd.nil RTLandPerson 2 _)) rfl (by decide)
     refine WL_val (v := (.agg #[.slice (some ⟨b40, 0, none⟩) 1 1, .slice none 0 0, .slice none 0 0])) (by kernel_rfl) rfl ?_
     refine WL_op rfl (OpP_newO (v := fun b => .pointer (some ⟨b, 0, none⟩)) (cs := [.slice none 0 0, .slice none 0 0, .slice none 0 0]) (e := 43) (by kernel_rfl) hS.sat hO rfl 3 1 rfl (by decide) (fun b43 w44 hb hO => ?_))
     have hS := hS.keep hb; refine WL_op rfl (OpP_store (vs := [.slice (some ⟨b40, 0, none⟩) 1 1, .slice none 0 0, .slice none 0 0]) sz43 hS hO (k := 0) rfl rfl rfl rfl rfl (one_all rfl) (Nat.le_of_ble_eq_true rfl) (fun w46 hS hO => ?_))
     have hO : Owns G42 w46 w0.heap.size ([⟨43, 3, 1, .slice (some ⟨b43, 0, none⟩) 1 1, [.slice (some ⟨b40, 0, none⟩) 1 1, .slice none 0 0, .slice none 0 0]⟩]) := hO
     refine WL_nil ?_; refine WC_seq ?_; refine WC_region ?_; refine WL_val (rn_assign (v := (.slice none 0 0)) rfl) rfl ?_; refine WL_val (rn_assign (v := (.slice none 0 0)) rfl) rfl ?_; refine WL_nil ?_; refine WC_seq ?_; refine WC_seq ?_; refine WC_region ?_; refine WL_val (rn_assign (v := (.int .i64 0)) rfl) rfl ?_; refine WL_nil ?_; have hO := hO.cons_nil 3 1; have hO := hO.cons_nil 3 1; have hO := hO.cons_nil 45 2; have hO := hO.cons_nil 49 4; obtain ⟨q53, hq53, H⟩ := bnd H; refine WC_cut (fun F w => ∃ (Fb : Fr) (G : Gm) (aq53_0 : Option Addr) (nq53_0 cq53_0 : Nat) (claq53_0 : List Value) (aq53_1 : Option Addr) (nq53_1 cq53_1 : Nat) (claq53_1 : List Value) (aq53_2 : Option Addr) (nq53_2 cq53_2 : Nat) (aq53_3 : Option Addr) (nq53_3 cq53_3 : Nat) (claq53_3 : List Value) (aq53_4 : Option Addr) (nq53_4 cq53_4 : Nat) (claq53_4 : List Value), F = upds Fb [(2, .int .i64 x2), (9, .pointer (some ⟨b43, 0, none⟩)), (10, .slice aq53_0 nq53_0 cq53_0), (11, .slice aq53_1 nq53_1 cq53_1)] ∧ Gle G42 G ∧ Since w0.heap.size G0 w0 G w ∧ Owns G w w0.heap.size [⟨49, 4, nq53_4, .slice aq53_4 nq53_4 cq53_4, claq53_4⟩, ⟨45, 2, nq53_3, .slice aq53_3 nq53_3 cq53_3, claq53_3⟩, ⟨3, 1, nq53_1, .slice aq53_1 nq53_1 cq53_1, claq53_1⟩, ⟨3, 1, nq53_0, .slice aq53_0 nq53_0 cq53_0, claq53_0⟩, ⟨43, 3, 1, .slice (some ⟨b43, 0, none⟩) 1 1, [.slice aq53_2 nq53_2 cq53_2, .slice aq53_3 nq53_3 cq53_3, .slice aq53_4 nq53_4 cq53_4]⟩] ∧ nq53_0 = q53.1.length ∧ Rd RInt 1 G claq53_0 q53.1 ∧ nq53_1 = q53.2.1.length ∧ Rd RInt 1 G claq53_1 q53.2.1 ∧ RSl RTLandPerson 2 G aq53_2 nq53_2 cq53_2 q53.2.2.People ∧ nq53_3 = q53.2.2.Events.length ∧ Rd RTLandEvent 2 G claq53_3 q53.2.2.Events ∧ nq53_4 = q53.2.2.Memories.length ∧ Rd RTLandMemory 4 G claq53_4 q53.2.2.Memories) ?_ ?_
     ·refine WC_block (WC_loop hq53 (fun s51 F w => ∃ (Fb : Fr) (G : Gm) (as51_0 : Option Addr) (ns51_0 cs51_0 : Nat) (clas51_0 : List Value) (as51_1 : Option Addr) (ns51_1 cs51_1 : Nat) (clas51_1 : List Value) (as51_2 : Option Addr) (ns51_2 cs51_2 : Nat) (as51_3 : Option Addr) (ns51_3 cs51_3 : Nat) (clas51_3 : List Value) (as51_4 : Option Addr) (ns51_4 cs51_4 : Nat) (clas51_4 : List Value), F = upds Fb [(2, .int .i64 x2), (4, .pointer (some ⟨b6, 0, none⟩)), (7, .slice a29 n29 c29), (9, .pointer (some ⟨b43, 0, none⟩)), (10, .slice as51_0 ns51_0 cs51_0), (11, .slice as51_1 ns51_1 cs51_1), (12, .int .i64 s51.2.2.1)] ∧ Gle G42 G ∧ Since w0.heap.size G0 w0 G w ∧ Owns G w w0.heap.size [⟨49, 4, ns51_4, .slice as51_4 ns51_4 cs51_4, clas51_4⟩, ⟨45, 2, ns51_3, .slice as51_3 ns51_3 cs51_3, clas51_3⟩, ⟨3, 1, ns51_1, .slice as51_1 ns51_1 cs51_1, clas51_1⟩, ⟨3, 1, ns51_0, .slice as51_0 ns51_0 cs51_0, clas51_0⟩, ⟨43, 3, 1, .slice (some ⟨b43, 0, none⟩) 1 1, [.slice as51_2 ns51_2 cs51_2, .slice as51_3 ns51_3 cs51_3, .slice as51_4 ns51_4 cs51_4]⟩] ∧ ns51_0 = s51.1.length ∧ Rd RInt 1 G clas51_0 s51.1 ∧ ns51_1 = s51.2.1.length ∧ Rd RInt 1 G clas51_1 s51.2.1 ∧ RSl RTLandPerson 2 G as51_2 ns51_2 cs51_2 s51.2.2.2.People ∧ ns51_3 = s51.2.2.2.Events.length ∧ Rd RTLandEvent 2 G clas51_3 s51.2.2.2.Events ∧ ns51_4 = s51.2.2.2.Memories.length ∧ Rd RTLandMemory 4 G clas51_4 s51.2.2.2.Memories) ?_ ?_)
      ·have hO : Owns G42 w46 w0.heap.size ([⟨49, 4, 0, .slice none 0 0, []⟩, ⟨45, 2, 0, .slice none 0 0, []⟩, ⟨3, 1, 0, .slice none 0 0, []⟩, ⟨3, 1, 0, .slice none 0 0, []⟩, ⟨43, 3, 1, .slice (some ⟨b43, 0, none⟩) 1 1, [.slice (some ⟨b40, 0, none⟩) 1 1, .slice none 0 0, .slice none 0 0]⟩]) := hO
       exact ⟨_, G42, none, 0, 0, [], none, 0, 0, [], (some ⟨b40, 0, none⟩), 1, 1, none, 0, 0, [], none, 0, 0, [], upds_self _ _ ⟨rfl, rfl, rfl, rfl, rfl, rfl, rfl, trivial⟩, Gle.refl _, hS, hO, rfl, (Rd.nil RInt 1 G42), rfl, (Rd.nil RInt 1 G42), hfb40, rfl, (Rd.nil RTLandEvent 2 G42), rfl, (Rd.nil RTLandMemory 4 G42)⟩
      ·rintro s51 F w55 t54 ⟨Fb, G56, as51_0, ns51_0, cs51_0, clas51_0, as51_1, ns51_1, cs51_1, clas51_1, as51_2, ns51_2, cs51_2, as51_3, ns51_3, cs51_3, clas51_3, as51_4, ns51_4, cs51_4, clas51_4, rfl, leG56, hS, hO, hnhs51_0, hs51_0, hnhs51_1, hs51_1, hs51_2, hnhs51_3, hs51_3, hnhs51_4, hs51_4⟩
       intro H1 hqq53
       have Hoq53 := H; have H := H1
       unfold f3_b0 at H
       refine WC_seq ?_; refine WC_seq ?_; refine WC_region ?_; refine WL_val (rn_move (v := (.int .i64 s51.2.2.1)) rfl) rfl ?_; refine WL_val (rn_move (v := (.int .i64 x2)) rfl) rfl ?_; refine WL_val (rn_lss rfl rfl) rfl ?_; refine WL_nil ?_; refine WC_cond rfl (fun hb57 => ?_) (fun hb57 => ?_)
       ·have H := ifT hb57 H; refine WC_skip ?_; refine WC_seq ?_; obtain ⟨q58, hq58, H⟩ := bnd H; refine WC_cut (fun F w => ∃ (Fb : Fr) (G : Gm) (aq58_0 : Option Addr) (nq58_0 cq58_0 : Nat) (claq58_0 : List Value) (aq58_1 : Option Addr) (nq58_1 cq58_1 : Nat) (claq58_1 : List Value) (aq58_2 : Option Addr) (nq58_2 cq58_2 : Nat) (aq58_3 : Option Addr) (nq58_3 cq58_3 : Nat) (claq58_3 : List Value) (aq58_4 : Option Addr) (nq58_4 cq58_4 : Nat) (claq58_4 : List Value), F = upds Fb [(2, .int .i64 x2), (4, .pointer (some ⟨b6, 0, none⟩)), (7, .slice a29 n29 c29), (9, .pointer (some ⟨b43, 0, none⟩)), (10, .slice aq58_0 nq58_0 cq58_0), (11, .slice aq58_1 nq58_1 cq58_1), (12, .int .i64 s51.2.2.1)] ∧ Gle G56 G ∧ Since w0.heap.size G0 w0 G w ∧ Owns G w w0.heap.size [⟨49, 4, nq58_4, .slice aq58_4 nq58_4 cq58_4, claq58_4⟩, ⟨45, 2, nq58_3, .slice aq58_3 nq58_3 cq58_3, claq58_3⟩, ⟨3, 1, nq58_1, .slice aq58_1 nq58_1 cq58_1, claq58_1⟩, ⟨3, 1, nq58_0, .slice aq58_0 nq58_0 cq58_0, claq58_0⟩, ⟨43, 3, 1, .slice (some ⟨b43, 0, none⟩) 1 1, [.slice aq58_2 nq58_2 cq58_2, .slice aq58_3 nq58_3 cq58_3, .slice aq58_4 nq58_4 cq58_4]⟩] ∧ nq58_0 = q58.1.length ∧ Rd RInt 1 G claq58_0 q58.1 ∧ nq58_1 = q58.2.1.length ∧ Rd RInt 1 G claq58_1 q58.2.1 ∧ RSl RTLandPerson 2 G aq58_2 nq58_2 cq58_2 q58.2.2.People ∧ nq58_3 = q58.2.2.Events.length ∧ Rd RTLandEvent 2 G claq58_3 q58.2.2.Events ∧ nq58_4 = q58.2.2.Memories.length ∧ Rd RTLandMemory 4 G claq58_4 q58.2.2.Memories) ?_ ?_
        ·have Hoq58 := H; have H := hq58; refine WC_block ?_; refine WC_seq ?_; refine WC_region ?_; refine WL_val (rn_fld fd43_1 rfl) rfl ?_; refine WL_val (rn_load na40 rfl (own_cell hO (k := 4) rfl (j := 1) rfl)) rfl ?_
         refine WL_val (v := (.agg #[.int .i64 0, .int .i64 0])) (by kernel_rfl) rfl ?_
         refine WL_op rfl (OpP_newF (v := fun b => .slice (some ⟨b, 0, none⟩) 1 1) (cs := [.int .i64 0, .int .i64 0]) (e := 45) (by kernel_rfl) hS.sat rfl (fun b59 G61 w60 hg hcb59 => ?_))
         have hS := hS.grow hg; have hO := hO.grow hg
         have leG61 := hg.le
         have hfb59 : RSl RTLandEvent 2 G61 (some ⟨b59, 0, none⟩) 1 1 [(⟨0, 0⟩ : TLandEvent)] := RSl.of_rd hcb59 (Rd.cons (c := [.int .i64 0, .int .i64 0]) rfl rfl (Rd.nil RTLandEvent 2 _)) rfl (by decide)
         obtain ⟨y62, hy62, H⟩ := bnd H; refine WL_op rfl (OpP_append (k := 1) sl40 RTLandEvent_one hS hO rfl hnhs51_3 (hs51_3.mono RTLandEvent_mono leG61) hfb59 hy62 rfl rfl rfl rfl rfl (fun aw63 cw63 w63 clw63 hS hO hrw63 => ?_))
         have hO : Owns G61 w63 w0.heap.size ([⟨49, 4, ns51_4, .slice as51_4 ns51_4 cs51_4, clas51_4⟩, ⟨45, 2, y62.length, .slice aw63 y62.length cw63, clw63⟩, ⟨3, 1, ns51_1, .slice as51_1 ns51_1 cs51_1, clas51_1⟩, ⟨3, 1, ns51_0, .slice as51_0 ns51_0 cs51_0, clas51_0⟩, ⟨43, 3, 1, .slice (some ⟨b43, 0, none⟩) 1 1, [.slice as51_2 ns51_2 cs51_2, .slice as51_3 ns51_3 cs51_3, .slice as51_4 ns51_4 cs51_4]⟩]) := hO
         refine WL_val (rn_fld fd43_1 rfl) rfl ?_; refine WL_op rfl (OpP_store (vs := [.slice aw63 y62.length cw63]) sz40 hS hO (k := 4) rfl rfl rfl rfl rfl (one_all rfl) (Nat.le_of_ble_eq_true rfl) (fun w64 hS hO => ?_))
         have hO : Owns G61 w64 w0.heap.size ([⟨49, 4, ns51_4, .slice as51_4 ns51_4 cs51_4, clas51_4⟩, ⟨45, 2, y62.length, .slice aw63 y62.length cw63, clw63⟩, ⟨3, 1, ns51_1, .slice as51_1 ns51_1 cs51_1, clas51_1⟩, ⟨3, 1, ns51_0, .slice as51_0 ns51_0 cs51_0, clas51_0⟩, ⟨43, 3, 1, .slice (some ⟨b43, 0, none⟩) 1 1, [.slice as51_2 ns51_2 cs51_2, .slice aw63 y62.length cw63, .slice as51_4 ns51_4 cs51_4]⟩]) := hO
         refine WL_nil ?_; refine WC_seq ?_; refine WC_region ?_; refine WL_val (rn_move (v := (.slice as51_0 ns51_0 cs51_0)) rfl) rfl ?_; refine WL_val (rn_move (v := (.slice a29 n29 c29)) rfl) rfl ?_; refine WL_val (rn_move (v := (.int .i64 s51.2.2.1)) rfl) rfl ?_; obtain ⟨y65, hy65, H⟩ := bnd H
         have l4_7 := (leG42.trans leG56).trans leG61
         refine WL_idx sl32 (h29.mono RTShipCall_mono l4_7) hy65 rfl rfl rfl ?_
         rintro b66 o66 _ hcb66 _ ⟨⟩
         refine WL_val (rn_fld fd47_0 rfl) rfl ?_; refine WL_val (rn_load na3 rfl (hS.sat.cell (hcb66 0 _ rfl))) rfl ?_
         refine WL_op rfl (OpP_newF (v := fun b => .slice (some ⟨b, 0, none⟩) 1 1) (cs := [.int .i64 y65.Day]) (e := 3) (by kernel_rfl) hS.sat rfl (fun b67 G69 w68 hg hcb67 => ?_))
         have hS := hS.grow hg; have hO := hO.grow hg
         have leG69 := hg.le
         have hfb67 : RSl RInt 1 G69 (some ⟨b67, 0, none⟩) 1 1 [y65.Day] := RSl.of_rd hcb67 (Rd.cons (c := [.int .i64 y65.Day]) rfl rfl (Rd.nil RInt 1 _)) rfl (by decide)
         obtain ⟨y70, hy70, H⟩ := bnd H
         have l6_8 := leG61.trans leG69
         refine WL_op rfl (OpP_append (k := 3) sl22 RInt_one hS hO rfl hnhs51_0 (hs51_0.mono RInt_mono l6_8) hfb67 hy70 rfl rfl rfl rfl rfl (fun aw71 cw71 w71 clw71 hS hO hrw71 => ?_))
         have hO : Owns G69 w71 w0.heap.size ([⟨49, 4, ns51_4, .slice as51_4 ns51_4 cs51_4, clas51_4⟩, ⟨45, 2, y62.length, .slice aw63 y62.length cw63, clw63⟩, ⟨3, 1, ns51_1, .slice as51_1 ns51_1 cs51_1, clas51_1⟩, ⟨3, 1, y70.length, .slice aw71 y70.length cw71, clw71⟩, ⟨43, 3, 1, .slice (some ⟨b43, 0, none⟩) 1 1, [.slice as51_2 ns51_2 cs51_2, .slice aw63 y62.length cw63, .slice as51_4 ns51_4 cs51_4]⟩]) := hO
         refine WL_val (rn_move (v := (.slice as51_1 ns51_1 cs51_1)) rfl) rfl ?_; refine WL_val (rn_move (v := (.int .i64 s51.2.2.1)) rfl) rfl ?_
         refine WL_op rfl (OpP_newF (v := fun b => .slice (some ⟨b, 0, none⟩) 1 1) (cs := [.int .i64 s51.2.2.1]) (e := 3) (by kernel_rfl) hS.sat rfl (fun b72 G74 w73 hg hcb72 => ?_))
         have hS := hS.grow hg; have hO := hO.grow hg
         have leG74 := hg.le
         have hfb72 : RSl RInt 1 G74 (some ⟨b72, 0, none⟩) 1 1 [s51.2.2.1] := RSl.of_rd hcb72 (Rd.cons (c := [.int .i64 s51.2.2.1]) rfl rfl (Rd.nil RInt 1 _)) rfl (by decide)
         obtain ⟨y75, hy75, H⟩ := bnd H
         have l6_9 := l6_8.trans leG74
         refine WL_op rfl (OpP_append (k := 2) sl22 RInt_one hS hO rfl hnhs51_1 (hs51_1.mono RInt_mono l6_9) hfb72 hy75 rfl rfl rfl rfl rfl (fun aw76 cw76 w76 clw76 hS hO hrw76 => ?_))
         have hO : Owns G74 w76 w0.heap.size ([⟨49, 4, ns51_4, .slice as51_4 ns51_4 cs51_4, clas51_4⟩, ⟨45, 2, y62.length, .slice aw63 y62.length cw63, clw63⟩, ⟨3, 1, y75.length, .slice aw76 y75.length cw76, clw76⟩, ⟨3, 1, y70.length, .slice aw71 y70.length cw71, clw71⟩, ⟨43, 3, 1, .slice (some ⟨b43, 0, none⟩) 1 1, [.slice as51_2 ns51_2 cs51_2, .slice aw63 y62.length cw63, .slice as51_4 ns51_4 cs51_4]⟩]) := hO
         refine WL_val (rn_assign (v := (.slice aw71 y70.length cw71)) rfl) rfl ?_; refine WL_val (rn_assign (v := (.slice aw76 y75.length cw76)) rfl) rfl ?_; refine WL_nil ?_; refine WC_seq ?_; refine WC_region ?_; refine WL_val (rn_move (v := (.int .i64 s51.2.2.1)) rfl) rfl ?_; refine WL_val (rn_gtr rfl rfl) rfl ?_; refine WL_nil ?_; refine WC_cond rfl (fun hb77 => ?_) (fun hb77 => ?_)
         ·have H := ifT hb77 H; refine WC_region ?_; refine WL_val (rn_fld fd43_2 rfl) rfl ?_; refine WL_val (rn_load na41 rfl (own_cell hO (k := 4) rfl (j := 2) rfl)) rfl ?_; refine WL_val (rn_move (v := (.int .i64 s51.2.2.1)) rfl) rfl ?_; refine WL_val (rn_sub rfl rfl) rfl ?_; refine WL_val (rn_move (v := (.int .i64 s51.2.2.1)) rfl) rfl ?_
          have l2_9 := ((l2_4.trans l4_7).trans leG69).trans leG74
          refine WL_val (rn_loadA ag25 (cs := [.int .i64 x1.Low, .int .i64 x1.High]) rfl rfl (fun j v hj => (hS.sat.le l2_9).cell (hcb6.drop_take 0 2 j v hj))) rfl ?_
          refine WL_val (v := (.agg #[.int .i64 (IntKind.i64.wrap (s51.2.2.1 - 1)), .int .i64 s51.2.2.1, .int .i64 x1.Low, .int .i64 x1.High])) (by kernel_rfl) rfl ?_
          refine WL_op rfl (OpP_newF (v := fun b => .slice (some ⟨b, 0, none⟩) 1 1) (cs := [.int .i64 (IntKind.i64.wrap (s51.2.2.1 - 1)), .int .i64 s51.2.2.1, .int .i64 x1.Low, .int .i64 x1.High]) (e := 49) (by kernel_rfl) hS.sat rfl (fun b78 G80 w79 hg hcb78 => ?_))
          have hS := hS.grow hg; have hO := hO.grow hg
          have leG80 := hg.le
          have hfb78 : RSl RTLandMemory 4 G80 (some ⟨b78, 0, none⟩) 1 1 [(⟨IntKind.i64.wrap (s51.2.2.1 - 1), s51.2.2.1, x1⟩ : TLandMemory)] := RSl.of_rd hcb78 (Rd.cons (c := [.int .i64 (IntKind.i64.wrap (s51.2.2.1 - 1)), .int .i64 s51.2.2.1, .int .i64 x1.Low, .int .i64 x1.High]) rfl rfl (Rd.nil RTLandMemory 4 _)) rfl (by decide)
          obtain ⟨y81, hy81, H⟩ := bnd H
          have l6_10 := l6_9.trans leG80
          refine WL_op rfl (OpP_append (k := 0) sl41 RTLandMemory_one hS hO rfl hnhs51_4 (hs51_4.mono RTLandMemory_mono l6_10) hfb78 hy81 rfl rfl rfl rfl rfl (fun aw82 cw82 w82 clw82 hS hO hrw82 => ?_))
          have hO : Owns G80 w82 w0.heap.size ([⟨49, 4, y81.length, .slice aw82 y81.length cw82, clw82⟩, ⟨45, 2, y62.length, .slice aw63 y62.length cw63, clw63⟩, ⟨3, 1, y75.length, .slice aw76 y75.length cw76, clw76⟩, ⟨3, 1, y70.length, .slice aw71 y70.length cw71, clw71⟩, ⟨43, 3, 1, .slice (some ⟨b43, 0, none⟩) 1 1, [.slice as51_2 ns51_2 cs51_2, .slice aw63 y62.length cw63, .slice as51_4 ns51_4 cs51_4]⟩]) := hO
          refine WL_val (rn_fld fd43_2 rfl) rfl ?_; refine WL_op rfl (OpP_store (vs := [.slice aw82 y81.length cw82]) sz41 hS hO (k := 4) rfl rfl rfl rfl rfl (one_all rfl) (Nat.le_of_ble_eq_true rfl) (fun w83 hS hO => ?_))
          have hO : Owns G80 w83 w0.heap.size ([⟨49, 4, y81.length, .slice aw82 y81.length cw82, clw82⟩, ⟨45, 2, y62.length, .slice aw63 y62.length cw63, clw63⟩, ⟨3, 1, y75.length, .slice aw76 y75.length cw76, clw76⟩, ⟨3, 1, y70.length, .slice aw71 y70.length cw71, clw71⟩, ⟨43, 3, 1, .slice (some ⟨b43, 0, none⟩) 1 1, [.slice as51_2 ns51_2 cs51_2, .slice aw63 y62.length cw63, .slice aw82 y81.length cw82]⟩]) := hO
          refine WL_nil ?_
          have hO : Owns G80 w83 w0.heap.size ([⟨49, 4, y81.length, .slice aw82 y81.length cw82, clw82⟩, ⟨45, 2, y62.length, .slice aw63 y62.length cw63, clw63⟩, ⟨3, 1, y75.length, .slice aw76 y75.length cw76, clw76⟩, ⟨3, 1, y70.length, .slice aw71 y70.length cw71, clw71⟩, ⟨43, 3, 1, .slice (some ⟨b43, 0, none⟩) 1 1, [.slice as51_2 ns51_2 cs51_2, .slice aw63 y62.length cw63, .slice aw82 y81.length cw82]⟩]) := hO
          have H := Option.some.inj H; subst H
          have l8_10 := leG74.trans leG80
          have l7_10 := leG69.trans l8_10
          exact ⟨_, G80, aw71, y70.length, cw71, clw71, aw76, y75.length, cw76, clw76, as51_2, ns51_2, cs51_2, aw63, y62.length, cw63, clw63, aw82, y81.length, cw82, clw82, upds_self _ _ ⟨rfl, rfl, rfl, rfl, rfl, rfl, rfl, trivial⟩, l6_10, hS, hO, rfl, (hrw71.mono RInt_mono l8_10), rfl, (hrw76.mono RInt_mono leG80), (hs51_2.mono RTLandPerson_mono l6_10), rfl, (hrw63.mono RTLandEvent_mono l7_10), rfl, hrw82⟩
         ·have H := ifF hb77 H; refine WC_skip ?_
          have hO : Owns G74 w76 w0.heap.size ([⟨49, 4, ns51_4, .slice as51_4 ns51_4 cs51_4, clas51_4⟩, ⟨45, 2, y62.length, .slice aw63 y62.length cw63, clw63⟩, ⟨3, 1, y75.length, .slice aw76 y75.length cw76, clw76⟩, ⟨3, 1, y70.length, .slice aw71 y70.length cw71, clw71⟩, ⟨43, 3, 1, .slice (some ⟨b43, 0, none⟩) 1 1, [.slice as51_2 ns51_2 cs51_2, .slice aw63 y62.length cw63, .slice as51_4 ns51_4 cs51_4]⟩]) := hO
          have H := Option.some.inj H; subst H
          have l7_9 := leG69.trans leG74
          exact ⟨_, G74, aw71, y70.length, cw71, clw71, aw76, y75.length, cw76, clw76, as51_2, ns51_2, cs51_2, aw63, y62.length, cw63, clw63, as51_4, ns51_4, cs51_4, clas51_4, upds_self _ _ ⟨rfl, rfl, rfl, rfl, rfl, rfl, rfl, trivial⟩, l6_9, hS, hO, rfl, (hrw71.mono RInt_mono leG74), rfl, hrw76, (hs51_2.mono RTLandPerson_mono l6_9), rfl, (hrw63.mono RTLandEvent_mono l7_9), hnhs51_4, (hs51_4.mono RTLandMemory_mono l6_9)⟩
        ·rintro F w84 ⟨Fb, G85, aq58_0, nq58_0, cq58_0, claq58_0, aq58_1, nq58_1, cq58_1, claq58_1, aq58_2, nq58_2, cq58_2, aq58_3, nq58_3, cq58_3, claq58_3, aq58_4, nq58_4, cq58_4, claq58_4, rfl, leG85, hS, hO, hnhq58_0, hq58_0, hnhq58_1, hq58_1, hq58_2, hnhq58_3, hq58_3, hnhq58_4, hq58_4⟩
         refine WC_region ?_; refine WL_val (rn_move (v := (.int .i64 s51.2.2.1)) rfl) rfl ?_; refine WL_val (rn_add rfl rfl) rfl ?_; refine WL_val (rn_assign (v := (.int .i64 (IntKind.i64.wrap (s51.2.2.1 + 1)))) rfl) rfl ?_; refine WL_nil ?_
         have hO : Owns G85 w84 w0.heap.size ([⟨49, 4, nq58_4, .slice aq58_4 nq58_4 cq58_4, claq58_4⟩, ⟨45, 2, nq58_3, .slice aq58_3 nq58_3 cq58_3, claq58_3⟩, ⟨3, 1, nq58_1, .slice aq58_1 nq58_1 cq58_1, claq58_1⟩, ⟨3, 1, nq58_0, .slice aq58_0 nq58_0 cq58_0, claq58_0⟩, ⟨43, 3, 1, .slice (some ⟨b43, 0, none⟩) 1 1, [.slice aq58_2 nq58_2 cq58_2, .slice aq58_3 nq58_3 cq58_3, .slice aq58_4 nq58_4 cq58_4]⟩]) := hO
         have H := Option.some.inj H; subst H; refine ⟨_, rfl, ?_⟩
         have l5_7 := leG56.trans leG85
         exact ⟨_, G85, aq58_0, nq58_0, cq58_0, claq58_0, aq58_1, nq58_1, cq58_1, claq58_1, aq58_2, nq58_2, cq58_2, aq58_3, nq58_3, cq58_3, claq58_3, aq58_4, nq58_4, cq58_4, claq58_4, upds_self _ _ ⟨rfl, rfl, rfl, rfl, rfl, rfl, rfl, trivial⟩, l5_7, hS, hO, hnhq58_0, hq58_0, hnhq58_1, hq58_1, hq58_2, hnhq58_3, hq58_3, hnhq58_4, hq58_4⟩
       ·have H := ifF hb57 H; refine WC_exit rfl ?_
        have hO : Owns G56 w55 w0.heap.size ([⟨49, 4, ns51_4, .slice as51_4 ns51_4 cs51_4, clas51_4⟩, ⟨45, 2, ns51_3, .slice as51_3 ns51_3 cs51_3, clas51_3⟩, ⟨3, 1, ns51_1, .slice as51_1 ns51_1 cs51_1, clas51_1⟩, ⟨3, 1, ns51_0, .slice as51_0 ns51_0 cs51_0, clas51_0⟩, ⟨43, 3, 1, .slice (some ⟨b43, 0, none⟩) 1 1, [.slice as51_2 ns51_2 cs51_2, .slice as51_3 ns51_3 cs51_3, .slice as51_4 ns51_4 cs51_4]⟩]) := hO
        have H := Option.some.inj H; subst H
        have hres := hqq53 _ rfl
        subst hres
        exact ⟨_, G56, as51_0, ns51_0, cs51_0, clas51_0, as51_1, ns51_1, cs51_1, clas51_1, as51_2, ns51_2, cs51_2, as51_3, ns51_3, cs51_3, clas51_3, as51_4, ns51_4, cs51_4, clas51_4, upds_self _ _ ⟨rfl, rfl, rfl, rfl, trivial⟩, leG56, hS, hO, hnhs51_0, hs51_0, hnhs51_1, hs51_1, hs51_2, hnhs51_3, hs51_3, hnhs51_4, hs51_4⟩
     ·rintro F w86 ⟨Fb, G87, aq53_0, nq53_0, cq53_0, claq53_0, aq53_1, nq53_1, cq53_1, claq53_1, aq53_2, nq53_2, cq53_2, aq53_3, nq53_3, cq53_3, claq53_3, aq53_4, nq53_4, cq53_4, claq53_4, rfl, leG87, hS, hO, hnhq53_0, hq53_0, hnhq53_1, hq53_1, hq53_2, hnhq53_3, hq53_3, hnhq53_4, hq53_4⟩
      refine WC_seq ?_; refine WC_region ?_; refine WL_val (rn_loadA ag43 (cs := [.slice aq53_2 nq53_2 cq53_2, .slice aq53_3 nq53_3 cq53_3, .slice aq53_4 nq53_4 cq53_4]) rfl rfl (fun j v hj => own_sub hO (k := 4) rfl 0 3 j v hj)) rfl ?_; refine WL_val (rn_move (v := (.slice aq53_0 nq53_0 cq53_0)) rfl) rfl ?_; obtain ⟨G88, leG88, hS, hO, hfG88⟩ := hO.freezeS hS RTLandEvent_mono (k := 1) rfl hq53_3 hnhq53_3; obtain ⟨G89, leG89, hS, hO, hfG89⟩ := hO.freezeS hS RTLandMemory_mono (k := 0) rfl (hq53_4.mono RTLandMemory_mono leG88) hnhq53_4
      have l6_8 := leG88.trans leG89
      obtain ⟨G90, leG90, hS, hO, hfG90⟩ := hO.freezeS hS RInt_mono (k := 1) rfl (hq53_0.mono RInt_mono l6_8) hnhq53_0; obtain ⟨y91, hy91, H⟩ := bnd H
      have l6_9 := l6_8.trans leG90
      have l7_9 := leG89.trans leG90
      refine WL_op rfl (OpP_callV cb10 (f10_ok (x0 := (⟨q53.2.2.People, q53.2.2.Events, q53.2.2.Memories⟩ : TLandBook)) (x1 := q53.1) hS.sat (hq53_2.mono RTLandPerson_mono l6_9) (hfG88.mono RTLandEvent_mono l7_9) (hfG89.mono RTLandMemory_mono leG90) hfG90 hy91) rfl rfl (fun w92 hb => ?_)); have hS := hS.keep hb; have hO := hO.below hb; refine WL_val (rn_move (v := (.tuple #[.bool y91.1, .int .i64 y91.2])) rfl) rfl ?_; refine WL_val (rn_extract (v := (.bool y91.1)) rfl rfl) rfl ?_; refine WL_val (rn_extract (v := (.int .i64 y91.2)) rfl rfl) rfl ?_; refine WL_val (rn_assign (v := (.bool y91.1)) rfl) rfl ?_; refine WL_val (rn_assign (v := (.int .i64 y91.2)) rfl) rfl ?_; refine WL_nil ?_; refine WC_seq ?_; refine WC_region ?_; refine WL_val (rn_loadA ag43 (cs := [.slice aq53_2 nq53_2 cq53_2, .slice aq53_3 nq53_3 cq53_3, .slice aq53_4 nq53_4 cq53_4]) rfl rfl (fun j v hj => own_sub hO (k := 1) rfl 0 3 j v hj)) rfl ?_; obtain ⟨y93, hy93, H⟩ := bnd H; refine WL_op rfl (OpP_callG cb11 (f11_ok (x0 := (⟨q53.2.2.People, q53.2.2.Events, q53.2.2.Memories⟩ : TLandBook)) hS.sat (hq53_2.mono RTLandPerson_mono l6_9) (hfG88.mono RTLandEvent_mono l7_9) (hfG89.mono RTLandMemory_mono leG90) hy93) rfl rfl (fun vy93 G95 w94 hg hvy93 => ?_)); obtain ⟨a96, n96, c96, ⟨⟩, h96⟩ := hvy93; have hS := hS.grow hg; have hO := hO.grow hg
      have leG95 := hg.le
      refine WL_val (rn_move (v := (.tuple #[.slice a96 n96 c96, .int .i64 y93.2])) rfl) rfl ?_; refine WL_val (rn_extract (v := (.slice a96 n96 c96)) rfl rfl) rfl ?_; refine WL_val (rn_extract (v := (.int .i64 y93.2)) rfl rfl) rfl ?_; refine WL_val (rn_assign (v := (.slice a96 n96 c96)) rfl) rfl ?_; refine WL_val (rn_assign (v := (.int .i64 y93.2)) rfl) rfl ?_; refine WL_nil ?_; refine WC_seq ?_; refine WC_region ?_; refine WL_val (rn_loadA ag43 (cs := [.slice aq53_2 nq53_2 cq53_2, .slice aq53_3 nq53_3 cq53_3, .slice aq53_4 nq53_4 cq53_4]) rfl rfl (fun j v hj => own_sub hO (k := 1) rfl 0 3 j v hj)) rfl ?_; obtain ⟨y97, hy97, H⟩ := bnd H
      have l6_10 := l6_9.trans leG95
      have l7_10 := l7_9.trans leG95
      have l8_10 := leG90.trans leG95
      refine WL_op rfl (OpP_callG cb12 (f12_ok (x0 := (⟨q53.2.2.People, q53.2.2.Events, q53.2.2.Memories⟩ : TLandBook)) (x1 := 0) hS.sat (hq53_2.mono RTLandPerson_mono l6_10) (hfG88.mono RTLandEvent_mono l7_10) (hfG89.mono RTLandMemory_mono l8_10) hy97) rfl rfl (fun vy97 G99 w98 hg hvy97 => ?_)); obtain ⟨a100, n100, c100, ⟨⟩, h100⟩ := hvy97; have hS := hS.grow hg; have hO := hO.grow hg
      have leG99 := hg.le
      refine WL_val (rn_move (v := (.tuple #[.slice a100 n100 c100, .int .i64 y97.2.1, .int .i64 y97.2.2])) rfl) rfl ?_; refine WL_val (rn_extract (v := (.slice a100 n100 c100)) rfl rfl) rfl ?_; refine WL_val (rn_extract (v := (.int .i64 y97.2.1)) rfl rfl) rfl ?_; refine WL_val (rn_extract (v := (.int .i64 y97.2.2)) rfl rfl) rfl ?_; refine WL_val (rn_assign (v := (.slice a100 n100 c100)) rfl) rfl ?_; refine WL_val (rn_assign (v := (.int .i64 y97.2.1)) rfl) rfl ?_; refine WL_val (rn_assign (v := (.int .i64 y97.2.2)) rfl) rfl ?_; refine WL_nil ?_; refine WC_seq ?_; refine WC_seq ?_; obtain ⟨q101, hq101, H⟩ := bnd H; refine WC_cut (fun F w => ∃ (Fb : Fr) (G : Gm), F = upds Fb [(2, .int .i64 x2), (10, .slice aq53_0 nq53_0 cq53_0), (15, .slice a96 n96 c96), (18, .int .i64 y97.2.1), (151, .bool q101)] ∧ Gle G99 G ∧ Since w0.heap.size G0 w0 G w ∧ Owns G w w0.heap.size [⟨3, 1, nq53_1, .slice aq53_1 nq53_1 cq53_1, claq53_1⟩, ⟨43, 3, 1, .slice (some ⟨b43, 0, none⟩) 1 1, [.slice aq53_2 nq53_2 cq53_2, .slice aq53_3 nq53_3 cq53_3, .slice aq53_4 nq53_4 cq53_4]⟩]) ?_ ?_
      ·have Hoq101 := H; have H := hq101; refine WC_region ?_; refine WL_val (rn_move (v := (.int .i64 y91.2)) rfl) rfl ?_; refine WL_val (rn_neq rfl rfl) rfl ?_; refine WL_val (rn_move (v := (.bool (y91.2 != 0))) rfl) rfl ?_
       rcases bcases (y91.2 != 0) with hb102 | hb102
       ·have H := ifT hb102 H; refine WL_guardN rfl hb102 rfl rfl rfl ?_; refine WL_guardN rfl hb102 rfl rfl rfl ?_; refine WL_val (rn_pickT (v := (.bool true)) rfl hb102 rfl) rfl ?_; refine WL_val (rn_move (v := (.bool true)) rfl) rfl ?_; refine WL_guardN rfl rfl rfl rfl rfl ?_; refine WL_guardN rfl rfl rfl rfl rfl ?_; refine WL_val (rn_pickT (v := (.bool true)) rfl rfl rfl) rfl ?_; refine WL_val (rn_move (v := (.bool true)) rfl) rfl ?_; refine WL_guardN rfl rfl rfl rfl rfl ?_; refine WL_guardN rfl rfl rfl rfl rfl ?_; refine WL_val (rn_pickT (v := (.bool true)) rfl rfl rfl) rfl ?_; refine WL_val (rn_move (v := (.bool true)) rfl) rfl ?_; refine WL_guardN rfl rfl rfl rfl rfl ?_; refine WL_guardN rfl rfl rfl rfl rfl ?_; refine WL_guardN rfl rfl rfl rfl rfl ?_; refine WL_guardN rfl rfl rfl rfl rfl ?_; refine WL_val (rn_pickT (v := (.bool true)) rfl rfl rfl) rfl ?_; refine WL_val (rn_move (v := (.bool true)) rfl) rfl ?_; refine WL_guardN rfl rfl rfl rfl rfl ?_; refine WL_guardN rfl rfl rfl rfl rfl ?_; refine WL_guardN rfl rfl rfl rfl rfl ?_; refine WL_guardN rfl rfl rfl rfl rfl ?_; refine WL_val (rn_pickT (v := (.bool true)) rfl rfl rfl) rfl ?_; refine WL_nil ?_
        have hO : Owns G99 w98 w0.heap.size ([⟨3, 1, nq53_1, .slice aq53_1 nq53_1 cq53_1, claq53_1⟩, ⟨43, 3, 1, .slice (some ⟨b43, 0, none⟩) 1 1, [.slice aq53_2 nq53_2 cq53_2, .slice aq53_3 nq53_3 cq53_3, .slice aq53_4 nq53_4 cq53_4]⟩]) := hO
        have H := Option.some.inj H; subst H
        exact ⟨_, G99, upds_self _ _ ⟨rfl, rfl, rfl, rfl, rfl, trivial⟩, Gle.refl _, hS, hO⟩
       ·have H := ifF hb102 H; refine WL_guardY rfl hb102 rfl rfl ?_; refine WL_val (rn_move (v := (.int .i64 y93.2)) rfl) rfl ?_; refine WL_guardY rfl hb102 rfl rfl ?_; refine WL_val (rn_neq rfl rfl) rfl ?_; refine WL_val (rn_pickF (v := (.bool (y93.2 != 0))) rfl hb102 rfl) rfl ?_; refine WL_val (rn_move (v := (.bool (y93.2 != 0))) rfl) rfl ?_
        rcases bcases (y93.2 != 0) with hb103 | hb103
        ·have H := ifT hb103 H; refine WL_guardN rfl hb103 rfl rfl rfl ?_; refine WL_guardN rfl hb103 rfl rfl rfl ?_; refine WL_val (rn_pickT (v := (.bool true)) rfl hb103 rfl) rfl ?_; refine WL_val (rn_move (v := (.bool true)) rfl) rfl ?_; refine WL_guardN rfl rfl rfl rfl rfl ?_; refine WL_guardN rfl rfl rfl rfl rfl ?_; refine WL_val (rn_pickT (v := (.bool true)) rfl rfl rfl) rfl ?_; refine WL_val (rn_move (v := (.bool true)) rfl) rfl ?_; refine WL_guardN rfl rfl rfl rfl rfl ?_; refine WL_guardN rfl rfl rfl rfl rfl ?_; refine WL_guardN rfl rfl rfl rfl rfl ?_; refine WL_guardN rfl rfl rfl rfl rfl ?_; refine WL_val (rn_pickT (v := (.bool true)) rfl rfl rfl) rfl ?_; refine WL_val (rn_move (v := (.bool true)) rfl) rfl ?_; refine WL_guardN rfl rfl rfl rfl rfl ?_; refine WL_guardN rfl rfl rfl rfl rfl ?_; refine WL_guardN rfl rfl rfl rfl rfl ?_; refine WL_guardN rfl rfl rfl rfl rfl ?_; refine WL_val (rn_pickT (v := (.bool true)) rfl rfl rfl) rfl ?_; refine WL_nil ?_
         have hO : Owns G99 w98 w0.heap.size ([⟨3, 1, nq53_1, .slice aq53_1 nq53_1 cq53_1, claq53_1⟩, ⟨43, 3, 1, .slice (some ⟨b43, 0, none⟩) 1 1, [.slice aq53_2 nq53_2 cq53_2, .slice aq53_3 nq53_3 cq53_3, .slice aq53_4 nq53_4 cq53_4]⟩]) := hO
         have H := Option.some.inj H; subst H
         exact ⟨_, G99, upds_self _ _ ⟨rfl, rfl, rfl, rfl, rfl, trivial⟩, Gle.refl _, hS, hO⟩
        ·have H := ifF hb103 H; refine WL_guardY rfl hb103 rfl rfl ?_; refine WL_val (rn_move (v := (.int .i64 y97.2.2)) rfl) rfl ?_; refine WL_guardY rfl hb103 rfl rfl ?_; refine WL_val (rn_neq rfl rfl) rfl ?_; refine WL_val (rn_pickF (v := (.bool (y97.2.2 != 0))) rfl hb103 rfl) rfl ?_; refine WL_val (rn_move (v := (.bool (y97.2.2 != 0))) rfl) rfl ?_
         rcases bcases (y97.2.2 != 0) with hb104 | hb104
         ·have H := ifT hb104 H; refine WL_guardN rfl hb104 rfl rfl rfl ?_; refine WL_guardN rfl hb104 rfl rfl rfl ?_; refine WL_val (rn_pickT (v := (.bool true)) rfl hb104 rfl) rfl ?_; refine WL_val (rn_move (v := (.bool true)) rfl) rfl ?_; refine WL_guardN rfl rfl rfl rfl rfl ?_; refine WL_guardN rfl rfl rfl rfl rfl ?_; refine WL_guardN rfl rfl rfl rfl rfl ?_; refine WL_guardN rfl rfl rfl rfl rfl ?_; refine WL_val (rn_pickT (v := (.bool true)) rfl rfl rfl) rfl ?_; refine WL_val (rn_move (v := (.bool true)) rfl) rfl ?_; refine WL_guardN rfl rfl rfl rfl rfl ?_; refine WL_guardN rfl rfl rfl rfl rfl ?_; refine WL_guardN rfl rfl rfl rfl rfl ?_; refine WL_guardN rfl rfl rfl rfl rfl ?_; refine WL_val (rn_pickT (v := (.bool true)) rfl rfl rfl) rfl ?_; refine WL_nil ?_
          have hO : Owns G99 w98 w0.heap.size ([⟨3, 1, nq53_1, .slice aq53_1 nq53_1 cq53_1, claq53_1⟩, ⟨43, 3, 1, .slice (some ⟨b43, 0, none⟩) 1 1, [.slice aq53_2 nq53_2 cq53_2, .slice aq53_3 nq53_3 cq53_3, .slice aq53_4 nq53_4 cq53_4]⟩]) := hO
          have H := Option.some.inj H; subst H
          exact ⟨_, G99, upds_self _ _ ⟨rfl, rfl, rfl, rfl, rfl, trivial⟩, Gle.refl _, hS, hO⟩
         ·have H := ifF hb104 H; refine WL_guardY rfl hb104 rfl rfl ?_; refine WL_val (rn_move (v := (.bool y91.1)) rfl) rfl ?_; refine WL_guardY rfl hb104 rfl rfl ?_; refine WL_val (rn_not rfl) rfl ?_; refine WL_val (rn_pickF (v := (.bool (!y91.1))) rfl hb104 rfl) rfl ?_; refine WL_val (rn_move (v := (.bool (!y91.1))) rfl) rfl ?_
          rcases bcases (!y91.1) with hb105 | hb105
          ·have H := ifT hb105 H; refine WL_guardN rfl hb105 rfl rfl rfl ?_; refine WL_guardN rfl hb105 rfl rfl rfl ?_; refine WL_guardN rfl hb105 rfl rfl rfl ?_; refine WL_guardN rfl hb105 rfl rfl rfl ?_; refine WL_val (rn_pickT (v := (.bool true)) rfl hb105 rfl) rfl ?_; refine WL_val (rn_move (v := (.bool true)) rfl) rfl ?_; refine WL_guardN rfl rfl rfl rfl rfl ?_; refine WL_guardN rfl rfl rfl rfl rfl ?_; refine WL_guardN rfl rfl rfl rfl rfl ?_; refine WL_guardN rfl rfl rfl rfl rfl ?_; refine WL_val (rn_pickT (v := (.bool true)) rfl rfl rfl) rfl ?_; refine WL_nil ?_
           have hO : Owns G99 w98 w0.heap.size ([⟨3, 1, nq53_1, .slice aq53_1 nq53_1 cq53_1, claq53_1⟩, ⟨43, 3, 1, .slice (some ⟨b43, 0, none⟩) 1 1, [.slice aq53_2 nq53_2 cq53_2, .slice aq53_3 nq53_3 cq53_3, .slice aq53_4 nq53_4 cq53_4]⟩]) := hO
           have H := Option.some.inj H; subst H
           exact ⟨_, G99, upds_self _ _ ⟨rfl, rfl, rfl, rfl, rfl, trivial⟩, Gle.refl _, hS, hO⟩
          ·have H := ifF hb105 H; refine WL_guardY rfl hb105 rfl rfl ?_; refine WL_val (rn_move (v := (.slice a96 n96 c96)) rfl) rfl ?_; refine WL_guardY rfl hb105 rfl rfl ?_; refine WL_val (rn_len sl22 rfl rfl (h96.mono RInt_mono leG99).1) rfl ?_; refine WL_guardY rfl hb105 rfl rfl ?_; refine WL_val (rn_move (v := (.int .i64 x2)) rfl) rfl ?_; refine WL_guardY rfl hb105 rfl rfl ?_; refine WL_val (rn_neq rfl rfl) rfl ?_; refine WL_val (rn_pickF (v := (.bool ((y93.1.length : Int) != x2))) rfl hb105 rfl) rfl ?_; refine WL_val (rn_move (v := (.bool ((y93.1.length : Int) != x2))) rfl) rfl ?_
           rcases bcases ((y93.1.length : Int) != x2) with hb106 | hb106
           ·have H := ifT hb106 H; refine WL_guardN rfl hb106 rfl rfl rfl ?_; refine WL_guardN rfl hb106 rfl rfl rfl ?_; refine WL_guardN rfl hb106 rfl rfl rfl ?_; refine WL_guardN rfl hb106 rfl rfl rfl ?_; refine WL_val (rn_pickT (v := (.bool true)) rfl hb106 rfl) rfl ?_; refine WL_nil ?_
            have hO : Owns G99 w98 w0.heap.size ([⟨3, 1, nq53_1, .slice aq53_1 nq53_1 cq53_1, claq53_1⟩, ⟨43, 3, 1, .slice (some ⟨b43, 0, none⟩) 1 1, [.slice aq53_2 nq53_2 cq53_2, .slice aq53_3 nq53_3 cq53_3, .slice aq53_4 nq53_4 cq53_4]⟩]) := hO
            have H := Option.some.inj H; subst H
            exact ⟨_, G99, upds_self _ _ ⟨rfl, rfl, rfl, rfl, rfl, trivial⟩, Gle.refl _, hS, hO⟩
           ·have H := ifF hb106 H; refine WL_guardY rfl hb106 rfl rfl ?_; refine WL_val (rn_move (v := (.slice a100 n100 c100)) rfl) rfl ?_; refine WL_guardY rfl hb106 rfl rfl ?_; refine WL_val (rn_move (v := (.slice aq53_1 nq53_1 cq53_1)) rfl) rfl ?_; refine WL_guardY rfl hb106 rfl rfl ?_; obtain ⟨y107, hy107, H⟩ := bnd H
            have l6_11 := l6_10.trans leG99
            obtain ⟨Gv108, leGv108, hSGv108, hOGv108, hvGv108⟩ := hO.freezeS hS RInt_mono (k := 0) rfl (hq53_1.mono RInt_mono l6_11) hnhq53_1; refine WL_op rfl (OpP_callV cb13 (f13_ok (x0 := y97.1) (x1 := q53.2.1) hSGv108.sat (h100.mono RInt_mono leGv108) hvGv108 hy107) rfl rfl (fun w109 hb => ?_)); have hS := hS.keep hb; have hO := hO.below hb; refine WL_guardY rfl hb106 rfl rfl ?_; refine WL_val (rn_not rfl) rfl ?_; refine WL_val (rn_pickF (v := (.bool (!y107))) rfl hb106 rfl) rfl ?_; refine WL_nil ?_
            have hO : Owns G99 w109 w0.heap.size ([⟨3, 1, nq53_1, .slice aq53_1 nq53_1 cq53_1, claq53_1⟩, ⟨43, 3, 1, .slice (some ⟨b43, 0, none⟩) 1 1, [.slice aq53_2 nq53_2 cq53_2, .slice aq53_3 nq53_3 cq53_3, .slice aq53_4 nq53_4 cq53_4]⟩]) := hO
            have H := Option.some.inj H; subst H
            exact ⟨_, G99, upds_self _ _ ⟨rfl, rfl, rfl, rfl, rfl, trivial⟩, Gle.refl _, hS, hO⟩
      ·rintro F w110 ⟨Fb, G111, rfl, leG111, hS, hO⟩
       refine WC_cond rfl (fun hb112 => ?_) (fun hb112 => ?_)
       ·have H := ifT hb112 H; refine WC_seq ?_; refine WC_region ?_; refine WL_val (rn_assign (v := (.bool false)) rfl) rfl ?_; refine WL_nil ?_; refine WC_ret ?_
        have H : some false = some r := H
        have H := Option.some.inj H; subst H
        exact ⟨rfl, hS.below⟩
       ·have H := ifF hb112 H; refine WC_skip ?_; refine WC_seq ?_; refine WC_seq ?_; refine WC_region ?_; refine WL_val (rn_assign (v := (.int .i64 0)) rfl) rfl ?_; refine WL_nil ?_; obtain ⟨q115, hq115, H⟩ := bnd H; refine WC_cut (fun F w => ∃ (p114 : TLandBook) (Fb : Fr) (G : Gm) (ap114_0 : Option Addr) (np114_0 cp114_0 : Nat) (ap114_1 : Option Addr) (np114_1 cp114_1 : Nat) (ap114_2 : Option Addr) (np114_2 cp114_2 : Nat), q115 = .inl p114 ∧ F = upds Fb [(2, .int .i64 x2), (18, .int .i64 y97.2.1)] ∧ Gle G111 G ∧ Since w0.heap.size G0 w0 G w ∧ Owns G w w0.heap.size [⟨3, 1, nq53_1, .slice aq53_1 nq53_1 cq53_1, claq53_1⟩, ⟨43, 3, 1, .slice (some ⟨b43, 0, none⟩) 1 1, [.slice ap114_0 np114_0 cp114_0, .slice ap114_1 np114_1 cp114_1, .slice ap114_2 np114_2 cp114_2]⟩] ∧ RSl RTLandPerson 2 G ap114_0 np114_0 cp114_0 p114.People ∧ RSl RTLandEvent 2 G ap114_1 np114_1 cp114_1 p114.Events ∧ RSl RTLandMemory 4 G ap114_2 np114_2 cp114_2 p114.Memories) ?_ ?_
        ·refine WC_block (WC_loop hq115 (fun s113 F w => ∃ (Fb : Fr) (G : Gm) (as113_0 : Option Addr) (ns113_0 cs113_0 : Nat) (as113_1 : Option Addr) (ns113_1 cs113_1 : Nat) (as113_2 : Option Addr) (ns113_2 cs113_2 : Nat), F = upds Fb [(2, .int .i64 x2), (10, .slice aq53_0 nq53_0 cq53_0), (15, .slice a96 n96 c96), (18, .int .i64 y97.2.1), (20, .int .i64 s113.1)] ∧ Gle G111 G ∧ Since w0.heap.size G0 w0 G w ∧ Owns G w w0.heap.size [⟨3, 1, nq53_1, .slice aq53_1 nq53_1 cq53_1, claq53_1⟩, ⟨43, 3, 1, .slice (some ⟨b43, 0, none⟩) 1 1, [.slice as113_0 ns113_0 cs113_0, .slice as113_1 ns113_1 cs113_1, .slice as113_2 ns113_2 cs113_2]⟩] ∧ RSl RTLandPerson 2 G as113_0 ns113_0 cs113_0 s113.2.People ∧ RSl RTLandEvent 2 G as113_1 ns113_1 cs113_1 s113.2.Events ∧ RSl RTLandMemory 4 G as113_2 ns113_2 cs113_2 s113.2.Memories) ?_ ?_)
         ·have hO : Owns G111 w110 w0.heap.size ([⟨3, 1, nq53_1, .slice aq53_1 nq53_1 cq53_1, claq53_1⟩, ⟨43, 3, 1, .slice (some ⟨b43, 0, none⟩) 1 1, [.slice aq53_2 nq53_2 cq53_2, .slice aq53_3 nq53_3 cq53_3, .slice aq53_4 nq53_4 cq53_4]⟩]) := hO
          have l6_12 := (l6_10.trans leG99).trans leG111
          have l7_12 := (l7_10.trans leG99).trans leG111
          have l8_12 := (l8_10.trans leG99).trans leG111
          exact ⟨_, G111, aq53_2, nq53_2, cq53_2, aq53_3, nq53_3, cq53_3, aq53_4, nq53_4, cq53_4, upds_self _ _ ⟨rfl, rfl, rfl, rfl, rfl, trivial⟩, Gle.refl _, hS, hO, (hq53_2.mono RTLandPerson_mono l6_12), (hfG88.mono RTLandEvent_mono l7_12), (hfG89.mono RTLandMemory_mono l8_12)⟩
         ·rintro s113 F w117 t116 ⟨Fb, G118, as113_0, ns113_0, cs113_0, as113_1, ns113_1, cs113_1, as113_2, ns113_2, cs113_2, rfl, leG118, hS, hO, hs113_0, hs113_1, hs113_2⟩
          intro H1 hqq115
          have Hoq115 := H; have H := H1
          unfold f3_b1 at H
          refine WC_seq ?_; refine WC_seq ?_; refine WC_region ?_; refine WL_val (rn_move (v := (.int .i64 s113.1)) rfl) rfl ?_; refine WL_val (rn_move (v := (.int .i64 x2)) rfl) rfl ?_; refine WL_val (rn_lss rfl rfl) rfl ?_; refine WL_nil ?_; refine WC_cond rfl (fun hb119 => ?_) (fun hb119 => ?_)
          ·have H := ifT hb119 H; refine WC_skip ?_; refine WC_seq ?_; refine WC_block ?_; refine WC_seq ?_; have hS := hS.keep (below_drew _); have hO := hO.below (below_drew _)
           refine WC_regionD mixedO (fun _ w => Sat G118 w ∧ Owns G118 w w0.heap.size [⟨3, 1, nq53_1, .slice aq53_1 nq53_1 cq53_1, claq53_1⟩, ⟨43, 3, 1, .slice (some ⟨b43, 0, none⟩) 1 1, [.slice as113_0 ns113_0 cs113_0, .slice as113_1 ns113_1 cs113_1, .slice as113_2 ns113_2 cs113_2]⟩]) (.fl 0 (.fl 1 (.fl 2 (.fl 3 (.fl 4 (.on 5 (.on 6 (.on 7 (.on 8 .nil))))))))) (by kernel_rfl) rfl (by kernel_rfl) (fun _ => ⟨hS.sat, hO⟩) ?_
           refine WD_val rfl (fun w hw => rn_move (v := (.slice a96 n96 c96)) rfl) rfl ?_; refine WD_val rfl (fun w hw => rn_move (v := (.int .i64 s113.1)) rfl) rfl ?_; obtain ⟨y120, hy120, H⟩ := bnd H
           have l10_13 := (leG99.trans leG111).trans leG118
           refine WD_idx rfl sl22 (h96.mono RInt_mono l10_13) hy120 rfl rfl rfl ?_
           rintro b121 o121 _ hcb121 _ ⟨⟩
           refine WD_val rfl (fun w hw => rn_load na3 rfl (hw.1.cell (hcb121 0 _ rfl))) rfl ?_; refine WD_val rfl (fun w hw => rn_move (v := (.slice aq53_0 nq53_0 cq53_0)) rfl) rfl ?_; refine WD_op rfl rfl (OpP_val (rn_move (v := (.int .i64 s113.1)) rfl) rfl ?_); refine ⟨fun _ _ => ⟨hS.sat, hO⟩, ?_⟩; obtain ⟨y122, hy122, H⟩ := bnd H
           have l9_13 := leG95.trans l10_13
           refine WD_op rfl rfl (OpP_idx sl22 (hfG90.mono RInt_mono l9_13) hy122 rfl rfl rfl ?_)
           rintro b123 o123 _ hcb123 _ ⟨⟩
           refine ⟨fun _ _ => ⟨hS.sat, hO⟩, ?_⟩; refine WD_op rfl rfl (OpP_val (rn_load na3 rfl (hS.sat.cell (hcb123 0 _ rfl))) rfl ?_); refine ⟨fun _ _ => ⟨hS.sat, hO⟩, ?_⟩; refine WD_op rfl rfl (OpP_val (rn_gtr rfl rfl) rfl ?_)
           refine ⟨fun _ h => noneed (by kernel_rfl) h, ?_⟩
           refine WD_nil ?_; refine WC_cond rfl (fun hb124 => ?_) (fun hb124 => ?_)
           ·have H := ifT hb124 H; refine WC_seq ?_; refine WC_region ?_; refine WL_val (rn_assign (v := (.bool false)) rfl) rfl ?_; refine WL_nil ?_; refine WC_ret ?_; have H := Option.some.inj H; subst H
            have hres := hqq115 _ rfl
            subst hres; have H := Hoq115
            have H : some false = some r := H
            have H := Option.some.inj H; subst H
            exact ⟨rfl, hS.below⟩
           ·have H := ifF hb124 H; refine WC_skip ?_; refine WC_region ?_; refine WL_val (rn_move (v := (.int .i64 s113.1)) rfl) rfl ?_; refine WL_val (rn_add rfl rfl) rfl ?_; refine WL_val (rn_assign (v := (.int .i64 (IntKind.i64.wrap (s113.1 + 1)))) rfl) rfl ?_; refine WL_nil ?_
            have hO : Owns G118 w117.drew w0.heap.size ([⟨3, 1, nq53_1, .slice aq53_1 nq53_1 cq53_1, claq53_1⟩, ⟨43, 3, 1, .slice (some ⟨b43, 0, none⟩) 1 1, [.slice as113_0 ns113_0 cs113_0, .slice as113_1 ns113_1 cs113_1, .slice as113_2 ns113_2 cs113_2]⟩]) := hO
            have H := Option.some.inj H; subst H; refine ⟨_, rfl, ?_⟩
            exact ⟨_, G118, as113_0, ns113_0, cs113_0, as113_1, ns113_1, cs113_1, as113_2, ns113_2, cs113_2, upds_self _ _ ⟨rfl, rfl, rfl, rfl, rfl, trivial⟩, leG118, hS, hO, hs113_0, hs113_1, hs113_2⟩
          ·have H := ifF hb119 H; refine WC_exit rfl ?_
           have hO : Owns G118 w117 w0.heap.size ([⟨3, 1, nq53_1, .slice aq53_1 nq53_1 cq53_1, claq53_1⟩, ⟨43, 3, 1, .slice (some ⟨b43, 0, none⟩) 1 1, [.slice as113_0 ns113_0 cs113_0, .slice as113_1 ns113_1 cs113_1, .slice as113_2 ns113_2 cs113_2]⟩]) := hO
           have H := Option.some.inj H; subst H
           have hres := hqq115 _ rfl
           subst hres
           exact ⟨_, _, G118, as113_0, ns113_0, cs113_0, as113_1, ns113_1, cs113_1, as113_2, ns113_2, cs113_2, rfl, upds_self _ _ ⟨rfl, rfl, trivial⟩, leG118, hS, hO, hs113_0, hs113_1, hs113_2⟩
        ·rintro F w125 ⟨p114, Fb, G126, ap114_0, np114_0, cp114_0, ap114_1, np114_1, cp114_1, ap114_2, np114_2, cp114_2, rfl, rfl, leG126, hS, hO, hp114_0, hp114_1, hp114_2⟩
         refine WC_seq ?_; obtain ⟨q127, hq127, H⟩ := bnd H; refine WC_cut (fun F w => ∃ (Fb : Fr) (G : Gm), F = upds Fb [(6, .bool q127)] ∧ Gle G126 G ∧ Since w0.heap.size G0 w0 G w ∧ Owns G w w0.heap.size [⟨3, 1, nq53_1, .slice aq53_1 nq53_1 cq53_1, claq53_1⟩, ⟨43, 3, 1, .slice (some ⟨b43, 0, none⟩) 1 1, [.slice ap114_0 np114_0 cp114_0, .slice ap114_1 np114_1 cp114_1, .slice ap114_2 np114_2 cp114_2]⟩]) ?_ ?_
         ·have Hoq127 := H; have H := hq127; refine WC_region ?_; refine WL_val (rn_move (v := (.int .i64 y97.2.1)) rfl) rfl ?_; refine WL_val (rn_eql rfl rfl) rfl ?_; refine WL_val (rn_move (v := (.int .i64 x2)) rfl) rfl ?_; refine WL_val (rn_gtr rfl rfl) rfl ?_; refine WL_val (rn_eqlB Tryz.underlying4 rfl rfl) rfl ?_; refine WL_val (rn_move (v := (.bool ((y97.2.1 == 1) == (decide (1 < x2))))) rfl) rfl ?_
          rcases bcases ((y97.2.1 == 1) == (decide (1 < x2))) with hb128 | hb128
          ·have H := ifT hb128 H; refine WL_guardY rfl hb128 rfl rfl ?_; refine WL_val (rn_move (v := (.int .i64 y97.2.1)) rfl) rfl ?_; refine WL_guardY rfl hb128 rfl rfl ?_; refine WL_val (rn_eql rfl rfl) rfl ?_; refine WL_guardY rfl hb128 rfl rfl ?_; refine WL_val (rn_move (v := (.int .i64 x2)) rfl) rfl ?_; refine WL_guardY rfl hb128 rfl rfl ?_; refine WL_val (rn_eql rfl rfl) rfl ?_; refine WL_guardY rfl hb128 rfl rfl ?_; refine WL_val (rn_eqlB Tryz.underlying4 rfl rfl) rfl ?_; refine WL_val (rn_pickT (v := (.bool ((y97.2.1 == (-1)) == (x2 == 1)))) rfl hb128 rfl) rfl ?_; refine WL_val (rn_move (v := (.bool ((y97.2.1 == (-1)) == (x2 == 1)))) rfl) rfl ?_
           rcases bcases ((y97.2.1 == (-1)) == (x2 == 1)) with hb129 | hb129
           ·have H := ifT hb129 H; refine WL_guardY rfl hb129 rfl rfl ?_; obtain ⟨y130, hy130, H⟩ := bnd H; refine WL_op rfl (OpP_callV cb7 (f7_ok  hS.sat  hy130) rfl rfl (fun w131 hb => ?_)); have hS := hS.keep hb; have hO := hO.below hb; refine WL_val (rn_pickT (v := (.bool y130)) rfl hb129 rfl) rfl ?_; refine WL_val (rn_assign (v := (.bool y130)) rfl) rfl ?_; refine WL_nil ?_
            have hO : Owns G126 w131 w0.heap.size ([⟨3, 1, nq53_1, .slice aq53_1 nq53_1 cq53_1, claq53_1⟩, ⟨43, 3, 1, .slice (some ⟨b43, 0, none⟩) 1 1, [.slice ap114_0 np114_0 cp114_0, .slice ap114_1 np114_1 cp114_1, .slice ap114_2 np114_2 cp114_2]⟩]) := hO
            have H := Option.some.inj H; subst H
            exact ⟨_, G126, upds_self _ _ ⟨rfl, trivial⟩, Gle.refl _, hS, hO⟩
           ·have H := ifF hb129 H; refine WL_guardN rfl hb129 rfl rfl rfl ?_; refine WL_val (rn_pickF (v := (.bool false)) rfl hb129 rfl) rfl ?_; refine WL_val (rn_assign (v := (.bool false)) rfl) rfl ?_; refine WL_nil ?_
            have hO : Owns G126 w125 w0.heap.size ([⟨3, 1, nq53_1, .slice aq53_1 nq53_1 cq53_1, claq53_1⟩, ⟨43, 3, 1, .slice (some ⟨b43, 0, none⟩) 1 1, [.slice ap114_0 np114_0 cp114_0, .slice ap114_1 np114_1 cp114_1, .slice ap114_2 np114_2 cp114_2]⟩]) := hO
            have H := Option.some.inj H; subst H
            exact ⟨_, G126, upds_self _ _ ⟨rfl, trivial⟩, Gle.refl _, hS, hO⟩
          ·have H := ifF hb128 H; refine WL_guardN rfl hb128 rfl rfl rfl ?_; refine WL_guardN rfl hb128 rfl rfl rfl ?_; refine WL_guardN rfl hb128 rfl rfl rfl ?_; refine WL_guardN rfl hb128 rfl rfl rfl ?_; refine WL_guardN rfl hb128 rfl rfl rfl ?_; refine WL_val (rn_pickF (v := (.bool false)) rfl hb128 rfl) rfl ?_; refine WL_val (rn_move (v := (.bool false)) rfl) rfl ?_; refine WL_guardN rfl rfl rfl rfl rfl ?_; refine WL_val (rn_pickF (v := (.bool false)) rfl rfl rfl) rfl ?_; refine WL_val (rn_assign (v := (.bool false)) rfl) rfl ?_; refine WL_nil ?_
           have hO : Owns G126 w125 w0.heap.size ([⟨3, 1, nq53_1, .slice aq53_1 nq53_1 cq53_1, claq53_1⟩, ⟨43, 3, 1, .slice (some ⟨b43, 0, none⟩) 1 1, [.slice ap114_0 np114_0 cp114_0, .slice ap114_1 np114_1 cp114_1, .slice ap114_2 np114_2 cp114_2]⟩]) := hO
           have H := Option.some.inj H; subst H
           exact ⟨_, G126, upds_self _ _ ⟨rfl, trivial⟩, Gle.refl _, hS, hO⟩
         ·rintro F w132 ⟨Fb, G133, rfl, leG133, hS, hO⟩
          refine WC_ret ?_
          have H : some q127 = some r := H
          have H := Option.some.inj H; subst H
          exact ⟨rfl, hS.below⟩
end Go.Proofs.YtoklmemeanmfdaaGreat
