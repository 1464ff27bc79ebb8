/-
  The walks: each Go function computes its plain function (printed by a program of ours).
-/
import Derived.Test.YtajejmbnmphngaaRd
import Derived.Test.YtajejmbnmphngaaBaseL
import Derived.Test.YtajejmbnmphngaaP14W3
namespace Go.Proofs.Ytajejmbnmphngaa
open Go.RowKit
set_option linter.unusedVariables false

set_option maxRecDepth 20000
set_option linter.unusedVariables false
set_option maxHeartbeats 1000000 in
theorem f54_ok {G0 : Gm} {w0 : World} (hS0 : Sat G0 w0) {x0 : (List TShipCall)} {a1 : Option Addr} {n1 c1 : Nat} {x1 : (List TShipCall)} {a2 : Option Addr} {n2 c2 : Nat} (h1 : RSl RTShipCall 2 G0 a1 n1 c1 x0) (h2 : RSl RTShipCall 2 G0 a2 n2 c2 x1) {r : Bool} (H : f54 x0 x1 = some r) :
  Calls Try.prog 54 #[.slice a1 n1 c1, .slice a2 n2 c2] w0 (RetV w0 (.bool r)) := by
 have hS := Since.start hS0
 have hO : Owns G0 w0 w0.heap.size [] := Owns.nil (Nat.le_refl _)
 unfold f54 at H
 refine enter1 (N := 67) (shutV _ _) Try.func54 rfl rfl rfl rfl ?_; refine WC_seq ?_; refine WC_region ?_; refine WL_val (rn_assign (v := (.bool false)) rfl) rfl ?_; refine WL_nil ?_; refine WC_seq ?_; refine WC_seq ?_; refine WC_region ?_; refine WL_val (rn_assign (v := (.int .i64 0)) rfl) rfl ?_; refine WL_nil ?_; obtain ⟨q5, hq5, H⟩ := bnd H; refine WC_cut (fun F w => ∃ (p4 : Unit) (Fb : Fr) (G : Gm), q5 = .inl p4 ∧ F = upds Fb [(0, .slice a1 n1 c1), (1, .slice a2 n2 c2)] ∧ Gle G0 G ∧ Since w0.heap.size G0 w0 G w ∧ Owns G w w0.heap.size []) ?_ ?_
 ·refine WC_block (WC_loop hq5 (fun s3 F w => ∃ (Fb : Fr) (G : Gm), F = upds Fb [(0, .slice a1 n1 c1), (1, .slice a2 n2 c2), (5, .int .i64 s3)] ∧ Gle G0 G ∧ Since w0.heap.size G0 w0 G w ∧ Owns G w w0.heap.size []) ?_ ?_)
  ·have hO : Owns G0 w0 w0.heap.size ([]) := hO
   exact ⟨_, G0, upds_self _ _ ⟨rfl, rfl, rfl, trivial⟩, Gle.refl _, hS, hO⟩
  ·rintro s3 F w7 t6 ⟨Fb, G8, rfl, leG8, hS, hO⟩
   intro H1 hqq5
   have Hoq5 := H; have H := H1
   unfold f54_b0 at H
   refine WC_seq ?_; refine WC_seq ?_; obtain ⟨q9, hq9, H⟩ := bnd H; refine WC_cut (fun F w => ∃ (Fb : Fr), F = upds Fb [(0, .slice a1 n1 c1), (1, .slice a2 n2 c2), (5, .int .i64 s3), (15, .bool q9)] ∧ w7 = w) ?_ ?_
   ·have Hoq9 := H; have H := hq9; refine WC_region ?_; refine WL_val (rn_move (v := (.int .i64 s3)) rfl) rfl ?_; refine WL_val (rn_move (v := (.slice a1 n1 c1)) rfl) rfl ?_; refine WL_val (rn_len sl30 rfl rfl (h1.mono RTShipCall_mono leG8).1) rfl ?_; refine WL_val (rn_lss rfl rfl) rfl ?_; refine WL_val (rn_move (v := (.bool (decide (s3 < (x0.length : Int))))) rfl) rfl ?_
    rcases bcases (decide (s3 < (x0.length : Int))) with hb10 | hb10
    ·have H := ifT hb10 H; refine WL_guardY rfl hb10 rfl rfl ?_; refine WL_val (rn_move (v := (.int .i64 s3)) rfl) rfl ?_; refine WL_guardY rfl hb10 rfl rfl ?_; refine WL_val (rn_move (v := (.slice a2 n2 c2)) rfl) rfl ?_; refine WL_guardY rfl hb10 rfl rfl ?_; refine WL_val (rn_len sl30 rfl rfl (h2.mono RTShipCall_mono leG8).1) rfl ?_; refine WL_guardY rfl hb10 rfl rfl ?_; refine WL_val (rn_lss rfl rfl) rfl ?_; refine WL_val (rn_pickT (v := (.bool (decide (s3 < (x1.length : Int))))) rfl hb10 rfl) rfl ?_; refine WL_nil ?_; have H := Option.some.inj H; subst H
     exact ⟨_, upds_self _ _ ⟨rfl, rfl, rfl, rfl, trivial⟩, rfl⟩
    ·have H := ifF hb10 H; refine WL_guardN rfl hb10 rfl rfl rfl ?_; refine WL_guardN rfl hb10 rfl rfl rfl ?_; refine WL_guardN rfl hb10 rfl rfl rfl ?_; refine WL_guardN rfl hb10 rfl rfl rfl ?_; refine WL_val (rn_pickF (v := (.bool false)) rfl hb10 rfl) rfl ?_; refine WL_nil ?_; have H := Option.some.inj H; subst H
     exact ⟨_, upds_self _ _ ⟨rfl, rfl, rfl, rfl, trivial⟩, rfl⟩
   ·rintro F wl ⟨Fb, rfl, rfl⟩
    refine WC_cond rfl (fun hb13 => ?_) (fun hb13 => ?_)
    ·have H := ifT hb13 H; refine WC_skip ?_; refine WC_seq ?_; refine WC_block ?_; refine WC_seq ?_; refine WC_seq ?_; have hS := hS.keep (below_drew _); have hO := hO.below (below_drew _)
     refine WC_regionD mixedO (fun _ w => Sat G8 w ∧ True) (.fl 0 (.fl 1 (.fl 2 (.fl 3 (.fl 4 (.fl 5 (.on 6 (.on 7 (.on 8 (.on 9 (.on 10 .nil))))))))))) (by kernel_rfl) rfl (by kernel_rfl) (fun _ => ⟨hS.sat, trivial⟩) ?_
     refine WD_val rfl (fun w hw => rn_move (v := (.slice a1 n1 c1)) rfl) rfl ?_; refine WD_val rfl (fun w hw => rn_move (v := (.int .i64 s3)) rfl) rfl ?_; obtain ⟨y14, hy14, H⟩ := bnd H; refine WD_idx rfl sl30 (h1.mono RTShipCall_mono leG8) hy14 rfl rfl rfl ?_
     rintro b15 o15 _ hcb15 _ ⟨⟩
     refine WD_val rfl (fun w hw => rn_fld fd82_0 rfl) rfl ?_; refine WD_val rfl (fun w hw => rn_load na3 rfl (hw.1.cell (hcb15 0 _ rfl))) rfl ?_; refine WD_val rfl (fun w hw => rn_move (v := (.slice a2 n2 c2)) rfl) rfl ?_; refine WD_op rfl rfl (OpP_val (rn_move (v := (.int .i64 s3)) rfl) rfl ?_); refine ⟨fun _ _ => ⟨hS.sat, trivial⟩, ?_⟩; obtain ⟨y16, hy16, H⟩ := bnd H; refine WD_op rfl rfl (OpP_idx sl30 (h2.mono RTShipCall_mono leG8) hy16 rfl rfl rfl ?_)
     rintro b17 o17 _ hcb17 _ ⟨⟩
     refine ⟨fun _ _ => ⟨hS.sat, trivial⟩, ?_⟩; refine WD_op rfl rfl (OpP_val (rn_fld fd82_0 rfl) rfl ?_); refine ⟨fun _ _ => ⟨hS.sat, trivial⟩, ?_⟩; refine WD_op rfl rfl (OpP_val (rn_load na3 rfl (hS.sat.cell (hcb17 0 _ rfl))) rfl ?_); refine ⟨fun _ _ => ⟨hS.sat, trivial⟩, ?_⟩; refine WD_op rfl rfl (OpP_val (rn_neq rfl rfl) rfl ?_)
     refine ⟨fun _ h => noneed (by kernel_rfl) h, ?_⟩
     refine WD_nil ?_; refine WC_cond rfl (fun hb18 => ?_) (fun hb18 => ?_)
     ·have H := ifT hb18 H; refine WC_seq ?_; have hS := hS.keep (below_drew _); have hO := hO.below (below_drew _)
      refine WC_regionD mixedO (fun _ w => Sat G8 w ∧ True) (.fl 0 (.fl 1 (.fl 2 (.fl 3 (.fl 4 (.fl 5 (.on 6 (.on 7 (.on 8 (.on 9 (.on 10 (.on 11 .nil)))))))))))) (by kernel_rfl) rfl (by kernel_rfl) (fun _ => ⟨hS.sat, trivial⟩) ?_
      refine WD_val rfl (fun w hw => rn_move (v := (.slice a1 n1 c1)) rfl) rfl ?_; refine WD_val rfl (fun w hw => rn_move (v := (.int .i64 s3)) rfl) rfl ?_; refine WD_idx rfl sl30 (h1.mono RTShipCall_mono leG8) hy14 rfl rfl rfl ?_
      rintro b19 o19 _ hcb19 _ ⟨⟩
      refine WD_val rfl (fun w hw => rn_fld fd82_0 rfl) rfl ?_; refine WD_val rfl (fun w hw => rn_load na3 rfl (hw.1.cell (hcb19 0 _ rfl))) rfl ?_; refine WD_val rfl (fun w hw => rn_move (v := (.slice a2 n2 c2)) rfl) rfl ?_; refine WD_op rfl rfl (OpP_val (rn_move (v := (.int .i64 s3)) rfl) rfl ?_); refine ⟨fun _ _ => ⟨hS.sat, trivial⟩, ?_⟩; refine WD_op rfl rfl (OpP_idx sl30 (h2.mono RTShipCall_mono leG8) hy16 rfl rfl rfl ?_)
      rintro b20 o20 _ hcb20 _ ⟨⟩
      refine ⟨fun _ _ => ⟨hS.sat, trivial⟩, ?_⟩; refine WD_op rfl rfl (OpP_val (rn_fld fd82_0 rfl) rfl ?_); refine ⟨fun _ _ => ⟨hS.sat, trivial⟩, ?_⟩; refine WD_op rfl rfl (OpP_val (rn_load na3 rfl (hS.sat.cell (hcb20 0 _ rfl))) rfl ?_); refine ⟨fun _ _ => ⟨hS.sat, trivial⟩, ?_⟩; refine WD_op rfl rfl (OpP_val (rn_lss rfl rfl) rfl ?_)
      refine ⟨fun _ h => noneed (by kernel_rfl) h, ?_⟩
      refine WD_op rfl rfl (OpP_val (rn_assign (v := (.bool (decide (y14.Day < y16.Day)))) rfl) rfl ?_)
      refine ⟨fun _ h => noneed (by kernel_rfl) h, ?_⟩
      refine WD_nil ?_; refine WC_ret ?_; have H := Option.some.inj H; subst H
      have hres := hqq5 _ rfl
      subst hres; have H := Hoq5
      have H : some (decide (y14.Day < y16.Day)) = some r := H
      have H := Option.some.inj H; subst H
      exact ⟨rfl, hS.below⟩
     ·have H := ifF hb18 H; refine WC_skip ?_; refine WC_seq ?_; have hS := hS.keep (below_drew _); have hO := hO.below (below_drew _)
      refine WC_regionD mixedO (fun _ w => Sat G8 w ∧ True) (.fl 0 (.fl 1 (.fl 2 (.fl 3 (.fl 4 (.fl 5 (.on 6 (.on 7 (.on 8 (.on 9 (.on 10 .nil))))))))))) (by kernel_rfl) rfl (by kernel_rfl) (fun _ => ⟨hS.sat, trivial⟩) ?_
      refine WD_val rfl (fun w hw => rn_move (v := (.slice a1 n1 c1)) rfl) rfl ?_; refine WD_val rfl (fun w hw => rn_move (v := (.int .i64 s3)) rfl) rfl ?_; refine WD_idx rfl sl30 (h1.mono RTShipCall_mono leG8) hy14 rfl rfl rfl ?_
      rintro b21 o21 _ hcb21 _ ⟨⟩
      refine WD_val rfl (fun w hw => rn_fld fd82_1 rfl) rfl ?_; refine WD_val rfl (fun w hw => rn_load na3 rfl (hw.1.cell (hcb21 1 _ rfl))) rfl ?_; refine WD_val rfl (fun w hw => rn_move (v := (.slice a2 n2 c2)) rfl) rfl ?_; refine WD_op rfl rfl (OpP_val (rn_move (v := (.int .i64 s3)) rfl) rfl ?_); refine ⟨fun _ _ => ⟨hS.sat, trivial⟩, ?_⟩; refine WD_op rfl rfl (OpP_idx sl30 (h2.mono RTShipCall_mono leG8) hy16 rfl rfl rfl ?_)
      rintro b22 o22 _ hcb22 _ ⟨⟩
      refine ⟨fun _ _ => ⟨hS.sat, trivial⟩, ?_⟩; refine WD_op rfl rfl (OpP_val (rn_fld fd82_1 rfl) rfl ?_); refine ⟨fun _ _ => ⟨hS.sat, trivial⟩, ?_⟩; refine WD_op rfl rfl (OpP_val (rn_load na3 rfl (hS.sat.cell (hcb22 1 _ rfl))) rfl ?_); refine ⟨fun _ _ => ⟨hS.sat, trivial⟩, ?_⟩; refine WD_op rfl rfl (OpP_val (rn_neq rfl rfl) rfl ?_)
      refine ⟨fun _ h => noneed (by kernel_rfl) h, ?_⟩
      refine WD_nil ?_; refine WC_cond rfl (fun hb23 => ?_) (fun hb23 => ?_)
      ·have H := ifT hb23 H; refine WC_seq ?_; have hS := hS.keep (below_drew _); have hO := hO.below (below_drew _)
       refine WC_regionD mixedO (fun _ w => Sat G8 w ∧ True) (.fl 0 (.fl 1 (.fl 2 (.fl 3 (.fl 4 (.fl 5 (.on 6 (.on 7 (.on 8 (.on 9 (.on 10 (.on 11 .nil)))))))))))) (by kernel_rfl) rfl (by kernel_rfl) (fun _ => ⟨hS.sat, trivial⟩) ?_
       refine WD_val rfl (fun w hw => rn_move (v := (.slice a1 n1 c1)) rfl) rfl ?_; refine WD_val rfl (fun w hw => rn_move (v := (.int .i64 s3)) rfl) rfl ?_; refine WD_idx rfl sl30 (h1.mono RTShipCall_mono leG8) hy14 rfl rfl rfl ?_
       rintro b24 o24 _ hcb24 _ ⟨⟩
       refine WD_val rfl (fun w hw => rn_fld fd82_1 rfl) rfl ?_; refine WD_val rfl (fun w hw => rn_load na3 rfl (hw.1.cell (hcb24 1 _ rfl))) rfl ?_; refine WD_val rfl (fun w hw => rn_move (v := (.slice a2 n2 c2)) rfl) rfl ?_; refine WD_op rfl rfl (OpP_val (rn_move (v := (.int .i64 s3)) rfl) rfl ?_); refine ⟨fun _ _ => ⟨hS.sat, trivial⟩, ?_⟩; refine WD_op rfl rfl (OpP_idx sl30 (h2.mono RTShipCall_mono leG8) hy16 rfl rfl rfl ?_)
       rintro b25 o25 _ hcb25 _ ⟨⟩
       refine ⟨fun _ _ => ⟨hS.sat, trivial⟩, ?_⟩; refine WD_op rfl rfl (OpP_val (rn_fld fd82_1 rfl) rfl ?_); refine ⟨fun _ _ => ⟨hS.sat, trivial⟩, ?_⟩; refine WD_op rfl rfl (OpP_val (rn_load na3 rfl (hS.sat.cell (hcb25 1 _ rfl))) rfl ?_); refine ⟨fun _ _ => ⟨hS.sat, trivial⟩, ?_⟩; refine WD_op rfl rfl (OpP_val (rn_lss rfl rfl) rfl ?_)
       refine ⟨fun _ h => noneed (by kernel_rfl) h, ?_⟩
       refine WD_op rfl rfl (OpP_val (rn_assign (v := (.bool (decide (y14.Hour < y16.Hour)))) rfl) rfl ?_)
       refine ⟨fun _ h => noneed (by kernel_rfl) h, ?_⟩
       refine WD_nil ?_; refine WC_ret ?_; have H := Option.some.inj H; subst H
       have hres := hqq5 _ rfl
       subst hres; have H := Hoq5
       have H : some (decide (y14.Hour < y16.Hour)) = some r := H
       have H := Option.some.inj H; subst H
       exact ⟨rfl, hS.below⟩
      ·have H := ifF hb23 H; refine WC_skip ?_; refine WC_region ?_; refine WL_val (rn_move (v := (.int .i64 s3)) rfl) rfl ?_; refine WL_val (rn_add rfl rfl) rfl ?_; refine WL_val (rn_assign (v := (.int .i64 (IntKind.i64.wrap (s3 + 1)))) rfl) rfl ?_; refine WL_nil ?_
       have hO : Owns G8 (w7.drew).drew w0.heap.size ([]) := hO
       have H := Option.some.inj H; subst H; refine ⟨_, rfl, ?_⟩
       exact ⟨_, G8, upds_self _ _ ⟨rfl, rfl, rfl, trivial⟩, leG8, hS, hO⟩
    ·have H := ifF hb13 H; refine WC_exit rfl ?_
     have hO : Owns G8 w7 w0.heap.size ([]) := hO
     have H := Option.some.inj H; subst H
     have hres := hqq5 _ rfl
     subst hres
     exact ⟨_, _, G8, rfl, upds_self _ _ ⟨rfl, rfl, trivial⟩, leG8, hS, hO⟩
 ·rintro F w26 ⟨p4, Fb, G27, rfl, rfl, leG27, hS, hO⟩
  refine WC_seq ?_; refine WC_region ?_; refine WL_val (rn_move (v := (.slice a1 n1 c1)) rfl) rfl ?_; refine WL_val (rn_len sl30 rfl rfl (h1.mono RTShipCall_mono leG27).1) rfl ?_; refine WL_val (rn_move (v := (.slice a2 n2 c2)) rfl) rfl ?_; refine WL_val (rn_len sl30 rfl rfl (h2.mono RTShipCall_mono leG27).1) rfl ?_; refine WL_val (rn_lss rfl rfl) rfl ?_; refine WL_val (rn_assign (v := (.bool (decide ((x0.length : Int) < (x1.length : Int))))) rfl) rfl ?_; refine WL_nil ?_; refine WC_ret ?_
  have H : some (decide ((x0.length : Int) < (x1.length : Int))) = some r := H
  have H := Option.some.inj H; subst H
  exact ⟨rfl, hS.below⟩
set_option maxHeartbeats 1000000 in
theorem f14_ok {G0 : Gm} {w0 : World} (hS0 : Sat G0 w0) {x0 : TShipPass} {a1 : Option Addr} {n1 c1 : Nat} {a2 : Option Addr} {n2 c2 : Nat} {x1 : TSpan} {x2 : Int} {x3 : (List TShipCall)} {a3 : Option Addr} {n3 c3 : Nat} {x4 : Int} (h1 : RSl RInt 1 G0 a1 n1 c1 x0.Tides) (h2 : RSl RTSpan 2 G0 a2 n2 c2 x0.Swell) (h3 : RSl RTShipCall 2 G0 a3 n3 c3 x3) {r : Bool} (H : f14 x0 x1 x2 x3 x4 = some r) :
  Calls Try.prog 14 #[.agg #[.slice a1 n1 c1, .int .i64 x0.Depth, .int .i64 x0.Draft, .slice a2 n2 c2, .int .i64 x0.Light.Low, .int .i64 x0.Light.High], .agg #[.int .i64 x1.Low, .int .i64 x1.High], .int .i64 x2, .slice a3 n3 c3, .int .i64 x4] w0 (RetV w0 (.bool r)) := by
 have hS := Since.start hS0
 have hO : Owns G0 w0 w0.heap.size [] := Owns.nil (Nat.le_refl _)
 unfold f14 at H
 refine enter1 (N := 135) (shutV _ _) Try.func14 rfl rfl rfl rfl ?_; refine WC_seq ?_; refine WC_region ?_; refine WL_op rfl (OpP_newF (v := fun b => .pointer (some ⟨b, 0, none⟩)) (cs := [.slice a1 n1 c1, .int .i64 x0.Depth, .int .i64 x0.Draft, .slice a2 n2 c2, .int .i64 x0.Light.Low, .int .i64 x0.Light.High]) (e := 27) (rn_boxA rfl) hS.sat rfl (fun b4 G6 w5 hg hcb4 => ?_)); have hS := hS.grow hg; have hO := hO.grow hg
 have leG6 := hg.le
 refine WL_op rfl (OpP_newF (v := fun b => .pointer (some ⟨b, 0, none⟩)) (cs := [.int .i64 x1.Low, .int .i64 x1.High]) (e := 25) (rn_boxA rfl) hS.sat rfl (fun b7 G9 w8 hg hcb7 => ?_)); have hS := hS.grow hg; have hO := hO.grow hg
 have leG9 := hg.le
 refine WL_val (rn_assign (v := (.bool false)) rfl) rfl ?_; refine WL_nil ?_; refine WC_seq ?_; refine WC_seq ?_; obtain ⟨q10, hq10, H⟩ := bnd H; refine WC_cut (fun F w => ∃ (Fb : Fr) (G : Gm), F = upds Fb [(2, .int .i64 x2), (3, .slice a3 n3 c3), (4, .int .i64 x4), (5, .pointer (some ⟨b4, 0, none⟩)), (6, .pointer (some ⟨b7, 0, none⟩)), (48, .bool q10)] ∧ Gle G9 G ∧ Since w0.heap.size G0 w0 G w ∧ Owns G w w0.heap.size []) ?_ ?_
 ·have Hoq10 := H; have H := hq10; refine WC_region ?_; refine WL_val (rn_loadA ag27 (cs := [.slice a1 n1 c1, .int .i64 x0.Depth, .int .i64 x0.Draft, .slice a2 n2 c2, .int .i64 x0.Light.Low, .int .i64 x0.Light.High]) rfl rfl (fun j v hj => (hS.sat.le leG9).cell (hcb4.drop_take 0 6 j v hj))) rfl ?_; obtain ⟨y11, hy11, H⟩ := bnd H
  have l0_2 := leG6.trans leG9
  refine WL_op rfl (OpP_callV cb16 (f16_ok (x0 := x0) hS.sat (h1.mono RInt_mono l0_2) (h2.mono RTSpan_mono l0_2) hy11) rfl rfl (fun w12 hb => ?_)); have hS := hS.keep hb; have hO := hO.below hb; refine WL_val (rn_not rfl) rfl ?_; refine WL_val (rn_move (v := (.bool (!y11))) rfl) rfl ?_
  rcases bcases (!y11) with hb13 | hb13
  ·have H := ifT hb13 H; refine WL_guardN rfl hb13 rfl rfl rfl ?_; refine WL_guardN rfl hb13 rfl rfl rfl ?_; refine WL_guardN rfl hb13 rfl rfl rfl ?_; refine WL_val (rn_pickT (v := (.bool true)) rfl hb13 rfl) rfl ?_; refine WL_val (rn_move (v := (.bool true)) rfl) rfl ?_; refine WL_guardN rfl rfl rfl rfl rfl ?_; refine WL_guardN rfl rfl rfl rfl rfl ?_; refine WL_guardN rfl rfl rfl rfl rfl ?_; refine WL_val (rn_pickT (v := (.bool true)) rfl rfl rfl) rfl ?_; refine WL_val (rn_move (v := (.bool true)) rfl) rfl ?_; refine WL_guardN rfl rfl rfl rfl rfl ?_; refine WL_guardN rfl rfl rfl rfl rfl ?_; refine WL_guardN rfl rfl rfl rfl rfl ?_; refine WL_val (rn_pickT (v := (.bool true)) rfl rfl rfl) rfl ?_; refine WL_val (rn_move (v := (.bool true)) rfl) rfl ?_; refine WL_guardN rfl rfl rfl rfl rfl ?_; refine WL_guardN rfl rfl rfl rfl rfl ?_; refine WL_guardN rfl rfl rfl rfl rfl ?_; refine WL_val (rn_pickT (v := (.bool true)) rfl rfl rfl) rfl ?_; refine WL_val (rn_move (v := (.bool true)) rfl) rfl ?_; refine WL_guardN rfl rfl rfl rfl rfl ?_; refine WL_guardN rfl rfl rfl rfl rfl ?_; refine WL_val (rn_pickT (v := (.bool true)) rfl rfl rfl) rfl ?_; refine WL_val (rn_move (v := (.bool true)) rfl) rfl ?_; refine WL_guardN rfl rfl rfl rfl rfl ?_; refine WL_guardN rfl rfl rfl rfl rfl ?_; refine WL_val (rn_pickT (v := (.bool true)) rfl rfl rfl) rfl ?_; refine WL_nil ?_
   have hO : Owns G9 w12 w0.heap.size ([]) := hO
   have H := Option.some.inj H; subst H
   exact ⟨_, G9, upds_self _ _ ⟨rfl, rfl, rfl, rfl, rfl, rfl, trivial⟩, Gle.refl _, hS, hO⟩
  ·have H := ifF hb13 H; refine WL_guardY rfl hb13 rfl rfl ?_; refine WL_val (rn_loadA ag27 (cs := [.slice a1 n1 c1, .int .i64 x0.Depth, .int .i64 x0.Draft, .slice a2 n2 c2, .int .i64 x0.Light.Low, .int .i64 x0.Light.High]) rfl rfl (fun j v hj => (hS.sat.le leG9).cell (hcb4.drop_take 0 6 j v hj))) rfl ?_; refine WL_guardY rfl hb13 rfl rfl ?_; obtain ⟨y14, hy14, H⟩ := bnd H; refine WL_op rfl (OpP_callV cb19 (f19_ok (x0 := x0) hS.sat (h1.mono RInt_mono l0_2) (h2.mono RTSpan_mono l0_2) hy14) rfl rfl (fun w15 hb => ?_)); have hS := hS.keep hb; have hO := hO.below hb; refine WL_guardY rfl hb13 rfl rfl ?_; refine WL_val (rn_not rfl) rfl ?_; refine WL_val (rn_pickF (v := (.bool (!y14))) rfl hb13 rfl) rfl ?_; refine WL_val (rn_move (v := (.bool (!y14))) rfl) rfl ?_
   rcases bcases (!y14) with hb16 | hb16
   ·have H := ifT hb16 H; refine WL_guardN rfl hb16 rfl rfl rfl ?_; refine WL_guardN rfl hb16 rfl rfl rfl ?_; refine WL_guardN rfl hb16 rfl rfl rfl ?_; refine WL_val (rn_pickT (v := (.bool true)) rfl hb16 rfl) rfl ?_; refine WL_val (rn_move (v := (.bool true)) rfl) rfl ?_; refine WL_guardN rfl rfl rfl rfl rfl ?_; refine WL_guardN rfl rfl rfl rfl rfl ?_; refine WL_guardN rfl rfl rfl rfl rfl ?_; refine WL_val (rn_pickT (v := (.bool true)) rfl rfl rfl) rfl ?_; refine WL_val (rn_move (v := (.bool true)) rfl) rfl ?_; refine WL_guardN rfl rfl rfl rfl rfl ?_; refine WL_guardN rfl rfl rfl rfl rfl ?_; refine WL_guardN rfl rfl rfl rfl rfl ?_; refine WL_val (rn_pickT (v := (.bool true)) rfl rfl rfl) rfl ?_; refine WL_val (rn_move (v := (.bool true)) rfl) rfl ?_; refine WL_guardN rfl rfl rfl rfl rfl ?_; refine WL_guardN rfl rfl rfl rfl rfl ?_; refine WL_val (rn_pickT (v := (.bool true)) rfl rfl rfl) rfl ?_; refine WL_val (rn_move (v := (.bool true)) rfl) rfl ?_; refine WL_guardN rfl rfl rfl rfl rfl ?_; refine WL_guardN rfl rfl rfl rfl rfl ?_; refine WL_val (rn_pickT (v := (.bool true)) rfl rfl rfl) rfl ?_; refine WL_nil ?_
    have hO : Owns G9 w15 w0.heap.size ([]) := hO
    have H := Option.some.inj H; subst H
    exact ⟨_, G9, upds_self _ _ ⟨rfl, rfl, rfl, rfl, rfl, rfl, trivial⟩, Gle.refl _, hS, hO⟩
   ·have H := ifF hb16 H; refine WL_guardY rfl hb16 rfl rfl ?_; refine WL_val (rn_loadA ag25 (cs := [.int .i64 x1.Low, .int .i64 x1.High]) rfl rfl (fun j v hj => hS.sat.cell (hcb7.drop_take 0 2 j v hj))) rfl ?_; refine WL_guardY rfl hb16 rfl rfl ?_; obtain ⟨y17, hy17, H⟩ := bnd H; refine WL_op rfl (OpP_callV cb20 (f20_ok (x0 := x1) hS.sat  hy17) rfl rfl (fun w18 hb => ?_)); have hS := hS.keep hb; have hO := hO.below hb; refine WL_guardY rfl hb16 rfl rfl ?_; refine WL_val (rn_not rfl) rfl ?_; refine WL_val (rn_pickF (v := (.bool (!y17))) rfl hb16 rfl) rfl ?_; refine WL_val (rn_move (v := (.bool (!y17))) rfl) rfl ?_
    rcases bcases (!y17) with hb19 | hb19
    ·have H := ifT hb19 H; refine WL_guardN rfl hb19 rfl rfl rfl ?_; refine WL_guardN rfl hb19 rfl rfl rfl ?_; refine WL_guardN rfl hb19 rfl rfl rfl ?_; refine WL_val (rn_pickT (v := (.bool true)) rfl hb19 rfl) rfl ?_; refine WL_val (rn_move (v := (.bool true)) rfl) rfl ?_; refine WL_guardN rfl rfl rfl rfl rfl ?_; refine WL_guardN rfl rfl rfl rfl rfl ?_; refine WL_guardN rfl rfl rfl rfl rfl ?_; refine WL_val (rn_pickT (v := (.bool true)) rfl rfl rfl) rfl ?_; refine WL_val (rn_move (v := (.bool true)) rfl) rfl ?_; refine WL_guardN rfl rfl rfl rfl rfl ?_; refine WL_guardN rfl rfl rfl rfl rfl ?_; refine WL_val (rn_pickT (v := (.bool true)) rfl rfl rfl) rfl ?_; refine WL_val (rn_move (v := (.bool true)) rfl) rfl ?_; refine WL_guardN rfl rfl rfl rfl rfl ?_; refine WL_guardN rfl rfl rfl rfl rfl ?_; refine WL_val (rn_pickT (v := (.bool true)) rfl rfl rfl) rfl ?_; refine WL_nil ?_
     have hO : Owns G9 w18 w0.heap.size ([]) := hO
     have H := Option.some.inj H; subst H
     exact ⟨_, G9, upds_self _ _ ⟨rfl, rfl, rfl, rfl, rfl, rfl, trivial⟩, Gle.refl _, hS, hO⟩
    ·have H := ifF hb19 H; refine WL_guardY rfl hb19 rfl rfl ?_; refine WL_val (rn_move (v := (.int .i64 x2)) rfl) rfl ?_; refine WL_guardY rfl hb19 rfl rfl ?_; obtain ⟨y20, hy20, H⟩ := bnd H; refine WL_op rfl (OpP_callV cb21 (f21_ok (x0 := x2) hS.sat  hy20) rfl rfl (fun w21 hb => ?_)); have hS := hS.keep hb; have hO := hO.below hb; refine WL_guardY rfl hb19 rfl rfl ?_; refine WL_val (rn_not rfl) rfl ?_; refine WL_val (rn_pickF (v := (.bool (!y20))) rfl hb19 rfl) rfl ?_; refine WL_val (rn_move (v := (.bool (!y20))) rfl) rfl ?_
     rcases bcases (!y20) with hb22 | hb22
     ·have H := ifT hb22 H; refine WL_guardN rfl hb22 rfl rfl rfl ?_; refine WL_guardN rfl hb22 rfl rfl rfl ?_; refine WL_guardN rfl hb22 rfl rfl rfl ?_; refine WL_val (rn_pickT (v := (.bool true)) rfl hb22 rfl) rfl ?_; refine WL_val (rn_move (v := (.bool true)) rfl) rfl ?_; refine WL_guardN rfl rfl rfl rfl rfl ?_; refine WL_guardN rfl rfl rfl rfl rfl ?_; refine WL_val (rn_pickT (v := (.bool true)) rfl rfl rfl) rfl ?_; refine WL_val (rn_move (v := (.bool true)) rfl) rfl ?_; refine WL_guardN rfl rfl rfl rfl rfl ?_; refine WL_guardN rfl rfl rfl rfl rfl ?_; refine WL_val (rn_pickT (v := (.bool true)) rfl rfl rfl) rfl ?_; refine WL_nil ?_
      have hO : Owns G9 w21 w0.heap.size ([]) := hO
      have H := Option.some.inj H; subst H
      exact ⟨_, G9, upds_self _ _ ⟨rfl, rfl, rfl, rfl, rfl, rfl, trivial⟩, Gle.refl _, hS, hO⟩
     ·have H := ifF hb22 H; refine WL_guardY rfl hb22 rfl rfl ?_; refine WL_val (rn_move (v := (.slice a3 n3 c3)) rfl) rfl ?_; refine WL_guardY rfl hb22 rfl rfl ?_; refine WL_val (rn_len sl30 rfl rfl (h3.mono RTShipCall_mono l0_2).1) rfl ?_; refine WL_guardY rfl hb22 rfl rfl ?_; refine WL_val (rn_gtr rfl rfl) rfl ?_; refine WL_val (rn_pickF (v := (.bool (decide (10 < (x3.length : Int))))) rfl hb22 rfl) rfl ?_; refine WL_val (rn_move (v := (.bool (decide (10 < (x3.length : Int))))) rfl) rfl ?_
      rcases bcases (decide (10 < (x3.length : Int))) with hb23 | hb23
      ·have H := ifT hb23 H; refine WL_guardN rfl hb23 rfl rfl rfl ?_; refine WL_guardN rfl hb23 rfl rfl rfl ?_; refine WL_val (rn_pickT (v := (.bool true)) rfl hb23 rfl) rfl ?_; refine WL_val (rn_move (v := (.bool true)) rfl) rfl ?_; refine WL_guardN rfl rfl rfl rfl rfl ?_; refine WL_guardN rfl rfl rfl rfl rfl ?_; refine WL_val (rn_pickT (v := (.bool true)) rfl rfl rfl) rfl ?_; refine WL_nil ?_
       have hO : Owns G9 w21 w0.heap.size ([]) := hO
       have H := Option.some.inj H; subst H
       exact ⟨_, G9, upds_self _ _ ⟨rfl, rfl, rfl, rfl, rfl, rfl, trivial⟩, Gle.refl _, hS, hO⟩
      ·have H := ifF hb23 H; refine WL_guardY rfl hb23 rfl rfl ?_; refine WL_val (rn_move (v := (.int .i64 x4)) rfl) rfl ?_; refine WL_guardY rfl hb23 rfl rfl ?_; refine WL_val (rn_lss rfl rfl) rfl ?_; refine WL_val (rn_pickF (v := (.bool (decide (x4 < 0)))) rfl hb23 rfl) rfl ?_; refine WL_val (rn_move (v := (.bool (decide (x4 < 0)))) rfl) rfl ?_
       rcases bcases (decide (x4 < 0)) with hb24 | hb24
       ·have H := ifT hb24 H; refine WL_guardN rfl hb24 rfl rfl rfl ?_; refine WL_guardN rfl hb24 rfl rfl rfl ?_; refine WL_val (rn_pickT (v := (.bool true)) rfl hb24 rfl) rfl ?_; refine WL_nil ?_
        have hO : Owns G9 w21 w0.heap.size ([]) := hO
        have H := Option.some.inj H; subst H
        exact ⟨_, G9, upds_self _ _ ⟨rfl, rfl, rfl, rfl, rfl, rfl, trivial⟩, Gle.refl _, hS, hO⟩
       ·have H := ifF hb24 H; refine WL_guardY rfl hb24 rfl rfl ?_; refine WL_val (rn_move (v := (.int .i64 x4)) rfl) rfl ?_; refine WL_guardY rfl hb24 rfl rfl ?_; refine WL_val (rn_gtr rfl rfl) rfl ?_; refine WL_val (rn_pickF (v := (.bool (decide (100 < x4)))) rfl hb24 rfl) rfl ?_; refine WL_nil ?_
        have hO : Owns G9 w21 w0.heap.size ([]) := hO
        have H := Option.some.inj H; subst H
        exact ⟨_, G9, upds_self _ _ ⟨rfl, rfl, rfl, rfl, rfl, rfl, trivial⟩, Gle.refl _, hS, hO⟩
 ·rintro F w25 ⟨Fb, G26, rfl, leG26, hS, hO⟩
  refine WC_cond rfl (fun hb27 => ?_) (fun hb27 => ?_)
  ·have H := ifT hb27 H; refine WC_seq ?_; refine WC_region ?_; obtain ⟨y28, hy28, H⟩ := bnd H; refine WL_op rfl (OpP_callV cb17 (f17_ok  hS.sat  hy28) rfl rfl (fun w29 hb => ?_)); have hS := hS.keep hb; have hO := hO.below hb; refine WL_val (rn_assign (v := (.bool y28)) rfl) rfl ?_; refine WL_nil ?_; refine WC_ret ?_
   have H : some y28 = some r := H
   have H := Option.some.inj H; subst H
   exact ⟨rfl, hS.below⟩
  ·have H := ifF hb27 H; refine WC_skip ?_; refine WC_seq ?_; refine WC_region ?_
   have l1_3 := leG9.trans leG26
   refine WL_val (rn_loadA ag27 (cs := [.slice a1 n1 c1, .int .i64 x0.Depth, .int .i64 x0.Draft, .slice a2 n2 c2, .int .i64 x0.Light.Low, .int .i64 x0.Light.High]) rfl rfl (fun j v hj => (hS.sat.le l1_3).cell (hcb4.drop_take 0 6 j v hj))) rfl ?_; refine WL_val (rn_loadA ag25 (cs := [.int .i64 x1.Low, .int .i64 x1.High]) rfl rfl (fun j v hj => (hS.sat.le leG26).cell (hcb7.drop_take 0 2 j v hj))) rfl ?_; refine WL_val (rn_move (v := (.int .i64 x2)) rfl) rfl ?_; obtain ⟨y30, hy30, H⟩ := bnd H
   have l0_3 := leG6.trans l1_3
   refine WL_op rfl (OpP_callG cb18 (f18_ok (x0 := x0) (x1 := x1) (x2 := x2) hS.sat (h1.mono RInt_mono l0_3) (h2.mono RTSpan_mono l0_3) hy30) rfl rfl (fun vy30 G32 w31 hg hvy30 => ?_)); obtain ⟨a33, n33, c33, ⟨⟩, h33⟩ := hvy30; have hS := hS.grow hg; have hO := hO.grow hg
   have leG32 := hg.le
   refine WL_val (rn_move (v := (.tuple #[.slice a33 n33 c33, .int .i64 y30.2])) rfl) rfl ?_; refine WL_val (rn_extract (v := (.slice a33 n33 c33)) rfl rfl) rfl ?_; refine WL_val (rn_extract (v := (.int .i64 y30.2)) rfl rfl) rfl ?_; refine WL_val (rn_assign (v := (.slice a33 n33 c33)) rfl) rfl ?_; refine WL_val (rn_assign (v := (.int .i64 y30.2)) rfl) rfl ?_; refine WL_nil ?_; refine WC_seq ?_; refine WC_region ?_
   have l1_4 := l1_3.trans leG32
   refine WL_val (rn_loadA ag27 (cs := [.slice a1 n1 c1, .int .i64 x0.Depth, .int .i64 x0.Draft, .slice a2 n2 c2, .int .i64 x0.Light.Low, .int .i64 x0.Light.High]) rfl rfl (fun j v hj => (hS.sat.le l1_4).cell (hcb4.drop_take 0 6 j v hj))) rfl ?_
   have l2_4 := leG26.trans leG32
   refine WL_val (rn_loadA ag25 (cs := [.int .i64 x1.Low, .int .i64 x1.High]) rfl rfl (fun j v hj => (hS.sat.le l2_4).cell (hcb7.drop_take 0 2 j v hj))) rfl ?_; refine WL_val (rn_move (v := (.int .i64 x2)) rfl) rfl ?_; refine WL_val (rn_move (v := (.slice a3 n3 c3)) rfl) rfl ?_; obtain ⟨y34, hy34, H⟩ := bnd H
   have l0_4 := l0_3.trans leG32
   refine WL_op rfl (OpP_callV cb53 (f53_ok (x0 := x0) (x1 := x1) (x2 := x2) (x3 := x3) hS.sat (h1.mono RInt_mono l0_4) (h2.mono RTSpan_mono l0_4) (h3.mono RTShipCall_mono l0_4) hy34) rfl rfl (fun w35 hb => ?_)); have hS := hS.keep hb; have hO := hO.below hb; refine WL_val (rn_assign (v := (.bool y34)) rfl) rfl ?_; refine WL_nil ?_; refine WC_seq ?_; refine WC_seq ?_; refine WC_region ?_; refine WL_val (rn_move (v := (.int .i64 y30.2)) rfl) rfl ?_; refine WL_val (rn_neq rfl rfl) rfl ?_; refine WL_nil ?_; refine WC_cond rfl (fun hb36 => ?_) (fun hb36 => ?_)
   ·have H := ifT hb36 H; refine WC_seq ?_; obtain ⟨q37, hq37, H⟩ := bnd H; refine WC_cut (fun F w => ∃ (Fb : Fr) (G : Gm), F = upds Fb [(10, .bool q37)] ∧ Gle G32 G ∧ Since w0.heap.size G0 w0 G w ∧ Owns G w w0.heap.size []) ?_ ?_
    ·have Hoq37 := H; have H := hq37; refine WC_region ?_; refine WL_val (rn_move (v := (.int .i64 y30.2)) rfl) rfl ?_; refine WL_val (rn_eql rfl rfl) rfl ?_; refine WL_val (rn_move (v := (.bool (y30.2 == 5))) rfl) rfl ?_
     rcases bcases (y30.2 == 5) with hb38 | hb38
     ·have H := ifT hb38 H; refine WL_guardY rfl hb38 rfl rfl ?_; refine WL_val (rn_move (v := (.bool y34)) rfl) rfl ?_; refine WL_guardY rfl hb38 rfl rfl ?_; refine WL_val (rn_not rfl) rfl ?_; refine WL_val (rn_pickT (v := (.bool (!y34))) rfl hb38 rfl) rfl ?_; refine WL_val (rn_move (v := (.bool (!y34))) rfl) rfl ?_
      rcases bcases (!y34) with hb39 | hb39
      ·have H := ifT hb39 H; refine WL_guardY rfl hb39 rfl rfl ?_; obtain ⟨y40, hy40, H⟩ := bnd H; refine WL_op rfl (OpP_callV cb17 (f17_ok  hS.sat  hy40) rfl rfl (fun w41 hb => ?_)); have hS := hS.keep hb; have hO := hO.below hb; refine WL_val (rn_pickT (v := (.bool y40)) rfl hb39 rfl) rfl ?_; refine WL_val (rn_assign (v := (.bool y40)) rfl) rfl ?_; refine WL_nil ?_
       have hO : Owns G32 w41 w0.heap.size ([]) := hO
       have H := Option.some.inj H; subst H
       exact ⟨_, G32, upds_self _ _ ⟨rfl, trivial⟩, Gle.refl _, hS, hO⟩
      ·have H := ifF hb39 H; refine WL_guardN rfl hb39 rfl rfl rfl ?_; refine WL_val (rn_pickF (v := (.bool false)) rfl hb39 rfl) rfl ?_; refine WL_val (rn_assign (v := (.bool false)) rfl) rfl ?_; refine WL_nil ?_
       have hO : Owns G32 w35 w0.heap.size ([]) := hO
       have H := Option.some.inj H; subst H
       exact ⟨_, G32, upds_self _ _ ⟨rfl, trivial⟩, Gle.refl _, hS, hO⟩
     ·have H := ifF hb38 H; refine WL_guardN rfl hb38 rfl rfl rfl ?_; refine WL_guardN rfl hb38 rfl rfl rfl ?_; refine WL_val (rn_pickF (v := (.bool false)) rfl hb38 rfl) rfl ?_; refine WL_val (rn_move (v := (.bool false)) rfl) rfl ?_; refine WL_guardN rfl rfl rfl rfl rfl ?_; refine WL_val (rn_pickF (v := (.bool false)) rfl rfl rfl) rfl ?_; refine WL_val (rn_assign (v := (.bool false)) rfl) rfl ?_; refine WL_nil ?_
      have hO : Owns G32 w35 w0.heap.size ([]) := hO
      have H := Option.some.inj H; subst H
      exact ⟨_, G32, upds_self _ _ ⟨rfl, trivial⟩, Gle.refl _, hS, hO⟩
    ·rintro F w42 ⟨Fb, G43, rfl, leG43, hS, hO⟩
     refine WC_ret ?_
     have H : some q37 = some r := H
     have H := Option.some.inj H; subst H
     exact ⟨rfl, hS.below⟩
   ·have H := ifF hb36 H; refine WC_skip ?_; refine WC_seq ?_; refine WC_seq ?_; obtain ⟨q44, hq44, H⟩ := bnd H; refine WC_cut (fun F w => ∃ (Fb : Fr) (G : Gm), F = upds Fb [(4, .int .i64 x4), (5, .pointer (some ⟨b4, 0, none⟩)), (11, .slice a33 n33 c33), (92, .bool q44)] ∧ Gle G32 G ∧ Since w0.heap.size G0 w0 G w ∧ Owns G w w0.heap.size []) ?_ ?_
    ·have Hoq44 := H; have H := hq44; refine WC_region ?_; refine WL_val (rn_move (v := (.slice a33 n33 c33)) rfl) rfl ?_; refine WL_val (rn_len sl30 rfl rfl h33.1) rfl ?_; refine WL_val (rn_move (v := (.int .i64 x2)) rfl) rfl ?_; refine WL_val (rn_neq rfl rfl) rfl ?_; refine WL_val (rn_move (v := (.bool ((y30.1.length : Int) != x2))) rfl) rfl ?_
     rcases bcases ((y30.1.length : Int) != x2) with hb45 | hb45
     ·have H := ifT hb45 H; refine WL_guardN rfl hb45 rfl rfl rfl ?_; refine WL_guardN rfl hb45 rfl rfl rfl ?_; refine WL_guardN rfl hb45 rfl rfl rfl ?_; refine WL_guardN rfl hb45 rfl rfl rfl ?_; refine WL_guardN rfl hb45 rfl rfl rfl ?_; refine WL_guardN rfl hb45 rfl rfl rfl ?_; refine WL_val (rn_pickT (v := (.bool true)) rfl hb45 rfl) rfl ?_; refine WL_val (rn_move (v := (.bool true)) rfl) rfl ?_; refine WL_guardN rfl rfl rfl rfl rfl ?_; refine WL_guardN rfl rfl rfl rfl rfl ?_; refine WL_guardU rfl rfl rfl rfl ?_; refine WL_guardU rfl rfl rfl rfl ?_; refine WL_guardU rfl rfl rfl rfl ?_; refine WL_guardN rfl rfl rfl rfl rfl ?_; refine WL_val (rn_pickT (v := (.bool true)) rfl rfl rfl) rfl ?_; refine WL_nil ?_
      have hO : Owns G32 w35 w0.heap.size ([]) := hO
      have H := Option.some.inj H; subst H
      exact ⟨_, G32, upds_self _ _ ⟨rfl, rfl, rfl, rfl, trivial⟩, Gle.refl _, hS, hO⟩
     ·have H := ifF hb45 H; refine WL_guardY rfl hb45 rfl rfl ?_; refine WL_val (rn_loadA ag27 (cs := [.slice a1 n1 c1, .int .i64 x0.Depth, .int .i64 x0.Draft, .slice a2 n2 c2, .int .i64 x0.Light.Low, .int .i64 x0.Light.High]) rfl rfl (fun j v hj => (hS.sat.le l1_4).cell (hcb4.drop_take 0 6 j v hj))) rfl ?_; refine WL_guardY rfl hb45 rfl rfl ?_; refine WL_val (rn_loadA ag25 (cs := [.int .i64 x1.Low, .int .i64 x1.High]) rfl rfl (fun j v hj => (hS.sat.le l2_4).cell (hcb7.drop_take 0 2 j v hj))) rfl ?_; refine WL_guardY rfl hb45 rfl rfl ?_; refine WL_val (rn_move (v := (.int .i64 x2)) rfl) rfl ?_; refine WL_guardY rfl hb45 rfl rfl ?_; refine WL_val (rn_move (v := (.slice a33 n33 c33)) rfl) rfl ?_; refine WL_guardY rfl hb45 rfl rfl ?_; obtain ⟨y46, hy46, H⟩ := bnd H; refine WL_op rfl (OpP_callV cb53 (f53_ok (x0 := x0) (x1 := x1) (x2 := x2) (x3 := y30.1) hS.sat (h1.mono RInt_mono l0_4) (h2.mono RTSpan_mono l0_4) h33 hy46) rfl rfl (fun w47 hb => ?_)); have hS := hS.keep hb; have hO := hO.below hb; refine WL_guardY rfl hb45 rfl rfl ?_; refine WL_val (rn_not rfl) rfl ?_; refine WL_val (rn_pickF (v := (.bool (!y46))) rfl hb45 rfl) rfl ?_; refine WL_val (rn_move (v := (.bool (!y46))) rfl) rfl ?_
      rcases bcases (!y46) with hb48 | hb48
      ·have H := ifT hb48 H; refine WL_guardN rfl hb48 rfl rfl rfl ?_; refine WL_guardN rfl hb48 rfl rfl rfl ?_; refine WL_guardU rfl rfl rfl rfl ?_; refine WL_guardU rfl rfl rfl rfl ?_; refine WL_guardU rfl rfl rfl rfl ?_; refine WL_guardN rfl hb48 rfl rfl rfl ?_; refine WL_val (rn_pickT (v := (.bool true)) rfl hb48 rfl) rfl ?_; refine WL_nil ?_
       have hO : Owns G32 w47 w0.heap.size ([]) := hO
       have H := Option.some.inj H; subst H
       exact ⟨_, G32, upds_self _ _ ⟨rfl, rfl, rfl, rfl, trivial⟩, Gle.refl _, hS, hO⟩
      ·have H := ifF hb48 H; refine WL_guardY rfl hb48 rfl rfl ?_; refine WL_val (rn_move (v := (.bool y34)) rfl) rfl ?_; refine WL_guardY rfl hb48 rfl rfl ?_; refine WL_val (rn_move (v := (.bool y34)) rfl) rfl ?_
       rcases bcases y34 with hb49 | hb49
       ·have H := ifT hb49 H; refine WL_guardY rfl hb49 rfl rfl ?_; refine WL_val (rn_move (v := (.slice a3 n3 c3)) rfl) rfl ?_; refine WL_guardY rfl hb49 rfl rfl ?_; refine WL_val (rn_move (v := (.slice a33 n33 c33)) rfl) rfl ?_; refine WL_guardY rfl hb49 rfl rfl ?_; obtain ⟨y50, hy50, H⟩ := bnd H; refine WL_op rfl (OpP_callV cb54 (f54_ok (x0 := x3) (x1 := y30.1) hS.sat (h3.mono RTShipCall_mono l0_4) h33 hy50) rfl rfl (fun w51 hb => ?_)); have hS := hS.keep hb; have hO := hO.below hb; refine WL_guardY rfl hb48 rfl rfl ?_; refine WL_val (rn_pickT (v := (.bool y50)) rfl hb49 rfl) rfl ?_; refine WL_val (rn_pickF (v := (.bool y50)) rfl hb48 rfl) rfl ?_; refine WL_nil ?_
        have hO : Owns G32 w51 w0.heap.size ([]) := hO
        have H := Option.some.inj H; subst H
        exact ⟨_, G32, upds_self _ _ ⟨rfl, rfl, rfl, rfl, trivial⟩, Gle.refl _, hS, hO⟩
       ·have H := ifF hb49 H; refine WL_guardN rfl hb49 rfl rfl rfl ?_; refine WL_guardN rfl hb49 rfl rfl rfl ?_; refine WL_guardN rfl hb49 rfl rfl rfl ?_; refine WL_guardY rfl hb48 rfl rfl ?_; refine WL_val (rn_pickF (v := (.bool false)) rfl hb49 rfl) rfl ?_; refine WL_val (rn_pickF (v := (.bool false)) rfl hb48 rfl) rfl ?_; refine WL_nil ?_
        have hO : Owns G32 w47 w0.heap.size ([]) := hO
        have H := Option.some.inj H; subst H
        exact ⟨_, G32, upds_self _ _ ⟨rfl, rfl, rfl, rfl, trivial⟩, Gle.refl _, hS, hO⟩
    ·rintro F w52 ⟨Fb, G53, rfl, leG53, hS, hO⟩
     refine WC_cond rfl (fun hb54 => ?_) (fun hb54 => ?_)
     ·have H := ifT hb54 H; refine WC_seq ?_; refine WC_region ?_; refine WL_val (rn_assign (v := (.bool false)) rfl) rfl ?_; refine WL_nil ?_; refine WC_ret ?_
      have H : some false = some r := H
      have H := Option.some.inj H; subst H
      exact ⟨rfl, hS.below⟩
     ·have H := ifF hb54 H; refine WC_skip ?_; refine WC_seq ?_; refine WC_seq ?_; refine WC_region ?_; refine WL_val (rn_assign (v := (.int .i64 0)) rfl) rfl ?_; refine WL_nil ?_; obtain ⟨q57, hq57, H⟩ := bnd H; refine WC_cut (fun F w => ∃ (p56 : Unit) (Fb : Fr) (G : Gm), q57 = .inl p56 ∧ F = upds Fb [] ∧ Gle G53 G ∧ Since w0.heap.size G0 w0 G w ∧ Owns G w w0.heap.size []) ?_ ?_
      ·refine WC_block (WC_loop hq57 (fun s55 F w => ∃ (Fb : Fr) (G : Gm), F = upds Fb [(4, .int .i64 x4), (5, .pointer (some ⟨b4, 0, none⟩)), (11, .slice a33 n33 c33), (14, .int .i64 s55)] ∧ Gle G53 G ∧ Since w0.heap.size G0 w0 G w ∧ Owns G w w0.heap.size []) ?_ ?_)
       ·have hO : Owns G53 w52 w0.heap.size ([]) := hO
        exact ⟨_, G53, upds_self _ _ ⟨rfl, rfl, rfl, rfl, trivial⟩, Gle.refl _, hS, hO⟩
       ·rintro s55 F w59 t58 ⟨Fb, G60, rfl, leG60, hS, hO⟩
        intro H1 hqq57
        have Hoq57 := H; have H := H1
        unfold f14_b0 at H
        refine WC_seq ?_; refine WC_seq ?_; refine WC_region ?_; refine WL_val (rn_move (v := (.int .i64 s55)) rfl) rfl ?_; refine WL_val (rn_move (v := (.slice a33 n33 c33)) rfl) rfl ?_
        have l4_6 := leG53.trans leG60
        refine WL_val (rn_len sl30 rfl rfl (h33.mono RTShipCall_mono l4_6).1) rfl ?_; refine WL_val (rn_lss rfl rfl) rfl ?_; refine WL_nil ?_; refine WC_cond rfl (fun hb61 => ?_) (fun hb61 => ?_)
        ·have H := ifT hb61 H; refine WC_skip ?_; refine WC_seq ?_; refine WC_block ?_; refine WC_seq ?_; have hS := hS.keep (below_drew _); have hO := hO.below (below_drew _)
         refine WC_regionD mixedO (fun _ w => Sat G60 w ∧ True) (.fl 0 (.fl 1 (.fl 2 (.fl 3 (.fl 4 (.fl 5 (.fl 6 (.fl 7 (.fl 8 (.on 9 (.on 10 .nil))))))))))) (by kernel_rfl) rfl (by kernel_rfl) (fun _ => ⟨hS.sat, trivial⟩) ?_
         refine WD_val rfl (fun w hw => rn_fld fd27_3 rfl) rfl ?_; refine WD_val rfl (fun w hw => rn_load na23 rfl ((hw.1.le (l1_4.trans l4_6)).cell (hcb4 3 _ rfl))) rfl ?_; refine WD_val rfl (fun w hw => rn_move (v := (.slice a33 n33 c33)) rfl) rfl ?_; refine WD_val rfl (fun w hw => rn_move (v := (.int .i64 s55)) rfl) rfl ?_; obtain ⟨y62, hy62, H⟩ := bnd H; refine WD_idx rfl sl30 (h33.mono RTShipCall_mono l4_6) hy62 rfl rfl rfl ?_
         rintro b63 o63 _ hcb63 _ ⟨⟩
         refine WD_val rfl (fun w hw => rn_fld fd82_0 rfl) rfl ?_; refine WD_val rfl (fun w hw => rn_load na3 rfl (hw.1.cell (hcb63 0 _ rfl))) rfl ?_; obtain ⟨y64, hy64, H⟩ := bnd H
         have l0_6 := l0_4.trans l4_6
         refine WD_idx rfl sl23 (h2.mono RTSpan_mono l0_6) hy64 rfl rfl rfl ?_
         rintro b65 o65 _ hcb65 _ ⟨⟩
         refine WD_val rfl (fun w hw => rn_loadA ag25 (cs := [.int .i64 y64.Low, .int .i64 y64.High]) rfl rfl (fun j v hj => hw.1.cell (hcb65.drop_take 0 2 j v hj))) rfl ?_
         refine WD_op rfl rfl (OpP_newO (v := fun b => .pointer (some ⟨b, 0, none⟩)) (cs := [.int .i64 0, .int .i64 0]) (e := 25) (by kernel_rfl) hS.sat hO rfl 2 1 rfl (by decide) (fun b66 w67 hb hO => ?_))
         have hS := hS.keep hb; refine ⟨fun _ _ => ⟨hS.sat, trivial⟩, ?_⟩; refine WD_op rfl rfl (OpP_store (vs := [.int .i64 y64.Low, .int .i64 y64.High]) sz25 hS hO (k := 0) rfl rfl rfl rfl rfl (one_all rfl) (Nat.le_of_ble_eq_true rfl) (fun w69 hS hO => ?_))
         have hO : Owns G60 w69 w0.heap.size ([⟨25, 2, 1, .slice (some ⟨b66, 0, none⟩) 1 1, [.int .i64 y64.Low, .int .i64 y64.High]⟩]) := hO
         obtain ⟨G70, leG70, hS, hO, hqG70, _⟩ := hO.freeze hS (k := 0) rfl
         have hcG70 : Cells G70 b66 0 [.int .i64 y64.Low, .int .i64 y64.High] := (hqG70 _ _ _ _ rfl)
         refine ⟨fun _ h => noneed (by kernel_rfl) h, ?_⟩
         refine WD_nil ?_; refine WC_seq ?_; have hS := hS.keep (below_drew _); have hO := hO.below (below_drew _)
         refine WC_regionD mixedO (fun _ w => Sat G70 w ∧ True) (.fl 0 (.fl 1 (.fl 2 (.fl 3 (.fl 4 (.fl 5 (.fl 6 (.fl 7 (.fl 8 (.fl 9 (.fl 10 (.fl 11 (.on 12 (.on 13 (.on 14 (.on 15 (.on 16 (.on 17 (.fl 18 (.fl 19 (.on 20 (.on 21 .nil)))))))))))))))))))))) (by kernel_rfl) rfl (by kernel_rfl) (fun _ => ⟨hS.sat, trivial⟩) ?_
         refine WD_val rfl (fun w hw => rn_loadA ag27 (cs := [.slice a1 n1 c1, .int .i64 x0.Depth, .int .i64 x0.Draft, .slice a2 n2 c2, .int .i64 x0.Light.Low, .int .i64 x0.Light.High]) rfl rfl (fun j v hj => (hw.1.le ((l1_4.trans l4_6).trans leG70)).cell (hcb4.drop_take 0 6 j v hj))) rfl ?_; refine WD_val rfl (fun w hw => rn_move (v := (.slice a33 n33 c33)) rfl) rfl ?_; refine WD_val rfl (fun w hw => rn_move (v := (.int .i64 s55)) rfl) rfl ?_
         have l4_7 := l4_6.trans leG70
         refine WD_idx rfl sl30 (h33.mono RTShipCall_mono l4_7) hy62 rfl rfl rfl ?_
         rintro b71 o71 _ hcb71 _ ⟨⟩
         refine WD_val rfl (fun w hw => rn_loadA ag82 (cs := [.int .i64 y62.Day, .int .i64 y62.Hour]) rfl rfl (fun j v hj => hw.1.cell (hcb71.drop_take 0 2 j v hj))) rfl ?_; refine WD_val rfl (fun w hw => rn_fld fd25_0 rfl) rfl ?_; refine WD_val rfl (fun w hw => rn_load na3 rfl (hw.1.cell (hcG70 0 _ rfl))) rfl ?_; refine WD_val rfl (fun w hw => rn_fld fd25_1 rfl) rfl ?_; refine WD_val rfl (fun w hw => rn_load na3 rfl (hw.1.cell (hcG70 1 _ rfl))) rfl ?_; refine WD_val rfl (fun w hw => rn_fld fd25_0 rfl) rfl ?_; refine WD_val rfl (fun w hw => rn_load na3 rfl (hw.1.cell (hcG70 0 _ rfl))) rfl ?_; refine WD_val rfl (fun w hw => rn_sub rfl rfl) rfl ?_; refine WD_op rfl rfl (OpP_val (rn_move (v := (.int .i64 x4)) rfl) rfl ?_); refine ⟨fun _ _ => ⟨hS.sat, trivial⟩, ?_⟩; refine WD_op rfl rfl (OpP_val (rn_mul rfl rfl) rfl ?_); refine ⟨fun _ _ => ⟨hS.sat, trivial⟩, ?_⟩
         refine WD_op rfl rfl (OpP_val (rn_quo rfl rfl (by decide)) rfl ?_)
         refine ⟨fun _ _ => ⟨hS.sat, trivial⟩, ?_⟩; refine WD_op rfl rfl (OpP_val (rn_add rfl rfl) rfl ?_); refine ⟨fun _ _ => ⟨hS.sat, trivial⟩, ?_⟩; obtain ⟨y72, hy72, H⟩ := bnd H
         have l0_7 := l0_6.trans leG70
         refine WD_op rfl rfl (OpP_callV cb52 (f52_ok (x0 := x0) (x1 := y62) (x2 := IntKind.i64.wrap (y64.Low + (IntKind.i64.wrap ((IntKind.i64.wrap ((IntKind.i64.wrap (y64.High - y64.Low)) * x4)).tdiv 100)))) hS.sat (h1.mono RInt_mono l0_7) (h2.mono RTSpan_mono l0_7) hy72) rfl rfl (fun w73 hb => ?_)); have hS := hS.keep hb; have hO := hO.below hb; refine ⟨fun _ _ => ⟨hS.sat, trivial⟩, ?_⟩; refine WD_op rfl rfl (OpP_val (rn_move (v := (.tuple #[.bool y72.1, .int .i64 y72.2])) rfl) rfl ?_); refine ⟨fun _ _ => ⟨hS.sat, trivial⟩, ?_⟩; refine WD_val rfl (fun w hw => rn_extract (v := (.bool y72.1)) rfl rfl) rfl ?_; refine WD_val rfl (fun w hw => rn_extract (v := (.int .i64 y72.2)) rfl rfl) rfl ?_; refine WD_op rfl rfl (OpP_val (rn_assign (v := (.bool y72.1)) rfl) rfl ?_); refine ⟨fun _ _ => ⟨hS.sat, trivial⟩, ?_⟩; refine WD_op rfl rfl (OpP_val (rn_assign (v := (.int .i64 y72.2)) rfl) rfl ?_)
         refine ⟨fun _ h => noneed (by kernel_rfl) h, ?_⟩
         refine WD_nil ?_; refine WC_seq ?_; obtain ⟨q74, hq74, H⟩ := bnd H; refine WC_cut (fun F w => ∃ (Fb : Fr), F = upds Fb [(4, .int .i64 x4), (5, .pointer (some ⟨b4, 0, none⟩)), (11, .slice a33 n33 c33), (14, .int .i64 s55), (133, .bool q74)] ∧ w73 = w) ?_ ?_
         ·have Hoq74 := H; have H := hq74; refine WC_region ?_; refine WL_val (rn_move (v := (.int .i64 y72.2)) rfl) rfl ?_; refine WL_val (rn_neq rfl rfl) rfl ?_; refine WL_val (rn_move (v := (.bool (y72.2 != 0))) rfl) rfl ?_
          rcases bcases (y72.2 != 0) with hb75 | hb75
          ·have H := ifT hb75 H; refine WL_guardN rfl hb75 rfl rfl rfl ?_; refine WL_guardN rfl hb75 rfl rfl rfl ?_; refine WL_val (rn_pickT (v := (.bool true)) rfl hb75 rfl) rfl ?_; refine WL_nil ?_; have H := Option.some.inj H; subst H
           exact ⟨_, upds_self _ _ ⟨rfl, rfl, rfl, rfl, rfl, trivial⟩, rfl⟩
          ·have H := ifF hb75 H; refine WL_guardY rfl hb75 rfl rfl ?_; refine WL_val (rn_move (v := (.bool y72.1)) rfl) rfl ?_; refine WL_guardY rfl hb75 rfl rfl ?_; refine WL_val (rn_not rfl) rfl ?_; refine WL_val (rn_pickF (v := (.bool (!y72.1))) rfl hb75 rfl) rfl ?_; refine WL_nil ?_; have H := Option.some.inj H; subst H
           exact ⟨_, upds_self _ _ ⟨rfl, rfl, rfl, rfl, rfl, trivial⟩, rfl⟩
         ·rintro F wl ⟨Fb, rfl, rfl⟩
          refine WC_cond rfl (fun hb78 => ?_) (fun hb78 => ?_)
          ·have H := ifT hb78 H; refine WC_seq ?_; refine WC_region ?_; refine WL_val (rn_assign (v := (.bool false)) rfl) rfl ?_; refine WL_nil ?_; refine WC_ret ?_; have H := Option.some.inj H; subst H
           have hres := hqq57 _ rfl
           subst hres; have H := Hoq57
           have H : some false = some r := H
           have H := Option.some.inj H; subst H
           exact ⟨rfl, hS.below⟩
          ·have H := ifF hb78 H; refine WC_skip ?_; refine WC_region ?_; refine WL_val (rn_move (v := (.int .i64 s55)) rfl) rfl ?_; refine WL_val (rn_add rfl rfl) rfl ?_; refine WL_val (rn_assign (v := (.int .i64 (IntKind.i64.wrap (s55 + 1)))) rfl) rfl ?_; refine WL_nil ?_
           have hO : Owns G70 w73 w0.heap.size ([]) := hO
           have H := Option.some.inj H; subst H; refine ⟨_, rfl, ?_⟩
           have l5_7 := leG60.trans leG70
           exact ⟨_, G70, upds_self _ _ ⟨rfl, rfl, rfl, rfl, trivial⟩, l5_7, hS, hO⟩
        ·have H := ifF hb61 H; refine WC_exit rfl ?_
         have hO : Owns G60 w59 w0.heap.size ([]) := hO
         have H := Option.some.inj H; subst H
         have hres := hqq57 _ rfl
         subst hres
         exact ⟨_, _, G60, rfl, rfl, leG60, hS, hO⟩
      ·rintro F w79 ⟨p56, Fb, G80, rfl, rfl, leG80, hS, hO⟩
       refine WC_seq ?_; refine WC_region ?_; obtain ⟨y81, hy81, H⟩ := bnd H; refine WL_op rfl (OpP_callV cb17 (f17_ok  hS.sat  hy81) rfl rfl (fun w82 hb => ?_)); have hS := hS.keep hb; have hO := hO.below hb; refine WL_val (rn_assign (v := (.bool y81)) rfl) rfl ?_; refine WL_nil ?_; refine WC_ret ?_
       have H : some y81 = some r := H
       have H := Option.some.inj H; subst H
       exact ⟨rfl, hS.below⟩
end Go.Proofs.Ytajejmbnmphngaa
