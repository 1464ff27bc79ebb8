/-
  The walks: each Go function computes its plain function (printed by a program of ours).
-/
import Derived.Test.YtajejmbnmphngaaRd
import Derived.Test.YtajejmbnmphngaaBaseL
import Derived.Test.YtajejmbnmphngaaP3W3
namespace Go.Proofs.Ytajejmbnmphngaa
open Go.RowKit
set_option linter.unusedVariables false

set_option maxRecDepth 20000
set_option linter.unusedVariables false
set_option maxHeartbeats 1000000 in
theorem f3_ok {G0 : Gm} {w0 : World} (hS0 : Sat G0 w0) {x0 : TShipPass} {a1 : Option Addr} {n1 c1 : Nat} {a2 : Option Addr} {n2 c2 : Nat} {x1 : TSpan} {x2 : Int} (h1 : RSl RInt 1 G0 a1 n1 c1 x0.Tides) (h2 : RSl RTSpan 2 G0 a2 n2 c2 x0.Swell) {r : Bool} (H : f3 x0 x1 x2 = some r) :
  Calls Try.prog 3 #[.agg #[.slice a1 n1 c1, .int .i64 x0.Depth, .int .i64 x0.Draft, .slice a2 n2 c2, .int .i64 x0.Light.Low, .int .i64 x0.Light.High], .agg #[.int .i64 x1.Low, .int .i64 x1.High], .int .i64 x2] w0 (RetV w0 (.bool r)) := by
 have hS := Since.start hS0
 have hO : Owns G0 w0 w0.heap.size [] := Owns.nil (Nat.le_refl _)
 unfold f3 at H
 refine enter1 (N := 82) (shutV _ _) Try.func3 rfl rfl rfl rfl ?_; refine WC_seq ?_; refine WC_region ?_; refine WL_op rfl (OpP_newF (v := fun b => .pointer (some ⟨b, 0, none⟩)) (cs := [.slice a1 n1 c1, .int .i64 x0.Depth, .int .i64 x0.Draft, .slice a2 n2 c2, .int .i64 x0.Light.Low, .int .i64 x0.Light.High]) (e := 27) (rn_boxA rfl) hS.sat rfl (fun b3 G5 w4 hg hcb3 => ?_)); have hS := hS.grow hg; have hO := hO.grow hg
 have leG5 := hg.le
 refine WL_op rfl (OpP_newF (v := fun b => .pointer (some ⟨b, 0, none⟩)) (cs := [.int .i64 x1.Low, .int .i64 x1.High]) (e := 25) (rn_boxA rfl) hS.sat rfl (fun b6 G8 w7 hg hcb6 => ?_)); have hS := hS.grow hg; have hO := hO.grow hg
 have leG8 := hg.le
 refine WL_val (rn_assign (v := (.bool false)) rfl) rfl ?_; refine WL_nil ?_; refine WC_seq ?_; refine WC_seq ?_; obtain ⟨q9, hq9, H⟩ := bnd H; refine WC_cut (fun F w => ∃ (Fb : Fr) (G : Gm), F = upds Fb [(2, .int .i64 x2), (3, .pointer (some ⟨b3, 0, none⟩)), (4, .pointer (some ⟨b6, 0, none⟩)), (21, .bool q9)] ∧ Gle G8 G ∧ Since w0.heap.size G0 w0 G w ∧ Owns G w w0.heap.size []) ?_ ?_
 ·have Hoq9 := H; have H := hq9; refine WC_region ?_; refine WL_val (rn_loadA ag27 (cs := [.slice a1 n1 c1, .int .i64 x0.Depth, .int .i64 x0.Draft, .slice a2 n2 c2, .int .i64 x0.Light.Low, .int .i64 x0.Light.High]) rfl rfl (fun j v hj => (hS.sat.le leG8).cell (hcb3.drop_take 0 6 j v hj))) rfl ?_; obtain ⟨y10, hy10, H⟩ := bnd H
  have l0_2 := leG5.trans leG8
  refine WL_op rfl (OpP_callV cb16 (f16_ok (x0 := x0) hS.sat (h1.mono RInt_mono l0_2) (h2.mono RTSpan_mono l0_2) hy10) rfl rfl (fun w11 hb => ?_)); have hS := hS.keep hb; have hO := hO.below hb; refine WL_val (rn_not rfl) rfl ?_; refine WL_val (rn_move (v := (.bool (!y10))) rfl) rfl ?_
  rcases bcases (!y10) with hb12 | hb12
  ·have H := ifT hb12 H; refine WL_guardN rfl hb12 rfl rfl rfl ?_; refine WL_guardN rfl hb12 rfl rfl rfl ?_; refine WL_guardN rfl hb12 rfl rfl rfl ?_; refine WL_guardU rfl rfl rfl rfl ?_; refine WL_guardU rfl rfl rfl rfl ?_; refine WL_guardN rfl hb12 rfl rfl rfl ?_; refine WL_val (rn_pickT (v := (.bool true)) rfl hb12 rfl) rfl ?_; refine WL_nil ?_
   have hO : Owns G8 w11 w0.heap.size ([]) := hO
   have H := Option.some.inj H; subst H
   exact ⟨_, G8, upds_self _ _ ⟨rfl, rfl, rfl, rfl, trivial⟩, Gle.refl _, hS, hO⟩
  ·have H := ifF hb12 H; refine WL_guardY rfl hb12 rfl rfl ?_; refine WL_val (rn_move (v := (.int .i64 x2)) rfl) rfl ?_; refine WL_guardY rfl hb12 rfl rfl ?_; refine WL_val (rn_gtr rfl rfl) rfl ?_; refine WL_guardY rfl hb12 rfl rfl ?_; refine WL_val (rn_move (v := (.bool (decide (4 < x2)))) rfl) rfl ?_
   rcases bcases (decide (4 < x2)) with hb13 | hb13
   ·have H := ifT hb13 H; refine WL_guardY rfl hb13 rfl rfl ?_; refine WL_val (rn_move (v := (.int .i64 x2)) rfl) rfl ?_; refine WL_guardY rfl hb13 rfl rfl ?_; refine WL_val (rn_leq rfl rfl) rfl ?_; refine WL_guardY rfl hb12 rfl rfl ?_; refine WL_val (rn_pickT (v := (.bool (decide (x2 ≤ 8)))) rfl hb13 rfl) rfl ?_; refine WL_val (rn_pickF (v := (.bool (decide (x2 ≤ 8)))) rfl hb12 rfl) rfl ?_; refine WL_nil ?_
    have hO : Owns G8 w11 w0.heap.size ([]) := hO
    have H := Option.some.inj H; subst H
    exact ⟨_, G8, upds_self _ _ ⟨rfl, rfl, rfl, rfl, trivial⟩, Gle.refl _, hS, hO⟩
   ·have H := ifF hb13 H; refine WL_guardN rfl hb13 rfl rfl rfl ?_; refine WL_guardN rfl hb13 rfl rfl rfl ?_; refine WL_guardY rfl hb12 rfl rfl ?_; refine WL_val (rn_pickF (v := (.bool false)) rfl hb13 rfl) rfl ?_; refine WL_val (rn_pickF (v := (.bool false)) rfl hb12 rfl) rfl ?_; refine WL_nil ?_
    have hO : Owns G8 w11 w0.heap.size ([]) := hO
    have H := Option.some.inj H; subst H
    exact ⟨_, G8, upds_self _ _ ⟨rfl, rfl, rfl, rfl, trivial⟩, Gle.refl _, hS, hO⟩
 ·rintro F w14 ⟨Fb, G15, rfl, leG15, hS, hO⟩
  refine WC_cond rfl (fun hb16 => ?_) (fun hb16 => ?_)
  ·have H := ifT hb16 H; refine WC_seq ?_; refine WC_region ?_; obtain ⟨y17, hy17, H⟩ := bnd H; refine WL_op rfl (OpP_callV cb17 (f17_ok  hS.sat  hy17) rfl rfl (fun w18 hb => ?_)); have hS := hS.keep hb; have hO := hO.below hb; refine WL_val (rn_assign (v := (.bool y17)) rfl) rfl ?_; refine WL_nil ?_; refine WC_ret ?_
   have H : some y17 = some r := H
   have H := Option.some.inj H; subst H
   exact ⟨rfl, hS.below⟩
  ·have H := ifF hb16 H; refine WC_skip ?_; refine WC_seq ?_; refine WC_region ?_
   have l1_3 := leG8.trans leG15
   refine WL_val (rn_loadA ag27 (cs := [.slice a1 n1 c1, .int .i64 x0.Depth, .int .i64 x0.Draft, .slice a2 n2 c2, .int .i64 x0.Light.Low, .int .i64 x0.Light.High]) rfl rfl (fun j v hj => (hS.sat.le l1_3).cell (hcb3.drop_take 0 6 j v hj))) rfl ?_; refine WL_val (rn_loadA ag25 (cs := [.int .i64 x1.Low, .int .i64 x1.High]) rfl rfl (fun j v hj => (hS.sat.le leG15).cell (hcb6.drop_take 0 2 j v hj))) rfl ?_; refine WL_val (rn_move (v := (.int .i64 x2)) rfl) rfl ?_; obtain ⟨y19, hy19, H⟩ := bnd H
   have l0_3 := leG5.trans l1_3
   refine WL_op rfl (OpP_callG cb18 (f18_ok (x0 := x0) (x1 := x1) (x2 := x2) hS.sat (h1.mono RInt_mono l0_3) (h2.mono RTSpan_mono l0_3) hy19) rfl rfl (fun vy19 G21 w20 hg hvy19 => ?_)); obtain ⟨a22, n22, c22, ⟨⟩, h22⟩ := hvy19; have hS := hS.grow hg; have hO := hO.grow hg
   have leG21 := hg.le
   refine WL_val (rn_move (v := (.tuple #[.slice a22 n22 c22, .int .i64 y19.2])) rfl) rfl ?_; refine WL_val (rn_extract (v := (.slice a22 n22 c22)) rfl rfl) rfl ?_; refine WL_val (rn_extract (v := (.int .i64 y19.2)) rfl rfl) rfl ?_; refine WL_val (rn_assign (v := (.slice a22 n22 c22)) rfl) rfl ?_; refine WL_val (rn_assign (v := (.int .i64 y19.2)) rfl) rfl ?_; refine WL_nil ?_; refine WC_seq ?_; refine WC_seq ?_; obtain ⟨q23, hq23, H⟩ := bnd H; refine WC_cut (fun F w => ∃ (Fb : Fr) (G : Gm), F = upds Fb [(2, .int .i64 x2), (3, .pointer (some ⟨b3, 0, none⟩)), (4, .pointer (some ⟨b6, 0, none⟩)), (7, .slice a22 n22 c22), (8, .int .i64 y19.2), (42, .bool q23)] ∧ Gle G21 G ∧ Since w0.heap.size G0 w0 G w ∧ Owns G w w0.heap.size []) ?_ ?_
   ·have Hoq23 := H; have H := hq23; refine WC_region ?_
    have l1_4 := l1_3.trans leG21
    refine WL_val (rn_loadA ag27 (cs := [.slice a1 n1 c1, .int .i64 x0.Depth, .int .i64 x0.Draft, .slice a2 n2 c2, .int .i64 x0.Light.Low, .int .i64 x0.Light.High]) rfl rfl (fun j v hj => (hS.sat.le l1_4).cell (hcb3.drop_take 0 6 j v hj))) rfl ?_; obtain ⟨y24, hy24, H⟩ := bnd H
    have l0_4 := l0_3.trans leG21
    refine WL_op rfl (OpP_callV cb19 (f19_ok (x0 := x0) hS.sat (h1.mono RInt_mono l0_4) (h2.mono RTSpan_mono l0_4) hy24) rfl rfl (fun w25 hb => ?_)); have hS := hS.keep hb; have hO := hO.below hb; refine WL_val (rn_not rfl) rfl ?_; refine WL_val (rn_move (v := (.bool (!y24))) rfl) rfl ?_
    rcases bcases (!y24) with hb26 | hb26
    ·have H := ifT hb26 H; refine WL_guardN rfl hb26 rfl rfl rfl ?_; refine WL_guardN rfl hb26 rfl rfl rfl ?_; refine WL_guardN rfl hb26 rfl rfl rfl ?_; refine WL_val (rn_pickT (v := (.bool true)) rfl hb26 rfl) rfl ?_; refine WL_val (rn_move (v := (.bool true)) rfl) rfl ?_; refine WL_guardN rfl rfl rfl rfl rfl ?_; refine WL_guardN rfl rfl rfl rfl rfl ?_; refine WL_guardN rfl rfl rfl rfl rfl ?_; refine WL_val (rn_pickT (v := (.bool true)) rfl rfl rfl) rfl ?_; refine WL_nil ?_
     have hO : Owns G21 w25 w0.heap.size ([]) := hO
     have H := Option.some.inj H; subst H
     exact ⟨_, G21, upds_self _ _ ⟨rfl, rfl, rfl, rfl, rfl, rfl, trivial⟩, Gle.refl _, hS, hO⟩
    ·have H := ifF hb26 H; refine WL_guardY rfl hb26 rfl rfl ?_
     have l2_4 := leG15.trans leG21
     refine WL_val (rn_loadA ag25 (cs := [.int .i64 x1.Low, .int .i64 x1.High]) rfl rfl (fun j v hj => (hS.sat.le l2_4).cell (hcb6.drop_take 0 2 j v hj))) rfl ?_; refine WL_guardY rfl hb26 rfl rfl ?_; obtain ⟨y27, hy27, H⟩ := bnd H; refine WL_op rfl (OpP_callV cb20 (f20_ok (x0 := x1) hS.sat  hy27) rfl rfl (fun w28 hb => ?_)); have hS := hS.keep hb; have hO := hO.below hb; refine WL_guardY rfl hb26 rfl rfl ?_; refine WL_val (rn_not rfl) rfl ?_; refine WL_val (rn_pickF (v := (.bool (!y27))) rfl hb26 rfl) rfl ?_; refine WL_val (rn_move (v := (.bool (!y27))) rfl) rfl ?_
     rcases bcases (!y27) with hb29 | hb29
     ·have H := ifT hb29 H; refine WL_guardN rfl hb29 rfl rfl rfl ?_; refine WL_guardN rfl hb29 rfl rfl rfl ?_; refine WL_guardN rfl hb29 rfl rfl rfl ?_; refine WL_val (rn_pickT (v := (.bool true)) rfl hb29 rfl) rfl ?_; refine WL_nil ?_
      have hO : Owns G21 w28 w0.heap.size ([]) := hO
      have H := Option.some.inj H; subst H
      exact ⟨_, G21, upds_self _ _ ⟨rfl, rfl, rfl, rfl, rfl, rfl, trivial⟩, Gle.refl _, hS, hO⟩
     ·have H := ifF hb29 H; refine WL_guardY rfl hb29 rfl rfl ?_; refine WL_val (rn_move (v := (.int .i64 x2)) rfl) rfl ?_; refine WL_guardY rfl hb29 rfl rfl ?_; obtain ⟨y30, hy30, H⟩ := bnd H; refine WL_op rfl (OpP_callV cb21 (f21_ok (x0 := x2) hS.sat  hy30) rfl rfl (fun w31 hb => ?_)); have hS := hS.keep hb; have hO := hO.below hb; refine WL_guardY rfl hb29 rfl rfl ?_; refine WL_val (rn_not rfl) rfl ?_; refine WL_val (rn_pickF (v := (.bool (!y30))) rfl hb29 rfl) rfl ?_; refine WL_nil ?_
      have hO : Owns G21 w31 w0.heap.size ([]) := hO
      have H := Option.some.inj H; subst H
      exact ⟨_, G21, upds_self _ _ ⟨rfl, rfl, rfl, rfl, rfl, rfl, trivial⟩, Gle.refl _, hS, hO⟩
   ·rintro F w32 ⟨Fb, G33, rfl, leG33, hS, hO⟩
    refine WC_cond rfl (fun hb34 => ?_) (fun hb34 => ?_)
    ·have H := ifT hb34 H; refine WC_seq ?_; obtain ⟨q35, hq35, H⟩ := bnd H; refine WC_cut (fun F w => ∃ (Fb : Fr) (G : Gm), F = upds Fb [(6, .bool q35)] ∧ Gle G33 G ∧ Since w0.heap.size G0 w0 G w ∧ Owns G w w0.heap.size []) ?_ ?_
     ·have Hoq35 := H; have H := hq35; refine WC_region ?_; refine WL_val (rn_move (v := (.int .i64 y19.2)) rfl) rfl ?_; refine WL_val (rn_eql rfl rfl) rfl ?_; refine WL_val (rn_move (v := (.bool (y19.2 == 2))) rfl) rfl ?_
      rcases bcases (y19.2 == 2) with hb36 | hb36
      ·have H := ifT hb36 H; refine WL_guardY rfl hb36 rfl rfl ?_; refine WL_val (rn_move (v := (.slice a22 n22 c22)) rfl) rfl ?_; refine WL_guardY rfl hb36 rfl rfl ?_; refine WL_val (rn_len sl30 rfl rfl (h22.mono RTShipCall_mono leG33).1) rfl ?_; refine WL_guardY rfl hb36 rfl rfl ?_; refine WL_val (rn_eql rfl rfl) rfl ?_; refine WL_val (rn_pickT (v := (.bool ((y19.1.length : Int) == 0))) rfl hb36 rfl) rfl ?_; refine WL_val (rn_move (v := (.bool ((y19.1.length : Int) == 0))) rfl) rfl ?_
       rcases bcases ((y19.1.length : Int) == 0) with hb37 | hb37
       ·have H := ifT hb37 H; refine WL_guardY rfl hb37 rfl rfl ?_; obtain ⟨y38, hy38, H⟩ := bnd H; refine WL_op rfl (OpP_callV cb17 (f17_ok  hS.sat  hy38) rfl rfl (fun w39 hb => ?_)); have hS := hS.keep hb; have hO := hO.below hb; refine WL_val (rn_pickT (v := (.bool y38)) rfl hb37 rfl) rfl ?_; refine WL_val (rn_assign (v := (.bool y38)) rfl) rfl ?_; refine WL_nil ?_
        have hO : Owns G33 w39 w0.heap.size ([]) := hO
        have H := Option.some.inj H; subst H
        exact ⟨_, G33, upds_self _ _ ⟨rfl, trivial⟩, Gle.refl _, hS, hO⟩
       ·have H := ifF hb37 H; refine WL_guardN rfl hb37 rfl rfl rfl ?_; refine WL_val (rn_pickF (v := (.bool false)) rfl hb37 rfl) rfl ?_; refine WL_val (rn_assign (v := (.bool false)) rfl) rfl ?_; refine WL_nil ?_
        have hO : Owns G33 w32 w0.heap.size ([]) := hO
        have H := Option.some.inj H; subst H
        exact ⟨_, G33, upds_self _ _ ⟨rfl, trivial⟩, Gle.refl _, hS, hO⟩
      ·have H := ifF hb36 H; refine WL_guardN rfl hb36 rfl rfl rfl ?_; refine WL_guardN rfl hb36 rfl rfl rfl ?_; refine WL_guardN rfl hb36 rfl rfl rfl ?_; refine WL_val (rn_pickF (v := (.bool false)) rfl hb36 rfl) rfl ?_; refine WL_val (rn_move (v := (.bool false)) rfl) rfl ?_; refine WL_guardN rfl rfl rfl rfl rfl ?_; refine WL_val (rn_pickF (v := (.bool false)) rfl rfl rfl) rfl ?_; refine WL_val (rn_assign (v := (.bool false)) rfl) rfl ?_; refine WL_nil ?_
       have hO : Owns G33 w32 w0.heap.size ([]) := hO
       have H := Option.some.inj H; subst H
       exact ⟨_, G33, upds_self _ _ ⟨rfl, trivial⟩, Gle.refl _, hS, hO⟩
     ·rintro F w40 ⟨Fb, G41, rfl, leG41, hS, hO⟩
      refine WC_ret ?_
      have H : some q35 = some r := H
      have H := Option.some.inj H; subst H
      exact ⟨rfl, hS.below⟩
    ·have H := ifF hb34 H; refine WC_skip ?_; refine WC_seq ?_; refine WC_region ?_
     have l1_5 := (l1_3.trans leG21).trans leG33
     refine WL_val (rn_loadA ag27 (cs := [.slice a1 n1 c1, .int .i64 x0.Depth, .int .i64 x0.Draft, .slice a2 n2 c2, .int .i64 x0.Light.Low, .int .i64 x0.Light.High]) rfl rfl (fun j v hj => (hS.sat.le l1_5).cell (hcb3.drop_take 0 6 j v hj))) rfl ?_
     have l2_5 := (leG15.trans leG21).trans leG33
     refine WL_val (rn_loadA ag25 (cs := [.int .i64 x1.Low, .int .i64 x1.High]) rfl rfl (fun j v hj => (hS.sat.le l2_5).cell (hcb6.drop_take 0 2 j v hj))) rfl ?_; refine WL_val (rn_move (v := (.int .i64 x2)) rfl) rfl ?_; obtain ⟨y42, hy42, H⟩ := bnd H
     have l0_5 := (l0_3.trans leG21).trans leG33
     refine WL_op rfl (OpP_callG cb22 (f22_ok (x0 := x0) (x1 := x1) (x2 := x2) hS.sat (h1.mono RInt_mono l0_5) (h2.mono RTSpan_mono l0_5) hy42) rfl rfl (fun vy42 G44 w43 hg hvy42 => ?_)); obtain ⟨a45, n45, c45, ⟨⟩, h45⟩ := hvy42; have hS := hS.grow hg; have hO := hO.grow hg
     have leG44 := hg.le
     refine WL_val (rn_move (v := (.tuple #[.slice a45 n45 c45, .bool y42.2])) rfl) rfl ?_; refine WL_val (rn_extract (v := (.slice a45 n45 c45)) rfl rfl) rfl ?_; refine WL_val (rn_extract (v := (.bool y42.2)) rfl rfl) rfl ?_; refine WL_val (rn_assign (v := (.slice a45 n45 c45)) rfl) rfl ?_; refine WL_val (rn_assign (v := (.bool y42.2)) rfl) rfl ?_; refine WL_nil ?_; refine WC_seq ?_; refine WC_seq ?_; refine WC_region ?_; refine WL_val (rn_move (v := (.bool y42.2)) rfl) rfl ?_; refine WL_val (rn_not rfl) rfl ?_; refine WL_nil ?_; refine WC_cond rfl (fun hb46 => ?_) (fun hb46 => ?_)
     ·have H := ifT hb46 H; refine WC_seq ?_; obtain ⟨q47, hq47, H⟩ := bnd H; refine WC_cut (fun F w => ∃ (Fb : Fr) (G : Gm), F = upds Fb [(6, .bool q47)] ∧ Gle G44 G ∧ Since w0.heap.size G0 w0 G w ∧ Owns G w w0.heap.size []) ?_ ?_
      ·have Hoq47 := H; have H := hq47; refine WC_region ?_; refine WL_val (rn_move (v := (.int .i64 y19.2)) rfl) rfl ?_; refine WL_val (rn_eql rfl rfl) rfl ?_; refine WL_val (rn_move (v := (.bool (y19.2 == 5))) rfl) rfl ?_
       rcases bcases (y19.2 == 5) with hb48 | hb48
       ·have H := ifT hb48 H; refine WL_guardY rfl hb48 rfl rfl ?_; refine WL_val (rn_move (v := (.slice a22 n22 c22)) rfl) rfl ?_; refine WL_guardY rfl hb48 rfl rfl ?_
        have l4_6 := leG33.trans leG44
        refine WL_val (rn_len sl30 rfl rfl (h22.mono RTShipCall_mono l4_6).1) rfl ?_; refine WL_guardY rfl hb48 rfl rfl ?_; refine WL_val (rn_eql rfl rfl) rfl ?_; refine WL_val (rn_pickT (v := (.bool ((y19.1.length : Int) == 0))) rfl hb48 rfl) rfl ?_; refine WL_val (rn_move (v := (.bool ((y19.1.length : Int) == 0))) rfl) rfl ?_
        rcases bcases ((y19.1.length : Int) == 0) with hb49 | hb49
        ·have H := ifT hb49 H; refine WL_guardY rfl hb49 rfl rfl ?_; obtain ⟨y50, hy50, H⟩ := bnd H; refine WL_op rfl (OpP_callV cb17 (f17_ok  hS.sat  hy50) rfl rfl (fun w51 hb => ?_)); have hS := hS.keep hb; have hO := hO.below hb; refine WL_val (rn_pickT (v := (.bool y50)) rfl hb49 rfl) rfl ?_; refine WL_val (rn_assign (v := (.bool y50)) rfl) rfl ?_; refine WL_nil ?_
         have hO : Owns G44 w51 w0.heap.size ([]) := hO
         have H := Option.some.inj H; subst H
         exact ⟨_, G44, upds_self _ _ ⟨rfl, trivial⟩, Gle.refl _, hS, hO⟩
        ·have H := ifF hb49 H; refine WL_guardN rfl hb49 rfl rfl rfl ?_; refine WL_val (rn_pickF (v := (.bool false)) rfl hb49 rfl) rfl ?_; refine WL_val (rn_assign (v := (.bool false)) rfl) rfl ?_; refine WL_nil ?_
         have hO : Owns G44 w43 w0.heap.size ([]) := hO
         have H := Option.some.inj H; subst H
         exact ⟨_, G44, upds_self _ _ ⟨rfl, trivial⟩, Gle.refl _, hS, hO⟩
       ·have H := ifF hb48 H; refine WL_guardN rfl hb48 rfl rfl rfl ?_; refine WL_guardN rfl hb48 rfl rfl rfl ?_; refine WL_guardN rfl hb48 rfl rfl rfl ?_; refine WL_val (rn_pickF (v := (.bool false)) rfl hb48 rfl) rfl ?_; refine WL_val (rn_move (v := (.bool false)) rfl) rfl ?_; refine WL_guardN rfl rfl rfl rfl rfl ?_; refine WL_val (rn_pickF (v := (.bool false)) rfl rfl rfl) rfl ?_; refine WL_val (rn_assign (v := (.bool false)) rfl) rfl ?_; refine WL_nil ?_
        have hO : Owns G44 w43 w0.heap.size ([]) := hO
        have H := Option.some.inj H; subst H
        exact ⟨_, G44, upds_self _ _ ⟨rfl, trivial⟩, Gle.refl _, hS, hO⟩
      ·rintro F w52 ⟨Fb, G53, rfl, leG53, hS, hO⟩
       refine WC_ret ?_
       have H : some q47 = some r := H
       have H := Option.some.inj H; subst H
       exact ⟨rfl, hS.below⟩
     ·have H := ifF hb46 H; refine WC_skip ?_; refine WC_seq ?_; obtain ⟨q54, hq54, H⟩ := bnd H; refine WC_cut (fun F w => ∃ (Fb : Fr) (G : Gm), F = upds Fb [(6, .bool q54)] ∧ Gle G44 G ∧ Since w0.heap.size G0 w0 G w ∧ Owns G w w0.heap.size []) ?_ ?_
      ·have Hoq54 := H; have H := hq54; refine WC_region ?_; refine WL_val (rn_move (v := (.int .i64 y19.2)) rfl) rfl ?_; refine WL_val (rn_eql rfl rfl) rfl ?_; refine WL_val (rn_move (v := (.bool (y19.2 == 0))) rfl) rfl ?_
       rcases bcases (y19.2 == 0) with hb55 | hb55
       ·have H := ifT hb55 H; refine WL_guardY rfl hb55 rfl rfl ?_; refine WL_val (rn_move (v := (.slice a22 n22 c22)) rfl) rfl ?_; refine WL_guardY rfl hb55 rfl rfl ?_; refine WL_val (rn_move (v := (.slice a45 n45 c45)) rfl) rfl ?_; refine WL_guardY rfl hb55 rfl rfl ?_; obtain ⟨y56, hy56, H⟩ := bnd H
        have l4_6 := leG33.trans leG44
        refine WL_op rfl (OpP_callV cb23 (f23_ok (x0 := y19.1) (x1 := y42.1) hS.sat (h22.mono RTShipCall_mono l4_6) h45 hy56) rfl rfl (fun w57 hb => ?_)); have hS := hS.keep hb; have hO := hO.below hb; refine WL_val (rn_pickT (v := (.bool y56)) rfl hb55 rfl) rfl ?_; refine WL_val (rn_move (v := (.bool y56)) rfl) rfl ?_
        rcases bcases y56 with hb58 | hb58
        ·have H := ifT hb58 H; refine WL_guardY rfl hb58 rfl rfl ?_; obtain ⟨y59, hy59, H⟩ := bnd H; refine WL_op rfl (OpP_callV cb17 (f17_ok  hS.sat  hy59) rfl rfl (fun w60 hb => ?_)); have hS := hS.keep hb; have hO := hO.below hb; refine WL_val (rn_pickT (v := (.bool y59)) rfl hb58 rfl) rfl ?_; refine WL_val (rn_assign (v := (.bool y59)) rfl) rfl ?_; refine WL_nil ?_
         have hO : Owns G44 w60 w0.heap.size ([]) := hO
         have H := Option.some.inj H; subst H
         exact ⟨_, G44, upds_self _ _ ⟨rfl, trivial⟩, Gle.refl _, hS, hO⟩
        ·have H := ifF hb58 H; refine WL_guardN rfl hb58 rfl rfl rfl ?_; refine WL_val (rn_pickF (v := (.bool false)) rfl hb58 rfl) rfl ?_; refine WL_val (rn_assign (v := (.bool false)) rfl) rfl ?_; refine WL_nil ?_
         have hO : Owns G44 w57 w0.heap.size ([]) := hO
         have H := Option.some.inj H; subst H
         exact ⟨_, G44, upds_self _ _ ⟨rfl, trivial⟩, Gle.refl _, hS, hO⟩
       ·have H := ifF hb55 H; refine WL_guardN rfl hb55 rfl rfl rfl ?_; refine WL_guardN rfl hb55 rfl rfl rfl ?_; refine WL_guardN rfl hb55 rfl rfl rfl ?_; refine WL_val (rn_pickF (v := (.bool false)) rfl hb55 rfl) rfl ?_; refine WL_val (rn_move (v := (.bool false)) rfl) rfl ?_; refine WL_guardN rfl rfl rfl rfl rfl ?_; refine WL_val (rn_pickF (v := (.bool false)) rfl rfl rfl) rfl ?_; refine WL_val (rn_assign (v := (.bool false)) rfl) rfl ?_; refine WL_nil ?_
        have hO : Owns G44 w43 w0.heap.size ([]) := hO
        have H := Option.some.inj H; subst H
        exact ⟨_, G44, upds_self _ _ ⟨rfl, trivial⟩, Gle.refl _, hS, hO⟩
      ·rintro F w61 ⟨Fb, G62, rfl, leG62, hS, hO⟩
       refine WC_ret ?_
       have H : some q54 = some r := H
       have H := Option.some.inj H; subst H
       exact ⟨rfl, hS.below⟩
end Go.Proofs.Ytajejmbnmphngaa
