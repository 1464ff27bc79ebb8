/-
  The walks: each Go function computes its plain function (printed by a program of ours).
-/
import Derived.Test.YtajejmbnmphngaaRd
import Derived.Test.YtajejmbnmphngaaBaseL
import Derived.Test.YtajejmbnmphngaaP12W3
namespace Go.Proofs.Ytajejmbnmphngaa
open Go.RowKit
set_option linter.unusedVariables false

set_option maxRecDepth 20000
set_option linter.unusedVariables false
set_option maxHeartbeats 1000000 in
theorem f12_ok {G0 : Gm} {w0 : World} (hS0 : Sat G0 w0) {x0 : TShipPass} {a1 : Option Addr} {n1 c1 : Nat} {a2 : Option Addr} {n2 c2 : Nat} {x1 : Int} {x2 : TShipCall} (h1 : RSl RInt 1 G0 a1 n1 c1 x0.Tides) (h2 : RSl RTSpan 2 G0 a2 n2 c2 x0.Swell) {r : Bool} (H : f12 x0 x1 x2 = some r) :
  Calls Try.prog 12 #[.agg #[.slice a1 n1 c1, .int .i64 x0.Depth, .int .i64 x0.Draft, .slice a2 n2 c2, .int .i64 x0.Light.Low, .int .i64 x0.Light.High], .int .i64 x1, .agg #[.int .i64 x2.Day, .int .i64 x2.Hour]] w0 (RetV w0 (.bool r)) := by
 have hS := Since.start hS0
 have hO : Owns G0 w0 w0.heap.size [] := Owns.nil (Nat.le_refl _)
 unfold f12 at H
 refine enter1 (N := 134) (shutV _ _) Try.func12 rfl rfl rfl rfl ?_; refine WC_seq ?_; refine WC_region ?_; refine WL_op rfl (OpP_newF (v := fun b => .pointer (some ⟨b, 0, none⟩)) (cs := [.slice a1 n1 c1, .int .i64 x0.Depth, .int .i64 x0.Draft, .slice a2 n2 c2, .int .i64 x0.Light.Low, .int .i64 x0.Light.High]) (e := 27) (rn_boxA rfl) hS.sat rfl (fun b3 G5 w4 hg hcb3 => ?_)); have hS := hS.grow hg; have hO := hO.grow hg
 have leG5 := hg.le
 refine WL_op rfl (OpP_newF (v := fun b => .pointer (some ⟨b, 0, none⟩)) (cs := [.int .i64 x2.Day, .int .i64 x2.Hour]) (e := 82) (rn_boxA rfl) hS.sat rfl (fun b6 G8 w7 hg hcb6 => ?_)); have hS := hS.grow hg; have hO := hO.grow hg
 have leG8 := hg.le
 refine WL_val (rn_assign (v := (.bool false)) rfl) rfl ?_; refine WL_nil ?_; refine WC_seq ?_; refine WC_seq ?_; refine WC_region ?_; refine WL_val (rn_loadA ag27 (cs := [.slice a1 n1 c1, .int .i64 x0.Depth, .int .i64 x0.Draft, .slice a2 n2 c2, .int .i64 x0.Light.Low, .int .i64 x0.Light.High]) rfl rfl (fun j v hj => (hS.sat.le leG8).cell (hcb3.drop_take 0 6 j v hj))) rfl ?_; obtain ⟨y9, hy9, H⟩ := bnd H
 have l0_2 := leG5.trans leG8
 refine WL_op rfl (OpP_callV cb16 (f16_ok (x0 := x0) hS.sat (h1.mono RInt_mono l0_2) (h2.mono RTSpan_mono l0_2) hy9) rfl rfl (fun w10 hb => ?_)); have hS := hS.keep hb; have hO := hO.below hb; refine WL_val (rn_not rfl) rfl ?_; refine WL_nil ?_; refine WC_cond rfl (fun hb11 => ?_) (fun hb11 => ?_)
 ·have H := ifT hb11 H; refine WC_seq ?_; refine WC_region ?_; obtain ⟨y12, hy12, H⟩ := bnd H; refine WL_op rfl (OpP_callV cb17 (f17_ok  hS.sat  hy12) rfl rfl (fun w13 hb => ?_)); have hS := hS.keep hb; have hO := hO.below hb; refine WL_val (rn_assign (v := (.bool y12)) rfl) rfl ?_; refine WL_nil ?_; refine WC_ret ?_
  have H : some y12 = some r := H
  have H := Option.some.inj H; subst H
  exact ⟨rfl, hS.below⟩
 ·have H := ifF hb11 H; refine WC_skip ?_; refine WC_seq ?_; refine WC_region ?_; refine WL_val (rn_loadA ag27 (cs := [.slice a1 n1 c1, .int .i64 x0.Depth, .int .i64 x0.Draft, .slice a2 n2 c2, .int .i64 x0.Light.Low, .int .i64 x0.Light.High]) rfl rfl (fun j v hj => (hS.sat.le leG8).cell (hcb3.drop_take 0 6 j v hj))) rfl ?_; obtain ⟨y14, hy14, H⟩ := bnd H; refine WL_op rfl (OpP_callV cb47 (f47_ok (x0 := x0) hS.sat (h1.mono RInt_mono l0_2) (h2.mono RTSpan_mono l0_2) hy14) rfl rfl (fun w15 hb => ?_)); have hS := hS.keep hb; have hO := hO.below hb; refine WL_val (rn_assign (v := (.int .i64 y14)) rfl) rfl ?_; refine WL_nil ?_; refine WC_seq ?_; refine WC_region ?_; refine WL_val (rn_loadA ag27 (cs := [.slice a1 n1 c1, .int .i64 x0.Depth, .int .i64 x0.Draft, .slice a2 n2 c2, .int .i64 x0.Light.Low, .int .i64 x0.Light.High]) rfl rfl (fun j v hj => (hS.sat.le leG8).cell (hcb3.drop_take 0 6 j v hj))) rfl ?_; refine WL_val (rn_move (v := (.int .i64 x1)) rfl) rfl ?_; obtain ⟨y16, hy16, H⟩ := bnd H; refine WL_op rfl (OpP_callG cb45 (f45_ok (x0 := x0) (x1 := x1) hS.sat (h1.mono RInt_mono l0_2) (h2.mono RTSpan_mono l0_2) hy16) rfl rfl (fun vy16 G18 w17 hg hvy16 => ?_)); obtain ⟨a19, n19, c19, a20, n20, c20, ⟨⟩, h19, h20⟩ := hvy16; have hS := hS.grow hg; have hO := hO.grow hg
  have leG18 := hg.le
  refine WL_val (rn_move (v := (.tuple #[.slice a19 n19 c19, .slice a20 n20 c20, .int .i64 y16.2.2])) rfl) rfl ?_; refine WL_val (rn_extract (v := (.slice a19 n19 c19)) rfl rfl) rfl ?_; refine WL_val (rn_extract (v := (.slice a20 n20 c20)) rfl rfl) rfl ?_; refine WL_val (rn_extract (v := (.int .i64 y16.2.2)) rfl rfl) rfl ?_; refine WL_val (rn_assign (v := (.slice a19 n19 c19)) rfl) rfl ?_; refine WL_val (rn_assign (v := (.slice a20 n20 c20)) rfl) rfl ?_; refine WL_val (rn_assign (v := (.int .i64 y16.2.2)) rfl) rfl ?_; refine WL_nil ?_; refine WC_seq ?_; refine WC_region ?_
  have l1_3 := leG8.trans leG18
  refine WL_val (rn_loadA ag27 (cs := [.slice a1 n1 c1, .int .i64 x0.Depth, .int .i64 x0.Draft, .slice a2 n2 c2, .int .i64 x0.Light.Low, .int .i64 x0.Light.High]) rfl rfl (fun j v hj => (hS.sat.le l1_3).cell (hcb3.drop_take 0 6 j v hj))) rfl ?_; refine WL_val (rn_loadA ag82 (cs := [.int .i64 x2.Day, .int .i64 x2.Hour]) rfl rfl (fun j v hj => (hS.sat.le leG18).cell (hcb6.drop_take 0 2 j v hj))) rfl ?_; obtain ⟨y21, hy21, H⟩ := bnd H
  have l0_3 := l0_2.trans leG18
  refine WL_op rfl (OpP_callV cb48 (f48_ok (x0 := x0) (x1 := x2) hS.sat (h1.mono RInt_mono l0_3) (h2.mono RTSpan_mono l0_3) hy21) rfl rfl (fun w22 hb => ?_)); have hS := hS.keep hb; have hO := hO.below hb; refine WL_val (rn_move (v := (.tuple #[.agg #[.int .i64 y21.1.Day, .int .i64 y21.1.Hour], .int .i64 y21.2])) rfl) rfl ?_; refine WL_val (rn_extract (v := (.agg #[.int .i64 y21.1.Day, .int .i64 y21.1.Hour])) rfl rfl) rfl ?_; refine WL_val (rn_extract (v := (.int .i64 y21.2)) rfl rfl) rfl ?_
  refine WL_op rfl (OpP_newO (v := fun b => .pointer (some ⟨b, 0, none⟩)) (cs := [.int .i64 0, .int .i64 0]) (e := 82) (by kernel_rfl) hS.sat hO rfl 2 1 rfl (by decide) (fun b23 w24 hb hO => ?_))
  have hS := hS.keep hb; refine WL_op rfl (OpP_store (vs := [.int .i64 y21.1.Day, .int .i64 y21.1.Hour]) sz82 hS hO (k := 0) rfl rfl rfl rfl rfl (one_all rfl) (Nat.le_of_ble_eq_true rfl) (fun w26 hS hO => ?_))
  have hO : Owns G18 w26 w0.heap.size ([⟨82, 2, 1, .slice (some ⟨b23, 0, none⟩) 1 1, [.int .i64 y21.1.Day, .int .i64 y21.1.Hour]⟩]) := hO
  obtain ⟨G27, leG27, hS, hO, hqG27, _⟩ := hO.freeze hS (k := 0) rfl
  have hcG27 : Cells G27 b23 0 [.int .i64 y21.1.Day, .int .i64 y21.1.Hour] := (hqG27 _ _ _ _ rfl)
  refine WL_val (rn_assign (v := (.int .i64 y21.2)) rfl) rfl ?_; refine WL_nil ?_; refine WC_seq ?_; refine WC_seq ?_; refine WC_region ?_
  have l1_4 := l1_3.trans leG27
  refine WL_val (rn_loadA ag27 (cs := [.slice a1 n1 c1, .int .i64 x0.Depth, .int .i64 x0.Draft, .slice a2 n2 c2, .int .i64 x0.Light.Low, .int .i64 x0.Light.High]) rfl rfl (fun j v hj => (hS.sat.le l1_4).cell (hcb3.drop_take 0 6 j v hj))) rfl ?_; obtain ⟨y28, hy28, H⟩ := bnd H
  have l0_4 := l0_3.trans leG27
  refine WL_op rfl (OpP_callV cb19 (f19_ok (x0 := x0) hS.sat (h1.mono RInt_mono l0_4) (h2.mono RTSpan_mono l0_4) hy28) rfl rfl (fun w29 hb => ?_)); have hS := hS.keep hb; have hO := hO.below hb; refine WL_val (rn_assign (v := (.bool y28)) rfl) rfl ?_; refine WL_nil ?_; refine WC_seq ?_; obtain ⟨q30, hq30, H⟩ := bnd H; refine WC_cut (fun F w => ∃ (Fb : Fr), F = upds Fb [(1, .int .i64 x1), (3, .pointer (some ⟨b3, 0, none⟩)), (5, .pointer (some ⟨b6, 0, none⟩)), (8, .slice a19 n19 c19), (9, .slice a20 n20 c20), (10, .int .i64 y16.2.2), (11, .pointer (some ⟨b23, 0, none⟩)), (12, .int .i64 y21.2), (49, .bool q30)] ∧ w29 = w) ?_ ?_
  ·have Hoq30 := H; have H := hq30; refine WC_region ?_; refine WL_val (rn_move (v := (.bool y28)) rfl) rfl ?_; refine WL_val (rn_move (v := (.bool y28)) rfl) rfl ?_
   rcases bcases y28 with hb31 | hb31
   ·have H := ifT hb31 H; refine WL_guardY rfl hb31 rfl rfl ?_; refine WL_val (rn_move (v := (.int .i64 y14)) rfl) rfl ?_; refine WL_guardY rfl hb31 rfl rfl ?_; refine WL_val (rn_neq rfl rfl) rfl ?_; refine WL_val (rn_pickT (v := (.bool (y14 != 0))) rfl hb31 rfl) rfl ?_; refine WL_val (rn_move (v := (.bool (y14 != 0))) rfl) rfl ?_
    rcases bcases (y14 != 0) with hb32 | hb32
    ·have H := ifT hb32 H; refine WL_guardN rfl hb32 rfl rfl rfl ?_; refine WL_guardN rfl hb32 rfl rfl rfl ?_; refine WL_guardN rfl hb32 rfl rfl rfl ?_; refine WL_guardU rfl rfl rfl rfl ?_; refine WL_guardU rfl rfl rfl rfl ?_; refine WL_guardN rfl hb32 rfl rfl rfl ?_; refine WL_val (rn_pickT (v := (.bool true)) rfl hb32 rfl) rfl ?_; refine WL_nil ?_; have H := Option.some.inj H; subst H
     exact ⟨_, upds_self _ _ ⟨rfl, rfl, rfl, rfl, rfl, rfl, rfl, rfl, rfl, trivial⟩, rfl⟩
    ·have H := ifF hb32 H; refine WL_guardY rfl hb32 rfl rfl ?_; refine WL_val (rn_move (v := (.bool y28)) rfl) rfl ?_; refine WL_guardY rfl hb32 rfl rfl ?_; refine WL_val (rn_not rfl) rfl ?_; refine WL_guardY rfl hb32 rfl rfl ?_; refine WL_val (rn_move (v := (.bool (!y28))) rfl) rfl ?_; refine WL_guardN rfl (notF hb31) rfl rfl rfl ?_; refine WL_guardN rfl (notF hb31) rfl rfl rfl ?_; refine WL_guardY rfl hb32 rfl rfl ?_; refine WL_val (rn_pickF (v := (.bool false)) rfl (notF hb31) rfl) rfl ?_; refine WL_val (rn_pickF (v := (.bool false)) rfl hb32 rfl) rfl ?_; refine WL_nil ?_; have H := Option.some.inj H; subst H
     exact ⟨_, upds_self _ _ ⟨rfl, rfl, rfl, rfl, rfl, rfl, rfl, rfl, rfl, trivial⟩, rfl⟩
   ·have H := ifF hb31 H; refine WL_guardN rfl hb31 rfl rfl rfl ?_; refine WL_guardN rfl hb31 rfl rfl rfl ?_; refine WL_val (rn_pickF (v := (.bool false)) rfl hb31 rfl) rfl ?_; refine WL_val (rn_move (v := (.bool false)) rfl) rfl ?_; refine WL_guardY rfl rfl rfl rfl ?_; refine WL_val (rn_move (v := (.bool y28)) rfl) rfl ?_; refine WL_guardY rfl rfl rfl rfl ?_; refine WL_val (rn_not rfl) rfl ?_; refine WL_guardY rfl rfl rfl rfl ?_; refine WL_val (rn_move (v := (.bool (!y28))) rfl) rfl ?_; refine WL_guardY rfl (notT hb31) rfl rfl ?_; refine WL_val (rn_move (v := (.int .i64 y14)) rfl) rfl ?_; refine WL_guardY rfl (notT hb31) rfl rfl ?_; refine WL_val (rn_neq rfl rfl) rfl ?_; refine WL_guardY rfl rfl rfl rfl ?_; refine WL_val (rn_pickT (v := (.bool (y14 != 2))) rfl (notT hb31) rfl) rfl ?_; refine WL_val (rn_pickF (v := (.bool (y14 != 2))) rfl rfl rfl) rfl ?_; refine WL_nil ?_; have H := Option.some.inj H; subst H
    exact ⟨_, upds_self _ _ ⟨rfl, rfl, rfl, rfl, rfl, rfl, rfl, rfl, rfl, trivial⟩, rfl⟩
  ·rintro F wl ⟨Fb, rfl, rfl⟩
   refine WC_cond rfl (fun hb35 => ?_) (fun hb35 => ?_)
   ·have H := ifT hb35 H; refine WC_seq ?_; refine WC_region ?_; refine WL_val (rn_assign (v := (.bool false)) rfl) rfl ?_; refine WL_nil ?_; refine WC_ret ?_
    have H : some false = some r := H
    have H := Option.some.inj H; subst H
    exact ⟨rfl, hS.below⟩
   ·have H := ifF hb35 H; refine WC_skip ?_; refine WC_seq ?_; obtain ⟨q36, hq36, H⟩ := bnd H; refine WC_cut (fun F w => ∃ (p37 : Unit) (Fb : Fr) (G : Gm), q36 = .inl p37 ∧ F = upds Fb [(3, .pointer (some ⟨b3, 0, none⟩)), (5, .pointer (some ⟨b6, 0, none⟩)), (11, .pointer (some ⟨b23, 0, none⟩)), (12, .int .i64 y21.2)] ∧ Gle G27 G ∧ Since w0.heap.size G0 w0 G w ∧ Owns G w w0.heap.size []) ?_ ?_
    ·have Hoq36 := H; have H := hq36; refine WC_seq ?_; obtain ⟨q38, hq38, H⟩ := bnd H; refine WC_cut (fun F w => ∃ (Fb : Fr) (G : Gm), F = upds Fb [(1, .int .i64 x1), (3, .pointer (some ⟨b3, 0, none⟩)), (5, .pointer (some ⟨b6, 0, none⟩)), (8, .slice a19 n19 c19), (9, .slice a20 n20 c20), (10, .int .i64 y16.2.2), (11, .pointer (some ⟨b23, 0, none⟩)), (12, .int .i64 y21.2), (58, .bool q38)] ∧ Gle G27 G ∧ Since w0.heap.size G0 w0 G w ∧ Owns G w w0.heap.size []) ?_ ?_
     ·have Hoq38 := H; have H := hq38; refine WC_region ?_; refine WL_val (rn_loadA ag27 (cs := [.slice a1 n1 c1, .int .i64 x0.Depth, .int .i64 x0.Draft, .slice a2 n2 c2, .int .i64 x0.Light.Low, .int .i64 x0.Light.High]) rfl rfl (fun j v hj => (hS.sat.le l1_4).cell (hcb3.drop_take 0 6 j v hj))) rfl ?_; obtain ⟨y39, hy39, H⟩ := bnd H; refine WL_op rfl (OpP_callV cb19 (f19_ok (x0 := x0) hS.sat (h1.mono RInt_mono l0_4) (h2.mono RTSpan_mono l0_4) hy39) rfl rfl (fun w40 hb => ?_)); have hS := hS.keep hb; have hO := hO.below hb; refine WL_val (rn_not rfl) rfl ?_; refine WL_val (rn_move (v := (.bool (!y39))) rfl) rfl ?_
      rcases bcases (!y39) with hb41 | hb41
      ·have H := ifT hb41 H; refine WL_guardN rfl hb41 rfl rfl rfl ?_; refine WL_guardN rfl hb41 rfl rfl rfl ?_; refine WL_guardN rfl hb41 rfl rfl rfl ?_; refine WL_guardN rfl hb41 rfl rfl rfl ?_; refine WL_val (rn_pickT (v := (.bool true)) rfl hb41 rfl) rfl ?_; refine WL_nil ?_
       have hO : Owns G27 w40 w0.heap.size ([]) := hO
       have H := Option.some.inj H; subst H
       exact ⟨_, G27, upds_self _ _ ⟨rfl, rfl, rfl, rfl, rfl, rfl, rfl, rfl, rfl, trivial⟩, Gle.refl _, hS, hO⟩
      ·have H := ifF hb41 H; refine WL_guardY rfl hb41 rfl rfl ?_; refine WL_val (rn_loadA ag27 (cs := [.slice a1 n1 c1, .int .i64 x0.Depth, .int .i64 x0.Draft, .slice a2 n2 c2, .int .i64 x0.Light.Low, .int .i64 x0.Light.High]) rfl rfl (fun j v hj => (hS.sat.le l1_4).cell (hcb3.drop_take 0 6 j v hj))) rfl ?_; refine WL_guardY rfl hb41 rfl rfl ?_; refine WL_val (rn_move (v := (.int .i64 x1)) rfl) rfl ?_; refine WL_guardY rfl hb41 rfl rfl ?_; obtain ⟨y42, hy42, H⟩ := bnd H; refine WL_op rfl (OpP_callV cb44 (f44_ok (x0 := x0) (x1 := x1) hS.sat (h1.mono RInt_mono l0_4) (h2.mono RTSpan_mono l0_4) hy42) rfl rfl (fun w43 hb => ?_)); have hS := hS.keep hb; have hO := hO.below hb; refine WL_guardY rfl hb41 rfl rfl ?_; refine WL_val (rn_not rfl) rfl ?_; refine WL_val (rn_pickF (v := (.bool (!y42))) rfl hb41 rfl) rfl ?_; refine WL_nil ?_
       have hO : Owns G27 w43 w0.heap.size ([]) := hO
       have H := Option.some.inj H; subst H
       exact ⟨_, G27, upds_self _ _ ⟨rfl, rfl, rfl, rfl, rfl, rfl, rfl, rfl, rfl, trivial⟩, Gle.refl _, hS, hO⟩
     ·rintro F w44 ⟨Fb, G45, rfl, leG45, hS, hO⟩
      refine WC_cond rfl (fun hb46 => ?_) (fun hb46 => ?_)
      ·have H := ifT hb46 H; refine WC_seq ?_; obtain ⟨q47, hq47, H⟩ := bnd H; refine WC_cut (fun F w => ∃ (Fb : Fr), F = upds Fb [(3, .pointer (some ⟨b3, 0, none⟩)), (5, .pointer (some ⟨b6, 0, none⟩)), (11, .pointer (some ⟨b23, 0, none⟩)), (12, .int .i64 y21.2), (68, .bool q47)] ∧ w44 = w) ?_ ?_
       ·have Hoq47 := H; have H := hq47; refine WC_region ?_; refine WL_val (rn_move (v := (.int .i64 y16.2.2)) rfl) rfl ?_; refine WL_val (rn_neq rfl rfl) rfl ?_; refine WL_val (rn_move (v := (.bool (y16.2.2 != 2))) rfl) rfl ?_
        rcases bcases (y16.2.2 != 2) with hb48 | hb48
        ·have H := ifT hb48 H; refine WL_guardN rfl hb48 rfl rfl rfl ?_; refine WL_guardN rfl hb48 rfl rfl rfl ?_; refine WL_guardN rfl hb48 rfl rfl rfl ?_; refine WL_guardN rfl hb48 rfl rfl rfl ?_; refine WL_guardN rfl hb48 rfl rfl rfl ?_; refine WL_guardN rfl hb48 rfl rfl rfl ?_; refine WL_val (rn_pickT (v := (.bool true)) rfl hb48 rfl) rfl ?_; refine WL_nil ?_; have H := Option.some.inj H; subst H
         exact ⟨_, upds_self _ _ ⟨rfl, rfl, rfl, rfl, rfl, trivial⟩, rfl⟩
        ·have H := ifF hb48 H; refine WL_guardY rfl hb48 rfl rfl ?_; refine WL_val (rn_move (v := (.slice a19 n19 c19)) rfl) rfl ?_; refine WL_guardY rfl hb48 rfl rfl ?_
         have l3_5 := leG27.trans leG45
         refine WL_val (rn_len sl22 rfl rfl (h19.mono RInt_mono l3_5).1) rfl ?_; refine WL_guardY rfl hb48 rfl rfl ?_; refine WL_val (rn_move (v := (.slice a20 n20 c20)) rfl) rfl ?_; refine WL_guardY rfl hb48 rfl rfl ?_; refine WL_val (rn_len sl22 rfl rfl (h20.mono RInt_mono l3_5).1) rfl ?_; refine WL_guardY rfl hb48 rfl rfl ?_; refine WL_val (rn_add rfl rfl) rfl ?_; refine WL_guardY rfl hb48 rfl rfl ?_; refine WL_val (rn_neq rfl rfl) rfl ?_; refine WL_val (rn_pickF (v := (.bool ((IntKind.i64.wrap ((y16.1.length : Int) + (y16.2.1.length : Int))) != 0))) rfl hb48 rfl) rfl ?_; refine WL_nil ?_; have H := Option.some.inj H; subst H
         exact ⟨_, upds_self _ _ ⟨rfl, rfl, rfl, rfl, rfl, trivial⟩, rfl⟩
       ·rintro F wl ⟨Fb, rfl, rfl⟩
        refine WC_cond rfl (fun hb51 => ?_) (fun hb51 => ?_)
        ·have H := ifT hb51 H; refine WC_seq ?_; refine WC_region ?_; refine WL_val (rn_assign (v := (.bool false)) rfl) rfl ?_; refine WL_nil ?_; refine WC_ret ?_; have H := Option.some.inj H; subst H; have H := Hoq36
         have H : some false = some r := H
         have H := Option.some.inj H; subst H
         exact ⟨rfl, hS.below⟩
        ·have H := ifF hb51 H; refine WC_skip ?_
         have hO : Owns G45 w44 w0.heap.size ([]) := hO
         have H := Option.some.inj H; subst H
         exact ⟨_, _, G45, rfl, upds_self _ _ ⟨rfl, rfl, rfl, rfl, trivial⟩, leG45, hS, hO⟩
      ·have H := ifF hb46 H; refine WC_seq ?_; obtain ⟨q52, hq52, H⟩ := bnd H; refine WC_cut (fun F w => ∃ (Fb : Fr) (G : Gm), F = upds Fb [(3, .pointer (some ⟨b3, 0, none⟩)), (5, .pointer (some ⟨b6, 0, none⟩)), (11, .pointer (some ⟨b23, 0, none⟩)), (12, .int .i64 y21.2), (86, .bool q52)] ∧ Gle G45 G ∧ Since w0.heap.size G0 w0 G w ∧ Owns G w w0.heap.size []) ?_ ?_
       ·have Hoq52 := H; have H := hq52; refine WC_region ?_; refine WL_val (rn_move (v := (.int .i64 y16.2.2)) rfl) rfl ?_; refine WL_val (rn_neq rfl rfl) rfl ?_; refine WL_val (rn_move (v := (.bool (y16.2.2 != 0))) rfl) rfl ?_
        rcases bcases (y16.2.2 != 0) with hb53 | hb53
        ·have H := ifT hb53 H; refine WL_guardN rfl hb53 rfl rfl rfl ?_; refine WL_guardN rfl hb53 rfl rfl rfl ?_; refine WL_guardN rfl hb53 rfl rfl rfl ?_; refine WL_guardN rfl hb53 rfl rfl rfl ?_; refine WL_guardN rfl hb53 rfl rfl rfl ?_; refine WL_guardN rfl hb53 rfl rfl rfl ?_; refine WL_val (rn_pickT (v := (.bool true)) rfl hb53 rfl) rfl ?_; refine WL_val (rn_move (v := (.bool true)) rfl) rfl ?_; refine WL_guardN rfl rfl rfl rfl rfl ?_; refine WL_guardN rfl rfl rfl rfl rfl ?_; refine WL_guardN rfl rfl rfl rfl rfl ?_; refine WL_guardN rfl rfl rfl rfl rfl ?_; refine WL_guardN rfl rfl rfl rfl rfl ?_; refine WL_guardN rfl rfl rfl rfl rfl ?_; refine WL_val (rn_pickT (v := (.bool true)) rfl rfl rfl) rfl ?_; refine WL_nil ?_
         have hO : Owns G45 w44 w0.heap.size ([]) := hO
         have H := Option.some.inj H; subst H
         exact ⟨_, G45, upds_self _ _ ⟨rfl, rfl, rfl, rfl, rfl, trivial⟩, Gle.refl _, hS, hO⟩
        ·have H := ifF hb53 H; refine WL_guardY rfl hb53 rfl rfl ?_; refine WL_val (rn_move (v := (.slice a19 n19 c19)) rfl) rfl ?_; refine WL_guardY rfl hb53 rfl rfl ?_
         have l1_5 := l1_4.trans leG45
         refine WL_val (rn_loadA ag27 (cs := [.slice a1 n1 c1, .int .i64 x0.Depth, .int .i64 x0.Draft, .slice a2 n2 c2, .int .i64 x0.Light.Low, .int .i64 x0.Light.High]) rfl rfl (fun j v hj => (hS.sat.le l1_5).cell (hcb3.drop_take 0 6 j v hj))) rfl ?_; refine WL_guardY rfl hb53 rfl rfl ?_; refine WL_val (rn_move (v := (.int .i64 x1)) rfl) rfl ?_; refine WL_guardY rfl hb53 rfl rfl ?_; obtain ⟨y54, hy54, H⟩ := bnd H
         have l0_5 := l0_4.trans leG45
         refine WL_op rfl (OpP_callG cb49 (f49_ok (x0 := x0) (x1 := x1) (x2 := true) hS.sat (h1.mono RInt_mono l0_5) (h2.mono RTSpan_mono l0_5) hy54) rfl rfl (fun vy54 G56 w55 hg hvy54 => ?_)); obtain ⟨a57, n57, c57, ⟨⟩, h57⟩ := hvy54; have hS := hS.grow hg; have hO := hO.grow hg
         have leG56 := hg.le
         refine WL_guardY rfl hb53 rfl rfl ?_; obtain ⟨y58, hy58, H⟩ := bnd H
         have l3_6 := (leG27.trans leG45).trans leG56
         refine WL_op rfl (OpP_callV cb39 (f39_ok (x0 := y16.1) (x1 := y54) hS.sat (h19.mono RInt_mono l3_6) h57 hy58) rfl rfl (fun w59 hb => ?_)); have hS := hS.keep hb; have hO := hO.below hb; refine WL_guardY rfl hb53 rfl rfl ?_; refine WL_val (rn_not rfl) rfl ?_; refine WL_val (rn_pickF (v := (.bool (!y58))) rfl hb53 rfl) rfl ?_; refine WL_val (rn_move (v := (.bool (!y58))) rfl) rfl ?_
         rcases bcases (!y58) with hb60 | hb60
         ·have H := ifT hb60 H; refine WL_guardN rfl hb60 rfl rfl rfl ?_; refine WL_guardN rfl hb60 rfl rfl rfl ?_; refine WL_guardN rfl hb60 rfl rfl rfl ?_; refine WL_guardN rfl hb60 rfl rfl rfl ?_; refine WL_guardN rfl hb60 rfl rfl rfl ?_; refine WL_guardN rfl hb60 rfl rfl rfl ?_; refine WL_val (rn_pickT (v := (.bool true)) rfl hb60 rfl) rfl ?_; refine WL_nil ?_
          have hO : Owns G56 w59 w0.heap.size ([]) := hO
          have H := Option.some.inj H; subst H
          exact ⟨_, G56, upds_self _ _ ⟨rfl, rfl, rfl, rfl, rfl, trivial⟩, leG56, hS, hO⟩
         ·have H := ifF hb60 H; refine WL_guardY rfl hb60 rfl rfl ?_; refine WL_val (rn_move (v := (.slice a20 n20 c20)) rfl) rfl ?_; refine WL_guardY rfl hb60 rfl rfl ?_
          have l1_6 := l1_5.trans leG56
          refine WL_val (rn_loadA ag27 (cs := [.slice a1 n1 c1, .int .i64 x0.Depth, .int .i64 x0.Draft, .slice a2 n2 c2, .int .i64 x0.Light.Low, .int .i64 x0.Light.High]) rfl rfl (fun j v hj => (hS.sat.le l1_6).cell (hcb3.drop_take 0 6 j v hj))) rfl ?_; refine WL_guardY rfl hb60 rfl rfl ?_; refine WL_val (rn_move (v := (.int .i64 x1)) rfl) rfl ?_; refine WL_guardY rfl hb60 rfl rfl ?_; obtain ⟨y61, hy61, H⟩ := bnd H
          have l0_6 := l0_5.trans leG56
          refine WL_op rfl (OpP_callG cb49 (f49_ok (x0 := x0) (x1 := x1) (x2 := false) hS.sat (h1.mono RInt_mono l0_6) (h2.mono RTSpan_mono l0_6) hy61) rfl rfl (fun vy61 G63 w62 hg hvy61 => ?_)); obtain ⟨a64, n64, c64, ⟨⟩, h64⟩ := hvy61; have hS := hS.grow hg; have hO := hO.grow hg
          have leG63 := hg.le
          refine WL_guardY rfl hb60 rfl rfl ?_; obtain ⟨y65, hy65, H⟩ := bnd H
          have l3_7 := l3_6.trans leG63
          refine WL_op rfl (OpP_callV cb39 (f39_ok (x0 := y16.2.1) (x1 := y61) hS.sat (h20.mono RInt_mono l3_7) h64 hy65) rfl rfl (fun w66 hb => ?_)); have hS := hS.keep hb; have hO := hO.below hb; refine WL_guardY rfl hb60 rfl rfl ?_; refine WL_val (rn_not rfl) rfl ?_; refine WL_val (rn_pickF (v := (.bool (!y65))) rfl hb60 rfl) rfl ?_; refine WL_nil ?_
          have hO : Owns G63 w66 w0.heap.size ([]) := hO
          have H := Option.some.inj H; subst H
          have l5_7 := leG56.trans leG63
          exact ⟨_, G63, upds_self _ _ ⟨rfl, rfl, rfl, rfl, rfl, trivial⟩, l5_7, hS, hO⟩
       ·rintro F w67 ⟨Fb, G68, rfl, leG68, hS, hO⟩
        refine WC_cond rfl (fun hb69 => ?_) (fun hb69 => ?_)
        ·have H := ifT hb69 H; refine WC_seq ?_; refine WC_region ?_; refine WL_val (rn_assign (v := (.bool false)) rfl) rfl ?_; refine WL_nil ?_; refine WC_ret ?_; have H := Option.some.inj H; subst H; have H := Hoq36
         have H : some false = some r := H
         have H := Option.some.inj H; subst H
         exact ⟨rfl, hS.below⟩
        ·have H := ifF hb69 H; refine WC_skip ?_
         have hO : Owns G68 w67 w0.heap.size ([]) := hO
         have H := Option.some.inj H; subst H
         have l4_6 := leG45.trans leG68
         exact ⟨_, _, G68, rfl, upds_self _ _ ⟨rfl, rfl, rfl, rfl, trivial⟩, l4_6, hS, hO⟩
    ·rintro F w70 ⟨p37, Fb, G71, rfl, rfl, leG71, hS, hO⟩
     refine WC_seq ?_; refine WC_seq ?_; obtain ⟨q72, hq72, H⟩ := bnd H; refine WC_cut (fun F w => ∃ (Fb : Fr) (G : Gm), F = upds Fb [(3, .pointer (some ⟨b3, 0, none⟩)), (5, .pointer (some ⟨b6, 0, none⟩)), (11, .pointer (some ⟨b23, 0, none⟩)), (12, .int .i64 y21.2), (95, .bool q72)] ∧ Gle G71 G ∧ Since w0.heap.size G0 w0 G w ∧ Owns G w w0.heap.size []) ?_ ?_
     ·have Hoq72 := H; have H := hq72; refine WC_region ?_
      have l1_5 := l1_4.trans leG71
      refine WL_val (rn_loadA ag27 (cs := [.slice a1 n1 c1, .int .i64 x0.Depth, .int .i64 x0.Draft, .slice a2 n2 c2, .int .i64 x0.Light.Low, .int .i64 x0.Light.High]) rfl rfl (fun j v hj => (hS.sat.le l1_5).cell (hcb3.drop_take 0 6 j v hj))) rfl ?_; obtain ⟨y73, hy73, H⟩ := bnd H
      have l0_5 := l0_4.trans leG71
      refine WL_op rfl (OpP_callV cb19 (f19_ok (x0 := x0) hS.sat (h1.mono RInt_mono l0_5) (h2.mono RTSpan_mono l0_5) hy73) rfl rfl (fun w74 hb => ?_)); have hS := hS.keep hb; have hO := hO.below hb; refine WL_val (rn_not rfl) rfl ?_; refine WL_val (rn_move (v := (.bool (!y73))) rfl) rfl ?_
      rcases bcases (!y73) with hb75 | hb75
      ·have H := ifT hb75 H; refine WL_guardN rfl hb75 rfl rfl rfl ?_; refine WL_guardN rfl hb75 rfl rfl rfl ?_; refine WL_guardN rfl hb75 rfl rfl rfl ?_; refine WL_guardN rfl hb75 rfl rfl rfl ?_; refine WL_val (rn_pickT (v := (.bool true)) rfl hb75 rfl) rfl ?_; refine WL_nil ?_
       have hO : Owns G71 w74 w0.heap.size ([]) := hO
       have H := Option.some.inj H; subst H
       exact ⟨_, G71, upds_self _ _ ⟨rfl, rfl, rfl, rfl, rfl, trivial⟩, Gle.refl _, hS, hO⟩
      ·have H := ifF hb75 H; refine WL_guardY rfl hb75 rfl rfl ?_; refine WL_val (rn_loadA ag27 (cs := [.slice a1 n1 c1, .int .i64 x0.Depth, .int .i64 x0.Draft, .slice a2 n2 c2, .int .i64 x0.Light.Low, .int .i64 x0.Light.High]) rfl rfl (fun j v hj => (hS.sat.le l1_5).cell (hcb3.drop_take 0 6 j v hj))) rfl ?_; refine WL_guardY rfl hb75 rfl rfl ?_
       have l2_5 := (leG18.trans leG27).trans leG71
       refine WL_val (rn_loadA ag82 (cs := [.int .i64 x2.Day, .int .i64 x2.Hour]) rfl rfl (fun j v hj => (hS.sat.le l2_5).cell (hcb6.drop_take 0 2 j v hj))) rfl ?_; refine WL_guardY rfl hb75 rfl rfl ?_; obtain ⟨y76, hy76, H⟩ := bnd H; refine WL_op rfl (OpP_callV cb50 (f50_ok (x0 := x0) (x1 := x2) hS.sat (h1.mono RInt_mono l0_5) (h2.mono RTSpan_mono l0_5) hy76) rfl rfl (fun w77 hb => ?_)); have hS := hS.keep hb; have hO := hO.below hb; refine WL_guardY rfl hb75 rfl rfl ?_; refine WL_val (rn_not rfl) rfl ?_; refine WL_val (rn_pickF (v := (.bool (!y76))) rfl hb75 rfl) rfl ?_; refine WL_nil ?_
       have hO : Owns G71 w77 w0.heap.size ([]) := hO
       have H := Option.some.inj H; subst H
       exact ⟨_, G71, upds_self _ _ ⟨rfl, rfl, rfl, rfl, rfl, trivial⟩, Gle.refl _, hS, hO⟩
     ·rintro F w78 ⟨Fb, G79, rfl, leG79, hS, hO⟩
      refine WC_cond rfl (fun hb80 => ?_) (fun hb80 => ?_)
      ·have H := ifT hb80 H; refine WC_seq ?_; obtain ⟨q81, hq81, H⟩ := bnd H; refine WC_cut (fun F w => ∃ (Fb : Fr) (G : Gm), F = upds Fb [(6, .bool q81)] ∧ Gle G79 G ∧ Since w0.heap.size G0 w0 G w ∧ Owns G w w0.heap.size []) ?_ ?_
       ·have Hoq81 := H; have H := hq81; refine WC_region ?_; refine WL_val (rn_move (v := (.int .i64 y21.2)) rfl) rfl ?_; refine WL_val (rn_eql rfl rfl) rfl ?_; refine WL_val (rn_move (v := (.bool (y21.2 == 2))) rfl) rfl ?_
        rcases bcases (y21.2 == 2) with hb82 | hb82
        ·have H := ifT hb82 H; refine WL_guardY rfl hb82 rfl rfl ?_
         have l4_6 := leG71.trans leG79
         refine WL_val (rn_loadA ag82 (cs := [.int .i64 y21.1.Day, .int .i64 y21.1.Hour]) rfl rfl (fun j v hj => (hS.sat.le l4_6).cell (hcG27.drop_take 0 2 j v hj))) rfl ?_; refine WL_guardY rfl hb82 rfl rfl ?_
         refine WL_val (v := (.agg #[.int .i64 0, .int .i64 0])) (by kernel_rfl) rfl ?_
         refine WL_guardY rfl hb82 rfl rfl ?_; refine WL_val (rn_eqlA (xs := [y21.1.Day, y21.1.Hour]) (ys := [0, 0]) in82 rfl rfl rfl rfl) rfl ?_; refine WL_val (rn_pickT (v := (.bool (([y21.1.Day, y21.1.Hour] : List Int) == [0, 0]))) rfl hb82 rfl) rfl ?_; refine WL_val (rn_move (v := (.bool (([y21.1.Day, y21.1.Hour] : List Int) == [0, 0]))) rfl) rfl ?_
         rcases bcases (([y21.1.Day, y21.1.Hour] : List Int) == [0, 0]) with hb83 | hb83
         ·have H := ifT hb83 H; refine WL_guardY rfl hb83 rfl rfl ?_; obtain ⟨y84, hy84, H⟩ := bnd H; refine WL_op rfl (OpP_callV cb17 (f17_ok  hS.sat  hy84) rfl rfl (fun w85 hb => ?_)); have hS := hS.keep hb; have hO := hO.below hb; refine WL_val (rn_pickT (v := (.bool y84)) rfl hb83 rfl) rfl ?_; refine WL_val (rn_assign (v := (.bool y84)) rfl) rfl ?_; refine WL_nil ?_
          have hO : Owns G79 w85 w0.heap.size ([]) := hO
          have H := Option.some.inj H; subst H
          exact ⟨_, G79, upds_self _ _ ⟨rfl, trivial⟩, Gle.refl _, hS, hO⟩
         ·have H := ifF hb83 H; refine WL_guardN rfl hb83 rfl rfl rfl ?_; refine WL_val (rn_pickF (v := (.bool false)) rfl hb83 rfl) rfl ?_; refine WL_val (rn_assign (v := (.bool false)) rfl) rfl ?_; refine WL_nil ?_
          have hO : Owns G79 w78 w0.heap.size ([]) := hO
          have H := Option.some.inj H; subst H
          exact ⟨_, G79, upds_self _ _ ⟨rfl, trivial⟩, Gle.refl _, hS, hO⟩
        ·have H := ifF hb82 H; refine WL_guardN rfl hb82 rfl rfl rfl ?_; refine WL_guardN rfl hb82 rfl rfl rfl ?_; refine WL_guardN rfl hb82 rfl rfl rfl ?_; refine WL_val (rn_pickF (v := (.bool false)) rfl hb82 rfl) rfl ?_; refine WL_val (rn_move (v := (.bool false)) rfl) rfl ?_; refine WL_guardN rfl rfl rfl rfl rfl ?_; refine WL_val (rn_pickF (v := (.bool false)) rfl rfl rfl) rfl ?_; refine WL_val (rn_assign (v := (.bool false)) rfl) rfl ?_; refine WL_nil ?_
         have hO : Owns G79 w78 w0.heap.size ([]) := hO
         have H := Option.some.inj H; subst H
         exact ⟨_, G79, upds_self _ _ ⟨rfl, trivial⟩, Gle.refl _, hS, hO⟩
       ·rintro F w86 ⟨Fb, G87, rfl, leG87, hS, hO⟩
        refine WC_ret ?_
        have H : some q81 = some r := H
        have H := Option.some.inj H; subst H
        exact ⟨rfl, hS.below⟩
      ·have H := ifF hb80 H; refine WC_skip ?_; refine WC_seq ?_; refine WC_region ?_
       have l1_6 := (l1_4.trans leG71).trans leG79
       refine WL_val (rn_loadA ag27 (cs := [.slice a1 n1 c1, .int .i64 x0.Depth, .int .i64 x0.Draft, .slice a2 n2 c2, .int .i64 x0.Light.Low, .int .i64 x0.Light.High]) rfl rfl (fun j v hj => (hS.sat.le l1_6).cell (hcb3.drop_take 0 6 j v hj))) rfl ?_
       have l2_6 := ((leG18.trans leG27).trans leG71).trans leG79
       refine WL_val (rn_loadA ag82 (cs := [.int .i64 x2.Day, .int .i64 x2.Hour]) rfl rfl (fun j v hj => (hS.sat.le l2_6).cell (hcb6.drop_take 0 2 j v hj))) rfl ?_; obtain ⟨y88, hy88, H⟩ := bnd H
       have l0_6 := (l0_4.trans leG71).trans leG79
       refine WL_op rfl (OpP_callV cb51 (f51_ok (x0 := x0) (x1 := x2) hS.sat (h1.mono RInt_mono l0_6) (h2.mono RTSpan_mono l0_6) hy88) rfl rfl (fun w89 hb => ?_)); have hS := hS.keep hb; have hO := hO.below hb; refine WL_val (rn_move (v := (.tuple #[.agg #[.int .i64 y88.1.Day, .int .i64 y88.1.Hour], .bool y88.2])) rfl) rfl ?_; refine WL_val (rn_extract (v := (.agg #[.int .i64 y88.1.Day, .int .i64 y88.1.Hour])) rfl rfl) rfl ?_; refine WL_val (rn_extract (v := (.bool y88.2)) rfl rfl) rfl ?_
       refine WL_op rfl (OpP_newO (v := fun b => .pointer (some ⟨b, 0, none⟩)) (cs := [.int .i64 0, .int .i64 0]) (e := 82) (by kernel_rfl) hS.sat hO rfl 2 1 rfl (by decide) (fun b90 w91 hb hO => ?_))
       have hS := hS.keep hb; refine WL_op rfl (OpP_store (vs := [.int .i64 y88.1.Day, .int .i64 y88.1.Hour]) sz82 hS hO (k := 0) rfl rfl rfl rfl rfl (one_all rfl) (Nat.le_of_ble_eq_true rfl) (fun w93 hS hO => ?_))
       have hO : Owns G79 w93 w0.heap.size ([⟨82, 2, 1, .slice (some ⟨b90, 0, none⟩) 1 1, [.int .i64 y88.1.Day, .int .i64 y88.1.Hour]⟩]) := hO
       obtain ⟨G94, leG94, hS, hO, hqG94, _⟩ := hO.freeze hS (k := 0) rfl
       have hcG94 : Cells G94 b90 0 [.int .i64 y88.1.Day, .int .i64 y88.1.Hour] := (hqG94 _ _ _ _ rfl)
       refine WL_val (rn_assign (v := (.bool y88.2)) rfl) rfl ?_; refine WL_nil ?_; refine WC_seq ?_; refine WC_seq ?_; refine WC_region ?_; refine WL_val (rn_move (v := (.bool y88.2)) rfl) rfl ?_; refine WL_val (rn_not rfl) rfl ?_; refine WL_nil ?_; refine WC_cond rfl (fun hb95 => ?_) (fun hb95 => ?_)
       ·have H := ifT hb95 H; refine WC_seq ?_; obtain ⟨q96, hq96, H⟩ := bnd H; refine WC_cut (fun F w => ∃ (Fb : Fr) (G : Gm), F = upds Fb [(6, .bool q96)] ∧ Gle G94 G ∧ Since w0.heap.size G0 w0 G w ∧ Owns G w w0.heap.size []) ?_ ?_
        ·have Hoq96 := H; have H := hq96; refine WC_region ?_; refine WL_val (rn_move (v := (.int .i64 y21.2)) rfl) rfl ?_; refine WL_val (rn_eql rfl rfl) rfl ?_; refine WL_val (rn_move (v := (.bool (y21.2 == 5))) rfl) rfl ?_
         rcases bcases (y21.2 == 5) with hb97 | hb97
         ·have H := ifT hb97 H; refine WL_guardY rfl hb97 rfl rfl ?_
          have l4_7 := (leG71.trans leG79).trans leG94
          refine WL_val (rn_loadA ag82 (cs := [.int .i64 y21.1.Day, .int .i64 y21.1.Hour]) rfl rfl (fun j v hj => (hS.sat.le l4_7).cell (hcG27.drop_take 0 2 j v hj))) rfl ?_; refine WL_guardY rfl hb97 rfl rfl ?_
          refine WL_val (v := (.agg #[.int .i64 0, .int .i64 0])) (by kernel_rfl) rfl ?_
          refine WL_guardY rfl hb97 rfl rfl ?_; refine WL_val (rn_eqlA (xs := [y21.1.Day, y21.1.Hour]) (ys := [0, 0]) in82 rfl rfl rfl rfl) rfl ?_; refine WL_val (rn_pickT (v := (.bool (([y21.1.Day, y21.1.Hour] : List Int) == [0, 0]))) rfl hb97 rfl) rfl ?_; refine WL_val (rn_move (v := (.bool (([y21.1.Day, y21.1.Hour] : List Int) == [0, 0]))) rfl) rfl ?_
          rcases bcases (([y21.1.Day, y21.1.Hour] : List Int) == [0, 0]) with hb98 | hb98
          ·have H := ifT hb98 H; refine WL_guardY rfl hb98 rfl rfl ?_; obtain ⟨y99, hy99, H⟩ := bnd H; refine WL_op rfl (OpP_callV cb17 (f17_ok  hS.sat  hy99) rfl rfl (fun w100 hb => ?_)); have hS := hS.keep hb; have hO := hO.below hb; refine WL_val (rn_pickT (v := (.bool y99)) rfl hb98 rfl) rfl ?_; refine WL_val (rn_assign (v := (.bool y99)) rfl) rfl ?_; refine WL_nil ?_
           have hO : Owns G94 w100 w0.heap.size ([]) := hO
           have H := Option.some.inj H; subst H
           exact ⟨_, G94, upds_self _ _ ⟨rfl, trivial⟩, Gle.refl _, hS, hO⟩
          ·have H := ifF hb98 H; refine WL_guardN rfl hb98 rfl rfl rfl ?_; refine WL_val (rn_pickF (v := (.bool false)) rfl hb98 rfl) rfl ?_; refine WL_val (rn_assign (v := (.bool false)) rfl) rfl ?_; refine WL_nil ?_
           have hO : Owns G94 w93 w0.heap.size ([]) := hO
           have H := Option.some.inj H; subst H
           exact ⟨_, G94, upds_self _ _ ⟨rfl, trivial⟩, Gle.refl _, hS, hO⟩
         ·have H := ifF hb97 H; refine WL_guardN rfl hb97 rfl rfl rfl ?_; refine WL_guardN rfl hb97 rfl rfl rfl ?_; refine WL_guardN rfl hb97 rfl rfl rfl ?_; refine WL_val (rn_pickF (v := (.bool false)) rfl hb97 rfl) rfl ?_; refine WL_val (rn_move (v := (.bool false)) rfl) rfl ?_; refine WL_guardN rfl rfl rfl rfl rfl ?_; refine WL_val (rn_pickF (v := (.bool false)) rfl rfl rfl) rfl ?_; refine WL_val (rn_assign (v := (.bool false)) rfl) rfl ?_; refine WL_nil ?_
          have hO : Owns G94 w93 w0.heap.size ([]) := hO
          have H := Option.some.inj H; subst H
          exact ⟨_, G94, upds_self _ _ ⟨rfl, trivial⟩, Gle.refl _, hS, hO⟩
        ·rintro F w101 ⟨Fb, G102, rfl, leG102, hS, hO⟩
         refine WC_ret ?_
         have H : some q96 = some r := H
         have H := Option.some.inj H; subst H
         exact ⟨rfl, hS.below⟩
       ·have H := ifF hb95 H; refine WC_skip ?_; refine WC_seq ?_; obtain ⟨q103, hq103, H⟩ := bnd H; refine WC_cut (fun F w => ∃ (Fb : Fr) (G : Gm), F = upds Fb [(6, .bool q103)] ∧ Gle G94 G ∧ Since w0.heap.size G0 w0 G w ∧ Owns G w w0.heap.size []) ?_ ?_
        ·have Hoq103 := H; have H := hq103; refine WC_region ?_; refine WL_val (rn_move (v := (.int .i64 y21.2)) rfl) rfl ?_; refine WL_val (rn_eql rfl rfl) rfl ?_; refine WL_val (rn_move (v := (.bool (y21.2 == 0))) rfl) rfl ?_
         rcases bcases (y21.2 == 0) with hb104 | hb104
         ·have H := ifT hb104 H; refine WL_guardY rfl hb104 rfl rfl ?_
          have l4_7 := (leG71.trans leG79).trans leG94
          refine WL_val (rn_loadA ag82 (cs := [.int .i64 y21.1.Day, .int .i64 y21.1.Hour]) rfl rfl (fun j v hj => (hS.sat.le l4_7).cell (hcG27.drop_take 0 2 j v hj))) rfl ?_; refine WL_guardY rfl hb104 rfl rfl ?_; refine WL_val (rn_loadA ag82 (cs := [.int .i64 y88.1.Day, .int .i64 y88.1.Hour]) rfl rfl (fun j v hj => hS.sat.cell (hcG94.drop_take 0 2 j v hj))) rfl ?_; refine WL_guardY rfl hb104 rfl rfl ?_; refine WL_val (rn_eqlA (xs := [y21.1.Day, y21.1.Hour]) (ys := [y88.1.Day, y88.1.Hour]) in82 rfl rfl rfl rfl) rfl ?_; refine WL_val (rn_pickT (v := (.bool (([y21.1.Day, y21.1.Hour] : List Int) == [y88.1.Day, y88.1.Hour]))) rfl hb104 rfl) rfl ?_; refine WL_val (rn_move (v := (.bool (([y21.1.Day, y21.1.Hour] : List Int) == [y88.1.Day, y88.1.Hour]))) rfl) rfl ?_
          rcases bcases (([y21.1.Day, y21.1.Hour] : List Int) == [y88.1.Day, y88.1.Hour]) with hb105 | hb105
          ·have H := ifT hb105 H; refine WL_guardY rfl hb105 rfl rfl ?_; obtain ⟨y106, hy106, H⟩ := bnd H; refine WL_op rfl (OpP_callV cb17 (f17_ok  hS.sat  hy106) rfl rfl (fun w107 hb => ?_)); have hS := hS.keep hb; have hO := hO.below hb; refine WL_val (rn_pickT (v := (.bool y106)) rfl hb105 rfl) rfl ?_; refine WL_val (rn_assign (v := (.bool y106)) rfl) rfl ?_; refine WL_nil ?_
           have hO : Owns G94 w107 w0.heap.size ([]) := hO
           have H := Option.some.inj H; subst H
           exact ⟨_, G94, upds_self _ _ ⟨rfl, trivial⟩, Gle.refl _, hS, hO⟩
          ·have H := ifF hb105 H; refine WL_guardN rfl hb105 rfl rfl rfl ?_; refine WL_val (rn_pickF (v := (.bool false)) rfl hb105 rfl) rfl ?_; refine WL_val (rn_assign (v := (.bool false)) rfl) rfl ?_; refine WL_nil ?_
           have hO : Owns G94 w93 w0.heap.size ([]) := hO
           have H := Option.some.inj H; subst H
           exact ⟨_, G94, upds_self _ _ ⟨rfl, trivial⟩, Gle.refl _, hS, hO⟩
         ·have H := ifF hb104 H; refine WL_guardN rfl hb104 rfl rfl rfl ?_; refine WL_guardN rfl hb104 rfl rfl rfl ?_; refine WL_guardN rfl hb104 rfl rfl rfl ?_; refine WL_val (rn_pickF (v := (.bool false)) rfl hb104 rfl) rfl ?_; refine WL_val (rn_move (v := (.bool false)) rfl) rfl ?_; refine WL_guardN rfl rfl rfl rfl rfl ?_; refine WL_val (rn_pickF (v := (.bool false)) rfl rfl rfl) rfl ?_; refine WL_val (rn_assign (v := (.bool false)) rfl) rfl ?_; refine WL_nil ?_
          have hO : Owns G94 w93 w0.heap.size ([]) := hO
          have H := Option.some.inj H; subst H
          exact ⟨_, G94, upds_self _ _ ⟨rfl, trivial⟩, Gle.refl _, hS, hO⟩
        ·rintro F w108 ⟨Fb, G109, rfl, leG109, hS, hO⟩
         refine WC_ret ?_
         have H : some q103 = some r := H
         have H := Option.some.inj H; subst H
         exact ⟨rfl, hS.below⟩
end Go.Proofs.Ytajejmbnmphngaa
