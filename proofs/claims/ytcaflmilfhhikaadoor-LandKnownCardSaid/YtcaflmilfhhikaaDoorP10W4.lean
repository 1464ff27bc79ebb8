/-
  The walks: each Go function computes its plain function (printed by a program of ours).
-/
import Derived.Test.YtcaflmilfhhikaaDoorRd
import Derived.Test.YtcaflmilfhhikaaDoorBaseQ
import Derived.Test.YtcaflmilfhhikaaDoorIt
import Derived.Test.YtcaflmilfhhikaaDoorLib
import Derived.Test.YtcaflmilfhhikaaDoorBu
import Derived.Test.YtcaflmilfhhikaaDoorP10W3
namespace Go.Proofs.YtcaflmilfhhikaaDoor
open Go.RowKit
set_option linter.unusedVariables false

set_option maxRecDepth 20000
set_option linter.unusedVariables false
set_option maxHeartbeats 1000000 in
theorem f42_ok {G0 : Gm} {w0 : World} (hS0 : Sat G0 w0) {x0 : TLandBook} {a1 : Option Addr} {n1 c1 : Nat} {a2 : Option Addr} {n2 c2 : Nat} {a3 : Option Addr} {n3 c3 : Nat} (h1 : RSl RTLandPerson 2 G0 a1 n1 c1 x0.People) (h2 : RSl RTLandEvent 2 G0 a2 n2 c2 x0.Events) (h3 : RSl RTLandMemory 4 G0 a3 n3 c3 x0.Memories) {r : Int} (H : f42 x0 = some r) :
  Calls Tryd.prog 42 #[.agg #[.slice a1 n1 c1, .slice a2 n2 c2, .slice a3 n3 c3]] w0 (RetV w0 (.int .i64 r)) := by
 have hS := Since.start hS0
 have hO : Owns G0 w0 w0.heap.size [] := Owns.nil (Nat.le_refl _)
 unfold f42 at H
 refine enter1 (N := 6) (shutV _ _) Tryd.func42 rfl rfl rfl rfl ?_; refine WC_seq ?_; refine WC_region ?_; refine WL_op rfl (OpP_newF (v := fun b => .pointer (some ⟨b, 0, none⟩)) (cs := [.slice a1 n1 c1, .slice a2 n2 c2, .slice a3 n3 c3]) (e := 26) (rn_boxA rfl) hS.sat rfl (fun b4 G6 w5 hg hcb4 => ?_)); have hS := hS.grow hg; have hO := hO.grow hg
 have leG6 := hg.le
 refine WL_val (rn_assign (v := (.int .i64 0)) rfl) rfl ?_; refine WL_nil ?_; refine WC_seq ?_; refine WC_seq ?_; refine WC_region ?_; refine WL_val (rn_loadA ag26 (cs := [.slice a1 n1 c1, .slice a2 n2 c2, .slice a3 n3 c3]) rfl rfl (fun j v hj => hS.sat.cell (hcb4.drop_take 0 3 j v hj))) rfl ?_; obtain ⟨y7, hy7, H⟩ := bnd H; refine WL_op rfl (OpP_callV cb51 (f51_ok (x0 := x0) hS.sat (h1.mono RTLandPerson_mono leG6) (h2.mono RTLandEvent_mono leG6) (h3.mono RTLandMemory_mono leG6) hy7) rfl rfl (fun w8 hb => ?_)); have hS := hS.keep hb; have hO := hO.below hb; refine WL_val (rn_not rfl) rfl ?_; refine WL_nil ?_; refine WC_cond rfl (fun hb9 => ?_) (fun hb9 => ?_)
 ·have H := ifT hb9 H; refine WC_seq ?_; refine WC_region ?_; refine WL_val (rn_assign (v := (.int .i64 2)) rfl) rfl ?_; refine WL_nil ?_; refine WC_ret ?_
  have H : some 2 = some r := H
  have H := Option.some.inj H; subst H
  exact ⟨rfl, hS.below⟩
 ·have H := ifF hb9 H; refine WC_skip ?_; refine WC_seq ?_; refine WC_region ?_; refine WL_val (rn_assign (v := (.int .i64 0)) rfl) rfl ?_; refine WL_nil ?_; refine WC_ret ?_
  have H : some 0 = some r := H
  have H := Option.some.inj H; subst H
  exact ⟨rfl, hS.below⟩
set_option maxHeartbeats 1000000 in
theorem f10_ok {G0 : Gm} {w0 : World} (hS0 : Sat G0 w0) {x0 : TLandBook} {a1 : Option Addr} {n1 c1 : Nat} {a2 : Option Addr} {n2 c2 : Nat} {a3 : Option Addr} {n3 c3 : Nat} {x1 : Int} {x2 : Int} (hT : TabG Tryd.prog G0) (h1 : RSl RTLandPerson 2 G0 a1 n1 c1 x0.People) (h2 : RSl RTLandEvent 2 G0 a2 n2 c2 x0.Events) (h3 : RSl RTLandMemory 4 G0 a3 n3 c3 x0.Memories) {r : Bool} (H : f10 x0 x1 x2 = some r) :
  Calls Tryd.prog 10 #[.agg #[.slice a1 n1 c1, .slice a2 n2 c2, .slice a3 n3 c3], .int .i64 x1, .int .i64 x2] w0 (RetV w0 (.bool r)) := by
 have hS := Since.start hS0
 have hO : Owns G0 w0 w0.heap.size [] := Owns.nil (Nat.le_refl _)
 unfold f10 at H
 refine enter1 (N := 113) (shutV _ _) Tryd.func10 rfl rfl rfl rfl ?_; refine WC_seq ?_; refine WC_region ?_; refine WL_op rfl (OpP_newF (v := fun b => .pointer (some ⟨b, 0, none⟩)) (cs := [.slice a1 n1 c1, .slice a2 n2 c2, .slice a3 n3 c3]) (e := 26) (rn_boxA rfl) hS.sat rfl (fun b4 G6 w5 hg hcb4 => ?_)); have hS := hS.grow hg; have hO := hO.grow hg
 have leG6 := hg.le
 refine WL_val (rn_assign (v := (.bool false)) rfl) rfl ?_; refine WL_nil ?_; refine WC_seq ?_; refine WC_seq ?_; refine WC_region ?_; refine WL_val (rn_loadA ag26 (cs := [.slice a1 n1 c1, .slice a2 n2 c2, .slice a3 n3 c3]) rfl rfl (fun j v hj => hS.sat.cell (hcb4.drop_take 0 3 j v hj))) rfl ?_; obtain ⟨y7, hy7, H⟩ := bnd H; refine WL_op rfl (OpP_callV cb14 (f14_ok (x0 := x0) hS.sat (h1.mono RTLandPerson_mono leG6) (h2.mono RTLandEvent_mono leG6) (h3.mono RTLandMemory_mono leG6) hy7) rfl rfl (fun w8 hb => ?_)); have hS := hS.keep hb; have hO := hO.below hb; refine WL_val (rn_not rfl) rfl ?_; refine WL_nil ?_; refine WC_cond rfl (fun hb9 => ?_) (fun hb9 => ?_)
 ·have H := ifT hb9 H; refine WC_seq ?_; refine WC_region ?_; obtain ⟨y10, hy10, H⟩ := bnd H; refine WL_op rfl (OpP_callV cb15 (f15_ok  hS.sat (hT.mono leG6)  hy10) rfl rfl (fun w11 hb => ?_)); have hS := hS.keep hb; have hO := hO.below hb; refine WL_val (rn_assign (v := (.bool y10)) rfl) rfl ?_; refine WL_nil ?_; refine WC_ret ?_
  have H : some y10 = some r := H
  have H := Option.some.inj H; subst H
  exact ⟨rfl, hS.below⟩
 ·have H := ifF hb9 H; refine WC_skip ?_; refine WC_seq ?_; refine WC_region ?_; refine WL_val (rn_loadA ag26 (cs := [.slice a1 n1 c1, .slice a2 n2 c2, .slice a3 n3 c3]) rfl rfl (fun j v hj => hS.sat.cell (hcb4.drop_take 0 3 j v hj))) rfl ?_; obtain ⟨y12, hy12, H⟩ := bnd H; refine WL_op rfl (OpP_callV cb42 (f42_ok (x0 := x0) hS.sat (h1.mono RTLandPerson_mono leG6) (h2.mono RTLandEvent_mono leG6) (h3.mono RTLandMemory_mono leG6) hy12) rfl rfl (fun w13 hb => ?_)); have hS := hS.keep hb; have hO := hO.below hb; refine WL_val (rn_assign (v := (.int .i64 y12)) rfl) rfl ?_; refine WL_nil ?_; refine WC_seq ?_; refine WC_region ?_; refine WL_val (rn_loadA ag26 (cs := [.slice a1 n1 c1, .slice a2 n2 c2, .slice a3 n3 c3]) rfl rfl (fun j v hj => hS.sat.cell (hcb4.drop_take 0 3 j v hj))) rfl ?_; obtain ⟨y14, hy14, H⟩ := bnd H; refine WL_op rfl (OpP_callG cb34 (f34_ok (x0 := x0) hS.sat (h1.mono RTLandPerson_mono leG6) (h2.mono RTLandEvent_mono leG6) (h3.mono RTLandMemory_mono leG6) hy14) rfl rfl (fun vy14 G16 w15 hg hvy14 => ?_)); obtain ⟨a17, n17, c17, ⟨⟩, h17⟩ := hvy14; have hS := hS.grow hg; have hO := hO.grow hg
  have leG16 := hg.le
  refine WL_val (rn_move (v := (.tuple #[.slice a17 n17 c17, .int .i64 y14.2])) rfl) rfl ?_; refine WL_val (rn_extract (v := (.slice a17 n17 c17)) rfl rfl) rfl ?_; refine WL_val (rn_extract (v := (.int .i64 y14.2)) rfl rfl) rfl ?_; refine WL_val (rn_assign (v := (.slice a17 n17 c17)) rfl) rfl ?_; refine WL_val (rn_assign (v := (.int .i64 y14.2)) rfl) rfl ?_; refine WL_nil ?_; refine WC_seq ?_; refine WC_region ?_; refine WL_val (rn_loadA ag26 (cs := [.slice a1 n1 c1, .slice a2 n2 c2, .slice a3 n3 c3]) rfl rfl (fun j v hj => (hS.sat.le leG16).cell (hcb4.drop_take 0 3 j v hj))) rfl ?_; refine WL_val (rn_move (v := (.int .i64 x1)) rfl) rfl ?_; refine WL_val (rn_move (v := (.int .i64 x2)) rfl) rfl ?_; obtain ⟨y18, hy18, H⟩ := bnd H
  have l0_2 := leG6.trans leG16
  refine WL_op rfl (OpP_callV cb43 (f43_ok (x0 := x0) (x1 := x1) (x2 := x2) hS.sat (h1.mono RTLandPerson_mono l0_2) (h2.mono RTLandEvent_mono l0_2) (h3.mono RTLandMemory_mono l0_2) hy18) rfl rfl (fun w19 hb => ?_)); have hS := hS.keep hb; have hO := hO.below hb; refine WL_val (rn_move (v := (.tuple #[.agg #[.int .i64 y18.1.Low, .int .i64 y18.1.High], .int .i64 y18.2])) rfl) rfl ?_; refine WL_val (rn_extract (v := (.agg #[.int .i64 y18.1.Low, .int .i64 y18.1.High])) rfl rfl) rfl ?_; refine WL_val (rn_extract (v := (.int .i64 y18.2)) rfl rfl) rfl ?_
  refine WL_op rfl (OpP_newO (v := fun b => .pointer (some ⟨b, 0, none⟩)) (cs := [.int .i64 0, .int .i64 0]) (e := 44) (by kernel_rfl) hS.sat hO rfl 2 1 rfl (by decide) (fun b20 w21 hb hO => ?_))
  have hS := hS.keep hb; refine WL_op rfl (OpP_store (vs := [.int .i64 y18.1.Low, .int .i64 y18.1.High]) sz44 hS hO (k := 0) rfl rfl rfl rfl rfl (one_all rfl) (Nat.le_of_ble_eq_true rfl) (fun w23 hS hO => ?_))
  have hO : Owns G16 w23 w0.heap.size ([⟨44, 2, 1, .slice (some ⟨b20, 0, none⟩) 1 1, [.int .i64 y18.1.Low, .int .i64 y18.1.High]⟩]) := hO
  obtain ⟨G24, leG24, hS, hO, hqG24, _⟩ := hO.freeze hS (k := 0) rfl
  have hcG24 : Cells G24 b20 0 [.int .i64 y18.1.Low, .int .i64 y18.1.High] := (hqG24 _ _ _ _ rfl)
  refine WL_val (rn_assign (v := (.int .i64 y18.2)) rfl) rfl ?_; refine WL_nil ?_; refine WC_seq ?_; refine WC_seq ?_; refine WC_region ?_
  have l1_3 := leG16.trans leG24
  refine WL_val (rn_loadA ag26 (cs := [.slice a1 n1 c1, .slice a2 n2 c2, .slice a3 n3 c3]) rfl rfl (fun j v hj => (hS.sat.le l1_3).cell (hcb4.drop_take 0 3 j v hj))) rfl ?_; obtain ⟨y25, hy25, H⟩ := bnd H
  have l0_3 := l0_2.trans leG24
  refine WL_op rfl (OpP_callV cb18 (f18_ok (x0 := x0) hS.sat (h1.mono RTLandPerson_mono l0_3) (h2.mono RTLandEvent_mono l0_3) (h3.mono RTLandMemory_mono l0_3) hy25) rfl rfl (fun w26 hb => ?_)); have hS := hS.keep hb; have hO := hO.below hb; refine WL_val (rn_assign (v := (.bool y25)) rfl) rfl ?_; refine WL_nil ?_; refine WC_seq ?_; obtain ⟨q27, hq27, H⟩ := bnd H; refine WC_cut (fun F w => ∃ (Fb : Fr), F = upds Fb [(1, .int .i64 x1), (2, .int .i64 x2), (3, .pointer (some ⟨b4, 0, none⟩)), (8, .slice a17 n17 c17), (9, .int .i64 y14.2), (10, .pointer (some ⟨b20, 0, none⟩)), (11, .int .i64 y18.2), (47, .bool q27)] ∧ w26 = w) ?_ ?_
  ·have Hoq27 := H; have H := hq27; refine WC_region ?_; refine WL_val (rn_move (v := (.bool y25)) rfl) rfl ?_; refine WL_val (rn_move (v := (.bool y25)) rfl) rfl ?_
   rcases bcases y25 with hb28 | hb28
   ·have H := ifT hb28 H; refine WL_guardY rfl hb28 rfl rfl ?_; refine WL_val (rn_move (v := (.int .i64 y12)) rfl) rfl ?_; refine WL_guardY rfl hb28 rfl rfl ?_; refine WL_val (rn_neq rfl rfl) rfl ?_; refine WL_val (rn_pickT (v := (.bool (y12 != 0))) rfl hb28 rfl) rfl ?_; refine WL_val (rn_move (v := (.bool (y12 != 0))) rfl) rfl ?_
    rcases bcases (y12 != 0) with hb29 | hb29
    ·have H := ifT hb29 H; refine WL_guardN rfl hb29 rfl rfl rfl ?_; refine WL_guardN rfl hb29 rfl rfl rfl ?_; refine WL_guardN rfl hb29 rfl rfl rfl ?_; refine WL_guardU rfl rfl rfl rfl ?_; refine WL_guardU rfl rfl rfl rfl ?_; refine WL_guardN rfl hb29 rfl rfl rfl ?_; refine WL_val (rn_pickT (v := (.bool true)) rfl hb29 rfl) rfl ?_; refine WL_nil ?_; have H := Option.some.inj H; subst H
     exact ⟨_, upds_self _ _ ⟨rfl, rfl, rfl, rfl, rfl, rfl, rfl, rfl, trivial⟩, rfl⟩
    ·have H := ifF hb29 H; refine WL_guardY rfl hb29 rfl rfl ?_; refine WL_val (rn_move (v := (.bool y25)) rfl) rfl ?_; refine WL_guardY rfl hb29 rfl rfl ?_; refine WL_val (rn_not rfl) rfl ?_; refine WL_guardY rfl hb29 rfl rfl ?_; refine WL_val (rn_move (v := (.bool (!y25))) rfl) rfl ?_; refine WL_guardN rfl (notF hb28) rfl rfl rfl ?_; refine WL_guardN rfl (notF hb28) rfl rfl rfl ?_; refine WL_guardY rfl hb29 rfl rfl ?_; refine WL_val (rn_pickF (v := (.bool false)) rfl (notF hb28) rfl) rfl ?_; refine WL_val (rn_pickF (v := (.bool false)) rfl hb29 rfl) rfl ?_; refine WL_nil ?_; have H := Option.some.inj H; subst H
     exact ⟨_, upds_self _ _ ⟨rfl, rfl, rfl, rfl, rfl, rfl, rfl, rfl, trivial⟩, rfl⟩
   ·have H := ifF hb28 H; refine WL_guardN rfl hb28 rfl rfl rfl ?_; refine WL_guardN rfl hb28 rfl rfl rfl ?_; refine WL_val (rn_pickF (v := (.bool false)) rfl hb28 rfl) rfl ?_; refine WL_val (rn_move (v := (.bool false)) rfl) rfl ?_; refine WL_guardY rfl rfl rfl rfl ?_; refine WL_val (rn_move (v := (.bool y25)) rfl) rfl ?_; refine WL_guardY rfl rfl rfl rfl ?_; refine WL_val (rn_not rfl) rfl ?_; refine WL_guardY rfl rfl rfl rfl ?_; refine WL_val (rn_move (v := (.bool (!y25))) rfl) rfl ?_; refine WL_guardY rfl (notT hb28) rfl rfl ?_; refine WL_val (rn_move (v := (.int .i64 y12)) rfl) rfl ?_; refine WL_guardY rfl (notT hb28) rfl rfl ?_; refine WL_val (rn_neq rfl rfl) rfl ?_; refine WL_guardY rfl rfl rfl rfl ?_; refine WL_val (rn_pickT (v := (.bool (y12 != 2))) rfl (notT hb28) rfl) rfl ?_; refine WL_val (rn_pickF (v := (.bool (y12 != 2))) rfl rfl rfl) rfl ?_; refine WL_nil ?_; have H := Option.some.inj H; subst H
    exact ⟨_, upds_self _ _ ⟨rfl, rfl, rfl, rfl, rfl, rfl, rfl, rfl, trivial⟩, rfl⟩
  ·rintro F wl ⟨Fb, rfl, rfl⟩
   refine WC_cond rfl (fun hb32 => ?_) (fun hb32 => ?_)
   ·have H := ifT hb32 H; refine WC_seq ?_; refine WC_region ?_; refine WL_val (rn_assign (v := (.bool false)) rfl) rfl ?_; refine WL_nil ?_; refine WC_ret ?_
    have H : some false = some r := H
    have H := Option.some.inj H; subst H
    exact ⟨rfl, hS.below⟩
   ·have H := ifF hb32 H; refine WC_skip ?_; refine WC_seq ?_; refine WC_seq ?_; refine WC_region ?_; refine WL_val (rn_loadA ag26 (cs := [.slice a1 n1 c1, .slice a2 n2 c2, .slice a3 n3 c3]) rfl rfl (fun j v hj => (hS.sat.le l1_3).cell (hcb4.drop_take 0 3 j v hj))) rfl ?_; obtain ⟨y33, hy33, H⟩ := bnd H; refine WL_op rfl (OpP_callV cb31 (f31_ok (x0 := x0) (x1 := true) hS.sat (h1.mono RTLandPerson_mono l0_3) (h2.mono RTLandEvent_mono l0_3) (h3.mono RTLandMemory_mono l0_3) hy33) rfl rfl (fun w34 hb => ?_)); have hS := hS.keep hb; have hO := hO.below hb; refine WL_val (rn_assign (v := (.int .i64 y33)) rfl) rfl ?_; refine WL_nil ?_; refine WC_seq ?_; obtain ⟨q35, hq35, H⟩ := bnd H; refine WC_cut (fun F w => ∃ (Fb : Fr) (G : Gm), F = upds Fb [(1, .int .i64 x1), (2, .int .i64 x2), (3, .pointer (some ⟨b4, 0, none⟩)), (10, .pointer (some ⟨b20, 0, none⟩)), (11, .int .i64 y18.2), (76, .bool q35)] ∧ Gle G24 G ∧ Since w0.heap.size G0 w0 G w ∧ Owns G w w0.heap.size []) ?_ ?_
    ·have Hoq35 := H; have H := hq35; refine WC_region ?_; refine WL_val (rn_move (v := (.int .i64 y33)) rfl) rfl ?_; refine WL_val (rn_neq rfl rfl) rfl ?_; refine WL_val (rn_move (v := (.bool (y33 != 0))) rfl) rfl ?_
     rcases bcases (y33 != 0) with hb36 | hb36
     ·have H := ifT hb36 H; refine WL_guardY rfl hb36 rfl rfl ?_; refine WL_val (rn_move (v := (.int .i64 y14.2)) rfl) rfl ?_; refine WL_guardY rfl hb36 rfl rfl ?_; refine WL_val (rn_move (v := (.int .i64 y33)) rfl) rfl ?_; refine WL_guardY rfl hb36 rfl rfl ?_; refine WL_val (rn_neq rfl rfl) rfl ?_; refine WL_guardY rfl hb36 rfl rfl ?_; refine WL_val (rn_move (v := (.bool (y14.2 != y33))) rfl) rfl ?_
      rcases bcases (y14.2 != y33) with hb37 | hb37
      ·have H := ifT hb37 H; refine WL_guardN rfl hb37 rfl rfl rfl ?_; refine WL_guardN rfl hb37 rfl rfl rfl ?_; refine WL_guardN rfl hb37 rfl rfl rfl ?_; refine WL_guardY rfl hb36 rfl rfl ?_; refine WL_val (rn_pickT (v := (.bool true)) rfl hb37 rfl) rfl ?_; refine WL_val (rn_pickT (v := (.bool true)) rfl hb36 rfl) rfl ?_; refine WL_val (rn_move (v := (.bool true)) rfl) rfl ?_; refine WL_guardN rfl rfl rfl rfl rfl ?_; refine WL_guardN rfl rfl rfl rfl rfl ?_; refine WL_guardN rfl rfl rfl rfl rfl ?_; refine WL_guardU rfl rfl rfl rfl ?_; refine WL_guardU rfl rfl rfl rfl ?_; refine WL_guardU rfl rfl rfl rfl ?_; refine WL_guardU rfl rfl rfl rfl ?_; refine WL_guardU rfl rfl rfl rfl ?_; refine WL_guardU rfl rfl rfl rfl ?_; refine WL_guardU rfl rfl rfl rfl ?_; refine WL_guardU rfl rfl rfl rfl ?_; refine WL_guardU rfl rfl rfl rfl ?_; refine WL_guardN rfl rfl rfl rfl rfl ?_; refine WL_val (rn_pickT (v := (.bool true)) rfl rfl rfl) rfl ?_; refine WL_nil ?_
       have hO : Owns G24 w34 w0.heap.size ([]) := hO
       have H := Option.some.inj H; subst H
       exact ⟨_, G24, upds_self _ _ ⟨rfl, rfl, rfl, rfl, rfl, rfl, trivial⟩, Gle.refl _, hS, hO⟩
      ·have H := ifF hb37 H; refine WL_guardY rfl hb37 rfl rfl ?_; refine WL_val (rn_move (v := (.slice a17 n17 c17)) rfl) rfl ?_; refine WL_guardY rfl hb37 rfl rfl ?_; refine WL_val (rn_len sl47 rfl rfl (h17.mono RTSpan_mono leG24).1) rfl ?_; refine WL_guardY rfl hb37 rfl rfl ?_; refine WL_val (rn_neq rfl rfl) rfl ?_; refine WL_guardY rfl hb36 rfl rfl ?_; refine WL_val (rn_pickF (v := (.bool ((y14.1.length : Int) != 0))) rfl hb37 rfl) rfl ?_; refine WL_val (rn_pickT (v := (.bool ((y14.1.length : Int) != 0))) rfl hb36 rfl) rfl ?_; refine WL_val (rn_move (v := (.bool ((y14.1.length : Int) != 0))) rfl) rfl ?_
       rcases bcases ((y14.1.length : Int) != 0) with hb38 | hb38
       ·have H := ifT hb38 H; refine WL_guardN rfl hb38 rfl rfl rfl ?_; refine WL_guardN rfl hb38 rfl rfl rfl ?_; refine WL_guardN rfl hb38 rfl rfl rfl ?_; refine WL_guardU rfl rfl rfl rfl ?_; refine WL_guardU rfl rfl rfl rfl ?_; refine WL_guardU rfl rfl rfl rfl ?_; refine WL_guardU rfl rfl rfl rfl ?_; refine WL_guardU rfl rfl rfl rfl ?_; refine WL_guardU rfl rfl rfl rfl ?_; refine WL_guardU rfl rfl rfl rfl ?_; refine WL_guardU rfl rfl rfl rfl ?_; refine WL_guardU rfl rfl rfl rfl ?_; refine WL_guardN rfl hb38 rfl rfl rfl ?_; refine WL_val (rn_pickT (v := (.bool true)) rfl hb38 rfl) rfl ?_; refine WL_nil ?_
        have hO : Owns G24 w34 w0.heap.size ([]) := hO
        have H := Option.some.inj H; subst H
        exact ⟨_, G24, upds_self _ _ ⟨rfl, rfl, rfl, rfl, rfl, rfl, trivial⟩, Gle.refl _, hS, hO⟩
       ·have H := ifF hb38 H; refine WL_guardY rfl hb38 rfl rfl ?_; refine WL_val (rn_move (v := (.int .i64 y33)) rfl) rfl ?_; refine WL_guardY rfl hb38 rfl rfl ?_; refine WL_val (rn_eql rfl rfl) rfl ?_; refine WL_guardY rfl hb38 rfl rfl ?_; refine WL_val (rn_move (v := (.bool (y33 == 0))) rfl) rfl ?_
        rcases bcases (y33 == 0) with hb39 | hb39
        ·have H := ifT hb39 H; refine WL_guardY rfl hb39 rfl rfl ?_; refine WL_val (rn_move (v := (.int .i64 y14.2)) rfl) rfl ?_; refine WL_guardY rfl hb39 rfl rfl ?_; refine WL_val (rn_neq rfl rfl) rfl ?_; refine WL_guardY rfl hb39 rfl rfl ?_; refine WL_val (rn_move (v := (.bool (y14.2 != 0))) rfl) rfl ?_
         rcases bcases (y14.2 != 0) with hb40 | hb40
         ·have H := ifT hb40 H; refine WL_guardN rfl hb40 rfl rfl rfl ?_; refine WL_guardN rfl hb40 rfl rfl rfl ?_; refine WL_guardN rfl hb40 rfl rfl rfl ?_; refine WL_guardN rfl hb40 rfl rfl rfl ?_; refine WL_guardN rfl hb40 rfl rfl rfl ?_; refine WL_guardY rfl hb39 rfl rfl ?_; refine WL_val (rn_pickT (v := (.bool true)) rfl hb40 rfl) rfl ?_; refine WL_guardY rfl hb38 rfl rfl ?_; refine WL_val (rn_pickT (v := (.bool true)) rfl hb39 rfl) rfl ?_; refine WL_val (rn_pickF (v := (.bool true)) rfl hb38 rfl) rfl ?_; refine WL_nil ?_
          have hO : Owns G24 w34 w0.heap.size ([]) := hO
          have H := Option.some.inj H; subst H
          exact ⟨_, G24, upds_self _ _ ⟨rfl, rfl, rfl, rfl, rfl, rfl, trivial⟩, Gle.refl _, hS, hO⟩
         ·have H := ifF hb40 H; refine WL_guardY rfl hb40 rfl rfl ?_; refine WL_val (rn_move (v := (.slice a17 n17 c17)) rfl) rfl ?_; refine WL_guardY rfl hb40 rfl rfl ?_; refine WL_val (rn_loadA ag26 (cs := [.slice a1 n1 c1, .slice a2 n2 c2, .slice a3 n3 c3]) rfl rfl (fun j v hj => (hS.sat.le l1_3).cell (hcb4.drop_take 0 3 j v hj))) rfl ?_; refine WL_guardY rfl hb40 rfl rfl ?_; obtain ⟨y41, hy41, H⟩ := bnd H; refine WL_op rfl (OpP_callG cb44 (f44_ok (x0 := x0) hS.sat (h1.mono RTLandPerson_mono l0_3) (h2.mono RTLandEvent_mono l0_3) (h3.mono RTLandMemory_mono l0_3) hy41) rfl rfl (fun vy41 G43 w42 hg hvy41 => ?_)); obtain ⟨a44, n44, c44, ⟨⟩, h44⟩ := hvy41; have hS := hS.grow hg; have hO := hO.grow hg
          have leG43 := hg.le
          refine WL_guardY rfl hb40 rfl rfl ?_; obtain ⟨y45, hy45, H⟩ := bnd H
          have l2_4 := leG24.trans leG43
          refine WL_op rfl (OpP_callV cb36 (f36_ok (x0 := y14.1) (x1 := y41) hS.sat (h17.mono RTSpan_mono l2_4) h44 hy45) rfl rfl (fun w46 hb => ?_)); have hS := hS.keep hb; have hO := hO.below hb; refine WL_guardY rfl hb40 rfl rfl ?_; refine WL_val (rn_not rfl) rfl ?_; refine WL_guardY rfl hb39 rfl rfl ?_; refine WL_val (rn_pickF (v := (.bool (!y45))) rfl hb40 rfl) rfl ?_; refine WL_guardY rfl hb38 rfl rfl ?_; refine WL_val (rn_pickT (v := (.bool (!y45))) rfl hb39 rfl) rfl ?_; refine WL_val (rn_pickF (v := (.bool (!y45))) rfl hb38 rfl) rfl ?_; refine WL_nil ?_
          have hO : Owns G43 w46 w0.heap.size ([]) := hO
          have H := Option.some.inj H; subst H
          exact ⟨_, G43, upds_self _ _ ⟨rfl, rfl, rfl, rfl, rfl, rfl, trivial⟩, leG43, hS, hO⟩
        ·have H := ifF hb39 H; refine WL_guardN rfl hb39 rfl rfl rfl ?_; refine WL_guardN rfl hb39 rfl rfl rfl ?_; refine WL_guardN rfl hb39 rfl rfl rfl ?_; refine WL_guardU rfl rfl rfl rfl ?_; refine WL_guardU rfl rfl rfl rfl ?_; refine WL_guardU rfl rfl rfl rfl ?_; refine WL_guardU rfl rfl rfl rfl ?_; refine WL_guardU rfl rfl rfl rfl ?_; refine WL_guardN rfl hb39 rfl rfl rfl ?_; refine WL_guardY rfl hb38 rfl rfl ?_; refine WL_val (rn_pickF (v := (.bool false)) rfl hb39 rfl) rfl ?_; refine WL_val (rn_pickF (v := (.bool false)) rfl hb38 rfl) rfl ?_; refine WL_nil ?_
         have hO : Owns G24 w34 w0.heap.size ([]) := hO
         have H := Option.some.inj H; subst H
         exact ⟨_, G24, upds_self _ _ ⟨rfl, rfl, rfl, rfl, rfl, rfl, trivial⟩, Gle.refl _, hS, hO⟩
     ·have H := ifF hb36 H; refine WL_guardN rfl hb36 rfl rfl rfl ?_; refine WL_guardN rfl hb36 rfl rfl rfl ?_; refine WL_guardN rfl hb36 rfl rfl rfl ?_; refine WL_guardN rfl hb36 rfl rfl rfl ?_; refine WL_guardU rfl rfl rfl rfl ?_; refine WL_guardU rfl rfl rfl rfl ?_; refine WL_guardU rfl rfl rfl rfl ?_; refine WL_guardN rfl hb36 rfl rfl rfl ?_; refine WL_val (rn_pickF (v := (.bool false)) rfl hb36 rfl) rfl ?_; refine WL_val (rn_move (v := (.bool false)) rfl) rfl ?_; refine WL_guardY rfl rfl rfl rfl ?_; refine WL_val (rn_move (v := (.int .i64 y33)) rfl) rfl ?_; refine WL_guardY rfl rfl rfl rfl ?_; refine WL_val (rn_eql rfl rfl) rfl ?_; refine WL_guardY rfl rfl rfl rfl ?_; refine WL_val (rn_move (v := (.bool (y33 == 0))) rfl) rfl ?_
      rcases bcases (y33 == 0) with hb47 | hb47
      ·have H := ifT hb47 H; refine WL_guardY rfl hb47 rfl rfl ?_; refine WL_val (rn_move (v := (.int .i64 y14.2)) rfl) rfl ?_; refine WL_guardY rfl hb47 rfl rfl ?_; refine WL_val (rn_neq rfl rfl) rfl ?_; refine WL_guardY rfl hb47 rfl rfl ?_; refine WL_val (rn_move (v := (.bool (y14.2 != 0))) rfl) rfl ?_
       rcases bcases (y14.2 != 0) with hb48 | hb48
       ·have H := ifT hb48 H; refine WL_guardN rfl hb48 rfl rfl rfl ?_; refine WL_guardN rfl hb48 rfl rfl rfl ?_; refine WL_guardN rfl hb48 rfl rfl rfl ?_; refine WL_guardN rfl hb48 rfl rfl rfl ?_; refine WL_guardN rfl hb48 rfl rfl rfl ?_; refine WL_guardY rfl hb47 rfl rfl ?_; refine WL_val (rn_pickT (v := (.bool true)) rfl hb48 rfl) rfl ?_; refine WL_guardY rfl rfl rfl rfl ?_; refine WL_val (rn_pickT (v := (.bool true)) rfl hb47 rfl) rfl ?_; refine WL_val (rn_pickF (v := (.bool true)) rfl rfl rfl) rfl ?_; refine WL_nil ?_
        have hO : Owns G24 w34 w0.heap.size ([]) := hO
        have H := Option.some.inj H; subst H
        exact ⟨_, G24, upds_self _ _ ⟨rfl, rfl, rfl, rfl, rfl, rfl, trivial⟩, Gle.refl _, hS, hO⟩
       ·have H := ifF hb48 H; refine WL_guardY rfl hb48 rfl rfl ?_; refine WL_val (rn_move (v := (.slice a17 n17 c17)) rfl) rfl ?_; refine WL_guardY rfl hb48 rfl rfl ?_; refine WL_val (rn_loadA ag26 (cs := [.slice a1 n1 c1, .slice a2 n2 c2, .slice a3 n3 c3]) rfl rfl (fun j v hj => (hS.sat.le l1_3).cell (hcb4.drop_take 0 3 j v hj))) rfl ?_; refine WL_guardY rfl hb48 rfl rfl ?_; obtain ⟨y49, hy49, H⟩ := bnd H; refine WL_op rfl (OpP_callG cb44 (f44_ok (x0 := x0) hS.sat (h1.mono RTLandPerson_mono l0_3) (h2.mono RTLandEvent_mono l0_3) (h3.mono RTLandMemory_mono l0_3) hy49) rfl rfl (fun vy49 G51 w50 hg hvy49 => ?_)); obtain ⟨a52, n52, c52, ⟨⟩, h52⟩ := hvy49; have hS := hS.grow hg; have hO := hO.grow hg
        have leG51 := hg.le
        refine WL_guardY rfl hb48 rfl rfl ?_; obtain ⟨y53, hy53, H⟩ := bnd H
        have l2_4 := leG24.trans leG51
        refine WL_op rfl (OpP_callV cb36 (f36_ok (x0 := y14.1) (x1 := y49) hS.sat (h17.mono RTSpan_mono l2_4) h52 hy53) rfl rfl (fun w54 hb => ?_)); have hS := hS.keep hb; have hO := hO.below hb; refine WL_guardY rfl hb48 rfl rfl ?_; refine WL_val (rn_not rfl) rfl ?_; refine WL_guardY rfl hb47 rfl rfl ?_; refine WL_val (rn_pickF (v := (.bool (!y53))) rfl hb48 rfl) rfl ?_; refine WL_guardY rfl rfl rfl rfl ?_; refine WL_val (rn_pickT (v := (.bool (!y53))) rfl hb47 rfl) rfl ?_; refine WL_val (rn_pickF (v := (.bool (!y53))) rfl rfl rfl) rfl ?_; refine WL_nil ?_
        have hO : Owns G51 w54 w0.heap.size ([]) := hO
        have H := Option.some.inj H; subst H
        exact ⟨_, G51, upds_self _ _ ⟨rfl, rfl, rfl, rfl, rfl, rfl, trivial⟩, leG51, hS, hO⟩
      ·have H := ifF hb47 H; refine WL_guardN rfl hb47 rfl rfl rfl ?_; refine WL_guardN rfl hb47 rfl rfl rfl ?_; refine WL_guardN rfl hb47 rfl rfl rfl ?_; refine WL_guardU rfl rfl rfl rfl ?_; refine WL_guardU rfl rfl rfl rfl ?_; refine WL_guardU rfl rfl rfl rfl ?_; refine WL_guardU rfl rfl rfl rfl ?_; refine WL_guardU rfl rfl rfl rfl ?_; refine WL_guardN rfl hb47 rfl rfl rfl ?_; refine WL_guardY rfl rfl rfl rfl ?_; refine WL_val (rn_pickF (v := (.bool false)) rfl hb47 rfl) rfl ?_; refine WL_val (rn_pickF (v := (.bool false)) rfl rfl rfl) rfl ?_; refine WL_nil ?_
       have hO : Owns G24 w34 w0.heap.size ([]) := hO
       have H := Option.some.inj H; subst H
       exact ⟨_, G24, upds_self _ _ ⟨rfl, rfl, rfl, rfl, rfl, rfl, trivial⟩, Gle.refl _, hS, hO⟩
    ·rintro F w55 ⟨Fb, G56, rfl, leG56, hS, hO⟩
     refine WC_cond rfl (fun hb57 => ?_) (fun hb57 => ?_)
     ·have H := ifT hb57 H; refine WC_seq ?_; refine WC_region ?_; refine WL_val (rn_assign (v := (.bool false)) rfl) rfl ?_; refine WL_nil ?_; refine WC_ret ?_
      have H : some false = some r := H
      have H := Option.some.inj H; subst H
      exact ⟨rfl, hS.below⟩
     ·have H := ifF hb57 H; refine WC_skip ?_; refine WC_seq ?_; refine WC_seq ?_; obtain ⟨q58, hq58, H⟩ := bnd H; refine WC_cut (fun F w => ∃ (Fb : Fr) (G : Gm), F = upds Fb [(1, .int .i64 x1), (2, .int .i64 x2), (3, .pointer (some ⟨b4, 0, none⟩)), (10, .pointer (some ⟨b20, 0, none⟩)), (11, .int .i64 y18.2), (14, .int .i64 q58)] ∧ Gle G56 G ∧ Since w0.heap.size G0 w0 G w ∧ Owns G w w0.heap.size []) ?_ ?_
      ·have Hoq58 := H; have H := hq58; have hS := hS.keep (below_drew _); have hO := hO.below (below_drew _)
       refine WC_regionD mixedO (fun _ w => Sat G56 w ∧ True) (.fl 0 (.fl 1 (.on 2 (.on 3 (.on 4 (.fl 5 (.on 6 (.on 7 (.on 8 (.on 9 (.on 10 .nil))))))))))) (by kernel_rfl) rfl (by kernel_rfl) (fun _ => ⟨hS.sat, trivial⟩) ?_
       refine WD_val rfl (fun w hw => rn_loadA ag26 (cs := [.slice a1 n1 c1, .slice a2 n2 c2, .slice a3 n3 c3]) rfl rfl (fun j v hj => (hw.1.le (l1_3.trans leG56)).cell (hcb4.drop_take 0 3 j v hj))) rfl ?_; refine WD_val rfl (fun w hw => rn_loadA ag26 (cs := [.slice a1 n1 c1, .slice a2 n2 c2, .slice a3 n3 c3]) rfl rfl (fun j v hj => (hw.1.le (l1_3.trans leG56)).cell (hcb4.drop_take 0 3 j v hj))) rfl ?_; refine WD_op rfl rfl (OpP_val (rn_move (v := (.int .i64 x1)) rfl) rfl ?_); refine ⟨fun _ _ => ⟨hS.sat, trivial⟩, ?_⟩; obtain ⟨y59, hy59, H⟩ := bnd H
       have l0_4 := l0_3.trans leG56
       refine WD_op rfl rfl (OpP_callV cb45 (f45_ok (x0 := x0) (x1 := x1) hS.sat (h1.mono RTLandPerson_mono l0_4) (h2.mono RTLandEvent_mono l0_4) (h3.mono RTLandMemory_mono l0_4) hy59) rfl rfl (fun w60 hb => ?_)); have hS := hS.keep hb; have hO := hO.below hb; refine ⟨fun _ _ => ⟨hS.sat, trivial⟩, ?_⟩; refine WD_op rfl rfl (OpP_val (rn_move (v := (.bool y59)) rfl) rfl ?_); refine ⟨fun _ _ => ⟨hS.sat, trivial⟩, ?_⟩
       rcases bcases y59 with hb61 | hb61
       ·have H := ifT hb61 H; refine WD_valY rfl rfl hb61 rfl rfl (fun w hw => rn_loadA ag26 (cs := [.slice a1 n1 c1, .slice a2 n2 c2, .slice a3 n3 c3]) rfl rfl (fun j v hj => (hw.1.le (l1_3.trans leG56)).cell (hcb4.drop_take 0 3 j v hj))) rfl ?_; refine WD_opY rfl rfl rfl hb61 rfl rfl (OpP_val (rn_move (v := (.int .i64 x2)) rfl) rfl ?_); refine ⟨fun _ _ => ⟨hS.sat, trivial⟩, ?_⟩; obtain ⟨y62, hy62, H⟩ := bnd H; refine WD_opY rfl rfl rfl hb61 rfl rfl (OpP_callV cb45 (f45_ok (x0 := x0) (x1 := x2) hS.sat (h1.mono RTLandPerson_mono l0_4) (h2.mono RTLandEvent_mono l0_4) (h3.mono RTLandMemory_mono l0_4) hy62) rfl rfl (fun w63 hb => ?_)); have hS := hS.keep hb; have hO := hO.below hb; refine ⟨fun _ _ => ⟨hS.sat, trivial⟩, ?_⟩; refine WD_op rfl rfl (OpP_val (rn_pickT (v := (.bool y62)) rfl hb61 rfl) rfl ?_); refine ⟨fun _ _ => ⟨hS.sat, trivial⟩, ?_⟩; obtain ⟨y64, hy64, H⟩ := bnd H; refine WD_op rfl rfl (OpP_callV cb31 (f31_ok (x0 := x0) (x1 := y62) hS.sat (h1.mono RTLandPerson_mono l0_4) (h2.mono RTLandEvent_mono l0_4) (h3.mono RTLandMemory_mono l0_4) hy64) rfl rfl (fun w65 hb => ?_)); have hS := hS.keep hb; have hO := hO.below hb
        refine ⟨fun _ h => noneed (by kernel_rfl) h, ?_⟩
        refine WD_op rfl rfl (OpP_val (rn_assign (v := (.int .i64 y64)) rfl) rfl ?_)
        refine ⟨fun _ h => noneed (by kernel_rfl) h, ?_⟩
        refine WD_nil ?_
        have hO : Owns G56 w65 w0.heap.size ([]) := hO
        have H := Option.some.inj H; subst H
        exact ⟨_, G56, upds_self _ _ ⟨rfl, rfl, rfl, rfl, rfl, rfl, trivial⟩, Gle.refl _, hS, hO⟩
       ·have H := ifF hb61 H; refine WD_skip rfl rfl hb61 rfl rfl rfl ?_; refine WD_skipS rfl rfl hb61 rfl rfl rfl (fun _ _ => ⟨hS.sat, trivial⟩) ?_; refine WD_skipS rfl rfl hb61 rfl rfl rfl (fun _ _ => ⟨hS.sat, trivial⟩) ?_; refine WD_op rfl rfl (OpP_val (rn_pickF (v := (.bool false)) rfl hb61 rfl) rfl ?_); refine ⟨fun _ _ => ⟨hS.sat, trivial⟩, ?_⟩; obtain ⟨y66, hy66, H⟩ := bnd H; refine WD_op rfl rfl (OpP_callV cb31 (f31_ok (x0 := x0) (x1 := false) hS.sat (h1.mono RTLandPerson_mono l0_4) (h2.mono RTLandEvent_mono l0_4) (h3.mono RTLandMemory_mono l0_4) hy66) rfl rfl (fun w67 hb => ?_)); have hS := hS.keep hb; have hO := hO.below hb
        refine ⟨fun _ h => noneed (by kernel_rfl) h, ?_⟩
        refine WD_op rfl rfl (OpP_val (rn_assign (v := (.int .i64 y66)) rfl) rfl ?_)
        refine ⟨fun _ h => noneed (by kernel_rfl) h, ?_⟩
        refine WD_nil ?_
        have hO : Owns G56 w67 w0.heap.size ([]) := hO
        have H := Option.some.inj H; subst H
        exact ⟨_, G56, upds_self _ _ ⟨rfl, rfl, rfl, rfl, rfl, rfl, trivial⟩, Gle.refl _, hS, hO⟩
      ·rintro F w68 ⟨Fb, G69, rfl, leG69, hS, hO⟩
       refine WC_seq ?_; refine WC_region ?_; refine WL_val (rn_move (v := (.int .i64 q58)) rfl) rfl ?_; refine WL_val (rn_neq rfl rfl) rfl ?_; refine WL_nil ?_; refine WC_cond rfl (fun hb70 => ?_) (fun hb70 => ?_)
       ·have H := ifT hb70 H; refine WC_seq ?_; obtain ⟨q71, hq71, H⟩ := bnd H; refine WC_cut (fun F w => ∃ (Fb : Fr) (G : Gm), F = upds Fb [(6, .bool q71)] ∧ Gle G69 G ∧ Since w0.heap.size G0 w0 G w ∧ Owns G w w0.heap.size []) ?_ ?_
        ·have Hoq71 := H; have H := hq71; refine WC_region ?_; refine WL_val (rn_move (v := (.int .i64 y18.2)) rfl) rfl ?_; refine WL_val (rn_move (v := (.int .i64 q58)) rfl) rfl ?_; refine WL_val (rn_eql rfl rfl) rfl ?_; refine WL_val (rn_move (v := (.bool (y18.2 == q58))) rfl) rfl ?_
         rcases bcases (y18.2 == q58) with hb72 | hb72
         ·have H := ifT hb72 H; refine WL_guardY rfl hb72 rfl rfl ?_
          have l3_5 := leG56.trans leG69
          refine WL_val (rn_loadA ag44 (cs := [.int .i64 y18.1.Low, .int .i64 y18.1.High]) rfl rfl (fun j v hj => (hS.sat.le l3_5).cell (hcG24.drop_take 0 2 j v hj))) rfl ?_; refine WL_guardY rfl hb72 rfl rfl ?_
          refine WL_val (v := (.agg #[.int .i64 0, .int .i64 0])) (by kernel_rfl) rfl ?_
          refine WL_guardY rfl hb72 rfl rfl ?_; refine WL_val (rn_eqlA (xs := [y18.1.Low, y18.1.High]) (ys := [0, 0]) in44 rfl rfl rfl rfl) rfl ?_; refine WL_val (rn_pickT (v := (.bool (([y18.1.Low, y18.1.High] : List Int) == [0, 0]))) rfl hb72 rfl) rfl ?_; refine WL_val (rn_move (v := (.bool (([y18.1.Low, y18.1.High] : List Int) == [0, 0]))) rfl) rfl ?_
          rcases bcases (([y18.1.Low, y18.1.High] : List Int) == [0, 0]) with hb73 | hb73
          ·have H := ifT hb73 H; refine WL_guardY rfl hb73 rfl rfl ?_; obtain ⟨y74, hy74, H⟩ := bnd H
           have l0_5 := l0_3.trans l3_5
           refine WL_op rfl (OpP_callV cb15 (f15_ok  hS.sat (hT.mono l0_5)  hy74) rfl rfl (fun w75 hb => ?_)); have hS := hS.keep hb; have hO := hO.below hb; refine WL_val (rn_pickT (v := (.bool y74)) rfl hb73 rfl) rfl ?_; refine WL_val (rn_assign (v := (.bool y74)) rfl) rfl ?_; refine WL_nil ?_
           have hO : Owns G69 w75 w0.heap.size ([]) := hO
           have H := Option.some.inj H; subst H
           exact ⟨_, G69, upds_self _ _ ⟨rfl, trivial⟩, Gle.refl _, hS, hO⟩
          ·have H := ifF hb73 H; refine WL_guardN rfl hb73 rfl rfl rfl ?_; refine WL_val (rn_pickF (v := (.bool false)) rfl hb73 rfl) rfl ?_; refine WL_val (rn_assign (v := (.bool false)) rfl) rfl ?_; refine WL_nil ?_
           have hO : Owns G69 w68 w0.heap.size ([]) := hO
           have H := Option.some.inj H; subst H
           exact ⟨_, G69, upds_self _ _ ⟨rfl, trivial⟩, Gle.refl _, hS, hO⟩
         ·have H := ifF hb72 H; refine WL_guardN rfl hb72 rfl rfl rfl ?_; refine WL_guardN rfl hb72 rfl rfl rfl ?_; refine WL_guardN rfl hb72 rfl rfl rfl ?_; refine WL_val (rn_pickF (v := (.bool false)) rfl hb72 rfl) rfl ?_; refine WL_val (rn_move (v := (.bool false)) rfl) rfl ?_; refine WL_guardN rfl rfl rfl rfl rfl ?_; refine WL_val (rn_pickF (v := (.bool false)) rfl rfl rfl) rfl ?_; refine WL_val (rn_assign (v := (.bool false)) rfl) rfl ?_; refine WL_nil ?_
          have hO : Owns G69 w68 w0.heap.size ([]) := hO
          have H := Option.some.inj H; subst H
          exact ⟨_, G69, upds_self _ _ ⟨rfl, trivial⟩, Gle.refl _, hS, hO⟩
        ·rintro F w76 ⟨Fb, G77, rfl, leG77, hS, hO⟩
         refine WC_ret ?_
         have H : some q71 = some r := H
         have H := Option.some.inj H; subst H
         exact ⟨rfl, hS.below⟩
       ·have H := ifF hb70 H; refine WC_skip ?_; refine WC_seq ?_; obtain ⟨q78, hq78, H⟩ := bnd H; refine WC_cut (fun F w => ∃ (Fb : Fr) (G : Gm), F = upds Fb [(6, .bool q78)] ∧ Gle G69 G ∧ Since w0.heap.size G0 w0 G w ∧ Owns G w w0.heap.size []) ?_ ?_
        ·have Hoq78 := H; have H := hq78; have hS := hS.keep (below_drew _); have hO := hO.below (below_drew _)
         refine WC_regionD mixedO (fun _ w => Sat G69 w ∧ True) (.on 0 (.on 1 (.on 2 (.fl 3 (.fl 4 (.fl 5 (.on 6 (.on 7 (.on 8 (.on 9 (.on 10 (.on 11 (.on 12 (.on 13 .nil)))))))))))))) (by kernel_rfl) rfl (by kernel_rfl) (fun _ => ⟨hS.sat, trivial⟩) ?_
         refine WD_op rfl rfl (OpP_val (rn_move (v := (.int .i64 y18.2)) rfl) rfl ?_); refine ⟨fun _ _ => ⟨hS.sat, trivial⟩, ?_⟩; refine WD_op rfl rfl (OpP_val (rn_eql rfl rfl) rfl ?_); refine ⟨fun _ _ => ⟨hS.sat, trivial⟩, ?_⟩; refine WD_op rfl rfl (OpP_val (rn_move (v := (.bool (y18.2 == 0))) rfl) rfl ?_); refine ⟨fun _ _ => ⟨hS.sat, trivial⟩, ?_⟩
         rcases bcases (y18.2 == 0) with hb79 | hb79
         ·have H := ifT hb79 H; refine WD_valY rfl rfl hb79 rfl rfl (fun w hw => rn_loadA ag44 (cs := [.int .i64 y18.1.Low, .int .i64 y18.1.High]) rfl rfl (fun j v hj => (hw.1.le (leG56.trans leG69)).cell (hcG24.drop_take 0 2 j v hj))) rfl ?_; refine WD_valY rfl rfl hb79 rfl rfl (fun w hw => rn_loadA ag26 (cs := [.slice a1 n1 c1, .slice a2 n2 c2, .slice a3 n3 c3]) rfl rfl (fun j v hj => (hw.1.le ((l1_3.trans leG56).trans leG69)).cell (hcb4.drop_take 0 3 j v hj))) rfl ?_; refine WD_valY rfl rfl hb79 rfl rfl (fun w hw => rn_move (v := (.int .i64 x1)) rfl) rfl ?_; refine WD_opY rfl rfl rfl hb79 rfl rfl (OpP_val (rn_move (v := (.int .i64 x2)) rfl) rfl ?_); refine ⟨fun _ _ => ⟨hS.sat, trivial⟩, ?_⟩; obtain ⟨y80, hy80, H⟩ := bnd H
          have l0_5 := (l0_3.trans leG56).trans leG69
          refine WD_opY rfl rfl rfl hb79 rfl rfl (OpP_callV cb46 (f46_ok (x0 := x0) (x1 := x1) (x2 := x2) hS.sat (h1.mono RTLandPerson_mono l0_5) (h2.mono RTLandEvent_mono l0_5) (h3.mono RTLandMemory_mono l0_5) hy80) rfl rfl (fun w81 hb => ?_)); have hS := hS.keep hb; have hO := hO.below hb; refine ⟨fun _ _ => ⟨hS.sat, trivial⟩, ?_⟩; refine WD_opY rfl rfl rfl hb79 rfl rfl (OpP_val (rn_eqlA (xs := [y18.1.Low, y18.1.High]) (ys := [y80.Low, y80.High]) in44 rfl rfl rfl rfl) rfl ?_)
          refine ⟨fun _ h => noneed (by kernel_rfl) h, ?_⟩
          refine WD_op rfl rfl (OpP_val (rn_pickT (v := (.bool (([y18.1.Low, y18.1.High] : List Int) == [y80.Low, y80.High]))) rfl hb79 rfl) rfl ?_)
          refine ⟨fun _ h => noneed (by kernel_rfl) h, ?_⟩
          refine WD_op rfl rfl (OpP_val (rn_move (v := (.bool (([y18.1.Low, y18.1.High] : List Int) == [y80.Low, y80.High]))) rfl) rfl ?_)
          refine ⟨fun _ h => noneed (by kernel_rfl) h, ?_⟩
          rcases bcases (([y18.1.Low, y18.1.High] : List Int) == [y80.Low, y80.High]) with hb82 | hb82
          ·have H := ifT hb82 H; obtain ⟨y83, hy83, H⟩ := bnd H; refine WD_opY rfl rfl rfl hb82 rfl rfl (OpP_callV cb15 (f15_ok  hS.sat (hT.mono l0_5)  hy83) rfl rfl (fun w84 hb => ?_)); have hS := hS.keep hb; have hO := hO.below hb
           refine ⟨fun _ h => noneed (by kernel_rfl) h, ?_⟩
           refine WD_op rfl rfl (OpP_val (rn_pickT (v := (.bool y83)) rfl hb82 rfl) rfl ?_)
           refine ⟨fun _ h => noneed (by kernel_rfl) h, ?_⟩
           refine WD_op rfl rfl (OpP_val (rn_assign (v := (.bool y83)) rfl) rfl ?_)
           refine ⟨fun _ h => noneed (by kernel_rfl) h, ?_⟩
           refine WD_nil ?_
           have hO : Owns G69 w84 w0.heap.size ([]) := hO
           have H := Option.some.inj H; subst H
           exact ⟨_, G69, upds_self _ _ ⟨rfl, trivial⟩, Gle.refl _, hS, hO⟩
          ·have H := ifF hb82 H
           refine WD_skipS rfl rfl hb82 rfl rfl rfl (fun _ h => noneed (by kernel_rfl) h) ?_
           refine WD_op rfl rfl (OpP_val (rn_pickF (v := (.bool false)) rfl hb82 rfl) rfl ?_)
           refine ⟨fun _ h => noneed (by kernel_rfl) h, ?_⟩
           refine WD_op rfl rfl (OpP_val (rn_assign (v := (.bool false)) rfl) rfl ?_)
           refine ⟨fun _ h => noneed (by kernel_rfl) h, ?_⟩
           refine WD_nil ?_
           have hO : Owns G69 w81 w0.heap.size ([]) := hO
           have H := Option.some.inj H; subst H
           exact ⟨_, G69, upds_self _ _ ⟨rfl, trivial⟩, Gle.refl _, hS, hO⟩
         ·have H := ifF hb79 H; refine WD_skip rfl rfl hb79 rfl rfl rfl ?_; refine WD_skip rfl rfl hb79 rfl rfl rfl ?_; refine WD_skip rfl rfl hb79 rfl rfl rfl ?_; refine WD_skipS rfl rfl hb79 rfl rfl rfl (fun _ _ => ⟨hS.sat, trivial⟩) ?_; refine WD_skipS rfl rfl hb79 rfl rfl rfl (fun _ _ => ⟨hS.sat, trivial⟩) ?_
          refine WD_skipS rfl rfl hb79 rfl rfl rfl (fun _ h => noneed (by kernel_rfl) h) ?_
          refine WD_op rfl rfl (OpP_val (rn_pickF (v := (.bool false)) rfl hb79 rfl) rfl ?_)
          refine ⟨fun _ h => noneed (by kernel_rfl) h, ?_⟩
          refine WD_op rfl rfl (OpP_val (rn_move (v := (.bool false)) rfl) rfl ?_)
          refine ⟨fun _ h => noneed (by kernel_rfl) h, ?_⟩
          refine WD_skipS rfl rfl rfl rfl rfl rfl (fun _ h => noneed (by kernel_rfl) h) ?_
          refine WD_op rfl rfl (OpP_val (rn_pickF (v := (.bool false)) rfl rfl rfl) rfl ?_)
          refine ⟨fun _ h => noneed (by kernel_rfl) h, ?_⟩
          refine WD_op rfl rfl (OpP_val (rn_assign (v := (.bool false)) rfl) rfl ?_)
          refine ⟨fun _ h => noneed (by kernel_rfl) h, ?_⟩
          refine WD_nil ?_
          have hO : Owns G69 w68.drew w0.heap.size ([]) := hO
          have H := Option.some.inj H; subst H
          exact ⟨_, G69, upds_self _ _ ⟨rfl, trivial⟩, Gle.refl _, hS, hO⟩
        ·rintro F w85 ⟨Fb, G86, rfl, leG86, hS, hO⟩
         refine WC_ret ?_
         have H : some q78 = some r := H
         have H := Option.some.inj H; subst H
         exact ⟨rfl, hS.below⟩
end Go.Proofs.YtcaflmilfhhikaaDoor
