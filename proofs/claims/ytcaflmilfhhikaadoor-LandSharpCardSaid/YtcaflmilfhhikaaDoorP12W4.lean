/-
  The walks: each Go function computes its plain function (printed by a program of ours).
-/
import Derived.Test.YtcaflmilfhhikaaDoorRd
import Derived.Test.YtcaflmilfhhikaaDoorBaseQ
import Derived.Test.YtcaflmilfhhikaaDoorIt
import Derived.Test.YtcaflmilfhhikaaDoorLib
import Derived.Test.YtcaflmilfhhikaaDoorBu
import Derived.Test.YtcaflmilfhhikaaDoorP12W3
namespace Go.Proofs.YtcaflmilfhhikaaDoor
open Go.RowKit
set_option linter.unusedVariables false

set_option maxRecDepth 20000
set_option linter.unusedVariables false
set_option maxHeartbeats 1000000 in
theorem f12_ok {G0 : Gm} {w0 : World} (hS0 : Sat G0 w0) {x0 : TLandBook} {a1 : Option Addr} {n1 c1 : Nat} {a2 : Option Addr} {n2 c2 : Nat} {a3 : Option Addr} {n3 c3 : Nat} {x1 : Int} {x2 : Int} (hT : TabG Tryd.prog G0) (h1 : RSl RTLandPerson 2 G0 a1 n1 c1 x0.People) (h2 : RSl RTLandEvent 2 G0 a2 n2 c2 x0.Events) (h3 : RSl RTLandMemory 4 G0 a3 n3 c3 x0.Memories) {r : Bool} (H : f12 x0 x1 x2 = some r) :
  Calls Tryd.prog 12 #[.agg #[.slice a1 n1 c1, .slice a2 n2 c2, .slice a3 n3 c3], .int .i64 x1, .int .i64 x2] w0 (RetV w0 (.bool r)) := by
 have hS := Since.start hS0
 have hO : Owns G0 w0 w0.heap.size [] := Owns.nil (Nat.le_refl _)
 unfold f12 at H
 refine enter1 (N := 227) (shutV _ _) Tryd.func12 rfl rfl rfl rfl ?_; refine WC_seq ?_; refine WC_region ?_; refine WL_op rfl (OpP_newF (v := fun b => .pointer (some ⟨b, 0, none⟩)) (cs := [.slice a1 n1 c1, .slice a2 n2 c2, .slice a3 n3 c3]) (e := 26) (rn_boxA rfl) hS.sat rfl (fun b4 G6 w5 hg hcb4 => ?_)); have hS := hS.grow hg; have hO := hO.grow hg
 have leG6 := hg.le
 refine WL_val (rn_assign (v := (.bool false)) rfl) rfl ?_; refine WL_nil ?_; refine WC_seq ?_; refine WC_seq ?_; obtain ⟨q7, hq7, H⟩ := bnd H; refine WC_cut (fun F w => ∃ (Fb : Fr) (G : Gm), F = upds Fb [(1, .int .i64 x1), (2, .int .i64 x2), (3, .pointer (some ⟨b4, 0, none⟩)), (38, .bool q7)] ∧ Gle G6 G ∧ Since w0.heap.size G0 w0 G w ∧ Owns G w w0.heap.size []) ?_ ?_
 ·have Hoq7 := H; have H := hq7; refine WC_region ?_; refine WL_val (rn_loadA ag26 (cs := [.slice a1 n1 c1, .slice a2 n2 c2, .slice a3 n3 c3]) rfl rfl (fun j v hj => hS.sat.cell (hcb4.drop_take 0 3 j v hj))) rfl ?_; obtain ⟨y8, hy8, H⟩ := bnd H; refine WL_op rfl (OpP_callV cb47 (f47_ok (x0 := x0) hS.sat (h1.mono RTLandPerson_mono leG6) (h2.mono RTLandEvent_mono leG6) (h3.mono RTLandMemory_mono leG6) hy8) rfl rfl (fun w9 hb => ?_)); have hS := hS.keep hb; have hO := hO.below hb; refine WL_val (rn_not rfl) rfl ?_; refine WL_val (rn_move (v := (.bool (!y8))) rfl) rfl ?_
  rcases bcases (!y8) with hb10 | hb10
  ·have H := ifT hb10 H; refine WL_guardN rfl hb10 rfl rfl rfl ?_; refine WL_guardN rfl hb10 rfl rfl rfl ?_; refine WL_guardN rfl hb10 rfl rfl rfl ?_; refine WL_guardN rfl hb10 rfl rfl rfl ?_; refine WL_val (rn_pickT (v := (.bool true)) rfl hb10 rfl) rfl ?_; refine WL_val (rn_move (v := (.bool true)) rfl) rfl ?_; refine WL_guardN rfl rfl rfl rfl rfl ?_; refine WL_guardN rfl rfl rfl rfl rfl ?_; refine WL_guardN rfl rfl rfl rfl rfl ?_; refine WL_guardN rfl rfl rfl rfl rfl ?_; refine WL_val (rn_pickT (v := (.bool true)) rfl rfl rfl) rfl ?_; refine WL_nil ?_
   have hO : Owns G6 w9 w0.heap.size ([]) := hO
   have H := Option.some.inj H; subst H
   exact ⟨_, G6, upds_self _ _ ⟨rfl, rfl, rfl, rfl, trivial⟩, Gle.refl _, hS, hO⟩
  ·have H := ifF hb10 H; refine WL_guardY rfl hb10 rfl rfl ?_; refine WL_val (rn_loadA ag26 (cs := [.slice a1 n1 c1, .slice a2 n2 c2, .slice a3 n3 c3]) rfl rfl (fun j v hj => hS.sat.cell (hcb4.drop_take 0 3 j v hj))) rfl ?_; refine WL_guardY rfl hb10 rfl rfl ?_; refine WL_val (rn_move (v := (.int .i64 x1)) rfl) rfl ?_; refine WL_guardY rfl hb10 rfl rfl ?_; obtain ⟨y11, hy11, H⟩ := bnd H; refine WL_op rfl (OpP_callV cb45 (f45_ok (x0 := x0) (x1 := x1) hS.sat (h1.mono RTLandPerson_mono leG6) (h2.mono RTLandEvent_mono leG6) (h3.mono RTLandMemory_mono leG6) hy11) rfl rfl (fun w12 hb => ?_)); have hS := hS.keep hb; have hO := hO.below hb; refine WL_guardY rfl hb10 rfl rfl ?_; refine WL_val (rn_not rfl) rfl ?_; refine WL_val (rn_pickF (v := (.bool (!y11))) rfl hb10 rfl) rfl ?_; refine WL_val (rn_move (v := (.bool (!y11))) rfl) rfl ?_
   rcases bcases (!y11) with hb13 | hb13
   ·have H := ifT hb13 H; refine WL_guardN rfl hb13 rfl rfl rfl ?_; refine WL_guardN rfl hb13 rfl rfl rfl ?_; refine WL_guardN rfl hb13 rfl rfl rfl ?_; refine WL_guardN rfl hb13 rfl rfl rfl ?_; refine WL_val (rn_pickT (v := (.bool true)) rfl hb13 rfl) rfl ?_; refine WL_nil ?_
    have hO : Owns G6 w12 w0.heap.size ([]) := hO
    have H := Option.some.inj H; subst H
    exact ⟨_, G6, upds_self _ _ ⟨rfl, rfl, rfl, rfl, trivial⟩, Gle.refl _, hS, hO⟩
   ·have H := ifF hb13 H; refine WL_guardY rfl hb13 rfl rfl ?_; refine WL_val (rn_loadA ag26 (cs := [.slice a1 n1 c1, .slice a2 n2 c2, .slice a3 n3 c3]) rfl rfl (fun j v hj => hS.sat.cell (hcb4.drop_take 0 3 j v hj))) rfl ?_; refine WL_guardY rfl hb13 rfl rfl ?_; refine WL_val (rn_move (v := (.int .i64 x2)) rfl) rfl ?_; refine WL_guardY rfl hb13 rfl rfl ?_; obtain ⟨y14, hy14, H⟩ := bnd H; refine WL_op rfl (OpP_callV cb45 (f45_ok (x0 := x0) (x1 := x2) hS.sat (h1.mono RTLandPerson_mono leG6) (h2.mono RTLandEvent_mono leG6) (h3.mono RTLandMemory_mono leG6) hy14) rfl rfl (fun w15 hb => ?_)); have hS := hS.keep hb; have hO := hO.below hb; refine WL_guardY rfl hb13 rfl rfl ?_; refine WL_val (rn_not rfl) rfl ?_; refine WL_val (rn_pickF (v := (.bool (!y14))) rfl hb13 rfl) rfl ?_; refine WL_nil ?_
    have hO : Owns G6 w15 w0.heap.size ([]) := hO
    have H := Option.some.inj H; subst H
    exact ⟨_, G6, upds_self _ _ ⟨rfl, rfl, rfl, rfl, trivial⟩, Gle.refl _, hS, hO⟩
 ·rintro F w16 ⟨Fb, G17, rfl, leG17, hS, hO⟩
  refine WC_cond rfl (fun hb18 => ?_) (fun hb18 => ?_)
  ·have H := ifT hb18 H; refine WC_seq ?_; refine WC_region ?_; obtain ⟨y19, hy19, H⟩ := bnd H
   have l0_2 := leG6.trans leG17
   refine WL_op rfl (OpP_callV cb15 (f15_ok  hS.sat (hT.mono l0_2)  hy19) rfl rfl (fun w20 hb => ?_)); have hS := hS.keep hb; have hO := hO.below hb; refine WL_val (rn_assign (v := (.bool y19)) rfl) rfl ?_; refine WL_nil ?_; refine WC_ret ?_
   have H : some y19 = some r := H
   have H := Option.some.inj H; subst H
   exact ⟨rfl, hS.below⟩
  ·have H := ifF hb18 H; refine WC_skip ?_; refine WC_seq ?_; refine WC_region ?_; refine WL_val (rn_loadA ag26 (cs := [.slice a1 n1 c1, .slice a2 n2 c2, .slice a3 n3 c3]) rfl rfl (fun j v hj => (hS.sat.le leG17).cell (hcb4.drop_take 0 3 j v hj))) rfl ?_; obtain ⟨y21, hy21, H⟩ := bnd H
   have l0_2 := leG6.trans leG17
   refine WL_op rfl (OpP_callG cb34 (f34_ok (x0 := x0) hS.sat (h1.mono RTLandPerson_mono l0_2) (h2.mono RTLandEvent_mono l0_2) (h3.mono RTLandMemory_mono l0_2) hy21) rfl rfl (fun vy21 G23 w22 hg hvy21 => ?_)); obtain ⟨a24, n24, c24, ⟨⟩, h24⟩ := hvy21; have hS := hS.grow hg; have hO := hO.grow hg
   have leG23 := hg.le
   refine WL_val (rn_move (v := (.tuple #[.slice a24 n24 c24, .int .i64 y21.2])) rfl) rfl ?_; refine WL_val (rn_extract (v := (.slice a24 n24 c24)) rfl rfl) rfl ?_; refine WL_val (rn_extract (v := (.int .i64 y21.2)) rfl rfl) rfl ?_; refine WL_val (rn_assign (v := (.slice a24 n24 c24)) rfl) rfl ?_; refine WL_val (rn_assign (v := (.int .i64 y21.2)) rfl) rfl ?_; refine WL_nil ?_; refine WC_seq ?_; refine WC_region ?_
   have l1_3 := leG17.trans leG23
   refine WL_val (rn_loadA ag26 (cs := [.slice a1 n1 c1, .slice a2 n2 c2, .slice a3 n3 c3]) rfl rfl (fun j v hj => (hS.sat.le l1_3).cell (hcb4.drop_take 0 3 j v hj))) rfl ?_; obtain ⟨y25, hy25, H⟩ := bnd H
   have l0_3 := l0_2.trans leG23
   refine WL_op rfl (OpP_callG cb28 (f28_ok (x0 := x0) hS.sat (h1.mono RTLandPerson_mono l0_3) (h2.mono RTLandEvent_mono l0_3) (h3.mono RTLandMemory_mono l0_3) hy25) rfl rfl (fun vy25 G27 w26 hg hvy25 => ?_)); obtain ⟨a28, n28, c28, ⟨⟩, h28⟩ := hvy25; have hS := hS.grow hg; have hO := hO.grow hg
   have leG27 := hg.le
   refine WL_val (rn_move (v := (.tuple #[.slice a28 n28 c28, .int .i64 y25.2])) rfl) rfl ?_; refine WL_val (rn_extract (v := (.slice a28 n28 c28)) rfl rfl) rfl ?_; refine WL_val (rn_extract (v := (.int .i64 y25.2)) rfl rfl) rfl ?_; refine WL_val (rn_assign (v := (.slice a28 n28 c28)) rfl) rfl ?_; refine WL_val (rn_assign (v := (.int .i64 y25.2)) rfl) rfl ?_; refine WL_nil ?_; refine WC_seq ?_; refine WC_region ?_
   have l1_4 := l1_3.trans leG27
   refine WL_val (rn_loadA ag26 (cs := [.slice a1 n1 c1, .slice a2 n2 c2, .slice a3 n3 c3]) rfl rfl (fun j v hj => (hS.sat.le l1_4).cell (hcb4.drop_take 0 3 j v hj))) rfl ?_; refine WL_val (rn_move (v := (.int .i64 x1)) rfl) rfl ?_; refine WL_val (rn_move (v := (.int .i64 x2)) rfl) rfl ?_; obtain ⟨y29, hy29, H⟩ := bnd H
   have l0_4 := l0_3.trans leG27
   refine WL_op rfl (OpP_callV cb43 (f43_ok (x0 := x0) (x1 := x1) (x2 := x2) hS.sat (h1.mono RTLandPerson_mono l0_4) (h2.mono RTLandEvent_mono l0_4) (h3.mono RTLandMemory_mono l0_4) hy29) rfl rfl (fun w30 hb => ?_)); have hS := hS.keep hb; have hO := hO.below hb; refine WL_val (rn_move (v := (.tuple #[.agg #[.int .i64 y29.1.Low, .int .i64 y29.1.High], .int .i64 y29.2])) rfl) rfl ?_; refine WL_val (rn_extract (v := (.agg #[.int .i64 y29.1.Low, .int .i64 y29.1.High])) rfl rfl) rfl ?_; refine WL_val (rn_extract (v := (.int .i64 y29.2)) rfl rfl) rfl ?_
   refine WL_op rfl (OpP_newO (v := fun b => .pointer (some ⟨b, 0, none⟩)) (cs := [.int .i64 0, .int .i64 0]) (e := 44) (by kernel_rfl) hS.sat hO rfl 2 1 rfl (by decide) (fun b31 w32 hb hO => ?_))
   have hS := hS.keep hb; refine WL_op rfl (OpP_store (vs := [.int .i64 y29.1.Low, .int .i64 y29.1.High]) sz44 hS hO (k := 0) rfl rfl rfl rfl rfl (one_all rfl) (Nat.le_of_ble_eq_true rfl) (fun w34 hS hO => ?_))
   have hO : Owns G27 w34 w0.heap.size ([⟨44, 2, 1, .slice (some ⟨b31, 0, none⟩) 1 1, [.int .i64 y29.1.Low, .int .i64 y29.1.High]⟩]) := hO
   obtain ⟨G35, leG35, hS, hO, hqG35, _⟩ := hO.freeze hS (k := 0) rfl
   have hcG35 : Cells G35 b31 0 [.int .i64 y29.1.Low, .int .i64 y29.1.High] := (hqG35 _ _ _ _ rfl)
   refine WL_val (rn_assign (v := (.int .i64 y29.2)) rfl) rfl ?_; refine WL_nil ?_; refine WC_seq ?_; refine WC_seq ?_; obtain ⟨q36, hq36, H⟩ := bnd H; refine WC_cut (fun F w => ∃ (Fb : Fr), F = upds Fb [(1, .int .i64 x1), (2, .int .i64 x2), (3, .pointer (some ⟨b4, 0, none⟩)), (7, .slice a24 n24 c24), (9, .slice a28 n28 c28), (11, .pointer (some ⟨b31, 0, none⟩)), (82, .bool q36)] ∧ w34 = w) ?_ ?_
   ·have Hoq36 := H; have H := hq36; refine WC_region ?_; refine WL_val (rn_move (v := (.int .i64 y21.2)) rfl) rfl ?_; refine WL_val (rn_neq rfl rfl) rfl ?_; refine WL_val (rn_move (v := (.bool (y21.2 != 0))) rfl) rfl ?_
    rcases bcases (y21.2 != 0) with hb37 | hb37
    ·have H := ifT hb37 H; refine WL_guardN rfl hb37 rfl rfl rfl ?_; refine WL_guardN rfl hb37 rfl rfl rfl ?_; refine WL_val (rn_pickT (v := (.bool true)) rfl hb37 rfl) rfl ?_; refine WL_val (rn_move (v := (.bool true)) rfl) rfl ?_; refine WL_guardN rfl rfl rfl rfl rfl ?_; refine WL_guardN rfl rfl rfl rfl rfl ?_; refine WL_val (rn_pickT (v := (.bool true)) rfl rfl rfl) rfl ?_; refine WL_val (rn_move (v := (.bool true)) rfl) rfl ?_; refine WL_guardN rfl rfl rfl rfl rfl ?_; refine WL_guardN rfl rfl rfl rfl rfl ?_; refine WL_guardN rfl rfl rfl rfl rfl ?_; refine WL_guardN rfl rfl rfl rfl rfl ?_; refine WL_guardN rfl rfl rfl rfl rfl ?_; refine WL_guardN rfl rfl rfl rfl rfl ?_; refine WL_val (rn_pickT (v := (.bool true)) rfl rfl rfl) rfl ?_; refine WL_val (rn_move (v := (.bool true)) rfl) rfl ?_; refine WL_guardN rfl rfl rfl rfl rfl ?_; refine WL_guardN rfl rfl rfl rfl rfl ?_; refine WL_guardN rfl rfl rfl rfl rfl ?_; refine WL_guardN rfl rfl rfl rfl rfl ?_; refine WL_guardN rfl rfl rfl rfl rfl ?_; refine WL_guardN rfl rfl rfl rfl rfl ?_; refine WL_val (rn_pickT (v := (.bool true)) rfl rfl rfl) rfl ?_; refine WL_nil ?_; have H := Option.some.inj H; subst H
     exact ⟨_, upds_self _ _ ⟨rfl, rfl, rfl, rfl, rfl, rfl, rfl, trivial⟩, rfl⟩
    ·have H := ifF hb37 H; refine WL_guardY rfl hb37 rfl rfl ?_; refine WL_val (rn_move (v := (.int .i64 y25.2)) rfl) rfl ?_; refine WL_guardY rfl hb37 rfl rfl ?_; refine WL_val (rn_neq rfl rfl) rfl ?_; refine WL_val (rn_pickF (v := (.bool (y25.2 != 0))) rfl hb37 rfl) rfl ?_; refine WL_val (rn_move (v := (.bool (y25.2 != 0))) rfl) rfl ?_
     rcases bcases (y25.2 != 0) with hb38 | hb38
     ·have H := ifT hb38 H; refine WL_guardN rfl hb38 rfl rfl rfl ?_; refine WL_guardN rfl hb38 rfl rfl rfl ?_; refine WL_val (rn_pickT (v := (.bool true)) rfl hb38 rfl) rfl ?_; refine WL_val (rn_move (v := (.bool true)) rfl) rfl ?_; refine WL_guardN rfl rfl rfl rfl rfl ?_; refine WL_guardN rfl rfl rfl rfl rfl ?_; refine WL_guardN rfl rfl rfl rfl rfl ?_; refine WL_guardN rfl rfl rfl rfl rfl ?_; refine WL_guardN rfl rfl rfl rfl rfl ?_; refine WL_guardN rfl rfl rfl rfl rfl ?_; refine WL_val (rn_pickT (v := (.bool true)) rfl rfl rfl) rfl ?_; refine WL_val (rn_move (v := (.bool true)) rfl) rfl ?_; refine WL_guardN rfl rfl rfl rfl rfl ?_; refine WL_guardN rfl rfl rfl rfl rfl ?_; refine WL_guardN rfl rfl rfl rfl rfl ?_; refine WL_guardN rfl rfl rfl rfl rfl ?_; refine WL_guardN rfl rfl rfl rfl rfl ?_; refine WL_guardN rfl rfl rfl rfl rfl ?_; refine WL_val (rn_pickT (v := (.bool true)) rfl rfl rfl) rfl ?_; refine WL_nil ?_; have H := Option.some.inj H; subst H
      exact ⟨_, upds_self _ _ ⟨rfl, rfl, rfl, rfl, rfl, rfl, rfl, trivial⟩, rfl⟩
     ·have H := ifF hb38 H; refine WL_guardY rfl hb38 rfl rfl ?_; refine WL_val (rn_move (v := (.int .i64 y29.2)) rfl) rfl ?_; refine WL_guardY rfl hb38 rfl rfl ?_; refine WL_val (rn_neq rfl rfl) rfl ?_; refine WL_val (rn_pickF (v := (.bool (y29.2 != 0))) rfl hb38 rfl) rfl ?_; refine WL_val (rn_move (v := (.bool (y29.2 != 0))) rfl) rfl ?_
      rcases bcases (y29.2 != 0) with hb39 | hb39
      ·have H := ifT hb39 H; refine WL_guardN rfl hb39 rfl rfl rfl ?_; refine WL_guardN rfl hb39 rfl rfl rfl ?_; refine WL_guardN rfl hb39 rfl rfl rfl ?_; refine WL_guardN rfl hb39 rfl rfl rfl ?_; refine WL_guardN rfl hb39 rfl rfl rfl ?_; refine WL_guardN rfl hb39 rfl rfl rfl ?_; refine WL_val (rn_pickT (v := (.bool true)) rfl hb39 rfl) rfl ?_; refine WL_val (rn_move (v := (.bool true)) rfl) rfl ?_; refine WL_guardN rfl rfl rfl rfl rfl ?_; refine WL_guardN rfl rfl rfl rfl rfl ?_; refine WL_guardN rfl rfl rfl rfl rfl ?_; refine WL_guardN rfl rfl rfl rfl rfl ?_; refine WL_guardN rfl rfl rfl rfl rfl ?_; refine WL_guardN rfl rfl rfl rfl rfl ?_; refine WL_val (rn_pickT (v := (.bool true)) rfl rfl rfl) rfl ?_; refine WL_nil ?_; have H := Option.some.inj H; subst H
       exact ⟨_, upds_self _ _ ⟨rfl, rfl, rfl, rfl, rfl, rfl, rfl, trivial⟩, rfl⟩
      ·have H := ifF hb39 H; refine WL_guardY rfl hb39 rfl rfl ?_; refine WL_val (rn_move (v := (.slice a24 n24 c24)) rfl) rfl ?_; refine WL_guardY rfl hb39 rfl rfl ?_
       have l3_5 := leG27.trans leG35
       refine WL_val (rn_len sl47 rfl rfl (h24.mono RTSpan_mono l3_5).1) rfl ?_; refine WL_guardY rfl hb39 rfl rfl ?_; refine WL_val (rn_fld fd26_1 rfl) rfl ?_; refine WL_guardY rfl hb39 rfl rfl ?_
       have l1_5 := l1_4.trans leG35
       refine WL_val (rn_load na23 rfl ((hS.sat.le l1_5).cell (hcb4 1 _ rfl))) rfl ?_; refine WL_guardY rfl hb39 rfl rfl ?_
       have l0_5 := l0_4.trans leG35
       refine WL_val (rn_len sl23 rfl rfl (h2.mono RTLandEvent_mono l0_5).1) rfl ?_; refine WL_guardY rfl hb39 rfl rfl ?_; refine WL_val (rn_neq rfl rfl) rfl ?_; refine WL_val (rn_pickF (v := (.bool ((y21.1.length : Int) != (x0.Events.length : Int)))) rfl hb39 rfl) rfl ?_; refine WL_val (rn_move (v := (.bool ((y21.1.length : Int) != (x0.Events.length : Int)))) rfl) rfl ?_
       rcases bcases ((y21.1.length : Int) != (x0.Events.length : Int)) with hb40 | hb40
       ·have H := ifT hb40 H; refine WL_guardN rfl hb40 rfl rfl rfl ?_; refine WL_guardN rfl hb40 rfl rfl rfl ?_; refine WL_guardN rfl hb40 rfl rfl rfl ?_; refine WL_guardN rfl hb40 rfl rfl rfl ?_; refine WL_guardN rfl hb40 rfl rfl rfl ?_; refine WL_guardN rfl hb40 rfl rfl rfl ?_; refine WL_val (rn_pickT (v := (.bool true)) rfl hb40 rfl) rfl ?_; refine WL_nil ?_; have H := Option.some.inj H; subst H
        exact ⟨_, upds_self _ _ ⟨rfl, rfl, rfl, rfl, rfl, rfl, rfl, trivial⟩, rfl⟩
       ·have H := ifF hb40 H; refine WL_guardY rfl hb40 rfl rfl ?_; refine WL_val (rn_move (v := (.slice a28 n28 c28)) rfl) rfl ?_; refine WL_guardY rfl hb40 rfl rfl ?_; refine WL_val (rn_len sl29 rfl rfl (h28.mono RInt_mono leG35).1) rfl ?_; refine WL_guardY rfl hb40 rfl rfl ?_; refine WL_val (rn_fld fd26_1 rfl) rfl ?_; refine WL_guardY rfl hb40 rfl rfl ?_; refine WL_val (rn_load na23 rfl ((hS.sat.le l1_5).cell (hcb4 1 _ rfl))) rfl ?_; refine WL_guardY rfl hb40 rfl rfl ?_; refine WL_val (rn_len sl23 rfl rfl (h2.mono RTLandEvent_mono l0_5).1) rfl ?_; refine WL_guardY rfl hb40 rfl rfl ?_; refine WL_val (rn_neq rfl rfl) rfl ?_; refine WL_val (rn_pickF (v := (.bool ((y25.1.length : Int) != (x0.Events.length : Int)))) rfl hb40 rfl) rfl ?_; refine WL_nil ?_; have H := Option.some.inj H; subst H
        exact ⟨_, upds_self _ _ ⟨rfl, rfl, rfl, rfl, rfl, rfl, rfl, trivial⟩, rfl⟩
   ·rintro F wl ⟨Fb, rfl, rfl⟩
    refine WC_cond rfl (fun hb43 => ?_) (fun hb43 => ?_)
    ·have H := ifT hb43 H; refine WC_seq ?_; refine WC_region ?_; refine WL_val (rn_assign (v := (.bool false)) rfl) rfl ?_; refine WL_nil ?_; refine WC_ret ?_
     have H : some false = some r := H
     have H := Option.some.inj H; subst H
     exact ⟨rfl, hS.below⟩
    ·have H := ifF hb43 H; refine WC_skip ?_; refine WC_seq ?_; refine WC_region ?_; refine WL_val (rn_assign (v := (.slice none 0 0)) rfl) rfl ?_; refine WL_nil ?_; refine WC_seq ?_; refine WC_seq ?_; refine WC_region ?_; refine WL_val (rn_assign (v := (.int .i64 0)) rfl) rfl ?_; refine WL_nil ?_; have hO := hO.cons_nil 3 1; obtain ⟨q47, hq47, H⟩ := bnd H; refine WC_cut (fun F w => ∃ (p46 : (List Int)) (Fb : Fr) (G : Gm) (ap46_0 : Option Addr) (np46_0 cp46_0 : Nat) (clap46_0 : List Value), q47 = .inl p46 ∧ F = upds Fb [(1, .int .i64 x1), (2, .int .i64 x2), (3, .pointer (some ⟨b4, 0, none⟩)), (9, .slice a28 n28 c28), (11, .pointer (some ⟨b31, 0, none⟩)), (13, .slice ap46_0 np46_0 cp46_0)] ∧ Gle G35 G ∧ Since w0.heap.size G0 w0 G w ∧ Owns G w w0.heap.size [⟨3, 1, np46_0, .slice ap46_0 np46_0 cp46_0, clap46_0⟩] ∧ np46_0 = p46.length ∧ Rd RInt 1 G clap46_0 p46) ?_ ?_
     ·refine WC_block (WC_loop hq47 (fun s45 F w => ∃ (Fb : Fr) (G : Gm) (as45_0 : Option Addr) (ns45_0 cs45_0 : Nat) (clas45_0 : List Value), F = upds Fb [(1, .int .i64 x1), (2, .int .i64 x2), (3, .pointer (some ⟨b4, 0, none⟩)), (7, .slice a24 n24 c24), (9, .slice a28 n28 c28), (11, .pointer (some ⟨b31, 0, none⟩)), (13, .slice as45_0 ns45_0 cs45_0), (14, .int .i64 s45.2)] ∧ Gle G35 G ∧ Since w0.heap.size G0 w0 G w ∧ Owns G w w0.heap.size [⟨3, 1, ns45_0, .slice as45_0 ns45_0 cs45_0, clas45_0⟩] ∧ ns45_0 = s45.1.length ∧ Rd RInt 1 G clas45_0 s45.1) ?_ ?_)
      ·have hO : Owns G35 w34 w0.heap.size ([⟨3, 1, 0, .slice none 0 0, []⟩]) := hO
       exact ⟨_, G35, none, 0, 0, [], upds_self _ _ ⟨rfl, rfl, rfl, rfl, rfl, rfl, rfl, rfl, trivial⟩, Gle.refl _, hS, hO, rfl, (Rd.nil RInt 1 G35)⟩
      ·rintro s45 F w49 t48 ⟨Fb, G50, as45_0, ns45_0, cs45_0, clas45_0, rfl, leG50, hS, hO, hnhs45_0, hs45_0⟩
       intro H1 hqq47
       have Hoq47 := H; have H := H1
       unfold f12_b0 at H
       refine WC_seq ?_; refine WC_seq ?_; refine WC_region ?_; refine WL_val (rn_move (v := (.int .i64 s45.2)) rfl) rfl ?_; refine WL_val (rn_move (v := (.slice a24 n24 c24)) rfl) rfl ?_
       have l3_6 := (leG27.trans leG35).trans leG50
       refine WL_val (rn_len sl47 rfl rfl (h24.mono RTSpan_mono l3_6).1) rfl ?_; refine WL_val (rn_lss rfl rfl) rfl ?_; refine WL_nil ?_; refine WC_cond rfl (fun hb51 => ?_) (fun hb51 => ?_)
       ·have H := ifT hb51 H; refine WC_skip ?_; refine WC_seq ?_; refine WC_block ?_; refine WC_seq ?_; refine WC_seq ?_; have hS := hS.keep (below_drew _); have hO := hO.below (below_drew _)
        refine WC_regionD mixedO (fun _ w => Sat G50 w ∧ Owns G50 w w0.heap.size [⟨3, 1, ns45_0, .slice as45_0 ns45_0 cs45_0, clas45_0⟩]) (.fl 0 (.fl 1 (.fl 2 (.fl 3 (.fl 4 (.on 5 (.on 6 (.on 7 (.on 8 (.on 9 .nil)))))))))) (by kernel_rfl) rfl (by kernel_rfl) (fun _ => ⟨hS.sat, hO⟩) ?_
        refine WD_val rfl (fun w hw => rn_move (v := (.slice a28 n28 c28)) rfl) rfl ?_; refine WD_val rfl (fun w hw => rn_move (v := (.int .i64 s45.2)) rfl) rfl ?_; obtain ⟨y52, hy52, H⟩ := bnd H
        have l4_6 := leG35.trans leG50
        refine WD_idx rfl sl29 (h28.mono RInt_mono l4_6) hy52 rfl rfl rfl ?_
        rintro b53 o53 _ hcb53 _ ⟨⟩
        refine WD_val rfl (fun w hw => rn_load na3 rfl (hw.1.cell (hcb53 0 _ rfl))) rfl ?_; refine WD_val rfl (fun w hw => rn_move (v := (.slice a24 n24 c24)) rfl) rfl ?_; refine WD_op rfl rfl (OpP_val (rn_move (v := (.int .i64 s45.2)) rfl) rfl ?_); refine ⟨fun _ _ => ⟨hS.sat, hO⟩, ?_⟩; obtain ⟨y54, hy54, H⟩ := bnd H; refine WD_op rfl rfl (OpP_idx sl47 (h24.mono RTSpan_mono l3_6) hy54 rfl rfl rfl ?_)
        rintro b55 o55 _ hcb55 _ ⟨⟩
        refine ⟨fun _ _ => ⟨hS.sat, hO⟩, ?_⟩; refine WD_op rfl rfl (OpP_val (rn_fld fd44_0 rfl) rfl ?_); refine ⟨fun _ _ => ⟨hS.sat, hO⟩, ?_⟩; refine WD_op rfl rfl (OpP_val (rn_load na3 rfl (hS.sat.cell (hcb55 0 _ rfl))) rfl ?_); refine ⟨fun _ _ => ⟨hS.sat, hO⟩, ?_⟩; refine WD_op rfl rfl (OpP_val (rn_neq rfl rfl) rfl ?_)
        refine ⟨fun _ h => noneed (by kernel_rfl) h, ?_⟩
        refine WD_nil ?_; refine WC_cond rfl (fun hb56 => ?_) (fun hb56 => ?_)
        ·have H := ifT hb56 H; refine WC_seq ?_; refine WC_region ?_; refine WL_val (rn_assign (v := (.bool false)) rfl) rfl ?_; refine WL_nil ?_; refine WC_ret ?_; have H := Option.some.inj H; subst H
         have hres := hqq47 _ rfl
         subst hres; have H := Hoq47
         have H : some false = some r := H
         have H := Option.some.inj H; subst H
         exact ⟨rfl, hS.below⟩
        ·have H := ifF hb56 H; refine WC_skip ?_; refine WC_region ?_; refine WL_val (rn_move (v := (.slice as45_0 ns45_0 cs45_0)) rfl) rfl ?_; refine WL_val (rn_move (v := (.slice a24 n24 c24)) rfl) rfl ?_; refine WL_val (rn_move (v := (.int .i64 s45.2)) rfl) rfl ?_; refine WL_idx sl47 (h24.mono RTSpan_mono l3_6) hy54 rfl rfl rfl ?_
         rintro b57 o57 _ hcb57 _ ⟨⟩
         refine WL_val (rn_fld fd44_1 rfl) rfl ?_; refine WL_val (rn_load na3 rfl (hS.sat.cell (hcb57 1 _ rfl))) rfl ?_
         refine WL_op rfl (OpP_newF (v := fun b => .slice (some ⟨b, 0, none⟩) 1 1) (cs := [.int .i64 y54.High]) (e := 3) (by kernel_rfl) hS.sat rfl (fun b58 G60 w59 hg hcb58 => ?_))
         have hS := hS.grow hg; have hO := hO.grow hg
         have leG60 := hg.le
         have hfb58 : RSl RInt 1 G60 (some ⟨b58, 0, none⟩) 1 1 [y54.High] := RSl.of_rd hcb58 (Rd.cons (c := [.int .i64 y54.High]) rfl rfl (Rd.nil RInt 1 _)) rfl (by decide)
         obtain ⟨y61, hy61, H⟩ := bnd H; refine WL_op rfl (OpP_append (k := 0) sl29 RInt_one hS hO rfl hnhs45_0 (hs45_0.mono RInt_mono leG60) hfb58 hy61 rfl rfl rfl rfl rfl (fun aw62 cw62 w62 clw62 hS hO hrw62 => ?_))
         have hO : Owns G60 w62 w0.heap.size ([⟨3, 1, y61.length, .slice aw62 y61.length cw62, clw62⟩]) := hO
         refine WL_val (rn_assign (v := (.slice aw62 y61.length cw62)) rfl) rfl ?_; refine WL_nil ?_; refine WC_region ?_; refine WL_val (rn_move (v := (.int .i64 s45.2)) rfl) rfl ?_; refine WL_val (rn_add rfl rfl) rfl ?_; refine WL_val (rn_assign (v := (.int .i64 (IntKind.i64.wrap (s45.2 + 1)))) rfl) rfl ?_; refine WL_nil ?_
         have hO : Owns G60 w62 w0.heap.size ([⟨3, 1, y61.length, .slice aw62 y61.length cw62, clw62⟩]) := hO
         have H := Option.some.inj H; subst H; refine ⟨_, rfl, ?_⟩
         have l5_7 := leG50.trans leG60
         exact ⟨_, G60, aw62, y61.length, cw62, clw62, upds_self _ _ ⟨rfl, rfl, rfl, rfl, rfl, rfl, rfl, rfl, trivial⟩, l5_7, hS, hO, rfl, hrw62⟩
       ·have H := ifF hb51 H; refine WC_exit rfl ?_
        have hO : Owns G50 w49 w0.heap.size ([⟨3, 1, ns45_0, .slice as45_0 ns45_0 cs45_0, clas45_0⟩]) := hO
        have H := Option.some.inj H; subst H
        have hres := hqq47 _ rfl
        subst hres
        exact ⟨_, _, G50, as45_0, ns45_0, cs45_0, clas45_0, rfl, upds_self _ _ ⟨rfl, rfl, rfl, rfl, rfl, rfl, trivial⟩, leG50, hS, hO, hnhs45_0, hs45_0⟩
     ·rintro F w63 ⟨p46, Fb, G64, ap46_0, np46_0, cp46_0, clap46_0, rfl, rfl, leG64, hS, hO, hnhp46_0, hp46_0⟩
      refine WC_seq ?_; refine WC_region ?_
      have l1_6 := (l1_4.trans leG35).trans leG64
      refine WL_val (rn_loadA ag26 (cs := [.slice a1 n1 c1, .slice a2 n2 c2, .slice a3 n3 c3]) rfl rfl (fun j v hj => (hS.sat.le l1_6).cell (hcb4.drop_take 0 3 j v hj))) rfl ?_; refine WL_val (rn_move (v := (.slice a28 n28 c28)) rfl) rfl ?_; obtain ⟨y65, hy65, H⟩ := bnd H
      have l0_6 := (l0_4.trans leG35).trans leG64
      have l4_6 := leG35.trans leG64
      refine WL_op rfl (OpP_callV cb27 (f27_ok (x0 := x0) (x1 := y25.1) hS.sat (h1.mono RTLandPerson_mono l0_6) (h2.mono RTLandEvent_mono l0_6) (h3.mono RTLandMemory_mono l0_6) (h28.mono RInt_mono l4_6) hy65) rfl rfl (fun w66 hb => ?_)); have hS := hS.keep hb; have hO := hO.below hb; refine WL_val (rn_move (v := (.tuple #[.bool y65.1, .int .i64 y65.2])) rfl) rfl ?_; refine WL_val (rn_extract (v := (.bool y65.1)) rfl rfl) rfl ?_; refine WL_val (rn_extract (v := (.int .i64 y65.2)) rfl rfl) rfl ?_; refine WL_val (rn_assign (v := (.bool y65.1)) rfl) rfl ?_; refine WL_val (rn_assign (v := (.int .i64 y65.2)) rfl) rfl ?_; refine WL_nil ?_; refine WC_seq ?_; refine WC_region ?_; refine WL_val (rn_loadA ag26 (cs := [.slice a1 n1 c1, .slice a2 n2 c2, .slice a3 n3 c3]) rfl rfl (fun j v hj => (hS.sat.le l1_6).cell (hcb4.drop_take 0 3 j v hj))) rfl ?_; refine WL_val (rn_move (v := (.slice ap46_0 np46_0 cp46_0)) rfl) rfl ?_; obtain ⟨y67, hy67, H⟩ := bnd H; obtain ⟨Gv68, leGv68, hSGv68, hOGv68, hvGv68⟩ := hO.freezeS hS RInt_mono (k := 0) rfl hp46_0 hnhp46_0; refine WL_op rfl (OpP_callV cb27 (f27_ok (x0 := x0) (x1 := p46) hSGv68.sat ((h1.mono RTLandPerson_mono l0_6).mono RTLandPerson_mono leGv68) ((h2.mono RTLandEvent_mono l0_6).mono RTLandEvent_mono leGv68) ((h3.mono RTLandMemory_mono l0_6).mono RTLandMemory_mono leGv68) hvGv68 hy67) rfl rfl (fun w69 hb => ?_)); have hS := hS.keep hb; have hO := hO.below hb; refine WL_val (rn_move (v := (.tuple #[.bool y67.1, .int .i64 y67.2])) rfl) rfl ?_; refine WL_val (rn_extract (v := (.bool y67.1)) rfl rfl) rfl ?_; refine WL_val (rn_extract (v := (.int .i64 y67.2)) rfl rfl) rfl ?_; refine WL_val (rn_assign (v := (.bool y67.1)) rfl) rfl ?_; refine WL_val (rn_assign (v := (.int .i64 y67.2)) rfl) rfl ?_; refine WL_nil ?_; refine WC_seq ?_; refine WC_seq ?_; obtain ⟨q70, hq70, H⟩ := bnd H; refine WC_cut (fun F w => ∃ (Fb : Fr), F = upds Fb [(1, .int .i64 x1), (2, .int .i64 x2), (3, .pointer (some ⟨b4, 0, none⟩)), (11, .pointer (some ⟨b31, 0, none⟩)), (132, .bool q70)] ∧ w69 = w) ?_ ?_
      ·have Hoq70 := H; have H := hq70; refine WC_region ?_; refine WL_val (rn_move (v := (.int .i64 y65.2)) rfl) rfl ?_; refine WL_val (rn_neq rfl rfl) rfl ?_; refine WL_val (rn_move (v := (.bool (y65.2 != 0))) rfl) rfl ?_
       rcases bcases (y65.2 != 0) with hb71 | hb71
       ·have H := ifT hb71 H; refine WL_guardN rfl hb71 rfl rfl rfl ?_; refine WL_guardN rfl hb71 rfl rfl rfl ?_; refine WL_val (rn_pickT (v := (.bool true)) rfl hb71 rfl) rfl ?_; refine WL_val (rn_move (v := (.bool true)) rfl) rfl ?_; refine WL_guardN rfl rfl rfl rfl rfl ?_; refine WL_guardN rfl rfl rfl rfl rfl ?_; refine WL_val (rn_pickT (v := (.bool true)) rfl rfl rfl) rfl ?_; refine WL_val (rn_move (v := (.bool true)) rfl) rfl ?_; refine WL_guardN rfl rfl rfl rfl rfl ?_; refine WL_guardN rfl rfl rfl rfl rfl ?_; refine WL_val (rn_pickT (v := (.bool true)) rfl rfl rfl) rfl ?_; refine WL_nil ?_; have H := Option.some.inj H; subst H
        exact ⟨_, upds_self _ _ ⟨rfl, rfl, rfl, rfl, rfl, trivial⟩, rfl⟩
       ·have H := ifF hb71 H; refine WL_guardY rfl hb71 rfl rfl ?_; refine WL_val (rn_move (v := (.int .i64 y67.2)) rfl) rfl ?_; refine WL_guardY rfl hb71 rfl rfl ?_; refine WL_val (rn_neq rfl rfl) rfl ?_; refine WL_val (rn_pickF (v := (.bool (y67.2 != 0))) rfl hb71 rfl) rfl ?_; refine WL_val (rn_move (v := (.bool (y67.2 != 0))) rfl) rfl ?_
        rcases bcases (y67.2 != 0) with hb72 | hb72
        ·have H := ifT hb72 H; refine WL_guardN rfl hb72 rfl rfl rfl ?_; refine WL_guardN rfl hb72 rfl rfl rfl ?_; refine WL_val (rn_pickT (v := (.bool true)) rfl hb72 rfl) rfl ?_; refine WL_val (rn_move (v := (.bool true)) rfl) rfl ?_; refine WL_guardN rfl rfl rfl rfl rfl ?_; refine WL_guardN rfl rfl rfl rfl rfl ?_; refine WL_val (rn_pickT (v := (.bool true)) rfl rfl rfl) rfl ?_; refine WL_nil ?_; have H := Option.some.inj H; subst H
         exact ⟨_, upds_self _ _ ⟨rfl, rfl, rfl, rfl, rfl, trivial⟩, rfl⟩
        ·have H := ifF hb72 H; refine WL_guardY rfl hb72 rfl rfl ?_; refine WL_val (rn_move (v := (.bool y65.1)) rfl) rfl ?_; refine WL_guardY rfl hb72 rfl rfl ?_; refine WL_val (rn_not rfl) rfl ?_; refine WL_val (rn_pickF (v := (.bool (!y65.1))) rfl hb72 rfl) rfl ?_; refine WL_val (rn_move (v := (.bool (!y65.1))) rfl) rfl ?_
         rcases bcases (!y65.1) with hb73 | hb73
         ·have H := ifT hb73 H; refine WL_guardN rfl hb73 rfl rfl rfl ?_; refine WL_guardN rfl hb73 rfl rfl rfl ?_; refine WL_val (rn_pickT (v := (.bool true)) rfl hb73 rfl) rfl ?_; refine WL_nil ?_; have H := Option.some.inj H; subst H
          exact ⟨_, upds_self _ _ ⟨rfl, rfl, rfl, rfl, rfl, trivial⟩, rfl⟩
         ·have H := ifF hb73 H; refine WL_guardY rfl hb73 rfl rfl ?_; refine WL_val (rn_move (v := (.bool y67.1)) rfl) rfl ?_; refine WL_guardY rfl hb73 rfl rfl ?_; refine WL_val (rn_not rfl) rfl ?_; refine WL_val (rn_pickF (v := (.bool (!y67.1))) rfl hb73 rfl) rfl ?_; refine WL_nil ?_; have H := Option.some.inj H; subst H
          exact ⟨_, upds_self _ _ ⟨rfl, rfl, rfl, rfl, rfl, trivial⟩, rfl⟩
      ·rintro F wl ⟨Fb, rfl, rfl⟩
       refine WC_cond rfl (fun hb76 => ?_) (fun hb76 => ?_)
       ·have H := ifT hb76 H; refine WC_seq ?_; refine WC_region ?_; refine WL_val (rn_assign (v := (.bool false)) rfl) rfl ?_; refine WL_nil ?_; refine WC_ret ?_
        have H : some false = some r := H
        have H := Option.some.inj H; subst H
        exact ⟨rfl, hS.below⟩
       ·have H := ifF hb76 H; refine WC_skip ?_; refine WC_seq ?_; refine WC_seq ?_; refine WC_region ?_; refine WL_val (rn_move (v := (.int .i64 x1)) rfl) rfl ?_; refine WL_val (rn_move (v := (.int .i64 x2)) rfl) rfl ?_; refine WL_val (rn_eql rfl rfl) rfl ?_; refine WL_nil ?_; refine WC_cond rfl (fun hb77 => ?_) (fun hb77 => ?_)
        ·have H := ifT hb77 H; refine WC_seq ?_; obtain ⟨q78, hq78, H⟩ := bnd H; refine WC_cut (fun F w => ∃ (Fb : Fr) (G : Gm), F = upds Fb [(6, .bool q78)] ∧ Gle G64 G ∧ Since w0.heap.size G0 w0 G w ∧ Owns G w w0.heap.size [⟨3, 1, np46_0, .slice ap46_0 np46_0 cp46_0, clap46_0⟩]) ?_ ?_
         ·have Hoq78 := H; have H := hq78; refine WC_region ?_; refine WL_val (rn_loadA ag44 (cs := [.int .i64 y29.1.Low, .int .i64 y29.1.High]) rfl rfl (fun j v hj => (hS.sat.le leG64).cell (hcG35.drop_take 0 2 j v hj))) rfl ?_
          refine WL_val (v := (.agg #[.int .i64 0, .int .i64 0])) (by kernel_rfl) rfl ?_
          refine WL_val (rn_eqlA (xs := [y29.1.Low, y29.1.High]) (ys := [0, 0]) in44 rfl rfl rfl rfl) rfl ?_; refine WL_val (rn_move (v := (.bool (([y29.1.Low, y29.1.High] : List Int) == [0, 0]))) rfl) rfl ?_
          rcases bcases (([y29.1.Low, y29.1.High] : List Int) == [0, 0]) with hb79 | hb79
          ·have H := ifT hb79 H; refine WL_guardY rfl hb79 rfl rfl ?_; obtain ⟨y80, hy80, H⟩ := bnd H; refine WL_op rfl (OpP_callV cb15 (f15_ok  hS.sat (hT.mono l0_6)  hy80) rfl rfl (fun w81 hb => ?_)); have hS := hS.keep hb; have hO := hO.below hb; refine WL_val (rn_pickT (v := (.bool y80)) rfl hb79 rfl) rfl ?_; refine WL_val (rn_assign (v := (.bool y80)) rfl) rfl ?_; refine WL_nil ?_
           have hO : Owns G64 w81 w0.heap.size ([⟨3, 1, np46_0, .slice ap46_0 np46_0 cp46_0, clap46_0⟩]) := hO
           have H := Option.some.inj H; subst H
           exact ⟨_, G64, upds_self _ _ ⟨rfl, trivial⟩, Gle.refl _, hS, hO⟩
          ·have H := ifF hb79 H; refine WL_guardN rfl hb79 rfl rfl rfl ?_; refine WL_val (rn_pickF (v := (.bool false)) rfl hb79 rfl) rfl ?_; refine WL_val (rn_assign (v := (.bool false)) rfl) rfl ?_; refine WL_nil ?_
           have hO : Owns G64 w69 w0.heap.size ([⟨3, 1, np46_0, .slice ap46_0 np46_0 cp46_0, clap46_0⟩]) := hO
           have H := Option.some.inj H; subst H
           exact ⟨_, G64, upds_self _ _ ⟨rfl, trivial⟩, Gle.refl _, hS, hO⟩
         ·rintro F w82 ⟨Fb, G83, rfl, leG83, hS, hO⟩
          refine WC_ret ?_
          have H : some q78 = some r := H
          have H := Option.some.inj H; subst H
          exact ⟨rfl, hS.below⟩
        ·have H := ifF hb77 H; refine WC_skip ?_; refine WC_seq ?_; refine WC_seq ?_; obtain ⟨q84, hq84, H⟩ := bnd H; refine WC_cut (fun F w => ∃ (Fb : Fr), F = upds Fb [(1, .int .i64 x1), (2, .int .i64 x2), (3, .pointer (some ⟨b4, 0, none⟩)), (11, .pointer (some ⟨b31, 0, none⟩)), (162, .bool q84)] ∧ w69 = w) ?_ ?_
         ·have Hoq84 := H; have H := hq84; refine WC_region ?_; refine WL_val (rn_fld fd26_2 rfl) rfl ?_; refine WL_val (rn_load na24 rfl ((hS.sat.le l1_6).cell (hcb4 2 _ rfl))) rfl ?_; refine WL_val (rn_len sl24 rfl rfl (h3.mono RTLandMemory_mono l0_6).1) rfl ?_; refine WL_val (rn_geq rfl rfl) rfl ?_; refine WL_val (rn_move (v := (.bool (decide (10 ≤ (x0.Memories.length : Int))))) rfl) rfl ?_
          rcases bcases (decide (10 ≤ (x0.Memories.length : Int))) with hb85 | hb85
          ·have H := ifT hb85 H; refine WL_guardN rfl hb85 rfl rfl rfl ?_; refine WL_guardN rfl hb85 rfl rfl rfl ?_; refine WL_guardN rfl hb85 rfl rfl rfl ?_; refine WL_val (rn_pickT (v := (.bool true)) rfl hb85 rfl) rfl ?_; refine WL_val (rn_move (v := (.bool true)) rfl) rfl ?_; refine WL_guardN rfl rfl rfl rfl rfl ?_; refine WL_guardN rfl rfl rfl rfl rfl ?_; refine WL_guardN rfl rfl rfl rfl rfl ?_; refine WL_val (rn_pickT (v := (.bool true)) rfl rfl rfl) rfl ?_; refine WL_val (rn_move (v := (.bool true)) rfl) rfl ?_; refine WL_guardN rfl rfl rfl rfl rfl ?_; refine WL_guardN rfl rfl rfl rfl rfl ?_; refine WL_guardN rfl rfl rfl rfl rfl ?_; refine WL_guardN rfl rfl rfl rfl rfl ?_; refine WL_guardN rfl rfl rfl rfl rfl ?_; refine WL_val (rn_pickT (v := (.bool true)) rfl rfl rfl) rfl ?_; refine WL_nil ?_; have H := Option.some.inj H; subst H
           exact ⟨_, upds_self _ _ ⟨rfl, rfl, rfl, rfl, rfl, trivial⟩, rfl⟩
          ·have H := ifF hb85 H; refine WL_guardY rfl hb85 rfl rfl ?_; refine WL_val (rn_fld fd44_0 rfl) rfl ?_; refine WL_guardY rfl hb85 rfl rfl ?_; refine WL_val (rn_load na3 rfl ((hS.sat.le leG64).cell (hcG35 0 _ rfl))) rfl ?_; refine WL_guardY rfl hb85 rfl rfl ?_; refine WL_val (rn_lss rfl rfl) rfl ?_; refine WL_val (rn_pickF (v := (.bool (decide (y29.1.Low < (-1000))))) rfl hb85 rfl) rfl ?_; refine WL_val (rn_move (v := (.bool (decide (y29.1.Low < (-1000))))) rfl) rfl ?_
           rcases bcases (decide (y29.1.Low < (-1000))) with hb86 | hb86
           ·have H := ifT hb86 H; refine WL_guardN rfl hb86 rfl rfl rfl ?_; refine WL_guardN rfl hb86 rfl rfl rfl ?_; refine WL_guardN rfl hb86 rfl rfl rfl ?_; refine WL_val (rn_pickT (v := (.bool true)) rfl hb86 rfl) rfl ?_; refine WL_val (rn_move (v := (.bool true)) rfl) rfl ?_; refine WL_guardN rfl rfl rfl rfl rfl ?_; refine WL_guardN rfl rfl rfl rfl rfl ?_; refine WL_guardN rfl rfl rfl rfl rfl ?_; refine WL_guardN rfl rfl rfl rfl rfl ?_; refine WL_guardN rfl rfl rfl rfl rfl ?_; refine WL_val (rn_pickT (v := (.bool true)) rfl rfl rfl) rfl ?_; refine WL_nil ?_; have H := Option.some.inj H; subst H
            exact ⟨_, upds_self _ _ ⟨rfl, rfl, rfl, rfl, rfl, trivial⟩, rfl⟩
           ·have H := ifF hb86 H; refine WL_guardY rfl hb86 rfl rfl ?_; refine WL_val (rn_fld fd44_1 rfl) rfl ?_; refine WL_guardY rfl hb86 rfl rfl ?_; refine WL_val (rn_load na3 rfl ((hS.sat.le leG64).cell (hcG35 1 _ rfl))) rfl ?_; refine WL_guardY rfl hb86 rfl rfl ?_; refine WL_val (rn_gtr rfl rfl) rfl ?_; refine WL_val (rn_pickF (v := (.bool (decide (1000 < y29.1.High)))) rfl hb86 rfl) rfl ?_; refine WL_val (rn_move (v := (.bool (decide (1000 < y29.1.High)))) rfl) rfl ?_
            rcases bcases (decide (1000 < y29.1.High)) with hb87 | hb87
            ·have H := ifT hb87 H; refine WL_guardN rfl hb87 rfl rfl rfl ?_; refine WL_guardN rfl hb87 rfl rfl rfl ?_; refine WL_guardN rfl hb87 rfl rfl rfl ?_; refine WL_guardN rfl hb87 rfl rfl rfl ?_; refine WL_guardN rfl hb87 rfl rfl rfl ?_; refine WL_val (rn_pickT (v := (.bool true)) rfl hb87 rfl) rfl ?_; refine WL_nil ?_; have H := Option.some.inj H; subst H
             exact ⟨_, upds_self _ _ ⟨rfl, rfl, rfl, rfl, rfl, trivial⟩, rfl⟩
            ·have H := ifF hb87 H; refine WL_guardY rfl hb87 rfl rfl ?_; refine WL_val (rn_fld fd44_0 rfl) rfl ?_; refine WL_guardY rfl hb87 rfl rfl ?_; refine WL_val (rn_load na3 rfl ((hS.sat.le leG64).cell (hcG35 0 _ rfl))) rfl ?_; refine WL_guardY rfl hb87 rfl rfl ?_; refine WL_val (rn_fld fd44_1 rfl) rfl ?_; refine WL_guardY rfl hb87 rfl rfl ?_; refine WL_val (rn_load na3 rfl ((hS.sat.le leG64).cell (hcG35 1 _ rfl))) rfl ?_; refine WL_guardY rfl hb87 rfl rfl ?_; refine WL_val (rn_gtr rfl rfl) rfl ?_; refine WL_val (rn_pickF (v := (.bool (decide (y29.1.High < y29.1.Low)))) rfl hb87 rfl) rfl ?_; refine WL_nil ?_; have H := Option.some.inj H; subst H
             exact ⟨_, upds_self _ _ ⟨rfl, rfl, rfl, rfl, rfl, trivial⟩, rfl⟩
         ·rintro F wl ⟨Fb, rfl, rfl⟩
          refine WC_cond rfl (fun hb90 => ?_) (fun hb90 => ?_)
          ·have H := ifT hb90 H; refine WC_seq ?_; obtain ⟨q91, hq91, H⟩ := bnd H; refine WC_cut (fun F w => ∃ (Fb : Fr) (G : Gm), F = upds Fb [(6, .bool q91)] ∧ Gle G64 G ∧ Since w0.heap.size G0 w0 G w ∧ Owns G w w0.heap.size [⟨3, 1, np46_0, .slice ap46_0 np46_0 cp46_0, clap46_0⟩]) ?_ ?_
           ·have Hoq91 := H; have H := hq91; refine WC_region ?_; refine WL_val (rn_fld fd26_2 rfl) rfl ?_; refine WL_val (rn_load na24 rfl ((hS.sat.le l1_6).cell (hcb4 2 _ rfl))) rfl ?_; refine WL_val (rn_len sl24 rfl rfl (h3.mono RTLandMemory_mono l0_6).1) rfl ?_; refine WL_val (rn_geq rfl rfl) rfl ?_; refine WL_val (rn_move (v := (.bool (decide (10 ≤ (x0.Memories.length : Int))))) rfl) rfl ?_
            rcases bcases (decide (10 ≤ (x0.Memories.length : Int))) with hb92 | hb92
            ·have H := ifT hb92 H; refine WL_guardY rfl hb92 rfl rfl ?_; obtain ⟨y93, hy93, H⟩ := bnd H; refine WL_op rfl (OpP_callV cb15 (f15_ok  hS.sat (hT.mono l0_6)  hy93) rfl rfl (fun w94 hb => ?_)); have hS := hS.keep hb; have hO := hO.below hb; refine WL_val (rn_pickT (v := (.bool y93)) rfl hb92 rfl) rfl ?_; refine WL_val (rn_assign (v := (.bool y93)) rfl) rfl ?_; refine WL_nil ?_
             have hO : Owns G64 w94 w0.heap.size ([⟨3, 1, np46_0, .slice ap46_0 np46_0 cp46_0, clap46_0⟩]) := hO
             have H := Option.some.inj H; subst H
             exact ⟨_, G64, upds_self _ _ ⟨rfl, trivial⟩, Gle.refl _, hS, hO⟩
            ·have H := ifF hb92 H; refine WL_guardN rfl hb92 rfl rfl rfl ?_; refine WL_val (rn_pickF (v := (.bool false)) rfl hb92 rfl) rfl ?_; refine WL_val (rn_assign (v := (.bool false)) rfl) rfl ?_; refine WL_nil ?_
             have hO : Owns G64 w69 w0.heap.size ([⟨3, 1, np46_0, .slice ap46_0 np46_0 cp46_0, clap46_0⟩]) := hO
             have H := Option.some.inj H; subst H
             exact ⟨_, G64, upds_self _ _ ⟨rfl, trivial⟩, Gle.refl _, hS, hO⟩
           ·rintro F w95 ⟨Fb, G96, rfl, leG96, hS, hO⟩
            refine WC_ret ?_
            have H : some q91 = some r := H
            have H := Option.some.inj H; subst H
            exact ⟨rfl, hS.below⟩
          ·have H := ifF hb90 H; refine WC_skip ?_; refine WC_seq ?_; refine WC_seq ?_; refine WC_region ?_; refine WL_val (rn_assign (v := (.int .i64 0)) rfl) rfl ?_; refine WL_nil ?_; obtain ⟨q99, hq99, H⟩ := bnd H; refine WC_cut (fun F w => ∃ (p98 : Unit) (Fb : Fr) (G : Gm), q99 = .inl p98 ∧ F = upds Fb [] ∧ Gle G64 G ∧ Since w0.heap.size G0 w0 G w ∧ Owns G w w0.heap.size [⟨3, 1, np46_0, .slice ap46_0 np46_0 cp46_0, clap46_0⟩]) ?_ ?_
           ·refine WC_block (WC_loop hq99 (fun s97 F w => ∃ (Fb : Fr) (G : Gm), F = upds Fb [(1, .int .i64 x1), (2, .int .i64 x2), (3, .pointer (some ⟨b4, 0, none⟩)), (11, .pointer (some ⟨b31, 0, none⟩)), (19, .int .i64 s97)] ∧ Gle G64 G ∧ Since w0.heap.size G0 w0 G w ∧ Owns G w w0.heap.size [⟨3, 1, np46_0, .slice ap46_0 np46_0 cp46_0, clap46_0⟩]) ?_ ?_)
            ·have hO : Owns G64 w69 w0.heap.size ([⟨3, 1, np46_0, .slice ap46_0 np46_0 cp46_0, clap46_0⟩]) := hO
             exact ⟨_, G64, upds_self _ _ ⟨rfl, rfl, rfl, rfl, rfl, trivial⟩, Gle.refl _, hS, hO⟩
            ·rintro s97 F w101 t100 ⟨Fb, G102, rfl, leG102, hS, hO⟩
             intro H1 hqq99
             have Hoq99 := H; have H := H1
             unfold f12_b1 at H
             refine WC_seq ?_; refine WC_seq ?_; refine WC_region ?_; refine WL_val (rn_move (v := (.int .i64 s97)) rfl) rfl ?_; refine WL_val (rn_lss rfl rfl) rfl ?_; refine WL_nil ?_; refine WC_cond rfl (fun hb103 => ?_) (fun hb103 => ?_)
             ·have H := ifT hb103 H; refine WC_skip ?_; refine WC_seq ?_; obtain ⟨q104, hq104, H⟩ := bnd H; refine WC_cut (fun F w => ∃ (p105 : Unit) (Fb : Fr) (G : Gm), q104 = .inl p105 ∧ F = upds Fb [(1, .int .i64 x1), (2, .int .i64 x2), (3, .pointer (some ⟨b4, 0, none⟩)), (11, .pointer (some ⟨b31, 0, none⟩)), (19, .int .i64 s97)] ∧ Gle G102 G ∧ Since w0.heap.size G0 w0 G w ∧ Owns G w w0.heap.size [⟨3, 1, np46_0, .slice ap46_0 np46_0 cp46_0, clap46_0⟩]) ?_ ?_
              ·have Hoq104 := H; have H := hq104; refine WC_block ?_; refine WC_seq ?_; refine WC_region ?_; refine WL_val (rn_fld fd44_0 rfl) rfl ?_
               have l5_7 := leG64.trans leG102
               refine WL_val (rn_load na3 rfl ((hS.sat.le l5_7).cell (hcG35 0 _ rfl))) rfl ?_; refine WL_val (rn_fld fd44_1 rfl) rfl ?_; refine WL_val (rn_load na3 rfl ((hS.sat.le l5_7).cell (hcG35 1 _ rfl))) rfl ?_; refine WL_val (rn_fld fd44_0 rfl) rfl ?_; refine WL_val (rn_load na3 rfl ((hS.sat.le l5_7).cell (hcG35 0 _ rfl))) rfl ?_; refine WL_val (rn_sub rfl rfl) rfl ?_; refine WL_val (rn_fld fd44_1 rfl) rfl ?_; refine WL_val (rn_load na3 rfl ((hS.sat.le l5_7).cell (hcG35 1 _ rfl))) rfl ?_; refine WL_val (rn_add rfl rfl) rfl ?_
               refine WL_op rfl (OpP_newF (v := fun b => .slice (some ⟨b, 0, none⟩) 4 4) (cs := [.int .i64 y29.1.Low, .int .i64 y29.1.High, .int .i64 (IntKind.i64.wrap (y29.1.Low - 1)), .int .i64 (IntKind.i64.wrap (y29.1.High + 1))]) (e := 3) (by kernel_rfl) hS.sat rfl (fun b106 G108 w107 hg hcb106 => ?_))
               have hS := hS.grow hg; have hO := hO.grow hg
               have leG108 := hg.le
               have hfb106 : RSl RInt 1 G108 (some ⟨b106, 0, none⟩) 4 4 [y29.1.Low, y29.1.High, IntKind.i64.wrap (y29.1.Low - 1), IntKind.i64.wrap (y29.1.High + 1)] := RSl.of_rd hcb106 (Rd.cons (c := [.int .i64 y29.1.Low]) rfl rfl (Rd.cons (c := [.int .i64 y29.1.High]) rfl rfl (Rd.cons (c := [.int .i64 (IntKind.i64.wrap (y29.1.Low - 1))]) rfl rfl (Rd.cons (c := [.int .i64 (IntKind.i64.wrap (y29.1.High + 1))]) rfl rfl (Rd.nil RInt 1 _))))) rfl (by decide)
               refine WL_val (rn_move (v := (.int .i64 s97)) rfl) rfl ?_; obtain ⟨y109, hy109, H⟩ := bnd H; refine WL_idx sl29 hfb106 hy109 rfl rfl rfl ?_
               rintro b110 o110 _ hcb110 _ ⟨⟩
               refine WL_val (rn_load na3 rfl (hS.sat.cell (hcb110 0 _ rfl))) rfl ?_; refine WL_val (rn_assign (v := (.int .i64 y109)) rfl) rfl ?_; refine WL_nil ?_; refine WC_seq ?_; refine WC_seq ?_; obtain ⟨q111, hq111, H⟩ := bnd H; refine WC_cut (fun F w => ∃ (Fb : Fr), F = upds Fb [(1, .int .i64 x1), (2, .int .i64 x2), (3, .pointer (some ⟨b4, 0, none⟩)), (11, .pointer (some ⟨b31, 0, none⟩)), (19, .int .i64 s97), (20, .int .i64 y109), (193, .bool q111)] ∧ w107 = w) ?_ ?_
               ·have Hoq111 := H; have H := hq111; refine WC_region ?_; refine WL_val (rn_move (v := (.int .i64 y109)) rfl) rfl ?_; refine WL_val (rn_lss rfl rfl) rfl ?_; refine WL_val (rn_move (v := (.bool (decide (y109 < (-1000))))) rfl) rfl ?_
                rcases bcases (decide (y109 < (-1000))) with hb112 | hb112
                ·have H := ifT hb112 H; refine WL_guardN rfl hb112 rfl rfl rfl ?_; refine WL_guardN rfl hb112 rfl rfl rfl ?_; refine WL_val (rn_pickT (v := (.bool true)) rfl hb112 rfl) rfl ?_; refine WL_nil ?_; have H := Option.some.inj H; subst H
                 exact ⟨_, upds_self _ _ ⟨rfl, rfl, rfl, rfl, rfl, rfl, rfl, trivial⟩, rfl⟩
                ·have H := ifF hb112 H; refine WL_guardY rfl hb112 rfl rfl ?_; refine WL_val (rn_move (v := (.int .i64 y109)) rfl) rfl ?_; refine WL_guardY rfl hb112 rfl rfl ?_; refine WL_val (rn_gtr rfl rfl) rfl ?_; refine WL_val (rn_pickF (v := (.bool (decide (1000 < y109)))) rfl hb112 rfl) rfl ?_; refine WL_nil ?_; have H := Option.some.inj H; subst H
                 exact ⟨_, upds_self _ _ ⟨rfl, rfl, rfl, rfl, rfl, rfl, rfl, trivial⟩, rfl⟩
               ·rintro F wl ⟨Fb, rfl, rfl⟩
                refine WC_cond rfl (fun hb115 => ?_) (fun hb115 => ?_)
                ·have H := ifT hb115 H; refine WC_exit rfl ?_
                 have hO : Owns G108 w107 w0.heap.size ([⟨3, 1, np46_0, .slice ap46_0 np46_0 cp46_0, clap46_0⟩]) := hO
                 have H := Option.some.inj H; subst H
                 exact ⟨_, _, G108, rfl, upds_self _ _ ⟨rfl, rfl, rfl, rfl, rfl, trivial⟩, leG108, hS, hO⟩
                ·have H := ifF hb115 H; refine WC_skip ?_; refine WC_seq ?_; refine WC_region ?_
                 have l1_8 := (l1_6.trans leG102).trans leG108
                 refine WL_val (rn_loadA ag26 (cs := [.slice a1 n1 c1, .slice a2 n2 c2, .slice a3 n3 c3]) rfl rfl (fun j v hj => (hS.sat.le l1_8).cell (hcb4.drop_take 0 3 j v hj))) rfl ?_
                 refine WL_op rfl (OpP_newO (v := fun b => .pointer (some ⟨b, 0, none⟩)) (cs := [.slice none 0 0, .slice none 0 0, .slice none 0 0]) (e := 26) (by kernel_rfl) hS.sat hO rfl 3 1 rfl (by decide) (fun b116 w117 hb hO => ?_))
                 have hS := hS.keep hb; refine WL_op rfl (OpP_store (vs := [.slice a1 n1 c1, .slice a2 n2 c2, .slice a3 n3 c3]) sz26 hS hO (k := 0) rfl rfl rfl rfl rfl (one_all rfl) (Nat.le_of_ble_eq_true rfl) (fun w119 hS hO => ?_))
                 have hO : Owns G108 w119 w0.heap.size ([⟨26, 3, 1, .slice (some ⟨b116, 0, none⟩) 1 1, [.slice a1 n1 c1, .slice a2 n2 c2, .slice a3 n3 c3]⟩, ⟨3, 1, np46_0, .slice ap46_0 np46_0 cp46_0, clap46_0⟩]) := hO
                 refine WL_nil ?_; refine WC_seq ?_; refine WC_region ?_; refine WL_val (rn_fld fd26_2 rfl) rfl ?_; refine WL_val (rn_load na24 rfl ((hS.sat.le l1_8).cell (hcb4 2 _ rfl))) rfl ?_; have hO := hO.cons_nil 46 4; obtain ⟨y121, hy121, H⟩ := bnd H
                 have l0_8 := (l0_6.trans leG102).trans leG108
                 refine WL_op rfl (OpP_append (k := 0) sl24 RTLandMemory_one hS hO rfl rfl (Rd.nil RTLandMemory 4 G108) (h3.mono RTLandMemory_mono l0_8) hy121 rfl rfl rfl rfl rfl (fun aw122 cw122 w122 clw122 hS hO hrw122 => ?_))
                 have hO : Owns G108 w122 w0.heap.size ([⟨46, 4, y121.length, .slice aw122 y121.length cw122, clw122⟩, ⟨26, 3, 1, .slice (some ⟨b116, 0, none⟩) 1 1, [.slice a1 n1 c1, .slice a2 n2 c2, .slice a3 n3 c3]⟩, ⟨3, 1, np46_0, .slice ap46_0 np46_0 cp46_0, clap46_0⟩]) := hO
                 refine WL_val (rn_move (v := (.int .i64 x1)) rfl) rfl ?_; refine WL_val (rn_move (v := (.int .i64 x2)) rfl) rfl ?_; refine WL_val (rn_move (v := (.int .i64 y109)) rfl) rfl ?_; refine WL_val (rn_move (v := (.int .i64 y109)) rfl) rfl ?_
                 refine WL_val (v := (.agg #[.int .i64 y109, .int .i64 y109])) (by kernel_rfl) rfl ?_
                 refine WL_val (v := (.agg #[.int .i64 x1, .int .i64 x2, .int .i64 y109, .int .i64 y109])) (by kernel_rfl) rfl ?_
                 refine WL_op rfl (OpP_newF (v := fun b => .slice (some ⟨b, 0, none⟩) 1 1) (cs := [.int .i64 x1, .int .i64 x2, .int .i64 y109, .int .i64 y109]) (e := 46) (by kernel_rfl) hS.sat rfl (fun b123 G125 w124 hg hcb123 => ?_))
                 have hS := hS.grow hg; have hO := hO.grow hg
                 have leG125 := hg.le
                 have hfb123 : RSl RTLandMemory 4 G125 (some ⟨b123, 0, none⟩) 1 1 [(⟨x1, x2, (⟨y109, y109⟩ : TSpan)⟩ : TLandMemory)] := RSl.of_rd hcb123 (Rd.cons (c := [.int .i64 x1, .int .i64 x2, .int .i64 y109, .int .i64 y109]) rfl rfl (Rd.nil RTLandMemory 4 _)) rfl (by decide)
                 obtain ⟨y126, hy126, H⟩ := bnd H; refine WL_op rfl (OpP_append (k := 0) sl24 RTLandMemory_one hS hO rfl rfl (hrw122.mono RTLandMemory_mono leG125) hfb123 hy126 rfl rfl rfl rfl rfl (fun aw127 cw127 w127 clw127 hS hO hrw127 => ?_))
                 have hO : Owns G125 w127 w0.heap.size ([⟨46, 4, y126.length, .slice aw127 y126.length cw127, clw127⟩, ⟨26, 3, 1, .slice (some ⟨b116, 0, none⟩) 1 1, [.slice a1 n1 c1, .slice a2 n2 c2, .slice a3 n3 c3]⟩, ⟨3, 1, np46_0, .slice ap46_0 np46_0 cp46_0, clap46_0⟩]) := hO
                 refine WL_val (rn_fld fd26_2 rfl) rfl ?_; refine WL_op rfl (OpP_store (vs := [.slice aw127 y126.length cw127]) sz24 hS hO (k := 1) rfl rfl rfl rfl rfl (one_all rfl) (Nat.le_of_ble_eq_true rfl) (fun w128 hS hO => ?_))
                 have hO : Owns G125 w128 w0.heap.size ([⟨46, 4, y126.length, .slice aw127 y126.length cw127, clw127⟩, ⟨26, 3, 1, .slice (some ⟨b116, 0, none⟩) 1 1, [.slice a1 n1 c1, .slice a2 n2 c2, .slice aw127 y126.length cw127]⟩, ⟨3, 1, np46_0, .slice ap46_0 np46_0 cp46_0, clap46_0⟩]) := hO
                 refine WL_nil ?_; refine WC_seq ?_; refine WC_region ?_; refine WL_val (rn_loadA ag26 (cs := [.slice a1 n1 c1, .slice a2 n2 c2, .slice aw127 y126.length cw127]) rfl rfl (fun j v hj => own_sub hO (k := 1) rfl 0 3 j v hj)) rfl ?_; obtain ⟨G129, leG129, hS, hO, hfG129⟩ := hO.freezeS hS RTLandMemory_mono (k := 0) rfl hrw127 rfl; obtain ⟨y130, hy130, H⟩ := bnd H
                 have l0_10 := (l0_8.trans leG125).trans leG129
                 refine WL_op rfl (OpP_callG cb28 (f28_ok (x0 := (⟨x0.People, x0.Events, y126⟩ : TLandBook)) hS.sat (h1.mono RTLandPerson_mono l0_10) (h2.mono RTLandEvent_mono l0_10) hfG129 hy130) rfl rfl (fun vy130 G132 w131 hg hvy130 => ?_)); obtain ⟨a133, n133, c133, ⟨⟩, h133⟩ := hvy130; have hS := hS.grow hg; have hO := hO.grow hg
                 have leG132 := hg.le
                 refine WL_val (rn_move (v := (.tuple #[.slice a133 n133 c133, .int .i64 y130.2])) rfl) rfl ?_; refine WL_val (rn_extract (v := (.slice a133 n133 c133)) rfl rfl) rfl ?_; refine WL_val (rn_extract (v := (.int .i64 y130.2)) rfl rfl) rfl ?_; refine WL_val (rn_assign (v := (.slice a133 n133 c133)) rfl) rfl ?_; refine WL_val (rn_assign (v := (.int .i64 y130.2)) rfl) rfl ?_; refine WL_nil ?_; refine WC_seq ?_; obtain ⟨q134, hq134, H⟩ := bnd H; refine WC_cut (fun F w => ∃ (Fb : Fr), F = upds Fb [(1, .int .i64 x1), (2, .int .i64 x2), (3, .pointer (some ⟨b4, 0, none⟩)), (11, .pointer (some ⟨b31, 0, none⟩)), (19, .int .i64 s97), (225, .bool q134)] ∧ w131 = w) ?_ ?_
                 ·have Hoq134 := H; have H := hq134; refine WC_region ?_; refine WL_val (rn_move (v := (.int .i64 s97)) rfl) rfl ?_; refine WL_val (rn_lss rfl rfl) rfl ?_; refine WL_val (rn_move (v := (.bool (decide (s97 < 2)))) rfl) rfl ?_
                  rcases bcases (decide (s97 < 2)) with hb135 | hb135
                  ·have H := ifT hb135 H; refine WL_guardY rfl hb135 rfl rfl ?_; refine WL_val (rn_move (v := (.int .i64 y130.2)) rfl) rfl ?_; refine WL_guardY rfl hb135 rfl rfl ?_; refine WL_val (rn_neq rfl rfl) rfl ?_; refine WL_val (rn_pickT (v := (.bool (y130.2 != 0))) rfl hb135 rfl) rfl ?_; refine WL_val (rn_move (v := (.bool (y130.2 != 0))) rfl) rfl ?_
                   rcases bcases (y130.2 != 0) with hb136 | hb136
                   ·have H := ifT hb136 H; refine WL_guardN rfl hb136 rfl rfl rfl ?_; refine WL_guardN rfl hb136 rfl rfl rfl ?_; refine WL_guardN rfl hb136 rfl rfl rfl ?_; refine WL_guardU rfl rfl rfl rfl ?_; refine WL_guardU rfl rfl rfl rfl ?_; refine WL_guardN rfl hb136 rfl rfl rfl ?_; refine WL_val (rn_pickT (v := (.bool true)) rfl hb136 rfl) rfl ?_; refine WL_nil ?_; have H := Option.some.inj H; subst H
                    exact ⟨_, upds_self _ _ ⟨rfl, rfl, rfl, rfl, rfl, rfl, trivial⟩, rfl⟩
                   ·have H := ifF hb136 H; refine WL_guardY rfl hb136 rfl rfl ?_; refine WL_val (rn_move (v := (.int .i64 s97)) rfl) rfl ?_; refine WL_guardY rfl hb136 rfl rfl ?_; refine WL_val (rn_geq rfl rfl) rfl ?_; refine WL_guardY rfl hb136 rfl rfl ?_; refine WL_val (rn_move (v := (.bool (decide (2 ≤ s97)))) rfl) rfl ?_
                    rcases bcases (decide (2 ≤ s97)) with hb137 | hb137
                    ·have H := ifT hb137 H; refine WL_guardY rfl hb137 rfl rfl ?_; refine WL_val (rn_move (v := (.int .i64 y130.2)) rfl) rfl ?_; refine WL_guardY rfl hb137 rfl rfl ?_; refine WL_val (rn_neq rfl rfl) rfl ?_; refine WL_guardY rfl hb136 rfl rfl ?_; refine WL_val (rn_pickT (v := (.bool (y130.2 != 7))) rfl hb137 rfl) rfl ?_; refine WL_val (rn_pickF (v := (.bool (y130.2 != 7))) rfl hb136 rfl) rfl ?_; refine WL_nil ?_; have H := Option.some.inj H; subst H
                     exact ⟨_, upds_self _ _ ⟨rfl, rfl, rfl, rfl, rfl, rfl, trivial⟩, rfl⟩
                    ·have H := ifF hb137 H; refine WL_guardN rfl hb137 rfl rfl rfl ?_; refine WL_guardN rfl hb137 rfl rfl rfl ?_; refine WL_guardY rfl hb136 rfl rfl ?_; refine WL_val (rn_pickF (v := (.bool false)) rfl hb137 rfl) rfl ?_; refine WL_val (rn_pickF (v := (.bool false)) rfl hb136 rfl) rfl ?_; refine WL_nil ?_; have H := Option.some.inj H; subst H
                     exact ⟨_, upds_self _ _ ⟨rfl, rfl, rfl, rfl, rfl, rfl, trivial⟩, rfl⟩
                  ·have H := ifF hb135 H; refine WL_guardN rfl hb135 rfl rfl rfl ?_; refine WL_guardN rfl hb135 rfl rfl rfl ?_; refine WL_val (rn_pickF (v := (.bool false)) rfl hb135 rfl) rfl ?_; refine WL_val (rn_move (v := (.bool false)) rfl) rfl ?_; refine WL_guardY rfl rfl rfl rfl ?_; refine WL_val (rn_move (v := (.int .i64 s97)) rfl) rfl ?_; refine WL_guardY rfl rfl rfl rfl ?_; refine WL_val (rn_geq rfl rfl) rfl ?_; refine WL_guardY rfl rfl rfl rfl ?_; refine WL_val (rn_move (v := (.bool (decide (2 ≤ s97)))) rfl) rfl ?_
                   rcases bcases (decide (2 ≤ s97)) with hb138 | hb138
                   ·have H := ifT hb138 H; refine WL_guardY rfl hb138 rfl rfl ?_; refine WL_val (rn_move (v := (.int .i64 y130.2)) rfl) rfl ?_; refine WL_guardY rfl hb138 rfl rfl ?_; refine WL_val (rn_neq rfl rfl) rfl ?_; refine WL_guardY rfl rfl rfl rfl ?_; refine WL_val (rn_pickT (v := (.bool (y130.2 != 7))) rfl hb138 rfl) rfl ?_; refine WL_val (rn_pickF (v := (.bool (y130.2 != 7))) rfl rfl rfl) rfl ?_; refine WL_nil ?_; have H := Option.some.inj H; subst H
                    exact ⟨_, upds_self _ _ ⟨rfl, rfl, rfl, rfl, rfl, rfl, trivial⟩, rfl⟩
                   ·have H := ifF hb138 H; refine WL_guardN rfl hb138 rfl rfl rfl ?_; refine WL_guardN rfl hb138 rfl rfl rfl ?_; refine WL_guardY rfl rfl rfl rfl ?_; refine WL_val (rn_pickF (v := (.bool false)) rfl hb138 rfl) rfl ?_; refine WL_val (rn_pickF (v := (.bool false)) rfl rfl rfl) rfl ?_; refine WL_nil ?_; have H := Option.some.inj H; subst H
                    exact ⟨_, upds_self _ _ ⟨rfl, rfl, rfl, rfl, rfl, rfl, trivial⟩, rfl⟩
                 ·rintro F wl ⟨Fb, rfl, rfl⟩
                  refine WC_cond rfl (fun hb141 => ?_) (fun hb141 => ?_)
                  ·have H := ifT hb141 H; refine WC_seq ?_; refine WC_region ?_; refine WL_val (rn_assign (v := (.bool false)) rfl) rfl ?_; refine WL_nil ?_; refine WC_ret ?_; have H := Option.some.inj H; subst H; have H := Hoq104; have H := Option.some.inj H; subst H
                   have hres := hqq99 _ rfl
                   subst hres; have H := Hoq99
                   have H : some false = some r := H
                   have H := Option.some.inj H; subst H
                   exact ⟨rfl, hS.below⟩
                  ·have H := ifF hb141 H; refine WC_skip ?_; have hO := hO.drop 0
                   have hO : Owns G132 w131 w0.heap.size ([⟨3, 1, np46_0, .slice ap46_0 np46_0 cp46_0, clap46_0⟩]) := hO
                   have H := Option.some.inj H; subst H
                   have l7_11 := ((leG108.trans leG125).trans leG129).trans leG132
                   exact ⟨_, _, G132, rfl, upds_self _ _ ⟨rfl, rfl, rfl, rfl, rfl, trivial⟩, l7_11, hS, hO⟩
              ·rintro F w142 ⟨p105, Fb, G143, rfl, rfl, leG143, hS, hO⟩
               refine WC_region ?_; refine WL_val (rn_move (v := (.int .i64 s97)) rfl) rfl ?_; refine WL_val (rn_add rfl rfl) rfl ?_; refine WL_val (rn_assign (v := (.int .i64 (IntKind.i64.wrap (s97 + 1)))) rfl) rfl ?_; refine WL_nil ?_
               have hO : Owns G143 w142 w0.heap.size ([⟨3, 1, np46_0, .slice ap46_0 np46_0 cp46_0, clap46_0⟩]) := hO
               have H := Option.some.inj H; subst H; refine ⟨_, rfl, ?_⟩
               have l6_8 := leG102.trans leG143
               exact ⟨_, G143, upds_self _ _ ⟨rfl, rfl, rfl, rfl, rfl, trivial⟩, l6_8, hS, hO⟩
             ·have H := ifF hb103 H; refine WC_exit rfl ?_
              have hO : Owns G102 w101 w0.heap.size ([⟨3, 1, np46_0, .slice ap46_0 np46_0 cp46_0, clap46_0⟩]) := hO
              have H := Option.some.inj H; subst H
              have hres := hqq99 _ rfl
              subst hres
              exact ⟨_, _, G102, rfl, rfl, leG102, hS, hO⟩
           ·rintro F w145 ⟨p98, Fb, G146, rfl, rfl, leG146, hS, hO⟩
            refine WC_seq ?_; refine WC_region ?_; obtain ⟨y147, hy147, H⟩ := bnd H
            have l0_7 := l0_6.trans leG146
            refine WL_op rfl (OpP_callV cb15 (f15_ok  hS.sat (hT.mono l0_7)  hy147) rfl rfl (fun w148 hb => ?_)); have hS := hS.keep hb; have hO := hO.below hb; refine WL_val (rn_assign (v := (.bool y147)) rfl) rfl ?_; refine WL_nil ?_; refine WC_ret ?_
            have H : some y147 = some r := H
            have H := Option.some.inj H; subst H
            exact ⟨rfl, hS.below⟩
end Go.Proofs.YtcaflmilfhhikaaDoor
