/-
  The walks: each Go function computes its plain function (printed by a program of ours).
-/
import Derived.Test.YtcaflmilfhhikaaDoorRd
import Derived.Test.YtcaflmilfhhikaaDoorBaseQ
import Derived.Test.YtcaflmilfhhikaaDoorIt
import Derived.Test.YtcaflmilfhhikaaDoorLib
import Derived.Test.YtcaflmilfhhikaaDoorBu
import Derived.Test.YtcaflmilfhhikaaDoorP11W3
namespace Go.Proofs.YtcaflmilfhhikaaDoor
open Go.RowKit
set_option linter.unusedVariables false

set_option maxRecDepth 20000
set_option linter.unusedVariables false
set_option maxHeartbeats 1000000 in
theorem f11_ok {G0 : Gm} {w0 : World} (hS0 : Sat G0 w0) {x0 : TLandBook} {a1 : Option Addr} {n1 c1 : Nat} {a2 : Option Addr} {n2 c2 : Nat} {a3 : Option Addr} {n3 c3 : Nat} {x1 : (List Int)} {a4 : Option Addr} {n4 c4 : Nat} {x2 : Int} {x3 : Int} (hT : TabG Tryd.prog G0) (h1 : RSl RTLandPerson 2 G0 a1 n1 c1 x0.People) (h2 : RSl RTLandEvent 2 G0 a2 n2 c2 x0.Events) (h3 : RSl RTLandMemory 4 G0 a3 n3 c3 x0.Memories) (h4 : RSl RInt 1 G0 a4 n4 c4 x1) {r : Bool} (H : f11 x0 x1 x2 x3 = some r) :
  Calls Tryd.prog 11 #[.agg #[.slice a1 n1 c1, .slice a2 n2 c2, .slice a3 n3 c3], .slice a4 n4 c4, .int .i64 x2, .int .i64 x3] w0 (RetV w0 (.bool r)) := by
 have hS := Since.start hS0
 have hO : Owns G0 w0 w0.heap.size [] := Owns.nil (Nat.le_refl _)
 unfold f11 at H
 refine enter1 (N := 177) (shutV _ _) Tryd.func11 rfl rfl rfl rfl ?_; refine WC_seq ?_; refine WC_region ?_; refine WL_op rfl (OpP_newF (v := fun b => .pointer (some ⟨b, 0, none⟩)) (cs := [.slice a1 n1 c1, .slice a2 n2 c2, .slice a3 n3 c3]) (e := 26) (rn_boxA rfl) hS.sat rfl (fun b5 G7 w6 hg hcb5 => ?_)); have hS := hS.grow hg; have hO := hO.grow hg
 have leG7 := hg.le
 refine WL_val (rn_assign (v := (.bool false)) rfl) rfl ?_; refine WL_nil ?_; refine WC_seq ?_; refine WC_seq ?_; obtain ⟨q8, hq8, H⟩ := bnd H; refine WC_cut (fun F w => ∃ (Fb : Fr) (G : Gm), F = upds Fb [(1, .slice a4 n4 c4), (2, .int .i64 x2), (3, .int .i64 x3), (4, .pointer (some ⟨b5, 0, none⟩)), (44, .bool q8)] ∧ Gle G7 G ∧ Since w0.heap.size G0 w0 G w ∧ Owns G w w0.heap.size []) ?_ ?_
 ·have Hoq8 := H; have H := hq8; refine WC_region ?_; refine WL_val (rn_loadA ag26 (cs := [.slice a1 n1 c1, .slice a2 n2 c2, .slice a3 n3 c3]) rfl rfl (fun j v hj => hS.sat.cell (hcb5.drop_take 0 3 j v hj))) rfl ?_; obtain ⟨y9, hy9, H⟩ := bnd H; refine WL_op rfl (OpP_callV cb14 (f14_ok (x0 := x0) hS.sat (h1.mono RTLandPerson_mono leG7) (h2.mono RTLandEvent_mono leG7) (h3.mono RTLandMemory_mono leG7) hy9) rfl rfl (fun w10 hb => ?_)); have hS := hS.keep hb; have hO := hO.below hb; refine WL_val (rn_not rfl) rfl ?_; refine WL_val (rn_move (v := (.bool (!y9))) rfl) rfl ?_
  rcases bcases (!y9) with hb11 | hb11
  ·have H := ifT hb11 H; refine WL_guardN rfl hb11 rfl rfl rfl ?_; refine WL_guardN rfl hb11 rfl rfl rfl ?_; refine WL_guardN rfl hb11 rfl rfl rfl ?_; refine WL_val (rn_pickT (v := (.bool true)) rfl hb11 rfl) rfl ?_; refine WL_val (rn_move (v := (.bool true)) rfl) rfl ?_; refine WL_guardN rfl rfl rfl rfl rfl ?_; refine WL_guardN rfl rfl rfl rfl rfl ?_; refine WL_guardN rfl rfl rfl rfl rfl ?_; refine WL_guardN rfl rfl rfl rfl rfl ?_; refine WL_val (rn_pickT (v := (.bool true)) rfl rfl rfl) rfl ?_; refine WL_val (rn_move (v := (.bool true)) rfl) rfl ?_; refine WL_guardN rfl rfl rfl rfl rfl ?_; refine WL_guardN rfl rfl rfl rfl rfl ?_; refine WL_guardN rfl rfl rfl rfl rfl ?_; refine WL_guardN rfl rfl rfl rfl rfl ?_; refine WL_val (rn_pickT (v := (.bool true)) rfl rfl rfl) rfl ?_; refine WL_val (rn_move (v := (.bool true)) rfl) rfl ?_; refine WL_guardN rfl rfl rfl rfl rfl ?_; refine WL_guardN rfl rfl rfl rfl rfl ?_; refine WL_guardN rfl rfl rfl rfl rfl ?_; refine WL_guardN rfl rfl rfl rfl rfl ?_; refine WL_val (rn_pickT (v := (.bool true)) rfl rfl rfl) rfl ?_; refine WL_nil ?_
   have hO : Owns G7 w10 w0.heap.size ([]) := hO
   have H := Option.some.inj H; subst H
   exact ⟨_, G7, upds_self _ _ ⟨rfl, rfl, rfl, rfl, rfl, trivial⟩, Gle.refl _, hS, hO⟩
  ·have H := ifF hb11 H; refine WL_guardY rfl hb11 rfl rfl ?_; refine WL_val (rn_loadA ag26 (cs := [.slice a1 n1 c1, .slice a2 n2 c2, .slice a3 n3 c3]) rfl rfl (fun j v hj => hS.sat.cell (hcb5.drop_take 0 3 j v hj))) rfl ?_; refine WL_guardY rfl hb11 rfl rfl ?_; obtain ⟨y12, hy12, H⟩ := bnd H; refine WL_op rfl (OpP_callV cb18 (f18_ok (x0 := x0) hS.sat (h1.mono RTLandPerson_mono leG7) (h2.mono RTLandEvent_mono leG7) (h3.mono RTLandMemory_mono leG7) hy12) rfl rfl (fun w13 hb => ?_)); have hS := hS.keep hb; have hO := hO.below hb; refine WL_guardY rfl hb11 rfl rfl ?_; refine WL_val (rn_not rfl) rfl ?_; refine WL_val (rn_pickF (v := (.bool (!y12))) rfl hb11 rfl) rfl ?_; refine WL_val (rn_move (v := (.bool (!y12))) rfl) rfl ?_
   rcases bcases (!y12) with hb14 | hb14
   ·have H := ifT hb14 H; refine WL_guardN rfl hb14 rfl rfl rfl ?_; refine WL_guardN rfl hb14 rfl rfl rfl ?_; refine WL_guardN rfl hb14 rfl rfl rfl ?_; refine WL_guardN rfl hb14 rfl rfl rfl ?_; refine WL_val (rn_pickT (v := (.bool true)) rfl hb14 rfl) rfl ?_; refine WL_val (rn_move (v := (.bool true)) rfl) rfl ?_; refine WL_guardN rfl rfl rfl rfl rfl ?_; refine WL_guardN rfl rfl rfl rfl rfl ?_; refine WL_guardN rfl rfl rfl rfl rfl ?_; refine WL_guardN rfl rfl rfl rfl rfl ?_; refine WL_val (rn_pickT (v := (.bool true)) rfl rfl rfl) rfl ?_; refine WL_val (rn_move (v := (.bool true)) rfl) rfl ?_; refine WL_guardN rfl rfl rfl rfl rfl ?_; refine WL_guardN rfl rfl rfl rfl rfl ?_; refine WL_guardN rfl rfl rfl rfl rfl ?_; refine WL_guardN rfl rfl rfl rfl rfl ?_; refine WL_val (rn_pickT (v := (.bool true)) rfl rfl rfl) rfl ?_; refine WL_nil ?_
    have hO : Owns G7 w13 w0.heap.size ([]) := hO
    have H := Option.some.inj H; subst H
    exact ⟨_, G7, upds_self _ _ ⟨rfl, rfl, rfl, rfl, rfl, trivial⟩, Gle.refl _, hS, hO⟩
   ·have H := ifF hb14 H; refine WL_guardY rfl hb14 rfl rfl ?_; refine WL_val (rn_loadA ag26 (cs := [.slice a1 n1 c1, .slice a2 n2 c2, .slice a3 n3 c3]) rfl rfl (fun j v hj => hS.sat.cell (hcb5.drop_take 0 3 j v hj))) rfl ?_; refine WL_guardY rfl hb14 rfl rfl ?_; refine WL_val (rn_move (v := (.slice a4 n4 c4)) rfl) rfl ?_; refine WL_guardY rfl hb14 rfl rfl ?_; obtain ⟨y15, hy15, H⟩ := bnd H; refine WL_op rfl (OpP_callV cb29 (f29_ok (x0 := x0) (x1 := x1) hS.sat (h1.mono RTLandPerson_mono leG7) (h2.mono RTLandEvent_mono leG7) (h3.mono RTLandMemory_mono leG7) (h4.mono RInt_mono leG7) hy15) rfl rfl (fun w16 hb => ?_)); have hS := hS.keep hb; have hO := hO.below hb; refine WL_guardY rfl hb14 rfl rfl ?_; refine WL_val (rn_not rfl) rfl ?_; refine WL_val (rn_pickF (v := (.bool (!y15))) rfl hb14 rfl) rfl ?_; refine WL_val (rn_move (v := (.bool (!y15))) rfl) rfl ?_
    rcases bcases (!y15) with hb17 | hb17
    ·have H := ifT hb17 H; refine WL_guardN rfl hb17 rfl rfl rfl ?_; refine WL_guardN rfl hb17 rfl rfl rfl ?_; refine WL_guardN rfl hb17 rfl rfl rfl ?_; refine WL_guardN rfl hb17 rfl rfl rfl ?_; refine WL_val (rn_pickT (v := (.bool true)) rfl hb17 rfl) rfl ?_; refine WL_val (rn_move (v := (.bool true)) rfl) rfl ?_; refine WL_guardN rfl rfl rfl rfl rfl ?_; refine WL_guardN rfl rfl rfl rfl rfl ?_; refine WL_guardN rfl rfl rfl rfl rfl ?_; refine WL_guardN rfl rfl rfl rfl rfl ?_; refine WL_val (rn_pickT (v := (.bool true)) rfl rfl rfl) rfl ?_; refine WL_nil ?_
     have hO : Owns G7 w16 w0.heap.size ([]) := hO
     have H := Option.some.inj H; subst H
     exact ⟨_, G7, upds_self _ _ ⟨rfl, rfl, rfl, rfl, rfl, trivial⟩, Gle.refl _, hS, hO⟩
    ·have H := ifF hb17 H; refine WL_guardY rfl hb17 rfl rfl ?_; refine WL_val (rn_loadA ag26 (cs := [.slice a1 n1 c1, .slice a2 n2 c2, .slice a3 n3 c3]) rfl rfl (fun j v hj => hS.sat.cell (hcb5.drop_take 0 3 j v hj))) rfl ?_; refine WL_guardY rfl hb17 rfl rfl ?_; refine WL_val (rn_move (v := (.int .i64 x2)) rfl) rfl ?_; refine WL_guardY rfl hb17 rfl rfl ?_; obtain ⟨y18, hy18, H⟩ := bnd H; refine WL_op rfl (OpP_callV cb45 (f45_ok (x0 := x0) (x1 := x2) hS.sat (h1.mono RTLandPerson_mono leG7) (h2.mono RTLandEvent_mono leG7) (h3.mono RTLandMemory_mono leG7) hy18) rfl rfl (fun w19 hb => ?_)); have hS := hS.keep hb; have hO := hO.below hb; refine WL_guardY rfl hb17 rfl rfl ?_; refine WL_val (rn_not rfl) rfl ?_; refine WL_val (rn_pickF (v := (.bool (!y18))) rfl hb17 rfl) rfl ?_; refine WL_val (rn_move (v := (.bool (!y18))) rfl) rfl ?_
     rcases bcases (!y18) with hb20 | hb20
     ·have H := ifT hb20 H; refine WL_guardN rfl hb20 rfl rfl rfl ?_; refine WL_guardN rfl hb20 rfl rfl rfl ?_; refine WL_guardN rfl hb20 rfl rfl rfl ?_; refine WL_guardN rfl hb20 rfl rfl rfl ?_; refine WL_val (rn_pickT (v := (.bool true)) rfl hb20 rfl) rfl ?_; refine WL_nil ?_
      have hO : Owns G7 w19 w0.heap.size ([]) := hO
      have H := Option.some.inj H; subst H
      exact ⟨_, G7, upds_self _ _ ⟨rfl, rfl, rfl, rfl, rfl, trivial⟩, Gle.refl _, hS, hO⟩
     ·have H := ifF hb20 H; refine WL_guardY rfl hb20 rfl rfl ?_; refine WL_val (rn_loadA ag26 (cs := [.slice a1 n1 c1, .slice a2 n2 c2, .slice a3 n3 c3]) rfl rfl (fun j v hj => hS.sat.cell (hcb5.drop_take 0 3 j v hj))) rfl ?_; refine WL_guardY rfl hb20 rfl rfl ?_; refine WL_val (rn_move (v := (.int .i64 x3)) rfl) rfl ?_; refine WL_guardY rfl hb20 rfl rfl ?_; obtain ⟨y21, hy21, H⟩ := bnd H; refine WL_op rfl (OpP_callV cb45 (f45_ok (x0 := x0) (x1 := x3) hS.sat (h1.mono RTLandPerson_mono leG7) (h2.mono RTLandEvent_mono leG7) (h3.mono RTLandMemory_mono leG7) hy21) rfl rfl (fun w22 hb => ?_)); have hS := hS.keep hb; have hO := hO.below hb; refine WL_guardY rfl hb20 rfl rfl ?_; refine WL_val (rn_not rfl) rfl ?_; refine WL_val (rn_pickF (v := (.bool (!y21))) rfl hb20 rfl) rfl ?_; refine WL_nil ?_
      have hO : Owns G7 w22 w0.heap.size ([]) := hO
      have H := Option.some.inj H; subst H
      exact ⟨_, G7, upds_self _ _ ⟨rfl, rfl, rfl, rfl, rfl, trivial⟩, Gle.refl _, hS, hO⟩
 ·rintro F w23 ⟨Fb, G24, rfl, leG24, hS, hO⟩
  refine WC_cond rfl (fun hb25 => ?_) (fun hb25 => ?_)
  ·have H := ifT hb25 H; refine WC_seq ?_; refine WC_region ?_; obtain ⟨y26, hy26, H⟩ := bnd H
   have l0_2 := leG7.trans leG24
   refine WL_op rfl (OpP_callV cb15 (f15_ok  hS.sat (hT.mono l0_2)  hy26) rfl rfl (fun w27 hb => ?_)); have hS := hS.keep hb; have hO := hO.below hb; refine WL_val (rn_assign (v := (.bool y26)) rfl) rfl ?_; refine WL_nil ?_; refine WC_ret ?_
   have H : some y26 = some r := H
   have H := Option.some.inj H; subst H
   exact ⟨rfl, hS.below⟩
  ·have H := ifF hb25 H; refine WC_skip ?_; refine WC_seq ?_; refine WC_region ?_; refine WL_val (rn_loadA ag26 (cs := [.slice a1 n1 c1, .slice a2 n2 c2, .slice a3 n3 c3]) rfl rfl (fun j v hj => (hS.sat.le leG24).cell (hcb5.drop_take 0 3 j v hj))) rfl ?_; refine WL_val (rn_move (v := (.slice a4 n4 c4)) rfl) rfl ?_; obtain ⟨y28, hy28, H⟩ := bnd H
   have l0_2 := leG7.trans leG24
   refine WL_op rfl (OpP_callV cb27 (f27_ok (x0 := x0) (x1 := x1) hS.sat (h1.mono RTLandPerson_mono l0_2) (h2.mono RTLandEvent_mono l0_2) (h3.mono RTLandMemory_mono l0_2) (h4.mono RInt_mono l0_2) hy28) rfl rfl (fun w29 hb => ?_)); have hS := hS.keep hb; have hO := hO.below hb; refine WL_val (rn_move (v := (.tuple #[.bool y28.1, .int .i64 y28.2])) rfl) rfl ?_; refine WL_val (rn_extract (v := (.bool y28.1)) rfl rfl) rfl ?_; refine WL_val (rn_extract (v := (.int .i64 y28.2)) rfl rfl) rfl ?_; refine WL_val (rn_assign (v := (.bool y28.1)) rfl) rfl ?_; refine WL_val (rn_assign (v := (.int .i64 y28.2)) rfl) rfl ?_; refine WL_nil ?_; refine WC_seq ?_; refine WC_seq ?_; refine WC_region ?_; refine WL_val (rn_move (v := (.int .i64 y28.2)) rfl) rfl ?_; refine WL_val (rn_neq rfl rfl) rfl ?_; refine WL_nil ?_; refine WC_cond rfl (fun hb30 => ?_) (fun hb30 => ?_)
   ·have H := ifT hb30 H; refine WC_seq ?_; refine WC_region ?_; refine WL_val (rn_assign (v := (.bool false)) rfl) rfl ?_; refine WL_nil ?_; refine WC_ret ?_
    have H : some false = some r := H
    have H := Option.some.inj H; subst H
    exact ⟨rfl, hS.below⟩
   ·have H := ifF hb30 H; refine WC_skip ?_; refine WC_seq ?_; refine WC_region ?_; refine WL_val (rn_loadA ag26 (cs := [.slice a1 n1 c1, .slice a2 n2 c2, .slice a3 n3 c3]) rfl rfl (fun j v hj => (hS.sat.le leG24).cell (hcb5.drop_take 0 3 j v hj))) rfl ?_; obtain ⟨y31, hy31, H⟩ := bnd H; refine WL_op rfl (OpP_callG cb34 (f34_ok (x0 := x0) hS.sat (h1.mono RTLandPerson_mono l0_2) (h2.mono RTLandEvent_mono l0_2) (h3.mono RTLandMemory_mono l0_2) hy31) rfl rfl (fun vy31 G33 w32 hg hvy31 => ?_)); obtain ⟨a34, n34, c34, ⟨⟩, h34⟩ := hvy31; have hS := hS.grow hg; have hO := hO.grow hg
    have leG33 := hg.le
    refine WL_val (rn_move (v := (.tuple #[.slice a34 n34 c34, .int .i64 y31.2])) rfl) rfl ?_; refine WL_val (rn_extract (v := (.slice a34 n34 c34)) rfl rfl) rfl ?_; refine WL_val (rn_extract (v := (.int .i64 y31.2)) rfl rfl) rfl ?_; refine WL_val (rn_assign (v := (.slice a34 n34 c34)) rfl) rfl ?_; refine WL_val (rn_assign (v := (.int .i64 y31.2)) rfl) rfl ?_; refine WL_nil ?_; refine WC_seq ?_; refine WC_region ?_
    have l1_3 := leG24.trans leG33
    refine WL_val (rn_loadA ag26 (cs := [.slice a1 n1 c1, .slice a2 n2 c2, .slice a3 n3 c3]) rfl rfl (fun j v hj => (hS.sat.le l1_3).cell (hcb5.drop_take 0 3 j v hj))) rfl ?_; refine WL_val (rn_move (v := (.int .i64 x2)) rfl) rfl ?_; refine WL_val (rn_move (v := (.int .i64 x3)) rfl) rfl ?_; obtain ⟨y35, hy35, H⟩ := bnd H
    have l0_3 := l0_2.trans leG33
    refine WL_op rfl (OpP_callV cb43 (f43_ok (x0 := x0) (x1 := x2) (x2 := x3) hS.sat (h1.mono RTLandPerson_mono l0_3) (h2.mono RTLandEvent_mono l0_3) (h3.mono RTLandMemory_mono l0_3) hy35) rfl rfl (fun w36 hb => ?_)); have hS := hS.keep hb; have hO := hO.below hb; refine WL_val (rn_move (v := (.tuple #[.agg #[.int .i64 y35.1.Low, .int .i64 y35.1.High], .int .i64 y35.2])) rfl) rfl ?_; refine WL_val (rn_extract (v := (.agg #[.int .i64 y35.1.Low, .int .i64 y35.1.High])) rfl rfl) rfl ?_; refine WL_val (rn_extract (v := (.int .i64 y35.2)) rfl rfl) rfl ?_
    refine WL_op rfl (OpP_newO (v := fun b => .pointer (some ⟨b, 0, none⟩)) (cs := [.int .i64 0, .int .i64 0]) (e := 44) (by kernel_rfl) hS.sat hO rfl 2 1 rfl (by decide) (fun b37 w38 hb hO => ?_))
    have hS := hS.keep hb; refine WL_op rfl (OpP_store (vs := [.int .i64 y35.1.Low, .int .i64 y35.1.High]) sz44 hS hO (k := 0) rfl rfl rfl rfl rfl (one_all rfl) (Nat.le_of_ble_eq_true rfl) (fun w40 hS hO => ?_))
    have hO : Owns G33 w40 w0.heap.size ([⟨44, 2, 1, .slice (some ⟨b37, 0, none⟩) 1 1, [.int .i64 y35.1.Low, .int .i64 y35.1.High]⟩]) := hO
    obtain ⟨G41, leG41, hS, hO, hqG41, _⟩ := hO.freeze hS (k := 0) rfl
    have hcG41 : Cells G41 b37 0 [.int .i64 y35.1.Low, .int .i64 y35.1.High] := (hqG41 _ _ _ _ rfl)
    refine WL_val (rn_assign (v := (.int .i64 y35.2)) rfl) rfl ?_; refine WL_nil ?_; refine WC_seq ?_; refine WC_region ?_
    have l1_4 := l1_3.trans leG41
    refine WL_val (rn_loadA ag26 (cs := [.slice a1 n1 c1, .slice a2 n2 c2, .slice a3 n3 c3]) rfl rfl (fun j v hj => (hS.sat.le l1_4).cell (hcb5.drop_take 0 3 j v hj))) rfl ?_; obtain ⟨y42, hy42, H⟩ := bnd H
    have l0_4 := l0_3.trans leG41
    refine WL_op rfl (OpP_callG cb28 (f28_ok (x0 := x0) hS.sat (h1.mono RTLandPerson_mono l0_4) (h2.mono RTLandEvent_mono l0_4) (h3.mono RTLandMemory_mono l0_4) hy42) rfl rfl (fun vy42 G44 w43 hg hvy42 => ?_)); obtain ⟨a45, n45, c45, ⟨⟩, h45⟩ := hvy42; have hS := hS.grow hg; have hO := hO.grow hg
    have leG44 := hg.le
    refine WL_val (rn_move (v := (.tuple #[.slice a45 n45 c45, .int .i64 y42.2])) rfl) rfl ?_; refine WL_val (rn_extract (v := (.slice a45 n45 c45)) rfl rfl) rfl ?_; refine WL_val (rn_extract (v := (.int .i64 y42.2)) rfl rfl) rfl ?_; refine WL_val (rn_assign (v := (.slice a45 n45 c45)) rfl) rfl ?_; refine WL_val (rn_assign (v := (.int .i64 y42.2)) rfl) rfl ?_; refine WL_nil ?_; refine WC_seq ?_; refine WC_seq ?_; refine WC_region ?_; refine WL_val (rn_move (v := (.bool y28.1)) rfl) rfl ?_; refine WL_val (rn_not rfl) rfl ?_; refine WL_nil ?_; refine WC_cond rfl (fun hb46 => ?_) (fun hb46 => ?_)
    ·have H := ifT hb46 H; refine WC_seq ?_; obtain ⟨q47, hq47, H⟩ := bnd H; refine WC_cut (fun F w => ∃ (Fb : Fr) (G : Gm), F = upds Fb [(8, .bool q47)] ∧ Gle G44 G ∧ Since w0.heap.size G0 w0 G w ∧ Owns G w w0.heap.size []) ?_ ?_
     ·have Hoq47 := H; have H := hq47; refine WC_region ?_; refine WL_val (rn_move (v := (.int .i64 y31.2)) rfl) rfl ?_; refine WL_val (rn_eql rfl rfl) rfl ?_; refine WL_val (rn_move (v := (.bool (y31.2 == 0))) rfl) rfl ?_
      rcases bcases (y31.2 == 0) with hb48 | hb48
      ·have H := ifT hb48 H; refine WL_guardN rfl hb48 rfl rfl rfl ?_; refine WL_guardN rfl hb48 rfl rfl rfl ?_; refine WL_val (rn_pickT (v := (.bool true)) rfl hb48 rfl) rfl ?_; refine WL_val (rn_move (v := (.bool true)) rfl) rfl ?_; refine WL_guardY rfl rfl rfl rfl ?_; refine WL_val (rn_move (v := (.int .i64 y31.2)) rfl) rfl ?_; refine WL_guardY rfl rfl rfl rfl ?_; refine WL_val (rn_move (v := (.int .i64 y35.2)) rfl) rfl ?_; refine WL_guardY rfl rfl rfl rfl ?_; refine WL_val (rn_eql rfl rfl) rfl ?_; refine WL_val (rn_pickT (v := (.bool (y31.2 == y35.2))) rfl rfl rfl) rfl ?_; refine WL_val (rn_move (v := (.bool (y31.2 == y35.2))) rfl) rfl ?_
       rcases bcases (y31.2 == y35.2) with hb49 | hb49
       ·have H := ifT hb49 H; refine WL_guardY rfl hb49 rfl rfl ?_; refine WL_val (rn_move (v := (.int .i64 y35.2)) rfl) rfl ?_; refine WL_guardY rfl hb49 rfl rfl ?_; refine WL_val (rn_move (v := (.int .i64 y42.2)) rfl) rfl ?_; refine WL_guardY rfl hb49 rfl rfl ?_; refine WL_val (rn_eql rfl rfl) rfl ?_; refine WL_val (rn_pickT (v := (.bool (y35.2 == y42.2))) rfl hb49 rfl) rfl ?_; refine WL_val (rn_move (v := (.bool (y35.2 == y42.2))) rfl) rfl ?_
        rcases bcases (y35.2 == y42.2) with hb50 | hb50
        ·have H := ifT hb50 H; refine WL_guardY rfl hb50 rfl rfl ?_; obtain ⟨y51, hy51, H⟩ := bnd H
         have l0_5 := l0_4.trans leG44
         refine WL_op rfl (OpP_callV cb15 (f15_ok  hS.sat (hT.mono l0_5)  hy51) rfl rfl (fun w52 hb => ?_)); have hS := hS.keep hb; have hO := hO.below hb; refine WL_val (rn_pickT (v := (.bool y51)) rfl hb50 rfl) rfl ?_; refine WL_val (rn_assign (v := (.bool y51)) rfl) rfl ?_; refine WL_nil ?_
         have hO : Owns G44 w52 w0.heap.size ([]) := hO
         have H := Option.some.inj H; subst H
         exact ⟨_, G44, upds_self _ _ ⟨rfl, trivial⟩, Gle.refl _, hS, hO⟩
        ·have H := ifF hb50 H; refine WL_guardN rfl hb50 rfl rfl rfl ?_; refine WL_val (rn_pickF (v := (.bool false)) rfl hb50 rfl) rfl ?_; refine WL_val (rn_assign (v := (.bool false)) rfl) rfl ?_; refine WL_nil ?_
         have hO : Owns G44 w43 w0.heap.size ([]) := hO
         have H := Option.some.inj H; subst H
         exact ⟨_, G44, upds_self _ _ ⟨rfl, trivial⟩, Gle.refl _, hS, hO⟩
       ·have H := ifF hb49 H; refine WL_guardN rfl hb49 rfl rfl rfl ?_; refine WL_guardN rfl hb49 rfl rfl rfl ?_; refine WL_guardN rfl hb49 rfl rfl rfl ?_; refine WL_val (rn_pickF (v := (.bool false)) rfl hb49 rfl) rfl ?_; refine WL_val (rn_move (v := (.bool false)) rfl) rfl ?_; refine WL_guardN rfl rfl rfl rfl rfl ?_; refine WL_val (rn_pickF (v := (.bool false)) rfl rfl rfl) rfl ?_; refine WL_val (rn_assign (v := (.bool false)) rfl) rfl ?_; refine WL_nil ?_
        have hO : Owns G44 w43 w0.heap.size ([]) := hO
        have H := Option.some.inj H; subst H
        exact ⟨_, G44, upds_self _ _ ⟨rfl, trivial⟩, Gle.refl _, hS, hO⟩
      ·have H := ifF hb48 H; refine WL_guardY rfl hb48 rfl rfl ?_; refine WL_val (rn_move (v := (.int .i64 y31.2)) rfl) rfl ?_; refine WL_guardY rfl hb48 rfl rfl ?_; refine WL_val (rn_eql rfl rfl) rfl ?_; refine WL_val (rn_pickF (v := (.bool (y31.2 == 7))) rfl hb48 rfl) rfl ?_; refine WL_val (rn_move (v := (.bool (y31.2 == 7))) rfl) rfl ?_
       rcases bcases (y31.2 == 7) with hb53 | hb53
       ·have H := ifT hb53 H; refine WL_guardY rfl hb53 rfl rfl ?_; refine WL_val (rn_move (v := (.int .i64 y31.2)) rfl) rfl ?_; refine WL_guardY rfl hb53 rfl rfl ?_; refine WL_val (rn_move (v := (.int .i64 y35.2)) rfl) rfl ?_; refine WL_guardY rfl hb53 rfl rfl ?_; refine WL_val (rn_eql rfl rfl) rfl ?_; refine WL_val (rn_pickT (v := (.bool (y31.2 == y35.2))) rfl hb53 rfl) rfl ?_; refine WL_val (rn_move (v := (.bool (y31.2 == y35.2))) rfl) rfl ?_
        rcases bcases (y31.2 == y35.2) with hb54 | hb54
        ·have H := ifT hb54 H; refine WL_guardY rfl hb54 rfl rfl ?_; refine WL_val (rn_move (v := (.int .i64 y35.2)) rfl) rfl ?_; refine WL_guardY rfl hb54 rfl rfl ?_; refine WL_val (rn_move (v := (.int .i64 y42.2)) rfl) rfl ?_; refine WL_guardY rfl hb54 rfl rfl ?_; refine WL_val (rn_eql rfl rfl) rfl ?_; refine WL_val (rn_pickT (v := (.bool (y35.2 == y42.2))) rfl hb54 rfl) rfl ?_; refine WL_val (rn_move (v := (.bool (y35.2 == y42.2))) rfl) rfl ?_
         rcases bcases (y35.2 == y42.2) with hb55 | hb55
         ·have H := ifT hb55 H; refine WL_guardY rfl hb55 rfl rfl ?_; obtain ⟨y56, hy56, H⟩ := bnd H
          have l0_5 := l0_4.trans leG44
          refine WL_op rfl (OpP_callV cb15 (f15_ok  hS.sat (hT.mono l0_5)  hy56) rfl rfl (fun w57 hb => ?_)); have hS := hS.keep hb; have hO := hO.below hb; refine WL_val (rn_pickT (v := (.bool y56)) rfl hb55 rfl) rfl ?_; refine WL_val (rn_assign (v := (.bool y56)) rfl) rfl ?_; refine WL_nil ?_
          have hO : Owns G44 w57 w0.heap.size ([]) := hO
          have H := Option.some.inj H; subst H
          exact ⟨_, G44, upds_self _ _ ⟨rfl, trivial⟩, Gle.refl _, hS, hO⟩
         ·have H := ifF hb55 H; refine WL_guardN rfl hb55 rfl rfl rfl ?_; refine WL_val (rn_pickF (v := (.bool false)) rfl hb55 rfl) rfl ?_; refine WL_val (rn_assign (v := (.bool false)) rfl) rfl ?_; refine WL_nil ?_
          have hO : Owns G44 w43 w0.heap.size ([]) := hO
          have H := Option.some.inj H; subst H
          exact ⟨_, G44, upds_self _ _ ⟨rfl, trivial⟩, Gle.refl _, hS, hO⟩
        ·have H := ifF hb54 H; refine WL_guardN rfl hb54 rfl rfl rfl ?_; refine WL_guardN rfl hb54 rfl rfl rfl ?_; refine WL_guardN rfl hb54 rfl rfl rfl ?_; refine WL_val (rn_pickF (v := (.bool false)) rfl hb54 rfl) rfl ?_; refine WL_val (rn_move (v := (.bool false)) rfl) rfl ?_; refine WL_guardN rfl rfl rfl rfl rfl ?_; refine WL_val (rn_pickF (v := (.bool false)) rfl rfl rfl) rfl ?_; refine WL_val (rn_assign (v := (.bool false)) rfl) rfl ?_; refine WL_nil ?_
         have hO : Owns G44 w43 w0.heap.size ([]) := hO
         have H := Option.some.inj H; subst H
         exact ⟨_, G44, upds_self _ _ ⟨rfl, trivial⟩, Gle.refl _, hS, hO⟩
       ·have H := ifF hb53 H; refine WL_guardN rfl hb53 rfl rfl rfl ?_; refine WL_guardN rfl hb53 rfl rfl rfl ?_; refine WL_guardN rfl hb53 rfl rfl rfl ?_; refine WL_val (rn_pickF (v := (.bool false)) rfl hb53 rfl) rfl ?_; refine WL_val (rn_move (v := (.bool false)) rfl) rfl ?_; refine WL_guardN rfl rfl rfl rfl rfl ?_; refine WL_guardN rfl rfl rfl rfl rfl ?_; refine WL_guardN rfl rfl rfl rfl rfl ?_; refine WL_val (rn_pickF (v := (.bool false)) rfl rfl rfl) rfl ?_; refine WL_val (rn_move (v := (.bool false)) rfl) rfl ?_; refine WL_guardN rfl rfl rfl rfl rfl ?_; refine WL_val (rn_pickF (v := (.bool false)) rfl rfl rfl) rfl ?_; refine WL_val (rn_assign (v := (.bool false)) rfl) rfl ?_; refine WL_nil ?_
        have hO : Owns G44 w43 w0.heap.size ([]) := hO
        have H := Option.some.inj H; subst H
        exact ⟨_, G44, upds_self _ _ ⟨rfl, trivial⟩, Gle.refl _, hS, hO⟩
     ·rintro F w58 ⟨Fb, G59, rfl, leG59, hS, hO⟩
      refine WC_ret ?_
      have H : some q47 = some r := H
      have H := Option.some.inj H; subst H
      exact ⟨rfl, hS.below⟩
    ·have H := ifF hb46 H; refine WC_skip ?_; refine WC_seq ?_; refine WC_seq ?_; obtain ⟨q60, hq60, H⟩ := bnd H; refine WC_cut (fun F w => ∃ (Fb : Fr), F = upds Fb [(1, .slice a4 n4 c4), (2, .int .i64 x2), (3, .int .i64 x3), (11, .slice a34 n34 c34), (13, .pointer (some ⟨b37, 0, none⟩)), (15, .slice a45 n45 c45), (115, .bool q60)] ∧ w43 = w) ?_ ?_
     ·have Hoq60 := H; have H := hq60; refine WC_region ?_; refine WL_val (rn_move (v := (.int .i64 y31.2)) rfl) rfl ?_; refine WL_val (rn_neq rfl rfl) rfl ?_; refine WL_val (rn_move (v := (.bool (y31.2 != 0))) rfl) rfl ?_
      rcases bcases (y31.2 != 0) with hb61 | hb61
      ·have H := ifT hb61 H; refine WL_guardN rfl hb61 rfl rfl rfl ?_; refine WL_guardN rfl hb61 rfl rfl rfl ?_; refine WL_val (rn_pickT (v := (.bool true)) rfl hb61 rfl) rfl ?_; refine WL_val (rn_move (v := (.bool true)) rfl) rfl ?_; refine WL_guardN rfl rfl rfl rfl rfl ?_; refine WL_guardN rfl rfl rfl rfl rfl ?_; refine WL_val (rn_pickT (v := (.bool true)) rfl rfl rfl) rfl ?_; refine WL_val (rn_move (v := (.bool true)) rfl) rfl ?_; refine WL_guardN rfl rfl rfl rfl rfl ?_; refine WL_guardN rfl rfl rfl rfl rfl ?_; refine WL_guardN rfl rfl rfl rfl rfl ?_; refine WL_guardN rfl rfl rfl rfl rfl ?_; refine WL_guardN rfl rfl rfl rfl rfl ?_; refine WL_val (rn_pickT (v := (.bool true)) rfl rfl rfl) rfl ?_; refine WL_val (rn_move (v := (.bool true)) rfl) rfl ?_; refine WL_guardN rfl rfl rfl rfl rfl ?_; refine WL_guardN rfl rfl rfl rfl rfl ?_; refine WL_guardN rfl rfl rfl rfl rfl ?_; refine WL_guardN rfl rfl rfl rfl rfl ?_; refine WL_guardN rfl rfl rfl rfl rfl ?_; refine WL_val (rn_pickT (v := (.bool true)) rfl rfl rfl) rfl ?_; refine WL_nil ?_; have H := Option.some.inj H; subst H
       exact ⟨_, upds_self _ _ ⟨rfl, rfl, rfl, rfl, rfl, rfl, rfl, trivial⟩, rfl⟩
      ·have H := ifF hb61 H; refine WL_guardY rfl hb61 rfl rfl ?_; refine WL_val (rn_move (v := (.int .i64 y35.2)) rfl) rfl ?_; refine WL_guardY rfl hb61 rfl rfl ?_; refine WL_val (rn_neq rfl rfl) rfl ?_; refine WL_val (rn_pickF (v := (.bool (y35.2 != 0))) rfl hb61 rfl) rfl ?_; refine WL_val (rn_move (v := (.bool (y35.2 != 0))) rfl) rfl ?_
       rcases bcases (y35.2 != 0) with hb62 | hb62
       ·have H := ifT hb62 H; refine WL_guardN rfl hb62 rfl rfl rfl ?_; refine WL_guardN rfl hb62 rfl rfl rfl ?_; refine WL_val (rn_pickT (v := (.bool true)) rfl hb62 rfl) rfl ?_; refine WL_val (rn_move (v := (.bool true)) rfl) rfl ?_; refine WL_guardN rfl rfl rfl rfl rfl ?_; refine WL_guardN rfl rfl rfl rfl rfl ?_; refine WL_guardN rfl rfl rfl rfl rfl ?_; refine WL_guardN rfl rfl rfl rfl rfl ?_; refine WL_guardN rfl rfl rfl rfl rfl ?_; refine WL_val (rn_pickT (v := (.bool true)) rfl rfl rfl) rfl ?_; refine WL_val (rn_move (v := (.bool true)) rfl) rfl ?_; refine WL_guardN rfl rfl rfl rfl rfl ?_; refine WL_guardN rfl rfl rfl rfl rfl ?_; refine WL_guardN rfl rfl rfl rfl rfl ?_; refine WL_guardN rfl rfl rfl rfl rfl ?_; refine WL_guardN rfl rfl rfl rfl rfl ?_; refine WL_val (rn_pickT (v := (.bool true)) rfl rfl rfl) rfl ?_; refine WL_nil ?_; have H := Option.some.inj H; subst H
        exact ⟨_, upds_self _ _ ⟨rfl, rfl, rfl, rfl, rfl, rfl, rfl, trivial⟩, rfl⟩
       ·have H := ifF hb62 H; refine WL_guardY rfl hb62 rfl rfl ?_; refine WL_val (rn_move (v := (.int .i64 y42.2)) rfl) rfl ?_; refine WL_guardY rfl hb62 rfl rfl ?_; refine WL_val (rn_neq rfl rfl) rfl ?_; refine WL_val (rn_pickF (v := (.bool (y42.2 != 0))) rfl hb62 rfl) rfl ?_; refine WL_val (rn_move (v := (.bool (y42.2 != 0))) rfl) rfl ?_
        rcases bcases (y42.2 != 0) with hb63 | hb63
        ·have H := ifT hb63 H; refine WL_guardN rfl hb63 rfl rfl rfl ?_; refine WL_guardN rfl hb63 rfl rfl rfl ?_; refine WL_guardN rfl hb63 rfl rfl rfl ?_; refine WL_guardN rfl hb63 rfl rfl rfl ?_; refine WL_guardN rfl hb63 rfl rfl rfl ?_; refine WL_val (rn_pickT (v := (.bool true)) rfl hb63 rfl) rfl ?_; refine WL_val (rn_move (v := (.bool true)) rfl) rfl ?_; refine WL_guardN rfl rfl rfl rfl rfl ?_; refine WL_guardN rfl rfl rfl rfl rfl ?_; refine WL_guardN rfl rfl rfl rfl rfl ?_; refine WL_guardN rfl rfl rfl rfl rfl ?_; refine WL_guardN rfl rfl rfl rfl rfl ?_; refine WL_val (rn_pickT (v := (.bool true)) rfl rfl rfl) rfl ?_; refine WL_nil ?_; have H := Option.some.inj H; subst H
         exact ⟨_, upds_self _ _ ⟨rfl, rfl, rfl, rfl, rfl, rfl, rfl, trivial⟩, rfl⟩
        ·have H := ifF hb63 H; refine WL_guardY rfl hb63 rfl rfl ?_; refine WL_val (rn_move (v := (.slice a34 n34 c34)) rfl) rfl ?_; refine WL_guardY rfl hb63 rfl rfl ?_
         have l3_5 := leG41.trans leG44
         refine WL_val (rn_len sl47 rfl rfl (h34.mono RTSpan_mono l3_5).1) rfl ?_; refine WL_guardY rfl hb63 rfl rfl ?_; refine WL_val (rn_move (v := (.slice a4 n4 c4)) rfl) rfl ?_; refine WL_guardY rfl hb63 rfl rfl ?_
         have l0_5 := l0_4.trans leG44
         refine WL_val (rn_len sl29 rfl rfl (h4.mono RInt_mono l0_5).1) rfl ?_; refine WL_guardY rfl hb63 rfl rfl ?_; refine WL_val (rn_neq rfl rfl) rfl ?_; refine WL_val (rn_pickF (v := (.bool ((y31.1.length : Int) != (x1.length : Int)))) rfl hb63 rfl) rfl ?_; refine WL_val (rn_move (v := (.bool ((y31.1.length : Int) != (x1.length : Int)))) rfl) rfl ?_
         rcases bcases ((y31.1.length : Int) != (x1.length : Int)) with hb64 | hb64
         ·have H := ifT hb64 H; refine WL_guardN rfl hb64 rfl rfl rfl ?_; refine WL_guardN rfl hb64 rfl rfl rfl ?_; refine WL_guardN rfl hb64 rfl rfl rfl ?_; refine WL_guardN rfl hb64 rfl rfl rfl ?_; refine WL_guardN rfl hb64 rfl rfl rfl ?_; refine WL_val (rn_pickT (v := (.bool true)) rfl hb64 rfl) rfl ?_; refine WL_nil ?_; have H := Option.some.inj H; subst H
          exact ⟨_, upds_self _ _ ⟨rfl, rfl, rfl, rfl, rfl, rfl, rfl, trivial⟩, rfl⟩
         ·have H := ifF hb64 H; refine WL_guardY rfl hb64 rfl rfl ?_; refine WL_val (rn_move (v := (.slice a45 n45 c45)) rfl) rfl ?_; refine WL_guardY rfl hb64 rfl rfl ?_; refine WL_val (rn_len sl29 rfl rfl h45.1) rfl ?_; refine WL_guardY rfl hb64 rfl rfl ?_; refine WL_val (rn_move (v := (.slice a4 n4 c4)) rfl) rfl ?_; refine WL_guardY rfl hb64 rfl rfl ?_; refine WL_val (rn_len sl29 rfl rfl (h4.mono RInt_mono l0_5).1) rfl ?_; refine WL_guardY rfl hb64 rfl rfl ?_; refine WL_val (rn_neq rfl rfl) rfl ?_; refine WL_val (rn_pickF (v := (.bool ((y42.1.length : Int) != (x1.length : Int)))) rfl hb64 rfl) rfl ?_; refine WL_nil ?_; have H := Option.some.inj H; subst H
          exact ⟨_, upds_self _ _ ⟨rfl, rfl, rfl, rfl, rfl, rfl, rfl, trivial⟩, rfl⟩
     ·rintro F wl ⟨Fb, rfl, rfl⟩
      refine WC_cond rfl (fun hb67 => ?_) (fun hb67 => ?_)
      ·have H := ifT hb67 H; refine WC_seq ?_; refine WC_region ?_; refine WL_val (rn_assign (v := (.bool false)) rfl) rfl ?_; refine WL_nil ?_; refine WC_ret ?_
       have H : some false = some r := H
       have H := Option.some.inj H; subst H
       exact ⟨rfl, hS.below⟩
      ·have H := ifF hb67 H; refine WC_skip ?_; refine WC_seq ?_; refine WC_seq ?_; refine WC_region ?_; refine WL_val (rn_assign (v := (.int .i64 0)) rfl) rfl ?_; refine WL_nil ?_; obtain ⟨q70, hq70, H⟩ := bnd H; refine WC_cut (fun F w => ∃ (p69 : Unit) (Fb : Fr) (G : Gm), q70 = .inl p69 ∧ F = upds Fb [(1, .slice a4 n4 c4), (2, .int .i64 x2), (3, .int .i64 x3), (13, .pointer (some ⟨b37, 0, none⟩))] ∧ Gle G44 G ∧ Since w0.heap.size G0 w0 G w ∧ Owns G w w0.heap.size []) ?_ ?_
       ·refine WC_block (WC_loop hq70 (fun s68 F w => ∃ (Fb : Fr) (G : Gm), F = upds Fb [(1, .slice a4 n4 c4), (2, .int .i64 x2), (3, .int .i64 x3), (11, .slice a34 n34 c34), (13, .pointer (some ⟨b37, 0, none⟩)), (15, .slice a45 n45 c45), (17, .int .i64 s68)] ∧ Gle G44 G ∧ Since w0.heap.size G0 w0 G w ∧ Owns G w w0.heap.size []) ?_ ?_)
        ·have hO : Owns G44 w43 w0.heap.size ([]) := hO
         exact ⟨_, G44, upds_self _ _ ⟨rfl, rfl, rfl, rfl, rfl, rfl, rfl, trivial⟩, Gle.refl _, hS, hO⟩
        ·rintro s68 F w72 t71 ⟨Fb, G73, rfl, leG73, hS, hO⟩
         intro H1 hqq70
         have Hoq70 := H; have H := H1
         unfold f11_b0 at H
         refine WC_seq ?_; refine WC_seq ?_; refine WC_region ?_; refine WL_val (rn_move (v := (.int .i64 s68)) rfl) rfl ?_; refine WL_val (rn_move (v := (.slice a4 n4 c4)) rfl) rfl ?_
         have l0_6 := (l0_4.trans leG44).trans leG73
         refine WL_val (rn_len sl29 rfl rfl (h4.mono RInt_mono l0_6).1) rfl ?_; refine WL_val (rn_lss rfl rfl) rfl ?_; refine WL_nil ?_; refine WC_cond rfl (fun hb74 => ?_) (fun hb74 => ?_)
         ·have H := ifT hb74 H; refine WC_skip ?_; refine WC_seq ?_; refine WC_block ?_; refine WC_seq ?_; obtain ⟨q75, hq75, H⟩ := bnd H; refine WC_cut (fun F w => ∃ (Fb : Fr) (G : Gm), F = upds Fb [(1, .slice a4 n4 c4), (2, .int .i64 x2), (3, .int .i64 x3), (11, .slice a34 n34 c34), (13, .pointer (some ⟨b37, 0, none⟩)), (15, .slice a45 n45 c45), (17, .int .i64 s68), (154, .bool q75)] ∧ Gle G73 G ∧ Since w0.heap.size G0 w0 G w ∧ Owns G w w0.heap.size []) ?_ ?_
          ·have Hoq75 := H; have H := hq75; have hS := hS.keep (below_drew _); have hO := hO.below (below_drew _)
           refine WC_regionD mixedO (fun _ w => Sat G73 w ∧ True) (.fl 0 (.fl 1 (.fl 2 (.fl 3 (.fl 4 (.on 5 (.on 6 (.on 7 (.on 8 (.on 9 (.on 10 (.fl 11 (.fl 12 (.fl 13 (.fl 14 (.fl 15 (.on 16 (.on 17 (.on 18 (.on 19 (.on 20 (.on 21 (.on 22 (.fl 23 (.fl 24 (.fl 25 (.fl 26 (.fl 27 (.on 28 (.on 29 (.on 30 (.on 31 (.on 32 .nil))))))))))))))))))))))))))))))))) (by kernel_rfl) rfl (by kernel_rfl) (fun _ => ⟨hS.sat, trivial⟩) ?_
           refine WD_val rfl (fun w hw => rn_move (v := (.slice a4 n4 c4)) rfl) rfl ?_; refine WD_val rfl (fun w hw => rn_move (v := (.int .i64 s68)) rfl) rfl ?_; obtain ⟨y76, hy76, H⟩ := bnd H; refine WD_idx rfl sl29 (h4.mono RInt_mono l0_6) hy76 rfl rfl rfl ?_
           rintro b77 o77 _ hcb77 _ ⟨⟩
           refine WD_val rfl (fun w hw => rn_load na3 rfl (hw.1.cell (hcb77 0 _ rfl))) rfl ?_; refine WD_val rfl (fun w hw => rn_move (v := (.slice a34 n34 c34)) rfl) rfl ?_; refine WD_op rfl rfl (OpP_val (rn_move (v := (.int .i64 s68)) rfl) rfl ?_); refine ⟨fun _ _ => ⟨hS.sat, trivial⟩, ?_⟩; obtain ⟨y78, hy78, H⟩ := bnd H
           have l3_6 := (leG41.trans leG44).trans leG73
           refine WD_op rfl rfl (OpP_idx sl47 (h34.mono RTSpan_mono l3_6) hy78 rfl rfl rfl ?_)
           rintro b79 o79 _ hcb79 _ ⟨⟩
           refine ⟨fun _ _ => ⟨hS.sat, trivial⟩, ?_⟩; refine WD_op rfl rfl (OpP_val (rn_fld fd44_0 rfl) rfl ?_); refine ⟨fun _ _ => ⟨hS.sat, trivial⟩, ?_⟩; refine WD_op rfl rfl (OpP_val (rn_load na3 rfl (hS.sat.cell (hcb79 0 _ rfl))) rfl ?_); refine ⟨fun _ _ => ⟨hS.sat, trivial⟩, ?_⟩; refine WD_op rfl rfl (OpP_val (rn_lss rfl rfl) rfl ?_); refine ⟨fun _ _ => ⟨hS.sat, trivial⟩, ?_⟩; refine WD_op rfl rfl (OpP_val (rn_move (v := (.bool (decide (y76 < y78.Low)))) rfl) rfl ?_); refine ⟨fun _ _ => ⟨hS.sat, trivial⟩, ?_⟩
           rcases bcases (decide (y76 < y78.Low)) with hb80 | hb80
           ·have H := ifT hb80 H; refine WD_skip rfl rfl hb80 rfl rfl rfl ?_; refine WD_skip rfl rfl hb80 rfl rfl rfl ?_; refine WD_skip rfl rfl hb80 rfl rfl rfl ?_; refine WD_skip rfl rfl hb80 rfl rfl rfl ?_; refine WD_skip rfl rfl hb80 rfl rfl rfl ?_; refine WD_skipS rfl rfl hb80 rfl rfl rfl (fun _ _ => ⟨hS.sat, trivial⟩) ?_; refine WD_skipS rfl rfl hb80 rfl rfl rfl (fun _ _ => ⟨hS.sat, trivial⟩) ?_; refine WD_skipS rfl rfl hb80 rfl rfl rfl (fun _ _ => ⟨hS.sat, trivial⟩) ?_; refine WD_skipS rfl rfl hb80 rfl rfl rfl (fun _ _ => ⟨hS.sat, trivial⟩) ?_; refine WD_skipS rfl rfl hb80 rfl rfl rfl (fun _ _ => ⟨hS.sat, trivial⟩) ?_; refine WD_op rfl rfl (OpP_val (rn_pickT (v := (.bool true)) rfl hb80 rfl) rfl ?_); refine ⟨fun _ _ => ⟨hS.sat, trivial⟩, ?_⟩; refine WD_op rfl rfl (OpP_val (rn_move (v := (.bool true)) rfl) rfl ?_); refine ⟨fun _ _ => ⟨hS.sat, trivial⟩, ?_⟩; refine WD_skip rfl rfl rfl rfl rfl rfl ?_; refine WD_skip rfl rfl rfl rfl rfl rfl ?_; refine WD_skip rfl rfl rfl rfl rfl rfl ?_; refine WD_skip rfl rfl rfl rfl rfl rfl ?_; refine WD_skip rfl rfl rfl rfl rfl rfl ?_; refine WD_skipS rfl rfl rfl rfl rfl rfl (fun _ _ => ⟨hS.sat, trivial⟩) ?_; refine WD_skipS rfl rfl rfl rfl rfl rfl (fun _ _ => ⟨hS.sat, trivial⟩) ?_; refine WD_skipS rfl rfl rfl rfl rfl rfl (fun _ _ => ⟨hS.sat, trivial⟩) ?_
            refine WD_skipS rfl rfl rfl rfl rfl rfl (fun _ h => noneed (by kernel_rfl) h) ?_
            refine WD_op rfl rfl (OpP_val (rn_pickT (v := (.bool true)) rfl rfl rfl) rfl ?_)
            refine ⟨fun _ h => noneed (by kernel_rfl) h, ?_⟩
            refine WD_nil ?_
            have hO : Owns G73 w72.drew w0.heap.size ([]) := hO
            have H := Option.some.inj H; subst H
            exact ⟨_, G73, upds_self _ _ ⟨rfl, rfl, rfl, rfl, rfl, rfl, rfl, rfl, trivial⟩, Gle.refl _, hS, hO⟩
           ·have H := ifF hb80 H; refine WD_valY rfl rfl hb80 rfl rfl (fun w hw => rn_move (v := (.slice a4 n4 c4)) rfl) rfl ?_; refine WD_valY rfl rfl hb80 rfl rfl (fun w hw => rn_move (v := (.int .i64 s68)) rfl) rfl ?_; refine WD_idxY rfl rfl hb80 rfl rfl sl29 (h4.mono RInt_mono l0_6) hy76 rfl rfl rfl ?_
            rintro b81 o81 _ hcb81 _ ⟨⟩
            refine WD_valY rfl rfl hb80 rfl rfl (fun w hw => rn_load na3 rfl (hw.1.cell (hcb81 0 _ rfl))) rfl ?_; refine WD_valY rfl rfl hb80 rfl rfl (fun w hw => rn_move (v := (.slice a34 n34 c34)) rfl) rfl ?_; refine WD_opY rfl rfl rfl hb80 rfl rfl (OpP_val (rn_move (v := (.int .i64 s68)) rfl) rfl ?_); refine ⟨fun _ _ => ⟨hS.sat, trivial⟩, ?_⟩; refine WD_opY rfl rfl rfl hb80 rfl rfl (OpP_idx sl47 (h34.mono RTSpan_mono l3_6) hy78 rfl rfl rfl ?_)
            rintro b82 o82 _ hcb82 _ ⟨⟩
            refine ⟨fun _ _ => ⟨hS.sat, trivial⟩, ?_⟩; refine WD_opY rfl rfl rfl hb80 rfl rfl (OpP_val (rn_fld fd44_1 rfl) rfl ?_); refine ⟨fun _ _ => ⟨hS.sat, trivial⟩, ?_⟩; refine WD_opY rfl rfl rfl hb80 rfl rfl (OpP_val (rn_load na3 rfl (hS.sat.cell (hcb82 1 _ rfl))) rfl ?_); refine ⟨fun _ _ => ⟨hS.sat, trivial⟩, ?_⟩; refine WD_opY rfl rfl rfl hb80 rfl rfl (OpP_val (rn_gtr rfl rfl) rfl ?_); refine ⟨fun _ _ => ⟨hS.sat, trivial⟩, ?_⟩; refine WD_op rfl rfl (OpP_val (rn_pickF (v := (.bool (decide (y78.High < y76)))) rfl hb80 rfl) rfl ?_); refine ⟨fun _ _ => ⟨hS.sat, trivial⟩, ?_⟩; refine WD_op rfl rfl (OpP_val (rn_move (v := (.bool (decide (y78.High < y76)))) rfl) rfl ?_); refine ⟨fun _ _ => ⟨hS.sat, trivial⟩, ?_⟩
            rcases bcases (decide (y78.High < y76)) with hb83 | hb83
            ·have H := ifT hb83 H; refine WD_skip rfl rfl hb83 rfl rfl rfl ?_; refine WD_skip rfl rfl hb83 rfl rfl rfl ?_; refine WD_skip rfl rfl hb83 rfl rfl rfl ?_; refine WD_skip rfl rfl hb83 rfl rfl rfl ?_; refine WD_skip rfl rfl hb83 rfl rfl rfl ?_; refine WD_skipS rfl rfl hb83 rfl rfl rfl (fun _ _ => ⟨hS.sat, trivial⟩) ?_; refine WD_skipS rfl rfl hb83 rfl rfl rfl (fun _ _ => ⟨hS.sat, trivial⟩) ?_; refine WD_skipS rfl rfl hb83 rfl rfl rfl (fun _ _ => ⟨hS.sat, trivial⟩) ?_
             refine WD_skipS rfl rfl hb83 rfl rfl rfl (fun _ h => noneed (by kernel_rfl) h) ?_
             refine WD_op rfl rfl (OpP_val (rn_pickT (v := (.bool true)) rfl hb83 rfl) rfl ?_)
             refine ⟨fun _ h => noneed (by kernel_rfl) h, ?_⟩
             refine WD_nil ?_
             have hO : Owns G73 w72.drew w0.heap.size ([]) := hO
             have H := Option.some.inj H; subst H
             exact ⟨_, G73, upds_self _ _ ⟨rfl, rfl, rfl, rfl, rfl, rfl, rfl, rfl, trivial⟩, Gle.refl _, hS, hO⟩
            ·have H := ifF hb83 H; refine WD_valY rfl rfl hb83 rfl rfl (fun w hw => rn_move (v := (.slice a4 n4 c4)) rfl) rfl ?_; refine WD_valY rfl rfl hb83 rfl rfl (fun w hw => rn_move (v := (.int .i64 s68)) rfl) rfl ?_; refine WD_idxY rfl rfl hb83 rfl rfl sl29 (h4.mono RInt_mono l0_6) hy76 rfl rfl rfl ?_
             rintro b84 o84 _ hcb84 _ ⟨⟩
             refine WD_valY rfl rfl hb83 rfl rfl (fun w hw => rn_load na3 rfl (hw.1.cell (hcb84 0 _ rfl))) rfl ?_; refine WD_valY rfl rfl hb83 rfl rfl (fun w hw => rn_move (v := (.slice a45 n45 c45)) rfl) rfl ?_; refine WD_opY rfl rfl rfl hb83 rfl rfl (OpP_val (rn_move (v := (.int .i64 s68)) rfl) rfl ?_); refine ⟨fun _ _ => ⟨hS.sat, trivial⟩, ?_⟩; obtain ⟨y85, hy85, H⟩ := bnd H; refine WD_opY rfl rfl rfl hb83 rfl rfl (OpP_idx sl29 (h45.mono RInt_mono leG73) hy85 rfl rfl rfl ?_)
             rintro b86 o86 _ hcb86 _ ⟨⟩
             refine ⟨fun _ _ => ⟨hS.sat, trivial⟩, ?_⟩; refine WD_opY rfl rfl rfl hb83 rfl rfl (OpP_val (rn_load na3 rfl (hS.sat.cell (hcb86 0 _ rfl))) rfl ?_); refine ⟨fun _ _ => ⟨hS.sat, trivial⟩, ?_⟩; refine WD_opY rfl rfl rfl hb83 rfl rfl (OpP_val (rn_lss rfl rfl) rfl ?_)
             refine ⟨fun _ h => noneed (by kernel_rfl) h, ?_⟩
             refine WD_op rfl rfl (OpP_val (rn_pickF (v := (.bool (decide (y76 < y85)))) rfl hb83 rfl) rfl ?_)
             refine ⟨fun _ h => noneed (by kernel_rfl) h, ?_⟩
             refine WD_nil ?_
             have hO : Owns G73 w72.drew w0.heap.size ([]) := hO
             have H := Option.some.inj H; subst H
             exact ⟨_, G73, upds_self _ _ ⟨rfl, rfl, rfl, rfl, rfl, rfl, rfl, rfl, trivial⟩, Gle.refl _, hS, hO⟩
          ·rintro F w87 ⟨Fb, G88, rfl, leG88, hS, hO⟩
           refine WC_cond rfl (fun hb89 => ?_) (fun hb89 => ?_)
           ·have H := ifT hb89 H; refine WC_seq ?_; refine WC_region ?_; refine WL_val (rn_assign (v := (.bool false)) rfl) rfl ?_; refine WL_nil ?_; refine WC_ret ?_; have H := Option.some.inj H; subst H
            have hres := hqq70 _ rfl
            subst hres; have H := Hoq70
            have H : some false = some r := H
            have H := Option.some.inj H; subst H
            exact ⟨rfl, hS.below⟩
           ·have H := ifF hb89 H; refine WC_skip ?_; refine WC_region ?_; refine WL_val (rn_move (v := (.int .i64 s68)) rfl) rfl ?_; refine WL_val (rn_add rfl rfl) rfl ?_; refine WL_val (rn_assign (v := (.int .i64 (IntKind.i64.wrap (s68 + 1)))) rfl) rfl ?_; refine WL_nil ?_
            have hO : Owns G88 w87 w0.heap.size ([]) := hO
            have H := Option.some.inj H; subst H; refine ⟨_, rfl, ?_⟩
            have l5_7 := leG73.trans leG88
            exact ⟨_, G88, upds_self _ _ ⟨rfl, rfl, rfl, rfl, rfl, rfl, rfl, trivial⟩, l5_7, hS, hO⟩
         ·have H := ifF hb74 H; refine WC_exit rfl ?_
          have hO : Owns G73 w72 w0.heap.size ([]) := hO
          have H := Option.some.inj H; subst H
          have hres := hqq70 _ rfl
          subst hres
          exact ⟨_, _, G73, rfl, upds_self _ _ ⟨rfl, rfl, rfl, rfl, trivial⟩, leG73, hS, hO⟩
       ·rintro F w90 ⟨p69, Fb, G91, rfl, rfl, leG91, hS, hO⟩
        refine WC_seq ?_; have hS := hS.keep (below_drew _); have hO := hO.below (below_drew _)
        refine WC_regionD mixedO (fun _ w => Sat G91 w ∧ True) (.fl 0 (.fl 1 (.fl 2 (.fl 3 (.fl 4 (.on 5 (.on 6 (.on 7 (.on 8 (.on 9 .nil)))))))))) (by kernel_rfl) rfl (by kernel_rfl) (fun _ => ⟨hS.sat, trivial⟩) ?_
        refine WD_val rfl (fun w hw => rn_move (v := (.slice a4 n4 c4)) rfl) rfl ?_; refine WD_val rfl (fun w hw => rn_move (v := (.int .i64 x3)) rfl) rfl ?_; obtain ⟨y92, hy92, H⟩ := bnd H
        have l0_6 := (l0_4.trans leG44).trans leG91
        refine WD_idx rfl sl29 (h4.mono RInt_mono l0_6) hy92 rfl rfl rfl ?_
        rintro b93 o93 _ hcb93 _ ⟨⟩
        refine WD_val rfl (fun w hw => rn_load na3 rfl (hw.1.cell (hcb93 0 _ rfl))) rfl ?_; refine WD_val rfl (fun w hw => rn_move (v := (.slice a4 n4 c4)) rfl) rfl ?_; refine WD_op rfl rfl (OpP_val (rn_move (v := (.int .i64 x2)) rfl) rfl ?_); refine ⟨fun _ _ => ⟨hS.sat, trivial⟩, ?_⟩; obtain ⟨y94, hy94, H⟩ := bnd H; refine WD_op rfl rfl (OpP_idx sl29 (h4.mono RInt_mono l0_6) hy94 rfl rfl rfl ?_)
        rintro b95 o95 _ hcb95 _ ⟨⟩
        refine ⟨fun _ _ => ⟨hS.sat, trivial⟩, ?_⟩; refine WD_op rfl rfl (OpP_val (rn_load na3 rfl (hS.sat.cell (hcb95 0 _ rfl))) rfl ?_); refine ⟨fun _ _ => ⟨hS.sat, trivial⟩, ?_⟩; refine WD_op rfl rfl (OpP_val (rn_sub rfl rfl) rfl ?_)
        refine ⟨fun _ h => noneed (by kernel_rfl) h, ?_⟩
        refine WD_op rfl rfl (OpP_val (rn_assign (v := (.int .i64 (IntKind.i64.wrap (y92 - y94)))) rfl) rfl ?_)
        refine ⟨fun _ h => noneed (by kernel_rfl) h, ?_⟩
        refine WD_nil ?_; refine WC_seq ?_; obtain ⟨q96, hq96, H⟩ := bnd H; refine WC_cut (fun F w => ∃ (Fb : Fr) (G : Gm), F = upds Fb [(8, .bool q96)] ∧ Gle G91 G ∧ Since w0.heap.size G0 w0 G w ∧ Owns G w w0.heap.size []) ?_ ?_
        ·have Hoq96 := H; have H := hq96; refine WC_region ?_; refine WL_val (rn_move (v := (.int .i64 (IntKind.i64.wrap (y92 - y94)))) rfl) rfl ?_; refine WL_val (rn_fld fd44_0 rfl) rfl ?_
         have l4_6 := leG44.trans leG91
         refine WL_val (rn_load na3 rfl ((hS.sat.le l4_6).cell (hcG41 0 _ rfl))) rfl ?_; refine WL_val (rn_geq rfl rfl) rfl ?_; refine WL_val (rn_move (v := (.bool (decide (y35.1.Low ≤ (IntKind.i64.wrap (y92 - y94)))))) rfl) rfl ?_
         rcases bcases (decide (y35.1.Low ≤ (IntKind.i64.wrap (y92 - y94)))) with hb97 | hb97
         ·have H := ifT hb97 H; refine WL_guardY rfl hb97 rfl rfl ?_; refine WL_val (rn_move (v := (.int .i64 (IntKind.i64.wrap (y92 - y94)))) rfl) rfl ?_; refine WL_guardY rfl hb97 rfl rfl ?_; refine WL_val (rn_fld fd44_1 rfl) rfl ?_; refine WL_guardY rfl hb97 rfl rfl ?_; refine WL_val (rn_load na3 rfl ((hS.sat.le l4_6).cell (hcG41 1 _ rfl))) rfl ?_; refine WL_guardY rfl hb97 rfl rfl ?_; refine WL_val (rn_leq rfl rfl) rfl ?_; refine WL_val (rn_pickT (v := (.bool (decide ((IntKind.i64.wrap (y92 - y94)) ≤ y35.1.High)))) rfl hb97 rfl) rfl ?_; refine WL_val (rn_move (v := (.bool (decide ((IntKind.i64.wrap (y92 - y94)) ≤ y35.1.High)))) rfl) rfl ?_
          rcases bcases (decide ((IntKind.i64.wrap (y92 - y94)) ≤ y35.1.High)) with hb98 | hb98
          ·have H := ifT hb98 H; refine WL_guardY rfl hb98 rfl rfl ?_; obtain ⟨y99, hy99, H⟩ := bnd H; refine WL_op rfl (OpP_callV cb15 (f15_ok  hS.sat (hT.mono l0_6)  hy99) rfl rfl (fun w100 hb => ?_)); have hS := hS.keep hb; have hO := hO.below hb; refine WL_val (rn_pickT (v := (.bool y99)) rfl hb98 rfl) rfl ?_; refine WL_val (rn_assign (v := (.bool y99)) rfl) rfl ?_; refine WL_nil ?_
           have hO : Owns G91 w100 w0.heap.size ([]) := hO
           have H := Option.some.inj H; subst H
           exact ⟨_, G91, upds_self _ _ ⟨rfl, trivial⟩, Gle.refl _, hS, hO⟩
          ·have H := ifF hb98 H; refine WL_guardN rfl hb98 rfl rfl rfl ?_; refine WL_val (rn_pickF (v := (.bool false)) rfl hb98 rfl) rfl ?_; refine WL_val (rn_assign (v := (.bool false)) rfl) rfl ?_; refine WL_nil ?_
           have hO : Owns G91 w90.drew w0.heap.size ([]) := hO
           have H := Option.some.inj H; subst H
           exact ⟨_, G91, upds_self _ _ ⟨rfl, trivial⟩, Gle.refl _, hS, hO⟩
         ·have H := ifF hb97 H; refine WL_guardN rfl hb97 rfl rfl rfl ?_; refine WL_guardN rfl hb97 rfl rfl rfl ?_; refine WL_guardN rfl hb97 rfl rfl rfl ?_; refine WL_guardN rfl hb97 rfl rfl rfl ?_; refine WL_val (rn_pickF (v := (.bool false)) rfl hb97 rfl) rfl ?_; refine WL_val (rn_move (v := (.bool false)) rfl) rfl ?_; refine WL_guardN rfl rfl rfl rfl rfl ?_; refine WL_val (rn_pickF (v := (.bool false)) rfl rfl rfl) rfl ?_; refine WL_val (rn_assign (v := (.bool false)) rfl) rfl ?_; refine WL_nil ?_
          have hO : Owns G91 w90.drew w0.heap.size ([]) := hO
          have H := Option.some.inj H; subst H
          exact ⟨_, G91, upds_self _ _ ⟨rfl, trivial⟩, Gle.refl _, hS, hO⟩
        ·rintro F w101 ⟨Fb, G102, rfl, leG102, hS, hO⟩
         refine WC_ret ?_
         have H : some q96 = some r := H
         have H := Option.some.inj H; subst H
         exact ⟨rfl, hS.below⟩
end Go.Proofs.YtcaflmilfhhikaaDoor
