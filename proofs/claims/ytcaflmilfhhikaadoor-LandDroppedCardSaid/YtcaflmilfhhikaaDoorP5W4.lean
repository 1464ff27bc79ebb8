/-
  The walks: each Go function computes its plain function (printed by a program of ours).
-/
import Derived.Test.YtcaflmilfhhikaaDoorRd
import Derived.Test.YtcaflmilfhhikaaDoorBaseQ
import Derived.Test.YtcaflmilfhhikaaDoorIt
import Derived.Test.YtcaflmilfhhikaaDoorLib
import Derived.Test.YtcaflmilfhhikaaDoorBu
import Derived.Test.YtcaflmilfhhikaaDoorP5W3
namespace Go.Proofs.YtcaflmilfhhikaaDoor
open Go.RowKit
set_option linter.unusedVariables false

set_option maxRecDepth 20000
set_option linter.unusedVariables false
set_option maxHeartbeats 1000000 in
theorem f5_ok {G0 : Gm} {w0 : World} (hS0 : Sat G0 w0) {x0 : TLandBook} {a1 : Option Addr} {n1 c1 : Nat} {a2 : Option Addr} {n2 c2 : Nat} {a3 : Option Addr} {n3 c3 : Nat} {x1 : (List Int)} {a4 : Option Addr} {n4 c4 : Nat} (hT : TabG Tryd.prog G0) (h1 : RSl RTLandPerson 2 G0 a1 n1 c1 x0.People) (h2 : RSl RTLandEvent 2 G0 a2 n2 c2 x0.Events) (h3 : RSl RTLandMemory 4 G0 a3 n3 c3 x0.Memories) (h4 : RSl RInt 1 G0 a4 n4 c4 x1) {r : Bool} (H : f5 x0 x1 = some r) :
  Calls Tryd.prog 5 #[.agg #[.slice a1 n1 c1, .slice a2 n2 c2, .slice a3 n3 c3], .slice a4 n4 c4] w0 (RetV w0 (.bool r)) := by
 have hS := Since.start hS0
 have hO : Owns G0 w0 w0.heap.size [] := Owns.nil (Nat.le_refl _)
 unfold f5 at H
 refine enter1 (N := 138) (shutV _ _) Tryd.func5 rfl rfl rfl rfl ?_; refine WC_seq ?_; refine WC_region ?_; refine WL_op rfl (OpP_newF (v := fun b => .pointer (some ⟨b, 0, none⟩)) (cs := [.slice a1 n1 c1, .slice a2 n2 c2, .slice a3 n3 c3]) (e := 26) (rn_boxA rfl) hS.sat rfl (fun b5 G7 w6 hg hcb5 => ?_)); have hS := hS.grow hg; have hO := hO.grow hg
 have leG7 := hg.le
 refine WL_val (rn_assign (v := (.bool false)) rfl) rfl ?_; refine WL_nil ?_; refine WC_seq ?_; refine WC_seq ?_; obtain ⟨q8, hq8, H⟩ := bnd H; refine WC_cut (fun F w => ∃ (Fb : Fr) (G : Gm), F = upds Fb [(1, .slice a4 n4 c4), (2, .pointer (some ⟨b5, 0, none⟩)), (33, .bool q8)] ∧ Gle G7 G ∧ Since w0.heap.size G0 w0 G w ∧ Owns G w w0.heap.size []) ?_ ?_
 ·have Hoq8 := H; have H := hq8; refine WC_region ?_; refine WL_val (rn_loadA ag26 (cs := [.slice a1 n1 c1, .slice a2 n2 c2, .slice a3 n3 c3]) rfl rfl (fun j v hj => hS.sat.cell (hcb5.drop_take 0 3 j v hj))) rfl ?_; obtain ⟨y9, hy9, H⟩ := bnd H; refine WL_op rfl (OpP_callV cb14 (f14_ok (x0 := x0) hS.sat (h1.mono RTLandPerson_mono leG7) (h2.mono RTLandEvent_mono leG7) (h3.mono RTLandMemory_mono leG7) hy9) rfl rfl (fun w10 hb => ?_)); have hS := hS.keep hb; have hO := hO.below hb; refine WL_val (rn_not rfl) rfl ?_; refine WL_val (rn_move (v := (.bool (!y9))) rfl) rfl ?_
  rcases bcases (!y9) with hb11 | hb11
  ·have H := ifT hb11 H; refine WL_guardN rfl hb11 rfl rfl rfl ?_; refine WL_guardN rfl hb11 rfl rfl rfl ?_; refine WL_guardN rfl hb11 rfl rfl rfl ?_; refine WL_val (rn_pickT (v := (.bool true)) rfl hb11 rfl) rfl ?_; refine WL_val (rn_move (v := (.bool true)) rfl) rfl ?_; refine WL_guardN rfl rfl rfl rfl rfl ?_; refine WL_guardN rfl rfl rfl rfl rfl ?_; refine WL_guardN rfl rfl rfl rfl rfl ?_; refine WL_val (rn_pickT (v := (.bool true)) rfl rfl rfl) rfl ?_; refine WL_val (rn_move (v := (.bool true)) rfl) rfl ?_; refine WL_guardN rfl rfl rfl rfl rfl ?_; refine WL_guardN rfl rfl rfl rfl rfl ?_; refine WL_guardN rfl rfl rfl rfl rfl ?_; refine WL_guardN rfl rfl rfl rfl rfl ?_; refine WL_val (rn_pickT (v := (.bool true)) rfl rfl rfl) rfl ?_; refine WL_nil ?_
   have hO : Owns G7 w10 w0.heap.size ([]) := hO
   have H := Option.some.inj H; subst H
   exact ⟨_, G7, upds_self _ _ ⟨rfl, rfl, rfl, trivial⟩, Gle.refl _, hS, hO⟩
  ·have H := ifF hb11 H; refine WL_guardY rfl hb11 rfl rfl ?_; refine WL_val (rn_loadA ag26 (cs := [.slice a1 n1 c1, .slice a2 n2 c2, .slice a3 n3 c3]) rfl rfl (fun j v hj => hS.sat.cell (hcb5.drop_take 0 3 j v hj))) rfl ?_; refine WL_guardY rfl hb11 rfl rfl ?_; obtain ⟨y12, hy12, H⟩ := bnd H; refine WL_op rfl (OpP_callV cb18 (f18_ok (x0 := x0) hS.sat (h1.mono RTLandPerson_mono leG7) (h2.mono RTLandEvent_mono leG7) (h3.mono RTLandMemory_mono leG7) hy12) rfl rfl (fun w13 hb => ?_)); have hS := hS.keep hb; have hO := hO.below hb; refine WL_guardY rfl hb11 rfl rfl ?_; refine WL_val (rn_not rfl) rfl ?_; refine WL_val (rn_pickF (v := (.bool (!y12))) rfl hb11 rfl) rfl ?_; refine WL_val (rn_move (v := (.bool (!y12))) rfl) rfl ?_
   rcases bcases (!y12) with hb14 | hb14
   ·have H := ifT hb14 H; refine WL_guardN rfl hb14 rfl rfl rfl ?_; refine WL_guardN rfl hb14 rfl rfl rfl ?_; refine WL_guardN rfl hb14 rfl rfl rfl ?_; refine WL_val (rn_pickT (v := (.bool true)) rfl hb14 rfl) rfl ?_; refine WL_val (rn_move (v := (.bool true)) rfl) rfl ?_; refine WL_guardN rfl rfl rfl rfl rfl ?_; refine WL_guardN rfl rfl rfl rfl rfl ?_; refine WL_guardN rfl rfl rfl rfl rfl ?_; refine WL_guardN rfl rfl rfl rfl rfl ?_; refine WL_val (rn_pickT (v := (.bool true)) rfl rfl rfl) rfl ?_; refine WL_nil ?_
    have hO : Owns G7 w13 w0.heap.size ([]) := hO
    have H := Option.some.inj H; subst H
    exact ⟨_, G7, upds_self _ _ ⟨rfl, rfl, rfl, trivial⟩, Gle.refl _, hS, hO⟩
   ·have H := ifF hb14 H; refine WL_guardY rfl hb14 rfl rfl ?_; refine WL_val (rn_move (v := (.slice a4 n4 c4)) rfl) rfl ?_; refine WL_guardY rfl hb14 rfl rfl ?_; refine WL_val (rn_len sl29 rfl rfl (h4.mono RInt_mono leG7).1) rfl ?_; refine WL_guardY rfl hb14 rfl rfl ?_; refine WL_val (rn_gtr rfl rfl) rfl ?_; refine WL_val (rn_pickF (v := (.bool (decide (15 < (x1.length : Int))))) rfl hb14 rfl) rfl ?_; refine WL_val (rn_move (v := (.bool (decide (15 < (x1.length : Int))))) rfl) rfl ?_
    rcases bcases (decide (15 < (x1.length : Int))) with hb15 | hb15
    ·have H := ifT hb15 H; refine WL_guardN rfl hb15 rfl rfl rfl ?_; refine WL_guardN rfl hb15 rfl rfl rfl ?_; refine WL_guardN rfl hb15 rfl rfl rfl ?_; refine WL_guardN rfl hb15 rfl rfl rfl ?_; refine WL_val (rn_pickT (v := (.bool true)) rfl hb15 rfl) rfl ?_; refine WL_nil ?_
     have hO : Owns G7 w13 w0.heap.size ([]) := hO
     have H := Option.some.inj H; subst H
     exact ⟨_, G7, upds_self _ _ ⟨rfl, rfl, rfl, trivial⟩, Gle.refl _, hS, hO⟩
    ·have H := ifF hb15 H; refine WL_guardY rfl hb15 rfl rfl ?_; refine WL_val (rn_loadA ag26 (cs := [.slice a1 n1 c1, .slice a2 n2 c2, .slice a3 n3 c3]) rfl rfl (fun j v hj => hS.sat.cell (hcb5.drop_take 0 3 j v hj))) rfl ?_; refine WL_guardY rfl hb15 rfl rfl ?_; refine WL_val (rn_move (v := (.slice a4 n4 c4)) rfl) rfl ?_; refine WL_guardY rfl hb15 rfl rfl ?_; obtain ⟨y16, hy16, H⟩ := bnd H; refine WL_op rfl (OpP_callV cb23 (f23_ok (x0 := x0) (x1 := x1) hS.sat (h1.mono RTLandPerson_mono leG7) (h2.mono RTLandEvent_mono leG7) (h3.mono RTLandMemory_mono leG7) (h4.mono RInt_mono leG7) hy16) rfl rfl (fun w17 hb => ?_)); have hS := hS.keep hb; have hO := hO.below hb; refine WL_guardY rfl hb15 rfl rfl ?_; refine WL_val (rn_not rfl) rfl ?_; refine WL_val (rn_pickF (v := (.bool (!y16))) rfl hb15 rfl) rfl ?_; refine WL_nil ?_
     have hO : Owns G7 w17 w0.heap.size ([]) := hO
     have H := Option.some.inj H; subst H
     exact ⟨_, G7, upds_self _ _ ⟨rfl, rfl, rfl, trivial⟩, Gle.refl _, hS, hO⟩
 ·rintro F w18 ⟨Fb, G19, rfl, leG19, hS, hO⟩
  refine WC_cond rfl (fun hb20 => ?_) (fun hb20 => ?_)
  ·have H := ifT hb20 H; refine WC_seq ?_; refine WC_region ?_; obtain ⟨y21, hy21, H⟩ := bnd H
   have l0_2 := leG7.trans leG19
   refine WL_op rfl (OpP_callV cb15 (f15_ok  hS.sat (hT.mono l0_2)  hy21) rfl rfl (fun w22 hb => ?_)); have hS := hS.keep hb; have hO := hO.below hb; refine WL_val (rn_assign (v := (.bool y21)) rfl) rfl ?_; refine WL_nil ?_; refine WC_ret ?_
   have H : some y21 = some r := H
   have H := Option.some.inj H; subst H
   exact ⟨rfl, hS.below⟩
  ·have H := ifF hb20 H; refine WC_skip ?_; refine WC_seq ?_; refine WC_region ?_; refine WL_val (rn_loadA ag26 (cs := [.slice a1 n1 c1, .slice a2 n2 c2, .slice a3 n3 c3]) rfl rfl (fun j v hj => (hS.sat.le leG19).cell (hcb5.drop_take 0 3 j v hj))) rfl ?_; obtain ⟨y23, hy23, H⟩ := bnd H
   have l0_2 := leG7.trans leG19
   refine WL_op rfl (OpP_callG cb17 (f17_ok (x0 := x0) hS.sat (h1.mono RTLandPerson_mono l0_2) (h2.mono RTLandEvent_mono l0_2) (h3.mono RTLandMemory_mono l0_2) hy23) rfl rfl (fun vy23 G25 w24 hg hvy23 => ?_)); obtain ⟨a26, n26, c26, ⟨⟩, h26⟩ := hvy23; have hS := hS.grow hg; have hO := hO.grow hg
   have leG25 := hg.le
   refine WL_val (rn_move (v := (.tuple #[.slice a26 n26 c26, .int .i64 y23.2])) rfl) rfl ?_; refine WL_val (rn_extract (v := (.slice a26 n26 c26)) rfl rfl) rfl ?_; refine WL_val (rn_extract (v := (.int .i64 y23.2)) rfl rfl) rfl ?_; refine WL_val (rn_assign (v := (.slice a26 n26 c26)) rfl) rfl ?_; refine WL_val (rn_assign (v := (.int .i64 y23.2)) rfl) rfl ?_; refine WL_nil ?_; refine WC_seq ?_; refine WC_region ?_
   have l1_3 := leG19.trans leG25
   refine WL_val (rn_loadA ag26 (cs := [.slice a1 n1 c1, .slice a2 n2 c2, .slice a3 n3 c3]) rfl rfl (fun j v hj => (hS.sat.le l1_3).cell (hcb5.drop_take 0 3 j v hj))) rfl ?_; obtain ⟨y27, hy27, H⟩ := bnd H
   have l0_3 := l0_2.trans leG25
   refine WL_op rfl (OpP_callG cb16 (f16_ok (x0 := x0) hS.sat (h1.mono RTLandPerson_mono l0_3) (h2.mono RTLandEvent_mono l0_3) (h3.mono RTLandMemory_mono l0_3) hy27) rfl rfl (fun vy27 G29 w28 hg hvy27 => ?_)); obtain ⟨a30, n30, c30, ⟨⟩, h30⟩ := hvy27; have hS := hS.grow hg; have hO := hO.grow hg
   have leG29 := hg.le
   refine WL_val (rn_move (v := (.tuple #[.slice a30 n30 c30, .int .i64 y27.2])) rfl) rfl ?_; refine WL_val (rn_extract (v := (.slice a30 n30 c30)) rfl rfl) rfl ?_; refine WL_val (rn_extract (v := (.int .i64 y27.2)) rfl rfl) rfl ?_; refine WL_val (rn_assign (v := (.slice a30 n30 c30)) rfl) rfl ?_; refine WL_val (rn_assign (v := (.int .i64 y27.2)) rfl) rfl ?_; refine WL_nil ?_; refine WC_seq ?_; refine WC_seq ?_; obtain ⟨q31, hq31, H⟩ := bnd H; refine WC_cut (fun F w => ∃ (Fb : Fr) (G : Gm), F = upds Fb [(1, .slice a4 n4 c4), (2, .pointer (some ⟨b5, 0, none⟩)), (5, .slice a26 n26 c26), (7, .slice a30 n30 c30), (8, .int .i64 y27.2), (57, .bool q31)] ∧ Gle G29 G ∧ Since w0.heap.size G0 w0 G w ∧ Owns G w w0.heap.size []) ?_ ?_
   ·have Hoq31 := H; have H := hq31; refine WC_region ?_; refine WL_val (rn_move (v := (.int .i64 y23.2)) rfl) rfl ?_; refine WL_val (rn_neq rfl rfl) rfl ?_; refine WL_val (rn_move (v := (.bool (y23.2 != 0))) rfl) rfl ?_
    rcases bcases (y23.2 != 0) with hb32 | hb32
    ·have H := ifT hb32 H; refine WL_guardN rfl hb32 rfl rfl rfl ?_; refine WL_guardN rfl hb32 rfl rfl rfl ?_; refine WL_guardN rfl hb32 rfl rfl rfl ?_; refine WL_val (rn_pickT (v := (.bool true)) rfl hb32 rfl) rfl ?_; refine WL_val (rn_move (v := (.bool true)) rfl) rfl ?_; refine WL_guardN rfl rfl rfl rfl rfl ?_; refine WL_guardN rfl rfl rfl rfl rfl ?_; refine WL_guardN rfl rfl rfl rfl rfl ?_; refine WL_guardN rfl rfl rfl rfl rfl ?_; refine WL_val (rn_pickT (v := (.bool true)) rfl rfl rfl) rfl ?_; refine WL_nil ?_
     have hO : Owns G29 w28 w0.heap.size ([]) := hO
     have H := Option.some.inj H; subst H
     exact ⟨_, G29, upds_self _ _ ⟨rfl, rfl, rfl, rfl, rfl, rfl, trivial⟩, Gle.refl _, hS, hO⟩
    ·have H := ifF hb32 H; refine WL_guardY rfl hb32 rfl rfl ?_; refine WL_val (rn_move (v := (.slice a26 n26 c26)) rfl) rfl ?_; refine WL_guardY rfl hb32 rfl rfl ?_; refine WL_val (rn_len sl29 rfl rfl (h26.mono RInt_mono leG29).1) rfl ?_; refine WL_guardY rfl hb32 rfl rfl ?_; refine WL_val (rn_gtr rfl rfl) rfl ?_; refine WL_val (rn_pickF (v := (.bool (decide (15 < (y23.1.length : Int))))) rfl hb32 rfl) rfl ?_; refine WL_val (rn_move (v := (.bool (decide (15 < (y23.1.length : Int))))) rfl) rfl ?_
     rcases bcases (decide (15 < (y23.1.length : Int))) with hb33 | hb33
     ·have H := ifT hb33 H; refine WL_guardN rfl hb33 rfl rfl rfl ?_; refine WL_guardN rfl hb33 rfl rfl rfl ?_; refine WL_guardN rfl hb33 rfl rfl rfl ?_; refine WL_guardN rfl hb33 rfl rfl rfl ?_; refine WL_val (rn_pickT (v := (.bool true)) rfl hb33 rfl) rfl ?_; refine WL_nil ?_
      have hO : Owns G29 w28 w0.heap.size ([]) := hO
      have H := Option.some.inj H; subst H
      exact ⟨_, G29, upds_self _ _ ⟨rfl, rfl, rfl, rfl, rfl, rfl, trivial⟩, Gle.refl _, hS, hO⟩
     ·have H := ifF hb33 H; refine WL_guardY rfl hb33 rfl rfl ?_
      have l1_4 := l1_3.trans leG29
      refine WL_val (rn_loadA ag26 (cs := [.slice a1 n1 c1, .slice a2 n2 c2, .slice a3 n3 c3]) rfl rfl (fun j v hj => (hS.sat.le l1_4).cell (hcb5.drop_take 0 3 j v hj))) rfl ?_; refine WL_guardY rfl hb33 rfl rfl ?_; refine WL_val (rn_move (v := (.slice a26 n26 c26)) rfl) rfl ?_; refine WL_guardY rfl hb33 rfl rfl ?_; obtain ⟨y34, hy34, H⟩ := bnd H
      have l0_4 := l0_3.trans leG29
      refine WL_op rfl (OpP_callV cb23 (f23_ok (x0 := x0) (x1 := y23.1) hS.sat (h1.mono RTLandPerson_mono l0_4) (h2.mono RTLandEvent_mono l0_4) (h3.mono RTLandMemory_mono l0_4) (h26.mono RInt_mono leG29) hy34) rfl rfl (fun w35 hb => ?_)); have hS := hS.keep hb; have hO := hO.below hb; refine WL_guardY rfl hb33 rfl rfl ?_; refine WL_val (rn_not rfl) rfl ?_; refine WL_val (rn_pickF (v := (.bool (!y34))) rfl hb33 rfl) rfl ?_; refine WL_nil ?_
      have hO : Owns G29 w35 w0.heap.size ([]) := hO
      have H := Option.some.inj H; subst H
      exact ⟨_, G29, upds_self _ _ ⟨rfl, rfl, rfl, rfl, rfl, rfl, trivial⟩, Gle.refl _, hS, hO⟩
   ·rintro F w36 ⟨Fb, G37, rfl, leG37, hS, hO⟩
    refine WC_cond rfl (fun hb38 => ?_) (fun hb38 => ?_)
    ·have H := ifT hb38 H; refine WC_seq ?_; refine WC_region ?_; refine WL_val (rn_assign (v := (.bool false)) rfl) rfl ?_; refine WL_nil ?_; refine WC_ret ?_
     have H : some false = some r := H
     have H := Option.some.inj H; subst H
     exact ⟨rfl, hS.below⟩
    ·have H := ifF hb38 H; refine WC_skip ?_; refine WC_seq ?_; refine WC_region ?_
     have l1_5 := (l1_3.trans leG29).trans leG37
     refine WL_val (rn_loadA ag26 (cs := [.slice a1 n1 c1, .slice a2 n2 c2, .slice a3 n3 c3]) rfl rfl (fun j v hj => (hS.sat.le l1_5).cell (hcb5.drop_take 0 3 j v hj))) rfl ?_; refine WL_val (rn_move (v := (.slice a26 n26 c26)) rfl) rfl ?_; obtain ⟨y39, hy39, H⟩ := bnd H
     have l0_5 := (l0_3.trans leG29).trans leG37
     have l3_5 := leG29.trans leG37
     refine WL_op rfl (OpP_callG cb25 (f25_ok (x0 := x0) (x1 := y23.1) (x2 := true) hS.sat (h1.mono RTLandPerson_mono l0_5) (h2.mono RTLandEvent_mono l0_5) (h3.mono RTLandMemory_mono l0_5) (h26.mono RInt_mono l3_5) hy39) rfl rfl (fun vy39 G41 w40 hg hvy39 => ?_)); obtain ⟨a42, n42, c42, a43, n43, c43, a44, n44, c44, ⟨⟩, h42, h43, h44⟩ := hvy39; have hS := hS.grow hg; have hO := hO.grow hg
     have leG41 := hg.le
     obtain ⟨y45, hy45, H⟩ := bnd H; refine WL_op rfl (OpP_callV cb24 (f24_ok (x0 := y39) hS.sat h42 h43 h44 hy45) rfl rfl (fun w46 hb => ?_)); have hS := hS.keep hb; have hO := hO.below hb; refine WL_val (rn_move (v := (.tuple #[.bool y45.1, .bool y45.2])) rfl) rfl ?_; refine WL_val (rn_extract (v := (.bool y45.1)) rfl rfl) rfl ?_; refine WL_val (rn_extract (v := (.bool y45.2)) rfl rfl) rfl ?_; refine WL_val (rn_assign (v := (.bool y45.1)) rfl) rfl ?_; refine WL_val (rn_assign (v := (.bool y45.2)) rfl) rfl ?_; refine WL_nil ?_; refine WC_seq ?_; refine WC_region ?_
     have l1_6 := l1_5.trans leG41
     refine WL_val (rn_loadA ag26 (cs := [.slice a1 n1 c1, .slice a2 n2 c2, .slice a3 n3 c3]) rfl rfl (fun j v hj => (hS.sat.le l1_6).cell (hcb5.drop_take 0 3 j v hj))) rfl ?_; refine WL_val (rn_move (v := (.slice a4 n4 c4)) rfl) rfl ?_; obtain ⟨y47, hy47, H⟩ := bnd H
     have l0_6 := l0_5.trans leG41
     refine WL_op rfl (OpP_callG cb25 (f25_ok (x0 := x0) (x1 := x1) (x2 := true) hS.sat (h1.mono RTLandPerson_mono l0_6) (h2.mono RTLandEvent_mono l0_6) (h3.mono RTLandMemory_mono l0_6) (h4.mono RInt_mono l0_6) hy47) rfl rfl (fun vy47 G49 w48 hg hvy47 => ?_)); obtain ⟨a50, n50, c50, a51, n51, c51, a52, n52, c52, ⟨⟩, h50, h51, h52⟩ := hvy47; have hS := hS.grow hg; have hO := hO.grow hg
     have leG49 := hg.le
     obtain ⟨y53, hy53, H⟩ := bnd H; refine WL_op rfl (OpP_callV cb24 (f24_ok (x0 := y47) hS.sat h50 h51 h52 hy53) rfl rfl (fun w54 hb => ?_)); have hS := hS.keep hb; have hO := hO.below hb; refine WL_val (rn_move (v := (.tuple #[.bool y53.1, .bool y53.2])) rfl) rfl ?_; refine WL_val (rn_extract (v := (.bool y53.1)) rfl rfl) rfl ?_; refine WL_val (rn_extract (v := (.bool y53.2)) rfl rfl) rfl ?_; refine WL_val (rn_assign (v := (.bool y53.1)) rfl) rfl ?_; refine WL_val (rn_assign (v := (.bool y53.2)) rfl) rfl ?_; refine WL_nil ?_; refine WC_seq ?_; refine WC_seq ?_; obtain ⟨q55, hq55, H⟩ := bnd H; refine WC_cut (fun F w => ∃ (Fb : Fr) (G : Gm), F = upds Fb [(5, .slice a26 n26 c26), (7, .slice a30 n30 c30), (8, .int .i64 y27.2), (103, .bool q55)] ∧ Gle G49 G ∧ Since w0.heap.size G0 w0 G w ∧ Owns G w w0.heap.size []) ?_ ?_
     ·have Hoq55 := H; have H := hq55; refine WC_region ?_; refine WL_val (rn_move (v := (.bool y45.2)) rfl) rfl ?_; refine WL_val (rn_not rfl) rfl ?_; refine WL_val (rn_move (v := (.bool (!y45.2))) rfl) rfl ?_
      rcases bcases (!y45.2) with hb56 | hb56
      ·have H := ifT hb56 H; refine WL_guardN rfl hb56 rfl rfl rfl ?_; refine WL_guardN rfl hb56 rfl rfl rfl ?_; refine WL_val (rn_pickT (v := (.bool true)) rfl hb56 rfl) rfl ?_; refine WL_val (rn_move (v := (.bool true)) rfl) rfl ?_; refine WL_guardN rfl rfl rfl rfl rfl ?_; refine WL_guardN rfl rfl rfl rfl rfl ?_; refine WL_val (rn_pickT (v := (.bool true)) rfl rfl rfl) rfl ?_; refine WL_val (rn_move (v := (.bool true)) rfl) rfl ?_; refine WL_guardN rfl rfl rfl rfl rfl ?_; refine WL_guardN rfl rfl rfl rfl rfl ?_; refine WL_guardU rfl rfl rfl rfl ?_; refine WL_guardU rfl rfl rfl rfl ?_; refine WL_guardU rfl rfl rfl rfl ?_; refine WL_guardU rfl rfl rfl rfl ?_; refine WL_guardU rfl rfl rfl rfl ?_; refine WL_guardU rfl rfl rfl rfl ?_; refine WL_guardU rfl rfl rfl rfl ?_; refine WL_guardU rfl rfl rfl rfl ?_; refine WL_guardU rfl rfl rfl rfl ?_; refine WL_guardU rfl rfl rfl rfl ?_; refine WL_guardU rfl rfl rfl rfl ?_; refine WL_guardU rfl rfl rfl rfl ?_; refine WL_guardU rfl rfl rfl rfl ?_; refine WL_guardU rfl rfl rfl rfl ?_; refine WL_guardU rfl rfl rfl rfl ?_; refine WL_guardU rfl rfl rfl rfl ?_; refine WL_guardU rfl rfl rfl rfl ?_; refine WL_guardN rfl rfl rfl rfl rfl ?_; refine WL_val (rn_pickT (v := (.bool true)) rfl rfl rfl) rfl ?_; refine WL_nil ?_
       have hO : Owns G49 w54 w0.heap.size ([]) := hO
       have H := Option.some.inj H; subst H
       exact ⟨_, G49, upds_self _ _ ⟨rfl, rfl, rfl, rfl, trivial⟩, Gle.refl _, hS, hO⟩
      ·have H := ifF hb56 H; refine WL_guardY rfl hb56 rfl rfl ?_; refine WL_val (rn_move (v := (.bool y53.2)) rfl) rfl ?_; refine WL_guardY rfl hb56 rfl rfl ?_; refine WL_val (rn_not rfl) rfl ?_; refine WL_val (rn_pickF (v := (.bool (!y53.2))) rfl hb56 rfl) rfl ?_; refine WL_val (rn_move (v := (.bool (!y53.2))) rfl) rfl ?_
       rcases bcases (!y53.2) with hb57 | hb57
       ·have H := ifT hb57 H; refine WL_guardN rfl hb57 rfl rfl rfl ?_; refine WL_guardN rfl hb57 rfl rfl rfl ?_; refine WL_val (rn_pickT (v := (.bool true)) rfl hb57 rfl) rfl ?_; refine WL_val (rn_move (v := (.bool true)) rfl) rfl ?_; refine WL_guardN rfl rfl rfl rfl rfl ?_; refine WL_guardN rfl rfl rfl rfl rfl ?_; refine WL_guardU rfl rfl rfl rfl ?_; refine WL_guardU rfl rfl rfl rfl ?_; refine WL_guardU rfl rfl rfl rfl ?_; refine WL_guardU rfl rfl rfl rfl ?_; refine WL_guardU rfl rfl rfl rfl ?_; refine WL_guardU rfl rfl rfl rfl ?_; refine WL_guardU rfl rfl rfl rfl ?_; refine WL_guardU rfl rfl rfl rfl ?_; refine WL_guardU rfl rfl rfl rfl ?_; refine WL_guardU rfl rfl rfl rfl ?_; refine WL_guardU rfl rfl rfl rfl ?_; refine WL_guardU rfl rfl rfl rfl ?_; refine WL_guardU rfl rfl rfl rfl ?_; refine WL_guardU rfl rfl rfl rfl ?_; refine WL_guardU rfl rfl rfl rfl ?_; refine WL_guardU rfl rfl rfl rfl ?_; refine WL_guardU rfl rfl rfl rfl ?_; refine WL_guardN rfl rfl rfl rfl rfl ?_; refine WL_val (rn_pickT (v := (.bool true)) rfl rfl rfl) rfl ?_; refine WL_nil ?_
        have hO : Owns G49 w54 w0.heap.size ([]) := hO
        have H := Option.some.inj H; subst H
        exact ⟨_, G49, upds_self _ _ ⟨rfl, rfl, rfl, rfl, trivial⟩, Gle.refl _, hS, hO⟩
       ·have H := ifF hb57 H; refine WL_guardY rfl hb57 rfl rfl ?_; refine WL_val (rn_move (v := (.bool y45.1)) rfl) rfl ?_; refine WL_guardY rfl hb57 rfl rfl ?_; refine WL_val (rn_not rfl) rfl ?_; refine WL_val (rn_pickF (v := (.bool (!y45.1))) rfl hb57 rfl) rfl ?_; refine WL_val (rn_move (v := (.bool (!y45.1))) rfl) rfl ?_
        rcases bcases (!y45.1) with hb58 | hb58
        ·have H := ifT hb58 H; refine WL_guardN rfl hb58 rfl rfl rfl ?_; refine WL_guardN rfl hb58 rfl rfl rfl ?_; refine WL_guardU rfl rfl rfl rfl ?_; refine WL_guardU rfl rfl rfl rfl ?_; refine WL_guardU rfl rfl rfl rfl ?_; refine WL_guardU rfl rfl rfl rfl ?_; refine WL_guardU rfl rfl rfl rfl ?_; refine WL_guardU rfl rfl rfl rfl ?_; refine WL_guardU rfl rfl rfl rfl ?_; refine WL_guardU rfl rfl rfl rfl ?_; refine WL_guardU rfl rfl rfl rfl ?_; refine WL_guardU rfl rfl rfl rfl ?_; refine WL_guardU rfl rfl rfl rfl ?_; refine WL_guardU rfl rfl rfl rfl ?_; refine WL_guardU rfl rfl rfl rfl ?_; refine WL_guardU rfl rfl rfl rfl ?_; refine WL_guardU rfl rfl rfl rfl ?_; refine WL_guardU rfl rfl rfl rfl ?_; refine WL_guardU rfl rfl rfl rfl ?_; refine WL_guardN rfl hb58 rfl rfl rfl ?_; refine WL_val (rn_pickT (v := (.bool true)) rfl hb58 rfl) rfl ?_; refine WL_nil ?_
         have hO : Owns G49 w54 w0.heap.size ([]) := hO
         have H := Option.some.inj H; subst H
         exact ⟨_, G49, upds_self _ _ ⟨rfl, rfl, rfl, rfl, trivial⟩, Gle.refl _, hS, hO⟩
        ·have H := ifF hb58 H; refine WL_guardY rfl hb58 rfl rfl ?_; refine WL_val (rn_move (v := (.bool y53.1)) rfl) rfl ?_; refine WL_guardY rfl hb58 rfl rfl ?_; refine WL_val (rn_move (v := (.bool y53.1)) rfl) rfl ?_
         rcases bcases y53.1 with hb59 | hb59
         ·have H := ifT hb59 H; refine WL_guardY rfl hb59 rfl rfl ?_; refine WL_val (rn_move (v := (.slice a4 n4 c4)) rfl) rfl ?_; refine WL_guardY rfl hb59 rfl rfl ?_
          have l0_7 := l0_6.trans leG49
          refine WL_val (rn_len sl29 rfl rfl (h4.mono RInt_mono l0_7).1) rfl ?_; refine WL_guardY rfl hb59 rfl rfl ?_; refine WL_val (rn_move (v := (.slice a26 n26 c26)) rfl) rfl ?_; refine WL_guardY rfl hb59 rfl rfl ?_
          have l3_7 := (l3_5.trans leG41).trans leG49
          refine WL_val (rn_len sl29 rfl rfl (h26.mono RInt_mono l3_7).1) rfl ?_; refine WL_guardY rfl hb59 rfl rfl ?_; refine WL_val (rn_lss rfl rfl) rfl ?_; refine WL_guardY rfl hb59 rfl rfl ?_; refine WL_val (rn_move (v := (.bool (decide ((x1.length : Int) < (y23.1.length : Int))))) rfl) rfl ?_
          rcases bcases (decide ((x1.length : Int) < (y23.1.length : Int))) with hb60 | hb60
          ·have H := ifT hb60 H; refine WL_guardN rfl hb60 rfl rfl rfl ?_; refine WL_guardN rfl hb60 rfl rfl rfl ?_; refine WL_guardN rfl hb60 rfl rfl rfl ?_; refine WL_guardN rfl hb60 rfl rfl rfl ?_; refine WL_guardN rfl hb60 rfl rfl rfl ?_; refine WL_guardN rfl hb60 rfl rfl rfl ?_; refine WL_guardU rfl rfl rfl rfl ?_; refine WL_guardU rfl rfl rfl rfl ?_; refine WL_guardU rfl rfl rfl rfl ?_; refine WL_guardN rfl hb60 rfl rfl rfl ?_; refine WL_guardY rfl hb59 rfl rfl ?_; refine WL_val (rn_pickT (v := (.bool true)) rfl hb60 rfl) rfl ?_; refine WL_guardY rfl hb58 rfl rfl ?_; refine WL_val (rn_pickT (v := (.bool true)) rfl hb59 rfl) rfl ?_; refine WL_val (rn_pickF (v := (.bool true)) rfl hb58 rfl) rfl ?_; refine WL_nil ?_
           have hO : Owns G49 w54 w0.heap.size ([]) := hO
           have H := Option.some.inj H; subst H
           exact ⟨_, G49, upds_self _ _ ⟨rfl, rfl, rfl, rfl, trivial⟩, Gle.refl _, hS, hO⟩
          ·have H := ifF hb60 H; refine WL_guardY rfl hb60 rfl rfl ?_; refine WL_val (rn_move (v := (.slice a4 n4 c4)) rfl) rfl ?_; refine WL_guardY rfl hb60 rfl rfl ?_; refine WL_val (rn_len sl29 rfl rfl (h4.mono RInt_mono l0_7).1) rfl ?_; refine WL_guardY rfl hb60 rfl rfl ?_; refine WL_val (rn_move (v := (.slice a26 n26 c26)) rfl) rfl ?_; refine WL_guardY rfl hb60 rfl rfl ?_; refine WL_val (rn_len sl29 rfl rfl (h26.mono RInt_mono l3_7).1) rfl ?_; refine WL_guardY rfl hb60 rfl rfl ?_; refine WL_val (rn_eql rfl rfl) rfl ?_; refine WL_guardY rfl hb60 rfl rfl ?_; refine WL_val (rn_move (v := (.bool ((x1.length : Int) == (y23.1.length : Int)))) rfl) rfl ?_
           rcases bcases ((x1.length : Int) == (y23.1.length : Int)) with hb61 | hb61
           ·have H := ifT hb61 H; refine WL_guardY rfl hb61 rfl rfl ?_; refine WL_val (rn_move (v := (.slice a4 n4 c4)) rfl) rfl ?_; refine WL_guardY rfl hb61 rfl rfl ?_; refine WL_val (rn_move (v := (.slice a26 n26 c26)) rfl) rfl ?_; refine WL_guardY rfl hb61 rfl rfl ?_; obtain ⟨y62, hy62, H⟩ := bnd H; refine WL_op rfl (OpP_callV cb26 (f26_ok (x0 := x1) (x1 := y23.1) hS.sat (h4.mono RInt_mono l0_7) (h26.mono RInt_mono l3_7) hy62) rfl rfl (fun w63 hb => ?_)); have hS := hS.keep hb; have hO := hO.below hb; refine WL_guardY rfl hb60 rfl rfl ?_; refine WL_val (rn_pickT (v := (.bool y62)) rfl hb61 rfl) rfl ?_; refine WL_guardY rfl hb59 rfl rfl ?_; refine WL_val (rn_pickF (v := (.bool y62)) rfl hb60 rfl) rfl ?_; refine WL_guardY rfl hb58 rfl rfl ?_; refine WL_val (rn_pickT (v := (.bool y62)) rfl hb59 rfl) rfl ?_; refine WL_val (rn_pickF (v := (.bool y62)) rfl hb58 rfl) rfl ?_; refine WL_nil ?_
            have hO : Owns G49 w63 w0.heap.size ([]) := hO
            have H := Option.some.inj H; subst H
            exact ⟨_, G49, upds_self _ _ ⟨rfl, rfl, rfl, rfl, trivial⟩, Gle.refl _, hS, hO⟩
           ·have H := ifF hb61 H; refine WL_guardN rfl hb61 rfl rfl rfl ?_; refine WL_guardN rfl hb61 rfl rfl rfl ?_; refine WL_guardN rfl hb61 rfl rfl rfl ?_; refine WL_guardY rfl hb60 rfl rfl ?_; refine WL_val (rn_pickF (v := (.bool false)) rfl hb61 rfl) rfl ?_; refine WL_guardY rfl hb59 rfl rfl ?_; refine WL_val (rn_pickF (v := (.bool false)) rfl hb60 rfl) rfl ?_; refine WL_guardY rfl hb58 rfl rfl ?_; refine WL_val (rn_pickT (v := (.bool false)) rfl hb59 rfl) rfl ?_; refine WL_val (rn_pickF (v := (.bool false)) rfl hb58 rfl) rfl ?_; refine WL_nil ?_
            have hO : Owns G49 w54 w0.heap.size ([]) := hO
            have H := Option.some.inj H; subst H
            exact ⟨_, G49, upds_self _ _ ⟨rfl, rfl, rfl, rfl, trivial⟩, Gle.refl _, hS, hO⟩
         ·have H := ifF hb59 H; refine WL_guardN rfl hb59 rfl rfl rfl ?_; refine WL_guardN rfl hb59 rfl rfl rfl ?_; refine WL_guardN rfl hb59 rfl rfl rfl ?_; refine WL_guardN rfl hb59 rfl rfl rfl ?_; refine WL_guardN rfl hb59 rfl rfl rfl ?_; refine WL_guardN rfl hb59 rfl rfl rfl ?_; refine WL_guardU rfl rfl rfl rfl ?_; refine WL_guardU rfl rfl rfl rfl ?_; refine WL_guardU rfl rfl rfl rfl ?_; refine WL_guardU rfl rfl rfl rfl ?_; refine WL_guardU rfl rfl rfl rfl ?_; refine WL_guardU rfl rfl rfl rfl ?_; refine WL_guardU rfl rfl rfl rfl ?_; refine WL_guardU rfl rfl rfl rfl ?_; refine WL_guardU rfl rfl rfl rfl ?_; refine WL_guardU rfl rfl rfl rfl ?_; refine WL_guardN rfl hb59 rfl rfl rfl ?_; refine WL_guardY rfl hb58 rfl rfl ?_; refine WL_val (rn_pickF (v := (.bool false)) rfl hb59 rfl) rfl ?_; refine WL_val (rn_pickF (v := (.bool false)) rfl hb58 rfl) rfl ?_; refine WL_nil ?_
          have hO : Owns G49 w54 w0.heap.size ([]) := hO
          have H := Option.some.inj H; subst H
          exact ⟨_, G49, upds_self _ _ ⟨rfl, rfl, rfl, rfl, trivial⟩, Gle.refl _, hS, hO⟩
     ·rintro F w64 ⟨Fb, G65, rfl, leG65, hS, hO⟩
      refine WC_cond rfl (fun hb66 => ?_) (fun hb66 => ?_)
      ·have H := ifT hb66 H; refine WC_seq ?_; refine WC_region ?_; refine WL_val (rn_assign (v := (.bool false)) rfl) rfl ?_; refine WL_nil ?_; refine WC_ret ?_
       have H : some false = some r := H
       have H := Option.some.inj H; subst H
       exact ⟨rfl, hS.below⟩
      ·have H := ifF hb66 H; refine WC_skip ?_; refine WC_seq ?_; refine WC_seq ?_; refine WC_region ?_; refine WL_val (rn_move (v := (.int .i64 y27.2)) rfl) rfl ?_; refine WL_val (rn_neq rfl rfl) rfl ?_; refine WL_nil ?_; refine WC_cond rfl (fun hb67 => ?_) (fun hb67 => ?_)
       ·have H := ifT hb67 H; refine WC_seq ?_; obtain ⟨q68, hq68, H⟩ := bnd H; refine WC_cut (fun F w => ∃ (Fb : Fr) (G : Gm), F = upds Fb [(4, .bool q68)] ∧ Gle G65 G ∧ Since w0.heap.size G0 w0 G w ∧ Owns G w w0.heap.size []) ?_ ?_
        ·have Hoq68 := H; have H := hq68; refine WC_region ?_; refine WL_val (rn_move (v := (.int .i64 y27.2)) rfl) rfl ?_; refine WL_val (rn_eql rfl rfl) rfl ?_; refine WL_val (rn_move (v := (.bool (y27.2 == 5))) rfl) rfl ?_
         rcases bcases (y27.2 == 5) with hb69 | hb69
         ·have H := ifT hb69 H; refine WL_guardY rfl hb69 rfl rfl ?_; refine WL_val (rn_move (v := (.slice a26 n26 c26)) rfl) rfl ?_; refine WL_guardY rfl hb69 rfl rfl ?_
          have l3_8 := ((l3_5.trans leG41).trans leG49).trans leG65
          refine WL_val (rn_len sl29 rfl rfl (h26.mono RInt_mono l3_8).1) rfl ?_; refine WL_guardY rfl hb69 rfl rfl ?_; refine WL_val (rn_eql rfl rfl) rfl ?_; refine WL_val (rn_pickT (v := (.bool ((y23.1.length : Int) == 0))) rfl hb69 rfl) rfl ?_; refine WL_val (rn_move (v := (.bool ((y23.1.length : Int) == 0))) rfl) rfl ?_
          rcases bcases ((y23.1.length : Int) == 0) with hb70 | hb70
          ·have H := ifT hb70 H; refine WL_guardY rfl hb70 rfl rfl ?_; obtain ⟨y71, hy71, H⟩ := bnd H
           have l0_8 := (l0_6.trans leG49).trans leG65
           refine WL_op rfl (OpP_callV cb15 (f15_ok  hS.sat (hT.mono l0_8)  hy71) rfl rfl (fun w72 hb => ?_)); have hS := hS.keep hb; have hO := hO.below hb; refine WL_val (rn_pickT (v := (.bool y71)) rfl hb70 rfl) rfl ?_; refine WL_val (rn_assign (v := (.bool y71)) rfl) rfl ?_; refine WL_nil ?_
           have hO : Owns G65 w72 w0.heap.size ([]) := hO
           have H := Option.some.inj H; subst H
           exact ⟨_, G65, upds_self _ _ ⟨rfl, trivial⟩, Gle.refl _, hS, hO⟩
          ·have H := ifF hb70 H; refine WL_guardN rfl hb70 rfl rfl rfl ?_; refine WL_val (rn_pickF (v := (.bool false)) rfl hb70 rfl) rfl ?_; refine WL_val (rn_assign (v := (.bool false)) rfl) rfl ?_; refine WL_nil ?_
           have hO : Owns G65 w64 w0.heap.size ([]) := hO
           have H := Option.some.inj H; subst H
           exact ⟨_, G65, upds_self _ _ ⟨rfl, trivial⟩, Gle.refl _, hS, hO⟩
         ·have H := ifF hb69 H; refine WL_guardN rfl hb69 rfl rfl rfl ?_; refine WL_guardN rfl hb69 rfl rfl rfl ?_; refine WL_guardN rfl hb69 rfl rfl rfl ?_; refine WL_val (rn_pickF (v := (.bool false)) rfl hb69 rfl) rfl ?_; refine WL_val (rn_move (v := (.bool false)) rfl) rfl ?_; refine WL_guardN rfl rfl rfl rfl rfl ?_; refine WL_val (rn_pickF (v := (.bool false)) rfl rfl rfl) rfl ?_; refine WL_val (rn_assign (v := (.bool false)) rfl) rfl ?_; refine WL_nil ?_
          have hO : Owns G65 w64 w0.heap.size ([]) := hO
          have H := Option.some.inj H; subst H
          exact ⟨_, G65, upds_self _ _ ⟨rfl, trivial⟩, Gle.refl _, hS, hO⟩
        ·rintro F w73 ⟨Fb, G74, rfl, leG74, hS, hO⟩
         refine WC_ret ?_
         have H : some q68 = some r := H
         have H := Option.some.inj H; subst H
         exact ⟨rfl, hS.below⟩
       ·have H := ifF hb67 H; refine WC_skip ?_; refine WC_seq ?_; refine WC_seq ?_; refine WC_region ?_; refine WL_val (rn_assign (v := (.int .i64 0)) rfl) rfl ?_; refine WL_nil ?_; obtain ⟨q77, hq77, H⟩ := bnd H; refine WC_cut (fun F w => ∃ (p76 : Unit) (Fb : Fr) (G : Gm), q77 = .inl p76 ∧ F = upds Fb [] ∧ Gle G65 G ∧ Since w0.heap.size G0 w0 G w ∧ Owns G w w0.heap.size []) ?_ ?_
        ·refine WC_block (WC_loop hq77 (fun s75 F w => ∃ (Fb : Fr) (G : Gm), F = upds Fb [(5, .slice a26 n26 c26), (7, .slice a30 n30 c30), (13, .int .i64 s75)] ∧ Gle G65 G ∧ Since w0.heap.size G0 w0 G w ∧ Owns G w w0.heap.size []) ?_ ?_)
         ·have hO : Owns G65 w64 w0.heap.size ([]) := hO
          exact ⟨_, G65, upds_self _ _ ⟨rfl, rfl, rfl, trivial⟩, Gle.refl _, hS, hO⟩
         ·rintro s75 F w79 t78 ⟨Fb, G80, rfl, leG80, hS, hO⟩
          intro H1 hqq77
          have Hoq77 := H; have H := H1
          unfold f5_b0 at H
          refine WC_seq ?_; refine WC_seq ?_; refine WC_region ?_; refine WL_val (rn_move (v := (.int .i64 s75)) rfl) rfl ?_; refine WL_val (rn_move (v := (.slice a30 n30 c30)) rfl) rfl ?_
          have l4_9 := (((leG37.trans leG41).trans leG49).trans leG65).trans leG80
          refine WL_val (rn_len sl29 rfl rfl (h30.mono RInt_mono l4_9).1) rfl ?_; refine WL_val (rn_lss rfl rfl) rfl ?_; refine WL_nil ?_; refine WC_cond rfl (fun hb81 => ?_) (fun hb81 => ?_)
          ·have H := ifT hb81 H; refine WC_skip ?_; refine WC_seq ?_; refine WC_block ?_; refine WC_seq ?_; refine WC_region ?_; refine WL_val (rn_assign (v := (.int .i64 0)) rfl) rfl ?_; refine WL_nil ?_; obtain ⟨q84, hq84, H⟩ := bnd H; refine WC_cut (fun F w => ∃ (p83 : Unit) (Fb : Fr) (G : Gm), q84 = .inl p83 ∧ F = upds Fb [(5, .slice a26 n26 c26), (7, .slice a30 n30 c30), (13, .int .i64 s75)] ∧ Gle G80 G ∧ Since w0.heap.size G0 w0 G w ∧ Owns G w w0.heap.size []) ?_ ?_
           ·refine WC_block (WC_loop hq84 (fun s82 F w => ∃ (Fb : Fr) (G : Gm), F = upds Fb [(5, .slice a26 n26 c26), (7, .slice a30 n30 c30), (13, .int .i64 s75), (14, .int .i64 s82)] ∧ Gle G80 G ∧ Since w0.heap.size G0 w0 G w ∧ Owns G w w0.heap.size []) ?_ ?_)
            ·have hO : Owns G80 w79 w0.heap.size ([]) := hO
             exact ⟨_, G80, upds_self _ _ ⟨rfl, rfl, rfl, rfl, trivial⟩, Gle.refl _, hS, hO⟩
            ·rintro s82 F w86 t85 ⟨Fb, G87, rfl, leG87, hS, hO⟩
             intro H1 hqq84
             have Hoq84 := H; have H := H1
             unfold f5_b1 at H
             refine WC_seq ?_; refine WC_seq ?_; refine WC_region ?_; refine WL_val (rn_move (v := (.int .i64 s82)) rfl) rfl ?_; refine WL_val (rn_move (v := (.slice a26 n26 c26)) rfl) rfl ?_
             have l3_10 := ((((l3_5.trans leG41).trans leG49).trans leG65).trans leG80).trans leG87
             refine WL_val (rn_len sl29 rfl rfl (h26.mono RInt_mono l3_10).1) rfl ?_; refine WL_val (rn_lss rfl rfl) rfl ?_; refine WL_nil ?_; refine WC_cond rfl (fun hb88 => ?_) (fun hb88 => ?_)
             ·have H := ifT hb88 H; refine WC_skip ?_; refine WC_seq ?_; refine WC_block ?_; refine WC_seq ?_; have hS := hS.keep (below_drew _); have hO := hO.below (below_drew _)
              refine WC_regionD mixedO (fun _ w => Sat G87 w ∧ True) (.fl 0 (.fl 1 (.fl 2 (.fl 3 (.fl 4 (.on 5 (.on 6 (.on 7 (.on 8 .nil))))))))) (by kernel_rfl) rfl (by kernel_rfl) (fun _ => ⟨hS.sat, trivial⟩) ?_
              refine WD_val rfl (fun w hw => rn_move (v := (.slice a30 n30 c30)) rfl) rfl ?_; refine WD_val rfl (fun w hw => rn_move (v := (.int .i64 s75)) rfl) rfl ?_; obtain ⟨y89, hy89, H⟩ := bnd H
              have l4_10 := l4_9.trans leG87
              refine WD_idx rfl sl29 (h30.mono RInt_mono l4_10) hy89 rfl rfl rfl ?_
              rintro b90 o90 _ hcb90 _ ⟨⟩
              refine WD_val rfl (fun w hw => rn_load na3 rfl (hw.1.cell (hcb90 0 _ rfl))) rfl ?_; refine WD_val rfl (fun w hw => rn_move (v := (.slice a26 n26 c26)) rfl) rfl ?_; refine WD_op rfl rfl (OpP_val (rn_move (v := (.int .i64 s82)) rfl) rfl ?_); refine ⟨fun _ _ => ⟨hS.sat, trivial⟩, ?_⟩; obtain ⟨y91, hy91, H⟩ := bnd H; refine WD_op rfl rfl (OpP_idx sl29 (h26.mono RInt_mono l3_10) hy91 rfl rfl rfl ?_)
              rintro b92 o92 _ hcb92 _ ⟨⟩
              refine ⟨fun _ _ => ⟨hS.sat, trivial⟩, ?_⟩; refine WD_op rfl rfl (OpP_val (rn_load na3 rfl (hS.sat.cell (hcb92 0 _ rfl))) rfl ?_); refine ⟨fun _ _ => ⟨hS.sat, trivial⟩, ?_⟩; refine WD_op rfl rfl (OpP_val (rn_eql rfl rfl) rfl ?_)
              refine ⟨fun _ h => noneed (by kernel_rfl) h, ?_⟩
              refine WD_nil ?_; refine WC_cond rfl (fun hb93 => ?_) (fun hb93 => ?_)
              ·have H := ifT hb93 H; refine WC_seq ?_; refine WC_region ?_; obtain ⟨y94, hy94, H⟩ := bnd H
               have l0_10 := (((l0_6.trans leG49).trans leG65).trans leG80).trans leG87
               refine WL_op rfl (OpP_callV cb15 (f15_ok  hS.sat (hT.mono l0_10)  hy94) rfl rfl (fun w95 hb => ?_)); have hS := hS.keep hb; have hO := hO.below hb; refine WL_val (rn_assign (v := (.bool y94)) rfl) rfl ?_; refine WL_nil ?_; refine WC_ret ?_; have H := Option.some.inj H; subst H
               have hres := hqq84 _ rfl
               subst hres; have H := Hoq84; have H := Option.some.inj H; subst H
               have hres := hqq77 _ rfl
               subst hres; have H := Hoq77
               have H : some y94 = some r := H
               have H := Option.some.inj H; subst H
               exact ⟨rfl, hS.below⟩
              ·have H := ifF hb93 H; refine WC_skip ?_; refine WC_region ?_; refine WL_val (rn_move (v := (.int .i64 s82)) rfl) rfl ?_; refine WL_val (rn_add rfl rfl) rfl ?_; refine WL_val (rn_assign (v := (.int .i64 (IntKind.i64.wrap (s82 + 1)))) rfl) rfl ?_; refine WL_nil ?_
               have hO : Owns G87 w86.drew w0.heap.size ([]) := hO
               have H := Option.some.inj H; subst H; refine ⟨_, rfl, ?_⟩
               exact ⟨_, G87, upds_self _ _ ⟨rfl, rfl, rfl, rfl, trivial⟩, leG87, hS, hO⟩
             ·have H := ifF hb88 H; refine WC_exit rfl ?_
              have hO : Owns G87 w86 w0.heap.size ([]) := hO
              have H := Option.some.inj H; subst H
              have hres := hqq84 _ rfl
              subst hres
              exact ⟨_, _, G87, rfl, upds_self _ _ ⟨rfl, rfl, rfl, trivial⟩, leG87, hS, hO⟩
           ·rintro F w96 ⟨p83, Fb, G97, rfl, rfl, leG97, hS, hO⟩
            refine WC_region ?_; refine WL_val (rn_move (v := (.int .i64 s75)) rfl) rfl ?_; refine WL_val (rn_add rfl rfl) rfl ?_; refine WL_val (rn_assign (v := (.int .i64 (IntKind.i64.wrap (s75 + 1)))) rfl) rfl ?_; refine WL_nil ?_
            have hO : Owns G97 w96 w0.heap.size ([]) := hO
            have H := Option.some.inj H; subst H; refine ⟨_, rfl, ?_⟩
            have l8_10 := leG80.trans leG97
            exact ⟨_, G97, upds_self _ _ ⟨rfl, rfl, rfl, trivial⟩, l8_10, hS, hO⟩
          ·have H := ifF hb81 H; refine WC_exit rfl ?_
           have hO : Owns G80 w79 w0.heap.size ([]) := hO
           have H := Option.some.inj H; subst H
           have hres := hqq77 _ rfl
           subst hres
           exact ⟨_, _, G80, rfl, rfl, leG80, hS, hO⟩
        ·rintro F w99 ⟨p76, Fb, G100, rfl, rfl, leG100, hS, hO⟩
         refine WC_seq ?_; refine WC_region ?_; refine WL_val (rn_assign (v := (.bool false)) rfl) rfl ?_; refine WL_nil ?_; refine WC_ret ?_
         have H : some false = some r := H
         have H := Option.some.inj H; subst H
         exact ⟨rfl, hS.below⟩
end Go.Proofs.YtcaflmilfhhikaaDoor
