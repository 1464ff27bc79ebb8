/-
  The walks: each Go function computes its plain function (printed by a program of ours).
-/
import Derived.Test.YtcaflmilfhhikaaDoorRd
import Derived.Test.YtcaflmilfhhikaaDoorBaseQ
import Derived.Test.YtcaflmilfhhikaaDoorIt
import Derived.Test.YtcaflmilfhhikaaDoorLib
import Derived.Test.YtcaflmilfhhikaaDoorBu
import Derived.Test.YtcaflmilfhhikaaDoorP4W3
namespace Go.Proofs.YtcaflmilfhhikaaDoor
open Go.RowKit
set_option linter.unusedVariables false

set_option maxRecDepth 20000
set_option linter.unusedVariables false
set_option maxHeartbeats 1000000 in
theorem f4_ok {G0 : Gm} {w0 : World} (hS0 : Sat G0 w0) {x0 : TLandBook} {a1 : Option Addr} {n1 c1 : Nat} {a2 : Option Addr} {n2 c2 : Nat} {a3 : Option Addr} {n3 c3 : Nat} {x1 : (List Int)} {a4 : Option Addr} {n4 c4 : Nat} (hT : TabG Tryd.prog G0) (h1 : RSl RTLandPerson 2 G0 a1 n1 c1 x0.People) (h2 : RSl RTLandEvent 2 G0 a2 n2 c2 x0.Events) (h3 : RSl RTLandMemory 4 G0 a3 n3 c3 x0.Memories) (h4 : RSl RInt 1 G0 a4 n4 c4 x1) {r : Bool} (H : f4 x0 x1 = some r) :
  Calls Tryd.prog 4 #[.agg #[.slice a1 n1 c1, .slice a2 n2 c2, .slice a3 n3 c3], .slice a4 n4 c4] w0 (RetV w0 (.bool r)) := by
 have hS := Since.start hS0
 have hO : Owns G0 w0 w0.heap.size [] := Owns.nil (Nat.le_refl _)
 unfold f4 at H
 refine enter1 (N := 132) (shutV _ _) Tryd.func4 rfl rfl rfl rfl ?_; refine WC_seq ?_; refine WC_region ?_; refine WL_op rfl (OpP_newF (v := fun b => .pointer (some ⟨b, 0, none⟩)) (cs := [.slice a1 n1 c1, .slice a2 n2 c2, .slice a3 n3 c3]) (e := 26) (rn_boxA rfl) hS.sat rfl (fun b5 G7 w6 hg hcb5 => ?_)); have hS := hS.grow hg; have hO := hO.grow hg
 have leG7 := hg.le
 refine WL_val (rn_assign (v := (.bool false)) rfl) rfl ?_; refine WL_nil ?_; refine WC_seq ?_; refine WC_seq ?_; obtain ⟨q8, hq8, H⟩ := bnd H; refine WC_cut (fun F w => ∃ (Fb : Fr) (G : Gm), F = upds Fb [(1, .slice a4 n4 c4), (2, .pointer (some ⟨b5, 0, none⟩)), (33, .bool q8)] ∧ Gle G7 G ∧ Since w0.heap.size G0 w0 G w ∧ Owns G w w0.heap.size []) ?_ ?_
 ·have Hoq8 := H; have H := hq8; refine WC_region ?_; refine WL_val (rn_loadA ag26 (cs := [.slice a1 n1 c1, .slice a2 n2 c2, .slice a3 n3 c3]) rfl rfl (fun j v hj => hS.sat.cell (hcb5.drop_take 0 3 j v hj))) rfl ?_; obtain ⟨y9, hy9, H⟩ := bnd H; refine WL_op rfl (OpP_callV cb14 (f14_ok (x0 := x0) hS.sat (h1.mono RTLandPerson_mono leG7) (h2.mono RTLandEvent_mono leG7) (h3.mono RTLandMemory_mono leG7) hy9) rfl rfl (fun w10 hb => ?_)); have hS := hS.keep hb; have hO := hO.below hb; refine WL_val (rn_not rfl) rfl ?_; refine WL_val (rn_move (v := (.bool (!y9))) rfl) rfl ?_
  rcases bcases (!y9) with hb11 | hb11
  ·have H := ifT hb11 H; refine WL_guardN rfl hb11 rfl rfl rfl ?_; refine WL_guardN rfl hb11 rfl rfl rfl ?_; refine WL_guardN rfl hb11 rfl rfl rfl ?_; refine WL_val (rn_pickT (v := (.bool true)) rfl hb11 rfl) rfl ?_; refine WL_val (rn_move (v := (.bool true)) rfl) rfl ?_; refine WL_guardN rfl rfl rfl rfl rfl ?_; refine WL_guardN rfl rfl rfl rfl rfl ?_; refine WL_guardN rfl rfl rfl rfl rfl ?_; refine WL_val (rn_pickT (v := (.bool true)) rfl rfl rfl) rfl ?_; refine WL_val (rn_move (v := (.bool true)) rfl) rfl ?_; refine WL_guardN rfl rfl rfl rfl rfl ?_; refine WL_guardN rfl rfl rfl rfl rfl ?_; refine WL_guardN rfl rfl rfl rfl rfl ?_; refine WL_guardN rfl rfl rfl rfl rfl ?_; refine WL_val (rn_pickT (v := (.bool true)) rfl rfl rfl) rfl ?_; refine WL_nil ?_
   have hO : Owns G7 w10 w0.heap.size ([]) := hO
   have H := Option.some.inj H; subst H
   exact ⟨_, G7, upds_self _ _ ⟨rfl, rfl, rfl, trivial⟩, Gle.refl _, hS, hO⟩
  ·have H := ifF hb11 H; refine WL_guardY rfl hb11 rfl rfl ?_; refine WL_val (rn_loadA ag26 (cs := [.slice a1 n1 c1, .slice a2 n2 c2, .slice a3 n3 c3]) rfl rfl (fun j v hj => hS.sat.cell (hcb5.drop_take 0 3 j v hj))) rfl ?_; refine WL_guardY rfl hb11 rfl rfl ?_; obtain ⟨y12, hy12, H⟩ := bnd H; refine WL_op rfl (OpP_callV cb18 (f18_ok (x0 := x0) hS.sat (h1.mono RTLandPerson_mono leG7) (h2.mono RTLandEvent_mono leG7) (h3.mono RTLandMemory_mono leG7) hy12) rfl rfl (fun w13 hb => ?_)); have hS := hS.keep hb; have hO := hO.below hb; refine WL_guardY rfl hb11 rfl rfl ?_; refine WL_val (rn_not rfl) rfl ?_; refine WL_val (rn_pickF (v := (.bool (!y12))) rfl hb11 rfl) rfl ?_; refine WL_val (rn_move (v := (.bool (!y12))) rfl) rfl ?_
   rcases bcases (!y12) with hb14 | hb14
   ·have H := ifT hb14 H; refine WL_guardN rfl hb14 rfl rfl rfl ?_; refine WL_guardN rfl hb14 rfl rfl rfl ?_; refine WL_guardN rfl hb14 rfl rfl rfl ?_; refine WL_val (rn_pickT (v := (.bool true)) rfl hb14 rfl) rfl ?_; refine WL_val (rn_move (v := (.bool true)) rfl) rfl ?_; refine WL_guardN rfl rfl rfl rfl rfl ?_; refine WL_guardN rfl rfl rfl rfl rfl ?_; refine WL_guardN rfl rfl rfl rfl rfl ?_; refine WL_guardN rfl rfl rfl rfl rfl ?_; refine WL_val (rn_pickT (v := (.bool true)) rfl rfl rfl) rfl ?_; refine WL_nil ?_
    have hO : Owns G7 w13 w0.heap.size ([]) := hO
    have H := Option.some.inj H; subst H
    exact ⟨_, G7, upds_self _ _ ⟨rfl, rfl, rfl, trivial⟩, Gle.refl _, hS, hO⟩
   ·have H := ifF hb14 H; refine WL_guardY rfl hb14 rfl rfl ?_; refine WL_val (rn_move (v := (.slice a4 n4 c4)) rfl) rfl ?_; refine WL_guardY rfl hb14 rfl rfl ?_; refine WL_val (rn_len sl29 rfl rfl (h4.mono RInt_mono leG7).1) rfl ?_; refine WL_guardY rfl hb14 rfl rfl ?_; refine WL_val (rn_gtr rfl rfl) rfl ?_; refine WL_val (rn_pickF (v := (.bool (decide (15 < (x1.length : Int))))) rfl hb14 rfl) rfl ?_; refine WL_val (rn_move (v := (.bool (decide (15 < (x1.length : Int))))) rfl) rfl ?_
    rcases bcases (decide (15 < (x1.length : Int))) with hb15 | hb15
    ·have H := ifT hb15 H; refine WL_guardN rfl hb15 rfl rfl rfl ?_; refine WL_guardN rfl hb15 rfl rfl rfl ?_; refine WL_guardN rfl hb15 rfl rfl rfl ?_; refine WL_guardN rfl hb15 rfl rfl rfl ?_; refine WL_val (rn_pickT (v := (.bool true)) rfl hb15 rfl) rfl ?_; refine WL_nil ?_
     have hO : Owns G7 w13 w0.heap.size ([]) := hO
     have H := Option.some.inj H; subst H
     exact ⟨_, G7, upds_self _ _ ⟨rfl, rfl, rfl, trivial⟩, Gle.refl _, hS, hO⟩
    ·have H := ifF hb15 H; refine WL_guardY rfl hb15 rfl rfl ?_; refine WL_val (rn_loadA ag26 (cs := [.slice a1 n1 c1, .slice a2 n2 c2, .slice a3 n3 c3]) rfl rfl (fun j v hj => hS.sat.cell (hcb5.drop_take 0 3 j v hj))) rfl ?_; refine WL_guardY rfl hb15 rfl rfl ?_; refine WL_val (rn_move (v := (.slice a4 n4 c4)) rfl) rfl ?_; refine WL_guardY rfl hb15 rfl rfl ?_; obtain ⟨y16, hy16, H⟩ := bnd H; refine WL_op rfl (OpP_callV cb23 (f23_ok (x0 := x0) (x1 := x1) hS.sat (h1.mono RTLandPerson_mono leG7) (h2.mono RTLandEvent_mono leG7) (h3.mono RTLandMemory_mono leG7) (h4.mono RInt_mono leG7) hy16) rfl rfl (fun w17 hb => ?_)); have hS := hS.keep hb; have hO := hO.below hb; refine WL_guardY rfl hb15 rfl rfl ?_; refine WL_val (rn_not rfl) rfl ?_; refine WL_val (rn_pickF (v := (.bool (!y16))) rfl hb15 rfl) rfl ?_; refine WL_nil ?_
     have hO : Owns G7 w17 w0.heap.size ([]) := hO
     have H := Option.some.inj H; subst H
     exact ⟨_, G7, upds_self _ _ ⟨rfl, rfl, rfl, trivial⟩, Gle.refl _, hS, hO⟩
 ·rintro F w18 ⟨Fb, G19, rfl, leG19, hS, hO⟩
  refine WC_cond rfl (fun hb20 => ?_) (fun hb20 => ?_)
  ·have H := ifT hb20 H; refine WC_seq ?_; refine WC_region ?_; obtain ⟨y21, hy21, H⟩ := bnd H
   have l0_2 := leG7.trans leG19
   refine WL_op rfl (OpP_callV cb15 (f15_ok  hS.sat (hT.mono l0_2)  hy21) rfl rfl (fun w22 hb => ?_)); have hS := hS.keep hb; have hO := hO.below hb; refine WL_val (rn_assign (v := (.bool y21)) rfl) rfl ?_; refine WL_nil ?_; refine WC_ret ?_
   have H : some y21 = some r := H
   have H := Option.some.inj H; subst H
   exact ⟨rfl, hS.below⟩
  ·have H := ifF hb20 H; refine WC_skip ?_; refine WC_seq ?_; refine WC_region ?_; refine WL_val (rn_loadA ag26 (cs := [.slice a1 n1 c1, .slice a2 n2 c2, .slice a3 n3 c3]) rfl rfl (fun j v hj => (hS.sat.le leG19).cell (hcb5.drop_take 0 3 j v hj))) rfl ?_; obtain ⟨y23, hy23, H⟩ := bnd H
   have l0_2 := leG7.trans leG19
   refine WL_op rfl (OpP_callG cb16 (f16_ok (x0 := x0) hS.sat (h1.mono RTLandPerson_mono l0_2) (h2.mono RTLandEvent_mono l0_2) (h3.mono RTLandMemory_mono l0_2) hy23) rfl rfl (fun vy23 G25 w24 hg hvy23 => ?_)); obtain ⟨a26, n26, c26, ⟨⟩, h26⟩ := hvy23; have hS := hS.grow hg; have hO := hO.grow hg
   have leG25 := hg.le
   refine WL_val (rn_move (v := (.tuple #[.slice a26 n26 c26, .int .i64 y23.2])) rfl) rfl ?_; refine WL_val (rn_extract (v := (.slice a26 n26 c26)) rfl rfl) rfl ?_; refine WL_val (rn_extract (v := (.int .i64 y23.2)) rfl rfl) rfl ?_; refine WL_val (rn_assign (v := (.slice a26 n26 c26)) rfl) rfl ?_; refine WL_val (rn_assign (v := (.int .i64 y23.2)) rfl) rfl ?_; refine WL_nil ?_; refine WC_seq ?_; refine WC_region ?_
   have l1_3 := leG19.trans leG25
   refine WL_val (rn_loadA ag26 (cs := [.slice a1 n1 c1, .slice a2 n2 c2, .slice a3 n3 c3]) rfl rfl (fun j v hj => (hS.sat.le l1_3).cell (hcb5.drop_take 0 3 j v hj))) rfl ?_; refine WL_val (rn_move (v := (.slice a4 n4 c4)) rfl) rfl ?_; obtain ⟨y27, hy27, H⟩ := bnd H
   have l0_3 := l0_2.trans leG25
   refine WL_op rfl (OpP_callG cb25 (f25_ok (x0 := x0) (x1 := x1) (x2 := false) hS.sat (h1.mono RTLandPerson_mono l0_3) (h2.mono RTLandEvent_mono l0_3) (h3.mono RTLandMemory_mono l0_3) (h4.mono RInt_mono l0_3) hy27) rfl rfl (fun vy27 G29 w28 hg hvy27 => ?_)); obtain ⟨a30, n30, c30, a31, n31, c31, a32, n32, c32, ⟨⟩, h30, h31, h32⟩ := hvy27; have hS := hS.grow hg; have hO := hO.grow hg
   have leG29 := hg.le
   obtain ⟨y33, hy33, H⟩ := bnd H; refine WL_op rfl (OpP_callV cb24 (f24_ok (x0 := y27) hS.sat h30 h31 h32 hy33) rfl rfl (fun w34 hb => ?_)); have hS := hS.keep hb; have hO := hO.below hb; refine WL_val (rn_move (v := (.tuple #[.bool y33.1, .bool y33.2])) rfl) rfl ?_; refine WL_val (rn_extract (v := (.bool y33.1)) rfl rfl) rfl ?_; refine WL_val (rn_extract (v := (.bool y33.2)) rfl rfl) rfl ?_; refine WL_val (rn_assign (v := (.bool y33.1)) rfl) rfl ?_; refine WL_val (rn_assign (v := (.bool y33.2)) rfl) rfl ?_; refine WL_nil ?_; refine WC_seq ?_; refine WC_seq ?_; refine WC_region ?_; refine WL_val (rn_move (v := (.bool y33.2)) rfl) rfl ?_; refine WL_val (rn_not rfl) rfl ?_; refine WL_nil ?_; refine WC_cond rfl (fun hb35 => ?_) (fun hb35 => ?_)
   ·have H := ifT hb35 H; refine WC_seq ?_; refine WC_region ?_; refine WL_val (rn_assign (v := (.bool false)) rfl) rfl ?_; refine WL_nil ?_; refine WC_ret ?_
    have H : some false = some r := H
    have H := Option.some.inj H; subst H
    exact ⟨rfl, hS.below⟩
   ·have H := ifF hb35 H; refine WC_skip ?_; refine WC_seq ?_; refine WC_seq ?_; refine WC_region ?_; refine WL_val (rn_move (v := (.int .i64 y23.2)) rfl) rfl ?_; refine WL_val (rn_neq rfl rfl) rfl ?_; refine WL_nil ?_; refine WC_cond rfl (fun hb36 => ?_) (fun hb36 => ?_)
    ·have H := ifT hb36 H; refine WC_seq ?_; obtain ⟨q37, hq37, H⟩ := bnd H; refine WC_cut (fun F w => ∃ (Fb : Fr) (G : Gm), F = upds Fb [(4, .bool q37)] ∧ Gle G29 G ∧ Since w0.heap.size G0 w0 G w ∧ Owns G w w0.heap.size []) ?_ ?_
     ·have Hoq37 := H; have H := hq37; refine WC_region ?_; refine WL_val (rn_move (v := (.int .i64 y23.2)) rfl) rfl ?_; refine WL_val (rn_eql rfl rfl) rfl ?_; refine WL_val (rn_move (v := (.bool (y23.2 == 5))) rfl) rfl ?_
      rcases bcases (y23.2 == 5) with hb38 | hb38
      ·have H := ifT hb38 H; refine WL_guardY rfl hb38 rfl rfl ?_; refine WL_val (rn_move (v := (.bool y33.1)) rfl) rfl ?_; refine WL_val (rn_pickT (v := (.bool y33.1)) rfl hb38 rfl) rfl ?_; refine WL_val (rn_move (v := (.bool y33.1)) rfl) rfl ?_
       rcases bcases y33.1 with hb39 | hb39
       ·have H := ifT hb39 H; refine WL_guardY rfl hb39 rfl rfl ?_; obtain ⟨y40, hy40, H⟩ := bnd H
        have l0_4 := l0_3.trans leG29
        refine WL_op rfl (OpP_callV cb15 (f15_ok  hS.sat (hT.mono l0_4)  hy40) rfl rfl (fun w41 hb => ?_)); have hS := hS.keep hb; have hO := hO.below hb; refine WL_val (rn_pickT (v := (.bool y40)) rfl hb39 rfl) rfl ?_; refine WL_val (rn_assign (v := (.bool y40)) rfl) rfl ?_; refine WL_nil ?_
        have hO : Owns G29 w41 w0.heap.size ([]) := hO
        have H := Option.some.inj H; subst H
        exact ⟨_, G29, upds_self _ _ ⟨rfl, trivial⟩, Gle.refl _, hS, hO⟩
       ·have H := ifF hb39 H; refine WL_guardN rfl hb39 rfl rfl rfl ?_; refine WL_val (rn_pickF (v := (.bool false)) rfl hb39 rfl) rfl ?_; refine WL_val (rn_assign (v := (.bool false)) rfl) rfl ?_; refine WL_nil ?_
        have hO : Owns G29 w34 w0.heap.size ([]) := hO
        have H := Option.some.inj H; subst H
        exact ⟨_, G29, upds_self _ _ ⟨rfl, trivial⟩, Gle.refl _, hS, hO⟩
      ·have H := ifF hb38 H; refine WL_guardN rfl hb38 rfl rfl rfl ?_; refine WL_val (rn_pickF (v := (.bool false)) rfl hb38 rfl) rfl ?_; refine WL_val (rn_move (v := (.bool false)) rfl) rfl ?_; refine WL_guardN rfl rfl rfl rfl rfl ?_; refine WL_val (rn_pickF (v := (.bool false)) rfl rfl rfl) rfl ?_; refine WL_val (rn_assign (v := (.bool false)) rfl) rfl ?_; refine WL_nil ?_
       have hO : Owns G29 w34 w0.heap.size ([]) := hO
       have H := Option.some.inj H; subst H
       exact ⟨_, G29, upds_self _ _ ⟨rfl, trivial⟩, Gle.refl _, hS, hO⟩
     ·rintro F w42 ⟨Fb, G43, rfl, leG43, hS, hO⟩
      refine WC_ret ?_
      have H : some q37 = some r := H
      have H := Option.some.inj H; subst H
      exact ⟨rfl, hS.below⟩
    ·have H := ifF hb36 H; refine WC_skip ?_; refine WC_seq ?_; refine WC_seq ?_; obtain ⟨q44, hq44, H⟩ := bnd H; refine WC_cut (fun F w => ∃ (Fb : Fr) (G : Gm), F = upds Fb [(1, .slice a4 n4 c4), (2, .pointer (some ⟨b5, 0, none⟩)), (5, .slice a26 n26 c26), (7, .bool y33.1), (67, .bool q44)] ∧ Gle G29 G ∧ Since w0.heap.size G0 w0 G w ∧ Owns G w w0.heap.size []) ?_ ?_
     ·have Hoq44 := H; have H := hq44; refine WC_region ?_; refine WL_val (rn_move (v := (.slice a26 n26 c26)) rfl) rfl ?_; refine WL_val (rn_len sl29 rfl rfl (h26.mono RInt_mono leG29).1) rfl ?_; refine WL_val (rn_gtr rfl rfl) rfl ?_; refine WL_val (rn_move (v := (.bool (decide (15 < (y23.1.length : Int))))) rfl) rfl ?_
      rcases bcases (decide (15 < (y23.1.length : Int))) with hb45 | hb45
      ·have H := ifT hb45 H; refine WL_guardN rfl hb45 rfl rfl rfl ?_; refine WL_guardN rfl hb45 rfl rfl rfl ?_; refine WL_guardN rfl hb45 rfl rfl rfl ?_; refine WL_guardN rfl hb45 rfl rfl rfl ?_; refine WL_val (rn_pickT (v := (.bool true)) rfl hb45 rfl) rfl ?_; refine WL_nil ?_
       have hO : Owns G29 w34 w0.heap.size ([]) := hO
       have H := Option.some.inj H; subst H
       exact ⟨_, G29, upds_self _ _ ⟨rfl, rfl, rfl, rfl, rfl, trivial⟩, Gle.refl _, hS, hO⟩
      ·have H := ifF hb45 H; refine WL_guardY rfl hb45 rfl rfl ?_
       have l1_4 := l1_3.trans leG29
       refine WL_val (rn_loadA ag26 (cs := [.slice a1 n1 c1, .slice a2 n2 c2, .slice a3 n3 c3]) rfl rfl (fun j v hj => (hS.sat.le l1_4).cell (hcb5.drop_take 0 3 j v hj))) rfl ?_; refine WL_guardY rfl hb45 rfl rfl ?_; refine WL_val (rn_move (v := (.slice a26 n26 c26)) rfl) rfl ?_; refine WL_guardY rfl hb45 rfl rfl ?_; obtain ⟨y46, hy46, H⟩ := bnd H
       have l0_4 := l0_3.trans leG29
       refine WL_op rfl (OpP_callV cb23 (f23_ok (x0 := x0) (x1 := y23.1) hS.sat (h1.mono RTLandPerson_mono l0_4) (h2.mono RTLandEvent_mono l0_4) (h3.mono RTLandMemory_mono l0_4) (h26.mono RInt_mono leG29) hy46) rfl rfl (fun w47 hb => ?_)); have hS := hS.keep hb; have hO := hO.below hb; refine WL_guardY rfl hb45 rfl rfl ?_; refine WL_val (rn_not rfl) rfl ?_; refine WL_val (rn_pickF (v := (.bool (!y46))) rfl hb45 rfl) rfl ?_; refine WL_nil ?_
       have hO : Owns G29 w47 w0.heap.size ([]) := hO
       have H := Option.some.inj H; subst H
       exact ⟨_, G29, upds_self _ _ ⟨rfl, rfl, rfl, rfl, rfl, trivial⟩, Gle.refl _, hS, hO⟩
     ·rintro F w48 ⟨Fb, G49, rfl, leG49, hS, hO⟩
      refine WC_cond rfl (fun hb50 => ?_) (fun hb50 => ?_)
      ·have H := ifT hb50 H; refine WC_seq ?_; refine WC_region ?_; refine WL_val (rn_assign (v := (.bool false)) rfl) rfl ?_; refine WL_nil ?_; refine WC_ret ?_
       have H : some false = some r := H
       have H := Option.some.inj H; subst H
       exact ⟨rfl, hS.below⟩
      ·have H := ifF hb50 H; refine WC_skip ?_; refine WC_seq ?_; refine WC_region ?_
       have l1_5 := (l1_3.trans leG29).trans leG49
       refine WL_val (rn_loadA ag26 (cs := [.slice a1 n1 c1, .slice a2 n2 c2, .slice a3 n3 c3]) rfl rfl (fun j v hj => (hS.sat.le l1_5).cell (hcb5.drop_take 0 3 j v hj))) rfl ?_; refine WL_val (rn_move (v := (.slice a26 n26 c26)) rfl) rfl ?_; obtain ⟨y51, hy51, H⟩ := bnd H
       have l0_5 := (l0_3.trans leG29).trans leG49
       have l3_5 := leG29.trans leG49
       refine WL_op rfl (OpP_callG cb25 (f25_ok (x0 := x0) (x1 := y23.1) (x2 := false) hS.sat (h1.mono RTLandPerson_mono l0_5) (h2.mono RTLandEvent_mono l0_5) (h3.mono RTLandMemory_mono l0_5) (h26.mono RInt_mono l3_5) hy51) rfl rfl (fun vy51 G53 w52 hg hvy51 => ?_)); obtain ⟨a54, n54, c54, a55, n55, c55, a56, n56, c56, ⟨⟩, h54, h55, h56⟩ := hvy51; have hS := hS.grow hg; have hO := hO.grow hg
       have leG53 := hg.le
       obtain ⟨y57, hy57, H⟩ := bnd H; refine WL_op rfl (OpP_callV cb24 (f24_ok (x0 := y51) hS.sat h54 h55 h56 hy57) rfl rfl (fun w58 hb => ?_)); have hS := hS.keep hb; have hO := hO.below hb; refine WL_val (rn_move (v := (.tuple #[.bool y57.1, .bool y57.2])) rfl) rfl ?_; refine WL_val (rn_extract (v := (.bool y57.1)) rfl rfl) rfl ?_; refine WL_val (rn_extract (v := (.bool y57.2)) rfl rfl) rfl ?_; refine WL_val (rn_assign (v := (.bool y57.1)) rfl) rfl ?_; refine WL_val (rn_assign (v := (.bool y57.2)) rfl) rfl ?_; refine WL_nil ?_; refine WC_seq ?_; refine WC_seq ?_; obtain ⟨q59, hq59, H⟩ := bnd H; refine WC_cut (fun F w => ∃ (Fb : Fr), F = upds Fb [(1, .slice a4 n4 c4), (2, .pointer (some ⟨b5, 0, none⟩)), (5, .slice a26 n26 c26), (7, .bool y33.1), (79, .bool q59)] ∧ w58 = w) ?_ ?_
       ·have Hoq59 := H; have H := hq59; refine WC_region ?_; refine WL_val (rn_move (v := (.bool y57.2)) rfl) rfl ?_; refine WL_val (rn_not rfl) rfl ?_; refine WL_val (rn_move (v := (.bool (!y57.2))) rfl) rfl ?_
        rcases bcases (!y57.2) with hb60 | hb60
        ·have H := ifT hb60 H; refine WL_guardN rfl hb60 rfl rfl rfl ?_; refine WL_val (rn_pickT (v := (.bool true)) rfl hb60 rfl) rfl ?_; refine WL_nil ?_; have H := Option.some.inj H; subst H
         exact ⟨_, upds_self _ _ ⟨rfl, rfl, rfl, rfl, rfl, trivial⟩, rfl⟩
        ·have H := ifF hb60 H; refine WL_guardY rfl hb60 rfl rfl ?_; refine WL_val (rn_move (v := (.bool y57.1)) rfl) rfl ?_; refine WL_val (rn_pickF (v := (.bool y57.1)) rfl hb60 rfl) rfl ?_; refine WL_nil ?_; have H := Option.some.inj H; subst H
         exact ⟨_, upds_self _ _ ⟨rfl, rfl, rfl, rfl, rfl, trivial⟩, rfl⟩
       ·rintro F wl ⟨Fb, rfl, rfl⟩
        refine WC_cond rfl (fun hb63 => ?_) (fun hb63 => ?_)
        ·have H := ifT hb63 H; refine WC_seq ?_; refine WC_region ?_; refine WL_val (rn_assign (v := (.bool false)) rfl) rfl ?_; refine WL_nil ?_; refine WC_ret ?_
         have H : some false = some r := H
         have H := Option.some.inj H; subst H
         exact ⟨rfl, hS.below⟩
        ·have H := ifF hb63 H; refine WC_skip ?_; refine WC_seq ?_; refine WC_seq ?_; refine WC_region ?_; refine WL_val (rn_assign (v := (.int .i64 0)) rfl) rfl ?_; refine WL_nil ?_; obtain ⟨q66, hq66, H⟩ := bnd H; refine WC_cut (fun F w => ∃ (p65 : Unit) (Fb : Fr) (G : Gm), q66 = .inl p65 ∧ F = upds Fb [(1, .slice a4 n4 c4), (5, .slice a26 n26 c26), (7, .bool y33.1)] ∧ Gle G53 G ∧ Since w0.heap.size G0 w0 G w ∧ Owns G w w0.heap.size []) ?_ ?_
         ·refine WC_block (WC_loop hq66 (fun s64 F w => ∃ (Fb : Fr) (G : Gm), F = upds Fb [(1, .slice a4 n4 c4), (2, .pointer (some ⟨b5, 0, none⟩)), (5, .slice a26 n26 c26), (7, .bool y33.1), (11, .int .i64 s64)] ∧ Gle G53 G ∧ Since w0.heap.size G0 w0 G w ∧ Owns G w w0.heap.size []) ?_ ?_)
          ·have hO : Owns G53 w58 w0.heap.size ([]) := hO
           exact ⟨_, G53, upds_self _ _ ⟨rfl, rfl, rfl, rfl, rfl, trivial⟩, Gle.refl _, hS, hO⟩
          ·rintro s64 F w68 t67 ⟨Fb, G69, rfl, leG69, hS, hO⟩
           intro H1 hqq66
           have Hoq66 := H; have H := H1
           unfold f4_b0 at H
           refine WC_seq ?_; refine WC_seq ?_; refine WC_region ?_; refine WL_val (rn_move (v := (.int .i64 s64)) rfl) rfl ?_; refine WL_val (rn_move (v := (.slice a26 n26 c26)) rfl) rfl ?_
           have l3_7 := (l3_5.trans leG53).trans leG69
           refine WL_val (rn_len sl29 rfl rfl (h26.mono RInt_mono l3_7).1) rfl ?_; refine WL_val (rn_lss rfl rfl) rfl ?_; refine WL_nil ?_; refine WC_cond rfl (fun hb70 => ?_) (fun hb70 => ?_)
           ·have H := ifT hb70 H; refine WC_skip ?_; refine WC_seq ?_; refine WC_block ?_; refine WC_seq ?_; have hS := hS.keep (below_drew _); have hO := hO.below (below_drew _)
            refine WC_regionD mixedO (fun _ w => Sat G69 w ∧ True) (.fl 0 (.fl 1 (.fl 2 (.fl 4 (.fl 5 (.fl 6 (.fl 7 (.on 3 (.on 8 (.on 9 .nil)))))))))) (by kernel_rfl) rfl (by kernel_rfl) (fun _ => ⟨hS.sat, trivial⟩) ?_
            refine WD_val rfl (fun w hw => rn_move (v := (.slice a26 n26 c26)) rfl) rfl ?_; refine WD_val rfl (fun w hw => rn_move (v := (.int .i64 s64)) rfl) rfl ?_; obtain ⟨y71, hy71, H⟩ := bnd H; obtain ⟨hl0, hl1, hl2, _⟩ := subL_some hy71
            have hln := (h26.mono RInt_mono l3_7).1
            have hnc := (h26.mono RInt_mono l3_7).2.1.2
            obtain ⟨ay71, ny71, cy71, hsl, hsy71⟩ := RSl.sub (h26.mono RInt_mono l3_7) hy71 rfl
            refine WD_val (v := (.slice ay71 ny71 cy71)) rfl (fun w hw => (rn_sliceH sl29 rfl rfl (by omega) (by omega) hnc _).trans (congrArg (fun v => Result.ok (Next.value v) _) hsl)) rfl ?_
            refine WD_val rfl (fun w hw => rn_move (v := (.slice a26 n26 c26)) rfl) rfl ?_; refine WD_val rfl (fun w hw => rn_move (v := (.int .i64 s64)) rfl) rfl ?_; refine WD_val rfl (fun w hw => rn_add rfl rfl) rfl ?_; obtain ⟨y72, hy72, H⟩ := bnd H; obtain ⟨hl0, hl1, hl2, _⟩ := subL_some hy72
            have hln := (h26.mono RInt_mono l3_7).1
            have hnc := (h26.mono RInt_mono l3_7).2.1.2
            obtain ⟨ay72, ny72, cy72, hsl, hsy72⟩ := RSl.sub (h26.mono RInt_mono l3_7) hy72 (q := n26) ((Int.toNat_natCast _).trans hln.symm)
            refine WD_val (v := (.slice ay72 ny72 cy72)) rfl (fun w hw => (rn_sliceL sl29 rfl rfl hl0 (by omega) _).trans (congrArg (fun v => Result.ok (Next.value v) _) hsl)) rfl ?_
            have hO := hO.cons_nil 3 1; obtain ⟨y74, hy74, H⟩ := bnd H; refine WD_op rfl rfl (OpP_append (k := 0) sl29 RInt_one hS hO rfl rfl (Rd.nil RInt 1 G69) hsy71 hy74 rfl rfl rfl rfl rfl (fun aw75 cw75 w75 clw75 hS hO hrw75 => ?_))
            have hO : Owns G69 w75 w0.heap.size ([⟨3, 1, y74.length, .slice aw75 y74.length cw75, clw75⟩]) := hO
            refine ⟨fun _ _ => ⟨hS.sat, trivial⟩, ?_⟩; obtain ⟨y76, hy76, H⟩ := bnd H; refine WD_op rfl rfl (OpP_append (k := 0) sl29 RInt_one hS hO rfl rfl hrw75 hsy72 hy76 rfl rfl rfl rfl rfl (fun aw77 cw77 w77 clw77 hS hO hrw77 => ?_))
            have hO : Owns G69 w77 w0.heap.size ([⟨3, 1, y76.length, .slice aw77 y76.length cw77, clw77⟩]) := hO
            refine ⟨fun _ h => noneed (by kernel_rfl) h, ?_⟩
            refine WD_op rfl rfl (OpP_val (rn_assign (v := (.slice aw77 y76.length cw77)) rfl) rfl ?_)
            refine ⟨fun _ h => noneed (by kernel_rfl) h, ?_⟩
            refine WD_nil ?_; refine WC_seq ?_; refine WC_region ?_
            have l1_7 := (l1_5.trans leG53).trans leG69
            refine WL_val (rn_loadA ag26 (cs := [.slice a1 n1 c1, .slice a2 n2 c2, .slice a3 n3 c3]) rfl rfl (fun j v hj => (hS.sat.le l1_7).cell (hcb5.drop_take 0 3 j v hj))) rfl ?_; refine WL_val (rn_move (v := (.slice aw77 y76.length cw77)) rfl) rfl ?_; obtain ⟨G78, leG78, hS, hO, hfG78⟩ := hO.freezeS hS RInt_mono (k := 0) rfl hrw77 rfl; obtain ⟨y79, hy79, H⟩ := bnd H
            have l0_8 := ((l0_5.trans leG53).trans leG69).trans leG78
            refine WL_op rfl (OpP_callG cb25 (f25_ok (x0 := (⟨x0.People, x0.Events, x0.Memories⟩ : TLandBook)) (x1 := y76) (x2 := false) hS.sat (h1.mono RTLandPerson_mono l0_8) (h2.mono RTLandEvent_mono l0_8) (h3.mono RTLandMemory_mono l0_8) hfG78 hy79) rfl rfl (fun vy79 G81 w80 hg hvy79 => ?_)); obtain ⟨a82, n82, c82, a83, n83, c83, a84, n84, c84, ⟨⟩, h82, h83, h84⟩ := hvy79; have hS := hS.grow hg; have hO := hO.grow hg
            have leG81 := hg.le
            obtain ⟨y85, hy85, H⟩ := bnd H; refine WL_op rfl (OpP_callV cb24 (f24_ok (x0 := y79) hS.sat h82 h83 h84 hy85) rfl rfl (fun w86 hb => ?_)); have hS := hS.keep hb; have hO := hO.below hb; refine WL_val (rn_move (v := (.tuple #[.bool y85.1, .bool y85.2])) rfl) rfl ?_; refine WL_val (rn_extract (v := (.bool y85.1)) rfl rfl) rfl ?_; refine WL_val (rn_extract (v := (.bool y85.2)) rfl rfl) rfl ?_; refine WL_val (rn_assign (v := (.bool y85.1)) rfl) rfl ?_; refine WL_val (rn_assign (v := (.bool y85.2)) rfl) rfl ?_; refine WL_nil ?_; refine WC_seq ?_; obtain ⟨q87, hq87, H⟩ := bnd H; refine WC_cut (fun F w => ∃ (Fb : Fr), F = upds Fb [(1, .slice a4 n4 c4), (2, .pointer (some ⟨b5, 0, none⟩)), (5, .slice a26 n26 c26), (7, .bool y33.1), (11, .int .i64 s64), (107, .bool q87)] ∧ w86 = w) ?_ ?_
            ·have Hoq87 := H; have H := hq87; refine WC_region ?_; refine WL_val (rn_move (v := (.bool y85.2)) rfl) rfl ?_; refine WL_val (rn_not rfl) rfl ?_; refine WL_val (rn_move (v := (.bool (!y85.2))) rfl) rfl ?_
             rcases bcases (!y85.2) with hb88 | hb88
             ·have H := ifT hb88 H; refine WL_guardN rfl hb88 rfl rfl rfl ?_; refine WL_guardN rfl hb88 rfl rfl rfl ?_; refine WL_val (rn_pickT (v := (.bool true)) rfl hb88 rfl) rfl ?_; refine WL_nil ?_; have H := Option.some.inj H; subst H
              exact ⟨_, upds_self _ _ ⟨rfl, rfl, rfl, rfl, rfl, rfl, trivial⟩, rfl⟩
             ·have H := ifF hb88 H; refine WL_guardY rfl hb88 rfl rfl ?_; refine WL_val (rn_move (v := (.bool y85.1)) rfl) rfl ?_; refine WL_guardY rfl hb88 rfl rfl ?_; refine WL_val (rn_not rfl) rfl ?_; refine WL_val (rn_pickF (v := (.bool (!y85.1))) rfl hb88 rfl) rfl ?_; refine WL_nil ?_; have H := Option.some.inj H; subst H
              exact ⟨_, upds_self _ _ ⟨rfl, rfl, rfl, rfl, rfl, rfl, trivial⟩, rfl⟩
            ·rintro F wl ⟨Fb, rfl, rfl⟩
             refine WC_cond rfl (fun hb91 => ?_) (fun hb91 => ?_)
             ·have H := ifT hb91 H; refine WC_seq ?_; refine WC_region ?_; refine WL_val (rn_assign (v := (.bool false)) rfl) rfl ?_; refine WL_nil ?_; refine WC_ret ?_; have H := Option.some.inj H; subst H
              have hres := hqq66 _ rfl
              subst hres; have H := Hoq66
              have H : some false = some r := H
              have H := Option.some.inj H; subst H
              exact ⟨rfl, hS.below⟩
             ·have H := ifF hb91 H; refine WC_skip ?_; refine WC_region ?_; refine WL_val (rn_move (v := (.int .i64 s64)) rfl) rfl ?_; refine WL_val (rn_add rfl rfl) rfl ?_; refine WL_val (rn_assign (v := (.int .i64 (IntKind.i64.wrap (s64 + 1)))) rfl) rfl ?_; refine WL_nil ?_
              have hO : Owns G81 w86 w0.heap.size ([]) := hO
              have H := Option.some.inj H; subst H; refine ⟨_, rfl, ?_⟩
              have l6_9 := (leG69.trans leG78).trans leG81
              exact ⟨_, G81, upds_self _ _ ⟨rfl, rfl, rfl, rfl, rfl, trivial⟩, l6_9, hS, hO⟩
           ·have H := ifF hb70 H; refine WC_exit rfl ?_
            have hO : Owns G69 w68 w0.heap.size ([]) := hO
            have H := Option.some.inj H; subst H
            have hres := hqq66 _ rfl
            subst hres
            exact ⟨_, _, G69, rfl, upds_self _ _ ⟨rfl, rfl, rfl, trivial⟩, leG69, hS, hO⟩
         ·rintro F w92 ⟨p65, Fb, G93, rfl, rfl, leG93, hS, hO⟩
          refine WC_seq ?_; obtain ⟨q94, hq94, H⟩ := bnd H; refine WC_cut (fun F w => ∃ (Fb : Fr) (G : Gm), F = upds Fb [(4, .bool q94)] ∧ Gle G93 G ∧ Since w0.heap.size G0 w0 G w ∧ Owns G w w0.heap.size []) ?_ ?_
          ·have Hoq94 := H; have H := hq94; refine WC_region ?_; refine WL_val (rn_move (v := (.bool y33.1)) rfl) rfl ?_; refine WL_val (rn_move (v := (.bool y33.1)) rfl) rfl ?_
           rcases bcases y33.1 with hb95 | hb95
           ·have H := ifT hb95 H; refine WL_guardN rfl hb95 rfl rfl rfl ?_; refine WL_guardN rfl hb95 rfl rfl rfl ?_; refine WL_guardN rfl hb95 rfl rfl rfl ?_; refine WL_guardN rfl hb95 rfl rfl rfl ?_; refine WL_guardN rfl hb95 rfl rfl rfl ?_; refine WL_val (rn_pickT (v := (.bool true)) rfl hb95 rfl) rfl ?_; refine WL_val (rn_move (v := (.bool true)) rfl) rfl ?_; refine WL_guardN rfl rfl rfl rfl rfl ?_; refine WL_guardN rfl rfl rfl rfl rfl ?_; refine WL_guardN rfl rfl rfl rfl rfl ?_; refine WL_guardN rfl rfl rfl rfl rfl ?_; refine WL_guardN rfl rfl rfl rfl rfl ?_; refine WL_guardN rfl rfl rfl rfl rfl ?_; refine WL_guardU rfl rfl rfl rfl ?_; refine WL_guardU rfl rfl rfl rfl ?_; refine WL_guardU rfl rfl rfl rfl ?_; refine WL_guardU rfl rfl rfl rfl ?_; refine WL_guardN rfl rfl rfl rfl rfl ?_; refine WL_val (rn_pickT (v := (.bool true)) rfl rfl rfl) rfl ?_; refine WL_val (rn_move (v := (.bool true)) rfl) rfl ?_; refine WL_guardY rfl rfl rfl rfl ?_; obtain ⟨y96, hy96, H⟩ := bnd H
            have l0_7 := (l0_5.trans leG53).trans leG93
            refine WL_op rfl (OpP_callV cb15 (f15_ok  hS.sat (hT.mono l0_7)  hy96) rfl rfl (fun w97 hb => ?_)); have hS := hS.keep hb; have hO := hO.below hb; refine WL_val (rn_pickT (v := (.bool y96)) rfl rfl rfl) rfl ?_; refine WL_val (rn_assign (v := (.bool y96)) rfl) rfl ?_; refine WL_nil ?_
            have hO : Owns G93 w97 w0.heap.size ([]) := hO
            have H := Option.some.inj H; subst H
            exact ⟨_, G93, upds_self _ _ ⟨rfl, trivial⟩, Gle.refl _, hS, hO⟩
           ·have H := ifF hb95 H; refine WL_guardY rfl hb95 rfl rfl ?_; refine WL_val (rn_move (v := (.slice a4 n4 c4)) rfl) rfl ?_; refine WL_guardY rfl hb95 rfl rfl ?_
            have l0_7 := (l0_5.trans leG53).trans leG93
            refine WL_val (rn_len sl29 rfl rfl (h4.mono RInt_mono l0_7).1) rfl ?_; refine WL_guardY rfl hb95 rfl rfl ?_; refine WL_val (rn_move (v := (.slice a26 n26 c26)) rfl) rfl ?_; refine WL_guardY rfl hb95 rfl rfl ?_
            have l3_7 := (l3_5.trans leG53).trans leG93
            refine WL_val (rn_len sl29 rfl rfl (h26.mono RInt_mono l3_7).1) rfl ?_; refine WL_guardY rfl hb95 rfl rfl ?_; refine WL_val (rn_gtr rfl rfl) rfl ?_; refine WL_val (rn_pickF (v := (.bool (decide ((y23.1.length : Int) < (x1.length : Int))))) rfl hb95 rfl) rfl ?_; refine WL_val (rn_move (v := (.bool (decide ((y23.1.length : Int) < (x1.length : Int))))) rfl) rfl ?_
            rcases bcases (decide ((y23.1.length : Int) < (x1.length : Int))) with hb98 | hb98
            ·have H := ifT hb98 H; refine WL_guardN rfl hb98 rfl rfl rfl ?_; refine WL_guardN rfl hb98 rfl rfl rfl ?_; refine WL_guardN rfl hb98 rfl rfl rfl ?_; refine WL_guardN rfl hb98 rfl rfl rfl ?_; refine WL_guardN rfl hb98 rfl rfl rfl ?_; refine WL_guardN rfl hb98 rfl rfl rfl ?_; refine WL_guardU rfl rfl rfl rfl ?_; refine WL_guardU rfl rfl rfl rfl ?_; refine WL_guardU rfl rfl rfl rfl ?_; refine WL_guardU rfl rfl rfl rfl ?_; refine WL_guardN rfl hb98 rfl rfl rfl ?_; refine WL_val (rn_pickT (v := (.bool true)) rfl hb98 rfl) rfl ?_; refine WL_val (rn_move (v := (.bool true)) rfl) rfl ?_; refine WL_guardY rfl rfl rfl rfl ?_; obtain ⟨y99, hy99, H⟩ := bnd H; refine WL_op rfl (OpP_callV cb15 (f15_ok  hS.sat (hT.mono l0_7)  hy99) rfl rfl (fun w100 hb => ?_)); have hS := hS.keep hb; have hO := hO.below hb; refine WL_val (rn_pickT (v := (.bool y99)) rfl rfl rfl) rfl ?_; refine WL_val (rn_assign (v := (.bool y99)) rfl) rfl ?_; refine WL_nil ?_
             have hO : Owns G93 w100 w0.heap.size ([]) := hO
             have H := Option.some.inj H; subst H
             exact ⟨_, G93, upds_self _ _ ⟨rfl, trivial⟩, Gle.refl _, hS, hO⟩
            ·have H := ifF hb98 H; refine WL_guardY rfl hb98 rfl rfl ?_; refine WL_val (rn_move (v := (.slice a4 n4 c4)) rfl) rfl ?_; refine WL_guardY rfl hb98 rfl rfl ?_; refine WL_val (rn_len sl29 rfl rfl (h4.mono RInt_mono l0_7).1) rfl ?_; refine WL_guardY rfl hb98 rfl rfl ?_; refine WL_val (rn_move (v := (.slice a26 n26 c26)) rfl) rfl ?_; refine WL_guardY rfl hb98 rfl rfl ?_; refine WL_val (rn_len sl29 rfl rfl (h26.mono RInt_mono l3_7).1) rfl ?_; refine WL_guardY rfl hb98 rfl rfl ?_; refine WL_val (rn_eql rfl rfl) rfl ?_; refine WL_guardY rfl hb98 rfl rfl ?_; refine WL_val (rn_move (v := (.bool ((x1.length : Int) == (y23.1.length : Int)))) rfl) rfl ?_
             rcases bcases ((x1.length : Int) == (y23.1.length : Int)) with hb101 | hb101
             ·have H := ifT hb101 H; refine WL_guardY rfl hb101 rfl rfl ?_; refine WL_val (rn_move (v := (.slice a4 n4 c4)) rfl) rfl ?_; refine WL_guardY rfl hb101 rfl rfl ?_; refine WL_val (rn_move (v := (.slice a26 n26 c26)) rfl) rfl ?_; refine WL_guardY rfl hb101 rfl rfl ?_; obtain ⟨y102, hy102, H⟩ := bnd H; refine WL_op rfl (OpP_callV cb26 (f26_ok (x0 := x1) (x1 := y23.1) hS.sat (h4.mono RInt_mono l0_7) (h26.mono RInt_mono l3_7) hy102) rfl rfl (fun w103 hb => ?_)); have hS := hS.keep hb; have hO := hO.below hb; refine WL_guardY rfl hb101 rfl rfl ?_; refine WL_val (rn_not rfl) rfl ?_; refine WL_guardY rfl hb98 rfl rfl ?_; refine WL_val (rn_pickT (v := (.bool (!y102))) rfl hb101 rfl) rfl ?_; refine WL_val (rn_pickF (v := (.bool (!y102))) rfl hb98 rfl) rfl ?_; refine WL_val (rn_move (v := (.bool (!y102))) rfl) rfl ?_
              rcases bcases (!y102) with hb104 | hb104
              ·have H := ifT hb104 H; refine WL_guardY rfl hb104 rfl rfl ?_; obtain ⟨y105, hy105, H⟩ := bnd H; refine WL_op rfl (OpP_callV cb15 (f15_ok  hS.sat (hT.mono l0_7)  hy105) rfl rfl (fun w106 hb => ?_)); have hS := hS.keep hb; have hO := hO.below hb; refine WL_val (rn_pickT (v := (.bool y105)) rfl hb104 rfl) rfl ?_; refine WL_val (rn_assign (v := (.bool y105)) rfl) rfl ?_; refine WL_nil ?_
               have hO : Owns G93 w106 w0.heap.size ([]) := hO
               have H := Option.some.inj H; subst H
               exact ⟨_, G93, upds_self _ _ ⟨rfl, trivial⟩, Gle.refl _, hS, hO⟩
              ·have H := ifF hb104 H; refine WL_guardN rfl hb104 rfl rfl rfl ?_; refine WL_val (rn_pickF (v := (.bool false)) rfl hb104 rfl) rfl ?_; refine WL_val (rn_assign (v := (.bool false)) rfl) rfl ?_; refine WL_nil ?_
               have hO : Owns G93 w103 w0.heap.size ([]) := hO
               have H := Option.some.inj H; subst H
               exact ⟨_, G93, upds_self _ _ ⟨rfl, trivial⟩, Gle.refl _, hS, hO⟩
             ·have H := ifF hb101 H; refine WL_guardN rfl hb101 rfl rfl rfl ?_; refine WL_guardN rfl hb101 rfl rfl rfl ?_; refine WL_guardN rfl hb101 rfl rfl rfl ?_; refine WL_guardN rfl hb101 rfl rfl rfl ?_; refine WL_guardY rfl hb98 rfl rfl ?_; refine WL_val (rn_pickF (v := (.bool false)) rfl hb101 rfl) rfl ?_; refine WL_val (rn_pickF (v := (.bool false)) rfl hb98 rfl) rfl ?_; refine WL_val (rn_move (v := (.bool false)) rfl) rfl ?_; refine WL_guardN rfl rfl rfl rfl rfl ?_; refine WL_val (rn_pickF (v := (.bool false)) rfl rfl rfl) rfl ?_; refine WL_val (rn_assign (v := (.bool false)) rfl) rfl ?_; refine WL_nil ?_
              have hO : Owns G93 w92 w0.heap.size ([]) := hO
              have H := Option.some.inj H; subst H
              exact ⟨_, G93, upds_self _ _ ⟨rfl, trivial⟩, Gle.refl _, hS, hO⟩
          ·rintro F w107 ⟨Fb, G108, rfl, leG108, hS, hO⟩
           refine WC_ret ?_
           have H : some q94 = some r := H
           have H := Option.some.inj H; subst H
           exact ⟨rfl, hS.below⟩
end Go.Proofs.YtcaflmilfhhikaaDoor
