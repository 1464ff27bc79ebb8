/-
  The walks: each Go function computes its plain function (printed by a program of ours).
-/
import Derived.Test.YtgplafckddpnkaaRd
import Derived.Test.YtgplafckddpnkaaIt
import Derived.Test.YtgplafckddpnkaaBaseL
import Derived.Test.YtgplafckddpnkaaP15W4
namespace Go.Proofs.Ytgplafckddpnkaa
open Go.RowKit
set_option linter.unusedVariables false

set_option maxRecDepth 20000
set_option linter.unusedVariables false
set_option maxHeartbeats 1000000 in
theorem f15_ok {G0 : Gm} {w0 : World} (hS0 : Sat G0 w0) {x0 : TBaneWeb} {a1 : Option Addr} {n1 c1 : Nat} {x1 : TBaneTruth} {a2 : Option Addr} {n2 c2 : Nat} {a3 : Option Addr} {n3 c3 : Nat} {x2 : Int} (h1 : RSl RTBaneFish 5 G0 a1 n1 c1 x0.Fish) (h2 : RSl RInt 1 G0 a2 n2 c2 x1.Bases) (h3 : RSl (RSlice RInt 1) 1 G0 a3 n3 c3 x1.Shares) {r : Bool} (H : f15 x0 x1 x2 = some r) :
  Calls Try.prog 15 #[.agg #[.slice a1 n1 c1, .int .i64 x0.Limit], .agg #[.slice a2 n2 c2, .slice a3 n3 c3], .int .i64 x2] w0 (RetV w0 (.bool r)) := by
 have hS := Since.start hS0
 have hO : Owns G0 w0 w0.heap.size [] := Owns.nil (Nat.le_refl _)
 unfold f15 at H
 refine enter1 (N := 190) (shutV _ _) Try.func15 rfl rfl rfl rfl ?_; refine WC_seq ?_; refine WC_region ?_; refine WL_op rfl (OpP_newF (v := fun b => .pointer (some ⟨b, 0, none⟩)) (cs := [.slice a1 n1 c1, .int .i64 x0.Limit]) (e := 24) (rn_boxA rfl) hS.sat rfl (fun b4 G6 w5 hg hcb4 => ?_)); have hS := hS.grow hg; have hO := hO.grow hg
 have leG6 := hg.le
 refine WL_op rfl (OpP_newF (v := fun b => .pointer (some ⟨b, 0, none⟩)) (cs := [.slice a2 n2 c2, .slice a3 n3 c3]) (e := 28) (rn_boxA rfl) hS.sat rfl (fun b7 G9 w8 hg hcb7 => ?_)); have hS := hS.grow hg; have hO := hO.grow hg
 have leG9 := hg.le
 refine WL_val (rn_assign (v := (.bool false)) rfl) rfl ?_; refine WL_nil ?_; refine WC_seq ?_; refine WC_seq ?_; obtain ⟨q10, hq10, H⟩ := bnd H; refine WC_cut (fun F w => ∃ (Fb : Fr) (G : Gm), F = upds Fb [(2, .int .i64 x2), (3, .pointer (some ⟨b4, 0, none⟩)), (4, .pointer (some ⟨b7, 0, none⟩)), (42, .bool q10)] ∧ Gle G9 G ∧ Since w0.heap.size G0 w0 G w ∧ Owns G w w0.heap.size []) ?_ ?_
 ·have Hoq10 := H; have H := hq10; refine WC_region ?_; refine WL_val (rn_loadA ag24 (cs := [.slice a1 n1 c1, .int .i64 x0.Limit]) rfl rfl (fun j v hj => (hS.sat.le leG9).cell (hcb4.drop_take 0 2 j v hj))) rfl ?_; obtain ⟨y11, hy11, H⟩ := bnd H
  have l0_2 := leG6.trans leG9
  refine WL_op rfl (OpP_callV cb17 (f17_ok (x0 := x0) hS.sat (h1.mono RTBaneFish_mono l0_2) hy11) rfl rfl (fun w12 hb => ?_)); have hS := hS.keep hb; have hO := hO.below hb; refine WL_val (rn_not rfl) rfl ?_; refine WL_val (rn_move (v := (.bool (!y11))) rfl) rfl ?_
  rcases bcases (!y11) with hb13 | hb13
  ·have H := ifT hb13 H; refine WL_guardN rfl hb13 rfl rfl rfl ?_; refine WL_guardN rfl hb13 rfl rfl rfl ?_; refine WL_guardN rfl hb13 rfl rfl rfl ?_; refine WL_val (rn_pickT (v := (.bool true)) rfl hb13 rfl) rfl ?_; refine WL_val (rn_move (v := (.bool true)) rfl) rfl ?_; refine WL_guardN rfl rfl rfl rfl rfl ?_; refine WL_guardN rfl rfl rfl rfl rfl ?_; refine WL_guardN rfl rfl rfl rfl rfl ?_; refine WL_val (rn_pickT (v := (.bool true)) rfl rfl rfl) rfl ?_; refine WL_val (rn_move (v := (.bool true)) rfl) rfl ?_; refine WL_guardN rfl rfl rfl rfl rfl ?_; refine WL_guardN rfl rfl rfl rfl rfl ?_; refine WL_guardN rfl rfl rfl rfl rfl ?_; refine WL_guardN rfl rfl rfl rfl rfl ?_; refine WL_val (rn_pickT (v := (.bool true)) rfl rfl rfl) rfl ?_; refine WL_val (rn_move (v := (.bool true)) rfl) rfl ?_; refine WL_guardN rfl rfl rfl rfl rfl ?_; refine WL_guardN rfl rfl rfl rfl rfl ?_; refine WL_guardN rfl rfl rfl rfl rfl ?_; refine WL_guardN rfl rfl rfl rfl rfl ?_; refine WL_val (rn_pickT (v := (.bool true)) rfl rfl rfl) rfl ?_; refine WL_nil ?_
   have hO : Owns G9 w12 w0.heap.size ([]) := hO
   have H := Option.some.inj H; subst H
   exact ⟨_, G9, upds_self _ _ ⟨rfl, rfl, rfl, rfl, trivial⟩, Gle.refl _, hS, hO⟩
  ·have H := ifF hb13 H; refine WL_guardY rfl hb13 rfl rfl ?_; refine WL_val (rn_loadA ag28 (cs := [.slice a2 n2 c2, .slice a3 n3 c3]) rfl rfl (fun j v hj => hS.sat.cell (hcb7.drop_take 0 2 j v hj))) rfl ?_; refine WL_guardY rfl hb13 rfl rfl ?_; obtain ⟨y14, hy14, H⟩ := bnd H; refine WL_op rfl (OpP_callV cb18 (f18_ok (x0 := x1) hS.sat (h2.mono RInt_mono l0_2) (h3.mono (RSlice_mono RInt_mono) l0_2) hy14) rfl rfl (fun w15 hb => ?_)); have hS := hS.keep hb; have hO := hO.below hb; refine WL_guardY rfl hb13 rfl rfl ?_; refine WL_val (rn_not rfl) rfl ?_; refine WL_val (rn_pickF (v := (.bool (!y14))) rfl hb13 rfl) rfl ?_; refine WL_val (rn_move (v := (.bool (!y14))) rfl) rfl ?_
   rcases bcases (!y14) with hb16 | hb16
   ·have H := ifT hb16 H; refine WL_guardN rfl hb16 rfl rfl rfl ?_; refine WL_guardN rfl hb16 rfl rfl rfl ?_; refine WL_guardN rfl hb16 rfl rfl rfl ?_; refine WL_val (rn_pickT (v := (.bool true)) rfl hb16 rfl) rfl ?_; refine WL_val (rn_move (v := (.bool true)) rfl) rfl ?_; refine WL_guardN rfl rfl rfl rfl rfl ?_; refine WL_guardN rfl rfl rfl rfl rfl ?_; refine WL_guardN rfl rfl rfl rfl rfl ?_; refine WL_guardN rfl rfl rfl rfl rfl ?_; refine WL_val (rn_pickT (v := (.bool true)) rfl rfl rfl) rfl ?_; refine WL_val (rn_move (v := (.bool true)) rfl) rfl ?_; refine WL_guardN rfl rfl rfl rfl rfl ?_; refine WL_guardN rfl rfl rfl rfl rfl ?_; refine WL_guardN rfl rfl rfl rfl rfl ?_; refine WL_guardN rfl rfl rfl rfl rfl ?_; refine WL_val (rn_pickT (v := (.bool true)) rfl rfl rfl) rfl ?_; refine WL_nil ?_
    have hO : Owns G9 w15 w0.heap.size ([]) := hO
    have H := Option.some.inj H; subst H
    exact ⟨_, G9, upds_self _ _ ⟨rfl, rfl, rfl, rfl, trivial⟩, Gle.refl _, hS, hO⟩
   ·have H := ifF hb16 H; refine WL_guardY rfl hb16 rfl rfl ?_; refine WL_val (rn_loadA ag24 (cs := [.slice a1 n1 c1, .int .i64 x0.Limit]) rfl rfl (fun j v hj => (hS.sat.le leG9).cell (hcb4.drop_take 0 2 j v hj))) rfl ?_; refine WL_guardY rfl hb16 rfl rfl ?_; obtain ⟨y17, hy17, H⟩ := bnd H; refine WL_op rfl (OpP_callV cb21 (f21_ok (x0 := x0) hS.sat (h1.mono RTBaneFish_mono l0_2) hy17) rfl rfl (fun w18 hb => ?_)); have hS := hS.keep hb; have hO := hO.below hb; refine WL_guardY rfl hb16 rfl rfl ?_; refine WL_val (rn_not rfl) rfl ?_; refine WL_val (rn_pickF (v := (.bool (!y17))) rfl hb16 rfl) rfl ?_; refine WL_val (rn_move (v := (.bool (!y17))) rfl) rfl ?_
    rcases bcases (!y17) with hb19 | hb19
    ·have H := ifT hb19 H; refine WL_guardN rfl hb19 rfl rfl rfl ?_; refine WL_guardN rfl hb19 rfl rfl rfl ?_; refine WL_guardN rfl hb19 rfl rfl rfl ?_; refine WL_guardN rfl hb19 rfl rfl rfl ?_; refine WL_val (rn_pickT (v := (.bool true)) rfl hb19 rfl) rfl ?_; refine WL_val (rn_move (v := (.bool true)) rfl) rfl ?_; refine WL_guardN rfl rfl rfl rfl rfl ?_; refine WL_guardN rfl rfl rfl rfl rfl ?_; refine WL_guardN rfl rfl rfl rfl rfl ?_; refine WL_guardN rfl rfl rfl rfl rfl ?_; refine WL_val (rn_pickT (v := (.bool true)) rfl rfl rfl) rfl ?_; refine WL_nil ?_
     have hO : Owns G9 w18 w0.heap.size ([]) := hO
     have H := Option.some.inj H; subst H
     exact ⟨_, G9, upds_self _ _ ⟨rfl, rfl, rfl, rfl, trivial⟩, Gle.refl _, hS, hO⟩
    ·have H := ifF hb19 H; refine WL_guardY rfl hb19 rfl rfl ?_; refine WL_val (rn_loadA ag24 (cs := [.slice a1 n1 c1, .int .i64 x0.Limit]) rfl rfl (fun j v hj => (hS.sat.le leG9).cell (hcb4.drop_take 0 2 j v hj))) rfl ?_; refine WL_guardY rfl hb19 rfl rfl ?_; refine WL_val (rn_loadA ag28 (cs := [.slice a2 n2 c2, .slice a3 n3 c3]) rfl rfl (fun j v hj => hS.sat.cell (hcb7.drop_take 0 2 j v hj))) rfl ?_; refine WL_guardY rfl hb19 rfl rfl ?_; obtain ⟨y20, hy20, H⟩ := bnd H; refine WL_op rfl (OpP_callV cb22 (f22_ok (x0 := x0) (x1 := x1) hS.sat (h1.mono RTBaneFish_mono l0_2) (h2.mono RInt_mono l0_2) (h3.mono (RSlice_mono RInt_mono) l0_2) hy20) rfl rfl (fun w21 hb => ?_)); have hS := hS.keep hb; have hO := hO.below hb; refine WL_guardY rfl hb19 rfl rfl ?_; refine WL_val (rn_not rfl) rfl ?_; refine WL_val (rn_pickF (v := (.bool (!y20))) rfl hb19 rfl) rfl ?_; refine WL_val (rn_move (v := (.bool (!y20))) rfl) rfl ?_
     rcases bcases (!y20) with hb22 | hb22
     ·have H := ifT hb22 H; refine WL_guardN rfl hb22 rfl rfl rfl ?_; refine WL_guardN rfl hb22 rfl rfl rfl ?_; refine WL_guardN rfl hb22 rfl rfl rfl ?_; refine WL_guardN rfl hb22 rfl rfl rfl ?_; refine WL_val (rn_pickT (v := (.bool true)) rfl hb22 rfl) rfl ?_; refine WL_nil ?_
      have hO : Owns G9 w21 w0.heap.size ([]) := hO
      have H := Option.some.inj H; subst H
      exact ⟨_, G9, upds_self _ _ ⟨rfl, rfl, rfl, rfl, trivial⟩, Gle.refl _, hS, hO⟩
     ·have H := ifF hb22 H; refine WL_guardY rfl hb22 rfl rfl ?_; refine WL_val (rn_loadA ag24 (cs := [.slice a1 n1 c1, .int .i64 x0.Limit]) rfl rfl (fun j v hj => (hS.sat.le leG9).cell (hcb4.drop_take 0 2 j v hj))) rfl ?_; refine WL_guardY rfl hb22 rfl rfl ?_; refine WL_val (rn_move (v := (.int .i64 x2)) rfl) rfl ?_; refine WL_guardY rfl hb22 rfl rfl ?_; obtain ⟨y23, hy23, H⟩ := bnd H; refine WL_op rfl (OpP_callV cb48 (f48_ok (x0 := x0) (x1 := x2) hS.sat (h1.mono RTBaneFish_mono l0_2) hy23) rfl rfl (fun w24 hb => ?_)); have hS := hS.keep hb; have hO := hO.below hb; refine WL_guardY rfl hb22 rfl rfl ?_; refine WL_val (rn_not rfl) rfl ?_; refine WL_val (rn_pickF (v := (.bool (!y23))) rfl hb22 rfl) rfl ?_; refine WL_nil ?_
      have hO : Owns G9 w24 w0.heap.size ([]) := hO
      have H := Option.some.inj H; subst H
      exact ⟨_, G9, upds_self _ _ ⟨rfl, rfl, rfl, rfl, trivial⟩, Gle.refl _, hS, hO⟩
 ·rintro F w25 ⟨Fb, G26, rfl, leG26, hS, hO⟩
  refine WC_cond rfl (fun hb27 => ?_) (fun hb27 => ?_)
  ·have H := ifT hb27 H; refine WC_seq ?_; refine WC_region ?_; obtain ⟨y28, hy28, H⟩ := bnd H; refine WL_op rfl (OpP_callV cb19 (f19_ok  hS.sat  hy28) rfl rfl (fun w29 hb => ?_)); have hS := hS.keep hb; have hO := hO.below hb; refine WL_val (rn_assign (v := (.bool y28)) rfl) rfl ?_; refine WL_nil ?_; refine WC_ret ?_
   have H : some y28 = some r := H
   have H := Option.some.inj H; subst H
   exact ⟨rfl, hS.below⟩
  ·have H := ifF hb27 H; refine WC_skip ?_; refine WC_seq ?_; refine WC_region ?_
   have l1_3 := leG9.trans leG26
   refine WL_val (rn_loadA ag24 (cs := [.slice a1 n1 c1, .int .i64 x0.Limit]) rfl rfl (fun j v hj => (hS.sat.le l1_3).cell (hcb4.drop_take 0 2 j v hj))) rfl ?_; obtain ⟨y30, hy30, H⟩ := bnd H
   have l0_3 := leG6.trans l1_3
   refine WL_op rfl (OpP_callG cb25 (f25_ok (x0 := x0) hS.sat (h1.mono RTBaneFish_mono l0_3) hy30) rfl rfl (fun vy30 G32 w31 hg hvy30 => ?_)); obtain ⟨a33, n33, c33, ⟨⟩, h33⟩ := hvy30; have hS := hS.grow hg; have hO := hO.grow hg
   have leG32 := hg.le
   refine WL_val (rn_move (v := (.tuple #[.slice a33 n33 c33, .int .i64 y30.2])) rfl) rfl ?_; refine WL_val (rn_extract (v := (.slice a33 n33 c33)) rfl rfl) rfl ?_; refine WL_val (rn_extract (v := (.int .i64 y30.2)) rfl rfl) rfl ?_; refine WL_val (rn_assign (v := (.slice a33 n33 c33)) rfl) rfl ?_; refine WL_val (rn_assign (v := (.int .i64 y30.2)) rfl) rfl ?_; refine WL_nil ?_; refine WC_seq ?_; refine WC_region ?_
   have l1_4 := l1_3.trans leG32
   refine WL_val (rn_loadA ag24 (cs := [.slice a1 n1 c1, .int .i64 x0.Limit]) rfl rfl (fun j v hj => (hS.sat.le l1_4).cell (hcb4.drop_take 0 2 j v hj))) rfl ?_
   have l2_4 := leG26.trans leG32
   refine WL_val (rn_loadA ag28 (cs := [.slice a2 n2 c2, .slice a3 n3 c3]) rfl rfl (fun j v hj => (hS.sat.le l2_4).cell (hcb7.drop_take 0 2 j v hj))) rfl ?_; obtain ⟨y34, hy34, H⟩ := bnd H
   have l0_4 := l0_3.trans leG32
   refine WL_op rfl (OpP_callG cb20 (f20_ok (x0 := x0) (x1 := x1) hS.sat (h1.mono RTBaneFish_mono l0_4) (h2.mono RInt_mono l0_4) (h3.mono (RSlice_mono RInt_mono) l0_4) hy34) rfl rfl (fun vy34 G36 w35 hg hvy34 => ?_)); obtain ⟨a37, n37, c37, ⟨⟩, h37⟩ := hvy34; have hS := hS.grow hg; have hO := hO.grow hg
   have leG36 := hg.le
   refine WL_val (rn_move (v := (.tuple #[.slice a37 n37 c37, .int .i64 y34.2])) rfl) rfl ?_; refine WL_val (rn_extract (v := (.slice a37 n37 c37)) rfl rfl) rfl ?_; refine WL_val (rn_extract (v := (.int .i64 y34.2)) rfl rfl) rfl ?_; refine WL_val (rn_assign (v := (.slice a37 n37 c37)) rfl) rfl ?_; refine WL_val (rn_assign (v := (.int .i64 y34.2)) rfl) rfl ?_; refine WL_nil ?_; refine WC_seq ?_; refine WC_region ?_
   have l1_5 := l1_4.trans leG36
   refine WL_val (rn_loadA ag24 (cs := [.slice a1 n1 c1, .int .i64 x0.Limit]) rfl rfl (fun j v hj => (hS.sat.le l1_5).cell (hcb4.drop_take 0 2 j v hj))) rfl ?_; refine WL_val (rn_move (v := (.int .i64 x2)) rfl) rfl ?_; obtain ⟨y38, hy38, H⟩ := bnd H
   have l0_5 := l0_4.trans leG36
   refine WL_op rfl (OpP_callG cb58 (f58_ok (x0 := x0) (x1 := x2) hS.sat (h1.mono RTBaneFish_mono l0_5) hy38) rfl rfl (fun vy38 G40 w39 hg hvy38 => ?_)); obtain ⟨a41, n41, c41, ⟨⟩, h41⟩ := hvy38; have hS := hS.grow hg; have hO := hO.grow hg
   have leG40 := hg.le
   refine WL_val (rn_move (v := (.tuple #[.slice a41 n41 c41, .int .i64 y38.2])) rfl) rfl ?_; refine WL_val (rn_extract (v := (.slice a41 n41 c41)) rfl rfl) rfl ?_; refine WL_val (rn_extract (v := (.int .i64 y38.2)) rfl rfl) rfl ?_; refine WL_val (rn_assign (v := (.slice a41 n41 c41)) rfl) rfl ?_; refine WL_val (rn_assign (v := (.int .i64 y38.2)) rfl) rfl ?_; refine WL_nil ?_; refine WC_seq ?_; refine WC_seq ?_; obtain ⟨q42, hq42, H⟩ := bnd H; refine WC_cut (fun F w => ∃ (Fb : Fr), F = upds Fb [(3, .pointer (some ⟨b4, 0, none⟩)), (7, .slice a33 n33 c33), (9, .slice a37 n37 c37), (11, .slice a41 n41 c41), (106, .bool q42)] ∧ w39 = w) ?_ ?_
   ·have Hoq42 := H; have H := hq42; refine WC_region ?_; refine WL_val (rn_move (v := (.int .i64 y30.2)) rfl) rfl ?_; refine WL_val (rn_neq rfl rfl) rfl ?_; refine WL_val (rn_move (v := (.bool (y30.2 != 0))) rfl) rfl ?_
    rcases bcases (y30.2 != 0) with hb43 | hb43
    ·have H := ifT hb43 H; refine WL_guardN rfl hb43 rfl rfl rfl ?_; refine WL_guardN rfl hb43 rfl rfl rfl ?_; refine WL_val (rn_pickT (v := (.bool true)) rfl hb43 rfl) rfl ?_; refine WL_val (rn_move (v := (.bool true)) rfl) rfl ?_; refine WL_guardN rfl rfl rfl rfl rfl ?_; refine WL_guardN rfl rfl rfl rfl rfl ?_; refine WL_val (rn_pickT (v := (.bool true)) rfl rfl rfl) rfl ?_; refine WL_val (rn_move (v := (.bool true)) rfl) rfl ?_; refine WL_guardN rfl rfl rfl rfl rfl ?_; refine WL_guardN rfl rfl rfl rfl rfl ?_; refine WL_guardN rfl rfl rfl rfl rfl ?_; refine WL_guardN rfl rfl rfl rfl rfl ?_; refine WL_guardN rfl rfl rfl rfl rfl ?_; refine WL_guardN rfl rfl rfl rfl rfl ?_; refine WL_val (rn_pickT (v := (.bool true)) rfl rfl rfl) rfl ?_; refine WL_val (rn_move (v := (.bool true)) rfl) rfl ?_; refine WL_guardN rfl rfl rfl rfl rfl ?_; refine WL_guardN rfl rfl rfl rfl rfl ?_; refine WL_guardN rfl rfl rfl rfl rfl ?_; refine WL_guardN rfl rfl rfl rfl rfl ?_; refine WL_guardN rfl rfl rfl rfl rfl ?_; refine WL_guardN rfl rfl rfl rfl rfl ?_; refine WL_val (rn_pickT (v := (.bool true)) rfl rfl rfl) rfl ?_; refine WL_val (rn_move (v := (.bool true)) rfl) rfl ?_; refine WL_guardN rfl rfl rfl rfl rfl ?_; refine WL_guardN rfl rfl rfl rfl rfl ?_; refine WL_guardN rfl rfl rfl rfl rfl ?_; refine WL_val (rn_pickT (v := (.bool true)) rfl rfl rfl) rfl ?_; refine WL_val (rn_move (v := (.bool true)) rfl) rfl ?_; refine WL_guardN rfl rfl rfl rfl rfl ?_; refine WL_guardN rfl rfl rfl rfl rfl ?_; refine WL_guardN rfl rfl rfl rfl rfl ?_; refine WL_guardN rfl rfl rfl rfl rfl ?_; refine WL_guardN rfl rfl rfl rfl rfl ?_; refine WL_guardN rfl rfl rfl rfl rfl ?_; refine WL_val (rn_pickT (v := (.bool true)) rfl rfl rfl) rfl ?_; refine WL_val (rn_move (v := (.bool true)) rfl) rfl ?_; refine WL_guardN rfl rfl rfl rfl rfl ?_; refine WL_guardN rfl rfl rfl rfl rfl ?_; refine WL_guardN rfl rfl rfl rfl rfl ?_; refine WL_guardN rfl rfl rfl rfl rfl ?_; refine WL_guardN rfl rfl rfl rfl rfl ?_; refine WL_val (rn_pickT (v := (.bool true)) rfl rfl rfl) rfl ?_; refine WL_nil ?_; have H := Option.some.inj H; subst H
     exact ⟨_, upds_self _ _ ⟨rfl, rfl, rfl, rfl, rfl, trivial⟩, rfl⟩
    ·have H := ifF hb43 H; refine WL_guardY rfl hb43 rfl rfl ?_; refine WL_val (rn_move (v := (.int .i64 y34.2)) rfl) rfl ?_; refine WL_guardY rfl hb43 rfl rfl ?_; refine WL_val (rn_neq rfl rfl) rfl ?_; refine WL_val (rn_pickF (v := (.bool (y34.2 != 0))) rfl hb43 rfl) rfl ?_; refine WL_val (rn_move (v := (.bool (y34.2 != 0))) rfl) rfl ?_
     rcases bcases (y34.2 != 0) with hb44 | hb44
     ·have H := ifT hb44 H; refine WL_guardN rfl hb44 rfl rfl rfl ?_; refine WL_guardN rfl hb44 rfl rfl rfl ?_; refine WL_val (rn_pickT (v := (.bool true)) rfl hb44 rfl) rfl ?_; refine WL_val (rn_move (v := (.bool true)) rfl) rfl ?_; refine WL_guardN rfl rfl rfl rfl rfl ?_; refine WL_guardN rfl rfl rfl rfl rfl ?_; refine WL_guardN rfl rfl rfl rfl rfl ?_; refine WL_guardN rfl rfl rfl rfl rfl ?_; refine WL_guardN rfl rfl rfl rfl rfl ?_; refine WL_guardN rfl rfl rfl rfl rfl ?_; refine WL_val (rn_pickT (v := (.bool true)) rfl rfl rfl) rfl ?_; refine WL_val (rn_move (v := (.bool true)) rfl) rfl ?_; refine WL_guardN rfl rfl rfl rfl rfl ?_; refine WL_guardN rfl rfl rfl rfl rfl ?_; refine WL_guardN rfl rfl rfl rfl rfl ?_; refine WL_guardN rfl rfl rfl rfl rfl ?_; refine WL_guardN rfl rfl rfl rfl rfl ?_; refine WL_guardN rfl rfl rfl rfl rfl ?_; refine WL_val (rn_pickT (v := (.bool true)) rfl rfl rfl) rfl ?_; refine WL_val (rn_move (v := (.bool true)) rfl) rfl ?_; refine WL_guardN rfl rfl rfl rfl rfl ?_; refine WL_guardN rfl rfl rfl rfl rfl ?_; refine WL_guardN rfl rfl rfl rfl rfl ?_; refine WL_val (rn_pickT (v := (.bool true)) rfl rfl rfl) rfl ?_; refine WL_val (rn_move (v := (.bool true)) rfl) rfl ?_; refine WL_guardN rfl rfl rfl rfl rfl ?_; refine WL_guardN rfl rfl rfl rfl rfl ?_; refine WL_guardN rfl rfl rfl rfl rfl ?_; refine WL_guardN rfl rfl rfl rfl rfl ?_; refine WL_guardN rfl rfl rfl rfl rfl ?_; refine WL_guardN rfl rfl rfl rfl rfl ?_; refine WL_val (rn_pickT (v := (.bool true)) rfl rfl rfl) rfl ?_; refine WL_val (rn_move (v := (.bool true)) rfl) rfl ?_; refine WL_guardN rfl rfl rfl rfl rfl ?_; refine WL_guardN rfl rfl rfl rfl rfl ?_; refine WL_guardN rfl rfl rfl rfl rfl ?_; refine WL_guardN rfl rfl rfl rfl rfl ?_; refine WL_guardN rfl rfl rfl rfl rfl ?_; refine WL_val (rn_pickT (v := (.bool true)) rfl rfl rfl) rfl ?_; refine WL_nil ?_; have H := Option.some.inj H; subst H
      exact ⟨_, upds_self _ _ ⟨rfl, rfl, rfl, rfl, rfl, trivial⟩, rfl⟩
     ·have H := ifF hb44 H; refine WL_guardY rfl hb44 rfl rfl ?_; refine WL_val (rn_move (v := (.int .i64 y38.2)) rfl) rfl ?_; refine WL_guardY rfl hb44 rfl rfl ?_; refine WL_val (rn_neq rfl rfl) rfl ?_; refine WL_val (rn_pickF (v := (.bool (y38.2 != 0))) rfl hb44 rfl) rfl ?_; refine WL_val (rn_move (v := (.bool (y38.2 != 0))) rfl) rfl ?_
      rcases bcases (y38.2 != 0) with hb45 | hb45
      ·have H := ifT hb45 H; refine WL_guardN rfl hb45 rfl rfl rfl ?_; refine WL_guardN rfl hb45 rfl rfl rfl ?_; refine WL_guardN rfl hb45 rfl rfl rfl ?_; refine WL_guardN rfl hb45 rfl rfl rfl ?_; refine WL_guardN rfl hb45 rfl rfl rfl ?_; refine WL_guardN rfl hb45 rfl rfl rfl ?_; refine WL_val (rn_pickT (v := (.bool true)) rfl hb45 rfl) rfl ?_; refine WL_val (rn_move (v := (.bool true)) rfl) rfl ?_; refine WL_guardN rfl rfl rfl rfl rfl ?_; refine WL_guardN rfl rfl rfl rfl rfl ?_; refine WL_guardN rfl rfl rfl rfl rfl ?_; refine WL_guardN rfl rfl rfl rfl rfl ?_; refine WL_guardN rfl rfl rfl rfl rfl ?_; refine WL_guardN rfl rfl rfl rfl rfl ?_; refine WL_val (rn_pickT (v := (.bool true)) rfl rfl rfl) rfl ?_; refine WL_val (rn_move (v := (.bool true)) rfl) rfl ?_; refine WL_guardN rfl rfl rfl rfl rfl ?_; refine WL_guardN rfl rfl rfl rfl rfl ?_; refine WL_guardN rfl rfl rfl rfl rfl ?_; refine WL_val (rn_pickT (v := (.bool true)) rfl rfl rfl) rfl ?_; refine WL_val (rn_move (v := (.bool true)) rfl) rfl ?_; refine WL_guardN rfl rfl rfl rfl rfl ?_; refine WL_guardN rfl rfl rfl rfl rfl ?_; refine WL_guardN rfl rfl rfl rfl rfl ?_; refine WL_guardN rfl rfl rfl rfl rfl ?_; refine WL_guardN rfl rfl rfl rfl rfl ?_; refine WL_guardN rfl rfl rfl rfl rfl ?_; refine WL_val (rn_pickT (v := (.bool true)) rfl rfl rfl) rfl ?_; refine WL_val (rn_move (v := (.bool true)) rfl) rfl ?_; refine WL_guardN rfl rfl rfl rfl rfl ?_; refine WL_guardN rfl rfl rfl rfl rfl ?_; refine WL_guardN rfl rfl rfl rfl rfl ?_; refine WL_guardN rfl rfl rfl rfl rfl ?_; refine WL_guardN rfl rfl rfl rfl rfl ?_; refine WL_val (rn_pickT (v := (.bool true)) rfl rfl rfl) rfl ?_; refine WL_nil ?_; have H := Option.some.inj H; subst H
       exact ⟨_, upds_self _ _ ⟨rfl, rfl, rfl, rfl, rfl, trivial⟩, rfl⟩
      ·have H := ifF hb45 H; refine WL_guardY rfl hb45 rfl rfl ?_; refine WL_val (rn_move (v := (.slice a33 n33 c33)) rfl) rfl ?_; refine WL_guardY rfl hb45 rfl rfl ?_
       have l4_6 := leG36.trans leG40
       refine WL_val (rn_len sl38 rfl rfl (h33.mono RTSpan_mono l4_6).1) rfl ?_; refine WL_guardY rfl hb45 rfl rfl ?_; refine WL_val (rn_fld fd24_0 rfl) rfl ?_; refine WL_guardY rfl hb45 rfl rfl ?_
       have l1_6 := l1_5.trans leG40
       refine WL_val (rn_load na22 rfl ((hS.sat.le l1_6).cell (hcb4 0 _ rfl))) rfl ?_; refine WL_guardY rfl hb45 rfl rfl ?_
       have l0_6 := l0_5.trans leG40
       refine WL_val (rn_len sl22 rfl rfl (h1.mono RTBaneFish_mono l0_6).1) rfl ?_; refine WL_guardY rfl hb45 rfl rfl ?_; refine WL_val (rn_neq rfl rfl) rfl ?_; refine WL_val (rn_pickF (v := (.bool ((y30.1.length : Int) != (x0.Fish.length : Int)))) rfl hb45 rfl) rfl ?_; refine WL_val (rn_move (v := (.bool ((y30.1.length : Int) != (x0.Fish.length : Int)))) rfl) rfl ?_
       rcases bcases ((y30.1.length : Int) != (x0.Fish.length : Int)) with hb46 | hb46
       ·have H := ifT hb46 H; refine WL_guardN rfl hb46 rfl rfl rfl ?_; refine WL_guardN rfl hb46 rfl rfl rfl ?_; refine WL_guardN rfl hb46 rfl rfl rfl ?_; refine WL_guardN rfl hb46 rfl rfl rfl ?_; refine WL_guardN rfl hb46 rfl rfl rfl ?_; refine WL_guardN rfl hb46 rfl rfl rfl ?_; refine WL_val (rn_pickT (v := (.bool true)) rfl hb46 rfl) rfl ?_; refine WL_val (rn_move (v := (.bool true)) rfl) rfl ?_; refine WL_guardN rfl rfl rfl rfl rfl ?_; refine WL_guardN rfl rfl rfl rfl rfl ?_; refine WL_guardN rfl rfl rfl rfl rfl ?_; refine WL_val (rn_pickT (v := (.bool true)) rfl rfl rfl) rfl ?_; refine WL_val (rn_move (v := (.bool true)) rfl) rfl ?_; refine WL_guardN rfl rfl rfl rfl rfl ?_; refine WL_guardN rfl rfl rfl rfl rfl ?_; refine WL_guardN rfl rfl rfl rfl rfl ?_; refine WL_guardN rfl rfl rfl rfl rfl ?_; refine WL_guardN rfl rfl rfl rfl rfl ?_; refine WL_guardN rfl rfl rfl rfl rfl ?_; refine WL_val (rn_pickT (v := (.bool true)) rfl rfl rfl) rfl ?_; refine WL_val (rn_move (v := (.bool true)) rfl) rfl ?_; refine WL_guardN rfl rfl rfl rfl rfl ?_; refine WL_guardN rfl rfl rfl rfl rfl ?_; refine WL_guardN rfl rfl rfl rfl rfl ?_; refine WL_guardN rfl rfl rfl rfl rfl ?_; refine WL_guardN rfl rfl rfl rfl rfl ?_; refine WL_val (rn_pickT (v := (.bool true)) rfl rfl rfl) rfl ?_; refine WL_nil ?_; have H := Option.some.inj H; subst H
        exact ⟨_, upds_self _ _ ⟨rfl, rfl, rfl, rfl, rfl, trivial⟩, rfl⟩
       ·have H := ifF hb46 H; refine WL_guardY rfl hb46 rfl rfl ?_; refine WL_val (rn_move (v := (.slice a37 n37 c37)) rfl) rfl ?_; refine WL_guardY rfl hb46 rfl rfl ?_; refine WL_val (rn_len sl25 rfl rfl (h37.mono RInt_mono leG40).1) rfl ?_; refine WL_guardY rfl hb46 rfl rfl ?_; refine WL_val (rn_fld fd24_0 rfl) rfl ?_; refine WL_guardY rfl hb46 rfl rfl ?_; refine WL_val (rn_load na22 rfl ((hS.sat.le l1_6).cell (hcb4 0 _ rfl))) rfl ?_; refine WL_guardY rfl hb46 rfl rfl ?_; refine WL_val (rn_len sl22 rfl rfl (h1.mono RTBaneFish_mono l0_6).1) rfl ?_; refine WL_guardY rfl hb46 rfl rfl ?_; refine WL_val (rn_neq rfl rfl) rfl ?_; refine WL_val (rn_pickF (v := (.bool ((y34.1.length : Int) != (x0.Fish.length : Int)))) rfl hb46 rfl) rfl ?_; refine WL_val (rn_move (v := (.bool ((y34.1.length : Int) != (x0.Fish.length : Int)))) rfl) rfl ?_
        rcases bcases ((y34.1.length : Int) != (x0.Fish.length : Int)) with hb47 | hb47
        ·have H := ifT hb47 H; refine WL_guardN rfl hb47 rfl rfl rfl ?_; refine WL_guardN rfl hb47 rfl rfl rfl ?_; refine WL_guardN rfl hb47 rfl rfl rfl ?_; refine WL_val (rn_pickT (v := (.bool true)) rfl hb47 rfl) rfl ?_; refine WL_val (rn_move (v := (.bool true)) rfl) rfl ?_; refine WL_guardN rfl rfl rfl rfl rfl ?_; refine WL_guardN rfl rfl rfl rfl rfl ?_; refine WL_guardN rfl rfl rfl rfl rfl ?_; refine WL_guardN rfl rfl rfl rfl rfl ?_; refine WL_guardN rfl rfl rfl rfl rfl ?_; refine WL_guardN rfl rfl rfl rfl rfl ?_; refine WL_val (rn_pickT (v := (.bool true)) rfl rfl rfl) rfl ?_; refine WL_val (rn_move (v := (.bool true)) rfl) rfl ?_; refine WL_guardN rfl rfl rfl rfl rfl ?_; refine WL_guardN rfl rfl rfl rfl rfl ?_; refine WL_guardN rfl rfl rfl rfl rfl ?_; refine WL_guardN rfl rfl rfl rfl rfl ?_; refine WL_guardN rfl rfl rfl rfl rfl ?_; refine WL_val (rn_pickT (v := (.bool true)) rfl rfl rfl) rfl ?_; refine WL_nil ?_; have H := Option.some.inj H; subst H
         exact ⟨_, upds_self _ _ ⟨rfl, rfl, rfl, rfl, rfl, trivial⟩, rfl⟩
        ·have H := ifF hb47 H; refine WL_guardY rfl hb47 rfl rfl ?_; refine WL_val (rn_move (v := (.slice a41 n41 c41)) rfl) rfl ?_; refine WL_guardY rfl hb47 rfl rfl ?_; refine WL_val (rn_len sl25 rfl rfl h41.1) rfl ?_; refine WL_guardY rfl hb47 rfl rfl ?_; refine WL_val (rn_eql rfl rfl) rfl ?_; refine WL_val (rn_pickF (v := (.bool ((y38.1.length : Int) == 0))) rfl hb47 rfl) rfl ?_; refine WL_val (rn_move (v := (.bool ((y38.1.length : Int) == 0))) rfl) rfl ?_
         rcases bcases ((y38.1.length : Int) == 0) with hb48 | hb48
         ·have H := ifT hb48 H; refine WL_guardN rfl hb48 rfl rfl rfl ?_; refine WL_guardN rfl hb48 rfl rfl rfl ?_; refine WL_guardN rfl hb48 rfl rfl rfl ?_; refine WL_guardN rfl hb48 rfl rfl rfl ?_; refine WL_guardN rfl hb48 rfl rfl rfl ?_; refine WL_guardN rfl hb48 rfl rfl rfl ?_; refine WL_val (rn_pickT (v := (.bool true)) rfl hb48 rfl) rfl ?_; refine WL_val (rn_move (v := (.bool true)) rfl) rfl ?_; refine WL_guardN rfl rfl rfl rfl rfl ?_; refine WL_guardN rfl rfl rfl rfl rfl ?_; refine WL_guardN rfl rfl rfl rfl rfl ?_; refine WL_guardN rfl rfl rfl rfl rfl ?_; refine WL_guardN rfl rfl rfl rfl rfl ?_; refine WL_val (rn_pickT (v := (.bool true)) rfl rfl rfl) rfl ?_; refine WL_nil ?_; have H := Option.some.inj H; subst H
          exact ⟨_, upds_self _ _ ⟨rfl, rfl, rfl, rfl, rfl, trivial⟩, rfl⟩
         ·have H := ifF hb48 H; refine WL_guardY rfl hb48 rfl rfl ?_; refine WL_val (rn_move (v := (.slice a41 n41 c41)) rfl) rfl ?_; refine WL_guardY rfl hb48 rfl rfl ?_; refine WL_val (rn_len sl25 rfl rfl h41.1) rfl ?_; refine WL_guardY rfl hb48 rfl rfl ?_; refine WL_val (rn_fld fd24_0 rfl) rfl ?_; refine WL_guardY rfl hb48 rfl rfl ?_; refine WL_val (rn_load na22 rfl ((hS.sat.le l1_6).cell (hcb4 0 _ rfl))) rfl ?_; refine WL_guardY rfl hb48 rfl rfl ?_; refine WL_val (rn_len sl22 rfl rfl (h1.mono RTBaneFish_mono l0_6).1) rfl ?_; refine WL_guardY rfl hb48 rfl rfl ?_; refine WL_val (rn_gtr rfl rfl) rfl ?_; refine WL_val (rn_pickF (v := (.bool (decide ((x0.Fish.length : Int) < (y38.1.length : Int))))) rfl hb48 rfl) rfl ?_; refine WL_val (rn_move (v := (.bool (decide ((x0.Fish.length : Int) < (y38.1.length : Int))))) rfl) rfl ?_
          rcases bcases (decide ((x0.Fish.length : Int) < (y38.1.length : Int))) with hb49 | hb49
          ·have H := ifT hb49 H; refine WL_guardN rfl hb49 rfl rfl rfl ?_; refine WL_guardN rfl hb49 rfl rfl rfl ?_; refine WL_guardN rfl hb49 rfl rfl rfl ?_; refine WL_guardN rfl hb49 rfl rfl rfl ?_; refine WL_guardN rfl hb49 rfl rfl rfl ?_; refine WL_val (rn_pickT (v := (.bool true)) rfl hb49 rfl) rfl ?_; refine WL_nil ?_; have H := Option.some.inj H; subst H
           exact ⟨_, upds_self _ _ ⟨rfl, rfl, rfl, rfl, rfl, trivial⟩, rfl⟩
          ·have H := ifF hb49 H; refine WL_guardY rfl hb49 rfl rfl ?_; refine WL_val (rn_move (v := (.slice a41 n41 c41)) rfl) rfl ?_; refine WL_guardY rfl hb49 rfl rfl ?_; obtain ⟨y50, hy50, H⟩ := bnd H; refine WL_idx sl25 h41 hy50 rfl rfl rfl ?_
           rintro b51 o51 _ hcb51 _ ⟨⟩
           refine WL_guardY rfl hb49 rfl rfl ?_; refine WL_val (rn_load na3 rfl (hS.sat.cell (hcb51 0 _ rfl))) rfl ?_; refine WL_guardY rfl hb49 rfl rfl ?_; refine WL_val (rn_move (v := (.int .i64 x2)) rfl) rfl ?_; refine WL_guardY rfl hb49 rfl rfl ?_; refine WL_val (rn_neq rfl rfl) rfl ?_; refine WL_val (rn_pickF (v := (.bool (y50 != x2))) rfl hb49 rfl) rfl ?_; refine WL_nil ?_; have H := Option.some.inj H; subst H
           exact ⟨_, upds_self _ _ ⟨rfl, rfl, rfl, rfl, rfl, trivial⟩, rfl⟩
   ·rintro F wl ⟨Fb, rfl, rfl⟩
    refine WC_cond rfl (fun hb54 => ?_) (fun hb54 => ?_)
    ·have H := ifT hb54 H; refine WC_seq ?_; refine WC_region ?_; refine WL_val (rn_assign (v := (.bool false)) rfl) rfl ?_; refine WL_nil ?_; refine WC_ret ?_
     have H : some false = some r := H
     have H := Option.some.inj H; subst H
     exact ⟨rfl, hS.below⟩
    ·have H := ifF hb54 H; refine WC_skip ?_; refine WC_seq ?_; refine WC_seq ?_; refine WC_region ?_; refine WL_val (rn_assign (v := (.int .i64 0)) rfl) rfl ?_; refine WL_nil ?_; obtain ⟨q57, hq57, H⟩ := bnd H; refine WC_cut (fun F w => ∃ (p56 : Unit) (Fb : Fr) (G : Gm), q57 = .inl p56 ∧ F = upds Fb [(3, .pointer (some ⟨b4, 0, none⟩)), (11, .slice a41 n41 c41)] ∧ Gle G40 G ∧ Since w0.heap.size G0 w0 G w ∧ Owns G w w0.heap.size []) ?_ ?_
     ·refine WC_block (WC_loop hq57 (fun s55 F w => ∃ (Fb : Fr) (G : Gm), F = upds Fb [(3, .pointer (some ⟨b4, 0, none⟩)), (7, .slice a33 n33 c33), (9, .slice a37 n37 c37), (11, .slice a41 n41 c41), (13, .int .i64 s55)] ∧ Gle G40 G ∧ Since w0.heap.size G0 w0 G w ∧ Owns G w w0.heap.size []) ?_ ?_)
      ·have hO : Owns G40 w39 w0.heap.size ([]) := hO
       exact ⟨_, G40, upds_self _ _ ⟨rfl, rfl, rfl, rfl, rfl, trivial⟩, Gle.refl _, hS, hO⟩
      ·rintro s55 F w59 t58 ⟨Fb, G60, rfl, leG60, hS, hO⟩
       intro H1 hqq57
       have Hoq57 := H; have H := H1
       unfold f15_b0 at H
       refine WC_seq ?_; refine WC_seq ?_; refine WC_region ?_; refine WL_val (rn_move (v := (.int .i64 s55)) rfl) rfl ?_; refine WL_val (rn_move (v := (.slice a37 n37 c37)) rfl) rfl ?_
       have l5_7 := leG40.trans leG60
       refine WL_val (rn_len sl25 rfl rfl (h37.mono RInt_mono l5_7).1) rfl ?_; refine WL_val (rn_lss rfl rfl) rfl ?_; refine WL_nil ?_; refine WC_cond rfl (fun hb61 => ?_) (fun hb61 => ?_)
       ·have H := ifT hb61 H; refine WC_skip ?_; refine WC_seq ?_; refine WC_block ?_; refine WC_seq ?_; obtain ⟨q62, hq62, H⟩ := bnd H; refine WC_cut (fun F w => ∃ (Fb : Fr) (G : Gm), F = upds Fb [(3, .pointer (some ⟨b4, 0, none⟩)), (7, .slice a33 n33 c33), (9, .slice a37 n37 c37), (11, .slice a41 n41 c41), (13, .int .i64 s55), (134, .bool q62)] ∧ Gle G60 G ∧ Since w0.heap.size G0 w0 G w ∧ Owns G w w0.heap.size []) ?_ ?_
        ·have Hoq62 := H; have H := hq62; have hS := hS.keep (below_drew _); have hO := hO.below (below_drew _)
         refine WC_regionD mixedO (fun _ w => Sat G60 w ∧ True) (.fl 0 (.fl 1 (.fl 2 (.fl 3 (.fl 4 (.on 5 (.on 6 (.on 7 (.on 8 (.on 9 (.on 10 (.fl 11 (.fl 12 (.fl 13 (.fl 14 (.fl 15 (.on 16 (.on 17 (.on 18 (.on 19 (.on 20 (.on 21 .nil)))))))))))))))))))))) (by kernel_rfl) rfl (by kernel_rfl) (fun _ => ⟨hS.sat, trivial⟩) ?_
         refine WD_val rfl (fun w hw => rn_move (v := (.slice a37 n37 c37)) rfl) rfl ?_; refine WD_val rfl (fun w hw => rn_move (v := (.int .i64 s55)) rfl) rfl ?_; obtain ⟨y63, hy63, H⟩ := bnd H; refine WD_idx rfl sl25 (h37.mono RInt_mono l5_7) hy63 rfl rfl rfl ?_
         rintro b64 o64 _ hcb64 _ ⟨⟩
         refine WD_val rfl (fun w hw => rn_load na3 rfl (hw.1.cell (hcb64 0 _ rfl))) rfl ?_; refine WD_val rfl (fun w hw => rn_move (v := (.slice a33 n33 c33)) rfl) rfl ?_; refine WD_op rfl rfl (OpP_val (rn_move (v := (.int .i64 s55)) rfl) rfl ?_); refine ⟨fun _ _ => ⟨hS.sat, trivial⟩, ?_⟩; obtain ⟨y65, hy65, H⟩ := bnd H
         have l4_7 := leG36.trans l5_7
         refine WD_op rfl rfl (OpP_idx sl38 (h33.mono RTSpan_mono l4_7) hy65 rfl rfl rfl ?_)
         rintro b66 o66 _ hcb66 _ ⟨⟩
         refine ⟨fun _ _ => ⟨hS.sat, trivial⟩, ?_⟩; refine WD_op rfl rfl (OpP_val (rn_fld fd43_0 rfl) rfl ?_); refine ⟨fun _ _ => ⟨hS.sat, trivial⟩, ?_⟩; refine WD_op rfl rfl (OpP_val (rn_load na3 rfl (hS.sat.cell (hcb66 0 _ rfl))) rfl ?_); refine ⟨fun _ _ => ⟨hS.sat, trivial⟩, ?_⟩; refine WD_op rfl rfl (OpP_val (rn_lss rfl rfl) rfl ?_); refine ⟨fun _ _ => ⟨hS.sat, trivial⟩, ?_⟩; refine WD_op rfl rfl (OpP_val (rn_move (v := (.bool (decide (y63 < y65.Low)))) rfl) rfl ?_); refine ⟨fun _ _ => ⟨hS.sat, trivial⟩, ?_⟩
         rcases bcases (decide (y63 < y65.Low)) with hb67 | hb67
         ·have H := ifT hb67 H; refine WD_skip rfl rfl hb67 rfl rfl rfl ?_; refine WD_skip rfl rfl hb67 rfl rfl rfl ?_; refine WD_skip rfl rfl hb67 rfl rfl rfl ?_; refine WD_skip rfl rfl hb67 rfl rfl rfl ?_; refine WD_skip rfl rfl hb67 rfl rfl rfl ?_; refine WD_skipS rfl rfl hb67 rfl rfl rfl (fun _ _ => ⟨hS.sat, trivial⟩) ?_; refine WD_skipS rfl rfl hb67 rfl rfl rfl (fun _ _ => ⟨hS.sat, trivial⟩) ?_; refine WD_skipS rfl rfl hb67 rfl rfl rfl (fun _ _ => ⟨hS.sat, trivial⟩) ?_; refine WD_skipS rfl rfl hb67 rfl rfl rfl (fun _ _ => ⟨hS.sat, trivial⟩) ?_
          refine WD_skipS rfl rfl hb67 rfl rfl rfl (fun _ h => noneed (by kernel_rfl) h) ?_
          refine WD_op rfl rfl (OpP_val (rn_pickT (v := (.bool true)) rfl hb67 rfl) rfl ?_)
          refine ⟨fun _ h => noneed (by kernel_rfl) h, ?_⟩
          refine WD_nil ?_
          have hO : Owns G60 w59.drew w0.heap.size ([]) := hO
          have H := Option.some.inj H; subst H
          exact ⟨_, G60, upds_self _ _ ⟨rfl, rfl, rfl, rfl, rfl, rfl, trivial⟩, Gle.refl _, hS, hO⟩
         ·have H := ifF hb67 H; refine WD_valY rfl rfl hb67 rfl rfl (fun w hw => rn_move (v := (.slice a37 n37 c37)) rfl) rfl ?_; refine WD_valY rfl rfl hb67 rfl rfl (fun w hw => rn_move (v := (.int .i64 s55)) rfl) rfl ?_; refine WD_idxY rfl rfl hb67 rfl rfl sl25 (h37.mono RInt_mono l5_7) hy63 rfl rfl rfl ?_
          rintro b68 o68 _ hcb68 _ ⟨⟩
          refine WD_valY rfl rfl hb67 rfl rfl (fun w hw => rn_load na3 rfl (hw.1.cell (hcb68 0 _ rfl))) rfl ?_; refine WD_valY rfl rfl hb67 rfl rfl (fun w hw => rn_move (v := (.slice a33 n33 c33)) rfl) rfl ?_; refine WD_opY rfl rfl rfl hb67 rfl rfl (OpP_val (rn_move (v := (.int .i64 s55)) rfl) rfl ?_); refine ⟨fun _ _ => ⟨hS.sat, trivial⟩, ?_⟩; refine WD_opY rfl rfl rfl hb67 rfl rfl (OpP_idx sl38 (h33.mono RTSpan_mono l4_7) hy65 rfl rfl rfl ?_)
          rintro b69 o69 _ hcb69 _ ⟨⟩
          refine ⟨fun _ _ => ⟨hS.sat, trivial⟩, ?_⟩; refine WD_opY rfl rfl rfl hb67 rfl rfl (OpP_val (rn_fld fd43_1 rfl) rfl ?_); refine ⟨fun _ _ => ⟨hS.sat, trivial⟩, ?_⟩; refine WD_opY rfl rfl rfl hb67 rfl rfl (OpP_val (rn_load na3 rfl (hS.sat.cell (hcb69 1 _ rfl))) rfl ?_); refine ⟨fun _ _ => ⟨hS.sat, trivial⟩, ?_⟩; refine WD_opY rfl rfl rfl hb67 rfl rfl (OpP_val (rn_gtr rfl rfl) rfl ?_)
          refine ⟨fun _ h => noneed (by kernel_rfl) h, ?_⟩
          refine WD_op rfl rfl (OpP_val (rn_pickF (v := (.bool (decide (y65.High < y63)))) rfl hb67 rfl) rfl ?_)
          refine ⟨fun _ h => noneed (by kernel_rfl) h, ?_⟩
          refine WD_nil ?_
          have hO : Owns G60 w59.drew w0.heap.size ([]) := hO
          have H := Option.some.inj H; subst H
          exact ⟨_, G60, upds_self _ _ ⟨rfl, rfl, rfl, rfl, rfl, rfl, trivial⟩, Gle.refl _, hS, hO⟩
        ·rintro F w70 ⟨Fb, G71, rfl, leG71, hS, hO⟩
         refine WC_cond rfl (fun hb72 => ?_) (fun hb72 => ?_)
         ·have H := ifT hb72 H; refine WC_seq ?_; refine WC_region ?_; refine WL_val (rn_assign (v := (.bool false)) rfl) rfl ?_; refine WL_nil ?_; refine WC_ret ?_; have H := Option.some.inj H; subst H
          have hres := hqq57 _ rfl
          subst hres; have H := Hoq57
          have H : some false = some r := H
          have H := Option.some.inj H; subst H
          exact ⟨rfl, hS.below⟩
         ·have H := ifF hb72 H; refine WC_skip ?_; refine WC_region ?_; refine WL_val (rn_move (v := (.int .i64 s55)) rfl) rfl ?_; refine WL_val (rn_add rfl rfl) rfl ?_; refine WL_val (rn_assign (v := (.int .i64 (IntKind.i64.wrap (s55 + 1)))) rfl) rfl ?_; refine WL_nil ?_
          have hO : Owns G71 w70 w0.heap.size ([]) := hO
          have H := Option.some.inj H; subst H; refine ⟨_, rfl, ?_⟩
          have l6_8 := leG60.trans leG71
          exact ⟨_, G71, upds_self _ _ ⟨rfl, rfl, rfl, rfl, rfl, trivial⟩, l6_8, hS, hO⟩
       ·have H := ifF hb61 H; refine WC_exit rfl ?_
        have hO : Owns G60 w59 w0.heap.size ([]) := hO
        have H := Option.some.inj H; subst H
        have hres := hqq57 _ rfl
        subst hres
        exact ⟨_, _, G60, rfl, upds_self _ _ ⟨rfl, rfl, trivial⟩, leG60, hS, hO⟩
     ·rintro F w73 ⟨p56, Fb, G74, rfl, rfl, leG74, hS, hO⟩
      refine WC_seq ?_; refine WC_seq ?_; refine WC_region ?_; refine WL_val (rn_assign (v := (.int .i64 0)) rfl) rfl ?_; refine WL_nil ?_; obtain ⟨q77, hq77, H⟩ := bnd H; refine WC_cut (fun F w => ∃ (p76 : Unit) (Fb : Fr) (G : Gm), q77 = .inl p76 ∧ F = upds Fb [] ∧ Gle G74 G ∧ Since w0.heap.size G0 w0 G w ∧ Owns G w w0.heap.size []) ?_ ?_
      ·refine WC_block (WC_loop hq77 (fun s75 F w => ∃ (Fb : Fr) (G : Gm), F = upds Fb [(3, .pointer (some ⟨b4, 0, none⟩)), (11, .slice a41 n41 c41), (14, .int .i64 s75)] ∧ Gle G74 G ∧ Since w0.heap.size G0 w0 G w ∧ Owns G w w0.heap.size []) ?_ ?_)
       ·have hO : Owns G74 w73 w0.heap.size ([]) := hO
        exact ⟨_, G74, upds_self _ _ ⟨rfl, rfl, rfl, trivial⟩, Gle.refl _, hS, hO⟩
       ·rintro s75 F w79 t78 ⟨Fb, G80, rfl, leG80, hS, hO⟩
        intro H1 hqq77
        have Hoq77 := H; have H := H1
        unfold f15_b1 at H
        refine WC_seq ?_; refine WC_seq ?_; refine WC_region ?_; refine WL_val (rn_move (v := (.int .i64 s75)) rfl) rfl ?_; refine WL_val (rn_move (v := (.slice a41 n41 c41)) rfl) rfl ?_
        have l6_8 := leG74.trans leG80
        refine WL_val (rn_len sl25 rfl rfl (h41.mono RInt_mono l6_8).1) rfl ?_; refine WL_val (rn_lss rfl rfl) rfl ?_; refine WL_nil ?_; refine WC_cond rfl (fun hb81 => ?_) (fun hb81 => ?_)
        ·have H := ifT hb81 H; refine WC_skip ?_; refine WC_seq ?_; refine WC_block ?_; refine WC_seq ?_; refine WC_seq ?_; have hS := hS.keep (below_drew _); have hO := hO.below (below_drew _)
         refine WC_regionD mixedO (fun _ w => Sat G80 w ∧ True) (.fl 0 (.fl 1 (.on 2 (.on 3 (.on 4 (.on 5 (.on 6 .nil))))))) (by kernel_rfl) rfl (by kernel_rfl) (fun _ => ⟨hS.sat, trivial⟩) ?_
         refine WD_val rfl (fun w hw => rn_loadA ag24 (cs := [.slice a1 n1 c1, .int .i64 x0.Limit]) rfl rfl (fun j v hj => (hw.1.le ((l1_5.trans leG40).trans l6_8)).cell (hcb4.drop_take 0 2 j v hj))) rfl ?_; refine WD_val rfl (fun w hw => rn_move (v := (.slice a41 n41 c41)) rfl) rfl ?_; refine WD_op rfl rfl (OpP_val (rn_move (v := (.int .i64 s75)) rfl) rfl ?_); refine ⟨fun _ _ => ⟨hS.sat, trivial⟩, ?_⟩; obtain ⟨y82, hy82, H⟩ := bnd H; refine WD_op rfl rfl (OpP_idx sl25 (h41.mono RInt_mono l6_8) hy82 rfl rfl rfl ?_)
         rintro b83 o83 _ hcb83 _ ⟨⟩
         refine ⟨fun _ _ => ⟨hS.sat, trivial⟩, ?_⟩; refine WD_op rfl rfl (OpP_val (rn_load na3 rfl (hS.sat.cell (hcb83 0 _ rfl))) rfl ?_); refine ⟨fun _ _ => ⟨hS.sat, trivial⟩, ?_⟩; obtain ⟨y84, hy84, H⟩ := bnd H
         have l0_8 := (l0_5.trans leG40).trans l6_8
         refine WD_op rfl rfl (OpP_callV cb48 (f48_ok (x0 := x0) (x1 := y82) hS.sat (h1.mono RTBaneFish_mono l0_8) hy84) rfl rfl (fun w85 hb => ?_)); have hS := hS.keep hb; have hO := hO.below hb
         refine ⟨fun _ h => noneed (by kernel_rfl) h, ?_⟩
         refine WD_op rfl rfl (OpP_val (rn_not rfl) rfl ?_)
         refine ⟨fun _ h => noneed (by kernel_rfl) h, ?_⟩
         refine WD_nil ?_; refine WC_cond rfl (fun hb86 => ?_) (fun hb86 => ?_)
         ·have H := ifT hb86 H; refine WC_seq ?_; refine WC_region ?_; refine WL_val (rn_assign (v := (.bool false)) rfl) rfl ?_; refine WL_nil ?_; refine WC_ret ?_; have H := Option.some.inj H; subst H
          have hres := hqq77 _ rfl
          subst hres; have H := Hoq77
          have H : some false = some r := H
          have H := Option.some.inj H; subst H
          exact ⟨rfl, hS.below⟩
         ·have H := ifF hb86 H; refine WC_skip ?_; refine WC_seq ?_; have hS := hS.keep (below_drew _); have hO := hO.below (below_drew _)
          refine WC_regionD mixedO (fun _ w => Sat G80 w ∧ True) (.fl 0 (.fl 1 (.fl 2 (.on 3 (.on 4 (.on 5 (.on 6 (.on 7 (.on 8 (.on 9 .nil)))))))))) (by kernel_rfl) rfl (by kernel_rfl) (fun _ => ⟨hS.sat, trivial⟩) ?_
          refine WD_val rfl (fun w hw => rn_fld fd24_0 rfl) rfl ?_; refine WD_val rfl (fun w hw => rn_load na22 rfl ((hw.1.le ((l1_5.trans leG40).trans l6_8)).cell (hcb4 0 _ rfl))) rfl ?_; refine WD_val rfl (fun w hw => rn_move (v := (.slice a41 n41 c41)) rfl) rfl ?_; refine WD_op rfl rfl (OpP_val (rn_move (v := (.int .i64 s75)) rfl) rfl ?_); refine ⟨fun _ _ => ⟨hS.sat, trivial⟩, ?_⟩; refine WD_op rfl rfl (OpP_idx sl25 (h41.mono RInt_mono l6_8) hy82 rfl rfl rfl ?_)
          rintro b87 o87 _ hcb87 _ ⟨⟩
          refine ⟨fun _ _ => ⟨hS.sat, trivial⟩, ?_⟩; refine WD_op rfl rfl (OpP_val (rn_load na3 rfl (hS.sat.cell (hcb87 0 _ rfl))) rfl ?_); refine ⟨fun _ _ => ⟨hS.sat, trivial⟩, ?_⟩; obtain ⟨y88, hy88, H⟩ := bnd H; refine WD_op rfl rfl (OpP_idx sl22 (h1.mono RTBaneFish_mono l0_8) hy88 rfl rfl rfl ?_)
          rintro b89 o89 _ hcb89 _ ⟨a90, n90, c90, ⟨⟩, h90⟩
          refine ⟨fun _ h => noneed (by kernel_rfl) h, ?_⟩
          refine WD_op rfl rfl (OpP_val (rn_fld fd72_1 rfl) rfl ?_)
          refine ⟨fun _ h => noneed (by kernel_rfl) h, ?_⟩
          refine WD_op rfl rfl (OpP_val (rn_load na70 rfl (hS.sat.cell (hcb89 2 _ rfl))) rfl ?_)
          refine ⟨fun _ h => noneed (by kernel_rfl) h, ?_⟩
          refine WD_op rfl rfl (OpP_val (rn_assign (v := (.slice a90 n90 c90)) rfl) rfl ?_)
          refine ⟨fun _ h => noneed (by kernel_rfl) h, ?_⟩
          refine WD_nil ?_; refine WC_seq ?_; refine WC_seq ?_; refine WC_region ?_; refine WL_val (rn_move (v := (.int .i64 s75)) rfl) rfl ?_; refine WL_val (rn_move (v := (.slice a41 n41 c41)) rfl) rfl ?_; refine WL_val (rn_len sl25 rfl rfl (h41.mono RInt_mono l6_8).1) rfl ?_; refine WL_val (rn_sub rfl rfl) rfl ?_; refine WL_val (rn_eql rfl rfl) rfl ?_; refine WL_nil ?_; refine WC_cond rfl (fun hb91 => ?_) (fun hb91 => ?_)
          ·have H := ifT hb91 H; refine WC_seq ?_; obtain ⟨q92, hq92, H⟩ := bnd H; refine WC_cut (fun F w => ∃ (Fb : Fr) (G : Gm), F = upds Fb [(6, .bool q92)] ∧ Gle G80 G ∧ Since w0.heap.size G0 w0 G w ∧ Owns G w w0.heap.size []) ?_ ?_
           ·have Hoq92 := H; have H := hq92; refine WC_region ?_; refine WL_val (rn_move (v := (.slice a90 n90 c90)) rfl) rfl ?_; refine WL_val (rn_len sl70 rfl rfl h90.1) rfl ?_; refine WL_val (rn_eql rfl rfl) rfl ?_; refine WL_val (rn_move (v := (.bool ((y88.Bites.length : Int) == 0))) rfl) rfl ?_
            rcases bcases ((y88.Bites.length : Int) == 0) with hb93 | hb93
            ·have H := ifT hb93 H; refine WL_guardY rfl hb93 rfl rfl ?_; obtain ⟨y94, hy94, H⟩ := bnd H; refine WL_op rfl (OpP_callV cb19 (f19_ok  hS.sat  hy94) rfl rfl (fun w95 hb => ?_)); have hS := hS.keep hb; have hO := hO.below hb; refine WL_val (rn_pickT (v := (.bool y94)) rfl hb93 rfl) rfl ?_; refine WL_val (rn_assign (v := (.bool y94)) rfl) rfl ?_; refine WL_nil ?_
             have hO : Owns G80 w95 w0.heap.size ([]) := hO
             have H := Option.some.inj H; subst H
             exact ⟨_, G80, upds_self _ _ ⟨rfl, trivial⟩, Gle.refl _, hS, hO⟩
            ·have H := ifF hb93 H; refine WL_guardN rfl hb93 rfl rfl rfl ?_; refine WL_val (rn_pickF (v := (.bool false)) rfl hb93 rfl) rfl ?_; refine WL_val (rn_assign (v := (.bool false)) rfl) rfl ?_; refine WL_nil ?_
             have hO : Owns G80 w85.drew w0.heap.size ([]) := hO
             have H := Option.some.inj H; subst H
             exact ⟨_, G80, upds_self _ _ ⟨rfl, trivial⟩, Gle.refl _, hS, hO⟩
           ·rintro F w96 ⟨Fb, G97, rfl, leG97, hS, hO⟩
            refine WC_ret ?_; have H := Option.some.inj H; subst H
            have hres := hqq77 _ rfl
            subst hres; have H := Hoq77
            have H : some q92 = some r := H
            have H := Option.some.inj H; subst H
            exact ⟨rfl, hS.below⟩
          ·have H := ifF hb91 H; refine WC_skip ?_; refine WC_seq ?_; refine WC_region ?_; refine WL_val (rn_assign (v := (.bool false)) rfl) rfl ?_; refine WL_nil ?_; refine WC_seq ?_; refine WC_seq ?_; refine WC_region ?_; refine WL_val (rn_assign (v := (.int .i64 0)) rfl) rfl ?_; refine WL_nil ?_; obtain ⟨q100, hq100, H⟩ := bnd H; refine WC_cut (fun F w => ∃ (Fb : Fr) (G : Gm), F = upds Fb [(3, .pointer (some ⟨b4, 0, none⟩)), (11, .slice a41 n41 c41), (14, .int .i64 s75), (16, .bool q100)] ∧ Gle G80 G ∧ Since w0.heap.size G0 w0 G w ∧ Owns G w w0.heap.size []) ?_ ?_
           ·refine WC_block (WC_loop hq100 (fun s98 F w => ∃ (Fb : Fr) (G : Gm), F = upds Fb [(3, .pointer (some ⟨b4, 0, none⟩)), (11, .slice a41 n41 c41), (14, .int .i64 s75), (15, .slice a90 n90 c90), (16, .bool s98.1), (17, .int .i64 s98.2)] ∧ Gle G80 G ∧ Since w0.heap.size G0 w0 G w ∧ Owns G w w0.heap.size []) ?_ ?_)
            ·have hO : Owns G80 w85.drew w0.heap.size ([]) := hO
             exact ⟨_, G80, upds_self _ _ ⟨rfl, rfl, rfl, rfl, rfl, rfl, trivial⟩, Gle.refl _, hS, hO⟩
            ·rintro s98 F w102 t101 ⟨Fb, G103, rfl, leG103, hS, hO⟩
             intro H1 hqq100
             have Hoq100 := H; have H := H1
             unfold f15_b2 at H
             refine WC_seq ?_; refine WC_seq ?_; refine WC_region ?_; refine WL_val (rn_move (v := (.int .i64 s98.2)) rfl) rfl ?_; refine WL_val (rn_move (v := (.slice a90 n90 c90)) rfl) rfl ?_; refine WL_val (rn_len sl70 rfl rfl (h90.mono RTBaneBite_mono leG103).1) rfl ?_; refine WL_val (rn_lss rfl rfl) rfl ?_; refine WL_nil ?_; refine WC_cond rfl (fun hb104 => ?_) (fun hb104 => ?_)
             ·have H := ifT hb104 H; refine WC_skip ?_; refine WC_seq ?_; obtain ⟨q105, hq105, H⟩ := bnd H; refine WC_cut (fun F w => ∃ (Fb : Fr) (G : Gm), F = upds Fb [(3, .pointer (some ⟨b4, 0, none⟩)), (11, .slice a41 n41 c41), (14, .int .i64 s75), (15, .slice a90 n90 c90), (16, .bool q105), (17, .int .i64 s98.2)] ∧ Gle G103 G ∧ Since w0.heap.size G0 w0 G w ∧ Owns G w w0.heap.size []) ?_ ?_
              ·have Hoq105 := H; have H := hq105; refine WC_block ?_; have hS := hS.keep (below_drew _); have hO := hO.below (below_drew _)
               refine WC_regionD mixedO (fun _ w => Sat G103 w ∧ True) (.on 0 (.on 1 (.fl 2 (.fl 3 (.fl 4 (.fl 5 (.fl 6 (.fl 7 (.on 8 (.on 9 (.on 10 (.on 11 (.on 12 (.on 13 (.on 14 .nil))))))))))))))) (by kernel_rfl) rfl (by kernel_rfl) (fun _ => ⟨hS.sat, trivial⟩) ?_
               refine WD_op rfl rfl (OpP_val (rn_move (v := (.bool s98.1)) rfl) rfl ?_); refine ⟨fun _ _ => ⟨hS.sat, trivial⟩, ?_⟩; refine WD_op rfl rfl (OpP_val (rn_move (v := (.bool s98.1)) rfl) rfl ?_); refine ⟨fun _ _ => ⟨hS.sat, trivial⟩, ?_⟩
               rcases bcases s98.1 with hb106 | hb106
               ·have H := ifT hb106 H; refine WD_skip rfl rfl hb106 rfl rfl rfl ?_; refine WD_skip rfl rfl hb106 rfl rfl rfl ?_; refine WD_skip rfl rfl hb106 rfl rfl rfl ?_; refine WD_skip rfl rfl hb106 rfl rfl rfl ?_; refine WD_skip rfl rfl hb106 rfl rfl rfl ?_; refine WD_skip rfl rfl hb106 rfl rfl rfl ?_; refine WD_skipS rfl rfl hb106 rfl rfl rfl (fun _ _ => ⟨hS.sat, trivial⟩) ?_; refine WD_skipS rfl rfl hb106 rfl rfl rfl (fun _ _ => ⟨hS.sat, trivial⟩) ?_; refine WD_skipS rfl rfl hb106 rfl rfl rfl (fun _ _ => ⟨hS.sat, trivial⟩) ?_; refine WD_skipS rfl rfl hb106 rfl rfl rfl (fun _ _ => ⟨hS.sat, trivial⟩) ?_
                refine WD_skipS rfl rfl hb106 rfl rfl rfl (fun _ h => noneed (by kernel_rfl) h) ?_
                refine WD_op rfl rfl (OpP_val (rn_pickT (v := (.bool true)) rfl hb106 rfl) rfl ?_)
                refine ⟨fun _ h => noneed (by kernel_rfl) h, ?_⟩
                refine WD_op rfl rfl (OpP_val (rn_assign (v := (.bool true)) rfl) rfl ?_)
                refine ⟨fun _ h => noneed (by kernel_rfl) h, ?_⟩
                refine WD_nil ?_
                have hO : Owns G103 w102.drew w0.heap.size ([]) := hO
                have H := Option.some.inj H; subst H
                exact ⟨_, G103, upds_self _ _ ⟨rfl, rfl, rfl, rfl, rfl, rfl, trivial⟩, Gle.refl _, hS, hO⟩
               ·have H := ifF hb106 H; refine WD_valY rfl rfl hb106 rfl rfl (fun w hw => rn_move (v := (.slice a90 n90 c90)) rfl) rfl ?_; refine WD_valY rfl rfl hb106 rfl rfl (fun w hw => rn_move (v := (.int .i64 s98.2)) rfl) rfl ?_; obtain ⟨y107, hy107, H⟩ := bnd H; refine WD_idxY rfl rfl hb106 rfl rfl sl70 (h90.mono RTBaneBite_mono leG103) hy107 rfl rfl rfl ?_
                rintro b108 o108 _ hcb108 _ ⟨⟩
                refine WD_valY rfl rfl hb106 rfl rfl (fun w hw => rn_fld fd77_0 rfl) rfl ?_; refine WD_valY rfl rfl hb106 rfl rfl (fun w hw => rn_load na3 rfl (hw.1.cell (hcb108 0 _ rfl))) rfl ?_; refine WD_valY rfl rfl hb106 rfl rfl (fun w hw => rn_move (v := (.slice a41 n41 c41)) rfl) rfl ?_; refine WD_opY rfl rfl rfl hb106 rfl rfl (OpP_val (rn_move (v := (.int .i64 s75)) rfl) rfl ?_); refine ⟨fun _ _ => ⟨hS.sat, trivial⟩, ?_⟩; refine WD_opY rfl rfl rfl hb106 rfl rfl (OpP_val (rn_add rfl rfl) rfl ?_); refine ⟨fun _ _ => ⟨hS.sat, trivial⟩, ?_⟩; obtain ⟨y109, hy109, H⟩ := bnd H
                have l6_9 := l6_8.trans leG103
                refine WD_opY rfl rfl rfl hb106 rfl rfl (OpP_idx sl25 (h41.mono RInt_mono l6_9) hy109 rfl rfl rfl ?_)
                rintro b110 o110 _ hcb110 _ ⟨⟩
                refine ⟨fun _ _ => ⟨hS.sat, trivial⟩, ?_⟩; refine WD_opY rfl rfl rfl hb106 rfl rfl (OpP_val (rn_load na3 rfl (hS.sat.cell (hcb110 0 _ rfl))) rfl ?_); refine ⟨fun _ _ => ⟨hS.sat, trivial⟩, ?_⟩; refine WD_opY rfl rfl rfl hb106 rfl rfl (OpP_val (rn_eql rfl rfl) rfl ?_)
                refine ⟨fun _ h => noneed (by kernel_rfl) h, ?_⟩
                refine WD_op rfl rfl (OpP_val (rn_pickF (v := (.bool (y107.Prey == y109))) rfl hb106 rfl) rfl ?_)
                refine ⟨fun _ h => noneed (by kernel_rfl) h, ?_⟩
                refine WD_op rfl rfl (OpP_val (rn_assign (v := (.bool (y107.Prey == y109))) rfl) rfl ?_)
                refine ⟨fun _ h => noneed (by kernel_rfl) h, ?_⟩
                refine WD_nil ?_
                have hO : Owns G103 w102.drew w0.heap.size ([]) := hO
                have H := Option.some.inj H; subst H
                exact ⟨_, G103, upds_self _ _ ⟨rfl, rfl, rfl, rfl, rfl, rfl, trivial⟩, Gle.refl _, hS, hO⟩
              ·rintro F w111 ⟨Fb, G112, rfl, leG112, hS, hO⟩
               refine WC_region ?_; refine WL_val (rn_move (v := (.int .i64 s98.2)) rfl) rfl ?_; refine WL_val (rn_add rfl rfl) rfl ?_; refine WL_val (rn_assign (v := (.int .i64 (IntKind.i64.wrap (s98.2 + 1)))) rfl) rfl ?_; refine WL_nil ?_
               have hO : Owns G112 w111 w0.heap.size ([]) := hO
               have H := Option.some.inj H; subst H; refine ⟨_, rfl, ?_⟩
               have l8_10 := leG103.trans leG112
               exact ⟨_, G112, upds_self _ _ ⟨rfl, rfl, rfl, rfl, rfl, rfl, trivial⟩, l8_10, hS, hO⟩
             ·have H := ifF hb104 H; refine WC_exit rfl ?_
              have hO : Owns G103 w102 w0.heap.size ([]) := hO
              have H := Option.some.inj H; subst H
              have hres := hqq100 _ rfl
              subst hres
              exact ⟨_, G103, upds_self _ _ ⟨rfl, rfl, rfl, rfl, trivial⟩, leG103, hS, hO⟩
           ·rintro F w113 ⟨Fb, G114, rfl, leG114, hS, hO⟩
            refine WC_seq ?_; refine WC_region ?_; refine WL_val (rn_move (v := (.bool q100)) rfl) rfl ?_; refine WL_val (rn_not rfl) rfl ?_; refine WL_nil ?_; refine WC_cond rfl (fun hb115 => ?_) (fun hb115 => ?_)
            ·have H := ifT hb115 H; refine WC_seq ?_; refine WC_region ?_; refine WL_val (rn_assign (v := (.bool false)) rfl) rfl ?_; refine WL_nil ?_; refine WC_ret ?_; have H := Option.some.inj H; subst H
             have hres := hqq77 _ rfl
             subst hres; have H := Hoq77
             have H : some false = some r := H
             have H := Option.some.inj H; subst H
             exact ⟨rfl, hS.below⟩
            ·have H := ifF hb115 H; refine WC_skip ?_; refine WC_region ?_; refine WL_val (rn_move (v := (.int .i64 s75)) rfl) rfl ?_; refine WL_val (rn_add rfl rfl) rfl ?_; refine WL_val (rn_assign (v := (.int .i64 (IntKind.i64.wrap (s75 + 1)))) rfl) rfl ?_; refine WL_nil ?_
             have hO : Owns G114 w113 w0.heap.size ([]) := hO
             have H := Option.some.inj H; subst H; refine ⟨_, rfl, ?_⟩
             have l7_9 := leG80.trans leG114
             exact ⟨_, G114, upds_self _ _ ⟨rfl, rfl, rfl, trivial⟩, l7_9, hS, hO⟩
        ·have H := ifF hb81 H; refine WC_exit rfl ?_
         have hO : Owns G80 w79 w0.heap.size ([]) := hO
         have H := Option.some.inj H; subst H
         have hres := hqq77 _ rfl
         subst hres
         exact ⟨_, _, G80, rfl, rfl, leG80, hS, hO⟩
      ·rintro F w116 ⟨p76, Fb, G117, rfl, rfl, leG117, hS, hO⟩
       refine WC_seq ?_; refine WC_region ?_; refine WL_val (rn_assign (v := (.bool false)) rfl) rfl ?_; refine WL_nil ?_; refine WC_ret ?_
       have H : some false = some r := H
       have H := Option.some.inj H; subst H
       exact ⟨rfl, hS.below⟩
end Go.Proofs.Ytgplafckddpnkaa
