/-
  The walks: each Go function computes its plain function (printed by a program of ours).
-/
import Derived.Test.YtcaflmilfhhikaaDoorAl
import Derived.Test.YtcaflmilfhhikaaDoorRd
import Derived.Test.YtcaflmilfhhikaaDoorBaseQ
import Derived.Test.YtcaflmilfhhikaaDoorIt
import Derived.Test.YtcaflmilfhhikaaDoorLib
import Derived.Test.YtcaflmilfhhikaaDoorBu
import Derived.Test.YtcaflmilfhhikaaDoorP13W3
namespace Go.Proofs.YtcaflmilfhhikaaDoor
open Go.RowKit
set_option linter.unusedVariables false

set_option maxRecDepth 20000
set_option linter.unusedVariables false
set_option maxHeartbeats 1000000 in
theorem f37_ok {G0 : Gm} {w0 : World} (hS0 : Sat G0 w0) {x0 : TLandBook} {a1 : Option Addr} {n1 c1 : Nat} {a2 : Option Addr} {n2 c2 : Nat} {a3 : Option Addr} {n3 c3 : Nat} {x1 : Int} (h1 : RSl RTLandPerson 2 G0 a1 n1 c1 x0.People) (h2 : RSl RTLandEvent 2 G0 a2 n2 c2 x0.Events) (h3 : RSl RTLandMemory 4 G0 a3 n3 c3 x0.Memories) {r : (List Int) × Int} (H : f37 x0 x1 = some r) :
  Calls Tryd.prog 37 #[.agg #[.slice a1 n1 c1, .slice a2 n2 c2, .slice a3 n3 c3], .int .i64 x1] w0 (RetG G0 w0 (fun G v => ∃ (ra0 : Option Addr) (rn0 rc0 : Nat), v = .tuple #[.slice ra0 rn0 rc0, .int .i64 r.2] ∧ RSl RInt 1 G ra0 rn0 rc0 r.1)) := by
 have hS := Since.start hS0
 have hO : Owns G0 w0 w0.heap.size [] := Owns.nil (Nat.le_refl _)
 unfold f37 at H
 refine enter2 (N := 39) (shutG _ _ _) Tryd.func37 rfl rfl rfl rfl ?_; refine zS ?_; refine zO rfl (zW (v := fun b => .pointer (some ⟨b, 0, none⟩)) (cs := [.slice a1 n1 c1, .slice a2 n2 c2, .slice a3 n3 c3]) (e := 26) (rn_boxA rfl) hS.sat rfl (fun b4 G6 w5 hg hcb4 => ?_)); have hS := hS.grow hg; have hO := hO.grow hg
 have leG6 := hg.le
 refine zV (zA (v := (.slice none 0 0)) rfl) rfl ?_; refine zV (zA (v := (.int .i64 0)) rfl) rfl ?_; refine zN ?_; refine zQ ?_; refine zQ ?_; obtain ⟨q7, hq7, H⟩ := bnd H; refine zM (fun F w => ∃ (Fb : Fr) (G : Gm), F = upds Fb [(1, .int .i64 x1), (2, .pointer (some ⟨b4, 0, none⟩)), (20, .bool q7)] ∧ Gle G6 G ∧ Since w0.heap.size G0 w0 G w ∧ Owns G w w0.heap.size []) ?_ ?_
 ·have Hoq7 := H; have H := hq7; refine zR ?_; refine zV (rn_loadA ag26 (cs := [.slice a1 n1 c1, .slice a2 n2 c2, .slice a3 n3 c3]) rfl rfl (fun j v hj => hS.sat.cell (hcb4.drop_take 0 3 j v hj))) rfl ?_; obtain ⟨y8, hy8, H⟩ := bnd H; refine zO rfl (zC cb51 (f51_ok (x0 := x0) hS.sat (h1.mono RTLandPerson_mono leG6) (h2.mono RTLandEvent_mono leG6) (h3.mono RTLandMemory_mono leG6) hy8) rfl rfl (fun w9 hb => ?_)); have hS := hS.keep hb; have hO := hO.below hb; refine zV (rn_not rfl) rfl ?_; refine zV (zm (v := (.bool (!y8))) rfl) rfl ?_
  rcases bcases (!y8) with hb10 | hb10
  ·have H := ifT hb10 H; refine zG rfl hb10 rfl rfl rfl ?_; refine zG rfl hb10 rfl rfl rfl ?_; refine zG rfl hb10 rfl rfl rfl ?_; refine zG rfl hb10 rfl rfl rfl ?_; refine zG rfl hb10 rfl rfl rfl ?_; refine zG rfl hb10 rfl rfl rfl ?_; refine zG rfl hb10 rfl rfl rfl ?_; refine zV (rn_pickT (v := (.bool true)) rfl hb10 rfl) rfl ?_; refine zN ?_
   have hO : Owns G6 w9 w0.heap.size ([]) := hO
   have H := oi H; subst H
   exact ⟨_, G6, upds_self _ _ ⟨rfl, rfl, rfl, trivial⟩, Gle.refl _, hS, hO⟩
  ·have H := ifF hb10 H; refine zY rfl hb10 rfl rfl ?_; refine zV (zm (v := (.int .i64 x1)) rfl) rfl ?_; refine zY rfl hb10 rfl rfl ?_; refine zV (zF fd26_0 rfl) rfl ?_; refine zY rfl hb10 rfl rfl ?_; refine zV (zL na22 rfl (hS.sat.cell (hcb4 0 _ rfl))) rfl ?_; refine zY rfl hb10 rfl rfl ?_; refine zV (rn_len sl22 rfl rfl (h1.mono RTLandPerson_mono leG6).1) rfl ?_; refine zY rfl hb10 rfl rfl ?_; refine zV (rn_sub rfl rfl) rfl ?_; refine zY rfl hb10 rfl rfl ?_; obtain ⟨y11, hy11, H⟩ := bnd H; refine zO rfl (zC cb66 (f66_ok (x0 := x1) (x1 := 0) (x2 := IntKind.i64.wrap ((x0.People.length : Int) - 1)) hS.sat  hy11) rfl rfl (fun w12 hb => ?_)); have hS := hS.keep hb; have hO := hO.below hb; refine zY rfl hb10 rfl rfl ?_; refine zV (rn_not rfl) rfl ?_; refine zV (rn_pickF (v := (.bool (!y11))) rfl hb10 rfl) rfl ?_; refine zN ?_
   have hO : Owns G6 w12 w0.heap.size ([]) := hO
   have H := oi H; subst H
   exact ⟨_, G6, upds_self _ _ ⟨rfl, rfl, rfl, trivial⟩, Gle.refl _, hS, hO⟩
 ·rintro F w13 ⟨Fb, G14, rfl, leG14, hS, hO⟩
  refine zT rfl (fun hb15 => ?_) (fun hb15 => ?_)
  ·have H := ifT hb15 H; refine zS ?_; refine zV (zA (v := (.slice none 0 0)) rfl) rfl ?_; refine zV (zA (v := (.int .i64 2)) rfl) rfl ?_; refine zN ?_; refine WC_ret ?_
   have H : some ([], 2) = some r := H
   have H := oi H; subst H
   exact ⟨_, _, rfl, hS.toGrow, _, _, _, rfl, (RSl.nil RInt 1 G14 none)⟩
  ·have H := ifF hb15 H; refine zP ?_; refine zS ?_; refine zV (rn_loadA ag26 (cs := [.slice a1 n1 c1, .slice a2 n2 c2, .slice a3 n3 c3]) rfl rfl (fun j v hj => (hS.sat.le leG14).cell (hcb4.drop_take 0 3 j v hj))) rfl ?_; refine zO rfl (OpP_in1 (N' := 7) [.agg #[.slice a1 n1 c1, .slice a2 n2 c2, .slice a3 n3 c3]] cb52 Tryd.func52 rfl rfl rfl rfl rfl rfl ?_); refine zS ?_; refine zO rfl (zW (v := fun b => .pointer (some ⟨b, 0, none⟩)) (cs := [.slice a1 n1 c1, .slice a2 n2 c2, .slice a3 n3 c3]) (e := 26) (rn_boxA rfl) hS.sat rfl (fun b16 G18 w17 hg hcb16 => ?_)); have hS := hS.grow hg; have hO := hO.grow hg
   have leG18 := hg.le
   refine zV (zA (v := (.pointer none)) rfl) rfl ?_; refine zN ?_; refine zS ?_; refine zV (rn_loadA ag26 (cs := [.slice a1 n1 c1, .slice a2 n2 c2, .slice a3 n3 c3]) rfl rfl (fun j v hj => hS.sat.cell (hcb16.drop_take 0 3 j v hj))) rfl ?_; refine zO rfl (OpP_makeMap (e := 77) hS hO rfl (fun r19 w20 hS hO => ?_))
   have hO : Owns G18 w20 w0.heap.size ([⟨77, 2, ([] : (List (Int × Bool))).length, .map (some r19), kvs kvI vvB ([] : (List (Int × Bool)))⟩]) := hO
   refine zV (v := (.agg #[.slice a1 n1 c1, .slice a2 n2 c2, .slice a3 n3 c3, .map (some r19)])) (by kernel_rfl) rfl ?_
   refine zO rfl (zW (v := fun b => .pointer (some ⟨b, 0, none⟩)) (cs := [.slice a1 n1 c1, .slice a2 n2 c2, .slice a3 n3 c3, .map (some r19)]) (e := 107) (rn_boxA rfl) hS.sat rfl (fun b22 G24 w23 hg hcb22 => ?_)); have hS := hS.grow hg; have hO := hO.grow hg
   have leG24 := hg.le
   refine zV (zA (v := (.pointer (some ⟨b22, 0, none⟩))) rfl) rfl ?_; refine zN ?_; refine WC_ret ?_; refine ⟨(.pointer (some ⟨b22, 0, none⟩)), rfl, ?_⟩
   have hO : Owns G24 w23 w0.heap.size ([⟨77, 2, ([] : (List (Int × Bool))).length, .map (some r19), kvs kvI vvB ([] : (List (Int × Bool)))⟩]) := hO
   refine zV (zA (v := (.pointer (some ⟨b22, 0, none⟩))) rfl) rfl ?_; refine zN ?_; refine zS ?_; refine zV (zA (v := (.slice none 0 0)) rfl) rfl ?_; refine zN ?_; refine zQ ?_; refine zS ?_; refine zV (zF fd26_0 rfl) rfl ?_
   have l1_4 := (leG14.trans leG18).trans leG24
   refine zV (zL na22 rfl ((hS.sat.le l1_4).cell (hcb4 0 _ rfl))) rfl ?_
   have l0_4 := leG6.trans l1_4
   refine zV (rn_len sl22 rfl rfl (h1.mono RTLandPerson_mono l0_4).1) rfl ?_; refine zV (zm (v := (.int .i64 0)) rfl) rfl ?_; refine zN ?_; have hO := hO.cons_nil 3 1; obtain ⟨q28, hq28, H⟩ := bnd H; refine zM (fun F w => ∃ (Fb : Fr) (G : Gm) (aq28_0 : Option Addr) (nq28_0 cq28_0 : Nat) (claq28_0 : List Value), F = upds Fb [(7, .slice aq28_0 nq28_0 cq28_0)] ∧ Gle G24 G ∧ Since w0.heap.size G0 w0 G w ∧ Owns G w w0.heap.size [⟨3, 1, nq28_0, .slice aq28_0 nq28_0 cq28_0, claq28_0⟩, ⟨77, 2, (q28.2).length, .map (some r19), kvs kvI vvB (q28.2)⟩] ∧ nq28_0 = q28.1.length ∧ Rd RInt 1 G claq28_0 q28.1) ?_ ?_
   ·refine WC_block (WC_loop hq28 (fun s26 F w => ∃ (Fb : Fr) (G : Gm) (as26_0 : Option Addr) (ns26_0 cs26_0 : Nat) (clas26_0 : List Value), F = upds Fb [(1, .int .i64 x1), (6, .pointer (some ⟨b22, 0, none⟩)), (7, .slice as26_0 ns26_0 cs26_0), (25, .int .i64 (x0.People.length : Int)), (26, .int .i64 s26.2.1)] ∧ Gle G24 G ∧ Since w0.heap.size G0 w0 G w ∧ Owns G w w0.heap.size [⟨3, 1, ns26_0, .slice as26_0 ns26_0 cs26_0, clas26_0⟩, ⟨77, 2, (s26.2.2).length, .map (some r19), kvs kvI vvB (s26.2.2)⟩] ∧ ns26_0 = s26.1.length ∧ Rd RInt 1 G clas26_0 s26.1) ?_ ?_)
    ·have hO : Owns G24 w23 w0.heap.size ([⟨3, 1, 0, .slice none 0 0, []⟩, ⟨77, 2, ([] : (List (Int × Bool))).length, .map (some r19), kvs kvI vvB ([] : (List (Int × Bool)))⟩]) := hO
     exact ⟨_, G24, none, 0, 0, [], upds_self _ _ ⟨rfl, rfl, rfl, rfl, rfl, trivial⟩, Gle.refl _, hS, hO, rfl, (Rd.nil RInt 1 G24)⟩
    ·rintro s26 F w30 t29 ⟨Fb, G31, as26_0, ns26_0, cs26_0, clas26_0, rfl, leG31, hS, hO, hnhs26_0, hs26_0⟩
     intro H1 hqq28
     have Hoq28 := H; have H := H1
     unfold f37_b0 at H
     refine zS ?_; refine zV (rn_lss rfl rfl) rfl ?_; refine zN ?_; refine zQ ?_; refine zT rfl (fun hb32 => ?_) (fun hb32 => ?_)
     ·have H := ifT hb32 H; refine zP ?_; refine zQ ?_; obtain ⟨q33, hq33, H⟩ := bnd H; refine zM (fun F w => ∃ (Fb : Fr) (G : Gm) (aq33_0 : Option Addr) (nq33_0 cq33_0 : Nat) (claq33_0 : List Value), F = upds Fb [(1, .int .i64 x1), (6, .pointer (some ⟨b22, 0, none⟩)), (7, .slice aq33_0 nq33_0 cq33_0), (25, .int .i64 (x0.People.length : Int)), (26, .int .i64 s26.2.1)] ∧ Gle G31 G ∧ Since w0.heap.size G0 w0 G w ∧ Owns G w w0.heap.size [⟨3, 1, nq33_0, .slice aq33_0 nq33_0 cq33_0, claq33_0⟩, ⟨77, 2, (s26.2.2).length, .map (some r19), kvs kvI vvB (s26.2.2)⟩] ∧ nq33_0 = q33.length ∧ Rd RInt 1 G claq33_0 q33) ?_ ?_
      ·have Hoq33 := H; have H := hq33; refine WC_block ?_; refine zS ?_; refine zV (zm (v := (.int .i64 s26.2.1)) rfl) rfl ?_; refine zV (zA (v := (.int .i64 s26.2.1)) rfl) rfl ?_; refine zN ?_; refine zS ?_; refine zV (zm (v := (.pointer (some ⟨b22, 0, none⟩))) rfl) rfl ?_; refine zV (zm (v := (.int .i64 s26.2.1)) rfl) rfl ?_; refine zV (zm (v := (.int .i64 x1)) rfl) rfl ?_
       have l0_5 := l0_4.trans leG31
       obtain ⟨y34, hy34, H⟩ := bnd H
       have hx36 := f73_ok (x0 := x0) (x1 := s26.2.1) (x2 := x1) hS.sat (hcb22.mono leG31) (h1.mono RTLandPerson_mono l0_5) (h2.mono RTLandEvent_mono l0_5) (h3.mono RTLandMemory_mono l0_5) hy34
       refine zO rfl (zC cb73 hx36 rfl rfl (fun w35 hb => ?_)); have hS := hS.keep hb; have hO := hO.below hb; refine zN ?_; refine zT rfl (fun hb37 => ?_) (fun hb37 => ?_)
       ·have H := ifT hb37 H; refine zR ?_; refine zV (zm (v := (.slice as26_0 ns26_0 cs26_0)) rfl) rfl ?_; refine zV (zm (v := (.int .i64 s26.2.1)) rfl) rfl ?_
        refine zO rfl (zW (v := fun b => .slice (some ⟨b, 0, none⟩) 1 1) (cs := [.int .i64 s26.2.1]) (e := 3) (by kernel_rfl) hS.sat rfl (fun b38 G40 w39 hg hcb38 => ?_))
        have hS := hS.grow hg; have hO := hO.grow hg
        have leG40 := hg.le
        have hfb38 : RSl RInt 1 G40 (some ⟨b38, 0, none⟩) 1 1 [s26.2.1] := RSl.of_rd hcb38 (Rd.cons (c := [.int .i64 s26.2.1]) rfl rfl (Rd.nil RInt 1 _)) rfl (by decide)
        obtain ⟨y41, hy41, H⟩ := bnd H; refine zO rfl (OpP_append (k := 0) sl29 RInt_one hS hO rfl hnhs26_0 (hs26_0.mono RInt_mono leG40) hfb38 hy41 rfl rfl rfl rfl rfl (fun aw42 cw42 w42 clw42 hS hO hrw42 => ?_))
        have hO : Owns G40 w42 w0.heap.size ([⟨3, 1, y41.length, .slice aw42 y41.length cw42, clw42⟩, ⟨77, 2, (s26.2.2).length, .map (some r19), kvs kvI vvB (s26.2.2)⟩]) := hO
        refine zV (zA (v := (.slice aw42 y41.length cw42)) rfl) rfl ?_; refine zN ?_
        have hO : Owns G40 w42 w0.heap.size ([⟨3, 1, y41.length, .slice aw42 y41.length cw42, clw42⟩, ⟨77, 2, (s26.2.2).length, .map (some r19), kvs kvI vvB (s26.2.2)⟩]) := hO
        have H := oi H; subst H
        exact ⟨_, G40, aw42, y41.length, cw42, clw42, upds_self _ _ ⟨rfl, rfl, rfl, rfl, rfl, trivial⟩, leG40, hS, hO, rfl, hrw42⟩
       ·have H := ifF hb37 H; refine zP ?_
        have hO : Owns G31 w35 w0.heap.size ([⟨3, 1, ns26_0, .slice as26_0 ns26_0 cs26_0, clas26_0⟩, ⟨77, 2, (s26.2.2).length, .map (some r19), kvs kvI vvB (s26.2.2)⟩]) := hO
        have H := oi H; subst H
        exact ⟨_, G31, as26_0, ns26_0, cs26_0, clas26_0, upds_self _ _ ⟨rfl, rfl, rfl, rfl, rfl, trivial⟩, Gle.refl _, hS, hO, hnhs26_0, hs26_0⟩
      ·rintro F w43 ⟨Fb, G44, aq33_0, nq33_0, cq33_0, claq33_0, rfl, leG44, hS, hO, hnhq33_0, hq33_0⟩
       refine zR ?_; refine zV (rn_add rfl rfl) rfl ?_; refine zV (zm (v := (.int .i64 (IntKind.i64.wrap (s26.2.1 + 1)))) rfl) rfl ?_; refine zN ?_
       have hO : Owns G44 w43 w0.heap.size ([⟨3, 1, nq33_0, .slice aq33_0 nq33_0 cq33_0, claq33_0⟩, ⟨77, 2, (s26.2.2).length, .map (some r19), kvs kvI vvB (s26.2.2)⟩]) := hO
       have H := oi H; subst H; refine ⟨_, rfl, ?_⟩
       have l4_6 := leG31.trans leG44
       exact ⟨_, G44, aq33_0, nq33_0, cq33_0, claq33_0, upds_self _ _ ⟨rfl, rfl, rfl, rfl, rfl, trivial⟩, l4_6, hS, hO, hnhq33_0, hq33_0⟩
     ·have H := ifF hb32 H; refine WC_exit rfl ?_
      have hO : Owns G31 w30 w0.heap.size ([⟨3, 1, ns26_0, .slice as26_0 ns26_0 cs26_0, clas26_0⟩, ⟨77, 2, (s26.2.2).length, .map (some r19), kvs kvI vvB (s26.2.2)⟩]) := hO
      have H := oi H; subst H
      have hres := hqq28 _ rfl
      subst hres
      exact ⟨_, G31, as26_0, ns26_0, cs26_0, clas26_0, upds_self _ _ ⟨rfl, trivial⟩, leG31, hS, hO, hnhs26_0, hs26_0⟩
   ·rintro F w45 ⟨Fb, G46, aq28_0, nq28_0, cq28_0, claq28_0, rfl, leG46, hS, hO, hnhq28_0, hq28_0⟩
    refine zS ?_; refine zV (zm (v := (.slice aq28_0 nq28_0 cq28_0)) rfl) rfl ?_; refine zV (zA (v := (.slice aq28_0 nq28_0 cq28_0)) rfl) rfl ?_; refine zV (zA (v := (.int .i64 0)) rfl) rfl ?_; refine zN ?_; refine WC_ret ?_; obtain ⟨G47, leG47, hS, hO, hfG47⟩ := hO.freezeS hS RInt_mono (k := 0) rfl hq28_0 hnhq28_0
    have H : some (q28.1, 0) = some r := H
    have H := oi H; subst H
    exact ⟨_, _, rfl, hS.toGrow, _, _, _, rfl, hfG47⟩
set_option maxHeartbeats 1000000 in
theorem f47_ok {G0 : Gm} {w0 : World} (hS0 : Sat G0 w0) {x0 : TLandBook} {a1 : Option Addr} {n1 c1 : Nat} {a2 : Option Addr} {n2 c2 : Nat} {a3 : Option Addr} {n3 c3 : Nat} (h1 : RSl RTLandPerson 2 G0 a1 n1 c1 x0.People) (h2 : RSl RTLandEvent 2 G0 a2 n2 c2 x0.Events) (h3 : RSl RTLandMemory 4 G0 a3 n3 c3 x0.Memories) {r : Bool} (H : f47 x0 = some r) :
  Calls Tryd.prog 47 #[.agg #[.slice a1 n1 c1, .slice a2 n2 c2, .slice a3 n3 c3]] w0 (RetV w0 (.bool r)) := by
 have hS := Since.start hS0
 have hO : Owns G0 w0 w0.heap.size [] := Owns.nil (Nat.le_refl _)
 unfold f47 at H
 refine enter1 (N := 13) (shutV _ _) Tryd.func47 rfl rfl rfl rfl ?_; refine zS ?_; refine zO rfl (zW (v := fun b => .pointer (some ⟨b, 0, none⟩)) (cs := [.slice a1 n1 c1, .slice a2 n2 c2, .slice a3 n3 c3]) (e := 26) (rn_boxA rfl) hS.sat rfl (fun b4 G6 w5 hg hcb4 => ?_)); have hS := hS.grow hg; have hO := hO.grow hg
 have leG6 := hg.le
 refine zV (zA (v := (.bool false)) rfl) rfl ?_; refine zN ?_; refine zQ ?_; obtain ⟨q7, hq7, H⟩ := bnd H; refine zM (fun F w => ∃ (Fb : Fr) (G : Gm), F = upds Fb [(2, .bool q7)] ∧ Gle G6 G ∧ Since w0.heap.size G0 w0 G w ∧ Owns G w w0.heap.size []) ?_ ?_
 ·have Hoq7 := H; have H := hq7; refine zR ?_; refine zV (rn_loadA ag26 (cs := [.slice a1 n1 c1, .slice a2 n2 c2, .slice a3 n3 c3]) rfl rfl (fun j v hj => hS.sat.cell (hcb4.drop_take 0 3 j v hj))) rfl ?_; obtain ⟨y8, hy8, H⟩ := bnd H; refine zO rfl (zC cb14 (f14_ok (x0 := x0) hS.sat (h1.mono RTLandPerson_mono leG6) (h2.mono RTLandEvent_mono leG6) (h3.mono RTLandMemory_mono leG6) hy8) rfl rfl (fun w9 hb => ?_)); have hS := hS.keep hb; have hO := hO.below hb; refine zV (zm (v := (.bool y8)) rfl) rfl ?_
  rcases bcases y8 with hb10 | hb10
  ·have H := ifT hb10 H; refine zY rfl hb10 rfl rfl ?_; refine zV (rn_loadA ag26 (cs := [.slice a1 n1 c1, .slice a2 n2 c2, .slice a3 n3 c3]) rfl rfl (fun j v hj => hS.sat.cell (hcb4.drop_take 0 3 j v hj))) rfl ?_; refine zY rfl hb10 rfl rfl ?_; obtain ⟨y11, hy11, H⟩ := bnd H; refine zO rfl (zC cb18 (f18_ok (x0 := x0) hS.sat (h1.mono RTLandPerson_mono leG6) (h2.mono RTLandEvent_mono leG6) (h3.mono RTLandMemory_mono leG6) hy11) rfl rfl (fun w12 hb => ?_)); have hS := hS.keep hb; have hO := hO.below hb; refine zV (rn_pickT (v := (.bool y11)) rfl hb10 rfl) rfl ?_; refine zV (zm (v := (.bool y11)) rfl) rfl ?_
   rcases bcases y11 with hb13 | hb13
   ·have H := ifT hb13 H; refine zY rfl hb13 rfl rfl ?_; refine zV (rn_loadA ag26 (cs := [.slice a1 n1 c1, .slice a2 n2 c2, .slice a3 n3 c3]) rfl rfl (fun j v hj => hS.sat.cell (hcb4.drop_take 0 3 j v hj))) rfl ?_; refine zY rfl hb13 rfl rfl ?_; obtain ⟨y14, hy14, H⟩ := bnd H; refine zO rfl (zC cb19 (f19_ok (x0 := x0) hS.sat (h1.mono RTLandPerson_mono leG6) (h2.mono RTLandEvent_mono leG6) (h3.mono RTLandMemory_mono leG6) hy14) rfl rfl (fun w15 hb => ?_)); have hS := hS.keep hb; have hO := hO.below hb; refine zV (rn_pickT (v := (.bool y14)) rfl hb13 rfl) rfl ?_; refine zV (zA (v := (.bool y14)) rfl) rfl ?_; refine zN ?_
    have hO : Owns G6 w15 w0.heap.size ([]) := hO
    have H := oi H; subst H
    exact ⟨_, G6, upds_self _ _ ⟨rfl, trivial⟩, Gle.refl _, hS, hO⟩
   ·have H := ifF hb13 H; refine zG rfl hb13 rfl rfl rfl ?_; refine zG rfl hb13 rfl rfl rfl ?_; refine zV (rn_pickF (v := (.bool false)) rfl hb13 rfl) rfl ?_; refine zV (zA (v := (.bool false)) rfl) rfl ?_; refine zN ?_
    have hO : Owns G6 w12 w0.heap.size ([]) := hO
    have H := oi H; subst H
    exact ⟨_, G6, upds_self _ _ ⟨rfl, trivial⟩, Gle.refl _, hS, hO⟩
  ·have H := ifF hb10 H; refine zG rfl hb10 rfl rfl rfl ?_; refine zG rfl hb10 rfl rfl rfl ?_; refine zV (rn_pickF (v := (.bool false)) rfl hb10 rfl) rfl ?_; refine zV (zm (v := (.bool false)) rfl) rfl ?_; refine zG rfl rfl rfl rfl rfl ?_; refine zG rfl rfl rfl rfl rfl ?_; refine zV (rn_pickF (v := (.bool false)) rfl rfl rfl) rfl ?_; refine zV (zA (v := (.bool false)) rfl) rfl ?_; refine zN ?_
   have hO : Owns G6 w9 w0.heap.size ([]) := hO
   have H := oi H; subst H
   exact ⟨_, G6, upds_self _ _ ⟨rfl, trivial⟩, Gle.refl _, hS, hO⟩
 ·rintro F w16 ⟨Fb, G17, rfl, leG17, hS, hO⟩
  refine WC_ret ?_
  have H : some q7 = some r := H
  have H := oi H; subst H
  exact ⟨rfl, hS.below⟩
set_option maxHeartbeats 1000000 in
theorem f13_ok {G0 : Gm} {w0 : World} (hS0 : Sat G0 w0) {x0 : TLandBook} {a1 : Option Addr} {n1 c1 : Nat} {a2 : Option Addr} {n2 c2 : Nat} {a3 : Option Addr} {n3 c3 : Nat} {x1 : Int} {x2 : (List Int)} {a4 : Option Addr} {n4 c4 : Nat} (hT : TabG Tryd.prog G0) (h1 : RSl RTLandPerson 2 G0 a1 n1 c1 x0.People) (h2 : RSl RTLandEvent 2 G0 a2 n2 c2 x0.Events) (h3 : RSl RTLandMemory 4 G0 a3 n3 c3 x0.Memories) (h4 : RSl RInt 1 G0 a4 n4 c4 x2) {r : Bool} (H : f13 x0 x1 x2 = some r) :
  Calls Tryd.prog 13 #[.agg #[.slice a1 n1 c1, .slice a2 n2 c2, .slice a3 n3 c3], .int .i64 x1, .slice a4 n4 c4] w0 (RetV w0 (.bool r)) := by
 have hS := Since.start hS0
 have hO : Owns G0 w0 w0.heap.size [] := Owns.nil (Nat.le_refl _)
 unfold f13 at H
 refine enter1 (N := 293) (shutV _ _) Tryd.func13 rfl rfl rfl rfl ?_; refine zS ?_; refine zO rfl (zW (v := fun b => .pointer (some ⟨b, 0, none⟩)) (cs := [.slice a1 n1 c1, .slice a2 n2 c2, .slice a3 n3 c3]) (e := 26) (rn_boxA rfl) hS.sat rfl (fun b5 G7 w6 hg hcb5 => ?_)); have hS := hS.grow hg; have hO := hO.grow hg
 have leG7 := hg.le
 refine zV (zA (v := (.bool false)) rfl) rfl ?_; refine zN ?_; refine zQ ?_; refine zQ ?_; obtain ⟨q8, hq8, H⟩ := bnd H; refine zM (fun F w => ∃ (Fb : Fr) (G : Gm), F = upds Fb [(1, .int .i64 x1), (2, .slice a4 n4 c4), (3, .pointer (some ⟨b5, 0, none⟩)), (38, .bool q8)] ∧ Gle G7 G ∧ Since w0.heap.size G0 w0 G w ∧ Owns G w w0.heap.size []) ?_ ?_
 ·have Hoq8 := H; have H := hq8; refine zR ?_; refine zV (rn_loadA ag26 (cs := [.slice a1 n1 c1, .slice a2 n2 c2, .slice a3 n3 c3]) rfl rfl (fun j v hj => hS.sat.cell (hcb5.drop_take 0 3 j v hj))) rfl ?_; obtain ⟨y9, hy9, H⟩ := bnd H; refine zO rfl (zC cb47 (f47_ok (x0 := x0) hS.sat (h1.mono RTLandPerson_mono leG7) (h2.mono RTLandEvent_mono leG7) (h3.mono RTLandMemory_mono leG7) hy9) rfl rfl (fun w10 hb => ?_)); have hS := hS.keep hb; have hO := hO.below hb; refine zV (rn_not rfl) rfl ?_; refine zV (zm (v := (.bool (!y9))) rfl) rfl ?_
  rcases bcases (!y9) with hb11 | hb11
  ·have H := ifT hb11 H; refine zG rfl hb11 rfl rfl rfl ?_; refine zG rfl hb11 rfl rfl rfl ?_; refine zG rfl hb11 rfl rfl rfl ?_; refine zV (rn_pickT (v := (.bool true)) rfl hb11 rfl) rfl ?_; refine zV (zm (v := (.bool true)) rfl) rfl ?_; refine zG rfl rfl rfl rfl rfl ?_; refine zG rfl rfl rfl rfl rfl ?_; refine zG rfl rfl rfl rfl rfl ?_; refine zG rfl rfl rfl rfl rfl ?_; refine zV (rn_pickT (v := (.bool true)) rfl rfl rfl) rfl ?_; refine zN ?_
   have hO : Owns G7 w10 w0.heap.size ([]) := hO
   have H := oi H; subst H
   exact ⟨_, G7, upds_self _ _ ⟨rfl, rfl, rfl, rfl, trivial⟩, Gle.refl _, hS, hO⟩
  ·have H := ifF hb11 H; refine zY rfl hb11 rfl rfl ?_; refine zV (zm (v := (.int .i64 x1)) rfl) rfl ?_; refine zY rfl hb11 rfl rfl ?_; obtain ⟨y12, hy12, H⟩ := bnd H; refine zO rfl (zC cb33 (f33_ok (x0 := x1) hS.sat  hy12) rfl rfl (fun w13 hb => ?_)); have hS := hS.keep hb; have hO := hO.below hb; refine zY rfl hb11 rfl rfl ?_; refine zV (rn_not rfl) rfl ?_; refine zV (rn_pickF (v := (.bool (!y12))) rfl hb11 rfl) rfl ?_; refine zV (zm (v := (.bool (!y12))) rfl) rfl ?_
   rcases bcases (!y12) with hb14 | hb14
   ·have H := ifT hb14 H; refine zG rfl hb14 rfl rfl rfl ?_; refine zG rfl hb14 rfl rfl rfl ?_; refine zG rfl hb14 rfl rfl rfl ?_; refine zG rfl hb14 rfl rfl rfl ?_; refine zV (rn_pickT (v := (.bool true)) rfl hb14 rfl) rfl ?_; refine zN ?_
    have hO : Owns G7 w13 w0.heap.size ([]) := hO
    have H := oi H; subst H
    exact ⟨_, G7, upds_self _ _ ⟨rfl, rfl, rfl, rfl, trivial⟩, Gle.refl _, hS, hO⟩
   ·have H := ifF hb14 H; refine zY rfl hb14 rfl rfl ?_; refine zV (rn_loadA ag26 (cs := [.slice a1 n1 c1, .slice a2 n2 c2, .slice a3 n3 c3]) rfl rfl (fun j v hj => hS.sat.cell (hcb5.drop_take 0 3 j v hj))) rfl ?_; refine zY rfl hb14 rfl rfl ?_; refine zV (zm (v := (.slice a4 n4 c4)) rfl) rfl ?_; refine zY rfl hb14 rfl rfl ?_; obtain ⟨y15, hy15, H⟩ := bnd H; refine zO rfl (zC cb29 (f29_ok (x0 := x0) (x1 := x2) hS.sat (h1.mono RTLandPerson_mono leG7) (h2.mono RTLandEvent_mono leG7) (h3.mono RTLandMemory_mono leG7) (h4.mono RInt_mono leG7) hy15) rfl rfl (fun w16 hb => ?_)); have hS := hS.keep hb; have hO := hO.below hb; refine zY rfl hb14 rfl rfl ?_; refine zV (rn_not rfl) rfl ?_; refine zV (rn_pickF (v := (.bool (!y15))) rfl hb14 rfl) rfl ?_; refine zN ?_
    have hO : Owns G7 w16 w0.heap.size ([]) := hO
    have H := oi H; subst H
    exact ⟨_, G7, upds_self _ _ ⟨rfl, rfl, rfl, rfl, trivial⟩, Gle.refl _, hS, hO⟩
 ·rintro F w17 ⟨Fb, G18, rfl, leG18, hS, hO⟩
  refine zT rfl (fun hb19 => ?_) (fun hb19 => ?_)
  ·have H := ifT hb19 H; refine zS ?_; obtain ⟨y20, hy20, H⟩ := bnd H
   have l0_2 := leG7.trans leG18
   refine zO rfl (zC cb15 (f15_ok  hS.sat (hT.mono l0_2)  hy20) rfl rfl (fun w21 hb => ?_)); have hS := hS.keep hb; have hO := hO.below hb; refine zV (zA (v := (.bool y20)) rfl) rfl ?_; refine zN ?_; refine WC_ret ?_
   have H : some y20 = some r := H
   have H := oi H; subst H
   exact ⟨rfl, hS.below⟩
  ·have H := ifF hb19 H; refine zP ?_; refine zS ?_; refine zV (rn_loadA ag26 (cs := [.slice a1 n1 c1, .slice a2 n2 c2, .slice a3 n3 c3]) rfl rfl (fun j v hj => (hS.sat.le leG18).cell (hcb5.drop_take 0 3 j v hj))) rfl ?_; refine zV (zm (v := (.int .i64 x1)) rfl) rfl ?_; obtain ⟨y22, hy22, H⟩ := bnd H
   have l0_2 := leG7.trans leG18
   refine zO rfl (OpP_callG cb35 (f35_ok (x0 := x0) (x1 := x1) hS.sat (h1.mono RTLandPerson_mono l0_2) (h2.mono RTLandEvent_mono l0_2) (h3.mono RTLandMemory_mono l0_2) hy22) rfl rfl (fun vy22 G24 w23 hg hvy22 => ?_)); obtain ⟨a25, n25, c25, ⟨⟩, h25⟩ := hvy22; have hS := hS.grow hg; have hO := hO.grow hg
   have leG24 := hg.le
   refine zV (zm (v := (.tuple #[.slice a25 n25 c25, .int .i64 y22.2.1, .int .i64 y22.2.2])) rfl) rfl ?_; refine zV (zX (v := (.slice a25 n25 c25)) rfl rfl) rfl ?_; refine zV (zX (v := (.int .i64 y22.2.1)) rfl rfl) rfl ?_; refine zV (zX (v := (.int .i64 y22.2.2)) rfl rfl) rfl ?_; refine zV (zA (v := (.slice a25 n25 c25)) rfl) rfl ?_; refine zV (zA (v := (.int .i64 y22.2.1)) rfl) rfl ?_; refine zV (zA (v := (.int .i64 y22.2.2)) rfl) rfl ?_; refine zN ?_; refine zS ?_
   have l1_3 := leG18.trans leG24
   refine zV (rn_loadA ag26 (cs := [.slice a1 n1 c1, .slice a2 n2 c2, .slice a3 n3 c3]) rfl rfl (fun j v hj => (hS.sat.le l1_3).cell (hcb5.drop_take 0 3 j v hj))) rfl ?_; refine zV (zm (v := (.slice a4 n4 c4)) rfl) rfl ?_; obtain ⟨y26, hy26, H⟩ := bnd H
   have l0_3 := l0_2.trans leG24
   refine zO rfl (zC cb27 (f27_ok (x0 := x0) (x1 := x2) hS.sat (h1.mono RTLandPerson_mono l0_3) (h2.mono RTLandEvent_mono l0_3) (h3.mono RTLandMemory_mono l0_3) (h4.mono RInt_mono l0_3) hy26) rfl rfl (fun w27 hb => ?_)); have hS := hS.keep hb; have hO := hO.below hb; refine zV (zm (v := (.tuple #[.bool y26.1, .int .i64 y26.2])) rfl) rfl ?_; refine zV (zX (v := (.bool y26.1)) rfl rfl) rfl ?_; refine zV (zX (v := (.int .i64 y26.2)) rfl rfl) rfl ?_; refine zV (zA (v := (.bool y26.1)) rfl) rfl ?_; refine zV (zA (v := (.int .i64 y26.2)) rfl) rfl ?_; refine zN ?_; refine zS ?_; refine zV (rn_loadA ag26 (cs := [.slice a1 n1 c1, .slice a2 n2 c2, .slice a3 n3 c3]) rfl rfl (fun j v hj => (hS.sat.le l1_3).cell (hcb5.drop_take 0 3 j v hj))) rfl ?_; obtain ⟨y28, hy28, H⟩ := bnd H; refine zO rfl (OpP_callG cb28 (f28_ok (x0 := x0) hS.sat (h1.mono RTLandPerson_mono l0_3) (h2.mono RTLandEvent_mono l0_3) (h3.mono RTLandMemory_mono l0_3) hy28) rfl rfl (fun vy28 G30 w29 hg hvy28 => ?_)); obtain ⟨a31, n31, c31, ⟨⟩, h31⟩ := hvy28; have hS := hS.grow hg; have hO := hO.grow hg
   have leG30 := hg.le
   refine zV (zm (v := (.tuple #[.slice a31 n31 c31, .int .i64 y28.2])) rfl) rfl ?_; refine zV (zX (v := (.slice a31 n31 c31)) rfl rfl) rfl ?_; refine zV (zX (v := (.int .i64 y28.2)) rfl rfl) rfl ?_; refine zV (zA (v := (.slice a31 n31 c31)) rfl) rfl ?_; refine zV (zA (v := (.int .i64 y28.2)) rfl) rfl ?_; refine zN ?_; refine zQ ?_; refine zQ ?_; obtain ⟨q32, hq32, H⟩ := bnd H; refine zM (fun F w => ∃ (Fb : Fr), F = upds Fb [(1, .int .i64 x1), (2, .slice a4 n4 c4), (3, .pointer (some ⟨b5, 0, none⟩)), (7, .slice a25 n25 c25), (8, .int .i64 y22.2.1), (9, .int .i64 y22.2.2), (10, .bool y26.1), (12, .slice a31 n31 c31), (71, .bool q32)] ∧ w29 = w) ?_ ?_
   ·have Hoq32 := H; have H := hq32; refine zR ?_; refine zV (zm (v := (.int .i64 y26.2)) rfl) rfl ?_; refine zV (rn_neq rfl rfl) rfl ?_; refine zV (zm (v := (.bool (y26.2 != 0))) rfl) rfl ?_
    rcases bcases (y26.2 != 0) with hb33 | hb33
    ·have H := ifT hb33 H; refine zG rfl hb33 rfl rfl rfl ?_; refine zG rfl hb33 rfl rfl rfl ?_; refine zV (rn_pickT (v := (.bool true)) rfl hb33 rfl) rfl ?_; refine zV (zm (v := (.bool true)) rfl) rfl ?_; refine zG rfl rfl rfl rfl rfl ?_; refine zG rfl rfl rfl rfl rfl ?_; refine zG rfl rfl rfl rfl rfl ?_; refine zG rfl rfl rfl rfl rfl ?_; refine zG rfl rfl rfl rfl rfl ?_; refine zG rfl rfl rfl rfl rfl ?_; refine zV (rn_pickT (v := (.bool true)) rfl rfl rfl) rfl ?_; refine zN ?_; have H := oi H; subst H
     exact ⟨_, upds_self _ _ ⟨rfl, rfl, rfl, rfl, rfl, rfl, rfl, rfl, rfl, trivial⟩, rfl⟩
    ·have H := ifF hb33 H; refine zY rfl hb33 rfl rfl ?_; refine zV (zm (v := (.int .i64 y28.2)) rfl) rfl ?_; refine zY rfl hb33 rfl rfl ?_; refine zV (rn_neq rfl rfl) rfl ?_; refine zV (rn_pickF (v := (.bool (y28.2 != 0))) rfl hb33 rfl) rfl ?_; refine zV (zm (v := (.bool (y28.2 != 0))) rfl) rfl ?_
     rcases bcases (y28.2 != 0) with hb34 | hb34
     ·have H := ifT hb34 H; refine zG rfl hb34 rfl rfl rfl ?_; refine zG rfl hb34 rfl rfl rfl ?_; refine zG rfl hb34 rfl rfl rfl ?_; refine zG rfl hb34 rfl rfl rfl ?_; refine zG rfl hb34 rfl rfl rfl ?_; refine zG rfl hb34 rfl rfl rfl ?_; refine zV (rn_pickT (v := (.bool true)) rfl hb34 rfl) rfl ?_; refine zN ?_; have H := oi H; subst H
      exact ⟨_, upds_self _ _ ⟨rfl, rfl, rfl, rfl, rfl, rfl, rfl, rfl, rfl, trivial⟩, rfl⟩
     ·have H := ifF hb34 H; refine zY rfl hb34 rfl rfl ?_; refine zV (zm (v := (.slice a31 n31 c31)) rfl) rfl ?_; refine zY rfl hb34 rfl rfl ?_; refine zV (rn_len sl29 rfl rfl h31.1) rfl ?_; refine zY rfl hb34 rfl rfl ?_; refine zV (zF fd26_1 rfl) rfl ?_; refine zY rfl hb34 rfl rfl ?_
      have l1_4 := l1_3.trans leG30
      refine zV (zL na23 rfl ((hS.sat.le l1_4).cell (hcb5 1 _ rfl))) rfl ?_; refine zY rfl hb34 rfl rfl ?_
      have l0_4 := l0_3.trans leG30
      refine zV (rn_len sl23 rfl rfl (h2.mono RTLandEvent_mono l0_4).1) rfl ?_; refine zY rfl hb34 rfl rfl ?_; refine zV (rn_neq rfl rfl) rfl ?_; refine zV (rn_pickF (v := (.bool ((y28.1.length : Int) != (x0.Events.length : Int)))) rfl hb34 rfl) rfl ?_; refine zN ?_; have H := oi H; subst H
      exact ⟨_, upds_self _ _ ⟨rfl, rfl, rfl, rfl, rfl, rfl, rfl, rfl, rfl, trivial⟩, rfl⟩
   ·rintro F wl ⟨Fb, rfl, rfl⟩
    refine zT rfl (fun hb37 => ?_) (fun hb37 => ?_)
    ·have H := ifT hb37 H; refine zS ?_; refine zV (zA (v := (.bool false)) rfl) rfl ?_; refine zN ?_; refine WC_ret ?_
     have H : some false = some r := H
     have H := oi H; subst H
     exact ⟨rfl, hS.below⟩
    ·have H := ifF hb37 H; refine zP ?_; refine zS ?_; refine zV (zA (v := (.slice none 0 0)) rfl) rfl ?_; refine zN ?_; refine zQ ?_; refine zS ?_; refine zV (zA (v := (.int .i64 0)) rfl) rfl ?_; refine zN ?_; have hO := hO.cons_nil 3 1; obtain ⟨q41, hq41, H⟩ := bnd H; refine zM (fun F w => ∃ (Fb : Fr) (G : Gm) (aq41_0 : Option Addr) (nq41_0 cq41_0 : Nat) (claq41_0 : List Value), F = upds Fb [(1, .int .i64 x1), (2, .slice a4 n4 c4), (3, .pointer (some ⟨b5, 0, none⟩)), (7, .slice a25 n25 c25), (8, .int .i64 y22.2.1), (9, .int .i64 y22.2.2), (10, .bool y26.1), (12, .slice a31 n31 c31), (14, .slice aq41_0 nq41_0 cq41_0)] ∧ Gle G30 G ∧ Since w0.heap.size G0 w0 G w ∧ Owns G w w0.heap.size [⟨3, 1, nq41_0, .slice aq41_0 nq41_0 cq41_0, claq41_0⟩] ∧ nq41_0 = q41.length ∧ Rd RInt 1 G claq41_0 q41) ?_ ?_
     ·refine WC_block (WC_loop hq41 (fun s39 F w => ∃ (Fb : Fr) (G : Gm) (as39_0 : Option Addr) (ns39_0 cs39_0 : Nat) (clas39_0 : List Value), F = upds Fb [(1, .int .i64 x1), (2, .slice a4 n4 c4), (3, .pointer (some ⟨b5, 0, none⟩)), (7, .slice a25 n25 c25), (8, .int .i64 y22.2.1), (9, .int .i64 y22.2.2), (10, .bool y26.1), (12, .slice a31 n31 c31), (14, .slice as39_0 ns39_0 cs39_0), (15, .int .i64 s39.2)] ∧ Gle G30 G ∧ Since w0.heap.size G0 w0 G w ∧ Owns G w w0.heap.size [⟨3, 1, ns39_0, .slice as39_0 ns39_0 cs39_0, clas39_0⟩] ∧ ns39_0 = s39.1.length ∧ Rd RInt 1 G clas39_0 s39.1) ?_ ?_)
      ·have hO : Owns G30 w29 w0.heap.size ([⟨3, 1, 0, .slice none 0 0, []⟩]) := hO
       exact ⟨_, G30, none, 0, 0, [], upds_self _ _ ⟨rfl, rfl, rfl, rfl, rfl, rfl, rfl, rfl, rfl, rfl, trivial⟩, Gle.refl _, hS, hO, rfl, (Rd.nil RInt 1 G30)⟩
      ·rintro s39 F w43 t42 ⟨Fb, G44, as39_0, ns39_0, cs39_0, clas39_0, rfl, leG44, hS, hO, hnhs39_0, hs39_0⟩
       intro H1 hqq41
       have Hoq41 := H; have H := H1
       unfold f13_b0 at H
       refine zQ ?_; refine zS ?_; refine zV (zm (v := (.int .i64 s39.2)) rfl) rfl ?_; refine zV (zF fd26_1 rfl) rfl ?_
       have l1_5 := (l1_3.trans leG30).trans leG44
       refine zV (zL na23 rfl ((hS.sat.le l1_5).cell (hcb5 1 _ rfl))) rfl ?_
       have l0_5 := (l0_3.trans leG30).trans leG44
       refine zV (rn_len sl23 rfl rfl (h2.mono RTLandEvent_mono l0_5).1) rfl ?_; refine zV (rn_lss rfl rfl) rfl ?_; refine zN ?_; refine zT rfl (fun hb45 => ?_) (fun hb45 => ?_)
       ·have H := ifT hb45 H; refine zP ?_; refine zQ ?_; obtain ⟨q46, hq46, H⟩ := bnd H; refine zM (fun F w => ∃ (Fb : Fr) (G : Gm) (aq46_0 : Option Addr) (nq46_0 cq46_0 : Nat) (claq46_0 : List Value), F = upds Fb [(1, .int .i64 x1), (2, .slice a4 n4 c4), (3, .pointer (some ⟨b5, 0, none⟩)), (7, .slice a25 n25 c25), (8, .int .i64 y22.2.1), (9, .int .i64 y22.2.2), (10, .bool y26.1), (12, .slice a31 n31 c31), (14, .slice aq46_0 nq46_0 cq46_0), (15, .int .i64 s39.2)] ∧ Gle G44 G ∧ Since w0.heap.size G0 w0 G w ∧ Owns G w w0.heap.size [⟨3, 1, nq46_0, .slice aq46_0 nq46_0 cq46_0, claq46_0⟩] ∧ nq46_0 = q46.length ∧ Rd RInt 1 G claq46_0 q46) ?_ ?_
        ·have Hoq46 := H; have H := hq46; refine WC_block ?_; refine zS ?_; refine zV (zF fd26_1 rfl) rfl ?_; refine zV (zL na23 rfl ((hS.sat.le l1_5).cell (hcb5 1 _ rfl))) rfl ?_; refine zV (zm (v := (.int .i64 s39.2)) rfl) rfl ?_; obtain ⟨y47, hy47, H⟩ := bnd H; refine WL_idx sl23 (h2.mono RTLandEvent_mono l0_5) hy47 rfl rfl rfl ?_
         rintro b48 o48 _ hcb48 _ ⟨⟩
         refine zV (zF fd69_0 rfl) rfl ?_; refine zV (zL na3 rfl (hS.sat.cell (hcb48 0 _ rfl))) rfl ?_; refine zV (zm (v := (.int .i64 x1)) rfl) rfl ?_; refine zV (rn_eql rfl rfl) rfl ?_; refine zN ?_; refine zT rfl (fun hb49 => ?_) (fun hb49 => ?_)
         ·have H := ifT hb49 H; refine zR ?_; refine zV (zm (v := (.slice as39_0 ns39_0 cs39_0)) rfl) rfl ?_; refine zV (zm (v := (.int .i64 s39.2)) rfl) rfl ?_
          refine zO rfl (zW (v := fun b => .slice (some ⟨b, 0, none⟩) 1 1) (cs := [.int .i64 s39.2]) (e := 3) (by kernel_rfl) hS.sat rfl (fun b50 G52 w51 hg hcb50 => ?_))
          have hS := hS.grow hg; have hO := hO.grow hg
          have leG52 := hg.le
          have hfb50 : RSl RInt 1 G52 (some ⟨b50, 0, none⟩) 1 1 [s39.2] := RSl.of_rd hcb50 (Rd.cons (c := [.int .i64 s39.2]) rfl rfl (Rd.nil RInt 1 _)) rfl (by decide)
          obtain ⟨y53, hy53, H⟩ := bnd H; refine zO rfl (OpP_append (k := 0) sl29 RInt_one hS hO rfl hnhs39_0 (hs39_0.mono RInt_mono leG52) hfb50 hy53 rfl rfl rfl rfl rfl (fun aw54 cw54 w54 clw54 hS hO hrw54 => ?_))
          have hO : Owns G52 w54 w0.heap.size ([⟨3, 1, y53.length, .slice aw54 y53.length cw54, clw54⟩]) := hO
          refine zV (zA (v := (.slice aw54 y53.length cw54)) rfl) rfl ?_; refine zN ?_
          have hO : Owns G52 w54 w0.heap.size ([⟨3, 1, y53.length, .slice aw54 y53.length cw54, clw54⟩]) := hO
          have H := oi H; subst H
          exact ⟨_, G52, aw54, y53.length, cw54, clw54, upds_self _ _ ⟨rfl, rfl, rfl, rfl, rfl, rfl, rfl, rfl, rfl, rfl, trivial⟩, leG52, hS, hO, rfl, hrw54⟩
         ·have H := ifF hb49 H; refine zP ?_
          have hO : Owns G44 w43 w0.heap.size ([⟨3, 1, ns39_0, .slice as39_0 ns39_0 cs39_0, clas39_0⟩]) := hO
          have H := oi H; subst H
          exact ⟨_, G44, as39_0, ns39_0, cs39_0, clas39_0, upds_self _ _ ⟨rfl, rfl, rfl, rfl, rfl, rfl, rfl, rfl, rfl, rfl, trivial⟩, Gle.refl _, hS, hO, hnhs39_0, hs39_0⟩
        ·rintro F w55 ⟨Fb, G56, aq46_0, nq46_0, cq46_0, claq46_0, rfl, leG56, hS, hO, hnhq46_0, hq46_0⟩
         refine zR ?_; refine zV (zm (v := (.int .i64 s39.2)) rfl) rfl ?_; refine zV (rn_add rfl rfl) rfl ?_; refine zV (zA (v := (.int .i64 (IntKind.i64.wrap (s39.2 + 1)))) rfl) rfl ?_; refine zN ?_
         have hO : Owns G56 w55 w0.heap.size ([⟨3, 1, nq46_0, .slice aq46_0 nq46_0 cq46_0, claq46_0⟩]) := hO
         have H := oi H; subst H; refine ⟨_, rfl, ?_⟩
         have l4_6 := leG44.trans leG56
         exact ⟨_, G56, aq46_0, nq46_0, cq46_0, claq46_0, upds_self _ _ ⟨rfl, rfl, rfl, rfl, rfl, rfl, rfl, rfl, rfl, rfl, trivial⟩, l4_6, hS, hO, hnhq46_0, hq46_0⟩
       ·have H := ifF hb45 H; refine WC_exit rfl ?_
        have hO : Owns G44 w43 w0.heap.size ([⟨3, 1, ns39_0, .slice as39_0 ns39_0 cs39_0, clas39_0⟩]) := hO
        have H := oi H; subst H
        have hres := hqq41 _ rfl
        subst hres
        exact ⟨_, G44, as39_0, ns39_0, cs39_0, clas39_0, upds_self _ _ ⟨rfl, rfl, rfl, rfl, rfl, rfl, rfl, rfl, rfl, trivial⟩, leG44, hS, hO, hnhs39_0, hs39_0⟩
     ·rintro F w57 ⟨Fb, G58, aq41_0, nq41_0, cq41_0, claq41_0, rfl, leG58, hS, hO, hnhq41_0, hq41_0⟩
      refine zQ ?_; refine zS ?_; refine zV (zm (v := (.int .i64 y22.2.2)) rfl) rfl ?_; refine zV (rn_neq rfl rfl) rfl ?_; refine zN ?_; refine zT rfl (fun hb59 => ?_) (fun hb59 => ?_)
      ·have H := ifT hb59 H; refine zQ ?_; refine zS ?_; refine zV (zA (v := (.int .i64 0)) rfl) rfl ?_; refine zN ?_; obtain ⟨q62, hq62, H⟩ := bnd H; refine zM (fun F w => ∃ (p61 : Unit) (Fb : Fr) (G : Gm), q62 = .inl p61 ∧ F = upds Fb [] ∧ Gle G58 G ∧ Since w0.heap.size G0 w0 G w ∧ Owns G w w0.heap.size [⟨3, 1, nq41_0, .slice aq41_0 nq41_0 cq41_0, claq41_0⟩]) ?_ ?_
       ·refine WC_block (WC_loop hq62 (fun s60 F w => ∃ (Fb : Fr) (G : Gm), F = upds Fb [(3, .pointer (some ⟨b5, 0, none⟩)), (9, .int .i64 y22.2.2), (14, .slice aq41_0 nq41_0 cq41_0), (16, .int .i64 s60)] ∧ Gle G58 G ∧ Since w0.heap.size G0 w0 G w ∧ Owns G w w0.heap.size [⟨3, 1, nq41_0, .slice aq41_0 nq41_0 cq41_0, claq41_0⟩]) ?_ ?_)
        ·have hO : Owns G58 w57 w0.heap.size ([⟨3, 1, nq41_0, .slice aq41_0 nq41_0 cq41_0, claq41_0⟩]) := hO
         exact ⟨_, G58, upds_self _ _ ⟨rfl, rfl, rfl, rfl, trivial⟩, Gle.refl _, hS, hO⟩
        ·rintro s60 F w64 t63 ⟨Fb, G65, rfl, leG65, hS, hO⟩
         intro H1 hqq62
         have Hoq62 := H; have H := H1
         unfold f13_b1 at H
         refine zQ ?_; refine zS ?_; refine zV (zm (v := (.int .i64 s60)) rfl) rfl ?_; refine zV (zm (v := (.slice aq41_0 nq41_0 cq41_0)) rfl) rfl ?_; refine zV (rn_len (m := q41.length) sl29 rfl rfl hnhq41_0) rfl ?_; refine zV (rn_lss rfl rfl) rfl ?_; refine zN ?_; refine zT rfl (fun hb66 => ?_) (fun hb66 => ?_)
         ·have H := ifT hb66 H; refine zP ?_; refine zQ ?_; refine WC_block ?_; refine zS ?_; refine zV (zA (v := (.int .i64 0)) rfl) rfl ?_; refine zN ?_; obtain ⟨q69, hq69, H⟩ := bnd H; refine zM (fun F w => ∃ (p68 : Unit) (Fb : Fr) (G : Gm), q69 = .inl p68 ∧ F = upds Fb [(3, .pointer (some ⟨b5, 0, none⟩)), (9, .int .i64 y22.2.2), (14, .slice aq41_0 nq41_0 cq41_0), (16, .int .i64 s60)] ∧ Gle G65 G ∧ Since w0.heap.size G0 w0 G w ∧ Owns G w w0.heap.size [⟨3, 1, nq41_0, .slice aq41_0 nq41_0 cq41_0, claq41_0⟩]) ?_ ?_
          ·refine WC_block (WC_loop hq69 (fun s67 F w => ∃ (Fb : Fr) (G : Gm), F = upds Fb [(3, .pointer (some ⟨b5, 0, none⟩)), (9, .int .i64 y22.2.2), (14, .slice aq41_0 nq41_0 cq41_0), (16, .int .i64 s60), (17, .int .i64 s67)] ∧ Gle G65 G ∧ Since w0.heap.size G0 w0 G w ∧ Owns G w w0.heap.size [⟨3, 1, nq41_0, .slice aq41_0 nq41_0 cq41_0, claq41_0⟩]) ?_ ?_)
           ·have hO : Owns G65 w64 w0.heap.size ([⟨3, 1, nq41_0, .slice aq41_0 nq41_0 cq41_0, claq41_0⟩]) := hO
            exact ⟨_, G65, upds_self _ _ ⟨rfl, rfl, rfl, rfl, rfl, trivial⟩, Gle.refl _, hS, hO⟩
           ·rintro s67 F w71 t70 ⟨Fb, G72, rfl, leG72, hS, hO⟩
            intro H1 hqq69
            have Hoq69 := H; have H := H1
            unfold f13_b2 at H
            refine zQ ?_; refine zS ?_; refine zV (zm (v := (.int .i64 s67)) rfl) rfl ?_; refine zV (zm (v := (.slice aq41_0 nq41_0 cq41_0)) rfl) rfl ?_; refine zV (rn_len (m := q41.length) sl29 rfl rfl hnhq41_0) rfl ?_; refine zV (rn_lss rfl rfl) rfl ?_; refine zN ?_; refine zT rfl (fun hb73 => ?_) (fun hb73 => ?_)
            ·have H := ifT hb73 H; refine zP ?_; refine zQ ?_; obtain ⟨q74, hq74, H⟩ := bnd H; refine zM (fun F w => ∃ (p75 : Unit) (Fb : Fr) (G : Gm), q74 = .inl p75 ∧ F = upds Fb [(3, .pointer (some ⟨b5, 0, none⟩)), (9, .int .i64 y22.2.2), (14, .slice aq41_0 nq41_0 cq41_0), (16, .int .i64 s60), (17, .int .i64 s67)] ∧ Gle G72 G ∧ Since w0.heap.size G0 w0 G w ∧ Owns G w w0.heap.size [⟨3, 1, nq41_0, .slice aq41_0 nq41_0 cq41_0, claq41_0⟩]) ?_ ?_
             ·have Hoq74 := H; have H := hq74; refine WC_block ?_; refine zQ ?_; have hS := hS.keep (below_drew _); have hO := hO.below (below_drew _)
              refine WC_regionD mixedO (fun _ w => Sat G72 w ∧ Owns G72 w w0.heap.size [⟨3, 1, nq41_0, .slice aq41_0 nq41_0 cq41_0, claq41_0⟩]) (.fl 0 (.fl 1 (.fl 2 (.fl 3 (.fl 4 (.fl 5 (.fl 6 (.fl 7 (.fl 8 (.two 9 (.fl 10 (.fl 11 (.fl 12 (.on 13 (.on 14 (.on 15 .nil)))))) 13 (.on 9 (.on 10 (.fl 11 (.fl 12 (.on 14 (.on 15 .nil)))))))))))))))) (by kernel_rfl) rfl (by kernel_rfl) (fun _ => ⟨hS.sat, hO⟩) ?_
              refine zD rfl (fun w hw => rn_loadA ag26 (cs := [.slice a1 n1 c1, .slice a2 n2 c2, .slice a3 n3 c3]) rfl rfl (fun j v hj => (hw.1.le ((((l1_3.trans leG30).trans leG58).trans leG65).trans leG72)).cell (hcb5.drop_take 0 3 j v hj))) rfl ?_; refine zD rfl (fun w hw => zm (v := (.slice aq41_0 nq41_0 cq41_0)) rfl) rfl ?_; refine zD rfl (fun w hw => zm (v := (.int .i64 s60)) rfl) rfl ?_; obtain ⟨y76, hy76, H⟩ := bnd H
              have l5_7 := leG65.trans leG72
              refine WD_idxO rfl sl29 hO (k := 0) rfl hnhq41_0 (hq41_0.mono RInt_mono l5_7) hy76 rfl rfl rfl ?_
              rintro b77 ob77 _ hb77 _ hcb77 ⟨⟩
              refine zD rfl (fun w hw => zL na3 rfl (zH hw.2 (k := 0) rfl hb77 _ 0 (hcb77 0 _ rfl))) rfl ?_; refine zD rfl (fun w hw => zm (v := (.slice aq41_0 nq41_0 cq41_0)) rfl) rfl ?_; refine zD rfl (fun w hw => zm (v := (.int .i64 s67)) rfl) rfl ?_; obtain ⟨y78, hy78, H⟩ := bnd H; refine WD_idxO rfl sl29 hO (k := 0) rfl hnhq41_0 (hq41_0.mono RInt_mono l5_7) hy78 rfl rfl rfl ?_
              rintro b79 ob79 _ hb79 _ hcb79 ⟨⟩
              refine zD rfl (fun w hw => zL na3 rfl (zH hw.2 (k := 0) rfl hb79 _ 0 (hcb79 0 _ rfl))) rfl ?_; refine WD_two ?_ ?_
              ·obtain ⟨y80, hy80, H⟩ := bnd H
               have l0_7 := ((l0_3.trans leG30).trans leG58).trans l5_7
               refine zE rfl rfl (zC cb43 (f43_ok (x0 := x0) (x1 := y76) (x2 := y78) hS.sat (h1.mono RTLandPerson_mono l0_7) (h2.mono RTLandEvent_mono l0_7) (h3.mono RTLandMemory_mono l0_7) hy80) rfl rfl (fun w81 hb => ?_)); have hS := hS.keep hb; have hO := hO.below hb; refine ⟨fun _ _ => ⟨hS.sat, hO⟩, ?_⟩; refine zD rfl (fun w hw => zm (v := (.tuple #[.agg #[.int .i64 y80.1.Low, .int .i64 y80.1.High], .int .i64 y80.2])) rfl) rfl ?_; refine zD rfl (fun w hw => zX (v := (.agg #[.int .i64 y80.1.Low, .int .i64 y80.1.High])) rfl rfl) rfl ?_; refine zD rfl (fun w hw => zX (v := (.int .i64 y80.2)) rfl rfl) rfl ?_
               refine zE rfl rfl (zU (v := fun b => .pointer (some ⟨b, 0, none⟩)) (cs := [.int .i64 0, .int .i64 0]) (e := 44) (by kernel_rfl) hS.sat hO rfl 2 1 rfl (by decide) (fun b82 w83 hb hO => ?_))
               have hS := hS.keep hb; refine ⟨fun _ _ => ⟨hS.sat, (hO.drop 0)⟩, ?_⟩; refine zE rfl rfl (OpP_store (vs := [.int .i64 y80.1.Low, .int .i64 y80.1.High]) sz44 hS hO (k := 0) rfl rfl rfl rfl rfl (one_all rfl) (Nat.le_of_ble_eq_true rfl) (fun w85 hS hO => ?_))
               have hO : Owns G72 w85 w0.heap.size ([⟨44, 2, 1, .slice (some ⟨b82, 0, none⟩) 1 1, [.int .i64 y80.1.Low, .int .i64 y80.1.High]⟩, ⟨3, 1, nq41_0, .slice aq41_0 nq41_0 cq41_0, claq41_0⟩]) := hO
               obtain ⟨G86, leG86, hS, hO, hqG86, _⟩ := hO.freeze hS (k := 0) rfl
               have hcG86 : Cells G86 b82 0 [.int .i64 y80.1.Low, .int .i64 y80.1.High] := (hqG86 _ _ _ _ rfl)
               refine ⟨fun _ _ => ⟨hS.sat.le leG86, hO.le leG86⟩, ?_⟩; refine zE rfl rfl (OpP_val (zA (v := (.int .i64 y80.2)) rfl) rfl ?_)
               refine ⟨fun _ h => noneed (by kernel_rfl) h, ?_⟩
               refine zI ?_; refine zQ ?_; refine zS ?_; refine zV (zm (v := (.int .i64 y80.2)) rfl) rfl ?_; refine zV (rn_neq rfl rfl) rfl ?_; refine zN ?_; refine zT rfl (fun hb87 => ?_) (fun hb87 => ?_)
               ·have H := ifT hb87 H; refine zS ?_; refine zV (zA (v := (.bool false)) rfl) rfl ?_; refine zN ?_; refine WC_ret ?_; have H := oi H; subst H; have H := Hoq74; have H := oi H; subst H
                have hres := hqq69 _ rfl
                subst hres; have H := Hoq69; have H := oi H; subst H
                have hres := hqq62 _ rfl
                subst hres; have H := Hoq62
                have H : some false = some r := H
                have H := oi H; subst H
                exact ⟨rfl, hS.below⟩
               ·have H := ifF hb87 H; refine zP ?_; refine zQ ?_; obtain ⟨q88, hq88, H⟩ := bnd H; refine zM (fun F w => ∃ (Fb : Fr), F = upds Fb [(3, .pointer (some ⟨b5, 0, none⟩)), (9, .int .i64 y22.2.2), (14, .slice aq41_0 nq41_0 cq41_0), (16, .int .i64 s60), (17, .int .i64 s67), (132, .bool q88)] ∧ w85 = w) ?_ ?_
                ·have Hoq88 := H; have H := hq88; refine zR ?_; refine zV (zm (v := (.int .i64 s60)) rfl) rfl ?_; refine zV (zm (v := (.int .i64 s67)) rfl) rfl ?_; refine zV (rn_neq rfl rfl) rfl ?_; refine zV (zm (v := (.bool (s60 != s67))) rfl) rfl ?_
                 rcases bcases (s60 != s67) with hb89 | hb89
                 ·have H := ifT hb89 H; refine zY rfl hb89 rfl rfl ?_; refine zV (zF fd44_0 rfl) rfl ?_; refine zY rfl hb89 rfl rfl ?_; refine zV (zL na3 rfl (hS.sat.cell (hcG86 0 _ rfl))) rfl ?_; refine zY rfl hb89 rfl rfl ?_; refine zV (rn_leq rfl rfl) rfl ?_; refine zV (rn_pickT (v := (.bool (decide (y80.1.Low ≤ 0)))) rfl hb89 rfl) rfl ?_; refine zV (zm (v := (.bool (decide (y80.1.Low ≤ 0)))) rfl) rfl ?_
                  rcases bcases (decide (y80.1.Low ≤ 0)) with hb90 | hb90
                  ·have H := ifT hb90 H; refine zY rfl hb90 rfl rfl ?_; refine zV (zF fd44_1 rfl) rfl ?_; refine zY rfl hb90 rfl rfl ?_; refine zV (zL na3 rfl (hS.sat.cell (hcG86 1 _ rfl))) rfl ?_; refine zY rfl hb90 rfl rfl ?_; refine zV (rn_geq rfl rfl) rfl ?_; refine zV (rn_pickT (v := (.bool (decide (0 ≤ y80.1.High)))) rfl hb90 rfl) rfl ?_; refine zN ?_; have H := oi H; subst H
                   exact ⟨_, upds_self _ _ ⟨rfl, rfl, rfl, rfl, rfl, rfl, trivial⟩, rfl⟩
                  ·have H := ifF hb90 H; refine zG rfl hb90 rfl rfl rfl ?_; refine zG rfl hb90 rfl rfl rfl ?_; refine zG rfl hb90 rfl rfl rfl ?_; refine zV (rn_pickF (v := (.bool false)) rfl hb90 rfl) rfl ?_; refine zN ?_; have H := oi H; subst H
                   exact ⟨_, upds_self _ _ ⟨rfl, rfl, rfl, rfl, rfl, rfl, trivial⟩, rfl⟩
                 ·have H := ifF hb89 H; refine zG rfl hb89 rfl rfl rfl ?_; refine zG rfl hb89 rfl rfl rfl ?_; refine zG rfl hb89 rfl rfl rfl ?_; refine zV (rn_pickF (v := (.bool false)) rfl hb89 rfl) rfl ?_; refine zV (zm (v := (.bool false)) rfl) rfl ?_; refine zG rfl rfl rfl rfl rfl ?_; refine zG rfl rfl rfl rfl rfl ?_; refine zG rfl rfl rfl rfl rfl ?_; refine zV (rn_pickF (v := (.bool false)) rfl rfl rfl) rfl ?_; refine zN ?_; have H := oi H; subst H
                  exact ⟨_, upds_self _ _ ⟨rfl, rfl, rfl, rfl, rfl, rfl, trivial⟩, rfl⟩
                ·rintro F wl ⟨Fb, rfl, rfl⟩
                 refine zT rfl (fun hb93 => ?_) (fun hb93 => ?_)
                 ·have H := ifT hb93 H; refine zQ ?_; obtain ⟨q94, hq94, H⟩ := bnd H; refine zM (fun F w => ∃ (Fb : Fr) (G : Gm), F = upds Fb [(6, .bool q94)] ∧ Gle G86 G ∧ Since w0.heap.size G0 w0 G w ∧ Owns G w w0.heap.size [⟨3, 1, nq41_0, .slice aq41_0 nq41_0 cq41_0, claq41_0⟩]) ?_ ?_
                  ·have Hoq94 := H; have H := hq94; refine zR ?_; refine zV (zm (v := (.int .i64 y22.2.2)) rfl) rfl ?_; refine zV (rn_eql rfl rfl) rfl ?_; refine zV (zm (v := (.bool (y22.2.2 == 8))) rfl) rfl ?_
                   rcases bcases (y22.2.2 == 8) with hb95 | hb95
                   ·have H := ifT hb95 H; refine zY rfl hb95 rfl rfl ?_; obtain ⟨y96, hy96, H⟩ := bnd H
                    have l0_8 := l0_7.trans leG86
                    refine zO rfl (zC cb15 (f15_ok  hS.sat (hT.mono l0_8)  hy96) rfl rfl (fun w97 hb => ?_)); have hS := hS.keep hb; have hO := hO.below hb; refine zV (rn_pickT (v := (.bool y96)) rfl hb95 rfl) rfl ?_; refine zV (zA (v := (.bool y96)) rfl) rfl ?_; refine zN ?_
                    have hO : Owns G86 w97 w0.heap.size ([⟨3, 1, nq41_0, .slice aq41_0 nq41_0 cq41_0, claq41_0⟩]) := hO
                    have H := oi H; subst H
                    exact ⟨_, G86, upds_self _ _ ⟨rfl, trivial⟩, Gle.refl _, hS, hO⟩
                   ·have H := ifF hb95 H; refine zG rfl hb95 rfl rfl rfl ?_; refine zV (rn_pickF (v := (.bool false)) rfl hb95 rfl) rfl ?_; refine zV (zA (v := (.bool false)) rfl) rfl ?_; refine zN ?_
                    have hO : Owns G86 w85 w0.heap.size ([⟨3, 1, nq41_0, .slice aq41_0 nq41_0 cq41_0, claq41_0⟩]) := hO
                    have H := oi H; subst H
                    exact ⟨_, G86, upds_self _ _ ⟨rfl, trivial⟩, Gle.refl _, hS, hO⟩
                  ·rintro F w98 ⟨Fb, G99, rfl, leG99, hS, hO⟩
                   refine WC_ret ?_; have H := oi H; subst H; have H := Hoq74; have H := oi H; subst H
                   have hres := hqq69 _ rfl
                   subst hres; have H := Hoq69; have H := oi H; subst H
                   have hres := hqq62 _ rfl
                   subst hres; have H := Hoq62
                   have H : some q94 = some r := H
                   have H := oi H; subst H
                   exact ⟨rfl, hS.below⟩
                 ·have H := ifF hb93 H; refine zP ?_
                  have hO : Owns G86 w85 w0.heap.size ([⟨3, 1, nq41_0, .slice aq41_0 nq41_0 cq41_0, claq41_0⟩]) := hO
                  have H := oi H; subst H
                  exact ⟨_, _, G86, rfl, upds_self _ _ ⟨rfl, rfl, rfl, rfl, rfl, trivial⟩, leG86, hS, hO⟩
              ·refine zE rfl rfl (zU (v := fun b => .pointer (some ⟨b, 0, none⟩)) (cs := [.int .i64 0, .int .i64 0]) (e := 44) (by kernel_rfl) hS.sat hO rfl 2 1 rfl (by decide) (fun b80 w81 hb hO => ?_))
               have hS := hS.keep hb; refine ⟨fun _ _ => ⟨hS.sat, (hO.drop 0)⟩, ?_⟩; obtain ⟨y83, hy83, H⟩ := bnd H
               have l0_7 := ((l0_3.trans leG30).trans leG58).trans l5_7
               refine zE rfl rfl (zC cb43 (f43_ok (x0 := x0) (x1 := y76) (x2 := y78) hS.sat (h1.mono RTLandPerson_mono l0_7) (h2.mono RTLandEvent_mono l0_7) (h3.mono RTLandMemory_mono l0_7) hy83) rfl rfl (fun w84 hb => ?_)); have hS := hS.keep hb; have hO := hO.below hb; refine ⟨fun _ _ => ⟨hS.sat, (hO.drop 0)⟩, ?_⟩; refine zE rfl rfl (OpP_val (zm (v := (.tuple #[.agg #[.int .i64 y83.1.Low, .int .i64 y83.1.High], .int .i64 y83.2])) rfl) rfl ?_); refine ⟨fun _ _ => ⟨hS.sat, (hO.drop 0)⟩, ?_⟩; refine zD rfl (fun w hw => zX (v := (.agg #[.int .i64 y83.1.Low, .int .i64 y83.1.High])) rfl rfl) rfl ?_; refine zD rfl (fun w hw => zX (v := (.int .i64 y83.2)) rfl rfl) rfl ?_; refine zE rfl rfl (OpP_store (vs := [.int .i64 y83.1.Low, .int .i64 y83.1.High]) sz44 hS hO (k := 0) rfl rfl rfl rfl rfl (one_all rfl) (Nat.le_of_ble_eq_true rfl) (fun w85 hS hO => ?_))
               have hO : Owns G72 w85 w0.heap.size ([⟨44, 2, 1, .slice (some ⟨b80, 0, none⟩) 1 1, [.int .i64 y83.1.Low, .int .i64 y83.1.High]⟩, ⟨3, 1, nq41_0, .slice aq41_0 nq41_0 cq41_0, claq41_0⟩]) := hO
               obtain ⟨G86, leG86, hS, hO, hqG86, _⟩ := hO.freeze hS (k := 0) rfl
               have hcG86 : Cells G86 b80 0 [.int .i64 y83.1.Low, .int .i64 y83.1.High] := (hqG86 _ _ _ _ rfl)
               refine ⟨fun _ _ => ⟨hS.sat.le leG86, hO.le leG86⟩, ?_⟩; refine zE rfl rfl (OpP_val (zA (v := (.int .i64 y83.2)) rfl) rfl ?_)
               refine ⟨fun _ h => noneed (by kernel_rfl) h, ?_⟩
               refine zI ?_; refine zQ ?_; refine zS ?_; refine zV (zm (v := (.int .i64 y83.2)) rfl) rfl ?_; refine zV (rn_neq rfl rfl) rfl ?_; refine zN ?_; refine zT rfl (fun hb87 => ?_) (fun hb87 => ?_)
               ·have H := ifT hb87 H; refine zS ?_; refine zV (zA (v := (.bool false)) rfl) rfl ?_; refine zN ?_; refine WC_ret ?_; have H := oi H; subst H; have H := Hoq74; have H := oi H; subst H
                have hres := hqq69 _ rfl
                subst hres; have H := Hoq69; have H := oi H; subst H
                have hres := hqq62 _ rfl
                subst hres; have H := Hoq62
                have H : some false = some r := H
                have H := oi H; subst H
                exact ⟨rfl, hS.below⟩
               ·have H := ifF hb87 H; refine zP ?_; refine zQ ?_; obtain ⟨q88, hq88, H⟩ := bnd H; refine zM (fun F w => ∃ (Fb : Fr), F = upds Fb [(3, .pointer (some ⟨b5, 0, none⟩)), (9, .int .i64 y22.2.2), (14, .slice aq41_0 nq41_0 cq41_0), (16, .int .i64 s60), (17, .int .i64 s67), (132, .bool q88)] ∧ w85 = w) ?_ ?_
                ·have Hoq88 := H; have H := hq88; refine zR ?_; refine zV (zm (v := (.int .i64 s60)) rfl) rfl ?_; refine zV (zm (v := (.int .i64 s67)) rfl) rfl ?_; refine zV (rn_neq rfl rfl) rfl ?_; refine zV (zm (v := (.bool (s60 != s67))) rfl) rfl ?_
                 rcases bcases (s60 != s67) with hb89 | hb89
                 ·have H := ifT hb89 H; refine zY rfl hb89 rfl rfl ?_; refine zV (zF fd44_0 rfl) rfl ?_; refine zY rfl hb89 rfl rfl ?_; refine zV (zL na3 rfl (hS.sat.cell (hcG86 0 _ rfl))) rfl ?_; refine zY rfl hb89 rfl rfl ?_; refine zV (rn_leq rfl rfl) rfl ?_; refine zV (rn_pickT (v := (.bool (decide (y83.1.Low ≤ 0)))) rfl hb89 rfl) rfl ?_; refine zV (zm (v := (.bool (decide (y83.1.Low ≤ 0)))) rfl) rfl ?_
                  rcases bcases (decide (y83.1.Low ≤ 0)) with hb90 | hb90
                  ·have H := ifT hb90 H; refine zY rfl hb90 rfl rfl ?_; refine zV (zF fd44_1 rfl) rfl ?_; refine zY rfl hb90 rfl rfl ?_; refine zV (zL na3 rfl (hS.sat.cell (hcG86 1 _ rfl))) rfl ?_; refine zY rfl hb90 rfl rfl ?_; refine zV (rn_geq rfl rfl) rfl ?_; refine zV (rn_pickT (v := (.bool (decide (0 ≤ y83.1.High)))) rfl hb90 rfl) rfl ?_; refine zN ?_; have H := oi H; subst H
                   exact ⟨_, upds_self _ _ ⟨rfl, rfl, rfl, rfl, rfl, rfl, trivial⟩, rfl⟩
                  ·have H := ifF hb90 H; refine zG rfl hb90 rfl rfl rfl ?_; refine zG rfl hb90 rfl rfl rfl ?_; refine zG rfl hb90 rfl rfl rfl ?_; refine zV (rn_pickF (v := (.bool false)) rfl hb90 rfl) rfl ?_; refine zN ?_; have H := oi H; subst H
                   exact ⟨_, upds_self _ _ ⟨rfl, rfl, rfl, rfl, rfl, rfl, trivial⟩, rfl⟩
                 ·have H := ifF hb89 H; refine zG rfl hb89 rfl rfl rfl ?_; refine zG rfl hb89 rfl rfl rfl ?_; refine zG rfl hb89 rfl rfl rfl ?_; refine zV (rn_pickF (v := (.bool false)) rfl hb89 rfl) rfl ?_; refine zV (zm (v := (.bool false)) rfl) rfl ?_; refine zG rfl rfl rfl rfl rfl ?_; refine zG rfl rfl rfl rfl rfl ?_; refine zG rfl rfl rfl rfl rfl ?_; refine zV (rn_pickF (v := (.bool false)) rfl rfl rfl) rfl ?_; refine zN ?_; have H := oi H; subst H
                  exact ⟨_, upds_self _ _ ⟨rfl, rfl, rfl, rfl, rfl, rfl, trivial⟩, rfl⟩
                ·rintro F wl ⟨Fb, rfl, rfl⟩
                 refine zT rfl (fun hb93 => ?_) (fun hb93 => ?_)
                 ·have H := ifT hb93 H; refine zQ ?_; obtain ⟨q94, hq94, H⟩ := bnd H; refine zM (fun F w => ∃ (Fb : Fr) (G : Gm), F = upds Fb [(6, .bool q94)] ∧ Gle G86 G ∧ Since w0.heap.size G0 w0 G w ∧ Owns G w w0.heap.size [⟨3, 1, nq41_0, .slice aq41_0 nq41_0 cq41_0, claq41_0⟩]) ?_ ?_
                  ·have Hoq94 := H; have H := hq94; refine zR ?_; refine zV (zm (v := (.int .i64 y22.2.2)) rfl) rfl ?_; refine zV (rn_eql rfl rfl) rfl ?_; refine zV (zm (v := (.bool (y22.2.2 == 8))) rfl) rfl ?_
                   rcases bcases (y22.2.2 == 8) with hb95 | hb95
                   ·have H := ifT hb95 H; refine zY rfl hb95 rfl rfl ?_; obtain ⟨y96, hy96, H⟩ := bnd H
                    have l0_8 := l0_7.trans leG86
                    refine zO rfl (zC cb15 (f15_ok  hS.sat (hT.mono l0_8)  hy96) rfl rfl (fun w97 hb => ?_)); have hS := hS.keep hb; have hO := hO.below hb; refine zV (rn_pickT (v := (.bool y96)) rfl hb95 rfl) rfl ?_; refine zV (zA (v := (.bool y96)) rfl) rfl ?_; refine zN ?_
                    have hO : Owns G86 w97 w0.heap.size ([⟨3, 1, nq41_0, .slice aq41_0 nq41_0 cq41_0, claq41_0⟩]) := hO
                    have H := oi H; subst H
                    exact ⟨_, G86, upds_self _ _ ⟨rfl, trivial⟩, Gle.refl _, hS, hO⟩
                   ·have H := ifF hb95 H; refine zG rfl hb95 rfl rfl rfl ?_; refine zV (rn_pickF (v := (.bool false)) rfl hb95 rfl) rfl ?_; refine zV (zA (v := (.bool false)) rfl) rfl ?_; refine zN ?_
                    have hO : Owns G86 w85 w0.heap.size ([⟨3, 1, nq41_0, .slice aq41_0 nq41_0 cq41_0, claq41_0⟩]) := hO
                    have H := oi H; subst H
                    exact ⟨_, G86, upds_self _ _ ⟨rfl, trivial⟩, Gle.refl _, hS, hO⟩
                  ·rintro F w98 ⟨Fb, G99, rfl, leG99, hS, hO⟩
                   refine WC_ret ?_; have H := oi H; subst H; have H := Hoq74; have H := oi H; subst H
                   have hres := hqq69 _ rfl
                   subst hres; have H := Hoq69; have H := oi H; subst H
                   have hres := hqq62 _ rfl
                   subst hres; have H := Hoq62
                   have H : some q94 = some r := H
                   have H := oi H; subst H
                   exact ⟨rfl, hS.below⟩
                 ·have H := ifF hb93 H; refine zP ?_
                  have hO : Owns G86 w85 w0.heap.size ([⟨3, 1, nq41_0, .slice aq41_0 nq41_0 cq41_0, claq41_0⟩]) := hO
                  have H := oi H; subst H
                  exact ⟨_, _, G86, rfl, upds_self _ _ ⟨rfl, rfl, rfl, rfl, rfl, trivial⟩, leG86, hS, hO⟩
             ·rintro F w100 ⟨p75, Fb, G101, rfl, rfl, leG101, hS, hO⟩
              refine zR ?_; refine zV (zm (v := (.int .i64 s67)) rfl) rfl ?_; refine zV (rn_add rfl rfl) rfl ?_; refine zV (zA (v := (.int .i64 (IntKind.i64.wrap (s67 + 1)))) rfl) rfl ?_; refine zN ?_
              have hO : Owns G101 w100 w0.heap.size ([⟨3, 1, nq41_0, .slice aq41_0 nq41_0 cq41_0, claq41_0⟩]) := hO
              have H := oi H; subst H; refine ⟨_, rfl, ?_⟩
              have l6_8 := leG72.trans leG101
              exact ⟨_, G101, upds_self _ _ ⟨rfl, rfl, rfl, rfl, rfl, trivial⟩, l6_8, hS, hO⟩
            ·have H := ifF hb73 H; refine WC_exit rfl ?_
             have hO : Owns G72 w71 w0.heap.size ([⟨3, 1, nq41_0, .slice aq41_0 nq41_0 cq41_0, claq41_0⟩]) := hO
             have H := oi H; subst H
             have hres := hqq69 _ rfl
             subst hres
             exact ⟨_, _, G72, rfl, upds_self _ _ ⟨rfl, rfl, rfl, rfl, trivial⟩, leG72, hS, hO⟩
          ·rintro F w103 ⟨p68, Fb, G104, rfl, rfl, leG104, hS, hO⟩
           refine zR ?_; refine zV (zm (v := (.int .i64 s60)) rfl) rfl ?_; refine zV (rn_add rfl rfl) rfl ?_; refine zV (zA (v := (.int .i64 (IntKind.i64.wrap (s60 + 1)))) rfl) rfl ?_; refine zN ?_
           have hO : Owns G104 w103 w0.heap.size ([⟨3, 1, nq41_0, .slice aq41_0 nq41_0 cq41_0, claq41_0⟩]) := hO
           have H := oi H; subst H; refine ⟨_, rfl, ?_⟩
           have l5_7 := leG65.trans leG104
           exact ⟨_, G104, upds_self _ _ ⟨rfl, rfl, rfl, rfl, trivial⟩, l5_7, hS, hO⟩
         ·have H := ifF hb66 H; refine WC_exit rfl ?_
          have hO : Owns G65 w64 w0.heap.size ([⟨3, 1, nq41_0, .slice aq41_0 nq41_0 cq41_0, claq41_0⟩]) := hO
          have H := oi H; subst H
          have hres := hqq62 _ rfl
          subst hres
          exact ⟨_, _, G65, rfl, rfl, leG65, hS, hO⟩
       ·rintro F w106 ⟨p61, Fb, G107, rfl, rfl, leG107, hS, hO⟩
        refine zS ?_; refine zV (zA (v := (.bool false)) rfl) rfl ?_; refine zN ?_; refine WC_ret ?_
        have H : some false = some r := H
        have H := oi H; subst H
        exact ⟨rfl, hS.below⟩
      ·have H := ifF hb59 H; refine zP ?_; refine zQ ?_; refine zQ ?_; obtain ⟨q109, hq109, H⟩ := bnd H; refine zM (fun F w => ∃ (Fb : Fr), F = upds Fb [(1, .int .i64 x1), (2, .slice a4 n4 c4), (3, .pointer (some ⟨b5, 0, none⟩)), (7, .slice a25 n25 c25), (8, .int .i64 y22.2.1), (10, .bool y26.1), (12, .slice a31 n31 c31), (160, .bool q109)] ∧ w57 = w) ?_ ?_
       ·have Hoq109 := H; have H := hq109; refine zR ?_; refine zV (zm (v := (.slice a25 n25 c25)) rfl) rfl ?_
        have l3_5 := leG30.trans leG58
        refine zV (rn_len sl29 rfl rfl (h25.mono RInt_mono l3_5).1) rfl ?_; refine zV (zm (v := (.slice aq41_0 nq41_0 cq41_0)) rfl) rfl ?_; refine zV (rn_len (m := q41.length) sl29 rfl rfl hnhq41_0) rfl ?_; refine zV (rn_neq rfl rfl) rfl ?_; refine zV (zm (v := (.bool ((y22.1.length : Int) != (q41.length : Int)))) rfl) rfl ?_
        rcases bcases ((y22.1.length : Int) != (q41.length : Int)) with hb110 | hb110
        ·have H := ifT hb110 H; refine zG rfl hb110 rfl rfl rfl ?_; refine zG rfl hb110 rfl rfl rfl ?_; refine zV (rn_pickT (v := (.bool true)) rfl hb110 rfl) rfl ?_; refine zV (zm (v := (.bool true)) rfl) rfl ?_; refine zG rfl rfl rfl rfl rfl ?_; refine zG rfl rfl rfl rfl rfl ?_; refine zV (rn_pickT (v := (.bool true)) rfl rfl rfl) rfl ?_; refine zV (zm (v := (.bool true)) rfl) rfl ?_; refine zG rfl rfl rfl rfl rfl ?_; refine zG rfl rfl rfl rfl rfl ?_; refine zG rfl rfl rfl rfl rfl ?_; refine zG rfl rfl rfl rfl rfl ?_; refine zG rfl rfl rfl rfl rfl ?_; refine WL_guardU rfl rfl rfl rfl ?_; refine WL_guardU rfl rfl rfl rfl ?_; refine zG rfl rfl rfl rfl rfl ?_; refine zV (rn_pickT (v := (.bool true)) rfl rfl rfl) rfl ?_; refine zN ?_; have H := oi H; subst H
         exact ⟨_, upds_self _ _ ⟨rfl, rfl, rfl, rfl, rfl, rfl, rfl, rfl, trivial⟩, rfl⟩
        ·have H := ifF hb110 H; refine zY rfl hb110 rfl rfl ?_; refine zV (zm (v := (.int .i64 y22.2.1)) rfl) rfl ?_; refine zY rfl hb110 rfl rfl ?_; refine zV (rn_lss rfl rfl) rfl ?_; refine zV (rn_pickF (v := (.bool (decide (y22.2.1 < (-1))))) rfl hb110 rfl) rfl ?_; refine zV (zm (v := (.bool (decide (y22.2.1 < (-1))))) rfl) rfl ?_
         rcases bcases (decide (y22.2.1 < (-1))) with hb111 | hb111
         ·have H := ifT hb111 H; refine zG rfl hb111 rfl rfl rfl ?_; refine zG rfl hb111 rfl rfl rfl ?_; refine zV (rn_pickT (v := (.bool true)) rfl hb111 rfl) rfl ?_; refine zV (zm (v := (.bool true)) rfl) rfl ?_; refine zG rfl rfl rfl rfl rfl ?_; refine zG rfl rfl rfl rfl rfl ?_; refine zG rfl rfl rfl rfl rfl ?_; refine zG rfl rfl rfl rfl rfl ?_; refine zG rfl rfl rfl rfl rfl ?_; refine WL_guardU rfl rfl rfl rfl ?_; refine WL_guardU rfl rfl rfl rfl ?_; refine zG rfl rfl rfl rfl rfl ?_; refine zV (rn_pickT (v := (.bool true)) rfl rfl rfl) rfl ?_; refine zN ?_; have H := oi H; subst H
          exact ⟨_, upds_self _ _ ⟨rfl, rfl, rfl, rfl, rfl, rfl, rfl, rfl, trivial⟩, rfl⟩
         ·have H := ifF hb111 H; refine zY rfl hb111 rfl rfl ?_; refine zV (zm (v := (.int .i64 y22.2.1)) rfl) rfl ?_; refine zY rfl hb111 rfl rfl ?_; refine zV (rn_eql rfl rfl) rfl ?_; refine zV (rn_pickF (v := (.bool (y22.2.1 == 0))) rfl hb111 rfl) rfl ?_; refine zV (zm (v := (.bool (y22.2.1 == 0))) rfl) rfl ?_
          rcases bcases (y22.2.1 == 0) with hb112 | hb112
          ·have H := ifT hb112 H; refine zG rfl hb112 rfl rfl rfl ?_; refine zG rfl hb112 rfl rfl rfl ?_; refine zG rfl hb112 rfl rfl rfl ?_; refine zG rfl hb112 rfl rfl rfl ?_; refine zG rfl hb112 rfl rfl rfl ?_; refine WL_guardU rfl rfl rfl rfl ?_; refine WL_guardU rfl rfl rfl rfl ?_; refine zG rfl hb112 rfl rfl rfl ?_; refine zV (rn_pickT (v := (.bool true)) rfl hb112 rfl) rfl ?_; refine zN ?_; have H := oi H; subst H
           exact ⟨_, upds_self _ _ ⟨rfl, rfl, rfl, rfl, rfl, rfl, rfl, rfl, trivial⟩, rfl⟩
          ·have H := ifF hb112 H; refine zY rfl hb112 rfl rfl ?_; refine zV (zm (v := (.int .i64 y22.2.1)) rfl) rfl ?_; refine zY rfl hb112 rfl rfl ?_; refine zV (zm (v := (.slice a25 n25 c25)) rfl) rfl ?_; refine zY rfl hb112 rfl rfl ?_; refine zV (rn_len sl29 rfl rfl (h25.mono RInt_mono l3_5).1) rfl ?_; refine zY rfl hb112 rfl rfl ?_; refine zV (rn_geq rfl rfl) rfl ?_; refine zY rfl hb112 rfl rfl ?_; refine zV (zm (v := (.bool (decide ((y22.1.length : Int) ≤ y22.2.1)))) rfl) rfl ?_
           rcases bcases (decide ((y22.1.length : Int) ≤ y22.2.1)) with hb113 | hb113
           ·have H := ifT hb113 H; refine zY rfl hb113 rfl rfl ?_; refine zV (zm (v := (.int .i64 y22.2.1)) rfl) rfl ?_; refine zY rfl hb113 rfl rfl ?_; refine zV (rn_neq rfl rfl) rfl ?_; refine zY rfl hb112 rfl rfl ?_; refine zV (rn_pickT (v := (.bool (y22.2.1 != (-1)))) rfl hb113 rfl) rfl ?_; refine zV (rn_pickF (v := (.bool (y22.2.1 != (-1)))) rfl hb112 rfl) rfl ?_; refine zN ?_; have H := oi H; subst H
            exact ⟨_, upds_self _ _ ⟨rfl, rfl, rfl, rfl, rfl, rfl, rfl, rfl, trivial⟩, rfl⟩
           ·have H := ifF hb113 H; refine zG rfl hb113 rfl rfl rfl ?_; refine zG rfl hb113 rfl rfl rfl ?_; refine zY rfl hb112 rfl rfl ?_; refine zV (rn_pickF (v := (.bool false)) rfl hb113 rfl) rfl ?_; refine zV (rn_pickF (v := (.bool false)) rfl hb112 rfl) rfl ?_; refine zN ?_; have H := oi H; subst H
            exact ⟨_, upds_self _ _ ⟨rfl, rfl, rfl, rfl, rfl, rfl, rfl, rfl, trivial⟩, rfl⟩
       ·rintro F wl ⟨Fb, rfl, rfl⟩
        refine zT rfl (fun hb116 => ?_) (fun hb116 => ?_)
        ·have H := ifT hb116 H; refine zS ?_; refine zV (zA (v := (.bool false)) rfl) rfl ?_; refine zN ?_; refine WC_ret ?_
         have H : some false = some r := H
         have H := oi H; subst H
         exact ⟨rfl, hS.below⟩
        ·have H := ifF hb116 H; refine zP ?_; refine zQ ?_; refine zS ?_; refine zV (zA (v := (.int .i64 0)) rfl) rfl ?_; refine zN ?_; obtain ⟨q119, hq119, H⟩ := bnd H; refine zM (fun F w => ∃ (p118 : Unit) (Fb : Fr) (G : Gm), q119 = .inl p118 ∧ F = upds Fb [] ∧ Gle G58 G ∧ Since w0.heap.size G0 w0 G w ∧ Owns G w w0.heap.size [⟨3, 1, nq41_0, .slice aq41_0 nq41_0 cq41_0, claq41_0⟩]) ?_ ?_
         ·refine WC_block (WC_loop hq119 (fun s117 F w => ∃ (Fb : Fr) (G : Gm), F = upds Fb [(1, .int .i64 x1), (2, .slice a4 n4 c4), (3, .pointer (some ⟨b5, 0, none⟩)), (7, .slice a25 n25 c25), (8, .int .i64 y22.2.1), (10, .bool y26.1), (12, .slice a31 n31 c31), (20, .int .i64 s117)] ∧ Gle G58 G ∧ Since w0.heap.size G0 w0 G w ∧ Owns G w w0.heap.size [⟨3, 1, nq41_0, .slice aq41_0 nq41_0 cq41_0, claq41_0⟩]) ?_ ?_)
          ·have hO : Owns G58 w57 w0.heap.size ([⟨3, 1, nq41_0, .slice aq41_0 nq41_0 cq41_0, claq41_0⟩]) := hO
           exact ⟨_, G58, upds_self _ _ ⟨rfl, rfl, rfl, rfl, rfl, rfl, rfl, rfl, trivial⟩, Gle.refl _, hS, hO⟩
          ·rintro s117 F w121 t120 ⟨Fb, G122, rfl, leG122, hS, hO⟩
           intro H1 hqq119
           have Hoq119 := H; have H := H1
           unfold f13_b3 at H
           refine zQ ?_; refine zS ?_; refine zV (zm (v := (.int .i64 s117)) rfl) rfl ?_; refine zV (zm (v := (.slice a25 n25 c25)) rfl) rfl ?_
           have l3_6 := (leG30.trans leG58).trans leG122
           refine zV (rn_len sl29 rfl rfl (h25.mono RInt_mono l3_6).1) rfl ?_; refine zV (rn_lss rfl rfl) rfl ?_; refine zN ?_; refine zT rfl (fun hb123 => ?_) (fun hb123 => ?_)
           ·have H := ifT hb123 H; refine zP ?_; refine zQ ?_; obtain ⟨q124, hq124, H⟩ := bnd H; refine zM (fun F w => ∃ (p125 : Unit) (Fb : Fr) (G : Gm), q124 = .inl p125 ∧ F = upds Fb [(1, .int .i64 x1), (2, .slice a4 n4 c4), (3, .pointer (some ⟨b5, 0, none⟩)), (7, .slice a25 n25 c25), (8, .int .i64 y22.2.1), (10, .bool y26.1), (12, .slice a31 n31 c31), (20, .int .i64 s117)] ∧ Gle G122 G ∧ Since w0.heap.size G0 w0 G w ∧ Owns G w w0.heap.size [⟨3, 1, nq41_0, .slice aq41_0 nq41_0 cq41_0, claq41_0⟩]) ?_ ?_
            ·have Hoq124 := H; have H := hq124; refine WC_block ?_; refine zQ ?_; refine zQ ?_; obtain ⟨q126, hq126, H⟩ := bnd H; refine zM (fun F w => ∃ (Fb : Fr) (G : Gm), F = upds Fb [(1, .int .i64 x1), (2, .slice a4 n4 c4), (3, .pointer (some ⟨b5, 0, none⟩)), (7, .slice a25 n25 c25), (8, .int .i64 y22.2.1), (10, .bool y26.1), (12, .slice a31 n31 c31), (20, .int .i64 s117), (233, .bool q126)] ∧ Gle G122 G ∧ Since w0.heap.size G0 w0 G w ∧ Owns G w w0.heap.size [⟨3, 1, nq41_0, .slice aq41_0 nq41_0 cq41_0, claq41_0⟩]) ?_ ?_
             ·have Hoq126 := H; have H := hq126; have hS := hS.keep (below_drew _); have hO := hO.below (below_drew _)
              refine WC_regionD mixedO (fun _ w => Sat G122 w ∧ Owns G122 w w0.heap.size [⟨3, 1, nq41_0, .slice aq41_0 nq41_0 cq41_0, claq41_0⟩]) (.fl 0 (.fl 1 (.on 2 (.on 3 (.on 4 (.on 5 (.on 6 (.on 7 (.fl 8 (.fl 9 (.fl 10 (.fl 11 (.fl 12 (.fl 13 (.fl 14 (.fl 15 (.fl 16 (.on 17 (.on 18 (.on 19 (.on 20 (.on 21 (.on 22 (.on 23 (.fl 24 (.fl 25 (.fl 26 (.fl 27 (.fl 28 (.fl 29 (.fl 30 (.fl 31 (.fl 32 (.on 33 (.on 34 (.on 35 (.on 36 (.on 37 (.on 38 (.on 39 (.on 40 (.on 41 (.on 42 (.on 43 (.on 44 (.on 45 (.on 46 (.on 47 (.on 48 (.fl 49 (.fl 50 (.fl 51 (.fl 52 (.fl 53 (.fl 54 (.fl 55 (.fl 56 (.fl 57 (.on 58 (.on 59 (.on 60 (.on 61 (.on 62 (.on 63 (.on 64 (.on 65 (.on 66 .nil))))))))))))))))))))))))))))))))))))))))))))))))))))))))))))))))))) (by kernel_rfl) rfl (by kernel_rfl) (fun _ => ⟨hS.sat, hO⟩) ?_
              refine zD rfl (fun w hw => rn_loadA ag26 (cs := [.slice a1 n1 c1, .slice a2 n2 c2, .slice a3 n3 c3]) rfl rfl (fun j v hj => (hw.1.le (l1_3.trans l3_6)).cell (hcb5.drop_take 0 3 j v hj))) rfl ?_; refine zD rfl (fun w hw => zm (v := (.slice a25 n25 c25)) rfl) rfl ?_; refine zE rfl rfl (OpP_val (zm (v := (.int .i64 s117)) rfl) rfl ?_); refine ⟨fun _ _ => ⟨hS.sat, hO⟩, ?_⟩; obtain ⟨y127, hy127, H⟩ := bnd H; refine zE rfl rfl (OpP_idx sl29 (h25.mono RInt_mono l3_6) hy127 rfl rfl rfl ?_)
              rintro b128 o128 _ hcb128 _ ⟨⟩
              refine ⟨fun _ _ => ⟨hS.sat, hO⟩, ?_⟩; refine zE rfl rfl (OpP_val (zL na3 rfl (hS.sat.cell (hcb128 0 _ rfl))) rfl ?_); refine ⟨fun _ _ => ⟨hS.sat, hO⟩, ?_⟩; obtain ⟨y129, hy129, H⟩ := bnd H
              have l0_6 := l0_3.trans l3_6
              refine zE rfl rfl (zC cb45 (f45_ok (x0 := x0) (x1 := y127) hS.sat (h1.mono RTLandPerson_mono l0_6) (h2.mono RTLandEvent_mono l0_6) (h3.mono RTLandMemory_mono l0_6) hy129) rfl rfl (fun w130 hb => ?_)); have hS := hS.keep hb; have hO := hO.below hb; refine ⟨fun _ _ => ⟨hS.sat, hO⟩, ?_⟩; refine zE rfl rfl (OpP_val (rn_not rfl) rfl ?_); refine ⟨fun _ _ => ⟨hS.sat, hO⟩, ?_⟩; refine zE rfl rfl (OpP_val (zm (v := (.bool (!y129))) rfl) rfl ?_); refine ⟨fun _ _ => ⟨hS.sat, hO⟩, ?_⟩
              rcases bcases (!y129) with hb131 | hb131
              ·have H := ifT hb131 H; refine zK rfl rfl hb131 rfl rfl rfl ?_; refine zK rfl rfl hb131 rfl rfl rfl ?_; refine zK rfl rfl hb131 rfl rfl rfl ?_; refine zK rfl rfl hb131 rfl rfl rfl ?_; refine zK rfl rfl hb131 rfl rfl rfl ?_; refine zK rfl rfl hb131 rfl rfl rfl ?_; refine zK rfl rfl hb131 rfl rfl rfl ?_; refine zK rfl rfl hb131 rfl rfl rfl ?_; refine zK rfl rfl hb131 rfl rfl rfl ?_; refine zJ rfl rfl hb131 rfl rfl rfl (fun _ _ => ⟨hS.sat, hO⟩) ?_; refine zJ rfl rfl hb131 rfl rfl rfl (fun _ _ => ⟨hS.sat, hO⟩) ?_; refine zE rfl rfl (OpP_val (rn_pickT (v := (.bool true)) rfl hb131 rfl) rfl ?_); refine ⟨fun _ _ => ⟨hS.sat, hO⟩, ?_⟩; refine zE rfl rfl (OpP_val (zm (v := (.bool true)) rfl) rfl ?_); refine ⟨fun _ _ => ⟨hS.sat, hO⟩, ?_⟩; refine zJ rfl rfl rfl rfl rfl rfl (fun _ _ => ⟨hS.sat, hO⟩) ?_; refine zJ rfl rfl rfl rfl rfl rfl (fun _ _ => ⟨hS.sat, hO⟩) ?_; refine zJ rfl rfl rfl rfl rfl rfl (fun _ _ => ⟨hS.sat, hO⟩) ?_; refine WD_undefN rfl rfl rfl rfl rfl ?_; refine WD_undefN rfl rfl rfl rfl rfl ?_; refine WD_undefN rfl rfl rfl rfl rfl ?_; refine WD_undefN rfl rfl rfl rfl rfl ?_; refine WD_undefN rfl rfl rfl rfl rfl ?_; refine WD_undefN rfl rfl rfl rfl rfl ?_; refine WD_undefN rfl rfl rfl rfl rfl ?_; refine WD_undefN rfl rfl rfl rfl rfl ?_; refine WD_undefN rfl rfl rfl rfl rfl ?_; refine WD_undefS rfl rfl rfl rfl rfl (fun _ _ => ⟨hS.sat, hO⟩) ?_; refine WD_undefS rfl rfl rfl rfl rfl (fun _ _ => ⟨hS.sat, hO⟩) ?_; refine WD_undefS rfl rfl rfl rfl rfl (fun _ _ => ⟨hS.sat, hO⟩) ?_; refine WD_undefS rfl rfl rfl rfl rfl (fun _ _ => ⟨hS.sat, hO⟩) ?_; refine WD_undefS rfl rfl rfl rfl rfl (fun _ _ => ⟨hS.sat, hO⟩) ?_; refine WD_undefS rfl rfl rfl rfl rfl (fun _ _ => ⟨hS.sat, hO⟩) ?_; refine WD_undefS rfl rfl rfl rfl rfl (fun _ _ => ⟨hS.sat, hO⟩) ?_; refine zJ rfl rfl rfl rfl rfl rfl (fun _ _ => ⟨hS.sat, hO⟩) ?_; refine zE rfl rfl (OpP_val (rn_pickT (v := (.bool true)) rfl rfl rfl) rfl ?_); refine ⟨fun _ _ => ⟨hS.sat, hO⟩, ?_⟩; refine zE rfl rfl (OpP_val (zm (v := (.bool true)) rfl) rfl ?_); refine ⟨fun _ _ => ⟨hS.sat, hO⟩, ?_⟩; refine zJ rfl rfl rfl rfl rfl rfl (fun _ _ => ⟨hS.sat, hO⟩) ?_; refine zJ rfl rfl rfl rfl rfl rfl (fun _ _ => ⟨hS.sat, hO⟩) ?_; refine zJ rfl rfl rfl rfl rfl rfl (fun _ _ => ⟨hS.sat, hO⟩) ?_; refine WD_undefS rfl rfl rfl rfl rfl (fun _ _ => ⟨hS.sat, hO⟩) ?_; refine zJ rfl rfl rfl rfl rfl rfl (fun _ _ => ⟨hS.sat, hO⟩) ?_; refine zJ rfl rfl rfl rfl rfl rfl (fun _ _ => ⟨hS.sat, hO⟩) ?_; refine WD_undefN rfl rfl rfl rfl rfl ?_; refine WD_undefN rfl rfl rfl rfl rfl ?_; refine WD_undefN rfl rfl rfl rfl rfl ?_; refine WD_undefN rfl rfl rfl rfl rfl ?_; refine WD_undefN rfl rfl rfl rfl rfl ?_; refine WD_undefN rfl rfl rfl rfl rfl ?_; refine WD_undefN rfl rfl rfl rfl rfl ?_; refine WD_undefN rfl rfl rfl rfl rfl ?_; refine WD_undefN rfl rfl rfl rfl rfl ?_; refine WD_undefS rfl rfl rfl rfl rfl (fun _ _ => ⟨hS.sat, hO⟩) ?_
               refine WD_undefS rfl rfl rfl rfl rfl (fun _ _ => ⟨hS.sat, hO⟩) ?_; refine WD_undefS rfl rfl rfl rfl rfl (fun _ _ => ⟨hS.sat, hO⟩) ?_; refine WD_undefS rfl rfl rfl rfl rfl (fun _ _ => ⟨hS.sat, hO⟩) ?_; refine WD_undefS rfl rfl rfl rfl rfl (fun _ _ => ⟨hS.sat, hO⟩) ?_; refine WD_undefS rfl rfl rfl rfl rfl (fun _ _ => ⟨hS.sat, hO⟩) ?_
               refine WD_undefS rfl rfl rfl rfl rfl (fun _ h => noneed (by kernel_rfl) h) ?_
               refine zJ rfl rfl rfl rfl rfl rfl (fun _ h => noneed (by kernel_rfl) h) ?_
               refine zE rfl rfl (OpP_val (rn_pickT (v := (.bool true)) rfl rfl rfl) rfl ?_)
               refine ⟨fun _ h => noneed (by kernel_rfl) h, ?_⟩
               refine zI ?_
               have hO : Owns G122 w130 w0.heap.size ([⟨3, 1, nq41_0, .slice aq41_0 nq41_0 cq41_0, claq41_0⟩]) := hO
               have H := oi H; subst H
               exact ⟨_, G122, upds_self _ _ ⟨rfl, rfl, rfl, rfl, rfl, rfl, rfl, rfl, rfl, trivial⟩, Gle.refl _, hS, hO⟩
              ·have H := ifF hb131 H; refine zB rfl rfl hb131 rfl rfl (fun w hw => zF fd26_1 rfl) rfl ?_; refine zB rfl rfl hb131 rfl rfl (fun w hw => zL na23 rfl ((hw.1.le (l1_3.trans l3_6)).cell (hcb5 1 _ rfl))) rfl ?_; refine zB rfl rfl hb131 rfl rfl (fun w hw => zm (v := (.slice a25 n25 c25)) rfl) rfl ?_; refine zB rfl rfl hb131 rfl rfl (fun w hw => zm (v := (.int .i64 s117)) rfl) rfl ?_; refine WD_idxY rfl rfl hb131 rfl rfl sl29 (h25.mono RInt_mono l3_6) hy127 rfl rfl rfl ?_
               rintro b132 o132 _ hcb132 _ ⟨⟩
               refine zB rfl rfl hb131 rfl rfl (fun w hw => zL na3 rfl (hw.1.cell (hcb132 0 _ rfl))) rfl ?_; obtain ⟨y133, hy133, H⟩ := bnd H; refine WD_idxY rfl rfl hb131 rfl rfl sl23 (h2.mono RTLandEvent_mono l0_6) hy133 rfl rfl rfl ?_
               rintro b134 o134 _ hcb134 _ ⟨⟩
               refine zB rfl rfl hb131 rfl rfl (fun w hw => zF fd69_0 rfl) rfl ?_; refine zB rfl rfl hb131 rfl rfl (fun w hw => zL na3 rfl (hw.1.cell (hcb134 0 _ rfl))) rfl ?_; refine WD_opY rfl rfl rfl hb131 rfl rfl (OpP_val (zm (v := (.int .i64 x1)) rfl) rfl ?_); refine ⟨fun _ _ => ⟨hS.sat, hO⟩, ?_⟩; refine WD_opY rfl rfl rfl hb131 rfl rfl (OpP_val (rn_neq rfl rfl) rfl ?_); refine ⟨fun _ _ => ⟨hS.sat, hO⟩, ?_⟩; refine zE rfl rfl (OpP_val (rn_pickF (v := (.bool (y133.Strip != x1))) rfl hb131 rfl) rfl ?_); refine ⟨fun _ _ => ⟨hS.sat, hO⟩, ?_⟩; refine zE rfl rfl (OpP_val (zm (v := (.bool (y133.Strip != x1))) rfl) rfl ?_); refine ⟨fun _ _ => ⟨hS.sat, hO⟩, ?_⟩
               rcases bcases (y133.Strip != x1) with hb135 | hb135
               ·have H := ifT hb135 H; refine zJ rfl rfl hb135 rfl rfl rfl (fun _ _ => ⟨hS.sat, hO⟩) ?_; refine zJ rfl rfl hb135 rfl rfl rfl (fun _ _ => ⟨hS.sat, hO⟩) ?_; refine zJ rfl rfl hb135 rfl rfl rfl (fun _ _ => ⟨hS.sat, hO⟩) ?_; refine WD_undefN rfl rfl rfl rfl rfl ?_; refine WD_undefN rfl rfl rfl rfl rfl ?_; refine WD_undefN rfl rfl rfl rfl rfl ?_; refine WD_undefN rfl rfl rfl rfl rfl ?_; refine WD_undefN rfl rfl rfl rfl rfl ?_; refine WD_undefN rfl rfl rfl rfl rfl ?_; refine WD_undefN rfl rfl rfl rfl rfl ?_; refine WD_undefN rfl rfl rfl rfl rfl ?_; refine WD_undefN rfl rfl rfl rfl rfl ?_; refine WD_undefS rfl rfl rfl rfl rfl (fun _ _ => ⟨hS.sat, hO⟩) ?_; refine WD_undefS rfl rfl rfl rfl rfl (fun _ _ => ⟨hS.sat, hO⟩) ?_; refine WD_undefS rfl rfl rfl rfl rfl (fun _ _ => ⟨hS.sat, hO⟩) ?_; refine WD_undefS rfl rfl rfl rfl rfl (fun _ _ => ⟨hS.sat, hO⟩) ?_; refine WD_undefS rfl rfl rfl rfl rfl (fun _ _ => ⟨hS.sat, hO⟩) ?_; refine WD_undefS rfl rfl rfl rfl rfl (fun _ _ => ⟨hS.sat, hO⟩) ?_; refine WD_undefS rfl rfl rfl rfl rfl (fun _ _ => ⟨hS.sat, hO⟩) ?_; refine zJ rfl rfl hb135 rfl rfl rfl (fun _ _ => ⟨hS.sat, hO⟩) ?_; refine zE rfl rfl (OpP_val (rn_pickT (v := (.bool true)) rfl hb135 rfl) rfl ?_); refine ⟨fun _ _ => ⟨hS.sat, hO⟩, ?_⟩; refine zE rfl rfl (OpP_val (zm (v := (.bool true)) rfl) rfl ?_); refine ⟨fun _ _ => ⟨hS.sat, hO⟩, ?_⟩; refine zJ rfl rfl rfl rfl rfl rfl (fun _ _ => ⟨hS.sat, hO⟩) ?_; refine zJ rfl rfl rfl rfl rfl rfl (fun _ _ => ⟨hS.sat, hO⟩) ?_; refine zJ rfl rfl rfl rfl rfl rfl (fun _ _ => ⟨hS.sat, hO⟩) ?_; refine WD_undefS rfl rfl rfl rfl rfl (fun _ _ => ⟨hS.sat, hO⟩) ?_; refine zJ rfl rfl rfl rfl rfl rfl (fun _ _ => ⟨hS.sat, hO⟩) ?_; refine zJ rfl rfl rfl rfl rfl rfl (fun _ _ => ⟨hS.sat, hO⟩) ?_; refine WD_undefN rfl rfl rfl rfl rfl ?_; refine WD_undefN rfl rfl rfl rfl rfl ?_; refine WD_undefN rfl rfl rfl rfl rfl ?_; refine WD_undefN rfl rfl rfl rfl rfl ?_; refine WD_undefN rfl rfl rfl rfl rfl ?_; refine WD_undefN rfl rfl rfl rfl rfl ?_; refine WD_undefN rfl rfl rfl rfl rfl ?_; refine WD_undefN rfl rfl rfl rfl rfl ?_; refine WD_undefN rfl rfl rfl rfl rfl ?_; refine WD_undefS rfl rfl rfl rfl rfl (fun _ _ => ⟨hS.sat, hO⟩) ?_; refine WD_undefS rfl rfl rfl rfl rfl (fun _ _ => ⟨hS.sat, hO⟩) ?_; refine WD_undefS rfl rfl rfl rfl rfl (fun _ _ => ⟨hS.sat, hO⟩) ?_; refine WD_undefS rfl rfl rfl rfl rfl (fun _ _ => ⟨hS.sat, hO⟩) ?_; refine WD_undefS rfl rfl rfl rfl rfl (fun _ _ => ⟨hS.sat, hO⟩) ?_; refine WD_undefS rfl rfl rfl rfl rfl (fun _ _ => ⟨hS.sat, hO⟩) ?_
                refine WD_undefS rfl rfl rfl rfl rfl (fun _ h => noneed (by kernel_rfl) h) ?_
                refine zJ rfl rfl rfl rfl rfl rfl (fun _ h => noneed (by kernel_rfl) h) ?_
                refine zE rfl rfl (OpP_val (rn_pickT (v := (.bool true)) rfl rfl rfl) rfl ?_)
                refine ⟨fun _ h => noneed (by kernel_rfl) h, ?_⟩
                refine zI ?_
                have hO : Owns G122 w130 w0.heap.size ([⟨3, 1, nq41_0, .slice aq41_0 nq41_0 cq41_0, claq41_0⟩]) := hO
                have H := oi H; subst H
                exact ⟨_, G122, upds_self _ _ ⟨rfl, rfl, rfl, rfl, rfl, rfl, rfl, rfl, rfl, trivial⟩, Gle.refl _, hS, hO⟩
               ·have H := ifF hb135 H; refine WD_opY rfl rfl rfl hb135 rfl rfl (OpP_val (zm (v := (.int .i64 s117)) rfl) rfl ?_); refine ⟨fun _ _ => ⟨hS.sat, hO⟩, ?_⟩; refine WD_opY rfl rfl rfl hb135 rfl rfl (OpP_val (rn_gtr rfl rfl) rfl ?_); refine ⟨fun _ _ => ⟨hS.sat, hO⟩, ?_⟩; refine WD_opY rfl rfl rfl hb135 rfl rfl (OpP_val (zm (v := (.bool (decide (0 < s117)))) rfl) rfl ?_); refine ⟨fun _ _ => ⟨hS.sat, hO⟩, ?_⟩
                rcases bcases (decide (0 < s117)) with hb136 | hb136
                ·have H := ifT hb136 H; refine zB rfl rfl hb136 rfl rfl (fun w hw => zm (v := (.slice a31 n31 c31)) rfl) rfl ?_; refine zB rfl rfl hb136 rfl rfl (fun w hw => zm (v := (.slice a25 n25 c25)) rfl) rfl ?_; refine zB rfl rfl hb136 rfl rfl (fun w hw => zm (v := (.int .i64 s117)) rfl) rfl ?_; refine WD_idxY rfl rfl hb136 rfl rfl sl29 (h25.mono RInt_mono l3_6) hy127 rfl rfl rfl ?_
                 rintro b137 o137 _ hcb137 _ ⟨⟩
                 refine zB rfl rfl hb136 rfl rfl (fun w hw => zL na3 rfl (hw.1.cell (hcb137 0 _ rfl))) rfl ?_; obtain ⟨y138, hy138, H⟩ := bnd H
                 have l4_6 := leG58.trans leG122
                 refine WD_idxY rfl rfl hb136 rfl rfl sl29 (h31.mono RInt_mono l4_6) hy138 rfl rfl rfl ?_
                 rintro b139 o139 _ hcb139 _ ⟨⟩
                 refine zB rfl rfl hb136 rfl rfl (fun w hw => zL na3 rfl (hw.1.cell (hcb139 0 _ rfl))) rfl ?_; refine zB rfl rfl hb136 rfl rfl (fun w hw => zm (v := (.slice a31 n31 c31)) rfl) rfl ?_; refine zB rfl rfl hb136 rfl rfl (fun w hw => zm (v := (.slice a25 n25 c25)) rfl) rfl ?_; refine WD_opY rfl rfl rfl hb136 rfl rfl (OpP_val (zm (v := (.int .i64 s117)) rfl) rfl ?_); refine ⟨fun _ _ => ⟨hS.sat, hO⟩, ?_⟩; refine WD_opY rfl rfl rfl hb136 rfl rfl (OpP_val (rn_sub rfl rfl) rfl ?_); refine ⟨fun _ _ => ⟨hS.sat, hO⟩, ?_⟩; obtain ⟨y140, hy140, H⟩ := bnd H; refine WD_opY rfl rfl rfl hb136 rfl rfl (OpP_idx sl29 (h25.mono RInt_mono l3_6) hy140 rfl rfl rfl ?_)
                 rintro b141 o141 _ hcb141 _ ⟨⟩
                 refine ⟨fun _ _ => ⟨hS.sat, hO⟩, ?_⟩; refine WD_opY rfl rfl rfl hb136 rfl rfl (OpP_val (zL na3 rfl (hS.sat.cell (hcb141 0 _ rfl))) rfl ?_); refine ⟨fun _ _ => ⟨hS.sat, hO⟩, ?_⟩; obtain ⟨y142, hy142, H⟩ := bnd H; refine WD_opY rfl rfl rfl hb136 rfl rfl (OpP_idx sl29 (h31.mono RInt_mono l4_6) hy142 rfl rfl rfl ?_)
                 rintro b143 o143 _ hcb143 _ ⟨⟩
                 refine ⟨fun _ _ => ⟨hS.sat, hO⟩, ?_⟩; refine WD_opY rfl rfl rfl hb136 rfl rfl (OpP_val (zL na3 rfl (hS.sat.cell (hcb143 0 _ rfl))) rfl ?_); refine ⟨fun _ _ => ⟨hS.sat, hO⟩, ?_⟩; refine WD_opY rfl rfl rfl hb136 rfl rfl (OpP_val (rn_leq rfl rfl) rfl ?_); refine ⟨fun _ _ => ⟨hS.sat, hO⟩, ?_⟩; refine WD_opY rfl rfl rfl hb135 rfl rfl (OpP_val (rn_pickT (v := (.bool (decide (y138 ≤ y142)))) rfl hb136 rfl) rfl ?_); refine ⟨fun _ _ => ⟨hS.sat, hO⟩, ?_⟩; refine zE rfl rfl (OpP_val (rn_pickF (v := (.bool (decide (y138 ≤ y142)))) rfl hb135 rfl) rfl ?_); refine ⟨fun _ _ => ⟨hS.sat, hO⟩, ?_⟩; refine zE rfl rfl (OpP_val (zm (v := (.bool (decide (y138 ≤ y142)))) rfl) rfl ?_); refine ⟨fun _ _ => ⟨hS.sat, hO⟩, ?_⟩
                 rcases bcases (decide (y138 ≤ y142)) with hb144 | hb144
                 ·have H := ifT hb144 H; refine zJ rfl rfl hb144 rfl rfl rfl (fun _ _ => ⟨hS.sat, hO⟩) ?_; refine zJ rfl rfl hb144 rfl rfl rfl (fun _ _ => ⟨hS.sat, hO⟩) ?_; refine zJ rfl rfl hb144 rfl rfl rfl (fun _ _ => ⟨hS.sat, hO⟩) ?_; refine WD_undefS rfl rfl rfl rfl rfl (fun _ _ => ⟨hS.sat, hO⟩) ?_; refine zJ rfl rfl hb144 rfl rfl rfl (fun _ _ => ⟨hS.sat, hO⟩) ?_; refine zJ rfl rfl hb144 rfl rfl rfl (fun _ _ => ⟨hS.sat, hO⟩) ?_; refine WD_undefN rfl rfl rfl rfl rfl ?_; refine WD_undefN rfl rfl rfl rfl rfl ?_; refine WD_undefN rfl rfl rfl rfl rfl ?_; refine WD_undefN rfl rfl rfl rfl rfl ?_; refine WD_undefN rfl rfl rfl rfl rfl ?_; refine WD_undefN rfl rfl rfl rfl rfl ?_; refine WD_undefN rfl rfl rfl rfl rfl ?_; refine WD_undefN rfl rfl rfl rfl rfl ?_; refine WD_undefN rfl rfl rfl rfl rfl ?_; refine WD_undefS rfl rfl rfl rfl rfl (fun _ _ => ⟨hS.sat, hO⟩) ?_; refine WD_undefS rfl rfl rfl rfl rfl (fun _ _ => ⟨hS.sat, hO⟩) ?_; refine WD_undefS rfl rfl rfl rfl rfl (fun _ _ => ⟨hS.sat, hO⟩) ?_; refine WD_undefS rfl rfl rfl rfl rfl (fun _ _ => ⟨hS.sat, hO⟩) ?_; refine WD_undefS rfl rfl rfl rfl rfl (fun _ _ => ⟨hS.sat, hO⟩) ?_; refine WD_undefS rfl rfl rfl rfl rfl (fun _ _ => ⟨hS.sat, hO⟩) ?_
                  refine WD_undefS rfl rfl rfl rfl rfl (fun _ h => noneed (by kernel_rfl) h) ?_
                  refine zJ rfl rfl hb144 rfl rfl rfl (fun _ h => noneed (by kernel_rfl) h) ?_
                  refine zE rfl rfl (OpP_val (rn_pickT (v := (.bool true)) rfl hb144 rfl) rfl ?_)
                  refine ⟨fun _ h => noneed (by kernel_rfl) h, ?_⟩
                  refine zI ?_
                  have hO : Owns G122 w130 w0.heap.size ([⟨3, 1, nq41_0, .slice aq41_0 nq41_0 cq41_0, claq41_0⟩]) := hO
                  have H := oi H; subst H
                  exact ⟨_, G122, upds_self _ _ ⟨rfl, rfl, rfl, rfl, rfl, rfl, rfl, rfl, rfl, trivial⟩, Gle.refl _, hS, hO⟩
                 ·have H := ifF hb144 H; refine WD_opY rfl rfl rfl hb144 rfl rfl (OpP_val (zm (v := (.int .i64 s117)) rfl) rfl ?_); refine ⟨fun _ _ => ⟨hS.sat, hO⟩, ?_⟩; refine WD_opY rfl rfl rfl hb144 rfl rfl (OpP_val (rn_gtr rfl rfl) rfl ?_); refine ⟨fun _ _ => ⟨hS.sat, hO⟩, ?_⟩; refine WD_opY rfl rfl rfl hb144 rfl rfl (OpP_val (zm (v := (.bool (decide (0 < s117)))) rfl) rfl ?_); refine ⟨fun _ _ => ⟨hS.sat, hO⟩, ?_⟩; refine WD_opY rfl rfl rfl hb136 rfl rfl (OpP_val (zm (v := (.bool y26.1)) rfl) rfl ?_); refine ⟨fun _ _ => ⟨hS.sat, hO⟩, ?_⟩; refine WD_opY rfl rfl rfl hb144 rfl rfl (OpP_val (rn_pickT (v := (.bool y26.1)) rfl hb136 rfl) rfl ?_); refine ⟨fun _ _ => ⟨hS.sat, hO⟩, ?_⟩; refine WD_opY rfl rfl rfl hb144 rfl rfl (OpP_val (zm (v := (.bool y26.1)) rfl) rfl ?_); refine ⟨fun _ _ => ⟨hS.sat, hO⟩, ?_⟩
                  rcases bcases y26.1 with hb145 | hb145
                  ·have H := ifT hb145 H; refine zB rfl rfl hb145 rfl rfl (fun w hw => zm (v := (.slice a4 n4 c4)) rfl) rfl ?_; refine zB rfl rfl hb145 rfl rfl (fun w hw => zm (v := (.slice a25 n25 c25)) rfl) rfl ?_; refine zB rfl rfl hb145 rfl rfl (fun w hw => zm (v := (.int .i64 s117)) rfl) rfl ?_; refine WD_idxY rfl rfl hb145 rfl rfl sl29 (h25.mono RInt_mono l3_6) hy127 rfl rfl rfl ?_
                   rintro b146 o146 _ hcb146 _ ⟨⟩
                   refine zB rfl rfl hb145 rfl rfl (fun w hw => zL na3 rfl (hw.1.cell (hcb146 0 _ rfl))) rfl ?_; obtain ⟨y147, hy147, H⟩ := bnd H; refine WD_idxY rfl rfl hb145 rfl rfl sl29 (h4.mono RInt_mono l0_6) hy147 rfl rfl rfl ?_
                   rintro b148 o148 _ hcb148 _ ⟨⟩
                   refine zB rfl rfl hb145 rfl rfl (fun w hw => zL na3 rfl (hw.1.cell (hcb148 0 _ rfl))) rfl ?_; refine zB rfl rfl hb145 rfl rfl (fun w hw => zm (v := (.slice a4 n4 c4)) rfl) rfl ?_; refine zB rfl rfl hb145 rfl rfl (fun w hw => zm (v := (.slice a25 n25 c25)) rfl) rfl ?_; refine WD_opY rfl rfl rfl hb145 rfl rfl (OpP_val (zm (v := (.int .i64 s117)) rfl) rfl ?_); refine ⟨fun _ _ => ⟨hS.sat, hO⟩, ?_⟩; refine WD_opY rfl rfl rfl hb145 rfl rfl (OpP_val (rn_sub rfl rfl) rfl ?_); refine ⟨fun _ _ => ⟨hS.sat, hO⟩, ?_⟩; refine WD_opY rfl rfl rfl hb145 rfl rfl (OpP_idx sl29 (h25.mono RInt_mono l3_6) hy140 rfl rfl rfl ?_)
                   rintro b149 o149 _ hcb149 _ ⟨⟩
                   refine ⟨fun _ _ => ⟨hS.sat, hO⟩, ?_⟩; refine WD_opY rfl rfl rfl hb145 rfl rfl (OpP_val (zL na3 rfl (hS.sat.cell (hcb149 0 _ rfl))) rfl ?_); refine ⟨fun _ _ => ⟨hS.sat, hO⟩, ?_⟩; obtain ⟨y150, hy150, H⟩ := bnd H; refine WD_opY rfl rfl rfl hb145 rfl rfl (OpP_idx sl29 (h4.mono RInt_mono l0_6) hy150 rfl rfl rfl ?_)
                   rintro b151 o151 _ hcb151 _ ⟨⟩
                   refine ⟨fun _ _ => ⟨hS.sat, hO⟩, ?_⟩; refine WD_opY rfl rfl rfl hb145 rfl rfl (OpP_val (zL na3 rfl (hS.sat.cell (hcb151 0 _ rfl))) rfl ?_); refine ⟨fun _ _ => ⟨hS.sat, hO⟩, ?_⟩; refine WD_opY rfl rfl rfl hb145 rfl rfl (OpP_val (rn_leq rfl rfl) rfl ?_)
                   refine ⟨fun _ h => noneed (by kernel_rfl) h, ?_⟩
                   refine WD_opY rfl rfl rfl hb144 rfl rfl (OpP_val (rn_pickT (v := (.bool (decide (y147 ≤ y150)))) rfl hb145 rfl) rfl ?_)
                   refine ⟨fun _ h => noneed (by kernel_rfl) h, ?_⟩
                   refine zE rfl rfl (OpP_val (rn_pickF (v := (.bool (decide (y147 ≤ y150)))) rfl hb144 rfl) rfl ?_)
                   refine ⟨fun _ h => noneed (by kernel_rfl) h, ?_⟩
                   refine zI ?_
                   have hO : Owns G122 w130 w0.heap.size ([⟨3, 1, nq41_0, .slice aq41_0 nq41_0 cq41_0, claq41_0⟩]) := hO
                   have H := oi H; subst H
                   exact ⟨_, G122, upds_self _ _ ⟨rfl, rfl, rfl, rfl, rfl, rfl, rfl, rfl, rfl, trivial⟩, Gle.refl _, hS, hO⟩
                  ·have H := ifF hb145 H; refine zK rfl rfl hb145 rfl rfl rfl ?_; refine zK rfl rfl hb145 rfl rfl rfl ?_; refine zK rfl rfl hb145 rfl rfl rfl ?_; refine zK rfl rfl hb145 rfl rfl rfl ?_; refine zK rfl rfl hb145 rfl rfl rfl ?_; refine zK rfl rfl hb145 rfl rfl rfl ?_; refine zK rfl rfl hb145 rfl rfl rfl ?_; refine zK rfl rfl hb145 rfl rfl rfl ?_; refine zK rfl rfl hb145 rfl rfl rfl ?_; refine zJ rfl rfl hb145 rfl rfl rfl (fun _ _ => ⟨hS.sat, hO⟩) ?_; refine zJ rfl rfl hb145 rfl rfl rfl (fun _ _ => ⟨hS.sat, hO⟩) ?_; refine zJ rfl rfl hb145 rfl rfl rfl (fun _ _ => ⟨hS.sat, hO⟩) ?_; refine zJ rfl rfl hb145 rfl rfl rfl (fun _ _ => ⟨hS.sat, hO⟩) ?_; refine zJ rfl rfl hb145 rfl rfl rfl (fun _ _ => ⟨hS.sat, hO⟩) ?_; refine zJ rfl rfl hb145 rfl rfl rfl (fun _ _ => ⟨hS.sat, hO⟩) ?_
                   refine zJ rfl rfl hb145 rfl rfl rfl (fun _ h => noneed (by kernel_rfl) h) ?_
                   refine WD_opY rfl rfl rfl hb144 rfl rfl (OpP_val (rn_pickF (v := (.bool false)) rfl hb145 rfl) rfl ?_)
                   refine ⟨fun _ h => noneed (by kernel_rfl) h, ?_⟩
                   refine zE rfl rfl (OpP_val (rn_pickF (v := (.bool false)) rfl hb144 rfl) rfl ?_)
                   refine ⟨fun _ h => noneed (by kernel_rfl) h, ?_⟩
                   refine zI ?_
                   have hO : Owns G122 w130 w0.heap.size ([⟨3, 1, nq41_0, .slice aq41_0 nq41_0 cq41_0, claq41_0⟩]) := hO
                   have H := oi H; subst H
                   exact ⟨_, G122, upds_self _ _ ⟨rfl, rfl, rfl, rfl, rfl, rfl, rfl, rfl, rfl, trivial⟩, Gle.refl _, hS, hO⟩
                ·have H := ifF hb136 H; refine zK rfl rfl hb136 rfl rfl rfl ?_; refine zK rfl rfl hb136 rfl rfl rfl ?_; refine zK rfl rfl hb136 rfl rfl rfl ?_; refine zK rfl rfl hb136 rfl rfl rfl ?_; refine zK rfl rfl hb136 rfl rfl rfl ?_; refine zK rfl rfl hb136 rfl rfl rfl ?_; refine zK rfl rfl hb136 rfl rfl rfl ?_; refine zK rfl rfl hb136 rfl rfl rfl ?_; refine zK rfl rfl hb136 rfl rfl rfl ?_; refine zJ rfl rfl hb136 rfl rfl rfl (fun _ _ => ⟨hS.sat, hO⟩) ?_; refine zJ rfl rfl hb136 rfl rfl rfl (fun _ _ => ⟨hS.sat, hO⟩) ?_; refine zJ rfl rfl hb136 rfl rfl rfl (fun _ _ => ⟨hS.sat, hO⟩) ?_; refine zJ rfl rfl hb136 rfl rfl rfl (fun _ _ => ⟨hS.sat, hO⟩) ?_; refine zJ rfl rfl hb136 rfl rfl rfl (fun _ _ => ⟨hS.sat, hO⟩) ?_; refine zJ rfl rfl hb136 rfl rfl rfl (fun _ _ => ⟨hS.sat, hO⟩) ?_; refine zJ rfl rfl hb136 rfl rfl rfl (fun _ _ => ⟨hS.sat, hO⟩) ?_; refine WD_opY rfl rfl rfl hb135 rfl rfl (OpP_val (rn_pickF (v := (.bool false)) rfl hb136 rfl) rfl ?_); refine ⟨fun _ _ => ⟨hS.sat, hO⟩, ?_⟩; refine zE rfl rfl (OpP_val (rn_pickF (v := (.bool false)) rfl hb135 rfl) rfl ?_); refine ⟨fun _ _ => ⟨hS.sat, hO⟩, ?_⟩; refine zE rfl rfl (OpP_val (zm (v := (.bool false)) rfl) rfl ?_); refine ⟨fun _ _ => ⟨hS.sat, hO⟩, ?_⟩; refine WD_opY rfl rfl rfl rfl rfl rfl (OpP_val (zm (v := (.int .i64 s117)) rfl) rfl ?_); refine ⟨fun _ _ => ⟨hS.sat, hO⟩, ?_⟩; refine WD_opY rfl rfl rfl rfl rfl rfl (OpP_val (rn_gtr rfl rfl) rfl ?_); refine ⟨fun _ _ => ⟨hS.sat, hO⟩, ?_⟩; refine WD_opY rfl rfl rfl rfl rfl rfl (OpP_val (zm (v := (.bool (decide (0 < s117)))) rfl) rfl ?_); refine ⟨fun _ _ => ⟨hS.sat, hO⟩, ?_⟩; refine zJ rfl rfl hb136 rfl rfl rfl (fun _ _ => ⟨hS.sat, hO⟩) ?_; refine WD_opY rfl rfl rfl rfl rfl rfl (OpP_val (rn_pickF (v := (.bool false)) rfl hb136 rfl) rfl ?_); refine ⟨fun _ _ => ⟨hS.sat, hO⟩, ?_⟩; refine WD_opY rfl rfl rfl rfl rfl rfl (OpP_val (zm (v := (.bool false)) rfl) rfl ?_); refine ⟨fun _ _ => ⟨hS.sat, hO⟩, ?_⟩; refine zK rfl rfl rfl rfl rfl rfl ?_; refine zK rfl rfl rfl rfl rfl rfl ?_; refine zK rfl rfl rfl rfl rfl rfl ?_; refine zK rfl rfl rfl rfl rfl rfl ?_; refine zK rfl rfl rfl rfl rfl rfl ?_; refine zK rfl rfl rfl rfl rfl rfl ?_; refine zK rfl rfl rfl rfl rfl rfl ?_; refine zK rfl rfl rfl rfl rfl rfl ?_; refine zK rfl rfl rfl rfl rfl rfl ?_; refine zJ rfl rfl rfl rfl rfl rfl (fun _ _ => ⟨hS.sat, hO⟩) ?_; refine zJ rfl rfl rfl rfl rfl rfl (fun _ _ => ⟨hS.sat, hO⟩) ?_; refine zJ rfl rfl rfl rfl rfl rfl (fun _ _ => ⟨hS.sat, hO⟩) ?_; refine zJ rfl rfl rfl rfl rfl rfl (fun _ _ => ⟨hS.sat, hO⟩) ?_; refine zJ rfl rfl rfl rfl rfl rfl (fun _ _ => ⟨hS.sat, hO⟩) ?_; refine zJ rfl rfl rfl rfl rfl rfl (fun _ _ => ⟨hS.sat, hO⟩) ?_
                 refine zJ rfl rfl rfl rfl rfl rfl (fun _ h => noneed (by kernel_rfl) h) ?_
                 refine WD_opY rfl rfl rfl rfl rfl rfl (OpP_val (rn_pickF (v := (.bool false)) rfl rfl rfl) rfl ?_)
                 refine ⟨fun _ h => noneed (by kernel_rfl) h, ?_⟩
                 refine zE rfl rfl (OpP_val (rn_pickF (v := (.bool false)) rfl rfl rfl) rfl ?_)
                 refine ⟨fun _ h => noneed (by kernel_rfl) h, ?_⟩
                 refine zI ?_
                 have hO : Owns G122 w130 w0.heap.size ([⟨3, 1, nq41_0, .slice aq41_0 nq41_0 cq41_0, claq41_0⟩]) := hO
                 have H := oi H; subst H
                 exact ⟨_, G122, upds_self _ _ ⟨rfl, rfl, rfl, rfl, rfl, rfl, rfl, rfl, rfl, trivial⟩, Gle.refl _, hS, hO⟩
             ·rintro F w152 ⟨Fb, G153, rfl, leG153, hS, hO⟩
              refine zT rfl (fun hb154 => ?_) (fun hb154 => ?_)
              ·have H := ifT hb154 H; refine zS ?_; refine zV (zA (v := (.bool false)) rfl) rfl ?_; refine zN ?_; refine WC_ret ?_; have H := oi H; subst H; have H := Hoq124; have H := oi H; subst H
               have hres := hqq119 _ rfl
               subst hres; have H := Hoq119
               have H : some false = some r := H
               have H := oi H; subst H
               exact ⟨rfl, hS.below⟩
              ·have H := ifF hb154 H; refine zP ?_; refine zQ ?_; refine zQ ?_; obtain ⟨q155, hq155, H⟩ := bnd H; refine zM (fun F w => ∃ (Fb : Fr), F = upds Fb [(1, .int .i64 x1), (2, .slice a4 n4 c4), (3, .pointer (some ⟨b5, 0, none⟩)), (7, .slice a25 n25 c25), (8, .int .i64 y22.2.1), (10, .bool y26.1), (12, .slice a31 n31 c31), (20, .int .i64 s117), (244, .bool q155)] ∧ w152 = w) ?_ ?_
               ·have Hoq155 := H; have H := hq155; refine zR ?_; refine zV (zm (v := (.int .i64 s117)) rfl) rfl ?_; refine zV (rn_eql rfl rfl) rfl ?_; refine zV (zm (v := (.bool (s117 == 0))) rfl) rfl ?_
                rcases bcases (s117 == 0) with hb156 | hb156
                ·have H := ifT hb156 H; refine zG rfl hb156 rfl rfl rfl ?_; refine zG rfl hb156 rfl rfl rfl ?_; refine zG rfl hb156 rfl rfl rfl ?_; refine WL_guardU rfl rfl rfl rfl ?_; refine WL_guardU rfl rfl rfl rfl ?_; refine WL_guardU rfl rfl rfl rfl ?_; refine zG rfl hb156 rfl rfl rfl ?_; refine zV (rn_pickT (v := (.bool true)) rfl hb156 rfl) rfl ?_; refine zN ?_; have H := oi H; subst H
                 exact ⟨_, upds_self _ _ ⟨rfl, rfl, rfl, rfl, rfl, rfl, rfl, rfl, rfl, trivial⟩, rfl⟩
                ·have H := ifF hb156 H; refine zY rfl hb156 rfl rfl ?_; refine zV (zm (v := (.int .i64 y22.2.1)) rfl) rfl ?_; refine zY rfl hb156 rfl rfl ?_; refine zV (rn_geq rfl rfl) rfl ?_; refine zY rfl hb156 rfl rfl ?_; refine zV (zm (v := (.bool (decide (0 ≤ y22.2.1)))) rfl) rfl ?_
                 rcases bcases (decide (0 ≤ y22.2.1)) with hb157 | hb157
                 ·have H := ifT hb157 H; refine zY rfl hb157 rfl rfl ?_; refine zV (zm (v := (.int .i64 s117)) rfl) rfl ?_; refine zY rfl hb157 rfl rfl ?_; refine zV (zm (v := (.int .i64 y22.2.1)) rfl) rfl ?_; refine zY rfl hb157 rfl rfl ?_; refine zV (rn_gtr rfl rfl) rfl ?_; refine zY rfl hb156 rfl rfl ?_; refine zV (rn_pickT (v := (.bool (decide (y22.2.1 < s117)))) rfl hb157 rfl) rfl ?_; refine zV (rn_pickF (v := (.bool (decide (y22.2.1 < s117)))) rfl hb156 rfl) rfl ?_; refine zN ?_; have H := oi H; subst H
                  exact ⟨_, upds_self _ _ ⟨rfl, rfl, rfl, rfl, rfl, rfl, rfl, rfl, rfl, trivial⟩, rfl⟩
                 ·have H := ifF hb157 H; refine zG rfl hb157 rfl rfl rfl ?_; refine zG rfl hb157 rfl rfl rfl ?_; refine zG rfl hb157 rfl rfl rfl ?_; refine zY rfl hb156 rfl rfl ?_; refine zV (rn_pickF (v := (.bool false)) rfl hb157 rfl) rfl ?_; refine zV (rn_pickF (v := (.bool false)) rfl hb156 rfl) rfl ?_; refine zN ?_; have H := oi H; subst H
                  exact ⟨_, upds_self _ _ ⟨rfl, rfl, rfl, rfl, rfl, rfl, rfl, rfl, rfl, trivial⟩, rfl⟩
               ·rintro F wl ⟨Fb, rfl, rfl⟩
                refine zT rfl (fun hb160 => ?_) (fun hb160 => ?_)
                ·have H := ifT hb160 H; refine WC_exit rfl ?_
                 have hO : Owns G153 w152 w0.heap.size ([⟨3, 1, nq41_0, .slice aq41_0 nq41_0 cq41_0, claq41_0⟩]) := hO
                 have H := oi H; subst H
                 exact ⟨_, _, G153, rfl, upds_self _ _ ⟨rfl, rfl, rfl, rfl, rfl, rfl, rfl, rfl, trivial⟩, leG153, hS, hO⟩
                ·have H := ifF hb160 H; refine zP ?_; refine zS ?_; refine zV (zA (v := (.bool false)) rfl) rfl ?_; refine zN ?_; refine zQ ?_; have hS := hS.keep (below_drew _); have hO := hO.below (below_drew _)
                 refine WC_regionD mixedO (fun _ w => Sat G153 w ∧ Owns G153 w w0.heap.size [⟨3, 1, nq41_0, .slice aq41_0 nq41_0 cq41_0, claq41_0⟩]) (.fl 0 (.fl 1 (.fl 2 (.fl 3 (.on 4 (.on 5 (.on 6 (.on 7 (.on 8 (.on 9 (.on 10 (.on 11 (.on 12 (.fl 13 (.fl 14 (.on 15 (.on 16 .nil))))))))))))))))) (by kernel_rfl) rfl (by kernel_rfl) (fun _ => ⟨hS.sat, hO⟩) ?_
                 refine zD rfl (fun w hw => rn_loadA ag26 (cs := [.slice a1 n1 c1, .slice a2 n2 c2, .slice a3 n3 c3]) rfl rfl (fun j v hj => (hw.1.le ((l1_3.trans l3_6).trans leG153)).cell (hcb5.drop_take 0 3 j v hj))) rfl ?_; refine zD rfl (fun w hw => zF fd26_1 rfl) rfl ?_; refine zD rfl (fun w hw => zL na23 rfl ((hw.1.le ((l1_3.trans l3_6).trans leG153)).cell (hcb5 1 _ rfl))) rfl ?_; refine zD rfl (fun w hw => zm (v := (.slice a25 n25 c25)) rfl) rfl ?_; refine zE rfl rfl (OpP_val (zm (v := (.int .i64 s117)) rfl) rfl ?_); refine ⟨fun _ _ => ⟨hS.sat, hO⟩, ?_⟩; refine zE rfl rfl (OpP_val (rn_sub rfl rfl) rfl ?_); refine ⟨fun _ _ => ⟨hS.sat, hO⟩, ?_⟩; obtain ⟨y161, hy161, H⟩ := bnd H
                 have l3_7 := l3_6.trans leG153
                 refine zE rfl rfl (OpP_idx sl29 (h25.mono RInt_mono l3_7) hy161 rfl rfl rfl ?_)
                 rintro b162 o162 _ hcb162 _ ⟨⟩
                 refine ⟨fun _ _ => ⟨hS.sat, hO⟩, ?_⟩; refine zE rfl rfl (OpP_val (zL na3 rfl (hS.sat.cell (hcb162 0 _ rfl))) rfl ?_); refine ⟨fun _ _ => ⟨hS.sat, hO⟩, ?_⟩; obtain ⟨y163, hy163, H⟩ := bnd H
                 have l0_7 := l0_3.trans l3_7
                 refine zE rfl rfl (OpP_idx sl23 (h2.mono RTLandEvent_mono l0_7) hy163 rfl rfl rfl ?_)
                 rintro b164 o164 _ hcb164 _ ⟨⟩
                 refine ⟨fun _ _ => ⟨hS.sat, hO⟩, ?_⟩; refine zE rfl rfl (OpP_val (zF fd69_1 rfl) rfl ?_); refine ⟨fun _ _ => ⟨hS.sat, hO⟩, ?_⟩; refine zE rfl rfl (OpP_val (zL na3 rfl (hS.sat.cell (hcb164 1 _ rfl))) rfl ?_); refine ⟨fun _ _ => ⟨hS.sat, hO⟩, ?_⟩; obtain ⟨y165, hy165, H⟩ := bnd H; refine zE rfl rfl (OpP_callG cb37 (f37_ok (x0 := x0) (x1 := y163.Holder) hS.sat (h1.mono RTLandPerson_mono l0_7) (h2.mono RTLandEvent_mono l0_7) (h3.mono RTLandMemory_mono l0_7) hy165) rfl rfl (fun vy165 G167 w166 hg hvy165 => ?_)); obtain ⟨a168, n168, c168, ⟨⟩, h168⟩ := hvy165; have hS := hS.grow hg; have hO := hO.grow hg
                 have leG167 := hg.le
                 refine ⟨fun _ _ => ⟨hS.sat.le leG167, hO.le leG167⟩, ?_⟩; refine zE rfl rfl (OpP_val (zm (v := (.tuple #[.slice a168 n168 c168, .int .i64 y165.2])) rfl) rfl ?_); refine ⟨fun _ _ => ⟨hS.sat.le leG167, hO.le leG167⟩, ?_⟩; refine zD rfl (fun w hw => zX (v := (.slice a168 n168 c168)) rfl rfl) rfl ?_; refine zD rfl (fun w hw => zX (v := (.int .i64 y165.2)) rfl rfl) rfl ?_; refine zE rfl rfl (OpP_val (zA (v := (.slice a168 n168 c168)) rfl) rfl ?_); refine ⟨fun _ _ => ⟨hS.sat.le leG167, hO.le leG167⟩, ?_⟩; refine zE rfl rfl (OpP_val (zA (v := (.int .i64 y165.2)) rfl) rfl ?_)
                 refine ⟨fun _ h => noneed (by kernel_rfl) h, ?_⟩
                 refine zI ?_; refine zQ ?_; refine zS ?_; refine zV (zA (v := (.int .i64 0)) rfl) rfl ?_; refine zN ?_; obtain ⟨q171, hq171, H⟩ := bnd H; refine zM (fun F w => ∃ (Fb : Fr) (G : Gm), F = upds Fb [(1, .int .i64 x1), (2, .slice a4 n4 c4), (3, .pointer (some ⟨b5, 0, none⟩)), (7, .slice a25 n25 c25), (8, .int .i64 y22.2.1), (10, .bool y26.1), (12, .slice a31 n31 c31), (20, .int .i64 s117), (21, .bool q171), (23, .int .i64 y165.2)] ∧ Gle G167 G ∧ Since w0.heap.size G0 w0 G w ∧ Owns G w w0.heap.size [⟨3, 1, nq41_0, .slice aq41_0 nq41_0 cq41_0, claq41_0⟩]) ?_ ?_
                 ·refine WC_block (WC_loop hq171 (fun s169 F w => ∃ (Fb : Fr) (G : Gm), F = upds Fb [(1, .int .i64 x1), (2, .slice a4 n4 c4), (3, .pointer (some ⟨b5, 0, none⟩)), (7, .slice a25 n25 c25), (8, .int .i64 y22.2.1), (10, .bool y26.1), (12, .slice a31 n31 c31), (20, .int .i64 s117), (21, .bool s169.1), (22, .slice a168 n168 c168), (23, .int .i64 y165.2), (24, .int .i64 s169.2)] ∧ Gle G167 G ∧ Since w0.heap.size G0 w0 G w ∧ Owns G w w0.heap.size [⟨3, 1, nq41_0, .slice aq41_0 nq41_0 cq41_0, claq41_0⟩]) ?_ ?_)
                  ·have hO : Owns G167 w166 w0.heap.size ([⟨3, 1, nq41_0, .slice aq41_0 nq41_0 cq41_0, claq41_0⟩]) := hO
                   exact ⟨_, G167, upds_self _ _ ⟨rfl, rfl, rfl, rfl, rfl, rfl, rfl, rfl, rfl, rfl, rfl, rfl, trivial⟩, Gle.refl _, hS, hO⟩
                  ·rintro s169 F w173 t172 ⟨Fb, G174, rfl, leG174, hS, hO⟩
                   intro H1 hqq171
                   have Hoq171 := H; have H := H1
                   unfold f13_b4 at H
                   refine zQ ?_; refine zS ?_; refine zV (zm (v := (.int .i64 s169.2)) rfl) rfl ?_; refine zV (zm (v := (.slice a168 n168 c168)) rfl) rfl ?_; refine zV (rn_len sl29 rfl rfl (h168.mono RInt_mono leG174).1) rfl ?_; refine zV (rn_lss rfl rfl) rfl ?_; refine zN ?_; refine zT rfl (fun hb175 => ?_) (fun hb175 => ?_)
                   ·have H := ifT hb175 H; refine zP ?_; refine zQ ?_; obtain ⟨q176, hq176, H⟩ := bnd H; refine zM (fun F w => ∃ (Fb : Fr) (G : Gm), F = upds Fb [(1, .int .i64 x1), (2, .slice a4 n4 c4), (3, .pointer (some ⟨b5, 0, none⟩)), (7, .slice a25 n25 c25), (8, .int .i64 y22.2.1), (10, .bool y26.1), (12, .slice a31 n31 c31), (20, .int .i64 s117), (21, .bool q176), (22, .slice a168 n168 c168), (23, .int .i64 y165.2), (24, .int .i64 s169.2)] ∧ Gle G174 G ∧ Since w0.heap.size G0 w0 G w ∧ Owns G w w0.heap.size [⟨3, 1, nq41_0, .slice aq41_0 nq41_0 cq41_0, claq41_0⟩]) ?_ ?_
                    ·have Hoq176 := H; have H := hq176; refine WC_block ?_; have hS := hS.keep (below_drew _); have hO := hO.below (below_drew _)
                     refine WC_regionD mixedO (fun _ w => Sat G174 w ∧ Owns G174 w w0.heap.size [⟨3, 1, nq41_0, .slice aq41_0 nq41_0 cq41_0, claq41_0⟩]) (.on 0 (.on 1 (.fl 2 (.fl 3 (.fl 4 (.fl 5 (.fl 6 (.fl 7 (.fl 8 (.on 9 (.on 10 (.on 11 (.on 12 (.on 13 (.on 14 (.on 15 (.on 16 (.on 17 .nil)))))))))))))))))) (by kernel_rfl) rfl (by kernel_rfl) (fun _ => ⟨hS.sat, hO⟩) ?_
                     refine zE rfl rfl (OpP_val (zm (v := (.bool s169.1)) rfl) rfl ?_); refine ⟨fun _ _ => ⟨hS.sat, hO⟩, ?_⟩; refine zE rfl rfl (OpP_val (zm (v := (.bool s169.1)) rfl) rfl ?_); refine ⟨fun _ _ => ⟨hS.sat, hO⟩, ?_⟩
                     rcases bcases s169.1 with hb177 | hb177
                     ·have H := ifT hb177 H; refine zK rfl rfl hb177 rfl rfl rfl ?_; refine zK rfl rfl hb177 rfl rfl rfl ?_; refine zK rfl rfl hb177 rfl rfl rfl ?_; refine zK rfl rfl hb177 rfl rfl rfl ?_; refine zK rfl rfl hb177 rfl rfl rfl ?_; refine zK rfl rfl hb177 rfl rfl rfl ?_; refine zK rfl rfl hb177 rfl rfl rfl ?_; refine zJ rfl rfl hb177 rfl rfl rfl (fun _ _ => ⟨hS.sat, hO⟩) ?_; refine zJ rfl rfl hb177 rfl rfl rfl (fun _ _ => ⟨hS.sat, hO⟩) ?_; refine zJ rfl rfl hb177 rfl rfl rfl (fun _ _ => ⟨hS.sat, hO⟩) ?_; refine zJ rfl rfl hb177 rfl rfl rfl (fun _ _ => ⟨hS.sat, hO⟩) ?_; refine zJ rfl rfl hb177 rfl rfl rfl (fun _ _ => ⟨hS.sat, hO⟩) ?_; refine zJ rfl rfl hb177 rfl rfl rfl (fun _ _ => ⟨hS.sat, hO⟩) ?_
                      refine zJ rfl rfl hb177 rfl rfl rfl (fun _ h => noneed (by kernel_rfl) h) ?_
                      refine zE rfl rfl (OpP_val (rn_pickT (v := (.bool true)) rfl hb177 rfl) rfl ?_)
                      refine ⟨fun _ h => noneed (by kernel_rfl) h, ?_⟩
                      refine zE rfl rfl (OpP_val (zA (v := (.bool true)) rfl) rfl ?_)
                      refine ⟨fun _ h => noneed (by kernel_rfl) h, ?_⟩
                      refine zI ?_
                      have hO : Owns G174 w173.drew w0.heap.size ([⟨3, 1, nq41_0, .slice aq41_0 nq41_0 cq41_0, claq41_0⟩]) := hO
                      have H := oi H; subst H
                      exact ⟨_, G174, upds_self _ _ ⟨rfl, rfl, rfl, rfl, rfl, rfl, rfl, rfl, rfl, rfl, rfl, rfl, trivial⟩, Gle.refl _, hS, hO⟩
                     ·have H := ifF hb177 H; refine zB rfl rfl hb177 rfl rfl (fun w hw => zm (v := (.slice a168 n168 c168)) rfl) rfl ?_; refine zB rfl rfl hb177 rfl rfl (fun w hw => zm (v := (.int .i64 s169.2)) rfl) rfl ?_; obtain ⟨y178, hy178, H⟩ := bnd H; refine WD_idxY rfl rfl hb177 rfl rfl sl29 (h168.mono RInt_mono leG174) hy178 rfl rfl rfl ?_
                      rintro b179 o179 _ hcb179 _ ⟨⟩
                      refine zB rfl rfl hb177 rfl rfl (fun w hw => zL na3 rfl (hw.1.cell (hcb179 0 _ rfl))) rfl ?_; refine zB rfl rfl hb177 rfl rfl (fun w hw => zF fd26_1 rfl) rfl ?_; refine zB rfl rfl hb177 rfl rfl (fun w hw => zL na23 rfl ((hw.1.le (((l1_3.trans l3_7).trans leG167).trans leG174)).cell (hcb5 1 _ rfl))) rfl ?_; refine zB rfl rfl hb177 rfl rfl (fun w hw => zm (v := (.slice a25 n25 c25)) rfl) rfl ?_; refine WD_opY rfl rfl rfl hb177 rfl rfl (OpP_val (zm (v := (.int .i64 s117)) rfl) rfl ?_); refine ⟨fun _ _ => ⟨hS.sat, hO⟩, ?_⟩; obtain ⟨y180, hy180, H⟩ := bnd H
                      have l3_9 := (l3_7.trans leG167).trans leG174
                      refine WD_opY rfl rfl rfl hb177 rfl rfl (OpP_idx sl29 (h25.mono RInt_mono l3_9) hy180 rfl rfl rfl ?_)
                      rintro b181 o181 _ hcb181 _ ⟨⟩
                      refine ⟨fun _ _ => ⟨hS.sat, hO⟩, ?_⟩; refine WD_opY rfl rfl rfl hb177 rfl rfl (OpP_val (zL na3 rfl (hS.sat.cell (hcb181 0 _ rfl))) rfl ?_); refine ⟨fun _ _ => ⟨hS.sat, hO⟩, ?_⟩; obtain ⟨y182, hy182, H⟩ := bnd H
                      have l0_9 := (l0_7.trans leG167).trans leG174
                      refine WD_opY rfl rfl rfl hb177 rfl rfl (OpP_idx sl23 (h2.mono RTLandEvent_mono l0_9) hy182 rfl rfl rfl ?_)
                      rintro b183 o183 _ hcb183 _ ⟨⟩
                      refine ⟨fun _ _ => ⟨hS.sat, hO⟩, ?_⟩; refine WD_opY rfl rfl rfl hb177 rfl rfl (OpP_val (zF fd69_1 rfl) rfl ?_); refine ⟨fun _ _ => ⟨hS.sat, hO⟩, ?_⟩; refine WD_opY rfl rfl rfl hb177 rfl rfl (OpP_val (zL na3 rfl (hS.sat.cell (hcb183 1 _ rfl))) rfl ?_); refine ⟨fun _ _ => ⟨hS.sat, hO⟩, ?_⟩; refine WD_opY rfl rfl rfl hb177 rfl rfl (OpP_val (rn_eql rfl rfl) rfl ?_)
                      refine ⟨fun _ h => noneed (by kernel_rfl) h, ?_⟩
                      refine zE rfl rfl (OpP_val (rn_pickF (v := (.bool (y178 == y182.Holder))) rfl hb177 rfl) rfl ?_)
                      refine ⟨fun _ h => noneed (by kernel_rfl) h, ?_⟩
                      refine zE rfl rfl (OpP_val (zA (v := (.bool (y178 == y182.Holder))) rfl) rfl ?_)
                      refine ⟨fun _ h => noneed (by kernel_rfl) h, ?_⟩
                      refine zI ?_
                      have hO : Owns G174 w173.drew w0.heap.size ([⟨3, 1, nq41_0, .slice aq41_0 nq41_0 cq41_0, claq41_0⟩]) := hO
                      have H := oi H; subst H
                      exact ⟨_, G174, upds_self _ _ ⟨rfl, rfl, rfl, rfl, rfl, rfl, rfl, rfl, rfl, rfl, rfl, rfl, trivial⟩, Gle.refl _, hS, hO⟩
                    ·rintro F w184 ⟨Fb, G185, rfl, leG185, hS, hO⟩
                     refine zR ?_; refine zV (zm (v := (.int .i64 s169.2)) rfl) rfl ?_; refine zV (rn_add rfl rfl) rfl ?_; refine zV (zA (v := (.int .i64 (IntKind.i64.wrap (s169.2 + 1)))) rfl) rfl ?_; refine zN ?_
                     have hO : Owns G185 w184 w0.heap.size ([⟨3, 1, nq41_0, .slice aq41_0 nq41_0 cq41_0, claq41_0⟩]) := hO
                     have H := oi H; subst H; refine ⟨_, rfl, ?_⟩
                     have l8_10 := leG174.trans leG185
                     exact ⟨_, G185, upds_self _ _ ⟨rfl, rfl, rfl, rfl, rfl, rfl, rfl, rfl, rfl, rfl, rfl, rfl, trivial⟩, l8_10, hS, hO⟩
                   ·have H := ifF hb175 H; refine WC_exit rfl ?_
                    have hO : Owns G174 w173 w0.heap.size ([⟨3, 1, nq41_0, .slice aq41_0 nq41_0 cq41_0, claq41_0⟩]) := hO
                    have H := oi H; subst H
                    have hres := hqq171 _ rfl
                    subst hres
                    exact ⟨_, G174, upds_self _ _ ⟨rfl, rfl, rfl, rfl, rfl, rfl, rfl, rfl, rfl, rfl, trivial⟩, leG174, hS, hO⟩
                 ·rintro F w186 ⟨Fb, G187, rfl, leG187, hS, hO⟩
                  refine zQ ?_; obtain ⟨q188, hq188, H⟩ := bnd H; refine zM (fun F w => ∃ (Fb : Fr), F = upds Fb [(1, .int .i64 x1), (2, .slice a4 n4 c4), (3, .pointer (some ⟨b5, 0, none⟩)), (7, .slice a25 n25 c25), (8, .int .i64 y22.2.1), (10, .bool y26.1), (12, .slice a31 n31 c31), (20, .int .i64 s117), (291, .bool q188)] ∧ w186 = w) ?_ ?_
                  ·have Hoq188 := H; have H := hq188; refine zR ?_; refine zV (zm (v := (.int .i64 y165.2)) rfl) rfl ?_; refine zV (rn_neq rfl rfl) rfl ?_; refine zV (zm (v := (.bool (y165.2 != 0))) rfl) rfl ?_
                   rcases bcases (y165.2 != 0) with hb189 | hb189
                   ·have H := ifT hb189 H; refine zG rfl hb189 rfl rfl rfl ?_; refine zG rfl hb189 rfl rfl rfl ?_; refine zG rfl hb189 rfl rfl rfl ?_; refine zG rfl hb189 rfl rfl rfl ?_; refine zG rfl hb189 rfl rfl rfl ?_; refine zV (rn_pickT (v := (.bool true)) rfl hb189 rfl) rfl ?_; refine zN ?_; have H := oi H; subst H
                    exact ⟨_, upds_self _ _ ⟨rfl, rfl, rfl, rfl, rfl, rfl, rfl, rfl, rfl, trivial⟩, rfl⟩
                   ·have H := ifF hb189 H; refine zY rfl hb189 rfl rfl ?_; refine zV (zm (v := (.bool q171)) rfl) rfl ?_; refine zY rfl hb189 rfl rfl ?_; refine zV (zm (v := (.int .i64 s117)) rfl) rfl ?_; refine zY rfl hb189 rfl rfl ?_; refine zV (zm (v := (.int .i64 y22.2.1)) rfl) rfl ?_; refine zY rfl hb189 rfl rfl ?_; refine zV (rn_neq rfl rfl) rfl ?_; refine zY rfl hb189 rfl rfl ?_; refine zV (rn_neqB Tryd.underlying4 rfl rfl) rfl ?_; refine zV (rn_pickF (v := (.bool (!(q171 == (s117 != y22.2.1))))) rfl hb189 rfl) rfl ?_; refine zN ?_; have H := oi H; subst H
                    exact ⟨_, upds_self _ _ ⟨rfl, rfl, rfl, rfl, rfl, rfl, rfl, rfl, rfl, trivial⟩, rfl⟩
                  ·rintro F wl ⟨Fb, rfl, rfl⟩
                   refine zT rfl (fun hb192 => ?_) (fun hb192 => ?_)
                   ·have H := ifT hb192 H; refine zS ?_; refine zV (zA (v := (.bool false)) rfl) rfl ?_; refine zN ?_; refine WC_ret ?_; have H := oi H; subst H; have H := Hoq124; have H := oi H; subst H
                    have hres := hqq119 _ rfl
                    subst hres; have H := Hoq119
                    have H : some false = some r := H
                    have H := oi H; subst H
                    exact ⟨rfl, hS.below⟩
                   ·have H := ifF hb192 H; refine zP ?_
                    have hO : Owns G187 w186 w0.heap.size ([⟨3, 1, nq41_0, .slice aq41_0 nq41_0 cq41_0, claq41_0⟩]) := hO
                    have H := oi H; subst H
                    have l6_9 := (leG153.trans leG167).trans leG187
                    exact ⟨_, _, G187, rfl, upds_self _ _ ⟨rfl, rfl, rfl, rfl, rfl, rfl, rfl, rfl, trivial⟩, l6_9, hS, hO⟩
            ·rintro F w193 ⟨p125, Fb, G194, rfl, rfl, leG194, hS, hO⟩
             refine zR ?_; refine zV (zm (v := (.int .i64 s117)) rfl) rfl ?_; refine zV (rn_add rfl rfl) rfl ?_; refine zV (zA (v := (.int .i64 (IntKind.i64.wrap (s117 + 1)))) rfl) rfl ?_; refine zN ?_
             have hO : Owns G194 w193 w0.heap.size ([⟨3, 1, nq41_0, .slice aq41_0 nq41_0 cq41_0, claq41_0⟩]) := hO
             have H := oi H; subst H; refine ⟨_, rfl, ?_⟩
             have l5_7 := leG122.trans leG194
             exact ⟨_, G194, upds_self _ _ ⟨rfl, rfl, rfl, rfl, rfl, rfl, rfl, rfl, trivial⟩, l5_7, hS, hO⟩
           ·have H := ifF hb123 H; refine WC_exit rfl ?_
            have hO : Owns G122 w121 w0.heap.size ([⟨3, 1, nq41_0, .slice aq41_0 nq41_0 cq41_0, claq41_0⟩]) := hO
            have H := oi H; subst H
            have hres := hqq119 _ rfl
            subst hres
            exact ⟨_, _, G122, rfl, rfl, leG122, hS, hO⟩
         ·rintro F w196 ⟨p118, Fb, G197, rfl, rfl, leG197, hS, hO⟩
          refine zS ?_; obtain ⟨y198, hy198, H⟩ := bnd H
          have l0_6 := ((l0_3.trans leG30).trans leG58).trans leG197
          refine zO rfl (zC cb15 (f15_ok  hS.sat (hT.mono l0_6)  hy198) rfl rfl (fun w199 hb => ?_)); have hS := hS.keep hb; have hO := hO.below hb; refine zV (zA (v := (.bool y198)) rfl) rfl ?_; refine zN ?_; refine WC_ret ?_
          have H : some y198 = some r := H
          have H := oi H; subst H
          exact ⟨rfl, hS.below⟩
end Go.Proofs.YtcaflmilfhhikaaDoor
