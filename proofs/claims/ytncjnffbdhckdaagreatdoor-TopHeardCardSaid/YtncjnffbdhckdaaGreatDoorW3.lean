/-
 The walks: each Go function computes its plain function (printed by a program of ours).
-/
import Derived.Test.YtncjnffbdhckdaaGreatDoorRd
import Derived.Test.YtncjnffbdhckdaaGreatDoorBsC
import Derived.Test.YtncjnffbdhckdaaGreatDoorW2
namespace Go.Proofs.YtncjnffbdhckdaaGreatDoor
open Go.RowKit
set_option linter.unusedVariables false
set_option maxRecDepth 20000
set_option linter.unusedVariables false
set_option maxHeartbeats 1000000 in
theorem f86_ok {G0 : Gm} {w0 : World} (hS0 : Sat G0 w0) {x0 : TLandBook} {bq0 : Nat} {rm4 : Nat} {a1 : Option Addr} {n1 c1 : Nat} {a2 : Option Addr} {n2 c2 : Nat} {a3 : Option Addr} {n3 c3 : Nat} {x1 : Int} {x2 : Int} (hcq0 : Cells G0 bq0 0 [.slice a1 n1 c1, .slice a2 n2 c2, .slice a3 n3 c3, .map (some rm4)]) (h1 : RSl RTLandPerson 2 G0 a1 n1 c1 x0.People) (h2 : RSl RTLandEvent 2 G0 a2 n2 c2 x0.Events) (h3 : RSl RTLandMemory 4 G0 a3 n3 c3 x0.Memories) {r : Bool} (H : f86 x0 x1 x2 = some r) :
  Calls Tryz.prog 86 #[pV bq0, iV x1, iV x2] w0 (RetV w0 (.bool r)) := by
 have hS := Since.start hS0
 have hO := own0 G0 w0
 unfold f86 at H
 refine enter1 (N := 29) (shutV _ _) Tryz.func86 rfl rfl rfl rfl (zQ (zR (zV (zA (v := (.bool false)) rfl) rfl (zN (zQ (zQ (zR (zV (zm (v := (pV bq0)) rfl) rfl (zV (v := (.func (.func 164) ([pV bq0] : List Value).toArray ([] : List Value).toArray)) (rn_func (vs := [pV bq0]) (us := []) rfl rfl) rfl (zV (zm (v := (pV bq0)) rfl) rfl (zV (v := (.func (.func 165) ([pV bq0] : List Value).toArray ([] : List Value).toArray)) (rn_func (vs := [pV bq0]) (us := []) rfl rfl) rfl (zV (zm (v := (pV bq0)) rfl) rfl (zV (v := (.func (.func 166) ([pV bq0] : List Value).toArray ([] : List Value).toArray)) (rn_func (vs := [pV bq0]) (us := []) rfl rfl) rfl ?_)))))))))))))
 refine zV (v := (.agg #[.func (.func 164) ([pV bq0] : List Value).toArray ([] : List Value).toArray, .func (.func 165) ([pV bq0] : List Value).toArray ([] : List Value).toArray, .func (.func 166) ([pV bq0] : List Value).toArray ([] : List Value).toArray])) (by kernel_rfl) rfl ?_
 refine zV (zm (v := (iV 0)) rfl) rfl (zN (zb (WC_loopI ?_))); refine WI_step ?_; refine zQ (zR ?_)
 refine zV (v := (.bool true)) (by kernel_rfl) rfl ?_
 refine zN (zQ (WC_condT _ rfl rfl (zP (zQ (zb (zQ (zR ?_)))))))
 refine zV (v := (.func (.func 164) ([pV bq0] : List Value).toArray ([] : List Value).toArray)) (by kernel_rfl) rfl ?_
 refine zV (zA (v := (.func (.func 164) ([pV bq0] : List Value).toArray ([] : List Value).toArray)) rfl) rfl (zN (zQ ?_)); obtain ⟨q5, hq5, H⟩ := bnd H; refine zM (fun F w => ∃ (Fb : Fr), F = upds Fb [(1, iV x1), (2, iV x2), (15, .agg #[.func (.func 164) ([pV bq0] : List Value).toArray ([] : List Value).toArray, .func (.func 165) ([pV bq0] : List Value).toArray ([] : List Value).toArray, .func (.func 166) ([pV bq0] : List Value).toArray ([] : List Value).toArray]), (16, iV 0), (27, .bool q5)] ∧ w0 = w) ?_ ?_
 ·have Hoq5 := H; have H := hq5; refine zR ?_; refine wr 4 rfl ?_
  rcases bcases (x1 != x2) with hb6 | hb6
  ·have H := ifT hb6 H; refine wk hb6 3 rfl rfl ?_; refine zY rfl hb6 rfl rfl (zO rfl (OpP_inC1 (N' := 18) (fi := [pV bq0]) (al := [iV x1, iV x2]) (ca := []) cb164 Tryz.func164 rfl rfl rfl rfl rfl rfl rfl ?_)); refine zQ (zR (zV (zA (v := (.bool false)) rfl) rfl (zN (zQ (zR (zV (zm (v := (pV bq0)) rfl) rfl ?_))))))
   refine zV (v := (pV bq0)) (by kernel_rfl) rfl ?_
   refine WL_run tabH (cellsW hS.sat hcq0) 4 [] rfl rfl an ?_; obtain ⟨y7, hy7, H⟩ := bnd H; refine WL_idx sl28 h1 hy7 rfl rfl rfl ?_
   rintro b8 o8 _ hcb8 _ ⟨⟩
   refine zV (zF fd185_0 rfl) rfl (zV (zL na3 rfl (hS.sat.cell (hcb8 0 _ rfl))) rfl ?_); refine wr 3 rfl ?_; refine zN (zr ?_); refine ⟨(.bool (y7.Mother == x2)), rfl, ?_⟩
   have hO : Owns _ _ _ [] := hO
   refine zV (rn_pickT (v := (.bool (y7.Mother == x2))) rfl hb6 rfl) rfl (zN ?_); cases H
   exact ⟨_, zu _ _ ⟨rfl, rfl, rfl, rfl, rfl, trivial⟩, rfl⟩
  ·have H := ifF hb6 H; refine wk hb6 5 rfl rfl ?_; refine zN ?_; cases H
   exact ⟨_, zu _ _ ⟨rfl, rfl, rfl, rfl, rfl, trivial⟩, rfl⟩
 ·rintro F wl ⟨Fb, rfl, rfl⟩
  refine zT rfl (fun hb11 => ?_) (fun hb11 => ?_)
  ·have H := ifT hb11 H; refine zQ (zR (zV (zA (v := (.bool true)) rfl) rfl (zN (zr ?_))))
   have H : some true = some r := H
   cases H
   exact ⟨rfl, hS.below⟩
  ·have H := ifF hb11 H; refine zP (zR ?_)
   refine zV (v := (iV 1)) (by kernel_rfl) rfl ?_
   refine zV (zm (v := (iV 1)) rfl) rfl (zN ?_); refine WI_step ?_; refine zQ (zR ?_)
   refine zV (v := (.bool true)) (by kernel_rfl) rfl ?_
   refine zN (zQ (WC_condT _ rfl rfl (zP (zQ (zb (zQ (zR ?_)))))))
   refine zV (v := (.func (.func 165) ([pV bq0] : List Value).toArray ([] : List Value).toArray)) (by kernel_rfl) rfl ?_
   refine zV (zA (v := (.func (.func 165) ([pV bq0] : List Value).toArray ([] : List Value).toArray)) rfl) rfl (zN (zQ ?_)); obtain ⟨q12, hq12, H⟩ := bnd H; refine zM (fun F w => ∃ (Fb : Fr), F = upds Fb [(1, iV x1), (2, iV x2), (15, .agg #[.func (.func 164) ([pV bq0] : List Value).toArray ([] : List Value).toArray, .func (.func 165) ([pV bq0] : List Value).toArray ([] : List Value).toArray, .func (.func 166) ([pV bq0] : List Value).toArray ([] : List Value).toArray]), (16, iV 1), (27, .bool q12)] ∧ w0 = w) ?_ ?_
   ·have Hoq12 := H; have H := hq12; refine zR ?_; refine wr 4 rfl ?_
    rcases bcases (x1 != x2) with hb13 | hb13
    ·have H := ifT hb13 H; refine wk hb13 3 rfl rfl ?_; refine zY rfl hb13 rfl rfl (zO rfl (OpP_inC1 (N' := 18) (fi := [pV bq0]) (al := [iV x1, iV x2]) (ca := []) cb165 Tryz.func165 rfl rfl rfl rfl rfl rfl rfl ?_)); refine zQ (zR (zV (zA (v := (.bool false)) rfl) rfl (zN (zQ (zR (zV (zm (v := (pV bq0)) rfl) rfl ?_))))))
     refine zV (v := (pV bq0)) (by kernel_rfl) rfl ?_
     refine WL_run tabH (cellsW hS.sat hcq0) 4 [] rfl rfl an ?_; obtain ⟨y14, hy14, H⟩ := bnd H; refine WL_idx sl28 h1 hy14 rfl rfl rfl ?_
     rintro b15 o15 _ hcb15 _ ⟨⟩
     refine zV (zF fd185_1 rfl) rfl (zV (zL na3 rfl (hS.sat.cell (hcb15 1 _ rfl))) rfl ?_); refine wr 3 rfl ?_; refine zN (zr ?_); refine ⟨(.bool (y14.Adopted == x2)), rfl, ?_⟩
     have hO : Owns _ _ _ [] := hO
     refine zV (rn_pickT (v := (.bool (y14.Adopted == x2))) rfl hb13 rfl) rfl (zN ?_); cases H
     exact ⟨_, zu _ _ ⟨rfl, rfl, rfl, rfl, rfl, trivial⟩, rfl⟩
    ·have H := ifF hb13 H; refine wk hb13 5 rfl rfl ?_; refine zN ?_; cases H
     exact ⟨_, zu _ _ ⟨rfl, rfl, rfl, rfl, rfl, trivial⟩, rfl⟩
   ·rintro F wl ⟨Fb, rfl, rfl⟩
    refine zT rfl (fun hb18 => ?_) (fun hb18 => ?_)
    ·have H := ifT hb18 H; refine zQ (zR (zV (zA (v := (.bool true)) rfl) rfl (zN (zr ?_))))
     have H : some true = some r := H
     cases H
     exact ⟨rfl, hS.below⟩
    ·have H := ifF hb18 H; refine zP (zR ?_)
     refine zV (v := (iV 2)) (by kernel_rfl) rfl ?_
     refine zV (zm (v := (iV 2)) rfl) rfl (zN ?_); refine WI_step ?_; refine zQ (zR ?_)
     refine zV (v := (.bool true)) (by kernel_rfl) rfl ?_
     refine zN (zQ (WC_condT _ rfl rfl (zP (zQ (zb (zQ (zR ?_)))))))
     refine zV (v := (.func (.func 166) ([pV bq0] : List Value).toArray ([] : List Value).toArray)) (by kernel_rfl) rfl ?_
     refine zV (zA (v := (.func (.func 166) ([pV bq0] : List Value).toArray ([] : List Value).toArray)) rfl) rfl (zN (zQ ?_)); obtain ⟨q19, hq19, H⟩ := bnd H; refine zM (fun F w => ∃ (Fb : Fr), F = upds Fb [(1, iV x1), (2, iV x2), (15, .agg #[.func (.func 164) ([pV bq0] : List Value).toArray ([] : List Value).toArray, .func (.func 165) ([pV bq0] : List Value).toArray ([] : List Value).toArray, .func (.func 166) ([pV bq0] : List Value).toArray ([] : List Value).toArray]), (16, iV 2), (27, .bool q19)] ∧ w0 = w) ?_ ?_
     ·have Hoq19 := H; have H := hq19; refine zR ?_; refine wr 4 rfl ?_
      rcases bcases (x1 != x2) with hb20 | hb20
      ·have H := ifT hb20 H; refine wk hb20 3 rfl rfl ?_; refine zY rfl hb20 rfl rfl (zO rfl (OpP_inC1 (N' := 32) (fi := [pV bq0]) (al := [iV x1, iV x2]) (ca := []) cb166 Tryz.func166 rfl rfl rfl rfl rfl rfl rfl ?_)); refine zQ (zR (zV (zA (v := (.bool false)) rfl) rfl (zN (zQ (zR (zV (zm (v := (pV bq0)) rfl) rfl ?_))))))
       refine zV (v := (pV bq0)) (by kernel_rfl) rfl ?_
       refine WL_run tabH (cellsW hS.sat hcq0) 4 [] rfl rfl an ?_; obtain ⟨y21, hy21, H⟩ := bnd H; refine WL_idx sl28 h1 hy21 rfl rfl rfl ?_
       rintro b22 o22 _ hcb22 _ ⟨⟩
       refine zV (zF fd185_0 rfl) rfl (zV (zL na3 rfl (hS.sat.cell (hcb22 0 _ rfl))) rfl (zV (zA (v := (iV y21.Mother)) rfl) rfl (zN (zQ ?_)))); obtain ⟨q23, hq23, H⟩ := bnd H; refine zM (fun F w => ∃ (Fb : Fr), F = upds Fb [(6, .bool q23)] ∧ w0 = w) ?_ ?_
       ·have Hoq23 := H; have H := hq23; refine zR ?_; refine wr 3 rfl ?_
        rcases bcases (y21.Mother != (-1)) with hb24 | hb24
        ·have H := ifT hb24 H; refine wk hb24 2 rfl rfl ?_; refine zY rfl hb24 rfl rfl ?_
         refine zV (v := (pV bq0)) (by kernel_rfl) rfl ?_
         refine WL_runK tabH (cellsW hS.sat hcq0) (kb hb24) 4 [] rfl rfl an (zY rfl hb24 rfl rfl ?_); obtain ⟨y25, hy25, H⟩ := bnd H; refine WL_idx sl28 h1 hy25 rfl rfl rfl ?_
         rintro b26 o26 _ hcb26 _ ⟨⟩
         refine zY rfl hb24 rfl rfl (zV (zF fd185_0 rfl) rfl (zY rfl hb24 rfl rfl (zV (zL na3 rfl (hS.sat.cell (hcb26 0 _ rfl))) rfl ?_))); refine wk hb24 3 rfl rfl ?_; refine zN ?_; cases H
         exact ⟨_, zu _ _ ⟨rfl, trivial⟩, rfl⟩
        ·have H := ifF hb24 H; refine wk hb24 13 rfl rfl ?_; refine zN ?_; cases H
         exact ⟨_, zu _ _ ⟨rfl, trivial⟩, rfl⟩
       ·rintro F wl ⟨Fb, rfl, rfl⟩
        refine zr ?_; refine ⟨(.bool q23), rfl, ?_⟩
        have hO : Owns _ _ _ [] := hO
        refine zV (rn_pickT (v := (.bool q23)) rfl hb20 rfl) rfl (zN ?_); cases H
        exact ⟨_, zu _ _ ⟨rfl, rfl, rfl, rfl, rfl, trivial⟩, rfl⟩
      ·have H := ifF hb20 H; refine wk hb20 5 rfl rfl ?_; refine zN ?_; cases H
       exact ⟨_, zu _ _ ⟨rfl, rfl, rfl, rfl, rfl, trivial⟩, rfl⟩
     ·rintro F wl ⟨Fb, rfl, rfl⟩
      refine zT rfl (fun hb31 => ?_) (fun hb31 => ?_)
      ·have H := ifT hb31 H; refine zQ (zR (zV (zA (v := (.bool true)) rfl) rfl (zN (zr ?_))))
       have H : some true = some r := H
       cases H
       exact ⟨rfl, hS.below⟩
      ·have H := ifF hb31 H; refine zP (zR ?_)
       refine zV (v := (iV 3)) (by kernel_rfl) rfl ?_
       refine zV (zm (v := (iV 3)) rfl) rfl (zN ?_); refine WI_step ?_; refine zQ (zR ?_)
       refine zV (v := (.bool false)) (by kernel_rfl) rfl ?_
       refine zN (zQ (WC_condF _ rfl rfl (WC_exit rfl (zQ (zR (zV (zA (v := (.bool false)) rfl) rfl (zN (zr ?_))))))))
       have H : some false = some r := H
       cases H
       exact ⟨rfl, hS.below⟩
set_option maxHeartbeats 1000000 in
theorem f34_ok {G0 : Gm} {w0 : World} (hS0 : Sat G0 w0) {x0 : TLandBook} {a1 : Option Addr} {n1 c1 : Nat} {a2 : Option Addr} {n2 c2 : Nat} {a3 : Option Addr} {n3 c3 : Nat} {x1 : Int} (h1 : RSl RTLandPerson 2 G0 a1 n1 c1 x0.People) (h2 : RSl RTLandEvent 2 G0 a2 n2 c2 x0.Events) (h3 : RSl RTLandMemory 4 G0 a3 n3 c3 x0.Memories) {r : (List Int) × Int × Int} (H : f34 x0 x1 = some r) :
  Calls Tryz.prog 34 #[.agg #[.slice a1 n1 c1, .slice a2 n2 c2, .slice a3 n3 c3], iV x1] w0 (RetG G0 w0 (fun G v => ∃ (ra0 : Option Addr) (rn0 rc0 : Nat), v = .tuple #[.slice ra0 rn0 rc0, iV r.2.1, iV r.2.2] ∧ RSl RInt 1 G ra0 rn0 rc0 r.1)) := by
 have hS := Since.start hS0
 have hO := own0 G0 w0
 unfold f34 at H
 refine enter3 (N := 105) (shutG _ _ _) Tryz.func34 rfl rfl rfl rfl ?_; refine zQ (zR (zO rfl (OpP_newF (v := fun b => pV b) (cs := [.slice a1 n1 c1, .slice a2 n2 c2, .slice a3 n3 c3]) (e := 32) (rn_boxA rfl) hS.sat rfl (fun b4 G6 w5 hg hcb4 => ?_)))); have hS := hS.grow hg; have hO := hO.grow hg
 have leG6 := hg.le
 refine wr 3 rfl ?_; refine zN (zQ ?_); have hS := hS.keep (below_drew _); have hO := hO.below (below_drew _)
 refine WC_regionD mixedO (fun _ w => Sat G6 w ∧ True) (.fl 0 (.fl 1 (.two 2 (.two 3 (.fl 4 (.fl 5 (.fl 6 (.on 7 (.on 8 (.on 9 .nil)))))) 7 (.on 3 (.on 4 (.fl 5 (.fl 6 (.on 8 (.on 9 .nil))))))) 7 (.on 2 (.on 3 (.on 4 (.fl 5 (.fl 6 (.on 8 (.on 9 .nil)))))))))) (by kernel_rfl) rfl (by kernel_rfl) (fun _ => ⟨hS.sat, trivial⟩) ?_
 refine zD rfl (fun w hw => rn_loadA ag32 (cs := [.slice a1 n1 c1, .slice a2 n2 c2, .slice a3 n3 c3]) rfl rfl (fun j v hj => hw.1.cell (hcb4.drop_take 0 3 j v hj))) rfl (zD rfl (fun w hw => zm (v := (iV x1)) rfl) rfl (WD_two ?_ ?_))
 ·obtain ⟨y7, hy7, H⟩ := bnd H; refine zE rfl rfl (zC cb83 (f83_ok (x0 := x1) (x1 := 0) (x2 := 5) hS.sat  hy7) rfl rfl (fun w8 hb => ?_)); have hS := hS.keep hb; have hO := hO.below hb; refine ⟨fun _ _ => ⟨hS.sat, trivial⟩, ?_⟩; refine WD_two ?_ ?_
  ·obtain ⟨y9, hy9, H⟩ := bnd H; refine zE rfl rfl (zC cb81 (f81_ok (x0 := x0) (x1 := y7) hS.sat (h1.mono RTLandPerson_mono leG6) (h2.mono RTLandEvent_mono leG6) (h3.mono RTLandMemory_mono leG6) hy9) rfl rfl (fun w10 hb => ?_)); have hS := hS.keep hb; have hO := hO.below hb; refine ⟨fun _ _ => ⟨hS.sat, trivial⟩, ?_⟩; refine zD rfl (fun w hw => zm (v := (.tuple #[.agg (cellsT y9.1).toArray, iV y9.2])) rfl) rfl (zD rfl (fun w hw => zX (v := (.agg (cellsT y9.1).toArray)) rfl rfl) rfl (zD rfl (fun w hw => zX (v := (iV y9.2)) rfl rfl) rfl ?_))
   refine zE rfl rfl (zU (v := fun b => pV b) (cs := (cellsT (Tb.zero 64))) (e := 173) (by kernel_rfl) hS.sat hO rfl 64 1 (cellsT_len _) (by decide) (fun b11 w12 hb hO => ?_))
   have hS := hS.keep hb; refine ⟨fun _ _ => ⟨hS.sat, trivial⟩, ?_⟩; refine zE rfl rfl (OpP_storeTT sz173 hS hO (k := 0) rfl rfl rfl (fun w14 hS hO => ?_))
   have hO : Owns _ _ _ ([zt 173 64 b11 y9.1]) := hO
   refine ⟨fun _ _ => ⟨hS.sat, trivial⟩, ?_⟩; refine zE rfl rfl (OpP_val (zA (v := (iV y9.2)) rfl) rfl ?_)
   refine ⟨fun _ h => noneed (by kernel_rfl) h, ?_⟩
   refine zI (zQ (zQ (zR ?_))); refine wr 2 rfl ?_; refine zN (zT rfl (fun hb15 => ?_) (fun hb15 => ?_))
   ·have H := ifT hb15 H; refine zQ (zR ?_); refine wr 4 rfl ?_; refine zN (zr ?_)
    have H : some ([], 0, y9.2) = some r := H
    cases H
    exact ⟨_, _, rfl, hS.toGrow, _, _, _, rfl, (RSl.nil RInt 1 G6 none)⟩
   ·have H := ifF hb15 H; refine zP (zQ (zR (zV (zA (v := (.slice none 0 0)) rfl) rfl (zN (zQ (zQ (zR (WL_run tabH (cellsW hS.sat hcb4) 4 [_] rfl rfl (ao (h2.mono RTLandEvent_mono leG6).1 an) (zN ?_))))))))); have hO := hO.cons_nil 3 1; obtain ⟨q19, hq19, H⟩ := bnd H; refine zM (fun F w => ∃ (p18 : (List Int) × (Tb 64)) (Fb : Fr) (G : Gm) (ap18_0 : Option Addr) (np18_0 cp18_0 : Nat) (clap18_0 : List Value), q19 = .inl p18 ∧ F = upds Fb [(2, pV b4), (9, .slice ap18_0 np18_0 cp18_0)] ∧ Gle G6 G ∧ Since w0.heap.size G0 w0 G w ∧ Owns G w w0.heap.size [⟨3, 1, np18_0, .slice ap18_0 np18_0 cp18_0, clap18_0⟩, zt 173 64 b11 p18.2] ∧ np18_0 = p18.1.length ∧ Rd RInt 1 G clap18_0 p18.1) ?_ ?_
    ·refine zb (WC_loop hq19 (fun s17 F w => ∃ (Fb : Fr) (G : Gm) (as17_0 : Option Addr) (ns17_0 cs17_0 : Nat) (clas17_0 : List Value), F = upds Fb [(1, iV x1), (2, pV b4), (7, pV b11), (9, .slice as17_0 ns17_0 cs17_0), (28, .slice a2 n2 c2), (29, iV (x0.Events.length : Int)), (30, iV s17.2.1)] ∧ Gle G6 G ∧ Since w0.heap.size G0 w0 G w ∧ Owns G w w0.heap.size [⟨3, 1, ns17_0, .slice as17_0 ns17_0 cs17_0, clas17_0⟩, zt 173 64 b11 s17.2.2] ∧ ns17_0 = s17.1.length ∧ Rd RInt 1 G clas17_0 s17.1) ?_ ?_)
     ·have hO : Owns _ _ _ ([⟨3, 1, 0, .slice none 0 0, []⟩, zt 173 64 b11 y9.1]) := hO
      exact ⟨_, G6, none, 0, 0, [], zu _ _ ⟨rfl, rfl, rfl, rfl, rfl, rfl, rfl, trivial⟩, Gle.refl _, hS, hO, rfl, (Rd.nil RInt 1 G6)⟩
     ·rintro s17 F w21 t20 ⟨Fb, G22, as17_0, ns17_0, cs17_0, clas17_0, rfl, leG22, hS, hO, hnhs17_0, hs17_0⟩
      intro H1 hqq19
      have Hoq19 := H; have H := H1
      unfold f34_b0 at H
      refine zQ (zR (zV (zl rfl rfl) rfl (zN (zQ (zT rfl (fun hb23 => ?_) (fun hb23 => ?_))))))
      ·have H := ifT hb23 H; refine zP (zQ ?_); obtain ⟨q24, hq24, H⟩ := bnd H; refine zM (fun F w => ∃ (p25 : (List Int) × (Tb 64)) (Fb : Fr) (G : Gm) (ap25_0 : Option Addr) (np25_0 cp25_0 : Nat) (clap25_0 : List Value), q24 = .inl p25 ∧ F = upds Fb [(1, iV x1), (2, pV b4), (7, pV b11), (9, .slice ap25_0 np25_0 cp25_0), (28, .slice a2 n2 c2), (29, iV (x0.Events.length : Int)), (30, iV s17.2.1)] ∧ Gle G22 G ∧ Since w0.heap.size G0 w0 G w ∧ Owns G w w0.heap.size [⟨3, 1, np25_0, .slice ap25_0 np25_0 cp25_0, clap25_0⟩, zt 173 64 b11 p25.2] ∧ np25_0 = p25.1.length ∧ Rd RInt 1 G clap25_0 p25.1) ?_ ?_
       ·have Hoq24 := H; have H := hq24; refine zb (zQ (zR (zV (zm (v := (iV s17.2.1)) rfl) rfl ?_))); obtain ⟨y26, hy26, H⟩ := bnd H
        have l0_2 := leG6.trans leG22
        refine WL_idx sl29 (h2.mono RTLandEvent_mono l0_2) hy26 rfl rfl rfl ?_
        rintro b27 o27 _ hcb27 _ ⟨⟩
        refine zV (rn_loadA ag63 (cs := [iV y26.Strip, iV y26.Holder]) rfl rfl (fun j v hj => hS.sat.cell (hcb27.drop_take 0 2 j v hj))) rfl ?_
        refine zO rfl (zU (v := fun b => pV b) (cs := [iV 0, iV 0]) (e := 63) (by kernel_rfl) hS.sat hO rfl 2 1 rfl (by decide) (fun b28 w29 hb hO => ?_))
        have hS := hS.keep hb; refine zV (zA (v := (iV s17.2.1)) rfl) rfl (zO rfl (OpP_store (vs := [iV y26.Strip, iV y26.Holder]) sz63 hS hO (k := 0) rfl rfl rfl rfl rfl (one_all rfl) (Nat.le_of_ble_eq_true rfl) (fun w31 hS hO => ?_)))
        have hO : Owns _ _ _ ([⟨63, 2, 1, .slice (some ⟨b28, 0, none⟩) 1 1, [iV y26.Strip, iV y26.Holder]⟩, ⟨3, 1, ns17_0, .slice as17_0 ns17_0 cs17_0, clas17_0⟩, zt 173 64 b11 s17.2.2]) := hO
        obtain ⟨G32, leG32, hS, hO, hqG32, _⟩ := hO.freeze hS (k := 0) rfl
        have hcG32 : Cells G32 b28 0 [iV y26.Strip, iV y26.Holder] := (hqG32 _ _ _ _ rfl)
        refine zN (zQ (zQ (zR (WL_run tabH (cellsW hS.sat hcG32) 4 [] rfl rfl an (zN (zT rfl (fun hb33 => ?_) (fun hb33 => ?_)))))))
        ·have H := ifT hb33 H; refine WC_exit rfl ?_
         have hO : Owns _ _ _ ([⟨3, 1, ns17_0, .slice as17_0 ns17_0 cs17_0, clas17_0⟩, zt 173 64 b11 s17.2.2]) := hO
         cases H
         exact ⟨_, _, G32, as17_0, ns17_0, cs17_0, clas17_0, rfl, zu _ _ ⟨rfl, rfl, rfl, rfl, rfl, rfl, rfl, trivial⟩, leG32, hS, hO, hnhs17_0, (hs17_0.mono RInt_mono leG32)⟩
        ·have H := ifF hb33 H; refine zP (zQ (zR (WL_run tabH (cells0 _) 3 [_] rfl rfl (ao hnhs17_0 an) (zN (zQ (zQ (zR (WL_run tabH (cells0 _) 3 [_] rfl rfl (ao hnhs17_0 an) (zN ?_))))))))); obtain ⟨q36, hq36, H⟩ := bnd H; refine zM (fun F w => ∃ (p35 : Int × (Tb 64)) (Fb : Fr) (G : Gm), q36 = .inl p35 ∧ F = upds Fb [(1, iV x1), (2, pV b4), (7, pV b11), (9, .slice as17_0 ns17_0 cs17_0), (10, iV s17.2.1), (12, iV p35.1), (28, .slice a2 n2 c2), (29, iV (x0.Events.length : Int)), (30, iV s17.2.1)] ∧ Gle G32 G ∧ SO G0 w0 G w [⟨3, 1, ns17_0, .slice as17_0 ns17_0 cs17_0, clas17_0⟩, zt 173 64 b11 p35.2]) ?_ ?_
         ·refine zb (WC_loop hq36 (fun s34 F w => ∃ (Fb : Fr) (G : Gm), F = upds Fb [(1, iV x1), (2, pV b4), (7, pV b11), (9, .slice as17_0 ns17_0 cs17_0), (10, iV s17.2.1), (12, iV s34.1), (28, .slice a2 n2 c2), (29, iV (x0.Events.length : Int)), (30, iV s17.2.1), (41, .slice as17_0 ns17_0 cs17_0), (42, iV (s17.1.length : Int)), (43, iV s34.2.1)] ∧ Gle G32 G ∧ SO G0 w0 G w [⟨3, 1, ns17_0, .slice as17_0 ns17_0 cs17_0, clas17_0⟩, zt 173 64 b11 s34.2.2]) ?_ ?_)
          ·have hO : Owns _ _ _ ([⟨3, 1, ns17_0, .slice as17_0 ns17_0 cs17_0, clas17_0⟩, zt 173 64 b11 s17.2.2]) := hO
           exact ⟨_, G32, zu _ _ ⟨rfl, rfl, rfl, rfl, rfl, rfl, rfl, rfl, rfl, rfl, rfl, rfl, trivial⟩, Gle.refl _, hS, hO⟩
          ·rintro s34 F w38 t37 ⟨Fb, G39, rfl, leG39, hS, hO⟩
           intro H1 hqq36
           have Hoq36 := H; have H := H1
           unfold f34_b1 at H
           refine zQ (zR (zV (zl rfl rfl) rfl (zN (zQ (zT rfl (fun hb40 => ?_) (fun hb40 => ?_))))))
           ·have H := ifT hb40 H; refine zP (zQ ?_); obtain ⟨q41, hq41, H⟩ := bnd H; refine zM (fun F w => ∃ (p42 : Int) (Fb : Fr) (G : Gm), q41 = .inl p42 ∧ F = upds Fb [(1, iV x1), (2, pV b4), (7, pV b11), (9, .slice as17_0 ns17_0 cs17_0), (10, iV s17.2.1), (12, iV p42), (28, .slice a2 n2 c2), (29, iV (x0.Events.length : Int)), (30, iV s17.2.1), (41, .slice as17_0 ns17_0 cs17_0), (42, iV (s17.1.length : Int)), (43, iV s34.2.1)] ∧ Gle G39 G ∧ SO G0 w0 G w [⟨3, 1, ns17_0, .slice as17_0 ns17_0 cs17_0, clas17_0⟩, zt 173 64 b11 s34.2.2]) ?_ ?_
            ·have Hoq41 := H; have H := hq41; refine zb (zQ (zR (zV (zm (v := (iV s34.2.1)) rfl) rfl ?_))); obtain ⟨y43, hy43, H⟩ := bnd H
             have l2_4 := leG32.trans leG39
             refine WL_idxO sl24 hO (k := 0) rfl hnhs17_0 (hs17_0.mono RInt_mono l2_4) hy43 rfl rfl rfl ?_
             rintro b44 ob44 _ hb44 _ hcb44 ⟨⟩
             refine zV (zL na3 rfl (own_cellB hO (k := 0) rfl hb44 _ 0 (hcb44 0 _ rfl))) rfl ?_; refine wr 2 rfl ?_; refine zN (zb (zQ (zR (zV (rn_loadT ag173 hO (k := 1) rfl rfl) rfl ?_)))); refine wr 2 rfl ?_; obtain ⟨y45, hy45, H⟩ := bnd H; refine zO rfl (zC cb82 (f82_ok (x0 := s34.2.2) (x1 := s17.2.1) (x2 := y43) hS.sat  hy45) rfl rfl (fun w46 hb => ?_)); have hS := hS.keep hb; have hO := hO.below hb
             refine zV (v := (iV y45.Low)) (by kernel_rfl) rfl ?_
             refine wr 2 rfl ?_; refine zN (zT rfl (fun hb47 => ?_) (fun hb47 => ?_))
             ·have H := ifT hb47 H; refine zR ?_; refine wr 2 rfl ?_; refine zV (rn_min rfl rfl) rfl (zV (zA (v := (iV (if s34.2.1 < s34.1 then s34.2.1 else s34.1))) rfl) rfl (zN ?_))
              have hO : Owns _ _ _ ([⟨3, 1, ns17_0, .slice as17_0 ns17_0 cs17_0, clas17_0⟩, zt 173 64 b11 s34.2.2]) := hO
              cases H
              exact ⟨_, _, G39, rfl, zu _ _ ⟨rfl, rfl, rfl, rfl, rfl, rfl, rfl, rfl, rfl, rfl, rfl, rfl, trivial⟩, Gle.refl _, hS, hO⟩
             ·have H := ifF hb47 H; refine zQ (zR (zV (rn_loadT ag173 hO (k := 1) rfl rfl) rfl ?_)); refine wr 2 rfl ?_; obtain ⟨y48, hy48, H⟩ := bnd H; refine zO rfl (zC cb82 (f82_ok (x0 := s34.2.2) (x1 := y43) (x2 := s17.2.1) hS.sat  hy48) rfl rfl (fun w49 hb => ?_)); have hS := hS.keep hb; have hO := hO.below hb
              refine zV (v := (iV y48.Low)) (by kernel_rfl) rfl ?_
              refine wr 2 rfl ?_; refine zN (zT rfl (fun hb50 => ?_) (fun hb50 => ?_))
              ·have H := ifT hb50 H; refine zQ (zR ?_); refine wr 3 rfl ?_; refine zN (zr ?_); cases H; have H := Hoq41; cases H
               have hres := hqq36 _ rfl
               subst hres; have H := Hoq36; cases H; have H := Hoq24; cases H
               have hres := hqq19 _ rfl
               subst hres; have H := Hoq19
               have H : some ([], 0, 8) = some r := H
               cases H
               exact ⟨_, _, rfl, hS.toGrow, _, _, _, rfl, (RSl.nil RInt 1 G39 none)⟩
              ·have H := ifF hb50 H; refine zP ?_
               have hO : Owns _ _ _ ([⟨3, 1, ns17_0, .slice as17_0 ns17_0 cs17_0, clas17_0⟩, zt 173 64 b11 s34.2.2]) := hO
               cases H
               exact ⟨_, _, G39, rfl, zu _ _ ⟨rfl, rfl, rfl, rfl, rfl, rfl, rfl, rfl, rfl, rfl, rfl, rfl, trivial⟩, Gle.refl _, hS, hO⟩
            ·rintro F w51 ⟨p42, Fb, G52, rfl, rfl, leG52, hS, hO⟩
             refine zR ?_; refine wr 2 rfl ?_; refine zN ?_
             have hO : Owns _ _ _ ([⟨3, 1, ns17_0, .slice as17_0 ns17_0 cs17_0, clas17_0⟩, zt 173 64 b11 s34.2.2]) := hO
             cases H; refine ⟨_, rfl, ?_⟩
             have l3_5 := leG39.trans leG52
             exact ⟨_, G52, zu _ _ ⟨rfl, rfl, rfl, rfl, rfl, rfl, rfl, rfl, rfl, rfl, rfl, rfl, trivial⟩, l3_5, hS, hO⟩
           ·have H := ifF hb40 H; refine WC_exit rfl ?_
            have hO : Owns _ _ _ ([⟨3, 1, ns17_0, .slice as17_0 ns17_0 cs17_0, clas17_0⟩, zt 173 64 b11 s34.2.2]) := hO
            cases H
            have hres := hqq36 _ rfl
            subst hres
            exact ⟨_, _, G39, rfl, zu _ _ ⟨rfl, rfl, rfl, rfl, rfl, rfl, rfl, rfl, rfl, trivial⟩, leG39, hS, hO⟩
         ·rintro F w54 ⟨p35, Fb, G55, rfl, rfl, leG55, hS, hO⟩
          refine zR ?_; refine wr 3 rfl ?_
          refine zO rfl (zU (v := fun b => .slice (some ⟨b, 0, none⟩) 1 1) (cs := [iV s17.2.1]) (e := 3) (by kernel_rfl) hS.sat hO rfl 1 1 rfl (by decide) (fun b56 w57 hb hO => ?_))
          have hS := hS.keep hb
          have hrb56 : Rd RInt 1 G55 [iV s17.2.1] [s17.2.1] := (Rd.cons (c := [iV s17.2.1]) rfl rfl (Rd.nil RInt 1 _))
          have hO := hO.front (k := 0) rfl; have hO := hO.front (k := 1) rfl
          have hO : Owns _ _ _ ([⟨3, 1, ns17_0, .slice as17_0 ns17_0 cs17_0, clas17_0⟩, ⟨3, 1, 1, .slice (some ⟨b56, 0, none⟩) 1 1, [iV s17.2.1]⟩, zt 173 64 b11 p35.2]) := hO
          obtain ⟨y59, hy59, H⟩ := bnd H
          have l2_4 := leG32.trans leG55
          refine zO rfl (OpP_lent (fi := []) (al := [.slice as17_0 ns17_0 cs17_0, iV p35.1, .slice (some ⟨b56, 0, none⟩) 1 1]) (ca := []) cb84 (f84_ok (i := p35.1) (x := s17.2.1) hS hO hnhs17_0 (hs17_0.mono RInt_mono l2_4) hy59) rfl rfl rfl (fun vG61 G61 w60 L62 leG61 hS hO hvG61 => ?_)); obtain ⟨aw60, cw60, clw60, rfl, rfl, hrw60⟩ := hvG61
          have hO : Owns _ _ _ ([⟨3, 1, y59.length, .slice aw60 y59.length cw60, clw60⟩, ⟨3, 1, 1, .slice (some ⟨b56, 0, none⟩) 1 1, [iV s17.2.1]⟩, zt 173 64 b11 p35.2]) := hO
          have hO := hO.drop 1
          have hO : Owns _ _ _ ([⟨3, 1, y59.length, .slice aw60 y59.length cw60, clw60⟩, zt 173 64 b11 p35.2]) := hO
          refine zV (zA (v := (.slice aw60 y59.length cw60)) rfl) rfl (zN ?_)
          have hO : Owns _ _ _ ([⟨3, 1, y59.length, .slice aw60 y59.length cw60, clw60⟩, zt 173 64 b11 p35.2]) := hO
          cases H
          have l2_5 := l2_4.trans leG61
          exact ⟨_, _, G61, aw60, y59.length, cw60, clw60, rfl, zu _ _ ⟨rfl, rfl, rfl, rfl, rfl, rfl, rfl, trivial⟩, l2_5, hS, hO, rfl, hrw60⟩
       ·rintro F w64 ⟨p25, Fb, G65, ap25_0, np25_0, cp25_0, clap25_0, rfl, rfl, leG65, hS, hO, hnhp25_0, hp25_0⟩
        refine zR ?_; refine wr 2 rfl ?_; refine zN ?_
        have hO : Owns _ _ _ ([⟨3, 1, np25_0, .slice ap25_0 np25_0 cp25_0, clap25_0⟩, zt 173 64 b11 p25.2]) := hO
        cases H; refine ⟨_, rfl, ?_⟩
        have l1_3 := leG22.trans leG65
        exact ⟨_, G65, ap25_0, np25_0, cp25_0, clap25_0, zu _ _ ⟨rfl, rfl, rfl, rfl, rfl, rfl, rfl, trivial⟩, l1_3, hS, hO, hnhp25_0, hp25_0⟩
      ·have H := ifF hb23 H; refine WC_exit rfl ?_
       have hO : Owns _ _ _ ([⟨3, 1, ns17_0, .slice as17_0 ns17_0 cs17_0, clas17_0⟩, zt 173 64 b11 s17.2.2]) := hO
       cases H
       have hres := hqq19 _ rfl
       subst hres
       exact ⟨_, _, G22, as17_0, ns17_0, cs17_0, clas17_0, rfl, zu _ _ ⟨rfl, rfl, trivial⟩, leG22, hS, hO, hnhs17_0, hs17_0⟩
    ·rintro F w67 ⟨p18, Fb, G68, ap18_0, np18_0, cp18_0, clap18_0, rfl, rfl, leG68, hS, hO, hnhp18_0, hp18_0⟩
     refine zQ (zR (zV (rn_loadA ag32 (cs := [.slice a1 n1 c1, .slice a2 n2 c2, .slice a3 n3 c3]) rfl rfl (fun j v hj => (hS.sat.le leG68).cell (hcb4.drop_take 0 3 j v hj))) rfl (zO rfl (OpP_in1 (N' := 7) [.agg #[.slice a1 n1 c1, .slice a2 n2 c2, .slice a3 n3 c3]] cb85 Tryz.func85 rfl rfl rfl rfl rfl rfl ?_)))); refine zQ (zR (zO rfl (OpP_newF (v := fun b => pV b) (cs := [.slice a1 n1 c1, .slice a2 n2 c2, .slice a3 n3 c3]) (e := 32) (rn_boxA rfl) hS.sat rfl (fun b69 G71 w70 hg hcb69 => ?_)))); have hS := hS.grow hg; have hO := hO.grow hg
     have leG71 := hg.le
     refine zV (zA (v := (.pointer none)) rfl) rfl (zN (zQ (zR (zV (rn_loadA ag32 (cs := [.slice a1 n1 c1, .slice a2 n2 c2, .slice a3 n3 c3]) rfl rfl (fun j v hj => hS.sat.cell (hcb69.drop_take 0 3 j v hj))) rfl (zO rfl (OpP_makeMap (e := 263) hS hO rfl (fun r72 w73 hS hO => ?_)))))))
     have hO : Owns _ _ _ ([⟨263, 2, ([] : (List (Int × Bool))).length, .map (some r72), kvs kvI vvB ([] : (List (Int × Bool)))⟩, ⟨3, 1, np18_0, .slice ap18_0 np18_0 cp18_0, clap18_0⟩, zt 173 64 b11 p18.2]) := hO
     refine zV (v := (.agg #[.slice a1 n1 c1, .slice a2 n2 c2, .slice a3 n3 c3, .map (some r72)])) (by kernel_rfl) rfl ?_
     refine zO rfl (OpP_newF (v := fun b => pV b) (cs := [.slice a1 n1 c1, .slice a2 n2 c2, .slice a3 n3 c3, .map (some r72)]) (e := 268) (rn_boxA rfl) hS.sat rfl (fun b75 G77 w76 hg hcb75 => ?_)); have hS := hS.grow hg; have hO := hO.grow hg
     have leG77 := hg.le
     refine zV (zA (v := (pV b75)) rfl) rfl (zN (zr ?_)); refine ⟨(pV b75), rfl, ?_⟩
     have hO : Owns _ _ _ ([⟨263, 2, ([] : (List (Int × Bool))).length, .map (some r72), kvs kvI vvB ([] : (List (Int × Bool)))⟩, ⟨3, 1, np18_0, .slice ap18_0 np18_0 cp18_0, clap18_0⟩, zt 173 64 b11 p18.2]) := hO
     refine zV (zA (v := (pV b75)) rfl) rfl (zN (zQ (zQ (zR (zV (zA (v := (iV 1)) rfl) rfl (zN ?_)))))); obtain ⟨q80, hq80, H⟩ := bnd H; refine zM (fun F w => ∃ (p79 : (Tb 64) × (List (Int × Bool))) (Fb : Fr) (G : Gm), q80 = .inl p79 ∧ F = upds Fb [(9, .slice ap18_0 np18_0 cp18_0)] ∧ Gle G77 G ∧ SO G0 w0 G w [⟨263, 2, (p79.2).length, .map (some r72), kvs kvI vvB (p79.2)⟩, ⟨3, 1, np18_0, .slice ap18_0 np18_0 cp18_0, clap18_0⟩, zt 173 64 b11 p79.1]) ?_ ?_
     ·refine zb (WC_loop hq80 (fun s78 F w => ∃ (Fb : Fr) (G : Gm), F = upds Fb [(2, pV b4), (9, .slice ap18_0 np18_0 cp18_0), (15, pV b75), (16, iV s78.1)] ∧ Gle G77 G ∧ SO G0 w0 G w [⟨263, 2, (s78.2.2).length, .map (some r72), kvs kvI vvB (s78.2.2)⟩, ⟨3, 1, np18_0, .slice ap18_0 np18_0 cp18_0, clap18_0⟩, zt 173 64 b11 s78.2.1]) ?_ ?_)
      ·have hO : Owns _ _ _ ([⟨263, 2, ([] : (List (Int × Bool))).length, .map (some r72), kvs kvI vvB ([] : (List (Int × Bool)))⟩, ⟨3, 1, np18_0, .slice ap18_0 np18_0 cp18_0, clap18_0⟩, zt 173 64 b11 p18.2]) := hO
       exact ⟨_, G77, zu _ _ ⟨rfl, rfl, rfl, rfl, trivial⟩, Gle.refl _, hS, hO⟩
      ·rintro s78 F w82 t81 ⟨Fb, G83, rfl, leG83, hS, hO⟩
       intro H1 hqq80
       have Hoq80 := H; have H := H1
       unfold f34_b2 at H
       refine zQ (zQ (zR (WL_run tabH (cells0 _) 4 [_] rfl rfl (ao hnhp18_0 an) (zN (zT rfl (fun hb84 => ?_) (fun hb84 => ?_))))))
       ·have H := ifT hb84 H; refine zP (zQ (zb (zQ ?_))); have hS := hS.keep (below_drew _); have hO := hO.below (below_drew _)
        refine WC_regionD mixedO (fun _ w => Sat G83 w ∧ Owns G83 w w0.heap.size [⟨263, 2, (s78.2.2).length, .map (some r72), kvs kvI vvB (s78.2.2)⟩, ⟨3, 1, np18_0, .slice ap18_0 np18_0 cp18_0, clap18_0⟩, zt 173 64 b11 s78.2.1]) (.fl 0 (.fl 1 (.fl 2 (.fl 3 (.fl 4 (.fl 5 (.fl 6 (.fl 7 (.fl 8 (.fl 9 (.fl 10 (.fl 11 (.fl 12 (.on 13 (.on 14 (.on 15 (.on 16 (.on 17 (.on 18 (.on 19 (.on 20 (.on 21 .nil)))))))))))))))))))))) (by kernel_rfl) rfl (by kernel_rfl) (fun _ => ⟨hS.sat, hO⟩) ?_
        refine zD rfl (fun w hw => zm (v := (pV b75)) rfl) rfl (zD rfl (fun w hw => zF fd32_1 rfl) rfl (zD rfl (fun w hw => zL na29 rfl ((hw.1.le (((leG68.trans leG71).trans leG77).trans leG83)).cell (hcb4 1 _ rfl))) rfl (zD rfl (fun w hw => zm (v := (.slice ap18_0 np18_0 cp18_0)) rfl) rfl (zD rfl (fun w hw => zm (v := (iV s78.1)) rfl) rfl ?_)))); obtain ⟨y85, hy85, H⟩ := bnd H
        have l2_5 := (leG71.trans leG77).trans leG83
        refine WD_idxO rfl sl24 hO (k := 1) rfl hnhp18_0 (hp18_0.mono RInt_mono l2_5) hy85 rfl rfl rfl ?_
        rintro b86 ob86 _ hb86 _ hcb86 ⟨⟩
        refine zD rfl (fun w hw => zL na3 rfl (own_cellB hw.2 (k := 1) rfl hb86 _ 0 (hcb86 0 _ rfl))) rfl ?_; obtain ⟨y87, hy87, H⟩ := bnd H
        have l0_5 := (leG6.trans leG68).trans l2_5
        refine WD_idx rfl sl29 (h2.mono RTLandEvent_mono l0_5) hy87 rfl rfl rfl ?_
        rintro b88 o88 _ hcb88 _ ⟨⟩
        refine zD rfl (fun w hw => zF fd63_1 rfl) rfl (zD rfl (fun w hw => zL na3 rfl (hw.1.cell (hcb88 1 _ rfl))) rfl (zD rfl (fun w hw => zF fd32_1 rfl) rfl (zD rfl (fun w hw => zL na29 rfl ((hw.1.le (leG68.trans l2_5)).cell (hcb4 1 _ rfl))) rfl (zD rfl (fun w hw => zm (v := (.slice ap18_0 np18_0 cp18_0)) rfl) rfl (zE rfl rfl (OpP_val (zm (v := (iV s78.1)) rfl) rfl ?_)))))); refine ⟨fun _ _ => ⟨hS.sat, hO⟩, ?_⟩; refine zE rfl rfl (OpP_val (rn_sub rfl rfl) rfl ?_); refine ⟨fun _ _ => ⟨hS.sat, hO⟩, ?_⟩; obtain ⟨y89, hy89, H⟩ := bnd H; refine zE rfl rfl (OpP_idxO sl24 hO (k := 1) rfl hnhp18_0 (hp18_0.mono RInt_mono l2_5) hy89 rfl rfl rfl ?_)
        rintro b90 ob90 _ hb90 _ hcb90 ⟨⟩
        refine ⟨fun _ _ => ⟨hS.sat, hO⟩, ?_⟩; refine zE rfl rfl (OpP_val (zL na3 rfl (own_cellB hO (k := 1) rfl hb90 _ 0 (hcb90 0 _ rfl))) rfl ?_); refine ⟨fun _ _ => ⟨hS.sat, hO⟩, ?_⟩; obtain ⟨y91, hy91, H⟩ := bnd H; refine zE rfl rfl (OpP_idx sl29 (h2.mono RTLandEvent_mono l0_5) hy91 rfl rfl rfl ?_)
        rintro b92 o92 _ hcb92 _ ⟨⟩
        refine ⟨fun _ _ => ⟨hS.sat, hO⟩, ?_⟩; refine zE rfl rfl (OpP_val (zF fd63_1 rfl) rfl ?_); refine ⟨fun _ _ => ⟨hS.sat, hO⟩, ?_⟩; refine zE rfl rfl (OpP_val (zL na3 rfl (hS.sat.cell (hcb92 1 _ rfl))) rfl ?_); refine ⟨fun _ _ => ⟨hS.sat, hO⟩, ?_⟩; obtain ⟨y93, hy93, H⟩ := bnd H
        have hx95 := f86_ok (x0 := x0) (x1 := y87.Holder) (x2 := y91.Holder) hS.sat (hcb75.mono leG83) (h1.mono RTLandPerson_mono l0_5) (h2.mono RTLandEvent_mono l0_5) (h3.mono RTLandMemory_mono l0_5) hy93
        refine zE rfl rfl (zC cb86 hx95 rfl rfl (fun w94 hb => ?_)); have hS := hS.keep hb; have hO := hO.below hb
        refine ⟨fun _ h => noneed (by kernel_rfl) h, ?_⟩
        refine zE rfl rfl (OpP_val (rn_not rfl) rfl ?_)
        refine ⟨fun _ h => noneed (by kernel_rfl) h, ?_⟩
        refine zI (zT rfl (fun hb96 => ?_) (fun hb96 => ?_))
        ·have H := ifT hb96 H; refine zQ (zR ?_); refine wr 5 rfl ?_; refine zN (zr ?_); obtain ⟨G97, leG97, hS, hO, hfG97⟩ := hO.freezeS hS RInt_mono (k := 1) rfl (hp18_0.mono RInt_mono l2_5) hnhp18_0; cases H
         have hres := hqq80 _ rfl
         subst hres; have H := Hoq80
         have H : some (p18.1, s78.1, 0) = some r := H
         cases H
         exact ⟨_, _, rfl, hS.toGrow, _, _, _, rfl, hfG97⟩
        ·have H := ifF hb96 H; refine zP (zR ?_); refine wr 3 rfl ?_; refine zN ?_
         have hO : Owns _ _ _ ([⟨263, 2, (s78.2.2).length, .map (some r72), kvs kvI vvB (s78.2.2)⟩, ⟨3, 1, np18_0, .slice ap18_0 np18_0 cp18_0, clap18_0⟩, zt 173 64 b11 s78.2.1]) := hO
         cases H; refine ⟨_, rfl, ?_⟩
         exact ⟨_, G83, zu _ _ ⟨rfl, rfl, rfl, rfl, trivial⟩, leG83, hS, hO⟩
       ·have H := ifF hb84 H; refine WC_exit rfl ?_
        have hO : Owns _ _ _ ([⟨263, 2, (s78.2.2).length, .map (some r72), kvs kvI vvB (s78.2.2)⟩, ⟨3, 1, np18_0, .slice ap18_0 np18_0 cp18_0, clap18_0⟩, zt 173 64 b11 s78.2.1]) := hO
        cases H
        have hres := hqq80 _ rfl
        subst hres
        exact ⟨_, _, G83, rfl, zu _ _ ⟨rfl, trivial⟩, leG83, hS, hO⟩
     ·rintro F w98 ⟨p79, Fb, G99, rfl, rfl, leG99, hS, hO⟩
      refine zQ (zR ?_); refine wr 4 rfl ?_; refine zN (zr ?_)
      have l2_5 := (leG71.trans leG77).trans leG99
      obtain ⟨G100, leG100, hS, hO, hfG100⟩ := hO.freezeS hS RInt_mono (k := 1) rfl (hp18_0.mono RInt_mono l2_5) hnhp18_0
      have H : some (p18.1, (-1), 0) = some r := H
      cases H
      exact ⟨_, _, rfl, hS.toGrow, _, _, _, rfl, hfG100⟩
  ·refine zE rfl rfl (zU (v := fun b => pV b) (cs := (cellsT (Tb.zero 64))) (e := 173) (by kernel_rfl) hS.sat hO rfl 64 1 (cellsT_len _) (by decide) (fun b9 w10 hb hO => ?_))
   have hS := hS.keep hb; refine ⟨fun _ _ => ⟨hS.sat, trivial⟩, ?_⟩; obtain ⟨y12, hy12, H⟩ := bnd H; refine zE rfl rfl (zC cb81 (f81_ok (x0 := x0) (x1 := y7) hS.sat (h1.mono RTLandPerson_mono leG6) (h2.mono RTLandEvent_mono leG6) (h3.mono RTLandMemory_mono leG6) hy12) rfl rfl (fun w13 hb => ?_)); have hS := hS.keep hb; have hO := hO.below hb; refine ⟨fun _ _ => ⟨hS.sat, trivial⟩, ?_⟩; refine zE rfl rfl (OpP_val (zm (v := (.tuple #[.agg (cellsT y12.1).toArray, iV y12.2])) rfl) rfl ?_); refine ⟨fun _ _ => ⟨hS.sat, trivial⟩, ?_⟩; refine zD rfl (fun w hw => zX (v := (.agg (cellsT y12.1).toArray)) rfl rfl) rfl (zD rfl (fun w hw => zX (v := (iV y12.2)) rfl rfl) rfl (zE rfl rfl (OpP_storeTT sz173 hS hO (k := 0) rfl rfl rfl (fun w14 hS hO => ?_))))
   have hO : Owns _ _ _ ([zt 173 64 b9 y12.1]) := hO
   refine ⟨fun _ _ => ⟨hS.sat, trivial⟩, ?_⟩; refine zE rfl rfl (OpP_val (zA (v := (iV y12.2)) rfl) rfl ?_)
   refine ⟨fun _ h => noneed (by kernel_rfl) h, ?_⟩
   refine zI (zQ (zQ (zR ?_))); refine wr 2 rfl ?_; refine zN (zT rfl (fun hb15 => ?_) (fun hb15 => ?_))
   ·have H := ifT hb15 H; refine zQ (zR ?_); refine wr 4 rfl ?_; refine zN (zr ?_)
    have H : some ([], 0, y12.2) = some r := H
    cases H
    exact ⟨_, _, rfl, hS.toGrow, _, _, _, rfl, (RSl.nil RInt 1 G6 none)⟩
   ·have H := ifF hb15 H; refine zP (zQ (zR (zV (zA (v := (.slice none 0 0)) rfl) rfl (zN (zQ (zQ (zR (WL_run tabH (cellsW hS.sat hcb4) 4 [_] rfl rfl (ao (h2.mono RTLandEvent_mono leG6).1 an) (zN ?_))))))))); have hO := hO.cons_nil 3 1; obtain ⟨q19, hq19, H⟩ := bnd H; refine zM (fun F w => ∃ (p18 : (List Int) × (Tb 64)) (Fb : Fr) (G : Gm) (ap18_0 : Option Addr) (np18_0 cp18_0 : Nat) (clap18_0 : List Value), q19 = .inl p18 ∧ F = upds Fb [(2, pV b4), (9, .slice ap18_0 np18_0 cp18_0)] ∧ Gle G6 G ∧ Since w0.heap.size G0 w0 G w ∧ Owns G w w0.heap.size [⟨3, 1, np18_0, .slice ap18_0 np18_0 cp18_0, clap18_0⟩, zt 173 64 b9 p18.2] ∧ np18_0 = p18.1.length ∧ Rd RInt 1 G clap18_0 p18.1) ?_ ?_
    ·refine zb (WC_loop hq19 (fun s17 F w => ∃ (Fb : Fr) (G : Gm) (as17_0 : Option Addr) (ns17_0 cs17_0 : Nat) (clas17_0 : List Value), F = upds Fb [(1, iV x1), (2, pV b4), (7, pV b9), (9, .slice as17_0 ns17_0 cs17_0), (28, .slice a2 n2 c2), (29, iV (x0.Events.length : Int)), (30, iV s17.2.1)] ∧ Gle G6 G ∧ Since w0.heap.size G0 w0 G w ∧ Owns G w w0.heap.size [⟨3, 1, ns17_0, .slice as17_0 ns17_0 cs17_0, clas17_0⟩, zt 173 64 b9 s17.2.2] ∧ ns17_0 = s17.1.length ∧ Rd RInt 1 G clas17_0 s17.1) ?_ ?_)
     ·have hO : Owns _ _ _ ([⟨3, 1, 0, .slice none 0 0, []⟩, zt 173 64 b9 y12.1]) := hO
      exact ⟨_, G6, none, 0, 0, [], zu _ _ ⟨rfl, rfl, rfl, rfl, rfl, rfl, rfl, trivial⟩, Gle.refl _, hS, hO, rfl, (Rd.nil RInt 1 G6)⟩
     ·rintro s17 F w21 t20 ⟨Fb, G22, as17_0, ns17_0, cs17_0, clas17_0, rfl, leG22, hS, hO, hnhs17_0, hs17_0⟩
      intro H1 hqq19
      have Hoq19 := H; have H := H1
      unfold f34_b0 at H
      refine zQ (zR (zV (zl rfl rfl) rfl (zN (zQ (zT rfl (fun hb23 => ?_) (fun hb23 => ?_))))))
      ·have H := ifT hb23 H; refine zP (zQ ?_); obtain ⟨q24, hq24, H⟩ := bnd H; refine zM (fun F w => ∃ (p25 : (List Int) × (Tb 64)) (Fb : Fr) (G : Gm) (ap25_0 : Option Addr) (np25_0 cp25_0 : Nat) (clap25_0 : List Value), q24 = .inl p25 ∧ F = upds Fb [(1, iV x1), (2, pV b4), (7, pV b9), (9, .slice ap25_0 np25_0 cp25_0), (28, .slice a2 n2 c2), (29, iV (x0.Events.length : Int)), (30, iV s17.2.1)] ∧ Gle G22 G ∧ Since w0.heap.size G0 w0 G w ∧ Owns G w w0.heap.size [⟨3, 1, np25_0, .slice ap25_0 np25_0 cp25_0, clap25_0⟩, zt 173 64 b9 p25.2] ∧ np25_0 = p25.1.length ∧ Rd RInt 1 G clap25_0 p25.1) ?_ ?_
       ·have Hoq24 := H; have H := hq24; refine zb (zQ (zR (zV (zm (v := (iV s17.2.1)) rfl) rfl ?_))); obtain ⟨y26, hy26, H⟩ := bnd H
        have l0_2 := leG6.trans leG22
        refine WL_idx sl29 (h2.mono RTLandEvent_mono l0_2) hy26 rfl rfl rfl ?_
        rintro b27 o27 _ hcb27 _ ⟨⟩
        refine zV (rn_loadA ag63 (cs := [iV y26.Strip, iV y26.Holder]) rfl rfl (fun j v hj => hS.sat.cell (hcb27.drop_take 0 2 j v hj))) rfl ?_
        refine zO rfl (zU (v := fun b => pV b) (cs := [iV 0, iV 0]) (e := 63) (by kernel_rfl) hS.sat hO rfl 2 1 rfl (by decide) (fun b28 w29 hb hO => ?_))
        have hS := hS.keep hb; refine zV (zA (v := (iV s17.2.1)) rfl) rfl (zO rfl (OpP_store (vs := [iV y26.Strip, iV y26.Holder]) sz63 hS hO (k := 0) rfl rfl rfl rfl rfl (one_all rfl) (Nat.le_of_ble_eq_true rfl) (fun w31 hS hO => ?_)))
        have hO : Owns _ _ _ ([⟨63, 2, 1, .slice (some ⟨b28, 0, none⟩) 1 1, [iV y26.Strip, iV y26.Holder]⟩, ⟨3, 1, ns17_0, .slice as17_0 ns17_0 cs17_0, clas17_0⟩, zt 173 64 b9 s17.2.2]) := hO
        obtain ⟨G32, leG32, hS, hO, hqG32, _⟩ := hO.freeze hS (k := 0) rfl
        have hcG32 : Cells G32 b28 0 [iV y26.Strip, iV y26.Holder] := (hqG32 _ _ _ _ rfl)
        refine zN (zQ (zQ (zR (WL_run tabH (cellsW hS.sat hcG32) 4 [] rfl rfl an (zN (zT rfl (fun hb33 => ?_) (fun hb33 => ?_)))))))
        ·have H := ifT hb33 H; refine WC_exit rfl ?_
         have hO : Owns _ _ _ ([⟨3, 1, ns17_0, .slice as17_0 ns17_0 cs17_0, clas17_0⟩, zt 173 64 b9 s17.2.2]) := hO
         cases H
         exact ⟨_, _, G32, as17_0, ns17_0, cs17_0, clas17_0, rfl, zu _ _ ⟨rfl, rfl, rfl, rfl, rfl, rfl, rfl, trivial⟩, leG32, hS, hO, hnhs17_0, (hs17_0.mono RInt_mono leG32)⟩
        ·have H := ifF hb33 H; refine zP (zQ (zR (WL_run tabH (cells0 _) 3 [_] rfl rfl (ao hnhs17_0 an) (zN (zQ (zQ (zR (WL_run tabH (cells0 _) 3 [_] rfl rfl (ao hnhs17_0 an) (zN ?_))))))))); obtain ⟨q36, hq36, H⟩ := bnd H; refine zM (fun F w => ∃ (p35 : Int × (Tb 64)) (Fb : Fr) (G : Gm), q36 = .inl p35 ∧ F = upds Fb [(1, iV x1), (2, pV b4), (7, pV b9), (9, .slice as17_0 ns17_0 cs17_0), (10, iV s17.2.1), (12, iV p35.1), (28, .slice a2 n2 c2), (29, iV (x0.Events.length : Int)), (30, iV s17.2.1)] ∧ Gle G32 G ∧ SO G0 w0 G w [⟨3, 1, ns17_0, .slice as17_0 ns17_0 cs17_0, clas17_0⟩, zt 173 64 b9 p35.2]) ?_ ?_
         ·refine zb (WC_loop hq36 (fun s34 F w => ∃ (Fb : Fr) (G : Gm), F = upds Fb [(1, iV x1), (2, pV b4), (7, pV b9), (9, .slice as17_0 ns17_0 cs17_0), (10, iV s17.2.1), (12, iV s34.1), (28, .slice a2 n2 c2), (29, iV (x0.Events.length : Int)), (30, iV s17.2.1), (41, .slice as17_0 ns17_0 cs17_0), (42, iV (s17.1.length : Int)), (43, iV s34.2.1)] ∧ Gle G32 G ∧ SO G0 w0 G w [⟨3, 1, ns17_0, .slice as17_0 ns17_0 cs17_0, clas17_0⟩, zt 173 64 b9 s34.2.2]) ?_ ?_)
          ·have hO : Owns _ _ _ ([⟨3, 1, ns17_0, .slice as17_0 ns17_0 cs17_0, clas17_0⟩, zt 173 64 b9 s17.2.2]) := hO
           exact ⟨_, G32, zu _ _ ⟨rfl, rfl, rfl, rfl, rfl, rfl, rfl, rfl, rfl, rfl, rfl, rfl, trivial⟩, Gle.refl _, hS, hO⟩
          ·rintro s34 F w38 t37 ⟨Fb, G39, rfl, leG39, hS, hO⟩
           intro H1 hqq36
           have Hoq36 := H; have H := H1
           unfold f34_b1 at H
           refine zQ (zR (zV (zl rfl rfl) rfl (zN (zQ (zT rfl (fun hb40 => ?_) (fun hb40 => ?_))))))
           ·have H := ifT hb40 H; refine zP (zQ ?_); obtain ⟨q41, hq41, H⟩ := bnd H; refine zM (fun F w => ∃ (p42 : Int) (Fb : Fr) (G : Gm), q41 = .inl p42 ∧ F = upds Fb [(1, iV x1), (2, pV b4), (7, pV b9), (9, .slice as17_0 ns17_0 cs17_0), (10, iV s17.2.1), (12, iV p42), (28, .slice a2 n2 c2), (29, iV (x0.Events.length : Int)), (30, iV s17.2.1), (41, .slice as17_0 ns17_0 cs17_0), (42, iV (s17.1.length : Int)), (43, iV s34.2.1)] ∧ Gle G39 G ∧ SO G0 w0 G w [⟨3, 1, ns17_0, .slice as17_0 ns17_0 cs17_0, clas17_0⟩, zt 173 64 b9 s34.2.2]) ?_ ?_
            ·have Hoq41 := H; have H := hq41; refine zb (zQ (zR (zV (zm (v := (iV s34.2.1)) rfl) rfl ?_))); obtain ⟨y43, hy43, H⟩ := bnd H
             have l2_4 := leG32.trans leG39
             refine WL_idxO sl24 hO (k := 0) rfl hnhs17_0 (hs17_0.mono RInt_mono l2_4) hy43 rfl rfl rfl ?_
             rintro b44 ob44 _ hb44 _ hcb44 ⟨⟩
             refine zV (zL na3 rfl (own_cellB hO (k := 0) rfl hb44 _ 0 (hcb44 0 _ rfl))) rfl ?_; refine wr 2 rfl ?_; refine zN (zb (zQ (zR (zV (rn_loadT ag173 hO (k := 1) rfl rfl) rfl ?_)))); refine wr 2 rfl ?_; obtain ⟨y45, hy45, H⟩ := bnd H; refine zO rfl (zC cb82 (f82_ok (x0 := s34.2.2) (x1 := s17.2.1) (x2 := y43) hS.sat  hy45) rfl rfl (fun w46 hb => ?_)); have hS := hS.keep hb; have hO := hO.below hb
             refine zV (v := (iV y45.Low)) (by kernel_rfl) rfl ?_
             refine wr 2 rfl ?_; refine zN (zT rfl (fun hb47 => ?_) (fun hb47 => ?_))
             ·have H := ifT hb47 H; refine zR ?_; refine wr 2 rfl ?_; refine zV (rn_min rfl rfl) rfl (zV (zA (v := (iV (if s34.2.1 < s34.1 then s34.2.1 else s34.1))) rfl) rfl (zN ?_))
              have hO : Owns _ _ _ ([⟨3, 1, ns17_0, .slice as17_0 ns17_0 cs17_0, clas17_0⟩, zt 173 64 b9 s34.2.2]) := hO
              cases H
              exact ⟨_, _, G39, rfl, zu _ _ ⟨rfl, rfl, rfl, rfl, rfl, rfl, rfl, rfl, rfl, rfl, rfl, rfl, trivial⟩, Gle.refl _, hS, hO⟩
             ·have H := ifF hb47 H; refine zQ (zR (zV (rn_loadT ag173 hO (k := 1) rfl rfl) rfl ?_)); refine wr 2 rfl ?_; obtain ⟨y48, hy48, H⟩ := bnd H; refine zO rfl (zC cb82 (f82_ok (x0 := s34.2.2) (x1 := y43) (x2 := s17.2.1) hS.sat  hy48) rfl rfl (fun w49 hb => ?_)); have hS := hS.keep hb; have hO := hO.below hb
              refine zV (v := (iV y48.Low)) (by kernel_rfl) rfl ?_
              refine wr 2 rfl ?_; refine zN (zT rfl (fun hb50 => ?_) (fun hb50 => ?_))
              ·have H := ifT hb50 H; refine zQ (zR ?_); refine wr 3 rfl ?_; refine zN (zr ?_); cases H; have H := Hoq41; cases H
               have hres := hqq36 _ rfl
               subst hres; have H := Hoq36; cases H; have H := Hoq24; cases H
               have hres := hqq19 _ rfl
               subst hres; have H := Hoq19
               have H : some ([], 0, 8) = some r := H
               cases H
               exact ⟨_, _, rfl, hS.toGrow, _, _, _, rfl, (RSl.nil RInt 1 G39 none)⟩
              ·have H := ifF hb50 H; refine zP ?_
               have hO : Owns _ _ _ ([⟨3, 1, ns17_0, .slice as17_0 ns17_0 cs17_0, clas17_0⟩, zt 173 64 b9 s34.2.2]) := hO
               cases H
               exact ⟨_, _, G39, rfl, zu _ _ ⟨rfl, rfl, rfl, rfl, rfl, rfl, rfl, rfl, rfl, rfl, rfl, rfl, trivial⟩, Gle.refl _, hS, hO⟩
            ·rintro F w51 ⟨p42, Fb, G52, rfl, rfl, leG52, hS, hO⟩
             refine zR ?_; refine wr 2 rfl ?_; refine zN ?_
             have hO : Owns _ _ _ ([⟨3, 1, ns17_0, .slice as17_0 ns17_0 cs17_0, clas17_0⟩, zt 173 64 b9 s34.2.2]) := hO
             cases H; refine ⟨_, rfl, ?_⟩
             have l3_5 := leG39.trans leG52
             exact ⟨_, G52, zu _ _ ⟨rfl, rfl, rfl, rfl, rfl, rfl, rfl, rfl, rfl, rfl, rfl, rfl, trivial⟩, l3_5, hS, hO⟩
           ·have H := ifF hb40 H; refine WC_exit rfl ?_
            have hO : Owns _ _ _ ([⟨3, 1, ns17_0, .slice as17_0 ns17_0 cs17_0, clas17_0⟩, zt 173 64 b9 s34.2.2]) := hO
            cases H
            have hres := hqq36 _ rfl
            subst hres
            exact ⟨_, _, G39, rfl, zu _ _ ⟨rfl, rfl, rfl, rfl, rfl, rfl, rfl, rfl, rfl, trivial⟩, leG39, hS, hO⟩
         ·rintro F w54 ⟨p35, Fb, G55, rfl, rfl, leG55, hS, hO⟩
          refine zR ?_; refine wr 3 rfl ?_
          refine zO rfl (zU (v := fun b => .slice (some ⟨b, 0, none⟩) 1 1) (cs := [iV s17.2.1]) (e := 3) (by kernel_rfl) hS.sat hO rfl 1 1 rfl (by decide) (fun b56 w57 hb hO => ?_))
          have hS := hS.keep hb
          have hrb56 : Rd RInt 1 G55 [iV s17.2.1] [s17.2.1] := (Rd.cons (c := [iV s17.2.1]) rfl rfl (Rd.nil RInt 1 _))
          have hO := hO.front (k := 0) rfl; have hO := hO.front (k := 1) rfl
          have hO : Owns _ _ _ ([⟨3, 1, ns17_0, .slice as17_0 ns17_0 cs17_0, clas17_0⟩, ⟨3, 1, 1, .slice (some ⟨b56, 0, none⟩) 1 1, [iV s17.2.1]⟩, zt 173 64 b9 p35.2]) := hO
          obtain ⟨y59, hy59, H⟩ := bnd H
          have l2_4 := leG32.trans leG55
          refine zO rfl (OpP_lent (fi := []) (al := [.slice as17_0 ns17_0 cs17_0, iV p35.1, .slice (some ⟨b56, 0, none⟩) 1 1]) (ca := []) cb84 (f84_ok (i := p35.1) (x := s17.2.1) hS hO hnhs17_0 (hs17_0.mono RInt_mono l2_4) hy59) rfl rfl rfl (fun vG61 G61 w60 L62 leG61 hS hO hvG61 => ?_)); obtain ⟨aw60, cw60, clw60, rfl, rfl, hrw60⟩ := hvG61
          have hO : Owns _ _ _ ([⟨3, 1, y59.length, .slice aw60 y59.length cw60, clw60⟩, ⟨3, 1, 1, .slice (some ⟨b56, 0, none⟩) 1 1, [iV s17.2.1]⟩, zt 173 64 b9 p35.2]) := hO
          have hO := hO.drop 1
          have hO : Owns _ _ _ ([⟨3, 1, y59.length, .slice aw60 y59.length cw60, clw60⟩, zt 173 64 b9 p35.2]) := hO
          refine zV (zA (v := (.slice aw60 y59.length cw60)) rfl) rfl (zN ?_)
          have hO : Owns _ _ _ ([⟨3, 1, y59.length, .slice aw60 y59.length cw60, clw60⟩, zt 173 64 b9 p35.2]) := hO
          cases H
          have l2_5 := l2_4.trans leG61
          exact ⟨_, _, G61, aw60, y59.length, cw60, clw60, rfl, zu _ _ ⟨rfl, rfl, rfl, rfl, rfl, rfl, rfl, trivial⟩, l2_5, hS, hO, rfl, hrw60⟩
       ·rintro F w64 ⟨p25, Fb, G65, ap25_0, np25_0, cp25_0, clap25_0, rfl, rfl, leG65, hS, hO, hnhp25_0, hp25_0⟩
        refine zR ?_; refine wr 2 rfl ?_; refine zN ?_
        have hO : Owns _ _ _ ([⟨3, 1, np25_0, .slice ap25_0 np25_0 cp25_0, clap25_0⟩, zt 173 64 b9 p25.2]) := hO
        cases H; refine ⟨_, rfl, ?_⟩
        have l1_3 := leG22.trans leG65
        exact ⟨_, G65, ap25_0, np25_0, cp25_0, clap25_0, zu _ _ ⟨rfl, rfl, rfl, rfl, rfl, rfl, rfl, trivial⟩, l1_3, hS, hO, hnhp25_0, hp25_0⟩
      ·have H := ifF hb23 H; refine WC_exit rfl ?_
       have hO : Owns _ _ _ ([⟨3, 1, ns17_0, .slice as17_0 ns17_0 cs17_0, clas17_0⟩, zt 173 64 b9 s17.2.2]) := hO
       cases H
       have hres := hqq19 _ rfl
       subst hres
       exact ⟨_, _, G22, as17_0, ns17_0, cs17_0, clas17_0, rfl, zu _ _ ⟨rfl, rfl, trivial⟩, leG22, hS, hO, hnhs17_0, hs17_0⟩
    ·rintro F w67 ⟨p18, Fb, G68, ap18_0, np18_0, cp18_0, clap18_0, rfl, rfl, leG68, hS, hO, hnhp18_0, hp18_0⟩
     refine zQ (zR (zV (rn_loadA ag32 (cs := [.slice a1 n1 c1, .slice a2 n2 c2, .slice a3 n3 c3]) rfl rfl (fun j v hj => (hS.sat.le leG68).cell (hcb4.drop_take 0 3 j v hj))) rfl (zO rfl (OpP_in1 (N' := 7) [.agg #[.slice a1 n1 c1, .slice a2 n2 c2, .slice a3 n3 c3]] cb85 Tryz.func85 rfl rfl rfl rfl rfl rfl ?_)))); refine zQ (zR (zO rfl (OpP_newF (v := fun b => pV b) (cs := [.slice a1 n1 c1, .slice a2 n2 c2, .slice a3 n3 c3]) (e := 32) (rn_boxA rfl) hS.sat rfl (fun b69 G71 w70 hg hcb69 => ?_)))); have hS := hS.grow hg; have hO := hO.grow hg
     have leG71 := hg.le
     refine zV (zA (v := (.pointer none)) rfl) rfl (zN (zQ (zR (zV (rn_loadA ag32 (cs := [.slice a1 n1 c1, .slice a2 n2 c2, .slice a3 n3 c3]) rfl rfl (fun j v hj => hS.sat.cell (hcb69.drop_take 0 3 j v hj))) rfl (zO rfl (OpP_makeMap (e := 263) hS hO rfl (fun r72 w73 hS hO => ?_)))))))
     have hO : Owns _ _ _ ([⟨263, 2, ([] : (List (Int × Bool))).length, .map (some r72), kvs kvI vvB ([] : (List (Int × Bool)))⟩, ⟨3, 1, np18_0, .slice ap18_0 np18_0 cp18_0, clap18_0⟩, zt 173 64 b9 p18.2]) := hO
     refine zV (v := (.agg #[.slice a1 n1 c1, .slice a2 n2 c2, .slice a3 n3 c3, .map (some r72)])) (by kernel_rfl) rfl ?_
     refine zO rfl (OpP_newF (v := fun b => pV b) (cs := [.slice a1 n1 c1, .slice a2 n2 c2, .slice a3 n3 c3, .map (some r72)]) (e := 268) (rn_boxA rfl) hS.sat rfl (fun b75 G77 w76 hg hcb75 => ?_)); have hS := hS.grow hg; have hO := hO.grow hg
     have leG77 := hg.le
     refine zV (zA (v := (pV b75)) rfl) rfl (zN (zr ?_)); refine ⟨(pV b75), rfl, ?_⟩
     have hO : Owns _ _ _ ([⟨263, 2, ([] : (List (Int × Bool))).length, .map (some r72), kvs kvI vvB ([] : (List (Int × Bool)))⟩, ⟨3, 1, np18_0, .slice ap18_0 np18_0 cp18_0, clap18_0⟩, zt 173 64 b9 p18.2]) := hO
     refine zV (zA (v := (pV b75)) rfl) rfl (zN (zQ (zQ (zR (zV (zA (v := (iV 1)) rfl) rfl (zN ?_)))))); obtain ⟨q80, hq80, H⟩ := bnd H; refine zM (fun F w => ∃ (p79 : (Tb 64) × (List (Int × Bool))) (Fb : Fr) (G : Gm), q80 = .inl p79 ∧ F = upds Fb [(9, .slice ap18_0 np18_0 cp18_0)] ∧ Gle G77 G ∧ SO G0 w0 G w [⟨263, 2, (p79.2).length, .map (some r72), kvs kvI vvB (p79.2)⟩, ⟨3, 1, np18_0, .slice ap18_0 np18_0 cp18_0, clap18_0⟩, zt 173 64 b9 p79.1]) ?_ ?_
     ·refine zb (WC_loop hq80 (fun s78 F w => ∃ (Fb : Fr) (G : Gm), F = upds Fb [(2, pV b4), (9, .slice ap18_0 np18_0 cp18_0), (15, pV b75), (16, iV s78.1)] ∧ Gle G77 G ∧ SO G0 w0 G w [⟨263, 2, (s78.2.2).length, .map (some r72), kvs kvI vvB (s78.2.2)⟩, ⟨3, 1, np18_0, .slice ap18_0 np18_0 cp18_0, clap18_0⟩, zt 173 64 b9 s78.2.1]) ?_ ?_)
      ·have hO : Owns _ _ _ ([⟨263, 2, ([] : (List (Int × Bool))).length, .map (some r72), kvs kvI vvB ([] : (List (Int × Bool)))⟩, ⟨3, 1, np18_0, .slice ap18_0 np18_0 cp18_0, clap18_0⟩, zt 173 64 b9 p18.2]) := hO
       exact ⟨_, G77, zu _ _ ⟨rfl, rfl, rfl, rfl, trivial⟩, Gle.refl _, hS, hO⟩
      ·rintro s78 F w82 t81 ⟨Fb, G83, rfl, leG83, hS, hO⟩
       intro H1 hqq80
       have Hoq80 := H; have H := H1
       unfold f34_b2 at H
       refine zQ (zQ (zR (WL_run tabH (cells0 _) 4 [_] rfl rfl (ao hnhp18_0 an) (zN (zT rfl (fun hb84 => ?_) (fun hb84 => ?_))))))
       ·have H := ifT hb84 H; refine zP (zQ (zb (zQ ?_))); have hS := hS.keep (below_drew _); have hO := hO.below (below_drew _)
        refine WC_regionD mixedO (fun _ w => Sat G83 w ∧ Owns G83 w w0.heap.size [⟨263, 2, (s78.2.2).length, .map (some r72), kvs kvI vvB (s78.2.2)⟩, ⟨3, 1, np18_0, .slice ap18_0 np18_0 cp18_0, clap18_0⟩, zt 173 64 b9 s78.2.1]) (.fl 0 (.fl 1 (.fl 2 (.fl 3 (.fl 4 (.fl 5 (.fl 6 (.fl 7 (.fl 8 (.fl 9 (.fl 10 (.fl 11 (.fl 12 (.on 13 (.on 14 (.on 15 (.on 16 (.on 17 (.on 18 (.on 19 (.on 20 (.on 21 .nil)))))))))))))))))))))) (by kernel_rfl) rfl (by kernel_rfl) (fun _ => ⟨hS.sat, hO⟩) ?_
        refine zD rfl (fun w hw => zm (v := (pV b75)) rfl) rfl (zD rfl (fun w hw => zF fd32_1 rfl) rfl (zD rfl (fun w hw => zL na29 rfl ((hw.1.le (((leG68.trans leG71).trans leG77).trans leG83)).cell (hcb4 1 _ rfl))) rfl (zD rfl (fun w hw => zm (v := (.slice ap18_0 np18_0 cp18_0)) rfl) rfl (zD rfl (fun w hw => zm (v := (iV s78.1)) rfl) rfl ?_)))); obtain ⟨y85, hy85, H⟩ := bnd H
        have l2_5 := (leG71.trans leG77).trans leG83
        refine WD_idxO rfl sl24 hO (k := 1) rfl hnhp18_0 (hp18_0.mono RInt_mono l2_5) hy85 rfl rfl rfl ?_
        rintro b86 ob86 _ hb86 _ hcb86 ⟨⟩
        refine zD rfl (fun w hw => zL na3 rfl (own_cellB hw.2 (k := 1) rfl hb86 _ 0 (hcb86 0 _ rfl))) rfl ?_; obtain ⟨y87, hy87, H⟩ := bnd H
        have l0_5 := (leG6.trans leG68).trans l2_5
        refine WD_idx rfl sl29 (h2.mono RTLandEvent_mono l0_5) hy87 rfl rfl rfl ?_
        rintro b88 o88 _ hcb88 _ ⟨⟩
        refine zD rfl (fun w hw => zF fd63_1 rfl) rfl (zD rfl (fun w hw => zL na3 rfl (hw.1.cell (hcb88 1 _ rfl))) rfl (zD rfl (fun w hw => zF fd32_1 rfl) rfl (zD rfl (fun w hw => zL na29 rfl ((hw.1.le (leG68.trans l2_5)).cell (hcb4 1 _ rfl))) rfl (zD rfl (fun w hw => zm (v := (.slice ap18_0 np18_0 cp18_0)) rfl) rfl (zE rfl rfl (OpP_val (zm (v := (iV s78.1)) rfl) rfl ?_)))))); refine ⟨fun _ _ => ⟨hS.sat, hO⟩, ?_⟩; refine zE rfl rfl (OpP_val (rn_sub rfl rfl) rfl ?_); refine ⟨fun _ _ => ⟨hS.sat, hO⟩, ?_⟩; obtain ⟨y89, hy89, H⟩ := bnd H; refine zE rfl rfl (OpP_idxO sl24 hO (k := 1) rfl hnhp18_0 (hp18_0.mono RInt_mono l2_5) hy89 rfl rfl rfl ?_)
        rintro b90 ob90 _ hb90 _ hcb90 ⟨⟩
        refine ⟨fun _ _ => ⟨hS.sat, hO⟩, ?_⟩; refine zE rfl rfl (OpP_val (zL na3 rfl (own_cellB hO (k := 1) rfl hb90 _ 0 (hcb90 0 _ rfl))) rfl ?_); refine ⟨fun _ _ => ⟨hS.sat, hO⟩, ?_⟩; obtain ⟨y91, hy91, H⟩ := bnd H; refine zE rfl rfl (OpP_idx sl29 (h2.mono RTLandEvent_mono l0_5) hy91 rfl rfl rfl ?_)
        rintro b92 o92 _ hcb92 _ ⟨⟩
        refine ⟨fun _ _ => ⟨hS.sat, hO⟩, ?_⟩; refine zE rfl rfl (OpP_val (zF fd63_1 rfl) rfl ?_); refine ⟨fun _ _ => ⟨hS.sat, hO⟩, ?_⟩; refine zE rfl rfl (OpP_val (zL na3 rfl (hS.sat.cell (hcb92 1 _ rfl))) rfl ?_); refine ⟨fun _ _ => ⟨hS.sat, hO⟩, ?_⟩; obtain ⟨y93, hy93, H⟩ := bnd H
        have hx95 := f86_ok (x0 := x0) (x1 := y87.Holder) (x2 := y91.Holder) hS.sat (hcb75.mono leG83) (h1.mono RTLandPerson_mono l0_5) (h2.mono RTLandEvent_mono l0_5) (h3.mono RTLandMemory_mono l0_5) hy93
        refine zE rfl rfl (zC cb86 hx95 rfl rfl (fun w94 hb => ?_)); have hS := hS.keep hb; have hO := hO.below hb
        refine ⟨fun _ h => noneed (by kernel_rfl) h, ?_⟩
        refine zE rfl rfl (OpP_val (rn_not rfl) rfl ?_)
        refine ⟨fun _ h => noneed (by kernel_rfl) h, ?_⟩
        refine zI (zT rfl (fun hb96 => ?_) (fun hb96 => ?_))
        ·have H := ifT hb96 H; refine zQ (zR ?_); refine wr 5 rfl ?_; refine zN (zr ?_); obtain ⟨G97, leG97, hS, hO, hfG97⟩ := hO.freezeS hS RInt_mono (k := 1) rfl (hp18_0.mono RInt_mono l2_5) hnhp18_0; cases H
         have hres := hqq80 _ rfl
         subst hres; have H := Hoq80
         have H : some (p18.1, s78.1, 0) = some r := H
         cases H
         exact ⟨_, _, rfl, hS.toGrow, _, _, _, rfl, hfG97⟩
        ·have H := ifF hb96 H; refine zP (zR ?_); refine wr 3 rfl ?_; refine zN ?_
         have hO : Owns _ _ _ ([⟨263, 2, (s78.2.2).length, .map (some r72), kvs kvI vvB (s78.2.2)⟩, ⟨3, 1, np18_0, .slice ap18_0 np18_0 cp18_0, clap18_0⟩, zt 173 64 b9 s78.2.1]) := hO
         cases H; refine ⟨_, rfl, ?_⟩
         exact ⟨_, G83, zu _ _ ⟨rfl, rfl, rfl, rfl, trivial⟩, leG83, hS, hO⟩
       ·have H := ifF hb84 H; refine WC_exit rfl ?_
        have hO : Owns _ _ _ ([⟨263, 2, (s78.2.2).length, .map (some r72), kvs kvI vvB (s78.2.2)⟩, ⟨3, 1, np18_0, .slice ap18_0 np18_0 cp18_0, clap18_0⟩, zt 173 64 b9 s78.2.1]) := hO
        cases H
        have hres := hqq80 _ rfl
        subst hres
        exact ⟨_, _, G83, rfl, zu _ _ ⟨rfl, trivial⟩, leG83, hS, hO⟩
     ·rintro F w98 ⟨p79, Fb, G99, rfl, rfl, leG99, hS, hO⟩
      refine zQ (zR ?_); refine wr 4 rfl ?_; refine zN (zr ?_)
      have l2_5 := (leG71.trans leG77).trans leG99
      obtain ⟨G100, leG100, hS, hO, hfG100⟩ := hO.freezeS hS RInt_mono (k := 1) rfl (hp18_0.mono RInt_mono l2_5) hnhp18_0
      have H : some (p18.1, (-1), 0) = some r := H
      cases H
      exact ⟨_, _, rfl, hS.toGrow, _, _, _, rfl, hfG100⟩
 ·refine zE rfl rfl (zU (v := fun b => pV b) (cs := (cellsT (Tb.zero 64))) (e := 173) (by kernel_rfl) hS.sat hO rfl 64 1 (cellsT_len _) (by decide) (fun b7 w8 hb hO => ?_))
  have hS := hS.keep hb; refine ⟨fun _ _ => ⟨hS.sat, trivial⟩, ?_⟩; obtain ⟨y10, hy10, H⟩ := bnd H; refine zE rfl rfl (zC cb83 (f83_ok (x0 := x1) (x1 := 0) (x2 := 5) hS.sat  hy10) rfl rfl (fun w11 hb => ?_)); have hS := hS.keep hb; have hO := hO.below hb; refine ⟨fun _ _ => ⟨hS.sat, trivial⟩, ?_⟩; obtain ⟨y12, hy12, H⟩ := bnd H; refine zE rfl rfl (zC cb81 (f81_ok (x0 := x0) (x1 := y10) hS.sat (h1.mono RTLandPerson_mono leG6) (h2.mono RTLandEvent_mono leG6) (h3.mono RTLandMemory_mono leG6) hy12) rfl rfl (fun w13 hb => ?_)); have hS := hS.keep hb; have hO := hO.below hb; refine ⟨fun _ _ => ⟨hS.sat, trivial⟩, ?_⟩; refine zE rfl rfl (OpP_val (zm (v := (.tuple #[.agg (cellsT y12.1).toArray, iV y12.2])) rfl) rfl ?_); refine ⟨fun _ _ => ⟨hS.sat, trivial⟩, ?_⟩; refine zD rfl (fun w hw => zX (v := (.agg (cellsT y12.1).toArray)) rfl rfl) rfl (zD rfl (fun w hw => zX (v := (iV y12.2)) rfl rfl) rfl (zE rfl rfl (OpP_storeTT sz173 hS hO (k := 0) rfl rfl rfl (fun w14 hS hO => ?_))))
  have hO : Owns _ _ _ ([zt 173 64 b7 y12.1]) := hO
  refine ⟨fun _ _ => ⟨hS.sat, trivial⟩, ?_⟩; refine zE rfl rfl (OpP_val (zA (v := (iV y12.2)) rfl) rfl ?_)
  refine ⟨fun _ h => noneed (by kernel_rfl) h, ?_⟩
  refine zI (zQ (zQ (zR ?_))); refine wr 2 rfl ?_; refine zN (zT rfl (fun hb15 => ?_) (fun hb15 => ?_))
  ·have H := ifT hb15 H; refine zQ (zR ?_); refine wr 4 rfl ?_; refine zN (zr ?_)
   have H : some ([], 0, y12.2) = some r := H
   cases H
   exact ⟨_, _, rfl, hS.toGrow, _, _, _, rfl, (RSl.nil RInt 1 G6 none)⟩
  ·have H := ifF hb15 H; refine zP (zQ (zR (zV (zA (v := (.slice none 0 0)) rfl) rfl (zN (zQ (zQ (zR (WL_run tabH (cellsW hS.sat hcb4) 4 [_] rfl rfl (ao (h2.mono RTLandEvent_mono leG6).1 an) (zN ?_))))))))); have hO := hO.cons_nil 3 1; obtain ⟨q19, hq19, H⟩ := bnd H; refine zM (fun F w => ∃ (p18 : (List Int) × (Tb 64)) (Fb : Fr) (G : Gm) (ap18_0 : Option Addr) (np18_0 cp18_0 : Nat) (clap18_0 : List Value), q19 = .inl p18 ∧ F = upds Fb [(2, pV b4), (9, .slice ap18_0 np18_0 cp18_0)] ∧ Gle G6 G ∧ Since w0.heap.size G0 w0 G w ∧ Owns G w w0.heap.size [⟨3, 1, np18_0, .slice ap18_0 np18_0 cp18_0, clap18_0⟩, zt 173 64 b7 p18.2] ∧ np18_0 = p18.1.length ∧ Rd RInt 1 G clap18_0 p18.1) ?_ ?_
   ·refine zb (WC_loop hq19 (fun s17 F w => ∃ (Fb : Fr) (G : Gm) (as17_0 : Option Addr) (ns17_0 cs17_0 : Nat) (clas17_0 : List Value), F = upds Fb [(1, iV x1), (2, pV b4), (7, pV b7), (9, .slice as17_0 ns17_0 cs17_0), (28, .slice a2 n2 c2), (29, iV (x0.Events.length : Int)), (30, iV s17.2.1)] ∧ Gle G6 G ∧ Since w0.heap.size G0 w0 G w ∧ Owns G w w0.heap.size [⟨3, 1, ns17_0, .slice as17_0 ns17_0 cs17_0, clas17_0⟩, zt 173 64 b7 s17.2.2] ∧ ns17_0 = s17.1.length ∧ Rd RInt 1 G clas17_0 s17.1) ?_ ?_)
    ·have hO : Owns _ _ _ ([⟨3, 1, 0, .slice none 0 0, []⟩, zt 173 64 b7 y12.1]) := hO
     exact ⟨_, G6, none, 0, 0, [], zu _ _ ⟨rfl, rfl, rfl, rfl, rfl, rfl, rfl, trivial⟩, Gle.refl _, hS, hO, rfl, (Rd.nil RInt 1 G6)⟩
    ·rintro s17 F w21 t20 ⟨Fb, G22, as17_0, ns17_0, cs17_0, clas17_0, rfl, leG22, hS, hO, hnhs17_0, hs17_0⟩
     intro H1 hqq19
     have Hoq19 := H; have H := H1
     unfold f34_b0 at H
     refine zQ (zR (zV (zl rfl rfl) rfl (zN (zQ (zT rfl (fun hb23 => ?_) (fun hb23 => ?_))))))
     ·have H := ifT hb23 H; refine zP (zQ ?_); obtain ⟨q24, hq24, H⟩ := bnd H; refine zM (fun F w => ∃ (p25 : (List Int) × (Tb 64)) (Fb : Fr) (G : Gm) (ap25_0 : Option Addr) (np25_0 cp25_0 : Nat) (clap25_0 : List Value), q24 = .inl p25 ∧ F = upds Fb [(1, iV x1), (2, pV b4), (7, pV b7), (9, .slice ap25_0 np25_0 cp25_0), (28, .slice a2 n2 c2), (29, iV (x0.Events.length : Int)), (30, iV s17.2.1)] ∧ Gle G22 G ∧ Since w0.heap.size G0 w0 G w ∧ Owns G w w0.heap.size [⟨3, 1, np25_0, .slice ap25_0 np25_0 cp25_0, clap25_0⟩, zt 173 64 b7 p25.2] ∧ np25_0 = p25.1.length ∧ Rd RInt 1 G clap25_0 p25.1) ?_ ?_
      ·have Hoq24 := H; have H := hq24; refine zb (zQ (zR (zV (zm (v := (iV s17.2.1)) rfl) rfl ?_))); obtain ⟨y26, hy26, H⟩ := bnd H
       have l0_2 := leG6.trans leG22
       refine WL_idx sl29 (h2.mono RTLandEvent_mono l0_2) hy26 rfl rfl rfl ?_
       rintro b27 o27 _ hcb27 _ ⟨⟩
       refine zV (rn_loadA ag63 (cs := [iV y26.Strip, iV y26.Holder]) rfl rfl (fun j v hj => hS.sat.cell (hcb27.drop_take 0 2 j v hj))) rfl ?_
       refine zO rfl (zU (v := fun b => pV b) (cs := [iV 0, iV 0]) (e := 63) (by kernel_rfl) hS.sat hO rfl 2 1 rfl (by decide) (fun b28 w29 hb hO => ?_))
       have hS := hS.keep hb; refine zV (zA (v := (iV s17.2.1)) rfl) rfl (zO rfl (OpP_store (vs := [iV y26.Strip, iV y26.Holder]) sz63 hS hO (k := 0) rfl rfl rfl rfl rfl (one_all rfl) (Nat.le_of_ble_eq_true rfl) (fun w31 hS hO => ?_)))
       have hO : Owns _ _ _ ([⟨63, 2, 1, .slice (some ⟨b28, 0, none⟩) 1 1, [iV y26.Strip, iV y26.Holder]⟩, ⟨3, 1, ns17_0, .slice as17_0 ns17_0 cs17_0, clas17_0⟩, zt 173 64 b7 s17.2.2]) := hO
       obtain ⟨G32, leG32, hS, hO, hqG32, _⟩ := hO.freeze hS (k := 0) rfl
       have hcG32 : Cells G32 b28 0 [iV y26.Strip, iV y26.Holder] := (hqG32 _ _ _ _ rfl)
       refine zN (zQ (zQ (zR (WL_run tabH (cellsW hS.sat hcG32) 4 [] rfl rfl an (zN (zT rfl (fun hb33 => ?_) (fun hb33 => ?_)))))))
       ·have H := ifT hb33 H; refine WC_exit rfl ?_
        have hO : Owns _ _ _ ([⟨3, 1, ns17_0, .slice as17_0 ns17_0 cs17_0, clas17_0⟩, zt 173 64 b7 s17.2.2]) := hO
        cases H
        exact ⟨_, _, G32, as17_0, ns17_0, cs17_0, clas17_0, rfl, zu _ _ ⟨rfl, rfl, rfl, rfl, rfl, rfl, rfl, trivial⟩, leG32, hS, hO, hnhs17_0, (hs17_0.mono RInt_mono leG32)⟩
       ·have H := ifF hb33 H; refine zP (zQ (zR (WL_run tabH (cells0 _) 3 [_] rfl rfl (ao hnhs17_0 an) (zN (zQ (zQ (zR (WL_run tabH (cells0 _) 3 [_] rfl rfl (ao hnhs17_0 an) (zN ?_))))))))); obtain ⟨q36, hq36, H⟩ := bnd H; refine zM (fun F w => ∃ (p35 : Int × (Tb 64)) (Fb : Fr) (G : Gm), q36 = .inl p35 ∧ F = upds Fb [(1, iV x1), (2, pV b4), (7, pV b7), (9, .slice as17_0 ns17_0 cs17_0), (10, iV s17.2.1), (12, iV p35.1), (28, .slice a2 n2 c2), (29, iV (x0.Events.length : Int)), (30, iV s17.2.1)] ∧ Gle G32 G ∧ SO G0 w0 G w [⟨3, 1, ns17_0, .slice as17_0 ns17_0 cs17_0, clas17_0⟩, zt 173 64 b7 p35.2]) ?_ ?_
        ·refine zb (WC_loop hq36 (fun s34 F w => ∃ (Fb : Fr) (G : Gm), F = upds Fb [(1, iV x1), (2, pV b4), (7, pV b7), (9, .slice as17_0 ns17_0 cs17_0), (10, iV s17.2.1), (12, iV s34.1), (28, .slice a2 n2 c2), (29, iV (x0.Events.length : Int)), (30, iV s17.2.1), (41, .slice as17_0 ns17_0 cs17_0), (42, iV (s17.1.length : Int)), (43, iV s34.2.1)] ∧ Gle G32 G ∧ SO G0 w0 G w [⟨3, 1, ns17_0, .slice as17_0 ns17_0 cs17_0, clas17_0⟩, zt 173 64 b7 s34.2.2]) ?_ ?_)
         ·have hO : Owns _ _ _ ([⟨3, 1, ns17_0, .slice as17_0 ns17_0 cs17_0, clas17_0⟩, zt 173 64 b7 s17.2.2]) := hO
          exact ⟨_, G32, zu _ _ ⟨rfl, rfl, rfl, rfl, rfl, rfl, rfl, rfl, rfl, rfl, rfl, rfl, trivial⟩, Gle.refl _, hS, hO⟩
         ·rintro s34 F w38 t37 ⟨Fb, G39, rfl, leG39, hS, hO⟩
          intro H1 hqq36
          have Hoq36 := H; have H := H1
          unfold f34_b1 at H
          refine zQ (zR (zV (zl rfl rfl) rfl (zN (zQ (zT rfl (fun hb40 => ?_) (fun hb40 => ?_))))))
          ·have H := ifT hb40 H; refine zP (zQ ?_); obtain ⟨q41, hq41, H⟩ := bnd H; refine zM (fun F w => ∃ (p42 : Int) (Fb : Fr) (G : Gm), q41 = .inl p42 ∧ F = upds Fb [(1, iV x1), (2, pV b4), (7, pV b7), (9, .slice as17_0 ns17_0 cs17_0), (10, iV s17.2.1), (12, iV p42), (28, .slice a2 n2 c2), (29, iV (x0.Events.length : Int)), (30, iV s17.2.1), (41, .slice as17_0 ns17_0 cs17_0), (42, iV (s17.1.length : Int)), (43, iV s34.2.1)] ∧ Gle G39 G ∧ SO G0 w0 G w [⟨3, 1, ns17_0, .slice as17_0 ns17_0 cs17_0, clas17_0⟩, zt 173 64 b7 s34.2.2]) ?_ ?_
           ·have Hoq41 := H; have H := hq41; refine zb (zQ (zR (zV (zm (v := (iV s34.2.1)) rfl) rfl ?_))); obtain ⟨y43, hy43, H⟩ := bnd H
            have l2_4 := leG32.trans leG39
            refine WL_idxO sl24 hO (k := 0) rfl hnhs17_0 (hs17_0.mono RInt_mono l2_4) hy43 rfl rfl rfl ?_
            rintro b44 ob44 _ hb44 _ hcb44 ⟨⟩
            refine zV (zL na3 rfl (own_cellB hO (k := 0) rfl hb44 _ 0 (hcb44 0 _ rfl))) rfl ?_; refine wr 2 rfl ?_; refine zN (zb (zQ (zR (zV (rn_loadT ag173 hO (k := 1) rfl rfl) rfl ?_)))); refine wr 2 rfl ?_; obtain ⟨y45, hy45, H⟩ := bnd H; refine zO rfl (zC cb82 (f82_ok (x0 := s34.2.2) (x1 := s17.2.1) (x2 := y43) hS.sat  hy45) rfl rfl (fun w46 hb => ?_)); have hS := hS.keep hb; have hO := hO.below hb
            refine zV (v := (iV y45.Low)) (by kernel_rfl) rfl ?_
            refine wr 2 rfl ?_; refine zN (zT rfl (fun hb47 => ?_) (fun hb47 => ?_))
            ·have H := ifT hb47 H; refine zR ?_; refine wr 2 rfl ?_; refine zV (rn_min rfl rfl) rfl (zV (zA (v := (iV (if s34.2.1 < s34.1 then s34.2.1 else s34.1))) rfl) rfl (zN ?_))
             have hO : Owns _ _ _ ([⟨3, 1, ns17_0, .slice as17_0 ns17_0 cs17_0, clas17_0⟩, zt 173 64 b7 s34.2.2]) := hO
             cases H
             exact ⟨_, _, G39, rfl, zu _ _ ⟨rfl, rfl, rfl, rfl, rfl, rfl, rfl, rfl, rfl, rfl, rfl, rfl, trivial⟩, Gle.refl _, hS, hO⟩
            ·have H := ifF hb47 H; refine zQ (zR (zV (rn_loadT ag173 hO (k := 1) rfl rfl) rfl ?_)); refine wr 2 rfl ?_; obtain ⟨y48, hy48, H⟩ := bnd H; refine zO rfl (zC cb82 (f82_ok (x0 := s34.2.2) (x1 := y43) (x2 := s17.2.1) hS.sat  hy48) rfl rfl (fun w49 hb => ?_)); have hS := hS.keep hb; have hO := hO.below hb
             refine zV (v := (iV y48.Low)) (by kernel_rfl) rfl ?_
             refine wr 2 rfl ?_; refine zN (zT rfl (fun hb50 => ?_) (fun hb50 => ?_))
             ·have H := ifT hb50 H; refine zQ (zR ?_); refine wr 3 rfl ?_; refine zN (zr ?_); cases H; have H := Hoq41; cases H
              have hres := hqq36 _ rfl
              subst hres; have H := Hoq36; cases H; have H := Hoq24; cases H
              have hres := hqq19 _ rfl
              subst hres; have H := Hoq19
              have H : some ([], 0, 8) = some r := H
              cases H
              exact ⟨_, _, rfl, hS.toGrow, _, _, _, rfl, (RSl.nil RInt 1 G39 none)⟩
             ·have H := ifF hb50 H; refine zP ?_
              have hO : Owns _ _ _ ([⟨3, 1, ns17_0, .slice as17_0 ns17_0 cs17_0, clas17_0⟩, zt 173 64 b7 s34.2.2]) := hO
              cases H
              exact ⟨_, _, G39, rfl, zu _ _ ⟨rfl, rfl, rfl, rfl, rfl, rfl, rfl, rfl, rfl, rfl, rfl, rfl, trivial⟩, Gle.refl _, hS, hO⟩
           ·rintro F w51 ⟨p42, Fb, G52, rfl, rfl, leG52, hS, hO⟩
            refine zR ?_; refine wr 2 rfl ?_; refine zN ?_
            have hO : Owns _ _ _ ([⟨3, 1, ns17_0, .slice as17_0 ns17_0 cs17_0, clas17_0⟩, zt 173 64 b7 s34.2.2]) := hO
            cases H; refine ⟨_, rfl, ?_⟩
            have l3_5 := leG39.trans leG52
            exact ⟨_, G52, zu _ _ ⟨rfl, rfl, rfl, rfl, rfl, rfl, rfl, rfl, rfl, rfl, rfl, rfl, trivial⟩, l3_5, hS, hO⟩
          ·have H := ifF hb40 H; refine WC_exit rfl ?_
           have hO : Owns _ _ _ ([⟨3, 1, ns17_0, .slice as17_0 ns17_0 cs17_0, clas17_0⟩, zt 173 64 b7 s34.2.2]) := hO
           cases H
           have hres := hqq36 _ rfl
           subst hres
           exact ⟨_, _, G39, rfl, zu _ _ ⟨rfl, rfl, rfl, rfl, rfl, rfl, rfl, rfl, rfl, trivial⟩, leG39, hS, hO⟩
        ·rintro F w54 ⟨p35, Fb, G55, rfl, rfl, leG55, hS, hO⟩
         refine zR ?_; refine wr 3 rfl ?_
         refine zO rfl (zU (v := fun b => .slice (some ⟨b, 0, none⟩) 1 1) (cs := [iV s17.2.1]) (e := 3) (by kernel_rfl) hS.sat hO rfl 1 1 rfl (by decide) (fun b56 w57 hb hO => ?_))
         have hS := hS.keep hb
         have hrb56 : Rd RInt 1 G55 [iV s17.2.1] [s17.2.1] := (Rd.cons (c := [iV s17.2.1]) rfl rfl (Rd.nil RInt 1 _))
         have hO := hO.front (k := 0) rfl; have hO := hO.front (k := 1) rfl
         have hO : Owns _ _ _ ([⟨3, 1, ns17_0, .slice as17_0 ns17_0 cs17_0, clas17_0⟩, ⟨3, 1, 1, .slice (some ⟨b56, 0, none⟩) 1 1, [iV s17.2.1]⟩, zt 173 64 b7 p35.2]) := hO
         obtain ⟨y59, hy59, H⟩ := bnd H
         have l2_4 := leG32.trans leG55
         refine zO rfl (OpP_lent (fi := []) (al := [.slice as17_0 ns17_0 cs17_0, iV p35.1, .slice (some ⟨b56, 0, none⟩) 1 1]) (ca := []) cb84 (f84_ok (i := p35.1) (x := s17.2.1) hS hO hnhs17_0 (hs17_0.mono RInt_mono l2_4) hy59) rfl rfl rfl (fun vG61 G61 w60 L62 leG61 hS hO hvG61 => ?_)); obtain ⟨aw60, cw60, clw60, rfl, rfl, hrw60⟩ := hvG61
         have hO : Owns _ _ _ ([⟨3, 1, y59.length, .slice aw60 y59.length cw60, clw60⟩, ⟨3, 1, 1, .slice (some ⟨b56, 0, none⟩) 1 1, [iV s17.2.1]⟩, zt 173 64 b7 p35.2]) := hO
         have hO := hO.drop 1
         have hO : Owns _ _ _ ([⟨3, 1, y59.length, .slice aw60 y59.length cw60, clw60⟩, zt 173 64 b7 p35.2]) := hO
         refine zV (zA (v := (.slice aw60 y59.length cw60)) rfl) rfl (zN ?_)
         have hO : Owns _ _ _ ([⟨3, 1, y59.length, .slice aw60 y59.length cw60, clw60⟩, zt 173 64 b7 p35.2]) := hO
         cases H
         have l2_5 := l2_4.trans leG61
         exact ⟨_, _, G61, aw60, y59.length, cw60, clw60, rfl, zu _ _ ⟨rfl, rfl, rfl, rfl, rfl, rfl, rfl, trivial⟩, l2_5, hS, hO, rfl, hrw60⟩
      ·rintro F w64 ⟨p25, Fb, G65, ap25_0, np25_0, cp25_0, clap25_0, rfl, rfl, leG65, hS, hO, hnhp25_0, hp25_0⟩
       refine zR ?_; refine wr 2 rfl ?_; refine zN ?_
       have hO : Owns _ _ _ ([⟨3, 1, np25_0, .slice ap25_0 np25_0 cp25_0, clap25_0⟩, zt 173 64 b7 p25.2]) := hO
       cases H; refine ⟨_, rfl, ?_⟩
       have l1_3 := leG22.trans leG65
       exact ⟨_, G65, ap25_0, np25_0, cp25_0, clap25_0, zu _ _ ⟨rfl, rfl, rfl, rfl, rfl, rfl, rfl, trivial⟩, l1_3, hS, hO, hnhp25_0, hp25_0⟩
     ·have H := ifF hb23 H; refine WC_exit rfl ?_
      have hO : Owns _ _ _ ([⟨3, 1, ns17_0, .slice as17_0 ns17_0 cs17_0, clas17_0⟩, zt 173 64 b7 s17.2.2]) := hO
      cases H
      have hres := hqq19 _ rfl
      subst hres
      exact ⟨_, _, G22, as17_0, ns17_0, cs17_0, clas17_0, rfl, zu _ _ ⟨rfl, rfl, trivial⟩, leG22, hS, hO, hnhs17_0, hs17_0⟩
   ·rintro F w67 ⟨p18, Fb, G68, ap18_0, np18_0, cp18_0, clap18_0, rfl, rfl, leG68, hS, hO, hnhp18_0, hp18_0⟩
    refine zQ (zR (zV (rn_loadA ag32 (cs := [.slice a1 n1 c1, .slice a2 n2 c2, .slice a3 n3 c3]) rfl rfl (fun j v hj => (hS.sat.le leG68).cell (hcb4.drop_take 0 3 j v hj))) rfl (zO rfl (OpP_in1 (N' := 7) [.agg #[.slice a1 n1 c1, .slice a2 n2 c2, .slice a3 n3 c3]] cb85 Tryz.func85 rfl rfl rfl rfl rfl rfl ?_)))); refine zQ (zR (zO rfl (OpP_newF (v := fun b => pV b) (cs := [.slice a1 n1 c1, .slice a2 n2 c2, .slice a3 n3 c3]) (e := 32) (rn_boxA rfl) hS.sat rfl (fun b69 G71 w70 hg hcb69 => ?_)))); have hS := hS.grow hg; have hO := hO.grow hg
    have leG71 := hg.le
    refine zV (zA (v := (.pointer none)) rfl) rfl (zN (zQ (zR (zV (rn_loadA ag32 (cs := [.slice a1 n1 c1, .slice a2 n2 c2, .slice a3 n3 c3]) rfl rfl (fun j v hj => hS.sat.cell (hcb69.drop_take 0 3 j v hj))) rfl (zO rfl (OpP_makeMap (e := 263) hS hO rfl (fun r72 w73 hS hO => ?_)))))))
    have hO : Owns _ _ _ ([⟨263, 2, ([] : (List (Int × Bool))).length, .map (some r72), kvs kvI vvB ([] : (List (Int × Bool)))⟩, ⟨3, 1, np18_0, .slice ap18_0 np18_0 cp18_0, clap18_0⟩, zt 173 64 b7 p18.2]) := hO
    refine zV (v := (.agg #[.slice a1 n1 c1, .slice a2 n2 c2, .slice a3 n3 c3, .map (some r72)])) (by kernel_rfl) rfl ?_
    refine zO rfl (OpP_newF (v := fun b => pV b) (cs := [.slice a1 n1 c1, .slice a2 n2 c2, .slice a3 n3 c3, .map (some r72)]) (e := 268) (rn_boxA rfl) hS.sat rfl (fun b75 G77 w76 hg hcb75 => ?_)); have hS := hS.grow hg; have hO := hO.grow hg
    have leG77 := hg.le
    refine zV (zA (v := (pV b75)) rfl) rfl (zN (zr ?_)); refine ⟨(pV b75), rfl, ?_⟩
    have hO : Owns _ _ _ ([⟨263, 2, ([] : (List (Int × Bool))).length, .map (some r72), kvs kvI vvB ([] : (List (Int × Bool)))⟩, ⟨3, 1, np18_0, .slice ap18_0 np18_0 cp18_0, clap18_0⟩, zt 173 64 b7 p18.2]) := hO
    refine zV (zA (v := (pV b75)) rfl) rfl (zN (zQ (zQ (zR (zV (zA (v := (iV 1)) rfl) rfl (zN ?_)))))); obtain ⟨q80, hq80, H⟩ := bnd H; refine zM (fun F w => ∃ (p79 : (Tb 64) × (List (Int × Bool))) (Fb : Fr) (G : Gm), q80 = .inl p79 ∧ F = upds Fb [(9, .slice ap18_0 np18_0 cp18_0)] ∧ Gle G77 G ∧ SO G0 w0 G w [⟨263, 2, (p79.2).length, .map (some r72), kvs kvI vvB (p79.2)⟩, ⟨3, 1, np18_0, .slice ap18_0 np18_0 cp18_0, clap18_0⟩, zt 173 64 b7 p79.1]) ?_ ?_
    ·refine zb (WC_loop hq80 (fun s78 F w => ∃ (Fb : Fr) (G : Gm), F = upds Fb [(2, pV b4), (9, .slice ap18_0 np18_0 cp18_0), (15, pV b75), (16, iV s78.1)] ∧ Gle G77 G ∧ SO G0 w0 G w [⟨263, 2, (s78.2.2).length, .map (some r72), kvs kvI vvB (s78.2.2)⟩, ⟨3, 1, np18_0, .slice ap18_0 np18_0 cp18_0, clap18_0⟩, zt 173 64 b7 s78.2.1]) ?_ ?_)
     ·have hO : Owns _ _ _ ([⟨263, 2, ([] : (List (Int × Bool))).length, .map (some r72), kvs kvI vvB ([] : (List (Int × Bool)))⟩, ⟨3, 1, np18_0, .slice ap18_0 np18_0 cp18_0, clap18_0⟩, zt 173 64 b7 p18.2]) := hO
      exact ⟨_, G77, zu _ _ ⟨rfl, rfl, rfl, rfl, trivial⟩, Gle.refl _, hS, hO⟩
     ·rintro s78 F w82 t81 ⟨Fb, G83, rfl, leG83, hS, hO⟩
      intro H1 hqq80
      have Hoq80 := H; have H := H1
      unfold f34_b2 at H
      refine zQ (zQ (zR (WL_run tabH (cells0 _) 4 [_] rfl rfl (ao hnhp18_0 an) (zN (zT rfl (fun hb84 => ?_) (fun hb84 => ?_))))))
      ·have H := ifT hb84 H; refine zP (zQ (zb (zQ ?_))); have hS := hS.keep (below_drew _); have hO := hO.below (below_drew _)
       refine WC_regionD mixedO (fun _ w => Sat G83 w ∧ Owns G83 w w0.heap.size [⟨263, 2, (s78.2.2).length, .map (some r72), kvs kvI vvB (s78.2.2)⟩, ⟨3, 1, np18_0, .slice ap18_0 np18_0 cp18_0, clap18_0⟩, zt 173 64 b7 s78.2.1]) (.fl 0 (.fl 1 (.fl 2 (.fl 3 (.fl 4 (.fl 5 (.fl 6 (.fl 7 (.fl 8 (.fl 9 (.fl 10 (.fl 11 (.fl 12 (.on 13 (.on 14 (.on 15 (.on 16 (.on 17 (.on 18 (.on 19 (.on 20 (.on 21 .nil)))))))))))))))))))))) (by kernel_rfl) rfl (by kernel_rfl) (fun _ => ⟨hS.sat, hO⟩) ?_
       refine zD rfl (fun w hw => zm (v := (pV b75)) rfl) rfl (zD rfl (fun w hw => zF fd32_1 rfl) rfl (zD rfl (fun w hw => zL na29 rfl ((hw.1.le (((leG68.trans leG71).trans leG77).trans leG83)).cell (hcb4 1 _ rfl))) rfl (zD rfl (fun w hw => zm (v := (.slice ap18_0 np18_0 cp18_0)) rfl) rfl (zD rfl (fun w hw => zm (v := (iV s78.1)) rfl) rfl ?_)))); obtain ⟨y85, hy85, H⟩ := bnd H
       have l2_5 := (leG71.trans leG77).trans leG83
       refine WD_idxO rfl sl24 hO (k := 1) rfl hnhp18_0 (hp18_0.mono RInt_mono l2_5) hy85 rfl rfl rfl ?_
       rintro b86 ob86 _ hb86 _ hcb86 ⟨⟩
       refine zD rfl (fun w hw => zL na3 rfl (own_cellB hw.2 (k := 1) rfl hb86 _ 0 (hcb86 0 _ rfl))) rfl ?_; obtain ⟨y87, hy87, H⟩ := bnd H
       have l0_5 := (leG6.trans leG68).trans l2_5
       refine WD_idx rfl sl29 (h2.mono RTLandEvent_mono l0_5) hy87 rfl rfl rfl ?_
       rintro b88 o88 _ hcb88 _ ⟨⟩
       refine zD rfl (fun w hw => zF fd63_1 rfl) rfl (zD rfl (fun w hw => zL na3 rfl (hw.1.cell (hcb88 1 _ rfl))) rfl (zD rfl (fun w hw => zF fd32_1 rfl) rfl (zD rfl (fun w hw => zL na29 rfl ((hw.1.le (leG68.trans l2_5)).cell (hcb4 1 _ rfl))) rfl (zD rfl (fun w hw => zm (v := (.slice ap18_0 np18_0 cp18_0)) rfl) rfl (zE rfl rfl (OpP_val (zm (v := (iV s78.1)) rfl) rfl ?_)))))); refine ⟨fun _ _ => ⟨hS.sat, hO⟩, ?_⟩; refine zE rfl rfl (OpP_val (rn_sub rfl rfl) rfl ?_); refine ⟨fun _ _ => ⟨hS.sat, hO⟩, ?_⟩; obtain ⟨y89, hy89, H⟩ := bnd H; refine zE rfl rfl (OpP_idxO sl24 hO (k := 1) rfl hnhp18_0 (hp18_0.mono RInt_mono l2_5) hy89 rfl rfl rfl ?_)
       rintro b90 ob90 _ hb90 _ hcb90 ⟨⟩
       refine ⟨fun _ _ => ⟨hS.sat, hO⟩, ?_⟩; refine zE rfl rfl (OpP_val (zL na3 rfl (own_cellB hO (k := 1) rfl hb90 _ 0 (hcb90 0 _ rfl))) rfl ?_); refine ⟨fun _ _ => ⟨hS.sat, hO⟩, ?_⟩; obtain ⟨y91, hy91, H⟩ := bnd H; refine zE rfl rfl (OpP_idx sl29 (h2.mono RTLandEvent_mono l0_5) hy91 rfl rfl rfl ?_)
       rintro b92 o92 _ hcb92 _ ⟨⟩
       refine ⟨fun _ _ => ⟨hS.sat, hO⟩, ?_⟩; refine zE rfl rfl (OpP_val (zF fd63_1 rfl) rfl ?_); refine ⟨fun _ _ => ⟨hS.sat, hO⟩, ?_⟩; refine zE rfl rfl (OpP_val (zL na3 rfl (hS.sat.cell (hcb92 1 _ rfl))) rfl ?_); refine ⟨fun _ _ => ⟨hS.sat, hO⟩, ?_⟩; obtain ⟨y93, hy93, H⟩ := bnd H
       have hx95 := f86_ok (x0 := x0) (x1 := y87.Holder) (x2 := y91.Holder) hS.sat (hcb75.mono leG83) (h1.mono RTLandPerson_mono l0_5) (h2.mono RTLandEvent_mono l0_5) (h3.mono RTLandMemory_mono l0_5) hy93
       refine zE rfl rfl (zC cb86 hx95 rfl rfl (fun w94 hb => ?_)); have hS := hS.keep hb; have hO := hO.below hb
       refine ⟨fun _ h => noneed (by kernel_rfl) h, ?_⟩
       refine zE rfl rfl (OpP_val (rn_not rfl) rfl ?_)
       refine ⟨fun _ h => noneed (by kernel_rfl) h, ?_⟩
       refine zI (zT rfl (fun hb96 => ?_) (fun hb96 => ?_))
       ·have H := ifT hb96 H; refine zQ (zR ?_); refine wr 5 rfl ?_; refine zN (zr ?_); obtain ⟨G97, leG97, hS, hO, hfG97⟩ := hO.freezeS hS RInt_mono (k := 1) rfl (hp18_0.mono RInt_mono l2_5) hnhp18_0; cases H
        have hres := hqq80 _ rfl
        subst hres; have H := Hoq80
        have H : some (p18.1, s78.1, 0) = some r := H
        cases H
        exact ⟨_, _, rfl, hS.toGrow, _, _, _, rfl, hfG97⟩
       ·have H := ifF hb96 H; refine zP (zR ?_); refine wr 3 rfl ?_; refine zN ?_
        have hO : Owns _ _ _ ([⟨263, 2, (s78.2.2).length, .map (some r72), kvs kvI vvB (s78.2.2)⟩, ⟨3, 1, np18_0, .slice ap18_0 np18_0 cp18_0, clap18_0⟩, zt 173 64 b7 s78.2.1]) := hO
        cases H; refine ⟨_, rfl, ?_⟩
        exact ⟨_, G83, zu _ _ ⟨rfl, rfl, rfl, rfl, trivial⟩, leG83, hS, hO⟩
      ·have H := ifF hb84 H; refine WC_exit rfl ?_
       have hO : Owns _ _ _ ([⟨263, 2, (s78.2.2).length, .map (some r72), kvs kvI vvB (s78.2.2)⟩, ⟨3, 1, np18_0, .slice ap18_0 np18_0 cp18_0, clap18_0⟩, zt 173 64 b7 s78.2.1]) := hO
       cases H
       have hres := hqq80 _ rfl
       subst hres
       exact ⟨_, _, G83, rfl, zu _ _ ⟨rfl, trivial⟩, leG83, hS, hO⟩
    ·rintro F w98 ⟨p79, Fb, G99, rfl, rfl, leG99, hS, hO⟩
     refine zQ (zR ?_); refine wr 4 rfl ?_; refine zN (zr ?_)
     have l2_5 := (leG71.trans leG77).trans leG99
     obtain ⟨G100, leG100, hS, hO, hfG100⟩ := hO.freezeS hS RInt_mono (k := 1) rfl (hp18_0.mono RInt_mono l2_5) hnhp18_0
     have H : some (p18.1, (-1), 0) = some r := H
     cases H
     exact ⟨_, _, rfl, hS.toGrow, _, _, _, rfl, hfG100⟩
set_option maxHeartbeats 1000000 in
theorem f30_ok {G0 : Gm} {w0 : World} (hS0 : Sat G0 w0) {x0 : (List TLandMemory)} {a1 : Option Addr} {n1 c1 : Nat} (h1 : RSl RTLandMemory 4 G0 a1 n1 c1 x0) {r : (List TLandMemory)} (H : f30 x0 = some r) :
  Calls Tryz.prog 30 #[.slice a1 n1 c1] w0 (RetG G0 w0 (fun G v => ∃ (ra0 : Option Addr) (rn0 rc0 : Nat), v = .slice ra0 rn0 rc0 ∧ RSl RTLandMemory 4 G ra0 rn0 rc0 r)) := by
 have hS := Since.start hS0
 have hO := own0 G0 w0
 unfold f30 at H
 refine enter1 (N := 5) (shutG _ _ _) Tryz.func30 rfl rfl rfl rfl (zQ (zR (zV (zA (v := (.slice none 0 0)) rfl) rfl (zN (zQ (zR (zV (zm (v := (.slice a1 n1 c1)) rfl) rfl ?_))))))); have hO := hO.cons_nil 59 4; obtain ⟨y3, hy3, H⟩ := bnd H; refine zO rfl (OpP_append (k := 0) sl30 RTLandMemory_one hS hO rfl rfl (Rd.nil RTLandMemory 4 G0) h1 hy3 rfl rfl rfl rfl rfl (fun aw4 cw4 w4 clw4 hS hO hrw4 => ?_))
 have hO : Owns _ _ _ ([⟨59, 4, y3.length, .slice aw4 y3.length cw4, clw4⟩]) := hO
 refine zV (zA (v := (.slice aw4 y3.length cw4)) rfl) rfl (zN (zr ?_)); obtain ⟨G5, leG5, hS, hO, hfG5⟩ := hO.freezeS hS RTLandMemory_mono (k := 0) rfl hrw4 rfl
 have H : some y3 = some r := H
 cases H
 exact ⟨_, _, rfl, hS.toGrow, _, _, _, rfl, hfG5⟩
set_option maxHeartbeats 1000000 in
theorem f108_ok {G0 : Gm} {w0 : World} (hS0 : Sat G0 w0) {x0 : (List Int)} {a1 : Option Addr} {n1 c1 : Nat} (h1 : RSl RInt 1 G0 a1 n1 c1 x0) {r : (List Int)} (H : f108 x0 = some r) :
  Calls Tryz.prog 108 #[.slice a1 n1 c1] w0 (RetG G0 w0 (fun G v => ∃ (ra0 : Option Addr) (rn0 rc0 : Nat), v = .slice ra0 rn0 rc0 ∧ RSl RInt 1 G ra0 rn0 rc0 r)) := by
 have hS := Since.start hS0
 have hO := own0 G0 w0
 unfold f108 at H
 refine enter1 (N := 5) (shutG _ _ _) Tryz.func108 rfl rfl rfl rfl (zQ (zR (zV (zA (v := (.slice none 0 0)) rfl) rfl (zN (zQ (zR (zV (zm (v := (.slice a1 n1 c1)) rfl) rfl ?_))))))); have hO := hO.cons_nil 3 1; obtain ⟨y3, hy3, H⟩ := bnd H; refine zO rfl (OpP_append (k := 0) sl24 RInt_one hS hO rfl rfl (Rd.nil RInt 1 G0) h1 hy3 rfl rfl rfl rfl rfl (fun aw4 cw4 w4 clw4 hS hO hrw4 => ?_))
 have hO : Owns _ _ _ ([⟨3, 1, y3.length, .slice aw4 y3.length cw4, clw4⟩]) := hO
 refine zV (zA (v := (.slice aw4 y3.length cw4)) rfl) rfl (zN (zr ?_)); obtain ⟨G5, leG5, hS, hO, hfG5⟩ := hO.freezeS hS RInt_mono (k := 0) rfl hrw4 rfl
 have H : some y3 = some r := H
 cases H
 exact ⟨_, _, rfl, hS.toGrow, _, _, _, rfl, hfG5⟩
set_option maxHeartbeats 1000000 in
theorem f109_ok {G0 : Gm} {w0 : World} (hS0 : Sat G0 w0) {x0 : (List TLensMonth)} {a1 : Option Addr} {n1 c1 : Nat} (h1 : RSl RTLensMonth 6 G0 a1 n1 c1 x0) {r : (List TLensMonth)} (H : f109 x0 = some r) :
  Calls Tryz.prog 109 #[.slice a1 n1 c1] w0 (RetG G0 w0 (fun G v => ∃ (ra0 : Option Addr) (rn0 rc0 : Nat), v = .slice ra0 rn0 rc0 ∧ RSl RTLensMonth 6 G ra0 rn0 rc0 r)) := by
 have hS := Since.start hS0
 have hO := own0 G0 w0
 unfold f109 at H
 refine enter1 (N := 5) (shutG _ _ _) Tryz.func109 rfl rfl rfl rfl (zQ (zR (zV (zA (v := (.slice none 0 0)) rfl) rfl (zN (zQ (zR (zV (zm (v := (.slice a1 n1 c1)) rfl) rfl ?_))))))); have hO := hO.cons_nil 182 6; obtain ⟨y3, hy3, H⟩ := bnd H; refine zO rfl (OpP_append (k := 0) sl25 RTLensMonth_one hS hO rfl rfl (Rd.nil RTLensMonth 6 G0) h1 hy3 rfl rfl rfl rfl rfl (fun aw4 cw4 w4 clw4 hS hO hrw4 => ?_))
 have hO : Owns _ _ _ ([⟨182, 6, y3.length, .slice aw4 y3.length cw4, clw4⟩]) := hO
 refine zV (zA (v := (.slice aw4 y3.length cw4)) rfl) rfl (zN (zr ?_)); obtain ⟨G5, leG5, hS, hO, hfG5⟩ := hO.freezeS hS RTLensMonth_mono (k := 0) rfl hrw4 rfl
 have H : some y3 = some r := H
 cases H
 exact ⟨_, _, rfl, hS.toGrow, _, _, _, rfl, hfG5⟩
set_option maxHeartbeats 1000000 in
theorem f110_ok {G0 : Gm} {w0 : World} (hS0 : Sat G0 w0) {x0 : (List TLandPerson)} {a1 : Option Addr} {n1 c1 : Nat} (h1 : RSl RTLandPerson 2 G0 a1 n1 c1 x0) {r : (List TLandPerson)} (H : f110 x0 = some r) :
  Calls Tryz.prog 110 #[.slice a1 n1 c1] w0 (RetG G0 w0 (fun G v => ∃ (ra0 : Option Addr) (rn0 rc0 : Nat), v = .slice ra0 rn0 rc0 ∧ RSl RTLandPerson 2 G ra0 rn0 rc0 r)) := by
 have hS := Since.start hS0
 have hO := own0 G0 w0
 unfold f110 at H
 refine enter1 (N := 5) (shutG _ _ _) Tryz.func110 rfl rfl rfl rfl (zQ (zR (zV (zA (v := (.slice none 0 0)) rfl) rfl (zN (zQ (zR (zV (zm (v := (.slice a1 n1 c1)) rfl) rfl ?_))))))); have hO := hO.cons_nil 185 2; obtain ⟨y3, hy3, H⟩ := bnd H; refine zO rfl (OpP_append (k := 0) sl28 RTLandPerson_one hS hO rfl rfl (Rd.nil RTLandPerson 2 G0) h1 hy3 rfl rfl rfl rfl rfl (fun aw4 cw4 w4 clw4 hS hO hrw4 => ?_))
 have hO : Owns _ _ _ ([⟨185, 2, y3.length, .slice aw4 y3.length cw4, clw4⟩]) := hO
 refine zV (zA (v := (.slice aw4 y3.length cw4)) rfl) rfl (zN (zr ?_)); obtain ⟨G5, leG5, hS, hO, hfG5⟩ := hO.freezeS hS RTLandPerson_mono (k := 0) rfl hrw4 rfl
 have H : some y3 = some r := H
 cases H
 exact ⟨_, _, rfl, hS.toGrow, _, _, _, rfl, hfG5⟩
set_option maxHeartbeats 1000000 in
theorem f111_ok {G0 : Gm} {w0 : World} (hS0 : Sat G0 w0) {x0 : (List TLandEvent)} {a1 : Option Addr} {n1 c1 : Nat} (h1 : RSl RTLandEvent 2 G0 a1 n1 c1 x0) {r : (List TLandEvent)} (H : f111 x0 = some r) :
  Calls Tryz.prog 111 #[.slice a1 n1 c1] w0 (RetG G0 w0 (fun G v => ∃ (ra0 : Option Addr) (rn0 rc0 : Nat), v = .slice ra0 rn0 rc0 ∧ RSl RTLandEvent 2 G ra0 rn0 rc0 r)) := by
 have hS := Since.start hS0
 have hO := own0 G0 w0
 unfold f111 at H
 refine enter1 (N := 5) (shutG _ _ _) Tryz.func111 rfl rfl rfl rfl (zQ (zR (zV (zA (v := (.slice none 0 0)) rfl) rfl (zN (zQ (zR (zV (zm (v := (.slice a1 n1 c1)) rfl) rfl ?_))))))); have hO := hO.cons_nil 63 2; obtain ⟨y3, hy3, H⟩ := bnd H; refine zO rfl (OpP_append (k := 0) sl29 RTLandEvent_one hS hO rfl rfl (Rd.nil RTLandEvent 2 G0) h1 hy3 rfl rfl rfl rfl rfl (fun aw4 cw4 w4 clw4 hS hO hrw4 => ?_))
 have hO : Owns _ _ _ ([⟨63, 2, y3.length, .slice aw4 y3.length cw4, clw4⟩]) := hO
 refine zV (zA (v := (.slice aw4 y3.length cw4)) rfl) rfl (zN (zr ?_)); obtain ⟨G5, leG5, hS, hO, hfG5⟩ := hO.freezeS hS RTLandEvent_mono (k := 0) rfl hrw4 rfl
 have H : some y3 = some r := H
 cases H
 exact ⟨_, _, rfl, hS.toGrow, _, _, _, rfl, hfG5⟩
set_option maxHeartbeats 1000000 in
theorem f112_ok {G0 : Gm} {w0 : World} (hS0 : Sat G0 w0) {x0 : (List TReefPlace)} {a1 : Option Addr} {n1 c1 : Nat} (h1 : RSl RTReefPlace 12 G0 a1 n1 c1 x0) {r : (List TReefPlace)} (H : f112 x0 = some r) :
  Calls Tryz.prog 112 #[.slice a1 n1 c1] w0 (RetG G0 w0 (fun G v => ∃ (ra0 : Option Addr) (rn0 rc0 : Nat), v = .slice ra0 rn0 rc0 ∧ RSl RTReefPlace 12 G ra0 rn0 rc0 r)) := by
 have hS := Since.start hS0
 have hO := own0 G0 w0
 unfold f112 at H
 refine enter1 (N := 5) (shutG _ _ _) Tryz.func112 rfl rfl rfl rfl (zQ (zR (zV (zA (v := (.slice none 0 0)) rfl) rfl (zN (zQ (zR (zV (zm (v := (.slice a1 n1 c1)) rfl) rfl ?_))))))); have hO := hO.cons_nil 187 12; obtain ⟨y3, hy3, H⟩ := bnd H; refine zO rfl (OpP_append (k := 0) sl33 RTReefPlace_one hS hO rfl rfl (Rd.nil RTReefPlace 12 G0) h1 hy3 rfl rfl rfl rfl rfl (fun aw4 cw4 w4 clw4 hS hO hrw4 => ?_))
 have hO : Owns _ _ _ ([⟨187, 12, y3.length, .slice aw4 y3.length cw4, clw4⟩]) := hO
 refine zV (zA (v := (.slice aw4 y3.length cw4)) rfl) rfl (zN (zr ?_)); obtain ⟨G5, leG5, hS, hO, hfG5⟩ := hO.freezeS hS RTReefPlace_mono (k := 0) rfl hrw4 rfl
 have H : some y3 = some r := H
 cases H
 exact ⟨_, _, rfl, hS.toGrow, _, _, _, rfl, hfG5⟩
set_option maxHeartbeats 1000000 in
theorem f113_ok {G0 : Gm} {w0 : World} (hS0 : Sat G0 w0) {x0 : (List TBaneTrip)} {a1 : Option Addr} {n1 c1 : Nat} (h1 : RSl RTBaneTrip 4 G0 a1 n1 c1 x0) {r : (List TBaneTrip)} (H : f113 x0 = some r) :
  Calls Tryz.prog 113 #[.slice a1 n1 c1] w0 (RetG G0 w0 (fun G v => ∃ (ra0 : Option Addr) (rn0 rc0 : Nat), v = .slice ra0 rn0 rc0 ∧ RSl RTBaneTrip 4 G ra0 rn0 rc0 r)) := by
 have hS := Since.start hS0
 have hO := own0 G0 w0
 unfold f113 at H
 refine enter1 (N := 5) (shutG _ _ _) Tryz.func113 rfl rfl rfl rfl (zQ (zR (zV (zA (v := (.slice none 0 0)) rfl) rfl (zN (zQ (zR (zV (zm (v := (.slice a1 n1 c1)) rfl) rfl ?_))))))); have hO := hO.cons_nil 136 4; obtain ⟨y3, hy3, H⟩ := bnd H; refine zO rfl (OpP_append (k := 0) sl36 RTBaneTrip_one hS hO rfl rfl (Rd.nil RTBaneTrip 4 G0) h1 hy3 rfl rfl rfl rfl rfl (fun aw4 cw4 w4 clw4 hS hO hrw4 => ?_))
 have hO : Owns _ _ _ ([⟨136, 4, y3.length, .slice aw4 y3.length cw4, clw4⟩]) := hO
 refine zV (zA (v := (.slice aw4 y3.length cw4)) rfl) rfl (zN (zr ?_)); obtain ⟨G5, leG5, hS, hO, hfG5⟩ := hO.freezeS hS RTBaneTrip_mono (k := 0) rfl hrw4 rfl
 have H : some y3 = some r := H
 cases H
 exact ⟨_, _, rfl, hS.toGrow, _, _, _, rfl, hfG5⟩
set_option maxHeartbeats 1000000 in
theorem f114_ok {G0 : Gm} {w0 : World} (hS0 : Sat G0 w0) {x0 : (List TSpan)} {a1 : Option Addr} {n1 c1 : Nat} (h1 : RSl RTSpan 2 G0 a1 n1 c1 x0) {r : (List TSpan)} (H : f114 x0 = some r) :
  Calls Tryz.prog 114 #[.slice a1 n1 c1] w0 (RetG G0 w0 (fun G v => ∃ (ra0 : Option Addr) (rn0 rc0 : Nat), v = .slice ra0 rn0 rc0 ∧ RSl RTSpan 2 G ra0 rn0 rc0 r)) := by
 have hS := Since.start hS0
 have hO := own0 G0 w0
 unfold f114 at H
 refine enter1 (N := 5) (shutG _ _ _) Tryz.func114 rfl rfl rfl rfl (zQ (zR (zV (zA (v := (.slice none 0 0)) rfl) rfl (zN (zQ (zR (zV (zm (v := (.slice a1 n1 c1)) rfl) rfl ?_))))))); have hO := hO.cons_nil 23 2; obtain ⟨y3, hy3, H⟩ := bnd H; refine zO rfl (OpP_append (k := 0) sl39 RTSpan_one hS hO rfl rfl (Rd.nil RTSpan 2 G0) h1 hy3 rfl rfl rfl rfl rfl (fun aw4 cw4 w4 clw4 hS hO hrw4 => ?_))
 have hO : Owns _ _ _ ([⟨23, 2, y3.length, .slice aw4 y3.length cw4, clw4⟩]) := hO
 refine zV (zA (v := (.slice aw4 y3.length cw4)) rfl) rfl (zN (zr ?_)); obtain ⟨G5, leG5, hS, hO, hfG5⟩ := hO.freezeS hS RTSpan_mono (k := 0) rfl hrw4 rfl
 have H : some y3 = some r := H
 cases H
 exact ⟨_, _, rfl, hS.toGrow, _, _, _, rfl, hfG5⟩
set_option maxHeartbeats 1000000 in
theorem f116_ok {G0 : Gm} {w0 : World} (hS0 : Sat G0 w0) {x0 : (List TCellLoad)} {a1 : Option Addr} {n1 c1 : Nat} (h1 : RSl RTCellLoad 3 G0 a1 n1 c1 x0) {r : (List TCellLoad)} (H : f116 x0 = some r) :
  Calls Tryz.prog 116 #[.slice a1 n1 c1] w0 (RetG G0 w0 (fun G v => ∃ (ra0 : Option Addr) (rn0 rc0 : Nat), v = .slice ra0 rn0 rc0 ∧ RSl RTCellLoad 3 G ra0 rn0 rc0 r)) := by
 have hS := Since.start hS0
 have hO := own0 G0 w0
 unfold f116 at H
 refine enter1 (N := 5) (shutG _ _ _) Tryz.func116 rfl rfl rfl rfl (zQ (zR (zV (zA (v := (.slice none 0 0)) rfl) rfl (zN (zQ (zR (zV (zm (v := (.slice a1 n1 c1)) rfl) rfl ?_))))))); have hO := hO.cons_nil 193 3; obtain ⟨y3, hy3, H⟩ := bnd H; refine zO rfl (OpP_append (k := 0) sl43 RTCellLoad_one hS hO rfl rfl (Rd.nil RTCellLoad 3 G0) h1 hy3 rfl rfl rfl rfl rfl (fun aw4 cw4 w4 clw4 hS hO hrw4 => ?_))
 have hO : Owns _ _ _ ([⟨193, 3, y3.length, .slice aw4 y3.length cw4, clw4⟩]) := hO
 refine zV (zA (v := (.slice aw4 y3.length cw4)) rfl) rfl (zN (zr ?_)); obtain ⟨G5, leG5, hS, hO, hfG5⟩ := hO.freezeS hS RTCellLoad_mono (k := 0) rfl hrw4 rfl
 have H : some y3 = some r := H
 cases H
 exact ⟨_, _, rfl, hS.toGrow, _, _, _, rfl, hfG5⟩
end Go.Proofs.YtncjnffbdhckdaaGreatDoor
