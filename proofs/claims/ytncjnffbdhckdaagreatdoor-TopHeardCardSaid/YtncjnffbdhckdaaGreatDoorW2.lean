/-
 The walks: each Go function computes its plain function (printed by a program of ours).
-/
import Derived.Test.YtncjnffbdhckdaaGreatDoorRd
import Derived.Test.YtncjnffbdhckdaaGreatDoorBsC
import Derived.Test.YtncjnffbdhckdaaGreatDoorW1
namespace Go.Proofs.YtncjnffbdhckdaaGreatDoor
open Go.RowKit
set_option linter.unusedVariables false
set_option maxRecDepth 20000
set_option linter.unusedVariables false
set_option maxHeartbeats 1000000 in
theorem f160_ok {G0 : Gm} {w0 : World} (hS0 : Sat G0 w0) {x0 : TLandBook} {bq0 : Nat} {rm4 : Nat} {a1 : Option Addr} {n1 c1 : Nat} {a2 : Option Addr} {n2 c2 : Nat} {a3 : Option Addr} {n3 c3 : Nat} {x1 : Int} (hcq0 : Cells G0 bq0 0 [.slice a1 n1 c1, .slice a2 n2 c2, .slice a3 n3 c3, .map (some rm4)]) (h1 : RSl RTLandPerson 2 G0 a1 n1 c1 x0.People) (h2 : RSl RTLandEvent 2 G0 a2 n2 c2 x0.Events) (h3 : RSl RTLandMemory 4 G0 a3 n3 c3 x0.Memories) {r : (Tb 64) × Bool} (H : f160 x0 x1 = some r) :
  Calls Tryz.prog 160 #[pV bq0, iV x1] w0 (RetV w0 (.tuple #[.agg (cellsT r.1).toArray, .bool r.2])) := by
 have hS := Since.start hS0
 have hO := own0 G0 w0
 unfold f160 at H
 refine enterG (N := 175) (shutV _ _) [.cell 4 173, .tmp 5] Tryz.func160 rfl rfl rfl rfl ?_; refine zQ (zR ?_)
 refine zO rfl (zU (v := fun b => pV b) (cs := (cellsT (Tb.zero 64))) (e := 173) (by kernel_rfl) hS.sat hO rfl 64 1 (cellsT_len _) (by decide) (fun b5 w6 hb hO => ?_))
 have hS := hS.keep hb; refine zV (zA (v := (.bool false)) rfl) rfl (zN (WC_scope (zQ (zR ?_))))
 refine zO rfl (zU (v := fun b => pV b) (cs := (cellsT (Tb.zero 64))) (e := 173) (by kernel_rfl) hS.sat hO rfl 64 1 (cellsT_len _) (by decide) (fun b8 w9 hb hO => ?_))
 have hS := hS.keep hb; refine zN (zQ (zQ (zR (zV (zm (v := (iV 0)) rfl) rfl (zN ?_))))); obtain ⟨q13, hq13, H⟩ := bnd H; refine zM (fun F w => ∃ (Fb : Fr) (G : Gm), F = upds Fb [(0, pV bq0), (1, iV x1), (4, pV b5), (6, pV b8)] ∧ Gle G0 G ∧ SO G0 w0 G w [zt 173 64 b8 q13.1, zt 173 64 b5 q13.2]) ?_ ?_
 ·refine zb (WC_loop hq13 (fun s11 F w => ∃ (Fb : Fr) (G : Gm), F = upds Fb [(0, pV bq0), (1, iV x1), (4, pV b5), (6, pV b8), (25, iV s11.1)] ∧ Gle G0 G ∧ SO G0 w0 G w [zt 173 64 b8 s11.2.1, zt 173 64 b5 s11.2.2]) ?_ ?_)
  ·have hO : Owns _ _ _ ([zt 173 64 b8 (Tb.zero 64), zt 173 64 b5 (Tb.zero 64)]) := hO
   exact ⟨_, G0, zu _ _ ⟨rfl, rfl, rfl, rfl, rfl, trivial⟩, Gle.refl _, hS, hO⟩
  ·rintro s11 F w15 t14 ⟨Fb, G16, rfl, leG16, hS, hO⟩
   intro H1 hqq13
   have Hoq13 := H; have H := H1
   unfold f160_b0 at H
   refine zQ (zR (zV (zl rfl rfl) rfl (zN (zQ (zT rfl (fun hb17 => ?_) (fun hb17 => ?_))))))
   ·have H := ifT hb17 H; refine zP (zQ (zb (zQ (zR ?_)))); refine wr 2 rfl ?_; refine zN (zQ (zR (zV (zm (v := (iV 0)) rfl) rfl (zN ?_)))); obtain ⟨q20, hq20, H⟩ := bnd H; refine zM (fun F w => ∃ (Fb : Fr) (G : Gm), F = upds Fb [(0, pV bq0), (1, iV x1), (4, pV b5), (6, pV b8), (25, iV s11.1)] ∧ Gle G16 G ∧ SO G0 w0 G w [zt 173 64 b8 q20.1, zt 173 64 b5 q20.2]) ?_ ?_
    ·refine zb (WC_loop hq20 (fun s18 F w => ∃ (Fb : Fr) (G : Gm), F = upds Fb [(0, pV bq0), (1, iV x1), (4, pV b5), (6, pV b8), (7, iV s11.1), (25, iV s11.1), (28, iV s18.1)] ∧ Gle G16 G ∧ SO G0 w0 G w [zt 173 64 b8 s18.2.1, zt 173 64 b5 s18.2.2]) ?_ ?_)
     ·have hO : Owns _ _ _ ([zt 173 64 b8 s11.2.1, zt 173 64 b5 s11.2.2]) := hO
      exact ⟨_, G16, zu _ _ ⟨rfl, rfl, rfl, rfl, rfl, rfl, rfl, trivial⟩, Gle.refl _, hS, hO⟩
     ·rintro s18 F w22 t21 ⟨Fb, G23, rfl, leG23, hS, hO⟩
      intro H1 hqq20
      have Hoq20 := H; have H := H1
      unfold f160_b1 at H
      refine zQ (zR (zV (zl rfl rfl) rfl (zN (zQ (zT rfl (fun hb24 => ?_) (fun hb24 => ?_))))))
      ·have H := ifT hb24 H; refine zP (zQ ?_); obtain ⟨q25, hq25, H⟩ := bnd H; refine zM (fun F w => ∃ (Fb : Fr) (G : Gm), F = upds Fb [(0, pV bq0), (1, iV x1), (4, pV b5), (6, pV b8), (7, iV s11.1), (25, iV s11.1), (28, iV s18.1)] ∧ Gle G23 G ∧ SO G0 w0 G w [zt 173 64 b8 q25, zt 173 64 b5 s18.2.2]) ?_ ?_
       ·have Hoq25 := H; have H := hq25; refine zb (zQ (zR ?_)); refine wr 2 rfl ?_; refine zN (zQ (zR ?_)); refine wr 3 rfl ?_; refine zN (zT rfl (fun hb26 => ?_) (fun hb26 => ?_))
        ·have H := ifT hb26 H; refine zR ?_; refine wr 2 rfl ?_; obtain ⟨j27, hj27, H⟩ := bnd H; refine zV (rn_idxA ar173 rfl rfl hj27) rfl ?_; obtain ⟨j28, hj28, H⟩ := bnd H
         have hl29 : 0 + j27 * 8 + j28 * 1 < 64 := by have := (ckI_some hj27).2; have := (ckI_some hj28).2; omega
         refine zV (rn_idxA ar171 rfl rfl hj28) rfl (zO rfl (OpP_storeT sz3 hS hO (k := 0) rfl rfl rfl hl29 (fun w30 hS hO => ?_)))
         have hO : Owns _ _ _ ([zt 173 64 b8 (tset s18.2.1 (0 + j27 * 8 + j28 * 1) 2000), zt 173 64 b5 s18.2.2]) := hO
         refine zN ?_
         cases H
         exact ⟨_, G23, zu _ _ ⟨rfl, rfl, rfl, rfl, rfl, rfl, rfl, trivial⟩, Gle.refl _, hS, hO⟩
        ·have H := ifF hb26 H; refine zP ?_
         have hO : Owns _ _ _ ([zt 173 64 b8 s18.2.1, zt 173 64 b5 s18.2.2]) := hO
         cases H
         exact ⟨_, G23, zu _ _ ⟨rfl, rfl, rfl, rfl, rfl, rfl, rfl, trivial⟩, Gle.refl _, hS, hO⟩
       ·rintro F w31 ⟨Fb, G32, rfl, leG32, hS, hO⟩
        refine zR ?_; refine wr 2 rfl ?_; refine zN ?_
        have hO : Owns _ _ _ ([zt 173 64 b8 q25, zt 173 64 b5 s18.2.2]) := hO
        cases H; refine ⟨_, rfl, ?_⟩
        have l1_3 := leG23.trans leG32
        exact ⟨_, G32, zu _ _ ⟨rfl, rfl, rfl, rfl, rfl, rfl, rfl, trivial⟩, l1_3, hS, hO⟩
      ·have H := ifF hb24 H; refine WC_exit rfl ?_
       have hO : Owns _ _ _ ([zt 173 64 b8 s18.2.1, zt 173 64 b5 s18.2.2]) := hO
       cases H
       have hres := hqq20 _ rfl
       subst hres
       exact ⟨_, G23, zu _ _ ⟨rfl, rfl, rfl, rfl, rfl, trivial⟩, leG23, hS, hO⟩
    ·rintro F w33 ⟨Fb, G34, rfl, leG34, hS, hO⟩
     refine zR ?_; refine wr 2 rfl ?_; refine zN ?_
     have hO : Owns _ _ _ ([zt 173 64 b8 q20.1, zt 173 64 b5 q20.2]) := hO
     cases H; refine ⟨_, rfl, ?_⟩
     have l0_2 := leG16.trans leG34
     exact ⟨_, G34, zu _ _ ⟨rfl, rfl, rfl, rfl, rfl, trivial⟩, l0_2, hS, hO⟩
   ·have H := ifF hb17 H; refine WC_exit rfl ?_
    have hO : Owns _ _ _ ([zt 173 64 b8 s11.2.1, zt 173 64 b5 s11.2.2]) := hO
    cases H
    have hres := hqq13 _ rfl
    subst hres
    exact ⟨_, G16, zu _ _ ⟨rfl, rfl, rfl, rfl, trivial⟩, leG16, hS, hO⟩
 ·rintro F w35 ⟨Fb, G36, rfl, leG36, hS, hO⟩
  refine zQ (zR (zV (v := (.func (.func 209) ([] : List Value).toArray ([pV b8] : List Value).toArray)) (rn_func (vs := []) (us := [pV b8]) rfl rfl) rfl (zV (zA (v := (.func (.func 209) ([] : List Value).toArray ([pV b8] : List Value).toArray)) rfl) rfl (zN (zQ (zQ (zR (zV (zm (v := (pV bq0)) rfl) rfl ?_))))))))
  refine zV (v := (pV bq0)) (by kernel_rfl) rfl ?_
  refine WL_run tabH (cellsW (hS.sat.le leG36) hcq0) 5 [_] rfl rfl (ao (h2.mono RTLandEvent_mono leG36).1 an) (zN ?_); obtain ⟨q39, hq39, H⟩ := bnd H; refine zM (fun F w => ∃ (Fb : Fr) (G : Gm), F = upds Fb [(0, pV bq0), (1, iV x1), (4, pV b5), (6, pV b8), (9, .func (.func 209) ([] : List Value).toArray ([pV b8] : List Value).toArray)] ∧ Gle G36 G ∧ SO G0 w0 G w [zt 173 64 b8 q39.1, zt 173 64 b5 q39.2]) ?_ ?_
  ·refine zb (WC_loop hq39 (fun s37 F w => ∃ (Fb : Fr) (G : Gm), F = upds Fb [(0, pV bq0), (1, iV x1), (4, pV b5), (6, pV b8), (9, .func (.func 209) ([] : List Value).toArray ([pV b8] : List Value).toArray), (46, iV (x0.Events.length : Int)), (47, iV s37.1)] ∧ Gle G36 G ∧ SO G0 w0 G w [zt 173 64 b8 s37.2.1, zt 173 64 b5 s37.2.2]) ?_ ?_)
   ·have hO : Owns _ _ _ ([zt 173 64 b8 q13.1, zt 173 64 b5 q13.2]) := hO
    exact ⟨_, G36, zu _ _ ⟨rfl, rfl, rfl, rfl, rfl, rfl, rfl, trivial⟩, Gle.refl _, hS, hO⟩
   ·rintro s37 F w41 t40 ⟨Fb, G42, rfl, leG42, hS, hO⟩
    intro H1 hqq39
    have Hoq39 := H; have H := H1
    unfold f160_b2 at H
    refine zQ (zR (zV (zl rfl rfl) rfl (zN (zQ (zT rfl (fun hb43 => ?_) (fun hb43 => ?_))))))
    ·have H := ifT hb43 H; refine zP (zQ ?_); obtain ⟨q44, hq44, H⟩ := bnd H; refine zM (fun F w => ∃ (Fb : Fr) (G : Gm), F = upds Fb [(0, pV bq0), (1, iV x1), (4, pV b5), (6, pV b8), (9, .func (.func 209) ([] : List Value).toArray ([pV b8] : List Value).toArray), (46, iV (x0.Events.length : Int)), (47, iV s37.1)] ∧ Gle G42 G ∧ SO G0 w0 G w [zt 173 64 b8 q44, zt 173 64 b5 s37.2.2]) ?_ ?_
     ·have Hoq44 := H; have H := hq44; refine zb (zQ (zR ?_)); refine wr 2 rfl ?_; refine zN (zQ ?_); obtain ⟨q45, hq45, H⟩ := bnd H; refine zM (fun F w => ∃ (Fb : Fr) (G : Gm), F = upds Fb [(0, pV bq0), (1, iV x1), (4, pV b5), (6, pV b8), (9, .func (.func 209) ([] : List Value).toArray ([pV b8] : List Value).toArray), (10, iV s37.1), (46, iV (x0.Events.length : Int)), (47, iV s37.1)] ∧ Gle G42 G ∧ SO G0 w0 G w [zt 173 64 b8 q45, zt 173 64 b5 s37.2.2]) ?_ ?_
      ·have Hoq45 := H; have H := hq45; refine zR ?_; refine wr 2 rfl ?_; refine zO rfl (OpP_inC1 (N' := 20) (fi := []) (al := [iV 7, iV s37.1, iV 1000]) (ca := [pV b8]) cb209 Tryz.func209 rfl rfl rfl rfl rfl rfl rfl ?_); refine zQ (zR (zV (zA (v := (.bool false)) rfl) rfl (zN (zQ (zQ (zR ?_)))))); refine wr 3 rfl ?_
       refine zV (rn_idxA ar173 rfl rfl (show ckI 7 8 = some 7 by decide)) rfl ?_
       obtain ⟨j46, hj46, H⟩ := bnd H
       have hl47 : 0 + 7 * 8 + j46 * 1 < 64 := by have := (ckI_some hj46).2; omega
       refine zV (rn_idxA ar171 rfl rfl hj46) rfl (zV (zL na3 rfl (tab_cell hO (k := 0) rfl hl47)) rfl (zV (rn_geq rfl rfl) rfl (zN (zT rfl (fun hb48 => ?_) (fun hb48 => ?_)))))
       ·have H := ifT hb48 H; refine zQ (zR (zV (zA (v := (.bool false)) rfl) rfl (zN (zr ?_)))); refine ⟨(.bool false), rfl, ?_⟩
        have hO : Owns _ _ _ ([zt 173 64 b8 s37.2.1, zt 173 64 b5 s37.2.2]) := hO
        refine zN ?_
        cases H
        exact ⟨_, G42, zu _ _ ⟨rfl, rfl, rfl, rfl, rfl, rfl, rfl, rfl, trivial⟩, Gle.refl _, hS, hO⟩
       ·have H := ifF hb48 H; refine zP (zQ (zR ?_)); refine wr 3 rfl ?_
        refine zV (rn_idxA ar173 rfl rfl (show ckI 7 8 = some 7 by decide)) rfl ?_
        obtain ⟨j49, hj49, H⟩ := bnd H
        have hl50 : 0 + 7 * 8 + j49 * 1 < 64 := by have := (ckI_some hj49).2; omega
        refine zV (rn_idxA ar171 rfl rfl hj49) rfl (zO rfl (OpP_storeT sz3 hS hO (k := 0) rfl rfl rfl hl50 (fun w51 hS hO => ?_)))
        have hO : Owns _ _ _ ([zt 173 64 b8 (tset s37.2.1 (0 + 7 * 8 + j49 * 1) 1000), zt 173 64 b5 s37.2.2]) := hO
        refine zN (zQ (zR (zV (zA (v := (.bool true)) rfl) rfl (zN (zr ?_))))); refine ⟨(.bool true), rfl, ?_⟩
        have hO : Owns _ _ _ ([zt 173 64 b8 (tset s37.2.1 (0 + 7 * 8 + j49 * 1) 1000), zt 173 64 b5 s37.2.2]) := hO
        refine zN ?_
        cases H
        exact ⟨_, G42, zu _ _ ⟨rfl, rfl, rfl, rfl, rfl, rfl, rfl, rfl, trivial⟩, Gle.refl _, hS, hO⟩
      ·rintro F w52 ⟨Fb, G53, rfl, leG53, hS, hO⟩
       refine zR ?_; refine wr 2 rfl ?_; refine zO rfl (OpP_inC1 (N' := 20) (fi := []) (al := [iV s37.1, iV 7, iV 0]) (ca := [pV b8]) cb209 Tryz.func209 rfl rfl rfl rfl rfl rfl rfl ?_); refine zQ (zR (zV (zA (v := (.bool false)) rfl) rfl (zN (zQ (zQ (zR ?_)))))); refine wr 3 rfl ?_; obtain ⟨j54, hj54, H⟩ := bnd H; refine zV (rn_idxA ar173 rfl rfl hj54) rfl ?_
       have hl55 : 0 + j54 * 8 + 7 * 1 < 64 := by have := (ckI_some hj54).2; omega
       refine zV (rn_idxA ar171 rfl rfl (show ckI 7 8 = some 7 by decide)) rfl ?_
       refine zV (zL na3 rfl (tab_cell hO (k := 0) rfl hl55)) rfl (zV (rn_geq rfl rfl) rfl (zN (zT rfl (fun hb56 => ?_) (fun hb56 => ?_))))
       ·have H := ifT hb56 H; refine zQ (zR (zV (zA (v := (.bool false)) rfl) rfl (zN (zr ?_)))); refine ⟨(.bool false), rfl, ?_⟩
        have hO : Owns _ _ _ ([zt 173 64 b8 q45, zt 173 64 b5 s37.2.2]) := hO
        refine zN ?_
        cases H
        exact ⟨_, G53, zu _ _ ⟨rfl, rfl, rfl, rfl, rfl, rfl, rfl, trivial⟩, leG53, hS, hO⟩
       ·have H := ifF hb56 H; refine zP (zQ (zR ?_)); refine wr 3 rfl ?_; obtain ⟨j57, hj57, H⟩ := bnd H; refine zV (rn_idxA ar173 rfl rfl hj57) rfl ?_
        have hl58 : 0 + j57 * 8 + 7 * 1 < 64 := by have := (ckI_some hj57).2; omega
        refine zV (rn_idxA ar171 rfl rfl (show ckI 7 8 = some 7 by decide)) rfl ?_
        refine zO rfl (OpP_storeT sz3 hS hO (k := 0) rfl rfl rfl hl58 (fun w59 hS hO => ?_))
        have hO : Owns _ _ _ ([zt 173 64 b8 (tset q45 (0 + j57 * 8 + 7 * 1) 0), zt 173 64 b5 s37.2.2]) := hO
        refine zN (zQ (zR (zV (zA (v := (.bool true)) rfl) rfl (zN (zr ?_))))); refine ⟨(.bool true), rfl, ?_⟩
        have hO : Owns _ _ _ ([zt 173 64 b8 (tset q45 (0 + j57 * 8 + 7 * 1) 0), zt 173 64 b5 s37.2.2]) := hO
        refine zN ?_
        cases H
        exact ⟨_, G53, zu _ _ ⟨rfl, rfl, rfl, rfl, rfl, rfl, rfl, trivial⟩, leG53, hS, hO⟩
     ·rintro F w60 ⟨Fb, G61, rfl, leG61, hS, hO⟩
      refine zR ?_; refine wr 2 rfl ?_; refine zN ?_
      have hO : Owns _ _ _ ([zt 173 64 b8 q44, zt 173 64 b5 s37.2.2]) := hO
      cases H; refine ⟨_, rfl, ?_⟩
      have l1_3 := leG42.trans leG61
      exact ⟨_, G61, zu _ _ ⟨rfl, rfl, rfl, rfl, rfl, rfl, rfl, trivial⟩, l1_3, hS, hO⟩
    ·have H := ifF hb43 H; refine WC_exit rfl ?_
     have hO : Owns _ _ _ ([zt 173 64 b8 s37.2.1, zt 173 64 b5 s37.2.2]) := hO
     cases H
     have hres := hqq39 _ rfl
     subst hres
     exact ⟨_, G42, zu _ _ ⟨rfl, rfl, rfl, rfl, rfl, trivial⟩, leG42, hS, hO⟩
  ·rintro F w62 ⟨Fb, G63, rfl, leG63, hS, hO⟩
   refine zQ (zQ (zR (zV (zm (v := (pV bq0)) rfl) rfl ?_)))
   refine zV (v := (pV bq0)) (by kernel_rfl) rfl ?_
   have l0_2 := leG36.trans leG63
   refine WL_run tabH (cellsW (hS.sat.le l0_2) hcq0) 5 [_] rfl rfl (ao (h3.mono RTLandMemory_mono l0_2).1 an) (zN ?_); obtain ⟨q66, hq66, H⟩ := bnd H; refine zM (fun F w => ∃ (Fb : Fr) (G : Gm), F = upds Fb [(0, pV bq0), (4, pV b5), (6, pV b8), (9, .func (.func 209) ([] : List Value).toArray ([pV b8] : List Value).toArray)] ∧ Gle G63 G ∧ SO G0 w0 G w [zt 173 64 b8 q66.1, zt 173 64 b5 q66.2]) ?_ ?_
   ·refine zb (WC_loop hq66 (fun s64 F w => ∃ (Fb : Fr) (G : Gm), F = upds Fb [(0, pV bq0), (1, iV x1), (4, pV b5), (6, pV b8), (9, .func (.func 209) ([] : List Value).toArray ([pV b8] : List Value).toArray), (61, .slice a3 n3 c3), (62, iV (x0.Memories.length : Int)), (63, iV s64.1)] ∧ Gle G63 G ∧ SO G0 w0 G w [zt 173 64 b8 s64.2.1, zt 173 64 b5 s64.2.2]) ?_ ?_)
    ·have hO : Owns _ _ _ ([zt 173 64 b8 q39.1, zt 173 64 b5 q39.2]) := hO
     exact ⟨_, G63, zu _ _ ⟨rfl, rfl, rfl, rfl, rfl, rfl, rfl, rfl, trivial⟩, Gle.refl _, hS, hO⟩
    ·rintro s64 F w68 t67 ⟨Fb, G69, rfl, leG69, hS, hO⟩
     intro H1 hqq66
     have Hoq66 := H; have H := H1
     unfold f160_b3 at H
     refine zQ (zR (zV (zl rfl rfl) rfl (zN (zQ (zT rfl (fun hb70 => ?_) (fun hb70 => ?_))))))
     ·have H := ifT hb70 H; refine zP (zQ ?_); obtain ⟨q71, hq71, H⟩ := bnd H; refine zM (fun F w => ∃ (Fb : Fr) (G : Gm), F = upds Fb [(0, pV bq0), (1, iV x1), (4, pV b5), (6, pV b8), (9, .func (.func 209) ([] : List Value).toArray ([pV b8] : List Value).toArray), (61, .slice a3 n3 c3), (62, iV (x0.Memories.length : Int)), (63, iV s64.1)] ∧ Gle G69 G ∧ SO G0 w0 G w [zt 173 64 b8 q71, zt 173 64 b5 s64.2.2]) ?_ ?_
      ·have Hoq71 := H; have H := hq71; refine zb (zQ (zR (zV (zm (v := (iV s64.1)) rfl) rfl ?_))); obtain ⟨y72, hy72, H⟩ := bnd H
       have l0_3 := l0_2.trans leG69
       refine WL_idx sl30 (h3.mono RTLandMemory_mono l0_3) hy72 rfl rfl rfl ?_
       rintro b73 o73 _ hcb73 _ ⟨⟩
       refine zV (rn_loadA ag59 (cs := [iV y72.From, iV y72.To, iV y72.Years.Low, iV y72.Years.High]) rfl rfl (fun j v hj => hS.sat.cell (hcb73.drop_take 0 4 j v hj))) rfl ?_
       refine zO rfl (zU (v := fun b => pV b) (cs := [iV 0, iV 0, iV 0, iV 0]) (e := 59) (by kernel_rfl) hS.sat hO rfl 4 1 rfl (by decide) (fun b74 w75 hb hO => ?_))
       have hS := hS.keep hb; refine zV (zA (v := (iV s64.1)) rfl) rfl (zO rfl (OpP_store (vs := [iV y72.From, iV y72.To, iV y72.Years.Low, iV y72.Years.High]) sz59 hS hO (k := 0) rfl rfl rfl rfl rfl (one_all rfl) (Nat.le_of_ble_eq_true rfl) (fun w77 hS hO => ?_)))
       have hO : Owns _ _ _ ([⟨59, 4, 1, .slice (some ⟨b74, 0, none⟩) 1 1, [iV y72.From, iV y72.To, iV y72.Years.Low, iV y72.Years.High]⟩, zt 173 64 b8 s64.2.1, zt 173 64 b5 s64.2.2]) := hO
       obtain ⟨G78, leG78, hS, hO, hqG78, _⟩ := hO.freeze hS (k := 0) rfl
       have hcG78 : Cells G78 b74 0 [iV y72.From, iV y72.To, iV y72.Years.Low, iV y72.Years.High] := (hqG78 _ _ _ _ rfl)
       refine zN (zQ (zR ?_)); refine wr 2 rfl ?_; obtain ⟨y79, hy79, H⟩ := bnd H; refine zO rfl (zC cb210 (f210_ok (x0 := x1) (x1 := s64.1) hS.sat  hy79) rfl rfl (fun w80 hb => ?_)); have hS := hS.keep hb; have hO := hO.below hb; refine zN (zT rfl (fun hb81 => ?_) (fun hb81 => ?_))
       ·have H := ifT hb81 H; refine zQ ?_; obtain ⟨q82, hq82, H⟩ := bnd H; refine zM (fun F w => ∃ (Fb : Fr) (G : Gm), F = upds Fb [(0, pV bq0), (1, iV x1), (4, pV b5), (6, pV b8), (9, .func (.func 209) ([] : List Value).toArray ([pV b8] : List Value).toArray), (12, pV b74), (61, .slice a3 n3 c3), (62, iV (x0.Memories.length : Int)), (63, iV s64.1)] ∧ Gle G78 G ∧ SO G0 w0 G w [zt 173 64 b8 q82, zt 173 64 b5 s64.2.2]) ?_ ?_
        ·have Hoq82 := H; have H := hq82; refine zR (WL_run tabH (cellsW hS.sat hcG78) 8 [] rfl rfl an (zO rfl (OpP_inC1 (N' := 20) (fi := []) (al := [iV y72.From, iV y72.To, iV y72.Years.High]) (ca := [pV b8]) cb209 Tryz.func209 rfl rfl rfl rfl rfl rfl rfl ?_))); refine zQ (zR (zV (zA (v := (.bool false)) rfl) rfl (zN (zQ (zQ (zR ?_)))))); refine wr 3 rfl ?_; obtain ⟨j83, hj83, H⟩ := bnd H; refine zV (rn_idxA ar173 rfl rfl hj83) rfl ?_; obtain ⟨j84, hj84, H⟩ := bnd H
         have hl85 : 0 + j83 * 8 + j84 * 1 < 64 := by have := (ckI_some hj83).2; have := (ckI_some hj84).2; omega
         refine zV (rn_idxA ar171 rfl rfl hj84) rfl (zV (zL na3 rfl (tab_cell hO (k := 0) rfl hl85)) rfl (zV (rn_geq rfl rfl) rfl (zN (zT rfl (fun hb86 => ?_) (fun hb86 => ?_)))))
         ·have H := ifT hb86 H; refine zQ (zR (zV (zA (v := (.bool false)) rfl) rfl (zN (zr ?_)))); refine ⟨(.bool false), rfl, ?_⟩
          have hO : Owns _ _ _ ([zt 173 64 b8 s64.2.1, zt 173 64 b5 s64.2.2]) := hO
          refine zN ?_
          cases H
          exact ⟨_, G78, zu _ _ ⟨rfl, rfl, rfl, rfl, rfl, rfl, rfl, rfl, rfl, trivial⟩, Gle.refl _, hS, hO⟩
         ·have H := ifF hb86 H; refine zP (zQ (zR ?_)); refine wr 3 rfl ?_; obtain ⟨j87, hj87, H⟩ := bnd H; refine zV (rn_idxA ar173 rfl rfl hj87) rfl ?_; obtain ⟨j88, hj88, H⟩ := bnd H
          have hl89 : 0 + j87 * 8 + j88 * 1 < 64 := by have := (ckI_some hj87).2; have := (ckI_some hj88).2; omega
          refine zV (rn_idxA ar171 rfl rfl hj88) rfl (zO rfl (OpP_storeT sz3 hS hO (k := 0) rfl rfl rfl hl89 (fun w90 hS hO => ?_)))
          have hO : Owns _ _ _ ([zt 173 64 b8 (tset s64.2.1 (0 + j87 * 8 + j88 * 1) y72.Years.High), zt 173 64 b5 s64.2.2]) := hO
          refine zN (zQ (zR (zV (zA (v := (.bool true)) rfl) rfl (zN (zr ?_))))); refine ⟨(.bool true), rfl, ?_⟩
          have hO : Owns _ _ _ ([zt 173 64 b8 (tset s64.2.1 (0 + j87 * 8 + j88 * 1) y72.Years.High), zt 173 64 b5 s64.2.2]) := hO
          refine zN ?_
          cases H
          exact ⟨_, G78, zu _ _ ⟨rfl, rfl, rfl, rfl, rfl, rfl, rfl, rfl, rfl, trivial⟩, Gle.refl _, hS, hO⟩
        ·rintro F w91 ⟨Fb, G92, rfl, leG92, hS, hO⟩
         refine zR (WL_run tabH (cellsW (hS.sat.le leG92) hcG78) 8 [] rfl rfl an (zV (rn_neg rfl) rfl (zO rfl (OpP_inC1 (N' := 20) (fi := []) (al := [iV y72.To, iV y72.From, iV (IntKind.i64.wrap (0 - y72.Years.Low))]) (ca := [pV b8]) cb209 Tryz.func209 rfl rfl rfl rfl rfl rfl rfl ?_)))); refine zQ (zR (zV (zA (v := (.bool false)) rfl) rfl (zN (zQ (zQ (zR ?_)))))); refine wr 3 rfl ?_; obtain ⟨j93, hj93, H⟩ := bnd H; refine zV (rn_idxA ar173 rfl rfl hj93) rfl ?_; obtain ⟨j94, hj94, H⟩ := bnd H
         have hl95 : 0 + j93 * 8 + j94 * 1 < 64 := by have := (ckI_some hj93).2; have := (ckI_some hj94).2; omega
         refine zV (rn_idxA ar171 rfl rfl hj94) rfl (zV (zL na3 rfl (tab_cell hO (k := 0) rfl hl95)) rfl (zV (rn_geq rfl rfl) rfl (zN (zT rfl (fun hb96 => ?_) (fun hb96 => ?_)))))
         ·have H := ifT hb96 H; refine zQ (zR (zV (zA (v := (.bool false)) rfl) rfl (zN (zr ?_)))); refine ⟨(.bool false), rfl, ?_⟩
          have hO : Owns _ _ _ ([zt 173 64 b8 q82, zt 173 64 b5 s64.2.2]) := hO
          refine zN ?_
          cases H
          have l3_5 := leG78.trans leG92
          exact ⟨_, G92, zu _ _ ⟨rfl, rfl, rfl, rfl, rfl, rfl, rfl, rfl, trivial⟩, l3_5, hS, hO⟩
         ·have H := ifF hb96 H; refine zP (zQ (zR ?_)); refine wr 3 rfl ?_; obtain ⟨j97, hj97, H⟩ := bnd H; refine zV (rn_idxA ar173 rfl rfl hj97) rfl ?_; obtain ⟨j98, hj98, H⟩ := bnd H
          have hl99 : 0 + j97 * 8 + j98 * 1 < 64 := by have := (ckI_some hj97).2; have := (ckI_some hj98).2; omega
          refine zV (rn_idxA ar171 rfl rfl hj98) rfl (zO rfl (OpP_storeT sz3 hS hO (k := 0) rfl rfl rfl hl99 (fun w100 hS hO => ?_)))
          have hO : Owns _ _ _ ([zt 173 64 b8 (tset q82 (0 + j97 * 8 + j98 * 1) (IntKind.i64.wrap (0 - y72.Years.Low))), zt 173 64 b5 s64.2.2]) := hO
          refine zN (zQ (zR (zV (zA (v := (.bool true)) rfl) rfl (zN (zr ?_))))); refine ⟨(.bool true), rfl, ?_⟩
          have hO : Owns _ _ _ ([zt 173 64 b8 (tset q82 (0 + j97 * 8 + j98 * 1) (IntKind.i64.wrap (0 - y72.Years.Low))), zt 173 64 b5 s64.2.2]) := hO
          refine zN ?_
          cases H
          have l3_5 := leG78.trans leG92
          exact ⟨_, G92, zu _ _ ⟨rfl, rfl, rfl, rfl, rfl, rfl, rfl, rfl, trivial⟩, l3_5, hS, hO⟩
       ·have H := ifF hb81 H; refine zP ?_
        have hO : Owns _ _ _ ([zt 173 64 b8 s64.2.1, zt 173 64 b5 s64.2.2]) := hO
        cases H
        exact ⟨_, G78, zu _ _ ⟨rfl, rfl, rfl, rfl, rfl, rfl, rfl, rfl, trivial⟩, leG78, hS, hO⟩
      ·rintro F w101 ⟨Fb, G102, rfl, leG102, hS, hO⟩
       refine zR ?_; refine wr 2 rfl ?_; refine zN ?_
       have hO : Owns _ _ _ ([zt 173 64 b8 q71, zt 173 64 b5 s64.2.2]) := hO
       cases H; refine ⟨_, rfl, ?_⟩
       have l2_4 := leG69.trans leG102
       exact ⟨_, G102, zu _ _ ⟨rfl, rfl, rfl, rfl, rfl, rfl, rfl, rfl, trivial⟩, l2_4, hS, hO⟩
     ·have H := ifF hb70 H; refine WC_exit rfl ?_
      have hO : Owns _ _ _ ([zt 173 64 b8 s64.2.1, zt 173 64 b5 s64.2.2]) := hO
      cases H
      have hres := hqq66 _ rfl
      subst hres
      exact ⟨_, G69, zu _ _ ⟨rfl, rfl, rfl, rfl, trivial⟩, leG69, hS, hO⟩
   ·rintro F w103 ⟨Fb, G104, rfl, leG104, hS, hO⟩
    refine zQ (zR (zV (zm (v := (pV bq0)) rfl) rfl ?_))
    refine zV (v := (pV bq0)) (by kernel_rfl) rfl ?_
    have l0_3 := l0_2.trans leG104
    refine WL_run tabH (cellsW (hS.sat.le l0_3) hcq0) 6 [_] rfl rfl (ao (h2.mono RTLandEvent_mono l0_3).1 an) (zN (zQ (zR (zV (zm (v := (iV (IntKind.i64.wrap ((x0.Events.length : Int) + 1)))) rfl) rfl ?_)))); obtain ⟨_, hm108, H⟩ := bnd H; refine zO rfl (OpP_make0 sl24 hS hO hm108 rfl rfl rfl rfl (fun b105 w106 hS hO => ?_)); refine zV (zA (v := (.slice (some ⟨b105, 0, none⟩) 0 ((IntKind.i64.wrap ((x0.Events.length : Int) + 1)).toNat))) rfl) rfl (zN (zQ (zQ (zR (zV (zm (v := (pV bq0)) rfl) rfl ?_)))))
    refine zV (v := (pV bq0)) (by kernel_rfl) rfl ?_
    refine WL_run tabH (cellsW (hS.sat.le l0_3) hcq0) 5 [_] rfl rfl (ao (h2.mono RTLandEvent_mono l0_3).1 an) (zN ?_); obtain ⟨q111, hq111, H⟩ := bnd H; refine zM (fun F w => ∃ (Fb : Fr) (G : Gm) (aq111_0 : Option Addr) (nq111_0 cq111_0 : Nat) (claq111_0 : List Value), F = upds Fb [(4, pV b5), (6, pV b8), (9, .func (.func 209) ([] : List Value).toArray ([pV b8] : List Value).toArray), (13, iV (IntKind.i64.wrap ((x0.Events.length : Int) + 1))), (14, .slice aq111_0 nq111_0 cq111_0)] ∧ Gle G104 G ∧ Since w0.heap.size G0 w0 G w ∧ Owns G w w0.heap.size [⟨3, 1, nq111_0, .slice aq111_0 nq111_0 cq111_0, claq111_0⟩, zt 173 64 b8 q111.2.1, zt 173 64 b5 q111.2.2] ∧ nq111_0 = q111.1.length ∧ Rd RInt 1 G claq111_0 q111.1) ?_ ?_
    ·refine zb (WC_loop hq111 (fun s109 F w => ∃ (Fb : Fr) (G : Gm) (as109_0 : Option Addr) (ns109_0 cs109_0 : Nat) (clas109_0 : List Value), F = upds Fb [(4, pV b5), (6, pV b8), (9, .func (.func 209) ([] : List Value).toArray ([pV b8] : List Value).toArray), (13, iV (IntKind.i64.wrap ((x0.Events.length : Int) + 1))), (14, .slice as109_0 ns109_0 cs109_0), (105, iV (x0.Events.length : Int)), (106, iV s109.2.1)] ∧ Gle G104 G ∧ Since w0.heap.size G0 w0 G w ∧ Owns G w w0.heap.size [⟨3, 1, ns109_0, .slice as109_0 ns109_0 cs109_0, clas109_0⟩, zt 173 64 b8 s109.2.2.1, zt 173 64 b5 s109.2.2.2] ∧ ns109_0 = s109.1.length ∧ Rd RInt 1 G clas109_0 s109.1) ?_ ?_)
     ·have hO : Owns _ _ _ ([⟨3, 1, 0, .slice (some ⟨b105, 0, none⟩) 0 ((IntKind.i64.wrap ((x0.Events.length : Int) + 1)).toNat), []⟩, zt 173 64 b8 q66.1, zt 173 64 b5 q66.2]) := hO
      exact ⟨_, G104, (some ⟨b105, 0, none⟩), 0, ((IntKind.i64.wrap ((x0.Events.length : Int) + 1)).toNat), [], zu _ _ ⟨rfl, rfl, rfl, rfl, rfl, rfl, rfl, trivial⟩, Gle.refl _, hS, hO, rfl, (Rd.nil RInt 1 G104)⟩
     ·rintro s109 F w113 t112 ⟨Fb, G114, as109_0, ns109_0, cs109_0, clas109_0, rfl, leG114, hS, hO, hnhs109_0, hs109_0⟩
      intro H1 hqq111
      have Hoq111 := H; have H := H1
      unfold f160_b4 at H
      refine zQ (zR (zV (zl rfl rfl) rfl (zN (zQ (zT rfl (fun hb115 => ?_) (fun hb115 => ?_))))))
      ·have H := ifT hb115 H; refine zP (zQ (zb (zQ (zR ?_)))); refine wr 2 rfl ?_; refine zN (zR ?_); refine wr 2 rfl ?_
       refine zO rfl (OpP_newF (v := fun b => .slice (some ⟨b, 0, none⟩) 1 1) (cs := [iV s109.2.1]) (e := 3) (by kernel_rfl) hS.sat rfl (fun b116 G118 w117 hg hcb116 => ?_))
       have hS := hS.grow hg; have hO := hO.grow hg
       have leG118 := hg.le
       have hfb116 : RSl RInt 1 G118 (some ⟨b116, 0, none⟩) 1 1 [s109.2.1] := RSl.of_rd hcb116 (Rd.cons (c := [iV s109.2.1]) rfl rfl (Rd.nil RInt 1 _)) rfl (by decide)
       obtain ⟨y119, hy119, H⟩ := bnd H; refine zO rfl (OpP_append (k := 0) sl24 RInt_one hS hO rfl hnhs109_0 (hs109_0.mono RInt_mono leG118) hfb116 hy119 rfl rfl rfl rfl rfl (fun aw120 cw120 w120 clw120 hS hO hrw120 => ?_))
       have hO : Owns _ _ _ ([⟨3, 1, y119.length, .slice aw120 y119.length cw120, clw120⟩, zt 173 64 b8 s109.2.2.1, zt 173 64 b5 s109.2.2.2]) := hO
       refine zV (zA (v := (.slice aw120 y119.length cw120)) rfl) rfl (zN (zR ?_)); refine wr 2 rfl ?_; refine zN ?_
       have hO : Owns _ _ _ ([⟨3, 1, y119.length, .slice aw120 y119.length cw120, clw120⟩, zt 173 64 b8 s109.2.2.1, zt 173 64 b5 s109.2.2.2]) := hO
       cases H; refine ⟨_, rfl, ?_⟩
       have l3_5 := leG114.trans leG118
       exact ⟨_, G118, aw120, y119.length, cw120, clw120, zu _ _ ⟨rfl, rfl, rfl, rfl, rfl, rfl, rfl, trivial⟩, l3_5, hS, hO, rfl, hrw120⟩
      ·have H := ifF hb115 H; refine WC_exit rfl ?_
       have hO : Owns _ _ _ ([⟨3, 1, ns109_0, .slice as109_0 ns109_0 cs109_0, clas109_0⟩, zt 173 64 b8 s109.2.2.1, zt 173 64 b5 s109.2.2.2]) := hO
       cases H
       have hres := hqq111 _ rfl
       subst hres
       exact ⟨_, G114, as109_0, ns109_0, cs109_0, clas109_0, zu _ _ ⟨rfl, rfl, rfl, rfl, rfl, trivial⟩, leG114, hS, hO, hnhs109_0, hs109_0⟩
    ·rintro F w121 ⟨Fb, G122, aq111_0, nq111_0, cq111_0, claq111_0, rfl, leG122, hS, hO, hnhq111_0, hq111_0⟩
     refine zQ (zR (zV (zm (v := (.slice aq111_0 nq111_0 cq111_0)) rfl) rfl ?_))
     refine zO rfl (OpP_newF (v := fun b => .slice (some ⟨b, 0, none⟩) 1 1) (cs := [iV 7]) (e := 3) (by kernel_rfl) hS.sat rfl (fun b123 G125 w124 hg hcb123 => ?_))
     have hS := hS.grow hg; have hO := hO.grow hg
     have leG125 := hg.le
     have hfb123 : RSl RInt 1 G125 (some ⟨b123, 0, none⟩) 1 1 [7] := RSl.of_rd hcb123 (Rd.cons (c := [iV 7]) rfl rfl (Rd.nil RInt 1 _)) rfl (by decide)
     obtain ⟨y126, hy126, H⟩ := bnd H; refine zO rfl (OpP_append (k := 0) sl24 RInt_one hS hO rfl hnhq111_0 (hq111_0.mono RInt_mono leG125) hfb123 hy126 rfl rfl rfl rfl rfl (fun aw127 cw127 w127 clw127 hS hO hrw127 => ?_))
     have hO : Owns _ _ _ ([⟨3, 1, y126.length, .slice aw127 y126.length cw127, clw127⟩, zt 173 64 b8 q111.2.1, zt 173 64 b5 q111.2.2]) := hO
     refine zV (zA (v := (.slice aw127 y126.length cw127)) rfl) rfl (zN (zQ (WC_label (zQ (zQ (zR ?_)))))); refine wr 3 rfl ?_; refine zN ?_; obtain ⟨q130, hq130, H⟩ := bnd H; refine zM (fun F w => ∃ (p129 : (Tb 64) × (Tb 64)) (Fb : Fr) (G : Gm), q130 = .inl p129 ∧ F = upds Fb [(4, pV b5), (6, pV b8)] ∧ Gle G125 G ∧ SO G0 w0 G w [⟨3, 1, y126.length, .slice aw127 y126.length cw127, clw127⟩, zt 173 64 b8 p129.1, zt 173 64 b5 p129.2]) ?_ ?_
     ·refine zb (WC_loop hq130 (fun s128 F w => ∃ (Fb : Fr) (G : Gm), F = upds Fb [(4, pV b5), (6, pV b8), (9, .func (.func 209) ([] : List Value).toArray ([pV b8] : List Value).toArray), (14, .slice aw127 y126.length cw127), (118, iV (IntKind.i64.wrap ((IntKind.i64.wrap ((x0.Events.length : Int) + 1)) + 1))), (119, iV s128.1)] ∧ Gle G125 G ∧ SO G0 w0 G w [⟨3, 1, y126.length, .slice aw127 y126.length cw127, clw127⟩, zt 173 64 b8 s128.2.1, zt 173 64 b5 s128.2.2]) ?_ ?_)
      ·have hO : Owns _ _ _ ([⟨3, 1, y126.length, .slice aw127 y126.length cw127, clw127⟩, zt 173 64 b8 q111.2.1, zt 173 64 b5 q111.2.2]) := hO
       exact ⟨_, G125, zu _ _ ⟨rfl, rfl, rfl, rfl, rfl, rfl, trivial⟩, Gle.refl _, hS, hO⟩
      ·rintro s128 F w132 t131 ⟨Fb, G133, rfl, leG133, hS, hO⟩
       intro H1 hqq130
       have Hoq130 := H; have H := H1
       unfold f160_b5 at H
       refine zQ (zR (zV (zl rfl rfl) rfl (zN (zQ (zT rfl (fun hb134 => ?_) (fun hb134 => ?_))))))
       ·have H := ifT hb134 H; refine zP (zQ (zb (zQ (zR (zV (zA (v := (.bool false)) rfl) rfl (zN (zQ (zQ (zR (WL_run tabH (cells0 _) 3 [_] rfl rfl (ao rfl an) (zN ?_))))))))))); obtain ⟨q137, hq137, H⟩ := bnd H; refine zM (fun F w => ∃ (Fb : Fr) (G : Gm), F = upds Fb [(4, pV b5), (6, pV b8), (9, .func (.func 209) ([] : List Value).toArray ([pV b8] : List Value).toArray), (14, .slice aw127 y126.length cw127), (16, .bool q137.1), (118, iV (IntKind.i64.wrap ((IntKind.i64.wrap ((x0.Events.length : Int) + 1)) + 1))), (119, iV s128.1)] ∧ Gle G133 G ∧ SO G0 w0 G w [⟨3, 1, y126.length, .slice aw127 y126.length cw127, clw127⟩, zt 173 64 b8 q137.2.1, zt 173 64 b5 q137.2.2]) ?_ ?_
        ·refine zb (WC_loop hq137 (fun s135 F w => ∃ (Fb : Fr) (G : Gm), F = upds Fb [(4, pV b5), (6, pV b8), (9, .func (.func 209) ([] : List Value).toArray ([pV b8] : List Value).toArray), (14, .slice aw127 y126.length cw127), (16, .bool s135.1), (118, iV (IntKind.i64.wrap ((IntKind.i64.wrap ((x0.Events.length : Int) + 1)) + 1))), (119, iV s128.1), (121, .slice aw127 y126.length cw127), (122, iV (y126.length : Int)), (123, iV s135.2.1)] ∧ Gle G133 G ∧ SO G0 w0 G w [⟨3, 1, y126.length, .slice aw127 y126.length cw127, clw127⟩, zt 173 64 b8 s135.2.2.1, zt 173 64 b5 s135.2.2.2]) ?_ ?_)
         ·have hO : Owns _ _ _ ([⟨3, 1, y126.length, .slice aw127 y126.length cw127, clw127⟩, zt 173 64 b8 s128.2.1, zt 173 64 b5 s128.2.2]) := hO
          exact ⟨_, G133, zu _ _ ⟨rfl, rfl, rfl, rfl, rfl, rfl, rfl, rfl, rfl, rfl, trivial⟩, Gle.refl _, hS, hO⟩
         ·rintro s135 F w139 t138 ⟨Fb, G140, rfl, leG140, hS, hO⟩
          intro H1 hqq137
          have Hoq137 := H; have H := H1
          unfold f160_b6 at H
          refine zQ (zR (zV (zl rfl rfl) rfl (zN (zQ (zT rfl (fun hb141 => ?_) (fun hb141 => ?_))))))
          ·have H := ifT hb141 H; refine zP (zQ (zb (zQ (zR ?_)))); obtain ⟨y142, hy142, H⟩ := bnd H
           have l5_7 := leG133.trans leG140
           refine WL_idxO sl24 hO (k := 0) rfl rfl (hrw127.mono RInt_mono l5_7) hy142 rfl rfl rfl ?_
           rintro b143 ob143 _ hb143 _ hcb143 ⟨⟩
           refine zV (zL na3 rfl (own_cellB hO (k := 0) rfl hb143 _ 0 (hcb143 0 _ rfl))) rfl (zV (zA (v := (iV y142)) rfl) rfl (zN (zQ (zR (WL_run tabH (cells0 _) 3 [_] rfl rfl (ao rfl an) (zN ?_)))))); obtain ⟨q146, hq146, H⟩ := bnd H; refine zM (fun F w => ∃ (Fb : Fr) (G : Gm), F = upds Fb [(4, pV b5), (6, pV b8), (9, .func (.func 209) ([] : List Value).toArray ([pV b8] : List Value).toArray), (14, .slice aw127 y126.length cw127), (16, .bool q146.1), (118, iV (IntKind.i64.wrap ((IntKind.i64.wrap ((x0.Events.length : Int) + 1)) + 1))), (119, iV s128.1), (121, .slice aw127 y126.length cw127), (122, iV (y126.length : Int)), (123, iV s135.2.1)] ∧ Gle G140 G ∧ SO G0 w0 G w [⟨3, 1, y126.length, .slice aw127 y126.length cw127, clw127⟩, zt 173 64 b8 q146.2.1, zt 173 64 b5 q146.2.2]) ?_ ?_
           ·refine zb (WC_loop hq146 (fun s144 F w => ∃ (Fb : Fr) (G : Gm), F = upds Fb [(4, pV b5), (6, pV b8), (9, .func (.func 209) ([] : List Value).toArray ([pV b8] : List Value).toArray), (14, .slice aw127 y126.length cw127), (16, .bool s144.1), (18, iV y142), (118, iV (IntKind.i64.wrap ((IntKind.i64.wrap ((x0.Events.length : Int) + 1)) + 1))), (119, iV s128.1), (121, .slice aw127 y126.length cw127), (122, iV (y126.length : Int)), (123, iV s135.2.1), (127, .slice aw127 y126.length cw127), (128, iV (y126.length : Int)), (129, iV s144.2.1)] ∧ Gle G140 G ∧ SO G0 w0 G w [⟨3, 1, y126.length, .slice aw127 y126.length cw127, clw127⟩, zt 173 64 b8 s144.2.2.1, zt 173 64 b5 s144.2.2.2]) ?_ ?_)
            ·have hO : Owns _ _ _ ([⟨3, 1, y126.length, .slice aw127 y126.length cw127, clw127⟩, zt 173 64 b8 s135.2.2.1, zt 173 64 b5 s135.2.2.2]) := hO
             exact ⟨_, G140, zu _ _ ⟨rfl, rfl, rfl, rfl, rfl, rfl, rfl, rfl, rfl, rfl, rfl, rfl, rfl, rfl, trivial⟩, Gle.refl _, hS, hO⟩
            ·rintro s144 F w148 t147 ⟨Fb, G149, rfl, leG149, hS, hO⟩
             intro H1 hqq146
             have Hoq146 := H; have H := H1
             unfold f160_b7 at H
             refine zQ (zR (zV (zl rfl rfl) rfl (zN (zQ (zT rfl (fun hb150 => ?_) (fun hb150 => ?_))))))
             ·have H := ifT hb150 H; refine zP (zQ (zb (zQ (zR ?_)))); obtain ⟨y151, hy151, H⟩ := bnd H
              have l5_8 := l5_7.trans leG149
              refine WL_idxO sl24 hO (k := 0) rfl rfl (hrw127.mono RInt_mono l5_8) hy151 rfl rfl rfl ?_
              rintro b152 ob152 _ hb152 _ hcb152 ⟨⟩
              refine zV (zL na3 rfl (own_cellB hO (k := 0) rfl hb152 _ 0 (hcb152 0 _ rfl))) rfl (zV (zA (v := (iV y151)) rfl) rfl (zN (zQ (zR (WL_run tabH (cells0 _) 3 [_] rfl rfl (ao rfl an) (zN ?_)))))); obtain ⟨q155, hq155, H⟩ := bnd H; refine zM (fun F w => ∃ (Fb : Fr) (G : Gm), F = upds Fb [(4, pV b5), (6, pV b8), (9, .func (.func 209) ([] : List Value).toArray ([pV b8] : List Value).toArray), (14, .slice aw127 y126.length cw127), (16, .bool q155.1), (18, iV y142), (118, iV (IntKind.i64.wrap ((IntKind.i64.wrap ((x0.Events.length : Int) + 1)) + 1))), (119, iV s128.1), (121, .slice aw127 y126.length cw127), (122, iV (y126.length : Int)), (123, iV s135.2.1), (127, .slice aw127 y126.length cw127), (128, iV (y126.length : Int)), (129, iV s144.2.1)] ∧ Gle G149 G ∧ SO G0 w0 G w [⟨3, 1, y126.length, .slice aw127 y126.length cw127, clw127⟩, zt 173 64 b8 q155.2.1, zt 173 64 b5 q155.2.2]) ?_ ?_
              ·refine zb (WC_loop hq155 (fun s153 F w => ∃ (Fb : Fr) (G : Gm), F = upds Fb [(4, pV b5), (6, pV b8), (9, .func (.func 209) ([] : List Value).toArray ([pV b8] : List Value).toArray), (14, .slice aw127 y126.length cw127), (16, .bool s153.1), (18, iV y142), (20, iV y151), (118, iV (IntKind.i64.wrap ((IntKind.i64.wrap ((x0.Events.length : Int) + 1)) + 1))), (119, iV s128.1), (121, .slice aw127 y126.length cw127), (122, iV (y126.length : Int)), (123, iV s135.2.1), (127, .slice aw127 y126.length cw127), (128, iV (y126.length : Int)), (129, iV s144.2.1), (133, .slice aw127 y126.length cw127), (134, iV (y126.length : Int)), (135, iV s153.2.1)] ∧ Gle G149 G ∧ SO G0 w0 G w [⟨3, 1, y126.length, .slice aw127 y126.length cw127, clw127⟩, zt 173 64 b8 s153.2.2.1, zt 173 64 b5 s153.2.2.2]) ?_ ?_)
               ·have hO : Owns _ _ _ ([⟨3, 1, y126.length, .slice aw127 y126.length cw127, clw127⟩, zt 173 64 b8 s144.2.2.1, zt 173 64 b5 s144.2.2.2]) := hO
                exact ⟨_, G149, zu _ _ ⟨rfl, rfl, rfl, rfl, rfl, rfl, rfl, rfl, rfl, rfl, rfl, rfl, rfl, rfl, rfl, rfl, rfl, rfl, trivial⟩, Gle.refl _, hS, hO⟩
               ·rintro s153 F w157 t156 ⟨Fb, G158, rfl, leG158, hS, hO⟩
                intro H1 hqq155
                have Hoq155 := H; have H := H1
                unfold f160_b8 at H
                refine zQ (zR (zV (zl rfl rfl) rfl (zN (zQ (zT rfl (fun hb159 => ?_) (fun hb159 => ?_))))))
                ·have H := ifT hb159 H; refine zP (zQ ?_); obtain ⟨q160, hq160, H⟩ := bnd H; refine zM (fun F w => ∃ (Fb : Fr) (G : Gm), F = upds Fb [(4, pV b5), (6, pV b8), (9, .func (.func 209) ([] : List Value).toArray ([pV b8] : List Value).toArray), (14, .slice aw127 y126.length cw127), (16, .bool q160.1), (18, iV y142), (20, iV y151), (118, iV (IntKind.i64.wrap ((IntKind.i64.wrap ((x0.Events.length : Int) + 1)) + 1))), (119, iV s128.1), (121, .slice aw127 y126.length cw127), (122, iV (y126.length : Int)), (123, iV s135.2.1), (127, .slice aw127 y126.length cw127), (128, iV (y126.length : Int)), (129, iV s144.2.1), (133, .slice aw127 y126.length cw127), (134, iV (y126.length : Int)), (135, iV s153.2.1)] ∧ Gle G158 G ∧ SO G0 w0 G w [⟨3, 1, y126.length, .slice aw127 y126.length cw127, clw127⟩, zt 173 64 b8 q160.2, zt 173 64 b5 s153.2.2.2]) ?_ ?_
                 ·have Hoq160 := H; have H := hq160; refine zb (zQ (zR ?_)); obtain ⟨y161, hy161, H⟩ := bnd H
                  have l5_9 := l5_8.trans leG158
                  refine WL_idxO sl24 hO (k := 0) rfl rfl (hrw127.mono RInt_mono l5_9) hy161 rfl rfl rfl ?_
                  rintro b162 ob162 _ hb162 _ hcb162 ⟨⟩
                  refine zV (zL na3 rfl (own_cellB hO (k := 0) rfl hb162 _ 0 (hcb162 0 _ rfl))) rfl (zV (zA (v := (iV y161)) rfl) rfl (zN (zQ ?_))); obtain ⟨q163, hq163, H⟩ := bnd H; refine zM (fun F w => ∃ (Fb : Fr) (G : Gm), F = upds Fb [(4, pV b5), (6, pV b8), (9, .func (.func 209) ([] : List Value).toArray ([pV b8] : List Value).toArray), (14, .slice aw127 y126.length cw127), (16, .bool s153.1), (18, iV y142), (20, iV y151), (118, iV (IntKind.i64.wrap ((IntKind.i64.wrap ((x0.Events.length : Int) + 1)) + 1))), (119, iV s128.1), (121, .slice aw127 y126.length cw127), (122, iV (y126.length : Int)), (123, iV s135.2.1), (127, .slice aw127 y126.length cw127), (128, iV (y126.length : Int)), (129, iV s144.2.1), (133, .slice aw127 y126.length cw127), (134, iV (y126.length : Int)), (135, iV s153.2.1), (153, .bool q163.1)] ∧ Gle G158 G ∧ SO G0 w0 G w [⟨3, 1, y126.length, .slice aw127 y126.length cw127, clw127⟩, zt 173 64 b8 q163.2, zt 173 64 b5 s153.2.2.2]) ?_ ?_
                  ·have Hoq163 := H; have H := hq163; have hS := hS.keep (below_drew _); have hO := hO.below (below_drew _)
                   refine WC_regionD mixedO (fun _ w => Sat G158 w ∧ Owns G158 w w0.heap.size [⟨3, 1, y126.length, .slice aw127 y126.length cw127, clw127⟩, zt 173 64 b8 s153.2.2.1, zt 173 64 b5 s153.2.2.2]) (.fl 0 (.fl 1 (.fl 2 (.fl 3 (.fl 4 (.fl 5 (.fl 6 (.fl 7 (.fl 8 (.fl 9 (.on 10 (.on 11 (.on 12 (.on 13 (.on 14 .nil))))))))))))))) (by kernel_rfl) rfl (by kernel_rfl) (fun _ => ⟨hS.sat, hO⟩) ?_
                   refine zD rfl (fun w hw => zm (v := (.func (.func 209) ([] : List Value).toArray ([pV b8] : List Value).toArray)) rfl) rfl (zD rfl (fun w hw => zm (v := (iV y151)) rfl) rfl (zD rfl (fun w hw => zm (v := (iV y161)) rfl) rfl (zD rfl (fun w hw => zm (v := (iV y151)) rfl) rfl (zD rfl (fun w hw => zm (v := (iV y142)) rfl) rfl ?_)))); obtain ⟨j164, hj164, H⟩ := bnd H; refine zD rfl (fun w hw => rn_idxA ar173 rfl rfl hj164) rfl ?_; obtain ⟨j165, hj165, H⟩ := bnd H
                   have hl166 : 0 + j164 * 8 + j165 * 1 < 64 := by have := (ckI_some hj164).2; have := (ckI_some hj165).2; omega
                   refine zD rfl (fun w hw => rn_idxA ar171 rfl rfl hj165) rfl (zD rfl (fun w hw => zL na3 rfl (tab_cell hw.2 (k := 1) rfl hl166)) rfl (zD rfl (fun w hw => zm (v := (iV y142)) rfl) rfl (zD rfl (fun w hw => zm (v := (iV y161)) rfl) rfl ?_))); obtain ⟨j167, hj167, H⟩ := bnd H; refine zE rfl rfl (OpP_val (rn_idxA ar173 rfl rfl hj167) rfl ?_); refine ⟨fun _ _ => ⟨hS.sat, hO⟩, ?_⟩; obtain ⟨j168, hj168, H⟩ := bnd H
                   have hl169 : 0 + j167 * 8 + j168 * 1 < 64 := by have := (ckI_some hj167).2; have := (ckI_some hj168).2; omega
                   refine zE rfl rfl (OpP_val (rn_idxA ar171 rfl rfl hj168) rfl ?_); refine ⟨fun _ _ => ⟨hS.sat, hO⟩, ?_⟩; refine zE rfl rfl (OpP_val (zL na3 rfl (tab_cell hO (k := 1) rfl hl169)) rfl ?_); refine ⟨fun _ _ => ⟨hS.sat, hO⟩, ?_⟩; refine zE rfl rfl (OpP_val (rn_add rfl rfl) rfl ?_); refine ⟨fun _ _ => ⟨hS.sat, hO⟩, ?_⟩; refine zE rfl rfl (OpP_inC1 (N' := 20) (fi := []) (al := [iV y151, iV y161, iV (IntKind.i64.wrap ((tget s153.2.2.1 (0 + j164 * 8 + j165 * 1)) + (tget s153.2.2.1 (0 + j167 * 8 + j168 * 1))))]) (ca := [pV b8]) cb209 Tryz.func209 rfl rfl rfl rfl rfl rfl rfl ?_); refine zQ (zR (zV (zA (v := (.bool false)) rfl) rfl (zN (zQ (zQ (zR ?_)))))); refine wr 3 rfl ?_; obtain ⟨j170, hj170, H⟩ := bnd H; refine zV (rn_idxA ar173 rfl rfl hj170) rfl ?_; obtain ⟨j171, hj171, H⟩ := bnd H
                   have hl172 : 0 + j170 * 8 + j171 * 1 < 64 := by have := (ckI_some hj170).2; have := (ckI_some hj171).2; omega
                   refine zV (rn_idxA ar171 rfl rfl hj171) rfl (zV (zL na3 rfl (tab_cell hO (k := 1) rfl hl172)) rfl (zV (rn_geq rfl rfl) rfl (zN (zT rfl (fun hb173 => ?_) (fun hb173 => ?_)))))
                   ·have H := ifT hb173 H; refine zQ (zR (zV (zA (v := (.bool false)) rfl) rfl (zN (zr ?_)))); refine ⟨(.bool false), rfl, ?_⟩
                    have hO : Owns _ _ _ ([⟨3, 1, y126.length, .slice aw127 y126.length cw127, clw127⟩, zt 173 64 b8 s153.2.2.1, zt 173 64 b5 s153.2.2.2]) := hO
                    refine ⟨fun _ h => noneed (by kernel_rfl) h, ?_⟩
                    refine zI ?_
                    have hO : Owns _ _ _ ([⟨3, 1, y126.length, .slice aw127 y126.length cw127, clw127⟩, zt 173 64 b8 s153.2.2.1, zt 173 64 b5 s153.2.2.2]) := hO
                    cases H
                    exact ⟨_, G158, zu _ _ ⟨rfl, rfl, rfl, rfl, rfl, rfl, rfl, rfl, rfl, rfl, rfl, rfl, rfl, rfl, rfl, rfl, rfl, rfl, rfl, trivial⟩, Gle.refl _, hS, hO⟩
                   ·have H := ifF hb173 H; refine zP (zQ (zR ?_)); refine wr 3 rfl ?_; obtain ⟨j174, hj174, H⟩ := bnd H; refine zV (rn_idxA ar173 rfl rfl hj174) rfl ?_; obtain ⟨j175, hj175, H⟩ := bnd H
                    have hl176 : 0 + j174 * 8 + j175 * 1 < 64 := by have := (ckI_some hj174).2; have := (ckI_some hj175).2; omega
                    refine zV (rn_idxA ar171 rfl rfl hj175) rfl (zO rfl (OpP_storeT sz3 hS hO (k := 1) rfl rfl rfl hl176 (fun w177 hS hO => ?_)))
                    have hO : Owns _ _ _ ([⟨3, 1, y126.length, .slice aw127 y126.length cw127, clw127⟩, zt 173 64 b8 (tset s153.2.2.1 (0 + j174 * 8 + j175 * 1) (IntKind.i64.wrap ((tget s153.2.2.1 (0 + j164 * 8 + j165 * 1)) + (tget s153.2.2.1 (0 + j167 * 8 + j168 * 1))))), zt 173 64 b5 s153.2.2.2]) := hO
                    refine zN (zQ (zR (zV (zA (v := (.bool true)) rfl) rfl (zN (zr ?_))))); refine ⟨(.bool true), rfl, ?_⟩
                    have hO : Owns _ _ _ ([⟨3, 1, y126.length, .slice aw127 y126.length cw127, clw127⟩, zt 173 64 b8 (tset s153.2.2.1 (0 + j174 * 8 + j175 * 1) (IntKind.i64.wrap ((tget s153.2.2.1 (0 + j164 * 8 + j165 * 1)) + (tget s153.2.2.1 (0 + j167 * 8 + j168 * 1))))), zt 173 64 b5 s153.2.2.2]) := hO
                    refine ⟨fun _ h => noneed (by kernel_rfl) h, ?_⟩
                    refine zI ?_
                    have hO : Owns _ _ _ ([⟨3, 1, y126.length, .slice aw127 y126.length cw127, clw127⟩, zt 173 64 b8 (tset s153.2.2.1 (0 + j174 * 8 + j175 * 1) (IntKind.i64.wrap ((tget s153.2.2.1 (0 + j164 * 8 + j165 * 1)) + (tget s153.2.2.1 (0 + j167 * 8 + j168 * 1))))), zt 173 64 b5 s153.2.2.2]) := hO
                    cases H
                    exact ⟨_, G158, zu _ _ ⟨rfl, rfl, rfl, rfl, rfl, rfl, rfl, rfl, rfl, rfl, rfl, rfl, rfl, rfl, rfl, rfl, rfl, rfl, rfl, trivial⟩, Gle.refl _, hS, hO⟩
                  ·rintro F w178 ⟨Fb, G179, rfl, leG179, hS, hO⟩
                   refine zT rfl (fun hb180 => ?_) (fun hb180 => ?_)
                   ·have H := ifT hb180 H; refine zR (zV (zA (v := (.bool true)) rfl) rfl (zN ?_))
                    have hO : Owns _ _ _ ([⟨3, 1, y126.length, .slice aw127 y126.length cw127, clw127⟩, zt 173 64 b8 q163.2, zt 173 64 b5 s153.2.2.2]) := hO
                    cases H
                    exact ⟨_, G179, zu _ _ ⟨rfl, rfl, rfl, rfl, rfl, rfl, rfl, rfl, rfl, rfl, rfl, rfl, rfl, rfl, rfl, rfl, rfl, rfl, trivial⟩, leG179, hS, hO⟩
                   ·have H := ifF hb180 H; refine zP ?_
                    have hO : Owns _ _ _ ([⟨3, 1, y126.length, .slice aw127 y126.length cw127, clw127⟩, zt 173 64 b8 q163.2, zt 173 64 b5 s153.2.2.2]) := hO
                    cases H
                    exact ⟨_, G179, zu _ _ ⟨rfl, rfl, rfl, rfl, rfl, rfl, rfl, rfl, rfl, rfl, rfl, rfl, rfl, rfl, rfl, rfl, rfl, rfl, trivial⟩, leG179, hS, hO⟩
                 ·rintro F w181 ⟨Fb, G182, rfl, leG182, hS, hO⟩
                  refine zR ?_; refine wr 2 rfl ?_; refine zN ?_
                  have hO : Owns _ _ _ ([⟨3, 1, y126.length, .slice aw127 y126.length cw127, clw127⟩, zt 173 64 b8 q160.2, zt 173 64 b5 s153.2.2.2]) := hO
                  cases H; refine ⟨_, rfl, ?_⟩
                  have l8_10 := leG158.trans leG182
                  exact ⟨_, G182, zu _ _ ⟨rfl, rfl, rfl, rfl, rfl, rfl, rfl, rfl, rfl, rfl, rfl, rfl, rfl, rfl, rfl, rfl, rfl, rfl, trivial⟩, l8_10, hS, hO⟩
                ·have H := ifF hb159 H; refine WC_exit rfl ?_
                 have hO : Owns _ _ _ ([⟨3, 1, y126.length, .slice aw127 y126.length cw127, clw127⟩, zt 173 64 b8 s153.2.2.1, zt 173 64 b5 s153.2.2.2]) := hO
                 cases H
                 have hres := hqq155 _ rfl
                 subst hres
                 exact ⟨_, G158, zu _ _ ⟨rfl, rfl, rfl, rfl, rfl, rfl, rfl, rfl, rfl, rfl, rfl, rfl, rfl, rfl, trivial⟩, leG158, hS, hO⟩
              ·rintro F w183 ⟨Fb, G184, rfl, leG184, hS, hO⟩
               refine zR ?_; refine wr 2 rfl ?_; refine zN ?_
               have hO : Owns _ _ _ ([⟨3, 1, y126.length, .slice aw127 y126.length cw127, clw127⟩, zt 173 64 b8 q155.2.1, zt 173 64 b5 q155.2.2]) := hO
               cases H; refine ⟨_, rfl, ?_⟩
               have l7_9 := leG149.trans leG184
               exact ⟨_, G184, zu _ _ ⟨rfl, rfl, rfl, rfl, rfl, rfl, rfl, rfl, rfl, rfl, rfl, rfl, rfl, rfl, trivial⟩, l7_9, hS, hO⟩
             ·have H := ifF hb150 H; refine WC_exit rfl ?_
              have hO : Owns _ _ _ ([⟨3, 1, y126.length, .slice aw127 y126.length cw127, clw127⟩, zt 173 64 b8 s144.2.2.1, zt 173 64 b5 s144.2.2.2]) := hO
              cases H
              have hres := hqq146 _ rfl
              subst hres
              exact ⟨_, G149, zu _ _ ⟨rfl, rfl, rfl, rfl, rfl, rfl, rfl, rfl, rfl, rfl, trivial⟩, leG149, hS, hO⟩
           ·rintro F w185 ⟨Fb, G186, rfl, leG186, hS, hO⟩
            refine zR ?_; refine wr 2 rfl ?_; refine zN ?_
            have hO : Owns _ _ _ ([⟨3, 1, y126.length, .slice aw127 y126.length cw127, clw127⟩, zt 173 64 b8 q146.2.1, zt 173 64 b5 q146.2.2]) := hO
            cases H; refine ⟨_, rfl, ?_⟩
            have l6_8 := leG140.trans leG186
            exact ⟨_, G186, zu _ _ ⟨rfl, rfl, rfl, rfl, rfl, rfl, rfl, rfl, rfl, rfl, trivial⟩, l6_8, hS, hO⟩
          ·have H := ifF hb141 H; refine WC_exit rfl ?_
           have hO : Owns _ _ _ ([⟨3, 1, y126.length, .slice aw127 y126.length cw127, clw127⟩, zt 173 64 b8 s135.2.2.1, zt 173 64 b5 s135.2.2.2]) := hO
           cases H
           have hres := hqq137 _ rfl
           subst hres
           exact ⟨_, G140, zu _ _ ⟨rfl, rfl, rfl, rfl, rfl, rfl, rfl, trivial⟩, leG140, hS, hO⟩
        ·rintro F w187 ⟨Fb, G188, rfl, leG188, hS, hO⟩
         refine zQ (zQ (zR (WL_run tabH (cells0 _) 3 [_] rfl rfl (ao rfl an) (zN ?_)))); obtain ⟨q191, hq191, H⟩ := bnd H; refine zM (fun F w => ∃ (p190 : Unit) (Fb : Fr), q191 = .inl p190 ∧ F = upds Fb [(4, pV b5), (6, pV b8), (9, .func (.func 209) ([] : List Value).toArray ([pV b8] : List Value).toArray), (14, .slice aw127 y126.length cw127), (16, .bool q137.1), (118, iV (IntKind.i64.wrap ((IntKind.i64.wrap ((x0.Events.length : Int) + 1)) + 1))), (119, iV s128.1)] ∧ w187 = w) ?_ ?_
         ·refine zb (WC_loop hq191 (fun s189 F w => ∃ (Fb : Fr), F = upds Fb [(4, pV b5), (6, pV b8), (9, .func (.func 209) ([] : List Value).toArray ([pV b8] : List Value).toArray), (14, .slice aw127 y126.length cw127), (16, .bool q137.1), (118, iV (IntKind.i64.wrap ((IntKind.i64.wrap ((x0.Events.length : Int) + 1)) + 1))), (119, iV s128.1), (157, .slice aw127 y126.length cw127), (158, iV (y126.length : Int)), (159, iV s189)] ∧ w187 = w) ?_ ?_)
          ·exact ⟨_, zu _ _ ⟨rfl, rfl, rfl, rfl, rfl, rfl, rfl, rfl, rfl, rfl, trivial⟩, rfl⟩
          ·rintro s189 F wl t192 ⟨Fb, rfl, rfl⟩
           intro H1 hqq191
           have Hoq191 := H; have H := H1
           unfold f160_b9 at H
           refine zQ (zR (zV (zl rfl rfl) rfl (zN (zQ (zT rfl (fun hb195 => ?_) (fun hb195 => ?_))))))
           ·have H := ifT hb195 H; refine zP (zQ (zb (zQ (zR ?_)))); obtain ⟨y196, hy196, H⟩ := bnd H
            have l5_7 := leG133.trans leG188
            refine WL_idxO sl24 hO (k := 0) rfl rfl (hrw127.mono RInt_mono l5_7) hy196 rfl rfl rfl ?_
            rintro b197 ob197 _ hb197 _ hcb197 ⟨⟩
            refine zV (zL na3 rfl (own_cellB hO (k := 0) rfl hb197 _ 0 (hcb197 0 _ rfl))) rfl (zV (zA (v := (iV y196)) rfl) rfl (zN (zQ (zR ?_)))); refine wr 2 rfl ?_; obtain ⟨j198, hj198, H⟩ := bnd H; refine zV (rn_idxA ar173 rfl rfl hj198) rfl ?_; obtain ⟨j199, hj199, H⟩ := bnd H
            have hl200 : 0 + j198 * 8 + j199 * 1 < 64 := by have := (ckI_some hj198).2; have := (ckI_some hj199).2; omega
            refine zV (rn_idxA ar171 rfl rfl hj199) rfl (zV (zL na3 rfl (tab_cell hO (k := 1) rfl hl200)) rfl (zV (zl rfl rfl) rfl (zN (zT rfl (fun hb201 => ?_) (fun hb201 => ?_)))))
            ·have H := ifT hb201 H; refine zQ (zR ?_)
             refine zV (v := (.agg (cellsT (Tb.zero 64)).toArray)) (by kernel_rfl) rfl ?_
             refine zO rfl (OpP_storeTT sz173 hS hO (k := 2) rfl rfl rfl (fun w202 hS hO => ?_))
             have hO : Owns _ _ _ ([⟨3, 1, y126.length, .slice aw127 y126.length cw127, clw127⟩, zt 173 64 b8 q137.2.1, zt 173 64 b5 (Tb.zero 64)]) := hO
             refine zV (zA (v := (.bool false)) rfl) rfl (zN (zr ?_)); cases H
             have hres := hqq191 _ rfl
             subst hres; have H := Hoq191; cases H
             have hres := hqq130 _ rfl
             subst hres; have H := Hoq130
             have H : some (Tb.zero 64, false) = some r := H
             cases H
             exact ⟨[.agg (cellsT (Tb.zero 64)).toArray, .bool false], ⟨⟨_, rfl, ld_agg (cs := (cellsT (Tb.zero 64))) ag173 (cellsT_len _) (fun j v hj => by rw [Nat.zero_add]; exact own_cell hO (k := 2) rfl hj)⟩, rfl, trivial⟩, ⟨rfl, hS.below⟩⟩
            ·have H := ifF hb201 H; refine zP (zR ?_); refine wr 2 rfl ?_; refine zN ?_; cases H; refine ⟨_, rfl, ?_⟩
             exact ⟨_, zu _ _ ⟨rfl, rfl, rfl, rfl, rfl, rfl, rfl, rfl, rfl, rfl, trivial⟩, rfl⟩
           ·have H := ifF hb195 H; refine WC_exit rfl ?_; cases H
            have hres := hqq191 _ rfl
            subst hres
            exact ⟨_, _, rfl, zu _ _ ⟨rfl, rfl, rfl, rfl, rfl, rfl, rfl, trivial⟩, rfl⟩
         ·rintro F wl ⟨p190, Fb, rfl, rfl, rfl⟩
          refine zQ (zR ?_); refine wr 2 rfl ?_; refine zN (zT rfl (fun hb205 => ?_) (fun hb205 => ?_))
          ·have H := ifT hb205 H; refine WC_exit rfl ?_
           have hO : Owns _ _ _ ([⟨3, 1, y126.length, .slice aw127 y126.length cw127, clw127⟩, zt 173 64 b8 q137.2.1, zt 173 64 b5 q137.2.2]) := hO
           cases H
           have hres := hqq130 _ rfl
           subst hres
           have l5_7 := leG133.trans leG188
           exact ⟨_, _, G188, rfl, zu _ _ ⟨rfl, rfl, trivial⟩, l5_7, hS, hO⟩
          ·have H := ifF hb205 H; refine zP (zR ?_); refine wr 2 rfl ?_; refine zN ?_
           have hO : Owns _ _ _ ([⟨3, 1, y126.length, .slice aw127 y126.length cw127, clw127⟩, zt 173 64 b8 q137.2.1, zt 173 64 b5 q137.2.2]) := hO
           cases H; refine ⟨_, rfl, ?_⟩
           have l5_7 := leG133.trans leG188
           exact ⟨_, G188, zu _ _ ⟨rfl, rfl, rfl, rfl, rfl, rfl, trivial⟩, l5_7, hS, hO⟩
       ·have H := ifF hb134 H; refine WC_exit rfl ?_
        have hO : Owns _ _ _ ([⟨3, 1, y126.length, .slice aw127 y126.length cw127, clw127⟩, zt 173 64 b8 s128.2.1, zt 173 64 b5 s128.2.2]) := hO
        cases H
        have hres := hqq130 _ rfl
        subst hres
        exact ⟨_, _, G133, rfl, zu _ _ ⟨rfl, rfl, trivial⟩, leG133, hS, hO⟩
     ·rintro F w207 ⟨p129, Fb, G208, rfl, rfl, leG208, hS, hO⟩
      refine zQ (zR (zV (rn_loadT ag173 hO (k := 1) rfl rfl) rfl (zO rfl (OpP_storeTT sz173 hS hO (k := 2) rfl rfl rfl (fun w209 hS hO => ?_)))))
      have hO : Owns _ _ _ ([⟨3, 1, y126.length, .slice aw127 y126.length cw127, clw127⟩, zt 173 64 b8 p129.1, zt 173 64 b5 p129.1]) := hO
      refine zV (zA (v := (.bool true)) rfl) rfl (zN (zr ?_))
      have H : some (p129.1, true) = some r := H
      cases H
      exact ⟨[.agg (cellsT p129.1).toArray, .bool true], ⟨⟨_, rfl, ld_agg (cs := (cellsT p129.1)) ag173 (cellsT_len _) (fun j v hj => by rw [Nat.zero_add]; exact own_cell hO (k := 2) rfl hj)⟩, rfl, trivial⟩, ⟨rfl, hS.below⟩⟩
set_option maxHeartbeats 1000000 in
theorem f161_ok {G0 : Gm} {w0 : World} (hS0 : Sat G0 w0) {x0 : TLandBook} {bq0 : Nat} {rm4 : Nat} {a1 : Option Addr} {n1 c1 : Nat} {a2 : Option Addr} {n2 c2 : Nat} {a3 : Option Addr} {n3 c3 : Nat} (hcq0 : Cells G0 bq0 0 [.slice a1 n1 c1, .slice a2 n2 c2, .slice a3 n3 c3, .map (some rm4)]) (h1 : RSl RTLandPerson 2 G0 a1 n1 c1 x0.People) (h2 : RSl RTLandEvent 2 G0 a2 n2 c2 x0.Events) (h3 : RSl RTLandMemory 4 G0 a3 n3 c3 x0.Memories) {r : Int} (H : f161 x0 = some r) :
  Calls Tryz.prog 161 #[pV bq0] w0 (RetV w0 (iV r)) := by
 have hS := Since.start hS0
 have hO := own0 G0 w0
 unfold f161 at H
 refine enter1 (N := 11) (shutV _ _) Tryz.func161 rfl rfl rfl rfl (zQ (zR (zV (zA (v := (iV 0)) rfl) rfl (zN (zQ (zR (zV (zm (v := (pV bq0)) rfl) rfl ?_)))))))
 refine zV (v := (pV bq0)) (by kernel_rfl) rfl ?_
 refine WL_run tabH (cellsW hS.sat hcq0) 4 [_] rfl rfl (ao h3.1 an) ?_; obtain ⟨y5, hy5, H⟩ := bnd H; refine zV (rn_shl rfl rfl hy5) rfl ?_; refine wr 2 rfl ?_; refine zN (zr ?_)
 have H : some (IntKind.i64.wrap (y5 - 1)) = some r := H
 cases H
 exact ⟨rfl, hS.below⟩
set_option maxHeartbeats 1000000 in
theorem f81_ok {G0 : Gm} {w0 : World} (hS0 : Sat G0 w0) {x0 : TLandBook} {a1 : Option Addr} {n1 c1 : Nat} {a2 : Option Addr} {n2 c2 : Nat} {a3 : Option Addr} {n3 c3 : Nat} {x1 : Bool} (h1 : RSl RTLandPerson 2 G0 a1 n1 c1 x0.People) (h2 : RSl RTLandEvent 2 G0 a2 n2 c2 x0.Events) (h3 : RSl RTLandMemory 4 G0 a3 n3 c3 x0.Memories) {r : (Tb 64) × Int} (H : f81 x0 x1 = some r) :
  Calls Tryz.prog 81 #[.agg #[.slice a1 n1 c1, .slice a2 n2 c2, .slice a3 n3 c3], .bool x1] w0 (RetV w0 (.tuple #[.agg (cellsT r.1).toArray, iV r.2])) := by
 have hS := Since.start hS0
 have hO := own0 G0 w0
 unfold f81 at H
 refine enterG (N := 29) (shutV _ _) [.cell 4 173, .tmp 5] Tryz.func81 rfl rfl rfl rfl ?_; refine zQ (zR (zO rfl (OpP_newF (v := fun b => pV b) (cs := [.slice a1 n1 c1, .slice a2 n2 c2, .slice a3 n3 c3]) (e := 32) (rn_boxA rfl) hS.sat rfl (fun b4 G6 w5 hg hcb4 => ?_)))); have hS := hS.grow hg; have hO := hO.grow hg
 have leG6 := hg.le
 refine zO rfl (zU (v := fun b => pV b) (cs := (cellsT (Tb.zero 64))) (e := 173) (by kernel_rfl) hS.sat hO rfl 64 1 (cellsT_len _) (by decide) (fun b7 w8 hb hO => ?_))
 have hS := hS.keep hb; refine zV (zA (v := (iV 0)) rfl) rfl (zN (zQ (zQ ?_))); obtain ⟨q10, hq10, H⟩ := bnd H; refine zM (fun F w => ∃ (Fb : Fr) (G : Gm), F = upds Fb [(2, pV b4), (4, pV b7), (14, .bool q10)] ∧ Gle G6 G ∧ SO G0 w0 G w [zt 173 64 b7 (Tb.zero 64)]) ?_ ?_
 ·have Hoq10 := H; have H := hq10; refine zR (zV (rn_loadA ag32 (cs := [.slice a1 n1 c1, .slice a2 n2 c2, .slice a3 n3 c3]) rfl rfl (fun j v hj => hS.sat.cell (hcb4.drop_take 0 3 j v hj))) rfl ?_); obtain ⟨y11, hy11, H⟩ := bnd H; refine zO rfl (zC cb79 (f79_ok (x0 := x0) hS.sat (h1.mono RTLandPerson_mono leG6) (h2.mono RTLandEvent_mono leG6) (h3.mono RTLandMemory_mono leG6) hy11) rfl rfl (fun w12 hb => ?_)); have hS := hS.keep hb; have hO := hO.below hb; refine wr 2 rfl ?_
  rcases bcases (!y11) with hb13 | hb13
  ·have H := ifT hb13 H; refine wk hb13 3 rfl rfl ?_; refine zN ?_
   have hO : Owns _ _ _ ([zt 173 64 b7 (Tb.zero 64)]) := hO
   cases H
   exact ⟨_, G6, zu _ _ ⟨rfl, rfl, rfl, trivial⟩, Gle.refl _, hS, hO⟩
  ·have H := ifF hb13 H; refine wk hb13 3 rfl rfl ?_; refine zN ?_
   have hO : Owns _ _ _ ([zt 173 64 b7 (Tb.zero 64)]) := hO
   cases H
   exact ⟨_, G6, zu _ _ ⟨rfl, rfl, rfl, trivial⟩, Gle.refl _, hS, hO⟩
 ·rintro F w14 ⟨Fb, G15, rfl, leG15, hS, hO⟩
  refine zT rfl (fun hb16 => ?_) (fun hb16 => ?_)
  ·have H := ifT hb16 H; refine zQ (zR ?_)
   refine zV (v := (.agg (cellsT (Tb.zero 64)).toArray)) (by kernel_rfl) rfl ?_
   refine zO rfl (OpP_storeTT sz173 hS hO (k := 0) rfl rfl rfl (fun w17 hS hO => ?_))
   have hO : Owns _ _ _ ([zt 173 64 b7 (Tb.zero 64)]) := hO
   refine zV (zA (v := (iV 2)) rfl) rfl (zN (zr ?_))
   have H : some (Tb.zero 64, 2) = some r := H
   cases H
   exact ⟨[.agg (cellsT (Tb.zero 64)).toArray, iV 2], ⟨⟨_, rfl, ld_agg (cs := (cellsT (Tb.zero 64))) ag173 (cellsT_len _) (fun j v hj => by rw [Nat.zero_add]; exact own_cell hO (k := 0) rfl hj)⟩, rfl, trivial⟩, ⟨rfl, hS.below⟩⟩
  ·have H := ifF hb16 H; refine zP (zQ ?_); have hS := hS.keep (below_drew _); have hO := hO.below (below_drew _)
   refine WC_regionD mixedO (fun _ w => Sat G15 w ∧ Owns G15 w w0.heap.size [zt 173 64 b7 (Tb.zero 64)]) (.fl 0 (.fl 2 (.two 1 (.two 3 (.two 4 (.two 5 (.fl 6 (.fl 7 (.fl 8 (.on 9 (.on 10 (.on 11 .nil)))))) 9 (.on 5 (.on 6 (.fl 7 (.fl 8 (.on 10 (.on 11 .nil))))))) 9 (.on 4 (.on 5 (.on 6 (.fl 7 (.fl 8 (.on 10 (.on 11 .nil)))))))) 9 (.on 3 (.on 4 (.on 5 (.on 6 (.fl 7 (.fl 8 (.on 10 (.on 11 .nil))))))))) 9 (.on 1 (.on 3 (.on 4 (.on 5 (.on 6 (.fl 7 (.fl 8 (.on 10 (.on 11 .nil)))))))))))) (by kernel_rfl) rfl (by kernel_rfl) (fun _ => ⟨hS.sat, hO⟩) ?_
   refine zD rfl (fun w hw => rn_loadA ag32 (cs := [.slice a1 n1 c1, .slice a2 n2 c2, .slice a3 n3 c3]) rfl rfl (fun j v hj => (hw.1.le leG15).cell (hcb4.drop_take 0 3 j v hj))) rfl (zD rfl (fun w hw => rn_loadA ag32 (cs := [.slice a1 n1 c1, .slice a2 n2 c2, .slice a3 n3 c3]) rfl rfl (fun j v hj => (hw.1.le leG15).cell (hcb4.drop_take 0 3 j v hj))) rfl (WD_two ?_ ?_))
   ·refine zE rfl rfl (OpP_in1 (N' := 7) [.agg #[.slice a1 n1 c1, .slice a2 n2 c2, .slice a3 n3 c3]] cb85 Tryz.func85 rfl rfl rfl rfl rfl rfl ?_); refine zQ (zR (zO rfl (OpP_newF (v := fun b => pV b) (cs := [.slice a1 n1 c1, .slice a2 n2 c2, .slice a3 n3 c3]) (e := 32) (rn_boxA rfl) hS.sat rfl (fun b18 G20 w19 hg hcb18 => ?_)))); have hS := hS.grow hg; have hO := hO.grow hg
    have leG20 := hg.le
    refine zV (zA (v := (.pointer none)) rfl) rfl (zN (zQ (zR (zV (rn_loadA ag32 (cs := [.slice a1 n1 c1, .slice a2 n2 c2, .slice a3 n3 c3]) rfl rfl (fun j v hj => hS.sat.cell (hcb18.drop_take 0 3 j v hj))) rfl (zO rfl (OpP_makeMap (e := 263) hS hO rfl (fun r21 w22 hS hO => ?_)))))))
    have hO : Owns _ _ _ ([⟨263, 2, ([] : (List (Int × Bool))).length, .map (some r21), kvs kvI vvB ([] : (List (Int × Bool)))⟩, zt 173 64 b7 (Tb.zero 64)]) := hO
    refine zV (v := (.agg #[.slice a1 n1 c1, .slice a2 n2 c2, .slice a3 n3 c3, .map (some r21)])) (by kernel_rfl) rfl ?_
    refine zO rfl (OpP_newF (v := fun b => pV b) (cs := [.slice a1 n1 c1, .slice a2 n2 c2, .slice a3 n3 c3, .map (some r21)]) (e := 268) (rn_boxA rfl) hS.sat rfl (fun b24 G26 w25 hg hcb24 => ?_)); have hS := hS.grow hg; have hO := hO.grow hg
    have leG26 := hg.le
    refine zV (zA (v := (pV b24)) rfl) rfl (zN (zr ?_)); refine ⟨(pV b24), rfl, ?_⟩
    have hO : Owns _ _ _ ([⟨263, 2, ([] : (List (Int × Bool))).length, .map (some r21), kvs kvI vvB ([] : (List (Int × Bool)))⟩, zt 173 64 b7 (Tb.zero 64)]) := hO
    have l2_4 := leG20.trans leG26
    refine ⟨fun _ _ => ⟨hS.sat.le l2_4, (hO.drop 0).le l2_4⟩, ?_⟩; refine WD_two ?_ ?_
    ·refine zE rfl rfl (OpP_in1 (N' := 7) [.agg #[.slice a1 n1 c1, .slice a2 n2 c2, .slice a3 n3 c3]] cb85 Tryz.func85 rfl rfl rfl rfl rfl rfl ?_); refine zQ (zR (zO rfl (OpP_newF (v := fun b => pV b) (cs := [.slice a1 n1 c1, .slice a2 n2 c2, .slice a3 n3 c3]) (e := 32) (rn_boxA rfl) hS.sat rfl (fun b27 G29 w28 hg hcb27 => ?_)))); have hS := hS.grow hg; have hO := hO.grow hg
     have leG29 := hg.le
     refine zV (zA (v := (.pointer none)) rfl) rfl (zN (zQ (zR (zV (rn_loadA ag32 (cs := [.slice a1 n1 c1, .slice a2 n2 c2, .slice a3 n3 c3]) rfl rfl (fun j v hj => hS.sat.cell (hcb27.drop_take 0 3 j v hj))) rfl (zO rfl (OpP_makeMap (e := 263) hS hO rfl (fun r30 w31 hS hO => ?_)))))))
     have hO : Owns _ _ _ ([⟨263, 2, ([] : (List (Int × Bool))).length, .map (some r30), kvs kvI vvB ([] : (List (Int × Bool)))⟩, ⟨263, 2, ([] : (List (Int × Bool))).length, .map (some r21), kvs kvI vvB ([] : (List (Int × Bool)))⟩, zt 173 64 b7 (Tb.zero 64)]) := hO
     refine zV (v := (.agg #[.slice a1 n1 c1, .slice a2 n2 c2, .slice a3 n3 c3, .map (some r30)])) (by kernel_rfl) rfl ?_
     refine zO rfl (OpP_newF (v := fun b => pV b) (cs := [.slice a1 n1 c1, .slice a2 n2 c2, .slice a3 n3 c3, .map (some r30)]) (e := 268) (rn_boxA rfl) hS.sat rfl (fun b33 G35 w34 hg hcb33 => ?_)); have hS := hS.grow hg; have hO := hO.grow hg
     have leG35 := hg.le
     refine zV (zA (v := (pV b33)) rfl) rfl (zN (zr ?_)); refine ⟨(pV b33), rfl, ?_⟩
     have hO : Owns _ _ _ ([⟨263, 2, ([] : (List (Int × Bool))).length, .map (some r30), kvs kvI vvB ([] : (List (Int × Bool)))⟩, ⟨263, 2, ([] : (List (Int × Bool))).length, .map (some r21), kvs kvI vvB ([] : (List (Int × Bool)))⟩, zt 173 64 b7 (Tb.zero 64)]) := hO
     have l2_6 := (l2_4.trans leG29).trans leG35
     refine ⟨fun _ _ => ⟨hS.sat.le l2_6, ((hO.drop 1).drop 0).le l2_6⟩, ?_⟩; refine WD_two ?_ ?_
     ·have l0_6 := (leG6.trans leG15).trans l2_6
      obtain ⟨y36, hy36, H⟩ := bnd H
      have hx38 := f161_ok (x0 := x0) hS.sat hcb33 (h1.mono RTLandPerson_mono l0_6) (h2.mono RTLandEvent_mono l0_6) (h3.mono RTLandMemory_mono l0_6) hy36
      refine zE rfl rfl (zC cb161 hx38 rfl rfl (fun w37 hb => ?_)); have hS := hS.keep hb; have hO := hO.below hb; refine ⟨fun _ _ => ⟨hS.sat.le l2_6, ((hO.drop 1).drop 0).le l2_6⟩, ?_⟩; refine WD_two ?_ ?_
      ·have l4_6 := leG29.trans leG35
       obtain ⟨y39, hy39, H⟩ := bnd H
       have hx41 := f160_ok (x0 := x0) (x1 := y36) hS.sat (hcb24.mono l4_6) (h1.mono RTLandPerson_mono l0_6) (h2.mono RTLandEvent_mono l0_6) (h3.mono RTLandMemory_mono l0_6) hy39
       refine zE rfl rfl (zC cb160 hx41 rfl rfl (fun w40 hb => ?_)); have hS := hS.keep hb; have hO := hO.below hb; refine ⟨fun _ _ => ⟨hS.sat.le l2_6, ((hO.drop 1).drop 0).le l2_6⟩, ?_⟩; refine zD rfl (fun w hw => zm (v := (.tuple #[.agg (cellsT y39.1).toArray, .bool y39.2])) rfl) rfl (zD rfl (fun w hw => zX (v := (.agg (cellsT y39.1).toArray)) rfl rfl) rfl (zD rfl (fun w hw => zX (v := (.bool y39.2)) rfl rfl) rfl ?_))
       refine zE rfl rfl (zU (v := fun b => pV b) (cs := (cellsT (Tb.zero 64))) (e := 173) (by kernel_rfl) hS.sat hO rfl 64 1 (cellsT_len _) (by decide) (fun b42 w43 hb hO => ?_))
       have hS := hS.keep hb; refine ⟨fun _ _ => ⟨hS.sat.le l2_6, (((hO.drop 2).drop 1).drop 0).le l2_6⟩, ?_⟩; refine zE rfl rfl (OpP_storeTT sz173 hS hO (k := 0) rfl rfl rfl (fun w45 hS hO => ?_))
       have hO : Owns _ _ _ ([zt 173 64 b42 y39.1, ⟨263, 2, ([] : (List (Int × Bool))).length, .map (some r30), kvs kvI vvB ([] : (List (Int × Bool)))⟩, ⟨263, 2, ([] : (List (Int × Bool))).length, .map (some r21), kvs kvI vvB ([] : (List (Int × Bool)))⟩, zt 173 64 b7 (Tb.zero 64)]) := hO
       refine ⟨fun _ _ => ⟨hS.sat.le l2_6, (((hO.drop 2).drop 1).drop 0).le l2_6⟩, ?_⟩; refine zE rfl rfl (OpP_val (zA (v := (.bool y39.2)) rfl) rfl ?_)
       refine ⟨fun _ h => noneed (by kernel_rfl) h, ?_⟩
       refine zI (zQ (zQ (zR ?_))); refine wr 2 rfl ?_; refine zN (zT rfl (fun hb46 => ?_) (fun hb46 => ?_))
       ·have H := ifT hb46 H; refine zQ (zR ?_)
        refine zV (v := (.agg (cellsT (Tb.zero 64)).toArray)) (by kernel_rfl) rfl ?_
        refine zO rfl (OpP_storeTT sz173 hS hO (k := 3) rfl rfl rfl (fun w47 hS hO => ?_))
        have hO : Owns _ _ _ ([zt 173 64 b42 y39.1, ⟨263, 2, ([] : (List (Int × Bool))).length, .map (some r30), kvs kvI vvB ([] : (List (Int × Bool)))⟩, ⟨263, 2, ([] : (List (Int × Bool))).length, .map (some r21), kvs kvI vvB ([] : (List (Int × Bool)))⟩, zt 173 64 b7 (Tb.zero 64)]) := hO
        refine zV (zA (v := (iV 7)) rfl) rfl (zN (zr ?_))
        have H : some (Tb.zero 64, 7) = some r := H
        cases H
        exact ⟨[.agg (cellsT (Tb.zero 64)).toArray, iV 7], ⟨⟨_, rfl, ld_agg (cs := (cellsT (Tb.zero 64))) ag173 (cellsT_len _) (fun j v hj => by rw [Nat.zero_add]; exact own_cell hO (k := 3) rfl hj)⟩, rfl, trivial⟩, ⟨rfl, hS.below⟩⟩
       ·have H := ifF hb46 H; refine zP (zQ (zR (zV (rn_loadT ag173 hO (k := 0) rfl rfl) rfl (zO rfl (OpP_storeTT sz173 hS hO (k := 3) rfl rfl rfl (fun w48 hS hO => ?_))))))
        have hO : Owns _ _ _ ([zt 173 64 b42 y39.1, ⟨263, 2, ([] : (List (Int × Bool))).length, .map (some r30), kvs kvI vvB ([] : (List (Int × Bool)))⟩, ⟨263, 2, ([] : (List (Int × Bool))).length, .map (some r21), kvs kvI vvB ([] : (List (Int × Bool)))⟩, zt 173 64 b7 y39.1]) := hO
        refine zV (zA (v := (iV 0)) rfl) rfl (zN (zr ?_))
        have H : some (y39.1, 0) = some r := H
        cases H
        exact ⟨[.agg (cellsT y39.1).toArray, iV 0], ⟨⟨_, rfl, ld_agg (cs := (cellsT y39.1)) ag173 (cellsT_len _) (fun j v hj => by rw [Nat.zero_add]; exact own_cell hO (k := 3) rfl hj)⟩, rfl, trivial⟩, ⟨rfl, hS.below⟩⟩
      ·refine zE rfl rfl (zU (v := fun b => pV b) (cs := (cellsT (Tb.zero 64))) (e := 173) (by kernel_rfl) hS.sat hO rfl 64 1 (cellsT_len _) (by decide) (fun b39 w40 hb hO => ?_))
       have hS := hS.keep hb; refine ⟨fun _ _ => ⟨hS.sat.le l2_6, (((hO.drop 2).drop 1).drop 0).le l2_6⟩, ?_⟩
       have l4_6 := leG29.trans leG35
       obtain ⟨y42, hy42, H⟩ := bnd H
       have hx44 := f160_ok (x0 := x0) (x1 := y36) hS.sat (hcb24.mono l4_6) (h1.mono RTLandPerson_mono l0_6) (h2.mono RTLandEvent_mono l0_6) (h3.mono RTLandMemory_mono l0_6) hy42
       refine zE rfl rfl (zC cb160 hx44 rfl rfl (fun w43 hb => ?_)); have hS := hS.keep hb; have hO := hO.below hb; refine ⟨fun _ _ => ⟨hS.sat.le l2_6, (((hO.drop 2).drop 1).drop 0).le l2_6⟩, ?_⟩; refine zE rfl rfl (OpP_val (zm (v := (.tuple #[.agg (cellsT y42.1).toArray, .bool y42.2])) rfl) rfl ?_); refine ⟨fun _ _ => ⟨hS.sat.le l2_6, (((hO.drop 2).drop 1).drop 0).le l2_6⟩, ?_⟩; refine zD rfl (fun w hw => zX (v := (.agg (cellsT y42.1).toArray)) rfl rfl) rfl (zD rfl (fun w hw => zX (v := (.bool y42.2)) rfl rfl) rfl (zE rfl rfl (OpP_storeTT sz173 hS hO (k := 0) rfl rfl rfl (fun w45 hS hO => ?_))))
       have hO : Owns _ _ _ ([zt 173 64 b39 y42.1, ⟨263, 2, ([] : (List (Int × Bool))).length, .map (some r30), kvs kvI vvB ([] : (List (Int × Bool)))⟩, ⟨263, 2, ([] : (List (Int × Bool))).length, .map (some r21), kvs kvI vvB ([] : (List (Int × Bool)))⟩, zt 173 64 b7 (Tb.zero 64)]) := hO
       refine ⟨fun _ _ => ⟨hS.sat.le l2_6, (((hO.drop 2).drop 1).drop 0).le l2_6⟩, ?_⟩; refine zE rfl rfl (OpP_val (zA (v := (.bool y42.2)) rfl) rfl ?_)
       refine ⟨fun _ h => noneed (by kernel_rfl) h, ?_⟩
       refine zI (zQ (zQ (zR ?_))); refine wr 2 rfl ?_; refine zN (zT rfl (fun hb46 => ?_) (fun hb46 => ?_))
       ·have H := ifT hb46 H; refine zQ (zR ?_)
        refine zV (v := (.agg (cellsT (Tb.zero 64)).toArray)) (by kernel_rfl) rfl ?_
        refine zO rfl (OpP_storeTT sz173 hS hO (k := 3) rfl rfl rfl (fun w47 hS hO => ?_))
        have hO : Owns _ _ _ ([zt 173 64 b39 y42.1, ⟨263, 2, ([] : (List (Int × Bool))).length, .map (some r30), kvs kvI vvB ([] : (List (Int × Bool)))⟩, ⟨263, 2, ([] : (List (Int × Bool))).length, .map (some r21), kvs kvI vvB ([] : (List (Int × Bool)))⟩, zt 173 64 b7 (Tb.zero 64)]) := hO
        refine zV (zA (v := (iV 7)) rfl) rfl (zN (zr ?_))
        have H : some (Tb.zero 64, 7) = some r := H
        cases H
        exact ⟨[.agg (cellsT (Tb.zero 64)).toArray, iV 7], ⟨⟨_, rfl, ld_agg (cs := (cellsT (Tb.zero 64))) ag173 (cellsT_len _) (fun j v hj => by rw [Nat.zero_add]; exact own_cell hO (k := 3) rfl hj)⟩, rfl, trivial⟩, ⟨rfl, hS.below⟩⟩
       ·have H := ifF hb46 H; refine zP (zQ (zR (zV (rn_loadT ag173 hO (k := 0) rfl rfl) rfl (zO rfl (OpP_storeTT sz173 hS hO (k := 3) rfl rfl rfl (fun w48 hS hO => ?_))))))
        have hO : Owns _ _ _ ([zt 173 64 b39 y42.1, ⟨263, 2, ([] : (List (Int × Bool))).length, .map (some r30), kvs kvI vvB ([] : (List (Int × Bool)))⟩, ⟨263, 2, ([] : (List (Int × Bool))).length, .map (some r21), kvs kvI vvB ([] : (List (Int × Bool)))⟩, zt 173 64 b7 y42.1]) := hO
        refine zV (zA (v := (iV 0)) rfl) rfl (zN (zr ?_))
        have H : some (y42.1, 0) = some r := H
        cases H
        exact ⟨[.agg (cellsT y42.1).toArray, iV 0], ⟨⟨_, rfl, ld_agg (cs := (cellsT y42.1)) ag173 (cellsT_len _) (fun j v hj => by rw [Nat.zero_add]; exact own_cell hO (k := 3) rfl hj)⟩, rfl, trivial⟩, ⟨rfl, hS.below⟩⟩
     ·refine zE rfl rfl (zU (v := fun b => pV b) (cs := (cellsT (Tb.zero 64))) (e := 173) (by kernel_rfl) hS.sat hO rfl 64 1 (cellsT_len _) (by decide) (fun b36 w37 hb hO => ?_))
      have hS := hS.keep hb; refine ⟨fun _ _ => ⟨hS.sat.le l2_6, (((hO.drop 2).drop 1).drop 0).le l2_6⟩, ?_⟩
      have l0_6 := (leG6.trans leG15).trans l2_6
      obtain ⟨y39, hy39, H⟩ := bnd H
      have hx41 := f161_ok (x0 := x0) hS.sat hcb33 (h1.mono RTLandPerson_mono l0_6) (h2.mono RTLandEvent_mono l0_6) (h3.mono RTLandMemory_mono l0_6) hy39
      refine zE rfl rfl (zC cb161 hx41 rfl rfl (fun w40 hb => ?_)); have hS := hS.keep hb; have hO := hO.below hb; refine ⟨fun _ _ => ⟨hS.sat.le l2_6, (((hO.drop 2).drop 1).drop 0).le l2_6⟩, ?_⟩
      have l4_6 := leG29.trans leG35
      obtain ⟨y42, hy42, H⟩ := bnd H
      have hx44 := f160_ok (x0 := x0) (x1 := y39) hS.sat (hcb24.mono l4_6) (h1.mono RTLandPerson_mono l0_6) (h2.mono RTLandEvent_mono l0_6) (h3.mono RTLandMemory_mono l0_6) hy42
      refine zE rfl rfl (zC cb160 hx44 rfl rfl (fun w43 hb => ?_)); have hS := hS.keep hb; have hO := hO.below hb; refine ⟨fun _ _ => ⟨hS.sat.le l2_6, (((hO.drop 2).drop 1).drop 0).le l2_6⟩, ?_⟩; refine zE rfl rfl (OpP_val (zm (v := (.tuple #[.agg (cellsT y42.1).toArray, .bool y42.2])) rfl) rfl ?_); refine ⟨fun _ _ => ⟨hS.sat.le l2_6, (((hO.drop 2).drop 1).drop 0).le l2_6⟩, ?_⟩; refine zD rfl (fun w hw => zX (v := (.agg (cellsT y42.1).toArray)) rfl rfl) rfl (zD rfl (fun w hw => zX (v := (.bool y42.2)) rfl rfl) rfl (zE rfl rfl (OpP_storeTT sz173 hS hO (k := 0) rfl rfl rfl (fun w45 hS hO => ?_))))
      have hO : Owns _ _ _ ([zt 173 64 b36 y42.1, ⟨263, 2, ([] : (List (Int × Bool))).length, .map (some r30), kvs kvI vvB ([] : (List (Int × Bool)))⟩, ⟨263, 2, ([] : (List (Int × Bool))).length, .map (some r21), kvs kvI vvB ([] : (List (Int × Bool)))⟩, zt 173 64 b7 (Tb.zero 64)]) := hO
      refine ⟨fun _ _ => ⟨hS.sat.le l2_6, (((hO.drop 2).drop 1).drop 0).le l2_6⟩, ?_⟩; refine zE rfl rfl (OpP_val (zA (v := (.bool y42.2)) rfl) rfl ?_)
      refine ⟨fun _ h => noneed (by kernel_rfl) h, ?_⟩
      refine zI (zQ (zQ (zR ?_))); refine wr 2 rfl ?_; refine zN (zT rfl (fun hb46 => ?_) (fun hb46 => ?_))
      ·have H := ifT hb46 H; refine zQ (zR ?_)
       refine zV (v := (.agg (cellsT (Tb.zero 64)).toArray)) (by kernel_rfl) rfl ?_
       refine zO rfl (OpP_storeTT sz173 hS hO (k := 3) rfl rfl rfl (fun w47 hS hO => ?_))
       have hO : Owns _ _ _ ([zt 173 64 b36 y42.1, ⟨263, 2, ([] : (List (Int × Bool))).length, .map (some r30), kvs kvI vvB ([] : (List (Int × Bool)))⟩, ⟨263, 2, ([] : (List (Int × Bool))).length, .map (some r21), kvs kvI vvB ([] : (List (Int × Bool)))⟩, zt 173 64 b7 (Tb.zero 64)]) := hO
       refine zV (zA (v := (iV 7)) rfl) rfl (zN (zr ?_))
       have H : some (Tb.zero 64, 7) = some r := H
       cases H
       exact ⟨[.agg (cellsT (Tb.zero 64)).toArray, iV 7], ⟨⟨_, rfl, ld_agg (cs := (cellsT (Tb.zero 64))) ag173 (cellsT_len _) (fun j v hj => by rw [Nat.zero_add]; exact own_cell hO (k := 3) rfl hj)⟩, rfl, trivial⟩, ⟨rfl, hS.below⟩⟩
      ·have H := ifF hb46 H; refine zP (zQ (zR (zV (rn_loadT ag173 hO (k := 0) rfl rfl) rfl (zO rfl (OpP_storeTT sz173 hS hO (k := 3) rfl rfl rfl (fun w48 hS hO => ?_))))))
       have hO : Owns _ _ _ ([zt 173 64 b36 y42.1, ⟨263, 2, ([] : (List (Int × Bool))).length, .map (some r30), kvs kvI vvB ([] : (List (Int × Bool)))⟩, ⟨263, 2, ([] : (List (Int × Bool))).length, .map (some r21), kvs kvI vvB ([] : (List (Int × Bool)))⟩, zt 173 64 b7 y42.1]) := hO
       refine zV (zA (v := (iV 0)) rfl) rfl (zN (zr ?_))
       have H : some (y42.1, 0) = some r := H
       cases H
       exact ⟨[.agg (cellsT y42.1).toArray, iV 0], ⟨⟨_, rfl, ld_agg (cs := (cellsT y42.1)) ag173 (cellsT_len _) (fun j v hj => by rw [Nat.zero_add]; exact own_cell hO (k := 3) rfl hj)⟩, rfl, trivial⟩, ⟨rfl, hS.below⟩⟩
    ·refine zE rfl rfl (zU (v := fun b => pV b) (cs := (cellsT (Tb.zero 64))) (e := 173) (by kernel_rfl) hS.sat hO rfl 64 1 (cellsT_len _) (by decide) (fun b27 w28 hb hO => ?_))
     have hS := hS.keep hb; refine ⟨fun _ _ => ⟨hS.sat.le l2_4, ((hO.drop 1).drop 0).le l2_4⟩, ?_⟩; refine zE rfl rfl (OpP_in1 (N' := 7) [.agg #[.slice a1 n1 c1, .slice a2 n2 c2, .slice a3 n3 c3]] cb85 Tryz.func85 rfl rfl rfl rfl rfl rfl ?_); refine zQ (zR (zO rfl (OpP_newF (v := fun b => pV b) (cs := [.slice a1 n1 c1, .slice a2 n2 c2, .slice a3 n3 c3]) (e := 32) (rn_boxA rfl) hS.sat rfl (fun b30 G32 w31 hg hcb30 => ?_)))); have hS := hS.grow hg; have hO := hO.grow hg
     have leG32 := hg.le
     refine zV (zA (v := (.pointer none)) rfl) rfl (zN (zQ (zR (zV (rn_loadA ag32 (cs := [.slice a1 n1 c1, .slice a2 n2 c2, .slice a3 n3 c3]) rfl rfl (fun j v hj => hS.sat.cell (hcb30.drop_take 0 3 j v hj))) rfl (zO rfl (OpP_makeMap (e := 263) hS hO rfl (fun r33 w34 hS hO => ?_)))))))
     have hO : Owns _ _ _ ([⟨263, 2, ([] : (List (Int × Bool))).length, .map (some r33), kvs kvI vvB ([] : (List (Int × Bool)))⟩, zt 173 64 b27 (Tb.zero 64), ⟨263, 2, ([] : (List (Int × Bool))).length, .map (some r21), kvs kvI vvB ([] : (List (Int × Bool)))⟩, zt 173 64 b7 (Tb.zero 64)]) := hO
     refine zV (v := (.agg #[.slice a1 n1 c1, .slice a2 n2 c2, .slice a3 n3 c3, .map (some r33)])) (by kernel_rfl) rfl ?_
     refine zO rfl (OpP_newF (v := fun b => pV b) (cs := [.slice a1 n1 c1, .slice a2 n2 c2, .slice a3 n3 c3, .map (some r33)]) (e := 268) (rn_boxA rfl) hS.sat rfl (fun b36 G38 w37 hg hcb36 => ?_)); have hS := hS.grow hg; have hO := hO.grow hg
     have leG38 := hg.le
     refine zV (zA (v := (pV b36)) rfl) rfl (zN (zr ?_)); refine ⟨(pV b36), rfl, ?_⟩
     have hO : Owns _ _ _ ([⟨263, 2, ([] : (List (Int × Bool))).length, .map (some r33), kvs kvI vvB ([] : (List (Int × Bool)))⟩, zt 173 64 b27 (Tb.zero 64), ⟨263, 2, ([] : (List (Int × Bool))).length, .map (some r21), kvs kvI vvB ([] : (List (Int × Bool)))⟩, zt 173 64 b7 (Tb.zero 64)]) := hO
     have l2_6 := (l2_4.trans leG32).trans leG38
     refine ⟨fun _ _ => ⟨hS.sat.le l2_6, (((hO.drop 2).drop 1).drop 0).le l2_6⟩, ?_⟩
     have l0_6 := (leG6.trans leG15).trans l2_6
     obtain ⟨y39, hy39, H⟩ := bnd H
     have hx41 := f161_ok (x0 := x0) hS.sat hcb36 (h1.mono RTLandPerson_mono l0_6) (h2.mono RTLandEvent_mono l0_6) (h3.mono RTLandMemory_mono l0_6) hy39
     refine zE rfl rfl (zC cb161 hx41 rfl rfl (fun w40 hb => ?_)); have hS := hS.keep hb; have hO := hO.below hb; refine ⟨fun _ _ => ⟨hS.sat.le l2_6, (((hO.drop 2).drop 1).drop 0).le l2_6⟩, ?_⟩
     have l4_6 := leG32.trans leG38
     obtain ⟨y42, hy42, H⟩ := bnd H
     have hx44 := f160_ok (x0 := x0) (x1 := y39) hS.sat (hcb24.mono l4_6) (h1.mono RTLandPerson_mono l0_6) (h2.mono RTLandEvent_mono l0_6) (h3.mono RTLandMemory_mono l0_6) hy42
     refine zE rfl rfl (zC cb160 hx44 rfl rfl (fun w43 hb => ?_)); have hS := hS.keep hb; have hO := hO.below hb; refine ⟨fun _ _ => ⟨hS.sat.le l2_6, (((hO.drop 2).drop 1).drop 0).le l2_6⟩, ?_⟩; refine zE rfl rfl (OpP_val (zm (v := (.tuple #[.agg (cellsT y42.1).toArray, .bool y42.2])) rfl) rfl ?_); refine ⟨fun _ _ => ⟨hS.sat.le l2_6, (((hO.drop 2).drop 1).drop 0).le l2_6⟩, ?_⟩; refine zD rfl (fun w hw => zX (v := (.agg (cellsT y42.1).toArray)) rfl rfl) rfl (zD rfl (fun w hw => zX (v := (.bool y42.2)) rfl rfl) rfl (zE rfl rfl (OpP_storeTT sz173 hS hO (k := 1) rfl rfl rfl (fun w45 hS hO => ?_))))
     have hO : Owns _ _ _ ([⟨263, 2, ([] : (List (Int × Bool))).length, .map (some r33), kvs kvI vvB ([] : (List (Int × Bool)))⟩, zt 173 64 b27 y42.1, ⟨263, 2, ([] : (List (Int × Bool))).length, .map (some r21), kvs kvI vvB ([] : (List (Int × Bool)))⟩, zt 173 64 b7 (Tb.zero 64)]) := hO
     refine ⟨fun _ _ => ⟨hS.sat.le l2_6, (((hO.drop 2).drop 1).drop 0).le l2_6⟩, ?_⟩; refine zE rfl rfl (OpP_val (zA (v := (.bool y42.2)) rfl) rfl ?_)
     refine ⟨fun _ h => noneed (by kernel_rfl) h, ?_⟩
     refine zI (zQ (zQ (zR ?_))); refine wr 2 rfl ?_; refine zN (zT rfl (fun hb46 => ?_) (fun hb46 => ?_))
     ·have H := ifT hb46 H; refine zQ (zR ?_)
      refine zV (v := (.agg (cellsT (Tb.zero 64)).toArray)) (by kernel_rfl) rfl ?_
      refine zO rfl (OpP_storeTT sz173 hS hO (k := 3) rfl rfl rfl (fun w47 hS hO => ?_))
      have hO : Owns _ _ _ ([⟨263, 2, ([] : (List (Int × Bool))).length, .map (some r33), kvs kvI vvB ([] : (List (Int × Bool)))⟩, zt 173 64 b27 y42.1, ⟨263, 2, ([] : (List (Int × Bool))).length, .map (some r21), kvs kvI vvB ([] : (List (Int × Bool)))⟩, zt 173 64 b7 (Tb.zero 64)]) := hO
      refine zV (zA (v := (iV 7)) rfl) rfl (zN (zr ?_))
      have H : some (Tb.zero 64, 7) = some r := H
      cases H
      exact ⟨[.agg (cellsT (Tb.zero 64)).toArray, iV 7], ⟨⟨_, rfl, ld_agg (cs := (cellsT (Tb.zero 64))) ag173 (cellsT_len _) (fun j v hj => by rw [Nat.zero_add]; exact own_cell hO (k := 3) rfl hj)⟩, rfl, trivial⟩, ⟨rfl, hS.below⟩⟩
     ·have H := ifF hb46 H; refine zP (zQ (zR (zV (rn_loadT ag173 hO (k := 1) rfl rfl) rfl (zO rfl (OpP_storeTT sz173 hS hO (k := 3) rfl rfl rfl (fun w48 hS hO => ?_))))))
      have hO : Owns _ _ _ ([⟨263, 2, ([] : (List (Int × Bool))).length, .map (some r33), kvs kvI vvB ([] : (List (Int × Bool)))⟩, zt 173 64 b27 y42.1, ⟨263, 2, ([] : (List (Int × Bool))).length, .map (some r21), kvs kvI vvB ([] : (List (Int × Bool)))⟩, zt 173 64 b7 y42.1]) := hO
      refine zV (zA (v := (iV 0)) rfl) rfl (zN (zr ?_))
      have H : some (y42.1, 0) = some r := H
      cases H
      exact ⟨[.agg (cellsT y42.1).toArray, iV 0], ⟨⟨_, rfl, ld_agg (cs := (cellsT y42.1)) ag173 (cellsT_len _) (fun j v hj => by rw [Nat.zero_add]; exact own_cell hO (k := 3) rfl hj)⟩, rfl, trivial⟩, ⟨rfl, hS.below⟩⟩
   ·refine zE rfl rfl (zU (v := fun b => pV b) (cs := (cellsT (Tb.zero 64))) (e := 173) (by kernel_rfl) hS.sat hO rfl 64 1 (cellsT_len _) (by decide) (fun b18 w19 hb hO => ?_))
    have hS := hS.keep hb; refine ⟨fun _ _ => ⟨hS.sat, (hO.drop 0)⟩, ?_⟩; refine zE rfl rfl (OpP_in1 (N' := 7) [.agg #[.slice a1 n1 c1, .slice a2 n2 c2, .slice a3 n3 c3]] cb85 Tryz.func85 rfl rfl rfl rfl rfl rfl ?_); refine zQ (zR (zO rfl (OpP_newF (v := fun b => pV b) (cs := [.slice a1 n1 c1, .slice a2 n2 c2, .slice a3 n3 c3]) (e := 32) (rn_boxA rfl) hS.sat rfl (fun b21 G23 w22 hg hcb21 => ?_)))); have hS := hS.grow hg; have hO := hO.grow hg
    have leG23 := hg.le
    refine zV (zA (v := (.pointer none)) rfl) rfl (zN (zQ (zR (zV (rn_loadA ag32 (cs := [.slice a1 n1 c1, .slice a2 n2 c2, .slice a3 n3 c3]) rfl rfl (fun j v hj => hS.sat.cell (hcb21.drop_take 0 3 j v hj))) rfl (zO rfl (OpP_makeMap (e := 263) hS hO rfl (fun r24 w25 hS hO => ?_)))))))
    have hO : Owns _ _ _ ([⟨263, 2, ([] : (List (Int × Bool))).length, .map (some r24), kvs kvI vvB ([] : (List (Int × Bool)))⟩, zt 173 64 b18 (Tb.zero 64), zt 173 64 b7 (Tb.zero 64)]) := hO
    refine zV (v := (.agg #[.slice a1 n1 c1, .slice a2 n2 c2, .slice a3 n3 c3, .map (some r24)])) (by kernel_rfl) rfl ?_
    refine zO rfl (OpP_newF (v := fun b => pV b) (cs := [.slice a1 n1 c1, .slice a2 n2 c2, .slice a3 n3 c3, .map (some r24)]) (e := 268) (rn_boxA rfl) hS.sat rfl (fun b27 G29 w28 hg hcb27 => ?_)); have hS := hS.grow hg; have hO := hO.grow hg
    have leG29 := hg.le
    refine zV (zA (v := (pV b27)) rfl) rfl (zN (zr ?_)); refine ⟨(pV b27), rfl, ?_⟩
    have hO : Owns _ _ _ ([⟨263, 2, ([] : (List (Int × Bool))).length, .map (some r24), kvs kvI vvB ([] : (List (Int × Bool)))⟩, zt 173 64 b18 (Tb.zero 64), zt 173 64 b7 (Tb.zero 64)]) := hO
    have l2_4 := leG23.trans leG29
    refine ⟨fun _ _ => ⟨hS.sat.le l2_4, ((hO.drop 1).drop 0).le l2_4⟩, ?_⟩; refine zE rfl rfl (OpP_in1 (N' := 7) [.agg #[.slice a1 n1 c1, .slice a2 n2 c2, .slice a3 n3 c3]] cb85 Tryz.func85 rfl rfl rfl rfl rfl rfl ?_); refine zQ (zR (zO rfl (OpP_newF (v := fun b => pV b) (cs := [.slice a1 n1 c1, .slice a2 n2 c2, .slice a3 n3 c3]) (e := 32) (rn_boxA rfl) hS.sat rfl (fun b30 G32 w31 hg hcb30 => ?_)))); have hS := hS.grow hg; have hO := hO.grow hg
    have leG32 := hg.le
    refine zV (zA (v := (.pointer none)) rfl) rfl (zN (zQ (zR (zV (rn_loadA ag32 (cs := [.slice a1 n1 c1, .slice a2 n2 c2, .slice a3 n3 c3]) rfl rfl (fun j v hj => hS.sat.cell (hcb30.drop_take 0 3 j v hj))) rfl (zO rfl (OpP_makeMap (e := 263) hS hO rfl (fun r33 w34 hS hO => ?_)))))))
    have hO : Owns _ _ _ ([⟨263, 2, ([] : (List (Int × Bool))).length, .map (some r33), kvs kvI vvB ([] : (List (Int × Bool)))⟩, ⟨263, 2, ([] : (List (Int × Bool))).length, .map (some r24), kvs kvI vvB ([] : (List (Int × Bool)))⟩, zt 173 64 b18 (Tb.zero 64), zt 173 64 b7 (Tb.zero 64)]) := hO
    refine zV (v := (.agg #[.slice a1 n1 c1, .slice a2 n2 c2, .slice a3 n3 c3, .map (some r33)])) (by kernel_rfl) rfl ?_
    refine zO rfl (OpP_newF (v := fun b => pV b) (cs := [.slice a1 n1 c1, .slice a2 n2 c2, .slice a3 n3 c3, .map (some r33)]) (e := 268) (rn_boxA rfl) hS.sat rfl (fun b36 G38 w37 hg hcb36 => ?_)); have hS := hS.grow hg; have hO := hO.grow hg
    have leG38 := hg.le
    refine zV (zA (v := (pV b36)) rfl) rfl (zN (zr ?_)); refine ⟨(pV b36), rfl, ?_⟩
    have hO : Owns _ _ _ ([⟨263, 2, ([] : (List (Int × Bool))).length, .map (some r33), kvs kvI vvB ([] : (List (Int × Bool)))⟩, ⟨263, 2, ([] : (List (Int × Bool))).length, .map (some r24), kvs kvI vvB ([] : (List (Int × Bool)))⟩, zt 173 64 b18 (Tb.zero 64), zt 173 64 b7 (Tb.zero 64)]) := hO
    have l2_6 := (l2_4.trans leG32).trans leG38
    refine ⟨fun _ _ => ⟨hS.sat.le l2_6, (((hO.drop 2).drop 1).drop 0).le l2_6⟩, ?_⟩
    have l0_6 := (leG6.trans leG15).trans l2_6
    obtain ⟨y39, hy39, H⟩ := bnd H
    have hx41 := f161_ok (x0 := x0) hS.sat hcb36 (h1.mono RTLandPerson_mono l0_6) (h2.mono RTLandEvent_mono l0_6) (h3.mono RTLandMemory_mono l0_6) hy39
    refine zE rfl rfl (zC cb161 hx41 rfl rfl (fun w40 hb => ?_)); have hS := hS.keep hb; have hO := hO.below hb; refine ⟨fun _ _ => ⟨hS.sat.le l2_6, (((hO.drop 2).drop 1).drop 0).le l2_6⟩, ?_⟩
    have l4_6 := leG32.trans leG38
    obtain ⟨y42, hy42, H⟩ := bnd H
    have hx44 := f160_ok (x0 := x0) (x1 := y39) hS.sat (hcb27.mono l4_6) (h1.mono RTLandPerson_mono l0_6) (h2.mono RTLandEvent_mono l0_6) (h3.mono RTLandMemory_mono l0_6) hy42
    refine zE rfl rfl (zC cb160 hx44 rfl rfl (fun w43 hb => ?_)); have hS := hS.keep hb; have hO := hO.below hb; refine ⟨fun _ _ => ⟨hS.sat.le l2_6, (((hO.drop 2).drop 1).drop 0).le l2_6⟩, ?_⟩; refine zE rfl rfl (OpP_val (zm (v := (.tuple #[.agg (cellsT y42.1).toArray, .bool y42.2])) rfl) rfl ?_); refine ⟨fun _ _ => ⟨hS.sat.le l2_6, (((hO.drop 2).drop 1).drop 0).le l2_6⟩, ?_⟩; refine zD rfl (fun w hw => zX (v := (.agg (cellsT y42.1).toArray)) rfl rfl) rfl (zD rfl (fun w hw => zX (v := (.bool y42.2)) rfl rfl) rfl (zE rfl rfl (OpP_storeTT sz173 hS hO (k := 2) rfl rfl rfl (fun w45 hS hO => ?_))))
    have hO : Owns _ _ _ ([⟨263, 2, ([] : (List (Int × Bool))).length, .map (some r33), kvs kvI vvB ([] : (List (Int × Bool)))⟩, ⟨263, 2, ([] : (List (Int × Bool))).length, .map (some r24), kvs kvI vvB ([] : (List (Int × Bool)))⟩, zt 173 64 b18 y42.1, zt 173 64 b7 (Tb.zero 64)]) := hO
    refine ⟨fun _ _ => ⟨hS.sat.le l2_6, (((hO.drop 2).drop 1).drop 0).le l2_6⟩, ?_⟩; refine zE rfl rfl (OpP_val (zA (v := (.bool y42.2)) rfl) rfl ?_)
    refine ⟨fun _ h => noneed (by kernel_rfl) h, ?_⟩
    refine zI (zQ (zQ (zR ?_))); refine wr 2 rfl ?_; refine zN (zT rfl (fun hb46 => ?_) (fun hb46 => ?_))
    ·have H := ifT hb46 H; refine zQ (zR ?_)
     refine zV (v := (.agg (cellsT (Tb.zero 64)).toArray)) (by kernel_rfl) rfl ?_
     refine zO rfl (OpP_storeTT sz173 hS hO (k := 3) rfl rfl rfl (fun w47 hS hO => ?_))
     have hO : Owns _ _ _ ([⟨263, 2, ([] : (List (Int × Bool))).length, .map (some r33), kvs kvI vvB ([] : (List (Int × Bool)))⟩, ⟨263, 2, ([] : (List (Int × Bool))).length, .map (some r24), kvs kvI vvB ([] : (List (Int × Bool)))⟩, zt 173 64 b18 y42.1, zt 173 64 b7 (Tb.zero 64)]) := hO
     refine zV (zA (v := (iV 7)) rfl) rfl (zN (zr ?_))
     have H : some (Tb.zero 64, 7) = some r := H
     cases H
     exact ⟨[.agg (cellsT (Tb.zero 64)).toArray, iV 7], ⟨⟨_, rfl, ld_agg (cs := (cellsT (Tb.zero 64))) ag173 (cellsT_len _) (fun j v hj => by rw [Nat.zero_add]; exact own_cell hO (k := 3) rfl hj)⟩, rfl, trivial⟩, ⟨rfl, hS.below⟩⟩
    ·have H := ifF hb46 H; refine zP (zQ (zR (zV (rn_loadT ag173 hO (k := 2) rfl rfl) rfl (zO rfl (OpP_storeTT sz173 hS hO (k := 3) rfl rfl rfl (fun w48 hS hO => ?_))))))
     have hO : Owns _ _ _ ([⟨263, 2, ([] : (List (Int × Bool))).length, .map (some r33), kvs kvI vvB ([] : (List (Int × Bool)))⟩, ⟨263, 2, ([] : (List (Int × Bool))).length, .map (some r24), kvs kvI vvB ([] : (List (Int × Bool)))⟩, zt 173 64 b18 y42.1, zt 173 64 b7 y42.1]) := hO
     refine zV (zA (v := (iV 0)) rfl) rfl (zN (zr ?_))
     have H : some (y42.1, 0) = some r := H
     cases H
     exact ⟨[.agg (cellsT y42.1).toArray, iV 0], ⟨⟨_, rfl, ld_agg (cs := (cellsT y42.1)) ag173 (cellsT_len _) (fun j v hj => by rw [Nat.zero_add]; exact own_cell hO (k := 3) rfl hj)⟩, rfl, trivial⟩, ⟨rfl, hS.below⟩⟩
set_option maxHeartbeats 1000000 in
theorem f82_ok {G0 : Gm} {w0 : World} (hS0 : Sat G0 w0) {x0 : (Tb 64)} {x1 : Int} {x2 : Int}  {r : TSpan} (H : f82 x0 x1 x2 = some r) :
  Calls Tryz.prog 82 #[.agg (cellsT x0).toArray, iV x1, iV x2] w0 (RetV w0 (.agg #[iV r.Low, iV r.High])) := by
 have hS := Since.start hS0
 have hO := own0 G0 w0
 unfold f82 at H
 refine enterG (N := 19) (shutV _ _) [.cell 6 23] Tryz.func82 rfl rfl rfl rfl ?_; refine zQ (zR (zO rfl (OpP_newF (v := fun b => pV b) (cs := (cellsT x0)) (e := 173) (rn_boxA rfl) hS.sat rfl (fun b1 G3 w2 hg hcb1 => ?_)))); have hS := hS.grow hg; have hO := hO.grow hg
 have leG3 := hg.le
 refine zO rfl (zU (v := fun b => pV b) (cs := [iV 0, iV 0]) (e := 23) (by kernel_rfl) hS.sat hO rfl 2 1 rfl (by decide) (fun b4 w5 hb hO => ?_))
 have hS := hS.keep hb; refine zN (zQ ?_); have hS := hS.keep (below_drew _); have hO := hO.below (below_drew _)
 refine WC_regionD mixedO (fun _ w => Sat G3 w ∧ Owns G3 w w0.heap.size [⟨23, 2, 1, .slice (some ⟨b4, 0, none⟩) 1 1, [iV 0, iV 0]⟩]) (.fl 0 (.fl 1 (.fl 2 (.fl 3 (.fl 4 (.fl 5 (.fl 6 (.fl 7 (.on 8 (.on 9 (.on 10 (.on 11 (.on 12 .nil))))))))))))) (by kernel_rfl) rfl (by kernel_rfl) (fun _ => ⟨hS.sat, hO⟩) ?_
 refine zD rfl (fun w hw => zm (v := (iV x2)) rfl) rfl (zD rfl (fun w hw => zm (v := (iV x1)) rfl) rfl ?_); obtain ⟨j7, hj7, H⟩ := bnd H; refine zD rfl (fun w hw => rn_idxA ar173 rfl rfl hj7) rfl ?_; obtain ⟨j8, hj8, H⟩ := bnd H
 have hl9 : 0 + j7 * 8 + j8 * 1 < 64 := by have := (ckI_some hj7).2; have := (ckI_some hj8).2; omega
 refine zD rfl (fun w hw => rn_idxA ar171 rfl rfl hj8) rfl (zD rfl (fun w hw => zL na3 rfl (tab_cellG (hw.1) hcb1 hl9)) rfl (zD rfl (fun w hw => rn_neg rfl) rfl (zD rfl (fun w hw => zm (v := (iV x1)) rfl) rfl (zD rfl (fun w hw => zm (v := (iV x2)) rfl) rfl ?_)))); obtain ⟨j10, hj10, H⟩ := bnd H; refine zE rfl rfl (OpP_val (rn_idxA ar173 rfl rfl hj10) rfl ?_); refine ⟨fun _ _ => ⟨hS.sat, hO⟩, ?_⟩; obtain ⟨j11, hj11, H⟩ := bnd H
 have hl12 : 0 + j10 * 8 + j11 * 1 < 64 := by have := (ckI_some hj10).2; have := (ckI_some hj11).2; omega
 refine zE rfl rfl (OpP_val (rn_idxA ar171 rfl rfl hj11) rfl ?_); refine ⟨fun _ _ => ⟨hS.sat, hO⟩, ?_⟩; refine zE rfl rfl (OpP_val (zL na3 rfl (tab_cellG (hS.sat) hcb1 hl12)) rfl ?_); refine ⟨fun _ _ => ⟨hS.sat, hO⟩, ?_⟩
 refine zE rfl rfl (OpP_val (v := (.agg #[iV (IntKind.i64.wrap (0 - (tget x0 (0 + j7 * 8 + j8 * 1)))), iV (tget x0 (0 + j10 * 8 + j11 * 1))])) (by kernel_rfl) rfl ?_)
 refine ⟨fun _ h => noneed (by kernel_rfl) h, ?_⟩
 refine zE rfl rfl (OpP_store (vs := [iV (IntKind.i64.wrap (0 - (tget x0 (0 + j7 * 8 + j8 * 1)))), iV (tget x0 (0 + j10 * 8 + j11 * 1))]) sz23 hS hO (k := 0) rfl rfl rfl rfl rfl (one_all rfl) (Nat.le_of_ble_eq_true rfl) (fun w13 hS hO => ?_))
 have hO : Owns _ _ _ ([⟨23, 2, 1, .slice (some ⟨b4, 0, none⟩) 1 1, [iV (IntKind.i64.wrap (0 - (tget x0 (0 + j7 * 8 + j8 * 1)))), iV (tget x0 (0 + j10 * 8 + j11 * 1))]⟩]) := hO
 obtain ⟨G14, leG14, hS, hO, hqG14, _⟩ := hO.freeze hS (k := 0) rfl
 have hcG14 : Cells G14 b4 0 [iV (IntKind.i64.wrap (0 - (tget x0 (0 + j7 * 8 + j8 * 1)))), iV (tget x0 (0 + j10 * 8 + j11 * 1))] := (hqG14 _ _ _ _ rfl)
 refine ⟨fun _ h => noneed (by kernel_rfl) h, ?_⟩
 refine zI (zr ?_)
 have H : some (⟨IntKind.i64.wrap (0 - (tget x0 (0 + j7 * 8 + j8 * 1))), tget x0 (0 + j10 * 8 + j11 * 1)⟩ : TSpan) = some r := H
 cases H
 exact ⟨[.agg #[iV (IntKind.i64.wrap (0 - (tget x0 (0 + j7 * 8 + j8 * 1)))), iV (tget x0 (0 + j10 * 8 + j11 * 1))]], ⟨⟨_, rfl, ld_agg (cs := [iV (IntKind.i64.wrap (0 - (tget x0 (0 + j7 * 8 + j8 * 1)))), iV (tget x0 (0 + j10 * 8 + j11 * 1))]) ag23 rfl (fun j v hj => hS.sat.cell (hcG14 j v hj))⟩, trivial⟩, ⟨rfl, hS.below⟩⟩
set_option maxHeartbeats 1000000 in
theorem f31_ok {G0 : Gm} {w0 : World} (hS0 : Sat G0 w0) {x0 : TLandBook} {a1 : Option Addr} {n1 c1 : Nat} {a2 : Option Addr} {n2 c2 : Nat} {a3 : Option Addr} {n3 c3 : Nat} (h1 : RSl RTLandPerson 2 G0 a1 n1 c1 x0.People) (h2 : RSl RTLandEvent 2 G0 a2 n2 c2 x0.Events) (h3 : RSl RTLandMemory 4 G0 a3 n3 c3 x0.Memories) {r : (List Int) × Int} (H : f31 x0 = some r) :
  Calls Tryz.prog 31 #[.agg #[.slice a1 n1 c1, .slice a2 n2 c2, .slice a3 n3 c3]] w0 (RetG G0 w0 (fun G v => ∃ (ra0 : Option Addr) (rn0 rc0 : Nat), v = .tuple #[.slice ra0 rn0 rc0, iV r.2] ∧ RSl RInt 1 G ra0 rn0 rc0 r.1)) := by
 have hS := Since.start hS0
 have hO := own0 G0 w0
 unfold f31 at H
 refine enter2 (N := 31) (shutG _ _ _) Tryz.func31 rfl rfl rfl rfl ?_; refine zQ (zR (zO rfl (OpP_newF (v := fun b => pV b) (cs := [.slice a1 n1 c1, .slice a2 n2 c2, .slice a3 n3 c3]) (e := 32) (rn_boxA rfl) hS.sat rfl (fun b4 G6 w5 hg hcb4 => ?_)))); have hS := hS.grow hg; have hO := hO.grow hg
 have leG6 := hg.le
 refine wr 2 rfl ?_; refine zN (zQ (zR (zV (rn_loadA ag32 (cs := [.slice a1 n1 c1, .slice a2 n2 c2, .slice a3 n3 c3]) rfl rfl (fun j v hj => hS.sat.cell (hcb4.drop_take 0 3 j v hj))) rfl ?_))); obtain ⟨y7, hy7, H⟩ := bnd H; refine zO rfl (zC cb81 (f81_ok (x0 := x0) (x1 := true) hS.sat (h1.mono RTLandPerson_mono leG6) (h2.mono RTLandEvent_mono leG6) (h3.mono RTLandMemory_mono leG6) hy7) rfl rfl (fun w8 hb => ?_)); have hS := hS.keep hb; have hO := hO.below hb; refine zV (zm (v := (.tuple #[.agg (cellsT y7.1).toArray, iV y7.2])) rfl) rfl (zV (zX (v := (.agg (cellsT y7.1).toArray)) rfl rfl) rfl (zV (zX (v := (iV y7.2)) rfl rfl) rfl ?_))
 refine zO rfl (zU (v := fun b => pV b) (cs := (cellsT (Tb.zero 64))) (e := 173) (by kernel_rfl) hS.sat hO rfl 64 1 (cellsT_len _) (by decide) (fun b9 w10 hb hO => ?_))
 have hS := hS.keep hb; refine zO rfl (OpP_storeTT sz173 hS hO (k := 0) rfl rfl rfl (fun w12 hS hO => ?_))
 have hO : Owns _ _ _ ([zt 173 64 b9 y7.1]) := hO
 refine zV (zA (v := (iV y7.2)) rfl) rfl (zN (zQ (zQ (zR ?_)))); refine wr 2 rfl ?_; refine zN (zT rfl (fun hb13 => ?_) (fun hb13 => ?_))
 ·have H := ifT hb13 H; refine zQ (zR ?_); refine wr 3 rfl ?_; refine zN (zr ?_)
  have H : some ([], y7.2) = some r := H
  cases H
  exact ⟨_, _, rfl, hS.toGrow, _, _, _, rfl, (RSl.nil RInt 1 G6 none)⟩
 ·have H := ifF hb13 H; refine zP (zQ (zR (zV (zA (v := (.slice none 0 0)) rfl) rfl (zN (zQ (zQ (zR (WL_run tabH (cellsW hS.sat hcb4) 4 [_] rfl rfl (ao (h2.mono RTLandEvent_mono leG6).1 an) (zN ?_))))))))); have hO := hO.cons_nil 3 1; obtain ⟨q17, hq17, H⟩ := bnd H; refine zM (fun F w => ∃ (Fb : Fr) (G : Gm) (aq17_0 : Option Addr) (nq17_0 cq17_0 : Nat) (claq17_0 : List Value), F = upds Fb [(6, .slice aq17_0 nq17_0 cq17_0)] ∧ Gle G6 G ∧ Since w0.heap.size G0 w0 G w ∧ Owns G w w0.heap.size [⟨3, 1, nq17_0, .slice aq17_0 nq17_0 cq17_0, claq17_0⟩, zt 173 64 b9 q17.2] ∧ nq17_0 = q17.1.length ∧ Rd RInt 1 G claq17_0 q17.1) ?_ ?_
  ·refine zb (WC_loop hq17 (fun s15 F w => ∃ (Fb : Fr) (G : Gm) (as15_0 : Option Addr) (ns15_0 cs15_0 : Nat) (clas15_0 : List Value), F = upds Fb [(4, pV b9), (6, .slice as15_0 ns15_0 cs15_0), (18, iV (x0.Events.length : Int)), (19, iV s15.2.1)] ∧ Gle G6 G ∧ Since w0.heap.size G0 w0 G w ∧ Owns G w w0.heap.size [⟨3, 1, ns15_0, .slice as15_0 ns15_0 cs15_0, clas15_0⟩, zt 173 64 b9 s15.2.2] ∧ ns15_0 = s15.1.length ∧ Rd RInt 1 G clas15_0 s15.1) ?_ ?_)
   ·have hO : Owns _ _ _ ([⟨3, 1, 0, .slice none 0 0, []⟩, zt 173 64 b9 y7.1]) := hO
    exact ⟨_, G6, none, 0, 0, [], zu _ _ ⟨rfl, rfl, rfl, rfl, trivial⟩, Gle.refl _, hS, hO, rfl, (Rd.nil RInt 1 G6)⟩
   ·rintro s15 F w19 t18 ⟨Fb, G20, as15_0, ns15_0, cs15_0, clas15_0, rfl, leG20, hS, hO, hnhs15_0, hs15_0⟩
    intro H1 hqq17
    have Hoq17 := H; have H := H1
    unfold f31_b0 at H
    refine zQ (zR (zV (zl rfl rfl) rfl (zN (zQ (zT rfl (fun hb21 => ?_) (fun hb21 => ?_))))))
    ·have H := ifT hb21 H; refine zP (zQ (zb (zQ (zR ?_)))); refine wr 2 rfl ?_; refine zN (zR (zV (zm (v := (.slice as15_0 ns15_0 cs15_0)) rfl) rfl (zV (rn_loadT ag173 hO (k := 1) rfl rfl) rfl (zV (zm (v := (iV s15.2.1)) rfl) rfl ?_)))); obtain ⟨y22, hy22, H⟩ := bnd H; refine zO rfl (zC cb82 (f82_ok (x0 := s15.2.2) (x1 := 7) (x2 := s15.2.1) hS.sat  hy22) rfl rfl (fun w23 hb => ?_)); have hS := hS.keep hb; have hO := hO.below hb
     refine zV (v := (iV y22.Low)) (by kernel_rfl) rfl ?_
     refine zO rfl (OpP_newF (v := fun b => .slice (some ⟨b, 0, none⟩) 1 1) (cs := [iV y22.Low]) (e := 3) (by kernel_rfl) hS.sat rfl (fun b24 G26 w25 hg hcb24 => ?_))
     have hS := hS.grow hg; have hO := hO.grow hg
     have leG26 := hg.le
     have hfb24 : RSl RInt 1 G26 (some ⟨b24, 0, none⟩) 1 1 [y22.Low] := RSl.of_rd hcb24 (Rd.cons (c := [iV y22.Low]) rfl rfl (Rd.nil RInt 1 _)) rfl (by decide)
     obtain ⟨y27, hy27, H⟩ := bnd H; refine zO rfl (OpP_append (k := 0) sl24 RInt_one hS hO rfl hnhs15_0 (hs15_0.mono RInt_mono leG26) hfb24 hy27 rfl rfl rfl rfl rfl (fun aw28 cw28 w28 clw28 hS hO hrw28 => ?_))
     have hO : Owns _ _ _ ([⟨3, 1, y27.length, .slice aw28 y27.length cw28, clw28⟩, zt 173 64 b9 s15.2.2]) := hO
     refine zV (zA (v := (.slice aw28 y27.length cw28)) rfl) rfl (zN (zR ?_)); refine wr 2 rfl ?_; refine zN ?_
     have hO : Owns _ _ _ ([⟨3, 1, y27.length, .slice aw28 y27.length cw28, clw28⟩, zt 173 64 b9 s15.2.2]) := hO
     cases H; refine ⟨_, rfl, ?_⟩
     have l1_3 := leG20.trans leG26
     exact ⟨_, G26, aw28, y27.length, cw28, clw28, zu _ _ ⟨rfl, rfl, rfl, rfl, trivial⟩, l1_3, hS, hO, rfl, hrw28⟩
    ·have H := ifF hb21 H; refine WC_exit rfl ?_
     have hO : Owns _ _ _ ([⟨3, 1, ns15_0, .slice as15_0 ns15_0 cs15_0, clas15_0⟩, zt 173 64 b9 s15.2.2]) := hO
     cases H
     have hres := hqq17 _ rfl
     subst hres
     exact ⟨_, G20, as15_0, ns15_0, cs15_0, clas15_0, zu _ _ ⟨rfl, trivial⟩, leG20, hS, hO, hnhs15_0, hs15_0⟩
  ·rintro F w29 ⟨Fb, G30, aq17_0, nq17_0, cq17_0, claq17_0, rfl, leG30, hS, hO, hnhq17_0, hq17_0⟩
   refine zQ (zR ?_); refine wr 3 rfl ?_; refine zN (zr ?_); obtain ⟨G31, leG31, hS, hO, hfG31⟩ := hO.freezeS hS RInt_mono (k := 0) rfl hq17_0 hnhq17_0
   have H : some (q17.1, 0) = some r := H
   cases H
   exact ⟨_, _, rfl, hS.toGrow, _, _, _, rfl, hfG31⟩
end Go.Proofs.YtncjnffbdhckdaaGreatDoor
