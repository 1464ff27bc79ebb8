/-
  The walks: each Go function computes its plain function (printed by a program of ours).
-/
import Derived.Test.YtcaflmilfhhikaaGreatDoorAl
import Derived.Test.YtcaflmilfhhikaaGreatDoorRd
import Derived.Test.YtcaflmilfhhikaaGreatDoorBaseQ
import Derived.Test.YtcaflmilfhhikaaGreatDoorBaseU
import Derived.Test.YtcaflmilfhhikaaGreatDoorIt
import Derived.Test.YtcaflmilfhhikaaGreatDoorLib
import Derived.Test.YtcaflmilfhhikaaGreatDoorBu
import Derived.Test.YtcaflmilfhhikaaGreatDoorP5W4
namespace Go.Proofs.YtcaflmilfhhikaaGreatDoor
open Go.RowKit
set_option linter.unusedVariables false

set_option maxRecDepth 20000
set_option linter.unusedVariables false
set_option maxHeartbeats 1000000 in
theorem f5_ok {G0 : Gm} {w0 : World} (hS0 : Sat G0 w0) {x0 : TLandBook} {a1 : Option Addr} {n1 c1 : Nat} {a2 : Option Addr} {n2 c2 : Nat} {a3 : Option Addr} {n3 c3 : Nat} {x1 : Int} {x2 : Int} (hT : TabZ Tryz.prog G0) (h1 : RSl RTLandPerson 2 G0 a1 n1 c1 x0.People) (h2 : RSl RTLandEvent 2 G0 a2 n2 c2 x0.Events) (h3 : RSl RTLandMemory 4 G0 a3 n3 c3 x0.Memories) {r : Bool} (H : f5 x0 x1 x2 = some r) :
  Calls Tryz.prog 5 #[.agg #[.slice a1 n1 c1, .slice a2 n2 c2, .slice a3 n3 c3], .int .i64 x1, .int .i64 x2] w0 (RetV w0 (.bool r)) := by
 have hS := Since.start hS0
 have hO : Owns G0 w0 w0.heap.size [] := Owns.nil (Nat.le_refl _)
 unfold f5 at H
 refine enter1 (N := 90) (shutV _ _) Tryz.func5 rfl rfl rfl rfl ?_; refine zS ?_; refine zO rfl (zW (v := fun b => .pointer (some ⟨b, 0, none⟩)) (cs := [.slice a1 n1 c1, .slice a2 n2 c2, .slice a3 n3 c3]) (e := 26) (rn_boxA rfl) hS.sat rfl (fun b4 G6 w5 hg hcb4 => ?_)); have hS := hS.grow hg; have hO := hO.grow hg
 have leG6 := hg.le
 refine zV (zA (v := (.bool false)) rfl) rfl ?_; refine zN ?_; refine zQ ?_; refine zQ ?_; obtain ⟨q7, hq7, H⟩ := bnd H; refine zM (fun F w => ∃ (Fb : Fr) (G : Gm), F = upds Fb [(1, .int .i64 x1), (2, .int .i64 x2), (3, .pointer (some ⟨b4, 0, none⟩)), (27, .bool q7)] ∧ Gle G6 G ∧ Since w0.heap.size G0 w0 G w ∧ Owns G w w0.heap.size []) ?_ ?_
 ·have Hoq7 := H; have H := hq7; refine zR ?_; refine zV (rn_loadA ag26 (cs := [.slice a1 n1 c1, .slice a2 n2 c2, .slice a3 n3 c3]) rfl rfl (fun j v hj => hS.sat.cell (hcb4.drop_take 0 3 j v hj))) rfl ?_; obtain ⟨y8, hy8, H⟩ := bnd H; refine zO rfl (zC cb6 (f6_ok (x0 := x0) hS.sat (h1.mono RTLandPerson_mono leG6) (h2.mono RTLandEvent_mono leG6) (h3.mono RTLandMemory_mono leG6) hy8) rfl rfl (fun w9 hb => ?_)); have hS := hS.keep hb; have hO := hO.below hb; refine zV (rn_not rfl) rfl ?_; refine zV (zm (v := (.bool (!y8))) rfl) rfl ?_
  rcases bcases (!y8) with hb10 | hb10
  ·have H := ifT hb10 H; refine zG rfl hb10 rfl rfl rfl ?_; refine zG rfl hb10 rfl rfl rfl ?_; refine zG rfl hb10 rfl rfl rfl ?_; refine zV (rn_pickT (v := (.bool true)) rfl hb10 rfl) rfl ?_; refine zV (zm (v := (.bool true)) rfl) rfl ?_; refine zG rfl rfl rfl rfl rfl ?_; refine zG rfl rfl rfl rfl rfl ?_; refine zV (rn_pickT (v := (.bool true)) rfl rfl rfl) rfl ?_; refine zV (zm (v := (.bool true)) rfl) rfl ?_; refine zG rfl rfl rfl rfl rfl ?_; refine zG rfl rfl rfl rfl rfl ?_; refine zV (rn_pickT (v := (.bool true)) rfl rfl rfl) rfl ?_; refine zN ?_
   have hO : Owns _ _ _ ([]) := hO
   have H := oi H; subst H
   exact ⟨_, G6, upds_self _ _ ⟨rfl, rfl, rfl, rfl, trivial⟩, Gle.refl _, hS, hO⟩
  ·have H := ifF hb10 H; refine zY rfl hb10 rfl rfl ?_; refine zV (rn_loadA ag26 (cs := [.slice a1 n1 c1, .slice a2 n2 c2, .slice a3 n3 c3]) rfl rfl (fun j v hj => hS.sat.cell (hcb4.drop_take 0 3 j v hj))) rfl ?_; refine zY rfl hb10 rfl rfl ?_; obtain ⟨y11, hy11, H⟩ := bnd H; refine zO rfl (zC cb9 (f9_ok (x0 := x0) hS.sat (h1.mono RTLandPerson_mono leG6) (h2.mono RTLandEvent_mono leG6) (h3.mono RTLandMemory_mono leG6) hy11) rfl rfl (fun w12 hb => ?_)); have hS := hS.keep hb; have hO := hO.below hb; refine zY rfl hb10 rfl rfl ?_; refine zV (rn_not rfl) rfl ?_; refine zV (rn_pickF (v := (.bool (!y11))) rfl hb10 rfl) rfl ?_; refine zV (zm (v := (.bool (!y11))) rfl) rfl ?_
   rcases bcases (!y11) with hb13 | hb13
   ·have H := ifT hb13 H; refine zG rfl hb13 rfl rfl rfl ?_; refine zG rfl hb13 rfl rfl rfl ?_; refine zV (rn_pickT (v := (.bool true)) rfl hb13 rfl) rfl ?_; refine zV (zm (v := (.bool true)) rfl) rfl ?_; refine zG rfl rfl rfl rfl rfl ?_; refine zG rfl rfl rfl rfl rfl ?_; refine zV (rn_pickT (v := (.bool true)) rfl rfl rfl) rfl ?_; refine zN ?_
    have hO : Owns _ _ _ ([]) := hO
    have H := oi H; subst H
    exact ⟨_, G6, upds_self _ _ ⟨rfl, rfl, rfl, rfl, trivial⟩, Gle.refl _, hS, hO⟩
   ·have H := ifF hb13 H; refine zY rfl hb13 rfl rfl ?_; refine zV (zm (v := (.int .i64 x2)) rfl) rfl ?_; refine zY rfl hb13 rfl rfl ?_; refine zV (rn_lss rfl rfl) rfl ?_; refine zV (rn_pickF (v := (.bool (decide (x2 < 0)))) rfl hb13 rfl) rfl ?_; refine zV (zm (v := (.bool (decide (x2 < 0)))) rfl) rfl ?_
    rcases bcases (decide (x2 < 0)) with hb14 | hb14
    ·have H := ifT hb14 H; refine zG rfl hb14 rfl rfl rfl ?_; refine zG rfl hb14 rfl rfl rfl ?_; refine zV (rn_pickT (v := (.bool true)) rfl hb14 rfl) rfl ?_; refine zN ?_
     have hO : Owns _ _ _ ([]) := hO
     have H := oi H; subst H
     exact ⟨_, G6, upds_self _ _ ⟨rfl, rfl, rfl, rfl, trivial⟩, Gle.refl _, hS, hO⟩
    ·have H := ifF hb14 H; refine zY rfl hb14 rfl rfl ?_; refine zV (zm (v := (.int .i64 x2)) rfl) rfl ?_; refine zY rfl hb14 rfl rfl ?_; refine zV (rn_gtr rfl rfl) rfl ?_; refine zV (rn_pickF (v := (.bool (decide (9 < x2)))) rfl hb14 rfl) rfl ?_; refine zN ?_
     have hO : Owns _ _ _ ([]) := hO
     have H := oi H; subst H
     exact ⟨_, G6, upds_self _ _ ⟨rfl, rfl, rfl, rfl, trivial⟩, Gle.refl _, hS, hO⟩
 ·rintro F w15 ⟨Fb, G16, rfl, leG16, hS, hO⟩
  refine zT rfl (fun hb17 => ?_) (fun hb17 => ?_)
  ·have H := ifT hb17 H; refine zS ?_; obtain ⟨y18, hy18, H⟩ := bnd H
   have l0_2 := leG6.trans leG16
   refine zO rfl (zC cb7 (f7_ok  hS.sat (hT.mono l0_2)  hy18) rfl rfl (fun w19 hb => ?_)); have hS := hS.keep hb; have hO := hO.below hb; refine zV (zA (v := (.bool y18)) rfl) rfl ?_; refine zN ?_; refine WC_ret ?_
   have H : some y18 = some r := H
   have H := oi H; subst H
   exact ⟨rfl, hS.below⟩
  ·have H := ifF hb17 H; refine zP ?_; refine zS ?_; refine zV (rn_loadA ag26 (cs := [.slice a1 n1 c1, .slice a2 n2 c2, .slice a3 n3 c3]) rfl rfl (fun j v hj => (hS.sat.le leG16).cell (hcb4.drop_take 0 3 j v hj))) rfl ?_; obtain ⟨y20, hy20, H⟩ := bnd H
   have l0_2 := leG6.trans leG16
   refine zO rfl (zC cb8 (f8_ok (x0 := x0) hS.sat (hT.mono l0_2) (h1.mono RTLandPerson_mono l0_2) (h2.mono RTLandEvent_mono l0_2) (h3.mono RTLandMemory_mono l0_2) hy20) rfl rfl (fun w21 hb => ?_)); have hS := hS.keep hb; have hO := hO.below hb; refine zV (zm (v := (.tuple #[.string ⟨y20.1.toArray⟩, .int .i64 y20.2])) rfl) rfl ?_; refine zV (zX (v := (.string ⟨y20.1.toArray⟩)) rfl rfl) rfl ?_; refine zV (zX (v := (.int .i64 y20.2)) rfl rfl) rfl ?_; refine zV (zA (v := (.string ⟨y20.1.toArray⟩)) rfl) rfl ?_; refine zV (zA (v := (.int .i64 y20.2)) rfl) rfl ?_; refine zN ?_; refine zQ ?_; refine zS ?_; refine zV (zm (v := (.int .i64 y20.2)) rfl) rfl ?_; refine zV (rn_neq rfl rfl) rfl ?_; refine zN ?_; refine zT rfl (fun hb22 => ?_) (fun hb22 => ?_)
   ·have H := ifT hb22 H; refine zS ?_; refine zV (zA (v := (.bool false)) rfl) rfl ?_; refine zN ?_; refine WC_ret ?_
    have H : some false = some r := H
    have H := oi H; subst H
    exact ⟨rfl, hS.below⟩
   ·have H := ifF hb22 H; refine zP ?_; refine zQ ?_; refine zQ ?_; obtain ⟨q23, hq23, H⟩ := bnd H; refine zM (fun F w => ∃ (Fb : Fr), F = upds Fb [(1, .int .i64 x1), (2, .int .i64 x2), (7, .string ⟨y20.1.toArray⟩), (64, .bool q23)] ∧ w21 = w) ?_ ?_
    ·have Hoq23 := H; have H := hq23; refine zR ?_; refine zV (zm (v := (.int .i64 x1)) rfl) rfl ?_; refine zV (rn_lss rfl rfl) rfl ?_; refine zV (zm (v := (.bool (decide (x1 < 0)))) rfl) rfl ?_
     rcases bcases (decide (x1 < 0)) with hb24 | hb24
     ·have H := ifT hb24 H; refine zG rfl hb24 rfl rfl rfl ?_; refine zG rfl hb24 rfl rfl rfl ?_; refine zG rfl hb24 rfl rfl rfl ?_; refine zG rfl hb24 rfl rfl rfl ?_; refine zV (rn_pickT (v := (.bool true)) rfl hb24 rfl) rfl ?_; refine zV (zm (v := (.bool true)) rfl) rfl ?_; refine zG rfl rfl rfl rfl rfl ?_; refine zG rfl rfl rfl rfl rfl ?_; refine zG rfl rfl rfl rfl rfl ?_; refine zG rfl rfl rfl rfl rfl ?_; refine zV (rn_pickT (v := (.bool true)) rfl rfl rfl) rfl ?_; refine zV (zm (v := (.bool true)) rfl) rfl ?_; refine zG rfl rfl rfl rfl rfl ?_; refine zG rfl rfl rfl rfl rfl ?_; refine zG rfl rfl rfl rfl rfl ?_; refine zG rfl rfl rfl rfl rfl ?_; refine zV (rn_pickT (v := (.bool true)) rfl rfl rfl) rfl ?_; refine zV (zm (v := (.bool true)) rfl) rfl ?_; refine zG rfl rfl rfl rfl rfl ?_; refine zG rfl rfl rfl rfl rfl ?_; refine zG rfl rfl rfl rfl rfl ?_; refine zG rfl rfl rfl rfl rfl ?_; refine zG rfl rfl rfl rfl rfl ?_; refine zG rfl rfl rfl rfl rfl ?_; refine zG rfl rfl rfl rfl rfl ?_; refine zV (rn_pickT (v := (.bool true)) rfl rfl rfl) rfl ?_; refine zN ?_; have H := oi H; subst H
      exact ⟨_, upds_self _ _ ⟨rfl, rfl, rfl, rfl, trivial⟩, rfl⟩
     ·have H := ifF hb24 H; refine zY rfl hb24 rfl rfl ?_; refine zV (zm (v := (.int .i64 x1)) rfl) rfl ?_; refine zY rfl hb24 rfl rfl ?_; refine zV (zm (v := (.string ⟨y20.1.toArray⟩)) rfl) rfl ?_; refine zY rfl hb24 rfl rfl ?_; refine zV (rn_lenS Tryz.underlying9 rfl rfl) rfl ?_; refine zY rfl hb24 rfl rfl ?_; refine zV (rn_geq rfl rfl) rfl ?_; refine zV (rn_pickF (v := (.bool (decide ((y20.1.length : Int) ≤ x1)))) rfl hb24 rfl) rfl ?_; refine zV (zm (v := (.bool (decide ((y20.1.length : Int) ≤ x1)))) rfl) rfl ?_
      rcases bcases (decide ((y20.1.length : Int) ≤ x1)) with hb25 | hb25
      ·have H := ifT hb25 H; refine zG rfl hb25 rfl rfl rfl ?_; refine zG rfl hb25 rfl rfl rfl ?_; refine zG rfl hb25 rfl rfl rfl ?_; refine zG rfl hb25 rfl rfl rfl ?_; refine zV (rn_pickT (v := (.bool true)) rfl hb25 rfl) rfl ?_; refine zV (zm (v := (.bool true)) rfl) rfl ?_; refine zG rfl rfl rfl rfl rfl ?_; refine zG rfl rfl rfl rfl rfl ?_; refine zG rfl rfl rfl rfl rfl ?_; refine zG rfl rfl rfl rfl rfl ?_; refine zV (rn_pickT (v := (.bool true)) rfl rfl rfl) rfl ?_; refine zV (zm (v := (.bool true)) rfl) rfl ?_; refine zG rfl rfl rfl rfl rfl ?_; refine zG rfl rfl rfl rfl rfl ?_; refine zG rfl rfl rfl rfl rfl ?_; refine zG rfl rfl rfl rfl rfl ?_; refine zG rfl rfl rfl rfl rfl ?_; refine zG rfl rfl rfl rfl rfl ?_; refine zG rfl rfl rfl rfl rfl ?_; refine zV (rn_pickT (v := (.bool true)) rfl rfl rfl) rfl ?_; refine zN ?_; have H := oi H; subst H
       exact ⟨_, upds_self _ _ ⟨rfl, rfl, rfl, rfl, trivial⟩, rfl⟩
      ·have H := ifF hb25 H; refine zY rfl hb25 rfl rfl ?_; refine zV (zm (v := (.string ⟨y20.1.toArray⟩)) rfl) rfl ?_; refine zY rfl hb25 rfl rfl ?_; refine zV (zm (v := (.int .i64 x1)) rfl) rfl ?_; refine zY rfl hb25 rfl rfl ?_; obtain ⟨y26, hy26, H⟩ := bnd H; refine zV (rn_idxS Tryz.underlying9 rfl rfl hy26) rfl ?_; refine zY rfl hb25 rfl rfl ?_; refine zV (rn_lss rfl rfl) rfl ?_; refine zV (rn_pickF (v := (.bool (decide ((y26.toNat : Int) < 48)))) rfl hb25 rfl) rfl ?_; refine zV (zm (v := (.bool (decide ((y26.toNat : Int) < 48)))) rfl) rfl ?_
       rcases bcases (decide ((y26.toNat : Int) < 48)) with hb27 | hb27
       ·have H := ifT hb27 H; refine zG rfl hb27 rfl rfl rfl ?_; refine zG rfl hb27 rfl rfl rfl ?_; refine zG rfl hb27 rfl rfl rfl ?_; refine zG rfl hb27 rfl rfl rfl ?_; refine zV (rn_pickT (v := (.bool true)) rfl hb27 rfl) rfl ?_; refine zV (zm (v := (.bool true)) rfl) rfl ?_; refine zG rfl rfl rfl rfl rfl ?_; refine zG rfl rfl rfl rfl rfl ?_; refine zG rfl rfl rfl rfl rfl ?_; refine zG rfl rfl rfl rfl rfl ?_; refine zG rfl rfl rfl rfl rfl ?_; refine zG rfl rfl rfl rfl rfl ?_; refine zG rfl rfl rfl rfl rfl ?_; refine zV (rn_pickT (v := (.bool true)) rfl rfl rfl) rfl ?_; refine zN ?_; have H := oi H; subst H
        exact ⟨_, upds_self _ _ ⟨rfl, rfl, rfl, rfl, trivial⟩, rfl⟩
       ·have H := ifF hb27 H; refine zY rfl hb27 rfl rfl ?_; refine zV (zm (v := (.string ⟨y20.1.toArray⟩)) rfl) rfl ?_; refine zY rfl hb27 rfl rfl ?_; refine zV (zm (v := (.int .i64 x1)) rfl) rfl ?_; refine zY rfl hb27 rfl rfl ?_; obtain ⟨y28, hy28, H⟩ := bnd H; refine zV (rn_idxS Tryz.underlying9 rfl rfl hy28) rfl ?_; refine zY rfl hb27 rfl rfl ?_; refine zV (rn_gtr rfl rfl) rfl ?_; refine zV (rn_pickF (v := (.bool (decide (57 < (y28.toNat : Int))))) rfl hb27 rfl) rfl ?_; refine zV (zm (v := (.bool (decide (57 < (y28.toNat : Int))))) rfl) rfl ?_
        rcases bcases (decide (57 < (y28.toNat : Int))) with hb29 | hb29
        ·have H := ifT hb29 H; refine zG rfl hb29 rfl rfl rfl ?_; refine zG rfl hb29 rfl rfl rfl ?_; refine zG rfl hb29 rfl rfl rfl ?_; refine zG rfl hb29 rfl rfl rfl ?_; refine zG rfl hb29 rfl rfl rfl ?_; refine zG rfl hb29 rfl rfl rfl ?_; refine zG rfl hb29 rfl rfl rfl ?_; refine zV (rn_pickT (v := (.bool true)) rfl hb29 rfl) rfl ?_; refine zN ?_; have H := oi H; subst H
         exact ⟨_, upds_self _ _ ⟨rfl, rfl, rfl, rfl, trivial⟩, rfl⟩
        ·have H := ifF hb29 H; refine zY rfl hb29 rfl rfl ?_; refine zV (zm (v := (.string ⟨y20.1.toArray⟩)) rfl) rfl ?_; refine zY rfl hb29 rfl rfl ?_; refine zV (zm (v := (.int .i64 x1)) rfl) rfl ?_; refine zY rfl hb29 rfl rfl ?_; obtain ⟨y30, hy30, H⟩ := bnd H; refine zV (rn_idxS Tryz.underlying9 rfl rfl hy30) rfl ?_; refine zY rfl hb29 rfl rfl ?_; refine zV (rn_sub rfl rfl) rfl ?_; refine zY rfl hb29 rfl rfl ?_; refine zV (rn_conv Tryz.underlying5 Tryz.underlying3 rfl) rfl ?_; refine zY rfl hb29 rfl rfl ?_; refine zV (zm (v := (.int .i64 x2)) rfl) rfl ?_; refine zY rfl hb29 rfl rfl ?_; refine zV (rn_eql rfl rfl) rfl ?_; refine zV (rn_pickF (v := (.bool ((IntKind.i64.wrap (IntKind.u8.wrap ((y30.toNat : Int) - 48))) == x2))) rfl hb29 rfl) rfl ?_; refine zN ?_; have H := oi H; subst H
         exact ⟨_, upds_self _ _ ⟨rfl, rfl, rfl, rfl, trivial⟩, rfl⟩
    ·rintro F wl ⟨Fb, rfl, rfl⟩
     refine zT rfl (fun hb33 => ?_) (fun hb33 => ?_)
     ·have H := ifT hb33 H; refine zS ?_; obtain ⟨y34, hy34, H⟩ := bnd H; refine zO rfl (zC cb7 (f7_ok  hS.sat (hT.mono l0_2)  hy34) rfl rfl (fun w35 hb => ?_)); have hS := hS.keep hb; have hO := hO.below hb; refine zV (zA (v := (.bool y34)) rfl) rfl ?_; refine zN ?_; refine WC_ret ?_
      have H : some y34 = some r := H
      have H := oi H; subst H
      exact ⟨rfl, hS.below⟩
     ·have H := ifF hb33 H; refine zP ?_; refine zS ?_; refine zV (zm (v := (.string ⟨y20.1.toArray⟩)) rfl) rfl ?_; refine zO rfl (OpP_convSB Tryz.underlying9 Tryz.underlying39 Tryz.underlying5 hS hO rfl rfl (fun g36 cg36 w37 hS hO hBg36 => ?_))
      have hO : Owns _ _ _ ([]) := hO
      refine zV (zA (v := (.slice (some ⟨g36, 0, none⟩) y20.1.length cg36)) rfl) rfl ?_; refine zN ?_; refine zS ?_; refine zV (zm (v := (.slice (some ⟨g36, 0, none⟩) y20.1.length cg36)) rfl) rfl ?_; refine zV (zm (v := (.int .i64 x1)) rfl) rfl ?_; refine zV (zm (v := (.int .i64 x2)) rfl) rfl ?_; refine zV (rn_add rfl rfl) rfl ?_; refine zV (rn_conv Tryz.underlying3 Tryz.underlying5 rfl) rfl ?_; obtain ⟨_, hj38, H⟩ := bnd H; refine zV (rn_idxB sl39 rfl rfl (inL_some hj38)) rfl ?_; obtain ⟨y39, hy39, H⟩ := bnd H; refine zO rfl (OpP_storeB sz5 hS hO hBg36 rfl rfl hy39 (fun w40 hS hO hBy39 => ?_))
      have hlny39 : y20.1.length = y39.length := setIx_len hy39
      have hO : Owns _ _ _ ([]) := hO
      refine zN ?_; refine zS ?_; refine zV (zm (v := (.slice (some ⟨g36, 0, none⟩) y20.1.length cg36)) rfl) rfl ?_; refine zV (rn_convBS hlny39 Tryz.underlying39 Tryz.underlying5 Tryz.underlying9 hBy39 rfl) rfl ?_; obtain ⟨y41, hy41, H⟩ := bnd H; refine zO rfl (OpP_callG cb10 (f10_ok (x0 := y39) hS.sat (hT.mono l0_2)  hy41) rfl rfl (fun vy41 G43 w42 hg hvy41 => ?_)); obtain ⟨a44, n44, c44, a45, n45, c45, a46, n46, c46, ⟨⟩, h44, h45, h46⟩ := hvy41; have hS := hS.grow hg; have hO := hO.grow hg
      have leG43 := hg.le
      refine zV (zm (v := (.tuple #[.agg #[.slice a44 n44 c44, .slice a45 n45 c45, .slice a46 n46 c46], .int .i64 y41.2])) rfl) rfl ?_; refine zV (zX (v := (.agg #[.slice a44 n44 c44, .slice a45 n45 c45, .slice a46 n46 c46])) rfl rfl) rfl ?_; refine zV (zX (v := (.int .i64 y41.2)) rfl rfl) rfl ?_
      refine zO rfl (zU (v := fun b => .pointer (some ⟨b, 0, none⟩)) (cs := [.slice none 0 0, .slice none 0 0, .slice none 0 0]) (e := 26) (by kernel_rfl) hS.sat hO rfl 3 1 rfl (by decide) (fun b47 w48 hb hO => ?_))
      have hS := hS.keep hb; refine zO rfl (OpP_store (vs := [.slice a44 n44 c44, .slice a45 n45 c45, .slice a46 n46 c46]) sz26 hS hO (k := 0) rfl rfl rfl rfl rfl (one_all rfl) (Nat.le_of_ble_eq_true rfl) (fun w50 hS hO => ?_))
      have hO : Owns _ _ _ ([zb 26 3 b47 [.slice a44 n44 c44, .slice a45 n45 c45, .slice a46 n46 c46]]) := hO
      obtain ⟨G51, leG51, hS, hO, hqG51, _⟩ := hO.freeze hS (k := 0) rfl
      have hcG51 : Cells G51 b47 0 [.slice a44 n44 c44, .slice a45 n45 c45, .slice a46 n46 c46] := (hqG51 _ _ _ _ rfl)
      refine zV (zA (v := (.int .i64 y41.2)) rfl) rfl ?_; refine zN ?_; refine zQ ?_; obtain ⟨q52, hq52, H⟩ := bnd H; refine zM (fun F w => ∃ (Fb : Fr) (G : Gm), F = upds Fb [(6, .bool q52)] ∧ Gle G51 G ∧ Since w0.heap.size G0 w0 G w ∧ Owns G w w0.heap.size []) ?_ ?_
      ·have Hoq52 := H; have H := hq52; refine zR ?_; refine zV (zm (v := (.int .i64 y41.2)) rfl) rfl ?_; refine zV (rn_eql rfl rfl) rfl ?_; refine zV (zm (v := (.bool (y41.2 == 4))) rfl) rfl ?_
       rcases bcases (y41.2 == 4) with hb53 | hb53
       ·have H := ifT hb53 H; refine zY rfl hb53 rfl rfl ?_; refine zV (rn_loadA ag26 (cs := [.slice a44 n44 c44, .slice a45 n45 c45, .slice a46 n46 c46]) rfl rfl (fun j v hj => hS.sat.cell (hcG51.drop_take 0 3 j v hj))) rfl ?_; refine zY rfl hb53 rfl rfl ?_
        refine zV (v := (.agg #[.slice none 0 0, .slice none 0 0, .slice none 0 0])) (by kernel_rfl) rfl ?_
        refine zY rfl hb53 rfl rfl ?_; obtain ⟨y54, hy54, H⟩ := bnd H; refine zO rfl (zC cb12 (f12_ok (x0 := y41.1) (x1 := (⟨[], [], []⟩ : TLandBook)) hS.sat (h44.mono RTLandPerson_mono leG51) (h45.mono RTLandEvent_mono leG51) (h46.mono RTLandMemory_mono leG51) (RSl.nil RTLandPerson 2 G51 none) (RSl.nil RTLandEvent 2 G51 none) (RSl.nil RTLandMemory 4 G51 none) hy54) rfl rfl (fun w55 hb => ?_)); have hS := hS.keep hb; have hO := hO.below hb; refine zV (rn_pickT (v := (.bool y54)) rfl hb53 rfl) rfl ?_; refine zV (zm (v := (.bool y54)) rfl) rfl ?_
        rcases bcases y54 with hb56 | hb56
        ·have H := ifT hb56 H; refine zY rfl hb56 rfl rfl ?_; obtain ⟨y57, hy57, H⟩ := bnd H
         have l0_4 := (l0_2.trans leG43).trans leG51
         refine zO rfl (zC cb7 (f7_ok  hS.sat (hT.mono l0_4)  hy57) rfl rfl (fun w58 hb => ?_)); have hS := hS.keep hb; have hO := hO.below hb; refine zV (rn_pickT (v := (.bool y57)) rfl hb56 rfl) rfl ?_; refine zV (zA (v := (.bool y57)) rfl) rfl ?_; refine zN ?_
         have hO : Owns _ _ _ ([]) := hO
         have H := oi H; subst H
         exact ⟨_, G51, upds_self _ _ ⟨rfl, trivial⟩, Gle.refl _, hS, hO⟩
        ·have H := ifF hb56 H; refine zG rfl hb56 rfl rfl rfl ?_; refine zV (rn_pickF (v := (.bool false)) rfl hb56 rfl) rfl ?_; refine zV (zA (v := (.bool false)) rfl) rfl ?_; refine zN ?_
         have hO : Owns _ _ _ ([]) := hO
         have H := oi H; subst H
         exact ⟨_, G51, upds_self _ _ ⟨rfl, trivial⟩, Gle.refl _, hS, hO⟩
       ·have H := ifF hb53 H; refine zG rfl hb53 rfl rfl rfl ?_; refine zG rfl hb53 rfl rfl rfl ?_; refine zG rfl hb53 rfl rfl rfl ?_; refine zV (rn_pickF (v := (.bool false)) rfl hb53 rfl) rfl ?_; refine zV (zm (v := (.bool false)) rfl) rfl ?_; refine zG rfl rfl rfl rfl rfl ?_; refine zV (rn_pickF (v := (.bool false)) rfl rfl rfl) rfl ?_; refine zV (zA (v := (.bool false)) rfl) rfl ?_; refine zN ?_
        have hO : Owns _ _ _ ([]) := hO
        have H := oi H; subst H
        exact ⟨_, G51, upds_self _ _ ⟨rfl, trivial⟩, Gle.refl _, hS, hO⟩
      ·rintro F w59 ⟨Fb, G60, rfl, leG60, hS, hO⟩
       refine WC_ret ?_
       have H : some q52 = some r := H
       have H := oi H; subst H
       exact ⟨rfl, hS.below⟩
end Go.Proofs.YtcaflmilfhhikaaGreatDoor
