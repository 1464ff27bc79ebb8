/-
 The council: what tells a memory.
-/
import Derived.Test.YtncjnffbdhckdaaGreatDoorCe
namespace Go.Proofs.YtncjnffbdhckdaaGreatDoor
open Go.RowKit
set_option linter.unusedVariables false
set_option maxRecDepth 20000
theorem cb30c : callB Tryz.prog 30 = true := by kernel_rfl
theorem cb31c : callB Tryz.prog 31 = true := by kernel_rfl
theorem f30_own {B : Nat} {G0 : Gm} {w0 : World} {Gc : Gm} {wc : World} {L : List Row} (hS : Since B G0 w0 Gc wc) (hO : Owns Gc wc B L) {xs : List TLandMemory} {a1 : Option Addr} {n1 c1 : Nat} (h1 : RSl RTLandMemory 4 Gc a1 n1 c1 xs) (hl : xs.length ≤ 1073741824) :
  Calls Tryz.prog 30 [.slice a1 n1 c1].toArray wc (RetO B G0 w0 Gc wc (fun G' L' v => ∃ a c cells, v = .slice a xs.length c ∧ L' = ⟨59, 4, xs.length, .slice a xs.length c, cells⟩ :: L ∧ Rd RTLandMemory 4 G' cells xs)) := by
 refine enterL (N := 5) (rs := [.tmp 2]) hO.base Tryz.func30 rfl rfl rfl rfl (zQ (zR (zV (zA (v := .slice none 0 0) rfl) rfl (zN (zQ (zR (zV (zm (v := .slice a1 n1 c1) rfl) rfl ?_)))))))
 have hO := hO.cons_nil 59 4
 refine zO rfl (OpP_append (k := 0) sl30 RTLandMemory_one hS hO rfl rfl (Rd.nil RTLandMemory 4 Gc) h1 (app_s [] xs (by simpa using hl)) rfl rfl rfl rfl rfl fun a c w1 cells hS hO hr => ?_)
 refine zV (zA (v := .slice a xs.length c) rfl) rfl (zN (zr ?_))
 exact ⟨[.slice a xs.length c], ⟨rfl, trivial⟩, Gc, _, Gle.refl _, hS, hO, _, _, _, rfl, rfl, hr⟩
abbrev rowB (b : Nat) (l : List Value) : Row := ⟨32, 3, 1, .slice (some ⟨b, 0, none⟩) 1 1, l⟩
set_option maxHeartbeats 1000000 in
theorem f29_ok {B : Nat} {G0 : Gm} {w0 : World} {G : Gm} {w : World} {Lq0 : List Row} {b n bb c d : Nat} {cc ac : List Value} {va x0 x1 x2 : Value} {ps : List TLandPerson} {es : List TLandEvent} {xs : List TLandMemory} {x : TLandMemory} {a1 a2 a3 : Option Addr} {n1 c1 n2 c2 n3 c3 : Nat}
  (hS : Since B G0 w0 G w) (hO : Owns G w B (rowC b cc :: rowA n va ac :: rowB bb [x0, x1, x2] :: Lq0)) (h17 : cc[17]? = some (.slice a1 n1 c1)) (h18 : cc[18]? = some (.slice a2 n2 c2)) (h19 : cc[19]? = some (.slice a3 n3 c3))
  (hc : Cells G c 0 [pV b]) (hd : Cells G d 0 (mC x)) (h1 : RSl RTLandPerson 2 G a1 n1 c1 ps) (h2 : RSl RTLandEvent 2 G a2 n2 c2 es) (h3 : RSl RTLandMemory 4 G a3 n3 c3 xs) (hl : xs.length ≤ 1000) {r : List Int × Int} (H : f31 ⟨ps, es, xs ++ [x]⟩ = some r) :
  Calls Tryz.prog 29 [pV c, pV bb, pV d].toArray w (RetO B G0 w0 G w (fun G' L' v => v = iV (cond (r.2 == 0) 0 7) ∧ ∃ Lq', L' = rowC b cc :: rowA n va ac :: Lq' ∧ ∃ a4 n4 c4, Lq' = rowB bb [.slice a1 n1 c1, .slice a2 n2 c2, .slice a4 n4 c4] :: Lq0 ∧ RSl RTLandMemory 4 G' a4 n4 c4 (xs ++ [x]))) := by
 have book : ∀ {w : World} {L : List Row}, Owns G w B (rowC b cc :: L) → ∀ (j : Nat) v, [Value.slice a1 n1 c1, .slice a2 n2 c2, .slice a3 n3 c3][j]? = some v → w.cell? ⟨b, 17 + j, none⟩ = some v := fun hO j v hj => by
  match j, hj with
  | 0, hj => cases hj; exact own_cell hO (k := 0) rfl h17
  | 1, hj => cases hj; exact own_cell hO (k := 0) rfl h18
  | 2, hj => cases hj; exact own_cell hO (k := 0) rfl h19
  | j + 3, hj => simp at hj
 refine enterL (N := 30) (rs := [.tmp 3]) hO.base Tryz.func29 rfl rfl rfl rfl (zQ (zR (zV (zA (v := iV 0) rfl) rfl (zN (zQ (zR (zV (zL na50c rfl (hS.sat.cell (hc 0 _ rfl))) rfl (zV (v := pV b) (by kernel_rfl) rfl (zV (zF fd87_0 rfl) rfl (zV (zF fd49_2 rfl) rfl (zV (rn_loadA (cs := [.slice a1 n1 c1, .slice a2 n2 c2, .slice a3 n3 c3]) ag32 rfl rfl (book hO)) rfl ?_)))))))))))
 refine zO rfl (OpP_store (vs := [.slice a1 n1 c1, .slice a2 n2 c2, .slice a3 n3 c3]) sz32c hS hO (k := 2) rfl rfl rfl rfl rfl (one_all rfl) (Nat.le_of_ble_eq_true rfl) fun w1 hS hO => ?_)
 have hO : Owns _ _ _ (rowC b cc :: rowA n va ac :: rowB bb [.slice a1 n1 c1, .slice a2 n2 c2, .slice a3 n3 c3] :: Lq0) := hO
 refine zN (zQ (zM (fun F w => ∃ (Fb : Fr) (G9 : Gm) (a9 : Option Addr) (c9 : Nat), F = upds Fb [(1, pV bb)] ∧ Gle G G9 ∧ Since B G0 w0 G9 w ∧ Owns G9 w B (rowC b cc :: rowA n va ac :: rowB bb [.slice a1 n1 c1, .slice a2 n2 c2, .slice a9 (xs ++ [x]).length c9] :: Lq0) ∧ RSl RTLandMemory 4 G9 a9 (xs ++ [x]).length c9 (xs ++ [x]))
  (WC_regionD mixedO (fun _ w => Sat G w ∧ w.cell? ⟨b, 19, none⟩ = some (.slice a3 n3 c3)) (.fl 0 (.fl 1 (.fl 2 (.fl 3 (.fl 4 (.fl 5 (.fl 7 (.two 6 (.on 8 (.on 9 (.on 10 (.on 11 .nil)))) 8 (.on 6 (.on 9 (.on 10 (.on 11 .nil)))))))))))) (by kernel_rfl) rfl (by kernel_rfl) (fun _ => ⟨(hS.keep (below_drew _)).sat, cell_below (below_drew _) (book hO 2 _ rfl)⟩) ?_) ?_))
 ·have hS := hS.keep (below_drew w1)
  have hO := hO.below (below_drew w1)
  refine zD rfl (fun w hw => zL na50c rfl (hw.1.cell (hc 0 _ rfl))) rfl (zD (v := pV b) rfl (fun w hw => by kernel_rfl) rfl (zD rfl (fun w hw => zF fd87_0 rfl) rfl (zD rfl (fun w hw => zF fd49_2 rfl) rfl (zD rfl (fun w hw => zF fd32_2c rfl) rfl (zD rfl (fun w hw => zL na30c rfl hw.2) rfl (zD rfl (fun w hw => rn_loadA (cs := mC x) ag59 rfl rfl fun j v hj => hw.1.cell (hd j v hj)) rfl (WD_two ?_ ?_)))))))
  ·refine zE rfl rfl (OpP_lent (fi := []) (al := [.slice a3 n3 c3]) (ca := []) cb30c (f30_own hS hO h3 (by omega)) rfl rfl rfl fun v G5 w7 L7 le5 hS hO hv => ?_)
   obtain ⟨a8, c8, cells8, rfl, rfl, hr8⟩ := hv
   refine ⟨fun _ _ => ⟨hS.sat.le le5, own_cell hO (k := 1) rfl h19⟩, ?_⟩
   refine zE rfl rfl (OpP_newF (v := fun b => .slice (some ⟨b, 0, none⟩) 1 1) (cs := mC x) (e := 59) (by kernel_rfl) hS.sat rfl fun b11 G6 w8 hg hc11 => ?_)
   have hS := hS.grow hg
   have hO := hO.grow hg
   refine ⟨fun _ _ => ⟨hS.sat.le (le5.trans hg.le), own_cell hO (k := 1) rfl h19⟩, ?_⟩
   refine zE rfl rfl (OpP_append (k := 0) sl30 RTLandMemory_one hS hO rfl rfl (hr8.mono RTLandMemory_mono hg.le) (RSl.of_rd hc11 (Rd.cons (c := mC x) rfl rfl (Rd.nil _ _ _)) rfl (show 1 ≤ maxLen by decide)) (app_s xs [x] (by simp; omega)) rfl rfl rfl rfl rfl fun a9 c9 w9 ac9 hS hO hrd => ?_)
   have hzl : (xs ++ [x]).length = xs.length + 1 := by simp
   obtain ⟨G9, le9, hS, hO, hr9⟩ := hO.freezeS hS RTLandMemory_mono (k := 0) rfl hrd rfl
   have hO : Owns _ _ _ (rowC b cc :: rowA n va ac :: rowB bb [.slice a1 n1 c1, .slice a2 n2 c2, .slice a3 n3 c3] :: Lq0) := hO
   refine ⟨fun _ h => noneed (by kernel_rfl) h, ?_⟩
   refine zE rfl rfl (OpP_val (zF fd32_2c rfl) rfl ⟨fun _ h => noneed (by kernel_rfl) h, ?_⟩)
   refine zE rfl rfl (OpP_store (vs := [.slice a9 (xs ++ [x]).length c9]) sz30c hS hO (k := 2) rfl rfl rfl rfl rfl (one_all rfl) (Nat.le_of_ble_eq_true rfl) fun w10 hS hO => ⟨fun _ h => noneed (by kernel_rfl) h, zI ?_⟩)
   exact ⟨_, G9, a9, c9, zu _ _ ⟨rfl, trivial⟩, (le5.trans hg.le).trans le9, hS, hO, hr9⟩
  ·refine zE rfl rfl (OpP_newF (v := fun b => .slice (some ⟨b, 0, none⟩) 1 1) (cs := mC x) (e := 59) (by kernel_rfl) hS.sat rfl fun b11 G6 w8 hg hc11 => ?_)
   have hS := hS.grow hg
   have hO := hO.grow hg
   refine ⟨fun _ _ => ⟨hS.sat.le hg.le, own_cell hO (k := 0) rfl h19⟩, ?_⟩
   refine zE rfl rfl (OpP_lent (fi := []) (al := [.slice a3 n3 c3]) (ca := []) cb30c (f30_own hS hO (h3.mono RTLandMemory_mono hg.le) (by omega)) rfl rfl rfl fun v G5 w7 L7 le5 hS hO hv => ?_)
   obtain ⟨a8, c8, cells8, rfl, rfl, hr8⟩ := hv
   refine ⟨fun _ _ => ⟨hS.sat.le (hg.le.trans le5), own_cell hO (k := 1) rfl h19⟩, ?_⟩
   refine zE rfl rfl (OpP_append (k := 0) sl30 RTLandMemory_one hS hO rfl rfl hr8 (RSl.of_rd (hc11.mono le5) (Rd.cons (c := mC x) rfl rfl (Rd.nil _ _ _)) rfl (show 1 ≤ maxLen by decide)) (app_s xs [x] (by simp; omega)) rfl rfl rfl rfl rfl fun a9 c9 w9 ac9 hS hO hrd => ?_)
   have hzl : (xs ++ [x]).length = xs.length + 1 := by simp
   obtain ⟨G9, le9, hS, hO, hr9⟩ := hO.freezeS hS RTLandMemory_mono (k := 0) rfl hrd rfl
   have hO : Owns _ _ _ (rowC b cc :: rowA n va ac :: rowB bb [.slice a1 n1 c1, .slice a2 n2 c2, .slice a3 n3 c3] :: Lq0) := hO
   refine ⟨fun _ h => noneed (by kernel_rfl) h, ?_⟩
   refine zE rfl rfl (OpP_val (zF fd32_2c rfl) rfl ⟨fun _ h => noneed (by kernel_rfl) h, ?_⟩)
   refine zE rfl rfl (OpP_store (vs := [.slice a9 (xs ++ [x]).length c9]) sz30c hS hO (k := 2) rfl rfl rfl rfl rfl (one_all rfl) (Nat.le_of_ble_eq_true rfl) fun w10 hS hO => ⟨fun _ h => noneed (by kernel_rfl) h, zI ?_⟩)
   exact ⟨_, G9, a9, c9, zu _ _ ⟨rfl, trivial⟩, (hg.le.trans le5).trans le9, hS, hO, hr9⟩
 ·rintro F w9 ⟨Fb, G9, a9, c9, rfl, le9, hS, hO, hr9⟩
  refine zQ (zR (zV (rn_loadA (cs := [.slice a1 n1 c1, .slice a2 n2 c2, .slice a9 (xs ++ [x]).length c9]) ag32 rfl rfl fun j v hj => by rw [Nat.zero_add]; exact own_cell hO (k := 2) rfl hj) rfl ?_))
  refine zO rfl (OpP_callG cb31c (f31_ok (x0 := ⟨ps, es, xs ++ [x]⟩) hS.sat (h1.mono RTLandPerson_mono le9) (h2.mono RTLandEvent_mono le9) hr9 H) rfl rfl fun v G10 w10 hg hv => ?_)
  obtain ⟨ra, rn, rc, rfl, hr10⟩ := hv
  have hS := hS.grow hg
  have hO := hO.grow hg
  refine zV (zm (v := .tuple #[.slice ra rn rc, iV r.2]) rfl) rfl (zV (zX rfl rfl) rfl (zV (zX rfl rfl) rfl (zV (zA (v := .slice ra rn rc) rfl) rfl (zV (zA (v := iV r.2) rfl) rfl (zN (zQ (zR (zV (zm (v := iV r.2) rfl) rfl (zV (rn_eql rfl rfl) rfl ?_)))))))))
  refine zO rfl (zC cb32c (f32_val (r.2 == 0) 7 w10) rfl rfl fun w11 hb => ?_)
  have hS := hS.keep hb
  have hO := hO.below hb
  refine zV (zA (v := iV (cond (r.2 == 0) 0 7)) rfl) rfl (zN (zr ?_))
  exact ⟨[iV (cond (r.2 == 0) 0 7)], ⟨rfl, trivial⟩, G10, _, le9.trans hg.le, hS, hO, rfl, _, rfl, a9, _, c9, rfl, hr9.mono RTLandMemory_mono hg.le⟩
end Go.Proofs.YtncjnffbdhckdaaGreatDoor
