/-
 The council: a memory is told.
-/
import Derived.Test.YtncjnffbdhckdaaGreatDoorCf
namespace Go.Proofs.YtncjnffbdhckdaaGreatDoor
open Go.RowKit
set_option linter.unusedVariables false
set_option maxRecDepth 20000
theorem cb25c : callB Tryz.prog 25 = true := by kernel_rfl
theorem cb28c : callB Tryz.prog 28 = true := by kernel_rfl
theorem cb80c : callB Tryz.prog 80 = true := by kernel_rfl
theorem cb27c : callB Tryz.prog 27 = true := by kernel_rfl
theorem cb29c : callB Tryz.prog 29 = true := by kernel_rfl
theorem cb24c : callB Tryz.prog 24 = true := by kernel_rfl
structure CoS (G : Gm) (cc : List Value) (va : Value) (bk : TLandBook) : Prop where
 len : cc.length = 62
 c60 : cc[60]? = some va
 c61 : cc[61]? = some (.bool true)
 book : ∃ (a1 : Option Addr) (n1 c1 : Nat) (a2 : Option Addr) (n2 c2 : Nat) (a3 : Option Addr) (n3 c3 : Nat), cc[17]? = some (.slice a1 n1 c1) ∧ cc[18]? = some (.slice a2 n2 c2) ∧ cc[19]? = some (.slice a3 n3 c3) ∧
  RSl RTLandPerson 2 G a1 n1 c1 bk.People ∧ RSl RTLandEvent 2 G a2 n2 c2 bk.Events ∧ RSl RTLandMemory 4 G a3 n3 c3 bk.Memories
theorem CoW.of {G : Gm} {w : World} {B b : Nat} {cc : List Value} {L : List Row} {p e m a : Value} (hO : Owns G w B (rowC b cc :: L)) (h17 : cc[17]? = some p) (h18 : cc[18]? = some e) (h19 : cc[19]? = some m) (h60 : cc[60]? = some a) (h61 : cc[61]? = some (.bool true)) : CoW w b p e m a :=
 ⟨own_cell hO (k := 0) rfl h17, own_cell hO (k := 0) rfl h18, own_cell hO (k := 0) rfl h19, own_cell hO (k := 0) rfl h60, own_cell hO (k := 0) rfl h61⟩
abbrev tellV (x : TLandMemory) : Value := .iface 82 (.agg (mC x).toArray)
set_option maxHeartbeats 1000000 in
theorem f10_ok {B : Nat} {G0 : Gm} {w0 : World} {Gc : Gm} {wc : World} {Lq : List Row} {b n : Nat} {cc ac : List Value} {xs : List Value} {ad : Option Addr} {cp0 : Nat} {bk : TLandBook} {x : TLandMemory}
  (hS : Since B G0 w0 Gc wc) (hO : Owns Gc wc B (rowC b cc :: rowA n (.slice ad n cp0) ac :: Lq)) (h2B : 2 ≤ B) (hcs : CoS Gc cc (.slice ad n cp0) bk) (hn : n < 100) (hxs : n = xs.length) (hrd : Rd RAct 1 Gc ac xs)
  (hml : bk.Memories.length < 10) (h26 : f26 ⟨bk.People, bk.Events, [x]⟩ = some 0) {r : List Int × Int} (H : f31 ⟨bk.People, bk.Events, bk.Memories ++ [x]⟩ = some r) :
  Calls Tryz.prog 10 [pV b, .agg (mC x).toArray].toArray wc (RetO B G0 w0 Gc wc (fun G' L' v => (r.2 ≠ 0 ∧ v = iV 7 ∧ L' = rowC b cc :: rowA n (.slice ad n cp0) ac :: Lq) ∨
   (r.2 = 0 ∧ v = iV 0 ∧ ∃ cc' ad' cp' ac', L' = rowC b cc' :: rowA (n + 1) (.slice ad' (n + 1) cp') ac' :: Lq ∧ CoS G' cc' (.slice ad' (n + 1) cp') ⟨bk.People, bk.Events, bk.Memories ++ [x]⟩ ∧ Rd RAct 1 G' ac' (xs ++ [tellV x])))) := by
 obtain ⟨a1, n1, c1, a2, n2, c2, a3, n3, c3, h17, h18, h19, h1, h2, h3⟩ := hcs.book
 have hn3 : n3 = bk.Memories.length := h3.1
 refine enterL (N := 25) (rs := [.tmp 4]) hO.base Tryz.func10 rfl rfl rfl rfl (zQ (zR ?_))
 refine zO rfl (OpP_newF (v := fun b => pV b) (cs := [pV b]) (e := 50) (by kernel_rfl) hS.sat rfl fun bC G1 w1 hg1 hcC => ?_)
 have hS := hS.grow hg1
 have hO := hO.grow hg1
 refine zO rfl (OpP_newF (v := fun b => pV b) (cs := mC x) (e := 59) (rn_boxA rfl) hS.sat rfl fun bM G2 w2 hg2 hcM => ?_)
 have hS := hS.grow hg2
 have hO := hO.grow hg2
 refine zV (zA (v := iV 0) rfl) rfl (zN (zQ (zR ?_)))
 refine zO rfl (zU (v := fun b => pV b) (cs := [.slice none 0 0, .slice none 0 0, .slice none 0 0]) (e := 32) (by kernel_rfl) hS.sat hO rfl 3 1 rfl (by decide) fun bb w3 hb hO => ?_)
 have hS := hS.keep hb
 have hO : Owns G2 w3 B (rowC b cc :: rowA n (.slice ad n cp0) ac :: rowB bb [.slice none 0 0, .slice none 0 0, .slice none 0 0] :: Lq) := hO.perm (by
  refine (List.Perm.swap _ _ _).trans (.cons _ (List.Perm.swap _ _ _)))
 have hcC := hcC.mono hg2.le
 have le2 : Gle Gc G2 := hg1.le.trans hg2.le
 refine zN (zQ (zQ (WC_regionD mixedO (fun _ w => Sat G2 w) (.fl 0 (.fl 1 (.fl 2 (.fl 3 (.fl 4 (.fl 5 (.fl 7 (.on 6 (.on 8 (.on 9 (.on 10 .nil))))))))))) (by kernel_rfl) rfl (by kernel_rfl) (fun _ => (hS.keep (below_drew _)).sat) ?_)))
 have hS := hS.keep (below_drew w3)
 have hO := hO.below (below_drew w3)
 refine zD rfl (fun w hw => zL na50c rfl (hw.cell (hcC 0 _ rfl))) rfl (zD rfl (fun w hw => rn_loadA (cs := mC x) ag59 rfl rfl fun j v hj => hw.cell (hcM j v hj)) rfl (zD (v := .agg (mC x).toArray) rfl (fun w hw => by kernel_rfl) rfl (zD (v := tellV x) rfl (fun w hw => by kernel_rfl) rfl
  (zD rfl (fun w hw => rn_func (vs := []) (us := [pV bC, pV bM]) rfl rfl) rfl (zD rfl (fun w hw => rn_func (vs := []) (us := [pV bC]) rfl rfl) rfl (zD rfl (fun w hw => rn_func (vs := []) (us := [pV bC, pV bb, pV bM]) rfl rfl) rfl ?_))))))
 refine zE rfl rfl (OpP_callG cb27c (f27_ok hS.sat (f := .func 28) (a := #[]) (b := #[pV bC])) rfl rfl fun v G3 w4 hg3 hv => ?_)
 obtain ⟨bS, rfl, hcS⟩ := hv
 have hS := hS.grow hg3
 have hO := hO.grow hg3
 refine ⟨fun _ _ => hS.sat.le hg3.le, ?_⟩
 refine zE rfl rfl (OpP_newF (v := fun b => .slice (some ⟨b, 0, none⟩) 2 2) (cs := [.func (.func 80) #[] #[pV bS], .func (.func 29) #[] #[pV bC, pV bb, pV bM]]) (e := 89) (by kernel_rfl) hS.sat rfl fun bm G4 w5 hg4 hcm => ?_)
 have hS := hS.grow hg4
 have hO := hO.grow hg4
 refine ⟨fun _ _ => hS.sat.le (hg3.le.trans hg4.le), ?_⟩
 have le4 : Gle Gc G4 := (le2.trans hg3.le).trans hg4.le
 have hcC := hcC.mono (hg3.le.trans hg4.le)
 have hcM := hcM.mono (hg3.le.trans hg4.le)
 have hcS := hcS.mono hg4.le
 have h1 := h1.mono RTLandPerson_mono le4
 have h2 := h2.mono RTLandEvent_mono le4
 have h3 := h3.mono RTLandMemory_mono le4
 have hco : ∀ {w : World} {G : Gm} {L : List Row}, Owns G w B (rowC b cc :: L) → CoW w b (.slice a1 n1 c1) (.slice a2 n2 c2) (.slice a3 n3 c3) (.slice ad n cp0) := fun hO => .of hO h17 h18 h19 hcs.c60 hcs.c61
 refine zE rfl rfl (OpP_lent (fi := []) (al := [pV b, tellV x, .func (.func 25) #[] #[pV bC, pV bM], .slice (some ⟨bm, 0, none⟩) 2 2]) (ca := []) cb24c
  (f24_ok (kr := 25) (cr := [pV bC, pV bM]) (k1 := 80) (c1 := [pV bS]) (k2 := 29) (c2 := [pV bC, pV bb, pV bM]) (e2 := cond (r.2 == 0) 0 7)
   (Ψ := fun G' Lq' => ∃ a4 n4 c4, Lq' = rowB bb [.slice a1 n1 c1, .slice a2 n2 c2, .slice a4 n4 c4] :: Lq ∧ RSl RTLandMemory 4 G' a4 n4 c4 (bk.Memories ++ [x]))
   hS hO h2B (by decide) hcm
   ⟨cb25c, fun G w hle hS hO => by
    have := f25_ok (bk := bk) (x := x) hS.sat (h1.mono RTLandPerson_mono hle) (h2.mono RTLandEvent_mono hle) (hco hO) (hS.sat.cell ((hcC.mono hle) 0 _ rfl)) (fun j v hj => hS.sat.cell ((hcM.mono hle) j v hj)) h26
    exact this⟩
   (fun G w hle hS hO => ⟨_, _, _, hco hO⟩) hn hxs (hrd.mono RAct_mono le4) hcs.c60 hcs.len
   ⟨cb80c, fun G w hle hS hO => by
    have h := f28_ok (hco hO) (hS.sat.cell ((hcC.mono hle) 0 _ rfl))
    rw [show decide ((n3 : Int) < 10) = true by simp; omega] at h
    exact f80_ok' (is := true) (ca := [pV bC]) (hS.sat.cell ((hcS.mono hle) 0 _ rfl)) cb28c h⟩
   (fun G G' L hle ⟨a4, n4, c4, h, hr⟩ => ⟨a4, n4, c4, h, hr.mono RTLandMemory_mono hle⟩)
   ⟨cb29c, fun G w hle hS hO => f29_ok (ps := bk.People) (es := bk.Events) (xs := bk.Memories) hS hO h17 h18 h19 (hcC.mono hle) (hcM.mono hle) (h1.mono RTLandPerson_mono hle) (h2.mono RTLandEvent_mono hle) (h3.mono RTLandMemory_mono hle) (by omega) H⟩)
  rfl rfl rfl fun v G5 w6 L5 le5 hS hO hv => ?_)
 obtain ⟨Lq', ⟨a4, n4, c4, rfl, hr4⟩, hv⟩ := hv
 refine ⟨fun _ h => noneed (by kernel_rfl) h, ?_⟩
 obtain ⟨e, rfl, he⟩ : ∃ e : Int, v = iV e ∧ ((e ≠ 0 ∧ r.2 ≠ 0 ∧ e = 7 ∧ L5 = rowC b cc :: rowA n (.slice ad n cp0) ac :: rowB bb [.slice a1 n1 c1, .slice a2 n2 c2, .slice a4 n4 c4] :: Lq) ∨ (e = 0 ∧ r.2 = 0 ∧ ∃ ad' cp' ac', L5 = rowC b (splice cc 60 [.slice ad' (n + 1) cp']) :: rowA (n + 1) (.slice ad' (n + 1) cp') ac' :: rowB bb [.slice a1 n1 c1, .slice a2 n2 c2, .slice a4 n4 c4] :: Lq ∧ Rd RAct 1 G5 ac' (xs ++ [tellV x]))) := by
  rcases hv with ⟨rfl, h0, hL⟩ | ⟨rfl, h0, h⟩
  ·by_cases hr : r.2 = 0
   ·exact absurd (by rw [hr]; rfl) h0
   ·exact ⟨_, rfl, .inl ⟨h0, hr, by rw [show (r.2 == 0) = false by simpa using hr]; rfl, hL⟩⟩
  ·by_cases hr : r.2 = 0
   ·exact ⟨_, rfl, .inr ⟨rfl, hr, h⟩⟩
   ·rw [show (r.2 == 0) = false by simpa using hr] at h0; exact absurd h0 (by decide)
 refine zE rfl rfl (OpP_val (zA (v := iV e) rfl) rfl ⟨fun _ h => noneed (by kernel_rfl) h, zI ?_⟩)
 refine zQ (zR (zV (zm (v := iV e) rfl) rfl (zV (rn_neq rfl rfl) rfl (zN (zT rfl ?_ ?_)))))
 ·intro hb
  rcases he with ⟨h0, hr, rfl, rfl⟩ | ⟨rfl, h⟩
  ·obtain ⟨G6, le6, hS, hO, _⟩ := hO.freeze hS (k := 2) rfl
   refine zQ (zR (zV (zm (v := iV 7) rfl) rfl (zV (zA (v := iV 7) rfl) rfl (zN (zr ?_)))))
   exact ⟨[iV 7], ⟨rfl, trivial⟩, G6, _, (le4.trans le5).trans le6, hS, hO, .inl ⟨hr, rfl, rfl⟩⟩
  ·exact absurd hb (by decide)
 ·intro hb
  rcases he with ⟨h0, hr, rfl, rfl⟩ | ⟨rfl, hr, ad', cp', ac', rfl, hrd'⟩
  ·exact absurd hb (by decide)
  have c0 := hS.sat.cell ((hcC.mono le5) 0 _ rfl)
  have cB : ∀ j v, [Value.slice a1 n1 c1, .slice a2 n2 c2, .slice a4 n4 c4][j]? = some v → w6.cell? ⟨bb, j, none⟩ = some v := fun j v hj => own_cell hO (k := 2) rfl hj
  refine zP (zQ (zR (zV (zL na50c rfl c0) rfl (zV (rn_loadA (cs := [.slice a1 n1 c1, .slice a2 n2 c2, .slice a4 n4 c4]) ag32 rfl rfl fun j v hj => by rw [Nat.zero_add]; exact cB j v hj) rfl (zV (v := pV b) (by kernel_rfl) rfl (zV (zF fd87_0 rfl) rfl (zV (zF fd49_2 rfl) rfl ?_)))))))
  have h60 : 60 + [Value.slice ad' (n + 1) cp'].length ≤ cc.length := by rw [hcs.len]; exact Nat.le_of_ble_eq_true rfl
  have hl6 := splice_length h60
  rw [hcs.len] at hl6
  refine zO rfl (OpP_store (vs := [.slice a1 n1 c1, .slice a2 n2 c2, .slice a4 n4 c4]) sz32c hS hO (k := 0) rfl rfl rfl rfl rfl (one_all rfl) (by rw [hl6]; exact Nat.le_of_ble_eq_true rfl) fun w10 hS hO => ?_)
  obtain ⟨G6, le6, hS, hO, _⟩ := hO.freeze hS (k := 2) rfl
  refine zN (zQ (zR (zV (zA (v := iV 0) rfl) rfl (zN (zr ?_)))))
  refine ⟨[iV 0], ⟨rfl, trivial⟩, G6, _, (le4.trans le5).trans le6, hS, hO, .inr ⟨hr, rfl, _, ad', cp', ac', rfl, ?_, ?_⟩⟩
  ·have h17 : 17 + [Value.slice a1 n1 c1, .slice a2 n2 c2, .slice a4 n4 c4].length ≤ (splice cc 60 [.slice ad' (n + 1) cp']).length := by rw [hl6]; exact Nat.le_of_ble_eq_true rfl
   have le46 := le5.trans le6
   refine ⟨by rw [splice_length h17, hl6], by rw [splice_at h17]; simp [splice_at h60], by rw [splice_at h17]; simp [splice_at h60, hcs.c61], a1, n1, c1, a2, n2, c2, a4, n4, c4, by rw [splice_at h17]; simp, by rw [splice_at h17]; simp, by rw [splice_at h17]; simp, h1.mono RTLandPerson_mono le46, h2.mono RTLandEvent_mono le46, hr4.mono RTLandMemory_mono le6⟩
  ·exact hrd'.mono RAct_mono le6
end Go.Proofs.YtncjnffbdhckdaaGreatDoor
