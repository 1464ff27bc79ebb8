/-
  The walks: each Go function computes its plain function (printed by a program of ours).
-/
import Derived.Test.YtcaflmilfhhikaaDoorAl
import Derived.Test.YtcaflmilfhhikaaDoorRd
import Derived.Test.YtcaflmilfhhikaaDoorBaseQ
import Derived.Test.YtcaflmilfhhikaaDoorIt
import Derived.Test.YtcaflmilfhhikaaDoorLib
import Derived.Test.YtcaflmilfhhikaaDoorBu
import Derived.Test.YtcaflmilfhhikaaDoorP13W2
namespace Go.Proofs.YtcaflmilfhhikaaDoor
open Go.RowKit
set_option linter.unusedVariables false

set_option maxRecDepth 20000
set_option linter.unusedVariables false
set_option maxHeartbeats 1000000 in
theorem f48_ok {G0 : Gm} {w0 : World} (hS0 : Sat G0 w0)   {r : TLandBook} (H : f48 = some r) :
  Calls Tryd.prog 48 #[] w0 (RetG G0 w0 (fun G v => ∃ (ra0 : Option Addr) (rn0 rc0 : Nat) (ra1 : Option Addr) (rn1 rc1 : Nat) (ra2 : Option Addr) (rn2 rc2 : Nat), v = .agg #[.slice ra0 rn0 rc0, .slice ra1 rn1 rc1, .slice ra2 rn2 rc2] ∧ RSl RTLandPerson 2 G ra0 rn0 rc0 r.People ∧ RSl RTLandEvent 2 G ra1 rn1 rc1 r.Events ∧ RSl RTLandMemory 4 G ra2 rn2 rc2 r.Memories)) := by
 have hS := Since.start hS0
 have hO : Owns G0 w0 w0.heap.size [] := Owns.nil (Nat.le_refl _)
 unfold f48 at H
 refine enterG (N := 21) (shutG _ _ _) [.cell 0 26] Tryd.func48 rfl rfl rfl rfl ?_; refine zS ?_
 refine zO rfl (zU (v := fun b => .pointer (some ⟨b, 0, none⟩)) (cs := [.slice none 0 0, .slice none 0 0, .slice none 0 0]) (e := 26) (by kernel_rfl) hS.sat hO rfl 3 1 rfl (by decide) (fun b1 w2 hb hO => ?_))
 have hS := hS.keep hb; refine zN ?_; refine zS ?_
 refine zV (v := (.agg #[.int .i64 (-1), .int .i64 (-1)])) (by kernel_rfl) rfl ?_
 refine zV (v := (.agg #[.int .i64 0, .int .i64 (-1)])) (by kernel_rfl) rfl ?_
 refine zV (v := (.agg #[.int .i64 1, .int .i64 (-1)])) (by kernel_rfl) rfl ?_
 refine zV (v := (.agg #[.int .i64 (-1), .int .i64 0])) (by kernel_rfl) rfl ?_
 refine zO rfl (zW (v := fun b => .slice (some ⟨b, 0, none⟩) 4 4) (cs := [.int .i64 (-1), .int .i64 (-1), .int .i64 0, .int .i64 (-1), .int .i64 1, .int .i64 (-1), .int .i64 (-1), .int .i64 0]) (e := 85) (by kernel_rfl) hS.sat rfl (fun b4 G6 w5 hg hcb4 => ?_))
 have hS := hS.grow hg; have hO := hO.grow hg
 have leG6 := hg.le
 have hfb4 : RSl RTLandPerson 2 G6 (some ⟨b4, 0, none⟩) 4 4 [(⟨(-1), (-1)⟩ : TLandPerson), (⟨0, (-1)⟩ : TLandPerson), (⟨1, (-1)⟩ : TLandPerson), (⟨(-1), 0⟩ : TLandPerson)] := RSl.of_rd hcb4 (Rd.cons (c := [.int .i64 (-1), .int .i64 (-1)]) rfl rfl (Rd.cons (c := [.int .i64 0, .int .i64 (-1)]) rfl rfl (Rd.cons (c := [.int .i64 1, .int .i64 (-1)]) rfl rfl (Rd.cons (c := [.int .i64 (-1), .int .i64 0]) rfl rfl (Rd.nil RTLandPerson 2 _))))) rfl (by decide)
 refine zV (v := (.agg #[.int .i64 0, .int .i64 0])) (by kernel_rfl) rfl ?_
 refine zV (v := (.agg #[.int .i64 0, .int .i64 1])) (by kernel_rfl) rfl ?_
 refine zV (v := (.agg #[.int .i64 0, .int .i64 2])) (by kernel_rfl) rfl ?_
 refine zV (v := (.agg #[.int .i64 1, .int .i64 1])) (by kernel_rfl) rfl ?_
 refine zO rfl (zW (v := fun b => .slice (some ⟨b, 0, none⟩) 4 4) (cs := [.int .i64 0, .int .i64 0, .int .i64 0, .int .i64 1, .int .i64 0, .int .i64 2, .int .i64 1, .int .i64 1]) (e := 69) (by kernel_rfl) hS.sat rfl (fun b7 G9 w8 hg hcb7 => ?_))
 have hS := hS.grow hg; have hO := hO.grow hg
 have leG9 := hg.le
 have hfb7 : RSl RTLandEvent 2 G9 (some ⟨b7, 0, none⟩) 4 4 [(⟨0, 0⟩ : TLandEvent), (⟨0, 1⟩ : TLandEvent), (⟨0, 2⟩ : TLandEvent), (⟨1, 1⟩ : TLandEvent)] := RSl.of_rd hcb7 (Rd.cons (c := [.int .i64 0, .int .i64 0]) rfl rfl (Rd.cons (c := [.int .i64 0, .int .i64 1]) rfl rfl (Rd.cons (c := [.int .i64 0, .int .i64 2]) rfl rfl (Rd.cons (c := [.int .i64 1, .int .i64 1]) rfl rfl (Rd.nil RTLandEvent 2 _))))) rfl (by decide)
 refine zV (v := (.agg #[.int .i64 10, .int .i64 20])) (by kernel_rfl) rfl ?_
 refine zV (v := (.agg #[.int .i64 0, .int .i64 1, .int .i64 10, .int .i64 20])) (by kernel_rfl) rfl ?_
 refine zV (v := (.agg #[.int .i64 5, .int .i64 8])) (by kernel_rfl) rfl ?_
 refine zV (v := (.agg #[.int .i64 1, .int .i64 2, .int .i64 5, .int .i64 8])) (by kernel_rfl) rfl ?_
 refine zV (v := (.agg #[.int .i64 12, .int .i64 16])) (by kernel_rfl) rfl ?_
 refine zV (v := (.agg #[.int .i64 0, .int .i64 2, .int .i64 12, .int .i64 16])) (by kernel_rfl) rfl ?_
 refine zV (v := (.agg #[.int .i64 (-3), .int .i64 0])) (by kernel_rfl) rfl ?_
 refine zV (v := (.agg #[.int .i64 1, .int .i64 3, .int .i64 (-3), .int .i64 0])) (by kernel_rfl) rfl ?_
 refine zO rfl (zW (v := fun b => .slice (some ⟨b, 0, none⟩) 4 4) (cs := [.int .i64 0, .int .i64 1, .int .i64 10, .int .i64 20, .int .i64 1, .int .i64 2, .int .i64 5, .int .i64 8, .int .i64 0, .int .i64 2, .int .i64 12, .int .i64 16, .int .i64 1, .int .i64 3, .int .i64 (-3), .int .i64 0]) (e := 46) (by kernel_rfl) hS.sat rfl (fun b10 G12 w11 hg hcb10 => ?_))
 have hS := hS.grow hg; have hO := hO.grow hg
 have leG12 := hg.le
 have hfb10 : RSl RTLandMemory 4 G12 (some ⟨b10, 0, none⟩) 4 4 [(⟨0, 1, (⟨10, 20⟩ : TSpan)⟩ : TLandMemory), (⟨1, 2, (⟨5, 8⟩ : TSpan)⟩ : TLandMemory), (⟨0, 2, (⟨12, 16⟩ : TSpan)⟩ : TLandMemory), (⟨1, 3, (⟨(-3), 0⟩ : TSpan)⟩ : TLandMemory)] := RSl.of_rd hcb10 (Rd.cons (c := [.int .i64 0, .int .i64 1, .int .i64 10, .int .i64 20]) rfl rfl (Rd.cons (c := [.int .i64 1, .int .i64 2, .int .i64 5, .int .i64 8]) rfl rfl (Rd.cons (c := [.int .i64 0, .int .i64 2, .int .i64 12, .int .i64 16]) rfl rfl (Rd.cons (c := [.int .i64 1, .int .i64 3, .int .i64 (-3), .int .i64 0]) rfl rfl (Rd.nil RTLandMemory 4 _))))) rfl (by decide)
 refine zV (v := (.agg #[.slice (some ⟨b4, 0, none⟩) 4 4, .slice (some ⟨b7, 0, none⟩) 4 4, .slice (some ⟨b10, 0, none⟩) 4 4])) (by kernel_rfl) rfl ?_
 refine zO rfl (OpP_store (vs := [.slice (some ⟨b4, 0, none⟩) 4 4, .slice (some ⟨b7, 0, none⟩) 4 4, .slice (some ⟨b10, 0, none⟩) 4 4]) sz26 hS hO (k := 0) rfl rfl rfl rfl rfl (one_all rfl) (Nat.le_of_ble_eq_true rfl) (fun w13 hS hO => ?_))
 have hO : Owns G12 w13 w0.heap.size ([⟨26, 3, 1, .slice (some ⟨b1, 0, none⟩) 1 1, [.slice (some ⟨b4, 0, none⟩) 4 4, .slice (some ⟨b7, 0, none⟩) 4 4, .slice (some ⟨b10, 0, none⟩) 4 4]⟩]) := hO
 obtain ⟨G14, leG14, hS, hO, hqG14, _⟩ := hO.freeze hS (k := 0) rfl
 have hcG14 : Cells G14 b1 0 [.slice (some ⟨b4, 0, none⟩) 4 4, .slice (some ⟨b7, 0, none⟩) 4 4, .slice (some ⟨b10, 0, none⟩) 4 4] := (hqG14 _ _ _ _ rfl)
 refine zN ?_; refine WC_ret ?_
 have H : some (⟨[(⟨(-1), (-1)⟩ : TLandPerson), (⟨0, (-1)⟩ : TLandPerson), (⟨1, (-1)⟩ : TLandPerson), (⟨(-1), 0⟩ : TLandPerson)], [(⟨0, 0⟩ : TLandEvent), (⟨0, 1⟩ : TLandEvent), (⟨0, 2⟩ : TLandEvent), (⟨1, 1⟩ : TLandEvent)], [(⟨0, 1, (⟨10, 20⟩ : TSpan)⟩ : TLandMemory), (⟨1, 2, (⟨5, 8⟩ : TSpan)⟩ : TLandMemory), (⟨0, 2, (⟨12, 16⟩ : TSpan)⟩ : TLandMemory), (⟨1, 3, (⟨(-3), 0⟩ : TSpan)⟩ : TLandMemory)]⟩ : TLandBook) = some r := H
 have H := oi H; subst H
 have l1_4 := (leG9.trans leG12).trans leG14
 have l2_4 := leG12.trans leG14
 exact ⟨[.agg #[.slice (some ⟨b4, 0, none⟩) 4 4, .slice (some ⟨b7, 0, none⟩) 4 4, .slice (some ⟨b10, 0, none⟩) 4 4]], ⟨⟨_, rfl, ld_agg (cs := [.slice (some ⟨b4, 0, none⟩) 4 4, .slice (some ⟨b7, 0, none⟩) 4 4, .slice (some ⟨b10, 0, none⟩) 4 4]) ag26 rfl (fun j v hj => hS.sat.cell (hcG14 j v hj))⟩, trivial⟩, ⟨_, _, rfl, hS.toGrow, _, _, _, _, _, _, _, _, _, rfl, (hfb4.mono RTLandPerson_mono l1_4), (hfb7.mono RTLandEvent_mono l2_4), (hfb10.mono RTLandMemory_mono leG14)⟩⟩
set_option maxHeartbeats 1000000 in
theorem f49_ok {G0 : Gm} {w0 : World} (hS0 : Sat G0 w0)   {r : TLandBook} (H : f49 = some r) :
  Calls Tryd.prog 49 #[] w0 (RetG G0 w0 (fun G v => ∃ (ra0 : Option Addr) (rn0 rc0 : Nat) (ra1 : Option Addr) (rn1 rc1 : Nat) (ra2 : Option Addr) (rn2 rc2 : Nat), v = .agg #[.slice ra0 rn0 rc0, .slice ra1 rn1 rc1, .slice ra2 rn2 rc2] ∧ RSl RTLandPerson 2 G ra0 rn0 rc0 r.People ∧ RSl RTLandEvent 2 G ra1 rn1 rc1 r.Events ∧ RSl RTLandMemory 4 G ra2 rn2 rc2 r.Memories)) := by
 have hS := Since.start hS0
 have hO : Owns G0 w0 w0.heap.size [] := Owns.nil (Nat.le_refl _)
 unfold f49 at H
 refine enterG (N := 11) (shutG _ _ _) [.cell 0 26] Tryd.func49 rfl rfl rfl rfl ?_; refine zS ?_
 refine zO rfl (zU (v := fun b => .pointer (some ⟨b, 0, none⟩)) (cs := [.slice none 0 0, .slice none 0 0, .slice none 0 0]) (e := 26) (by kernel_rfl) hS.sat hO rfl 3 1 rfl (by decide) (fun b1 w2 hb hO => ?_))
 have hS := hS.keep hb; refine zN ?_; refine zS ?_; refine zO rfl (OpP_inR (N' := 21) (rs := [.cell 0 26]) [] cb48 Tryd.func48 rfl rfl rfl rfl rfl rfl ?_); refine zS ?_
 refine zO rfl (zU (v := fun b => .pointer (some ⟨b, 0, none⟩)) (cs := [.slice none 0 0, .slice none 0 0, .slice none 0 0]) (e := 26) (by kernel_rfl) hS.sat hO rfl 3 1 rfl (by decide) (fun b4 w5 hb hO => ?_))
 have hS := hS.keep hb; refine zN ?_; refine zS ?_
 refine zV (v := (.agg #[.int .i64 (-1), .int .i64 (-1)])) (by kernel_rfl) rfl ?_
 refine zV (v := (.agg #[.int .i64 0, .int .i64 (-1)])) (by kernel_rfl) rfl ?_
 refine zV (v := (.agg #[.int .i64 1, .int .i64 (-1)])) (by kernel_rfl) rfl ?_
 refine zV (v := (.agg #[.int .i64 (-1), .int .i64 0])) (by kernel_rfl) rfl ?_
 refine zO rfl (zU (v := fun b => .slice (some ⟨b, 0, none⟩) 4 4) (cs := [.int .i64 (-1), .int .i64 (-1), .int .i64 0, .int .i64 (-1), .int .i64 1, .int .i64 (-1), .int .i64 (-1), .int .i64 0]) (e := 85) (by kernel_rfl) hS.sat hO rfl 2 4 rfl (by decide) (fun b7 w8 hb hO => ?_))
 have hS := hS.keep hb
 have hrb7 : Rd RTLandPerson 2 G0 [.int .i64 (-1), .int .i64 (-1), .int .i64 0, .int .i64 (-1), .int .i64 1, .int .i64 (-1), .int .i64 (-1), .int .i64 0] [(⟨(-1), (-1)⟩ : TLandPerson), (⟨0, (-1)⟩ : TLandPerson), (⟨1, (-1)⟩ : TLandPerson), (⟨(-1), 0⟩ : TLandPerson)] := (Rd.cons (c := [.int .i64 (-1), .int .i64 (-1)]) rfl rfl (Rd.cons (c := [.int .i64 0, .int .i64 (-1)]) rfl rfl (Rd.cons (c := [.int .i64 1, .int .i64 (-1)]) rfl rfl (Rd.cons (c := [.int .i64 (-1), .int .i64 0]) rfl rfl (Rd.nil RTLandPerson 2 _)))))
 refine zV (v := (.agg #[.int .i64 0, .int .i64 0])) (by kernel_rfl) rfl ?_
 refine zV (v := (.agg #[.int .i64 0, .int .i64 1])) (by kernel_rfl) rfl ?_
 refine zV (v := (.agg #[.int .i64 0, .int .i64 2])) (by kernel_rfl) rfl ?_
 refine zV (v := (.agg #[.int .i64 1, .int .i64 1])) (by kernel_rfl) rfl ?_
 refine zO rfl (zU (v := fun b => .slice (some ⟨b, 0, none⟩) 4 4) (cs := [.int .i64 0, .int .i64 0, .int .i64 0, .int .i64 1, .int .i64 0, .int .i64 2, .int .i64 1, .int .i64 1]) (e := 69) (by kernel_rfl) hS.sat hO rfl 2 4 rfl (by decide) (fun b10 w11 hb hO => ?_))
 have hS := hS.keep hb
 have hrb10 : Rd RTLandEvent 2 G0 [.int .i64 0, .int .i64 0, .int .i64 0, .int .i64 1, .int .i64 0, .int .i64 2, .int .i64 1, .int .i64 1] [(⟨0, 0⟩ : TLandEvent), (⟨0, 1⟩ : TLandEvent), (⟨0, 2⟩ : TLandEvent), (⟨1, 1⟩ : TLandEvent)] := (Rd.cons (c := [.int .i64 0, .int .i64 0]) rfl rfl (Rd.cons (c := [.int .i64 0, .int .i64 1]) rfl rfl (Rd.cons (c := [.int .i64 0, .int .i64 2]) rfl rfl (Rd.cons (c := [.int .i64 1, .int .i64 1]) rfl rfl (Rd.nil RTLandEvent 2 _)))))
 refine zV (v := (.agg #[.int .i64 10, .int .i64 20])) (by kernel_rfl) rfl ?_
 refine zV (v := (.agg #[.int .i64 0, .int .i64 1, .int .i64 10, .int .i64 20])) (by kernel_rfl) rfl ?_
 refine zV (v := (.agg #[.int .i64 5, .int .i64 8])) (by kernel_rfl) rfl ?_
 refine zV (v := (.agg #[.int .i64 1, .int .i64 2, .int .i64 5, .int .i64 8])) (by kernel_rfl) rfl ?_
 refine zV (v := (.agg #[.int .i64 12, .int .i64 16])) (by kernel_rfl) rfl ?_
 refine zV (v := (.agg #[.int .i64 0, .int .i64 2, .int .i64 12, .int .i64 16])) (by kernel_rfl) rfl ?_
 refine zV (v := (.agg #[.int .i64 (-3), .int .i64 0])) (by kernel_rfl) rfl ?_
 refine zV (v := (.agg #[.int .i64 1, .int .i64 3, .int .i64 (-3), .int .i64 0])) (by kernel_rfl) rfl ?_
 refine zO rfl (zU (v := fun b => .slice (some ⟨b, 0, none⟩) 4 4) (cs := [.int .i64 0, .int .i64 1, .int .i64 10, .int .i64 20, .int .i64 1, .int .i64 2, .int .i64 5, .int .i64 8, .int .i64 0, .int .i64 2, .int .i64 12, .int .i64 16, .int .i64 1, .int .i64 3, .int .i64 (-3), .int .i64 0]) (e := 46) (by kernel_rfl) hS.sat hO rfl 4 4 rfl (by decide) (fun b13 w14 hb hO => ?_))
 have hS := hS.keep hb
 have hrb13 : Rd RTLandMemory 4 G0 [.int .i64 0, .int .i64 1, .int .i64 10, .int .i64 20, .int .i64 1, .int .i64 2, .int .i64 5, .int .i64 8, .int .i64 0, .int .i64 2, .int .i64 12, .int .i64 16, .int .i64 1, .int .i64 3, .int .i64 (-3), .int .i64 0] [(⟨0, 1, (⟨10, 20⟩ : TSpan)⟩ : TLandMemory), (⟨1, 2, (⟨5, 8⟩ : TSpan)⟩ : TLandMemory), (⟨0, 2, (⟨12, 16⟩ : TSpan)⟩ : TLandMemory), (⟨1, 3, (⟨(-3), 0⟩ : TSpan)⟩ : TLandMemory)] := (Rd.cons (c := [.int .i64 0, .int .i64 1, .int .i64 10, .int .i64 20]) rfl rfl (Rd.cons (c := [.int .i64 1, .int .i64 2, .int .i64 5, .int .i64 8]) rfl rfl (Rd.cons (c := [.int .i64 0, .int .i64 2, .int .i64 12, .int .i64 16]) rfl rfl (Rd.cons (c := [.int .i64 1, .int .i64 3, .int .i64 (-3), .int .i64 0]) rfl rfl (Rd.nil RTLandMemory 4 _)))))
 refine zV (v := (.agg #[.slice (some ⟨b7, 0, none⟩) 4 4, .slice (some ⟨b10, 0, none⟩) 4 4, .slice (some ⟨b13, 0, none⟩) 4 4])) (by kernel_rfl) rfl ?_
 refine zO rfl (OpP_store (vs := [.slice (some ⟨b7, 0, none⟩) 4 4, .slice (some ⟨b10, 0, none⟩) 4 4, .slice (some ⟨b13, 0, none⟩) 4 4]) sz26 hS hO (k := 3) rfl rfl rfl rfl rfl (one_all rfl) (Nat.le_of_ble_eq_true rfl) (fun w16 hS hO => ?_))
 have hO : Owns G0 w16 w0.heap.size ([⟨46, 4, 4, .slice (some ⟨b13, 0, none⟩) 4 4, [.int .i64 0, .int .i64 1, .int .i64 10, .int .i64 20, .int .i64 1, .int .i64 2, .int .i64 5, .int .i64 8, .int .i64 0, .int .i64 2, .int .i64 12, .int .i64 16, .int .i64 1, .int .i64 3, .int .i64 (-3), .int .i64 0]⟩, ⟨69, 2, 4, .slice (some ⟨b10, 0, none⟩) 4 4, [.int .i64 0, .int .i64 0, .int .i64 0, .int .i64 1, .int .i64 0, .int .i64 2, .int .i64 1, .int .i64 1]⟩, ⟨85, 2, 4, .slice (some ⟨b7, 0, none⟩) 4 4, [.int .i64 (-1), .int .i64 (-1), .int .i64 0, .int .i64 (-1), .int .i64 1, .int .i64 (-1), .int .i64 (-1), .int .i64 0]⟩, ⟨26, 3, 1, .slice (some ⟨b4, 0, none⟩) 1 1, [.slice (some ⟨b7, 0, none⟩) 4 4, .slice (some ⟨b10, 0, none⟩) 4 4, .slice (some ⟨b13, 0, none⟩) 4 4]⟩, ⟨26, 3, 1, .slice (some ⟨b1, 0, none⟩) 1 1, [.slice none 0 0, .slice none 0 0, .slice none 0 0]⟩]) := hO
 refine zN ?_; refine WC_ret ?_; refine ⟨[.agg #[.slice (some ⟨b7, 0, none⟩) 4 4, .slice (some ⟨b10, 0, none⟩) 4 4, .slice (some ⟨b13, 0, none⟩) 4 4]], ⟨⟨_, rfl, ld_agg (cs := [.slice (some ⟨b7, 0, none⟩) 4 4, .slice (some ⟨b10, 0, none⟩) 4 4, .slice (some ⟨b13, 0, none⟩) 4 4]) ag26 rfl (fun j v hj => own_sub hO (k := 3) rfl 0 3 j v hj)⟩, trivial⟩, ?_⟩; have hO := hO.drop 3
 have hO : Owns G0 w16 w0.heap.size ([⟨46, 4, 4, .slice (some ⟨b13, 0, none⟩) 4 4, [.int .i64 0, .int .i64 1, .int .i64 10, .int .i64 20, .int .i64 1, .int .i64 2, .int .i64 5, .int .i64 8, .int .i64 0, .int .i64 2, .int .i64 12, .int .i64 16, .int .i64 1, .int .i64 3, .int .i64 (-3), .int .i64 0]⟩, ⟨69, 2, 4, .slice (some ⟨b10, 0, none⟩) 4 4, [.int .i64 0, .int .i64 0, .int .i64 0, .int .i64 1, .int .i64 0, .int .i64 2, .int .i64 1, .int .i64 1]⟩, ⟨85, 2, 4, .slice (some ⟨b7, 0, none⟩) 4 4, [.int .i64 (-1), .int .i64 (-1), .int .i64 0, .int .i64 (-1), .int .i64 1, .int .i64 (-1), .int .i64 (-1), .int .i64 0]⟩, ⟨26, 3, 1, .slice (some ⟨b1, 0, none⟩) 1 1, [.slice none 0 0, .slice none 0 0, .slice none 0 0]⟩]) := hO
 refine zO rfl (zU (v := fun b => .pointer (some ⟨b, 0, none⟩)) (cs := [.slice none 0 0, .slice none 0 0, .slice none 0 0]) (e := 26) (by kernel_rfl) hS.sat hO rfl 3 1 rfl (by decide) (fun b17 w18 hb hO => ?_))
 have hS := hS.keep hb; refine zO rfl (OpP_store (vs := [.slice (some ⟨b7, 0, none⟩) 4 4, .slice (some ⟨b10, 0, none⟩) 4 4, .slice (some ⟨b13, 0, none⟩) 4 4]) sz26 hS hO (k := 0) rfl rfl rfl rfl rfl (one_all rfl) (Nat.le_of_ble_eq_true rfl) (fun w20 hS hO => ?_))
 have hO : Owns G0 w20 w0.heap.size ([⟨26, 3, 1, .slice (some ⟨b17, 0, none⟩) 1 1, [.slice (some ⟨b7, 0, none⟩) 4 4, .slice (some ⟨b10, 0, none⟩) 4 4, .slice (some ⟨b13, 0, none⟩) 4 4]⟩, ⟨46, 4, 4, .slice (some ⟨b13, 0, none⟩) 4 4, [.int .i64 0, .int .i64 1, .int .i64 10, .int .i64 20, .int .i64 1, .int .i64 2, .int .i64 5, .int .i64 8, .int .i64 0, .int .i64 2, .int .i64 12, .int .i64 16, .int .i64 1, .int .i64 3, .int .i64 (-3), .int .i64 0]⟩, ⟨69, 2, 4, .slice (some ⟨b10, 0, none⟩) 4 4, [.int .i64 0, .int .i64 0, .int .i64 0, .int .i64 1, .int .i64 0, .int .i64 2, .int .i64 1, .int .i64 1]⟩, ⟨85, 2, 4, .slice (some ⟨b7, 0, none⟩) 4 4, [.int .i64 (-1), .int .i64 (-1), .int .i64 0, .int .i64 (-1), .int .i64 1, .int .i64 (-1), .int .i64 (-1), .int .i64 0]⟩, ⟨26, 3, 1, .slice (some ⟨b1, 0, none⟩) 1 1, [.slice none 0 0, .slice none 0 0, .slice none 0 0]⟩]) := hO
 refine zN ?_; refine zS ?_; refine zV (zF fd26_2 rfl) rfl ?_; refine zV (zL na24 rfl (own_cell hO (k := 0) rfl (j := 2) rfl)) rfl ?_
 refine zV (v := (.agg #[.int .i64 12, .int .i64 30])) (by kernel_rfl) rfl ?_
 refine zV (v := (.agg #[.int .i64 0, .int .i64 1, .int .i64 12, .int .i64 30])) (by kernel_rfl) rfl ?_
 refine zO rfl (zW (v := fun b => .slice (some ⟨b, 0, none⟩) 1 1) (cs := [.int .i64 0, .int .i64 1, .int .i64 12, .int .i64 30]) (e := 46) (by kernel_rfl) hS.sat rfl (fun b21 G23 w22 hg hcb21 => ?_))
 have hS := hS.grow hg; have hO := hO.grow hg
 have leG23 := hg.le
 have hfb21 : RSl RTLandMemory 4 G23 (some ⟨b21, 0, none⟩) 1 1 [(⟨0, 1, (⟨12, 30⟩ : TSpan)⟩ : TLandMemory)] := RSl.of_rd hcb21 (Rd.cons (c := [.int .i64 0, .int .i64 1, .int .i64 12, .int .i64 30]) rfl rfl (Rd.nil RTLandMemory 4 _)) rfl (by decide)
 obtain ⟨y24, hy24, H⟩ := bnd H; refine zO rfl (OpP_append (k := 1) sl24 RTLandMemory_one hS hO rfl rfl (hrb13.mono RTLandMemory_mono leG23) hfb21 hy24 rfl rfl rfl rfl rfl (fun aw25 cw25 w25 clw25 hS hO hrw25 => ?_))
 have hO : Owns G23 w25 w0.heap.size ([⟨26, 3, 1, .slice (some ⟨b17, 0, none⟩) 1 1, [.slice (some ⟨b7, 0, none⟩) 4 4, .slice (some ⟨b10, 0, none⟩) 4 4, .slice (some ⟨b13, 0, none⟩) 4 4]⟩, ⟨46, 4, y24.length, .slice aw25 y24.length cw25, clw25⟩, ⟨69, 2, 4, .slice (some ⟨b10, 0, none⟩) 4 4, [.int .i64 0, .int .i64 0, .int .i64 0, .int .i64 1, .int .i64 0, .int .i64 2, .int .i64 1, .int .i64 1]⟩, ⟨85, 2, 4, .slice (some ⟨b7, 0, none⟩) 4 4, [.int .i64 (-1), .int .i64 (-1), .int .i64 0, .int .i64 (-1), .int .i64 1, .int .i64 (-1), .int .i64 (-1), .int .i64 0]⟩, ⟨26, 3, 1, .slice (some ⟨b1, 0, none⟩) 1 1, [.slice none 0 0, .slice none 0 0, .slice none 0 0]⟩]) := hO
 refine zV (zF fd26_2 rfl) rfl ?_; refine zO rfl (OpP_store (vs := [.slice aw25 y24.length cw25]) sz24 hS hO (k := 0) rfl rfl rfl rfl rfl (one_all rfl) (Nat.le_of_ble_eq_true rfl) (fun w26 hS hO => ?_))
 have hO : Owns G23 w26 w0.heap.size ([⟨26, 3, 1, .slice (some ⟨b17, 0, none⟩) 1 1, [.slice (some ⟨b7, 0, none⟩) 4 4, .slice (some ⟨b10, 0, none⟩) 4 4, .slice aw25 y24.length cw25]⟩, ⟨46, 4, y24.length, .slice aw25 y24.length cw25, clw25⟩, ⟨69, 2, 4, .slice (some ⟨b10, 0, none⟩) 4 4, [.int .i64 0, .int .i64 0, .int .i64 0, .int .i64 1, .int .i64 0, .int .i64 2, .int .i64 1, .int .i64 1]⟩, ⟨85, 2, 4, .slice (some ⟨b7, 0, none⟩) 4 4, [.int .i64 (-1), .int .i64 (-1), .int .i64 0, .int .i64 (-1), .int .i64 1, .int .i64 (-1), .int .i64 (-1), .int .i64 0]⟩, ⟨26, 3, 1, .slice (some ⟨b1, 0, none⟩) 1 1, [.slice none 0 0, .slice none 0 0, .slice none 0 0]⟩]) := hO
 refine zN ?_; refine zS ?_; refine zV (rn_loadA ag26 (cs := [.slice (some ⟨b7, 0, none⟩) 4 4, .slice (some ⟨b10, 0, none⟩) 4 4, .slice aw25 y24.length cw25]) rfl rfl (fun j v hj => own_sub hO (k := 0) rfl 0 3 j v hj)) rfl ?_; refine zO rfl (OpP_store (vs := [.slice (some ⟨b7, 0, none⟩) 4 4, .slice (some ⟨b10, 0, none⟩) 4 4, .slice aw25 y24.length cw25]) sz26 hS hO (k := 4) rfl rfl rfl rfl rfl (one_all rfl) (Nat.le_of_ble_eq_true rfl) (fun w27 hS hO => ?_))
 have hO : Owns G23 w27 w0.heap.size ([⟨26, 3, 1, .slice (some ⟨b17, 0, none⟩) 1 1, [.slice (some ⟨b7, 0, none⟩) 4 4, .slice (some ⟨b10, 0, none⟩) 4 4, .slice aw25 y24.length cw25]⟩, ⟨46, 4, y24.length, .slice aw25 y24.length cw25, clw25⟩, ⟨69, 2, 4, .slice (some ⟨b10, 0, none⟩) 4 4, [.int .i64 0, .int .i64 0, .int .i64 0, .int .i64 1, .int .i64 0, .int .i64 2, .int .i64 1, .int .i64 1]⟩, ⟨85, 2, 4, .slice (some ⟨b7, 0, none⟩) 4 4, [.int .i64 (-1), .int .i64 (-1), .int .i64 0, .int .i64 (-1), .int .i64 1, .int .i64 (-1), .int .i64 (-1), .int .i64 0]⟩, ⟨26, 3, 1, .slice (some ⟨b1, 0, none⟩) 1 1, [.slice (some ⟨b7, 0, none⟩) 4 4, .slice (some ⟨b10, 0, none⟩) 4 4, .slice aw25 y24.length cw25]⟩]) := hO
 refine zN ?_; refine WC_ret ?_; obtain ⟨G28, leG28, hS, hO, hfG28⟩ := hO.freezeS hS RTLandPerson_mono (k := 3) rfl (hrb7.mono RTLandPerson_mono leG23) rfl
 have l0_2 := leG23.trans leG28
 obtain ⟨G29, leG29, hS, hO, hfG29⟩ := hO.freezeS hS RTLandEvent_mono (k := 2) rfl (hrb10.mono RTLandEvent_mono l0_2) rfl
 have l1_3 := leG28.trans leG29
 obtain ⟨G30, leG30, hS, hO, hfG30⟩ := hO.freezeS hS RTLandMemory_mono (k := 1) rfl (hrw25.mono RTLandMemory_mono l1_3) rfl
 have H : some (⟨[(⟨(-1), (-1)⟩ : TLandPerson), (⟨0, (-1)⟩ : TLandPerson), (⟨1, (-1)⟩ : TLandPerson), (⟨(-1), 0⟩ : TLandPerson)], [(⟨0, 0⟩ : TLandEvent), (⟨0, 1⟩ : TLandEvent), (⟨0, 2⟩ : TLandEvent), (⟨1, 1⟩ : TLandEvent)], y24⟩ : TLandBook) = some r := H
 have H := oi H; subst H
 have l2_4 := leG29.trans leG30
 exact ⟨[.agg #[.slice (some ⟨b7, 0, none⟩) 4 4, .slice (some ⟨b10, 0, none⟩) 4 4, .slice aw25 y24.length cw25]], ⟨⟨_, rfl, ld_agg (cs := [.slice (some ⟨b7, 0, none⟩) 4 4, .slice (some ⟨b10, 0, none⟩) 4 4, .slice aw25 y24.length cw25]) ag26 rfl (fun j v hj => own_sub hO (k := 1) rfl 0 3 j v hj)⟩, trivial⟩, ⟨_, _, rfl, hS.toGrow, _, _, _, _, _, _, _, _, _, rfl, (hfG28.mono RTLandPerson_mono l2_4), (hfG29.mono RTLandEvent_mono leG30), hfG30⟩⟩
set_option maxHeartbeats 1000000 in
theorem f90_ok {G0 : Gm} {w0 : World} (hS0 : Sat G0 w0) {x0 : (List UInt8)} {x1 : (List Int)} {a1 : Option Addr} {n1 c1 : Nat} (hT : TabG Tryd.prog G0) (h1 : RSl RInt 1 G0 a1 n1 c1 x1) {r : (List UInt8)} (H : f90 x0 x1 = some r) :
  Calls Tryd.prog 90 #[.string ⟨x0.toArray⟩, .slice a1 n1 c1] w0 (RetV w0 (.string ⟨r.toArray⟩)) := by
 have hS := Since.start hS0
 have hO : Owns G0 w0 w0.heap.size [] := Owns.nil (Nat.le_refl _)
 unfold f90 at H
 refine enter1 (N := 21) (shutV _ _) Tryd.func90 rfl rfl rfl rfl ?_; refine zS ?_; refine zV (zA (v := (.string ⟨([] : List UInt8).toArray⟩)) rfl) rfl ?_; refine zN ?_; refine zQ ?_; refine zS ?_; refine zV (zm (v := (.slice a1 n1 c1)) rfl) rfl ?_; refine zV (rn_len sl29 rfl rfl h1.1) rfl ?_; refine zV (zm (v := (.int .i64 0)) rfl) rfl ?_; refine zN ?_; obtain ⟨q4, hq4, H⟩ := bnd H; refine zM (fun F w => ∃ (Fb : Fr) (G : Gm), F = upds Fb [(0, .string ⟨q4.toArray⟩)] ∧ Gle G0 G ∧ Since w0.heap.size G0 w0 G w ∧ Owns G w w0.heap.size []) ?_ ?_
 ·refine WC_block (WC_loop hq4 (fun s2 F w => ∃ (Fb : Fr) (G : Gm), F = upds Fb [(0, .string ⟨s2.1.toArray⟩), (7, .slice a1 n1 c1), (8, .int .i64 (x1.length : Int)), (9, .int .i64 s2.2)] ∧ Gle G0 G ∧ Since w0.heap.size G0 w0 G w ∧ Owns G w w0.heap.size []) ?_ ?_)
  ·have hO : Owns G0 w0 w0.heap.size ([]) := hO
   exact ⟨_, G0, upds_self _ _ ⟨rfl, rfl, rfl, rfl, trivial⟩, Gle.refl _, hS, hO⟩
  ·rintro s2 F w6 t5 ⟨Fb, G7, rfl, leG7, hS, hO⟩
   intro H1 hqq4
   have Hoq4 := H; have H := H1
   unfold f90_b0 at H
   refine zS ?_; refine zV (rn_lss rfl rfl) rfl ?_; refine zN ?_; refine zQ ?_; refine zT rfl (fun hb8 => ?_) (fun hb8 => ?_)
   ·have H := ifT hb8 H; refine zP ?_; refine zQ ?_; refine WC_block ?_; refine zS ?_; obtain ⟨y9, hy9, H⟩ := bnd H; refine WL_idx sl29 (h1.mono RInt_mono leG7) hy9 rfl rfl rfl ?_
    rintro b10 o10 _ hcb10 _ ⟨⟩
    refine zV (zL na3 rfl (hS.sat.cell (hcb10 0 _ rfl))) rfl ?_; refine zV (zA (v := (.int .i64 y9)) rfl) rfl ?_; refine zN ?_; refine zR ?_; refine zV (zm (v := (.string ⟨s2.1.toArray⟩)) rfl) rfl ?_; refine zV (zm (v := (.int .i64 y9)) rfl) rfl ?_; obtain ⟨y11, hy11, H⟩ := bnd H; refine zO rfl (zC cb98 (f98_ok (n := y9) hS.sat (hT.mono leG7) hy11) rfl rfl (fun w12 hb => ?_)); have hS := hS.keep hb; have hO := hO.below hb; obtain ⟨y13, hy13, H⟩ := bnd H; refine zV (rn_catS rfl rfl hy13) rfl ?_; obtain ⟨y14, hy14, H⟩ := bnd H; refine zV (rn_catS rfl rfl hy14) rfl ?_; refine zV (zA (v := (.string ⟨y14.toArray⟩)) rfl) rfl ?_; refine zN ?_; refine zR ?_; refine zV (rn_add rfl rfl) rfl ?_; refine zV (zm (v := (.int .i64 (IntKind.i64.wrap (s2.2 + 1)))) rfl) rfl ?_; refine zN ?_
    have hO : Owns G7 w12 w0.heap.size ([]) := hO
    have H := oi H; subst H; refine ⟨_, rfl, ?_⟩
    exact ⟨_, G7, upds_self _ _ ⟨rfl, rfl, rfl, rfl, trivial⟩, leG7, hS, hO⟩
   ·have H := ifF hb8 H; refine WC_exit rfl ?_
    have hO : Owns G7 w6 w0.heap.size ([]) := hO
    have H := oi H; subst H
    have hres := hqq4 _ rfl
    subst hres
    exact ⟨_, G7, upds_self _ _ ⟨rfl, trivial⟩, leG7, hS, hO⟩
 ·rintro F w15 ⟨Fb, G16, rfl, leG16, hS, hO⟩
  refine zS ?_; refine zV (zm (v := (.string ⟨q4.toArray⟩)) rfl) rfl ?_; obtain ⟨y17, hy17, H⟩ := bnd H; refine zV (rn_catS rfl rfl hy17) rfl ?_; refine zV (zA (v := (.string ⟨y17.toArray⟩)) rfl) rfl ?_; refine zN ?_; refine WC_ret ?_
  have H : some y17 = some r := H
  have H := oi H; subst H
  exact ⟨rfl, hS.below⟩
set_option maxHeartbeats 1000000 in
theorem f91_ok {G0 : Gm} {w0 : World} (hS0 : Sat G0 w0) {x0 : TLandPerson} (hT : TabG Tryd.prog G0) {r : (List UInt8)} (H : f91 x0 = some r) :
  Calls Tryd.prog 91 #[.agg #[.int .i64 x0.Mother, .int .i64 x0.Adopted]] w0 (RetV w0 (.string ⟨r.toArray⟩)) := by
 have hS := Since.start hS0
 have hO : Owns G0 w0 w0.heap.size [] := Owns.nil (Nat.le_refl _)
 unfold f91 at H
 refine enter1 (N := 26) (shutV _ _) Tryd.func91 rfl rfl rfl rfl ?_; refine zS ?_; refine zO rfl (zW (v := fun b => .pointer (some ⟨b, 0, none⟩)) (cs := [.int .i64 x0.Mother, .int .i64 x0.Adopted]) (e := 85) (rn_boxA rfl) hS.sat rfl (fun b1 G3 w2 hg hcb1 => ?_)); have hS := hS.grow hg; have hO := hO.grow hg
 have leG3 := hg.le
 refine zV (zA (v := (.string ⟨([] : List UInt8).toArray⟩)) rfl) rfl ?_; refine zN ?_; refine zS ?_; refine zV (zA (v := (.string ⟨([112, 101, 114, 115, 111, 110] : List UInt8).toArray⟩)) rfl) rfl ?_; refine zN ?_; refine zQ ?_; refine zS ?_; refine zV (zF fd85_0 rfl) rfl ?_; refine zV (zL na3 rfl (hS.sat.cell (hcb1 0 _ rfl))) rfl ?_; refine zV (zF fd85_1 rfl) rfl ?_; refine zV (zL na3 rfl (hS.sat.cell (hcb1 1 _ rfl))) rfl ?_
 refine zV (v := (.agg #[.int .i64 x0.Mother, .int .i64 x0.Adopted])) (by kernel_rfl) rfl ?_
 refine zV (zm (v := (.int .i64 0)) rfl) rfl ?_; refine zN ?_; refine WC_block (WC_loopI ?_); refine WI_step ?_; refine zS ?_
 refine zV (v := (.bool true)) (by kernel_rfl) rfl ?_
 refine zN ?_; refine zQ ?_; refine WC_condT _ rfl rfl ?_; refine zP ?_; refine zQ ?_; refine WC_block ?_; refine zS ?_
 refine zV (v := (.int .i64 x0.Mother)) (by kernel_rfl) rfl ?_
 refine zV (zA (v := (.int .i64 x0.Mother)) rfl) rfl ?_; refine zN ?_; refine zS ?_; refine zV (zm (v := (.int .i64 x0.Mother)) rfl) rfl ?_; obtain ⟨y4, hy4, H⟩ := bnd H; refine zO rfl (zC cb98 (f98_ok (n := x0.Mother) hS.sat (hT.mono leG3) hy4) rfl rfl (fun w5 hb => ?_)); have hS := hS.keep hb; have hO := hO.below hb; refine zV (zA (v := (.string ⟨y4.toArray⟩)) rfl) rfl ?_; refine zN ?_; refine zQ ?_; obtain ⟨q6, hq6, H⟩ := bnd H; refine zM (fun F w => ∃ (Fb : Fr), F = upds Fb [(3, .string ⟨([112, 101, 114, 115, 111, 110] : List UInt8).toArray⟩), (6, .string ⟨q6.toArray⟩), (11, .agg #[.int .i64 x0.Mother, .int .i64 x0.Adopted]), (12, .int .i64 0)] ∧ w5 = w) ?_ ?_
 ·have Hoq6 := H; have H := hq6; refine zS ?_; refine zV (zm (v := (.int .i64 x0.Mother)) rfl) rfl ?_; refine zV (rn_eql rfl rfl) rfl ?_; refine zN ?_; refine zT rfl (fun hb7 => ?_) (fun hb7 => ?_)
  ·have H := ifT hb7 H; refine zR ?_; refine zV (zA (v := (.string ⟨([45] : List UInt8).toArray⟩)) rfl) rfl ?_; refine zN ?_; have H := oi H; subst H
   exact ⟨_, upds_self _ _ ⟨rfl, rfl, rfl, rfl, trivial⟩, rfl⟩
  ·have H := ifF hb7 H; refine zP ?_; have H := oi H; subst H
   exact ⟨_, upds_self _ _ ⟨rfl, rfl, rfl, rfl, trivial⟩, rfl⟩
 ·rintro F wl ⟨Fb, rfl, rfl⟩
  refine zR ?_; refine zV (zm (v := (.string ⟨([112, 101, 114, 115, 111, 110] : List UInt8).toArray⟩)) rfl) rfl ?_; refine zV (zm (v := (.string ⟨q6.toArray⟩)) rfl) rfl ?_; obtain ⟨y10, hy10, H⟩ := bnd H; refine zV (rn_catS rfl rfl hy10) rfl ?_; obtain ⟨y11, hy11, H⟩ := bnd H; refine zV (rn_catS rfl rfl hy11) rfl ?_; refine zV (zA (v := (.string ⟨y11.toArray⟩)) rfl) rfl ?_; refine zN ?_; refine zR ?_
  refine zV (v := (.int .i64 1)) (by kernel_rfl) rfl ?_
  refine zV (zm (v := (.int .i64 1)) rfl) rfl ?_; refine zN ?_; refine WI_step ?_; refine zS ?_
  refine zV (v := (.bool true)) (by kernel_rfl) rfl ?_
  refine zN ?_; refine zQ ?_; refine WC_condT _ rfl rfl ?_; refine zP ?_; refine zQ ?_; refine WC_block ?_; refine zS ?_
  refine zV (v := (.int .i64 x0.Adopted)) (by kernel_rfl) rfl ?_
  refine zV (zA (v := (.int .i64 x0.Adopted)) rfl) rfl ?_; refine zN ?_; refine zS ?_; refine zV (zm (v := (.int .i64 x0.Adopted)) rfl) rfl ?_; obtain ⟨y12, hy12, H⟩ := bnd H; refine zO rfl (zC cb98 (f98_ok (n := x0.Adopted) hS.sat (hT.mono leG3) hy12) rfl rfl (fun w13 hb => ?_)); have hS := hS.keep hb; have hO := hO.below hb; refine zV (zA (v := (.string ⟨y12.toArray⟩)) rfl) rfl ?_; refine zN ?_; refine zQ ?_; obtain ⟨q14, hq14, H⟩ := bnd H; refine zM (fun F w => ∃ (Fb : Fr), F = upds Fb [(3, .string ⟨y11.toArray⟩), (6, .string ⟨q14.toArray⟩), (11, .agg #[.int .i64 x0.Mother, .int .i64 x0.Adopted]), (12, .int .i64 1)] ∧ w13 = w) ?_ ?_
  ·have Hoq14 := H; have H := hq14; refine zS ?_; refine zV (zm (v := (.int .i64 x0.Adopted)) rfl) rfl ?_; refine zV (rn_eql rfl rfl) rfl ?_; refine zN ?_; refine zT rfl (fun hb15 => ?_) (fun hb15 => ?_)
   ·have H := ifT hb15 H; refine zR ?_; refine zV (zA (v := (.string ⟨([45] : List UInt8).toArray⟩)) rfl) rfl ?_; refine zN ?_; have H := oi H; subst H
    exact ⟨_, upds_self _ _ ⟨rfl, rfl, rfl, rfl, trivial⟩, rfl⟩
   ·have H := ifF hb15 H; refine zP ?_; have H := oi H; subst H
    exact ⟨_, upds_self _ _ ⟨rfl, rfl, rfl, rfl, trivial⟩, rfl⟩
  ·rintro F wl ⟨Fb, rfl, rfl⟩
   refine zR ?_; refine zV (zm (v := (.string ⟨y11.toArray⟩)) rfl) rfl ?_; refine zV (zm (v := (.string ⟨q14.toArray⟩)) rfl) rfl ?_; obtain ⟨y18, hy18, H⟩ := bnd H; refine zV (rn_catS rfl rfl hy18) rfl ?_; obtain ⟨y19, hy19, H⟩ := bnd H; refine zV (rn_catS rfl rfl hy19) rfl ?_; refine zV (zA (v := (.string ⟨y19.toArray⟩)) rfl) rfl ?_; refine zN ?_; refine zR ?_
   refine zV (v := (.int .i64 2)) (by kernel_rfl) rfl ?_
   refine zV (zm (v := (.int .i64 2)) rfl) rfl ?_; refine zN ?_; refine WI_step ?_; refine zS ?_
   refine zV (v := (.bool false)) (by kernel_rfl) rfl ?_
   refine zN ?_; refine zQ ?_; refine WC_condF _ rfl rfl ?_; refine WC_exit rfl ?_; refine zS ?_; refine zV (zm (v := (.string ⟨y19.toArray⟩)) rfl) rfl ?_; obtain ⟨y20, hy20, H⟩ := bnd H; refine zV (rn_catS rfl rfl hy20) rfl ?_; refine zV (zA (v := (.string ⟨y20.toArray⟩)) rfl) rfl ?_; refine zN ?_; refine WC_ret ?_
   have H : some y20 = some r := H
   have H := oi H; subst H
   exact ⟨rfl, hS.below⟩
set_option maxHeartbeats 1000000 in
theorem f93_ok {G0 : Gm} {w0 : World} (hS0 : Sat G0 w0) {x0 : (List UInt8)} (hT : TabG Tryd.prog G0) {r : (List UInt8)} (H : f93 x0 = some r) :
  Calls Tryd.prog 93 #[.string ⟨x0.toArray⟩] w0 (RetV w0 (.string ⟨r.toArray⟩)) := by
 have hS := Since.start hS0
 have hO : Owns G0 w0 w0.heap.size [] := Owns.nil (Nat.le_refl _)
 unfold f93 at H
 refine enter1 (N := 38) (shutV _ _) Tryd.func93 rfl rfl rfl rfl ?_; refine zS ?_; refine zV (zA (v := (.string ⟨([] : List UInt8).toArray⟩)) rfl) rfl ?_; refine zN ?_; refine zS ?_; refine zV (zA (v := (.int .i64 0)) rfl) rfl ?_; refine zV (zA (v := (.int .i64 0)) rfl) rfl ?_; refine zN ?_; refine zQ ?_; refine zS ?_; refine zV (zm (v := (.string ⟨x0.toArray⟩)) rfl) rfl ?_; refine zO rfl (OpP_rangeS Tryd.underlying9 hS hO rfl rfl (fun r1 w2 hS hO => ?_))
 have hO : Owns G0 w2 w0.heap.size ([⟨0, 1, 2, .map (some r1), [.string ⟨x0.toArray⟩, .int .i64 ((0 : Nat) : Int)]⟩]) := hO
 refine zN ?_; obtain ⟨q6, hq6, H⟩ := bnd H; refine zM (fun F w => ∃ (Fb : Fr) (G : Gm), F = upds Fb [(3, .int .i64 q6.1)] ∧ Gle G0 G ∧ Since w0.heap.size G0 w0 G w ∧ Owns G w w0.heap.size [⟨0, 1, 2, .map (some r1), [.string ⟨x0.toArray⟩, .int .i64 ((q6.2 : Nat) : Int)]⟩]) ?_ ?_
 ·refine WC_block (WC_loop hq6 (fun s4 F w => ∃ (Fb : Fr) (G : Gm), F = upds Fb [(3, .int .i64 s4.1), (4, .int .i64 s4.2.1), (8, .pointer (some ⟨r1, 0, none⟩))] ∧ Gle G0 G ∧ Since w0.heap.size G0 w0 G w ∧ Owns G w w0.heap.size [⟨0, 1, 2, .map (some r1), [.string ⟨x0.toArray⟩, .int .i64 ((s4.2.2 : Nat) : Int)]⟩]) ?_ ?_)
  ·have hO : Owns G0 w2 w0.heap.size ([⟨0, 1, 2, .map (some r1), [.string ⟨x0.toArray⟩, .int .i64 ((0 : Nat) : Int)]⟩]) := hO
   exact ⟨_, G0, upds_self _ _ ⟨rfl, rfl, rfl, trivial⟩, Gle.refl _, hS, hO⟩
  ·rintro s4 F w8 t7 ⟨Fb, G9, rfl, leG9, hS, hO⟩
   intro H1 hqq6
   have Hoq6 := H; have H := H1
   unfold f93_b0 at H
   refine zS ?_
   rcases bcases (decide (s4.2.2 < x0.length)) with hb10 | hb10
   ·have H := ifT hb10 H; refine zO rfl (OpP_nextN (k := 0) hS hO rfl rfl rfl hb10 (fun w11 hS hO => ?_))
    have hO : Owns G9 w11 w0.heap.size ([⟨0, 1, 2, .map (some r1), [.string ⟨x0.toArray⟩, .int .i64 (((s4.2.2 + (decN x0 s4.2.2).2) : Nat) : Int)]⟩]) := hO
    refine zV (zX (v := (.bool true)) rfl rfl) rfl ?_; refine zN ?_; refine zQ ?_; refine WC_condT _ rfl rfl ?_; refine zP ?_; refine WC_block ?_; refine zS ?_; refine zV (zX (v := (.int .i32 ((decN x0 s4.2.2).1))) rfl rfl) rfl ?_; refine zV (zA (v := (.int .i32 ((decN x0 s4.2.2).1))) rfl) rfl ?_; refine zN ?_; refine zQ ?_; obtain ⟨q12, hq12, H⟩ := bnd H; refine zM (fun F w => ∃ (Fb : Fr), F = upds Fb [(3, .int .i64 s4.1), (4, .int .i64 s4.2.1), (6, .int .i32 ((decN x0 s4.2.2).1)), (8, .pointer (some ⟨r1, 0, none⟩)), (17, .bool q12)] ∧ w11 = w) ?_ ?_
    ·have Hoq12 := H; have H := hq12; refine zR ?_; refine zV (zm (v := (.int .i32 ((decN x0 s4.2.2).1))) rfl) rfl ?_; refine zV (rn_geq rfl rfl) rfl ?_; refine zV (zm (v := (.bool (decide (48 ≤ ((decN x0 s4.2.2).1))))) rfl) rfl ?_
     rcases bcases (decide (48 ≤ ((decN x0 s4.2.2).1))) with hb13 | hb13
     ·have H := ifT hb13 H; refine zY rfl hb13 rfl rfl ?_; refine zV (zm (v := (.int .i32 ((decN x0 s4.2.2).1))) rfl) rfl ?_; refine zY rfl hb13 rfl rfl ?_; refine zV (rn_leq rfl rfl) rfl ?_; refine zV (rn_pickT (v := (.bool (decide (((decN x0 s4.2.2).1) ≤ 57)))) rfl hb13 rfl) rfl ?_; refine zN ?_; have H := oi H; subst H
      exact ⟨_, upds_self _ _ ⟨rfl, rfl, rfl, rfl, rfl, trivial⟩, rfl⟩
     ·have H := ifF hb13 H; refine zG rfl hb13 rfl rfl rfl ?_; refine zG rfl hb13 rfl rfl rfl ?_; refine zV (rn_pickF (v := (.bool false)) rfl hb13 rfl) rfl ?_; refine zN ?_; have H := oi H; subst H
      exact ⟨_, upds_self _ _ ⟨rfl, rfl, rfl, rfl, rfl, trivial⟩, rfl⟩
    ·rintro F wl ⟨Fb, rfl, rfl⟩
     refine zT rfl (fun hb16 => ?_) (fun hb16 => ?_)
     ·have H := ifT hb16 H; refine zS ?_; refine zV (zm (v := (.int .i64 s4.1)) rfl) rfl ?_; refine zV (zm (v := (.int .i32 ((decN x0 s4.2.2).1))) rfl) rfl ?_; refine zV (rn_sub rfl rfl) rfl ?_; refine zV (rn_conv Tryd.underlying21 Tryd.underlying3 rfl) rfl ?_; refine zV (zm (v := (.int .i64 s4.2.1)) rfl) rfl ?_
      refine zV (rn_rem rfl rfl (by decide)) rfl ?_
      refine zV (rn_add rfl rfl) rfl ?_; refine zV (rn_mul rfl rfl) rfl ?_; refine zV (rn_add rfl rfl) rfl ?_; refine zV (zA (v := (.int .i64 (IntKind.i64.wrap (s4.1 + (IntKind.i64.wrap ((IntKind.i64.wrap (IntKind.i32.wrap (((decN x0 s4.2.2).1) - 48))) * (IntKind.i64.wrap (1 + (s4.2.1.tmod 9))))))))) rfl) rfl ?_; refine zN ?_; refine zR ?_; refine zV (zm (v := (.int .i64 s4.2.1)) rfl) rfl ?_; refine zV (rn_add rfl rfl) rfl ?_; refine zV (zA (v := (.int .i64 (IntKind.i64.wrap (s4.2.1 + 1)))) rfl) rfl ?_; refine zN ?_
      have hO : Owns G9 w11 w0.heap.size ([⟨0, 1, 2, .map (some r1), [.string ⟨x0.toArray⟩, .int .i64 (((s4.2.2 + (decN x0 s4.2.2).2) : Nat) : Int)]⟩]) := hO
      have H := oi H; subst H; refine ⟨_, rfl, ?_⟩
      exact ⟨_, G9, upds_self _ _ ⟨rfl, rfl, rfl, trivial⟩, leG9, hS, hO⟩
     ·have H := ifF hb16 H; refine zP ?_
      have hO : Owns G9 w11 w0.heap.size ([⟨0, 1, 2, .map (some r1), [.string ⟨x0.toArray⟩, .int .i64 (((s4.2.2 + (decN x0 s4.2.2).2) : Nat) : Int)]⟩]) := hO
      have H := oi H; subst H; refine ⟨_, rfl, ?_⟩
      exact ⟨_, G9, upds_self _ _ ⟨rfl, rfl, rfl, trivial⟩, leG9, hS, hO⟩
   ·have H := ifF hb10 H; refine zO rfl (OpP_overN (k := 0) hO rfl rfl rfl hb10 ?_); refine zV (zX (v := (.bool false)) rfl rfl) rfl ?_; refine zN ?_; refine zQ ?_; refine WC_condF _ rfl rfl ?_; refine WC_exit rfl ?_
    have hO : Owns G9 w8 w0.heap.size ([⟨0, 1, 2, .map (some r1), [.string ⟨x0.toArray⟩, .int .i64 ((s4.2.2 : Nat) : Int)]⟩]) := hO
    have H := oi H; subst H
    have hres := hqq6 _ rfl
    subst hres
    exact ⟨_, G9, upds_self _ _ ⟨rfl, trivial⟩, leG9, hS, hO⟩
 ·rintro F w17 ⟨Fb, G18, rfl, leG18, hS, hO⟩
  refine zS ?_; refine zV (zm (v := (.int .i64 q6.1)) rfl) rfl ?_
  refine zV (rn_rem rfl rfl (by decide)) rfl ?_
  refine zV (zA (v := (.int .i64 (q6.1.tmod 97))) rfl) rfl ?_; refine zN ?_; refine zS ?_; refine zV (zm (v := (.int .i64 (q6.1.tmod 97))) rfl) rfl ?_
  refine zV (rn_quo rfl rfl (by decide)) rfl ?_
  obtain ⟨y19, hy19, H⟩ := bnd H; refine zO rfl (zC cb98 (f98_ok (n := IntKind.i64.wrap ((q6.1.tmod 97).tdiv 10)) hS.sat (hT.mono leG18) hy19) rfl rfl (fun w20 hb => ?_)); have hS := hS.keep hb; have hO := hO.below hb; refine zV (zm (v := (.int .i64 (q6.1.tmod 97))) rfl) rfl ?_
  refine zV (rn_rem rfl rfl (by decide)) rfl ?_
  obtain ⟨y21, hy21, H⟩ := bnd H; refine zO rfl (zC cb98 (f98_ok (n := (q6.1.tmod 97).tmod 10) hS.sat (hT.mono leG18) hy21) rfl rfl (fun w22 hb => ?_)); have hS := hS.keep hb; have hO := hO.below hb; obtain ⟨y23, hy23, H⟩ := bnd H; refine zV (rn_catS rfl rfl hy23) rfl ?_; refine zV (zA (v := (.string ⟨y23.toArray⟩)) rfl) rfl ?_; refine zN ?_; refine WC_ret ?_
  have H : some y23 = some r := H
  have H := oi H; subst H
  exact ⟨rfl, hS.below⟩
set_option maxHeartbeats 1000000 in
theorem f75_ok {G0 : Gm} {w0 : World} (hS0 : Sat G0 w0) {x0 : TLandBook} {a1 : Option Addr} {n1 c1 : Nat} {a2 : Option Addr} {n2 c2 : Nat} {a3 : Option Addr} {n3 c3 : Nat} (hT : TabG Tryd.prog G0) (h1 : RSl RTLandPerson 2 G0 a1 n1 c1 x0.People) (h2 : RSl RTLandEvent 2 G0 a2 n2 c2 x0.Events) (h3 : RSl RTLandMemory 4 G0 a3 n3 c3 x0.Memories) {r : (List UInt8)} (H : f75 x0 = some r) :
  Calls Tryd.prog 75 #[.agg #[.slice a1 n1 c1, .slice a2 n2 c2, .slice a3 n3 c3]] w0 (RetV w0 (.string ⟨r.toArray⟩)) := by
 have hS := Since.start hS0
 have hO : Owns G0 w0 w0.heap.size [] := Owns.nil (Nat.le_refl _)
 unfold f75 at H
 refine enter1 (N := 75) (shutV _ _) Tryd.func75 rfl rfl rfl rfl ?_; refine zS ?_; refine zO rfl (zW (v := fun b => .pointer (some ⟨b, 0, none⟩)) (cs := [.slice a1 n1 c1, .slice a2 n2 c2, .slice a3 n3 c3]) (e := 26) (rn_boxA rfl) hS.sat rfl (fun b4 G6 w5 hg hcb4 => ?_)); have hS := hS.grow hg; have hO := hO.grow hg
 have leG6 := hg.le
 refine zV (zA (v := (.string ⟨([] : List UInt8).toArray⟩)) rfl) rfl ?_; refine zN ?_; refine zS ?_
 refine zO rfl (OpP_newBx (e := 118) (v := fun b => .pointer (some ⟨b, 0, none⟩)) (u1 := .pointer none) (u2 := .slice none 0 0) (by kernel_rfl) hS hO rfl (fun b7 w8 hS hO => ?_))
 have hO := hO.cons_nil 5 1
 have hO : Owns G6 w8 w0.heap.size ([⟨5, 1, 0, .slice none 0 0, []⟩, bx 118 b7 (.pointer none) (.slice none 0 0)]) := hO
 refine zN ?_; refine zS ?_; refine zV (zF fd26_0 rfl) rfl ?_; refine zV (zL na22 rfl (hS.sat.cell (hcb4 0 _ rfl))) rfl ?_; refine zV (rn_len sl22 rfl rfl (h1.mono RTLandPerson_mono leG6).1) rfl ?_; refine zV (zF fd26_1 rfl) rfl ?_; refine zV (zL na23 rfl (hS.sat.cell (hcb4 1 _ rfl))) rfl ?_; refine zV (rn_len sl23 rfl rfl (h2.mono RTLandEvent_mono leG6).1) rfl ?_; refine zV (zF fd26_2 rfl) rfl ?_; refine zV (zL na24 rfl (hS.sat.cell (hcb4 2 _ rfl))) rfl ?_; refine zV (rn_len sl24 rfl rfl (h3.mono RTLandMemory_mono leG6).1) rfl ?_
 refine zO rfl (zW (v := fun b => .slice (some ⟨b, 0, none⟩) 3 3) (cs := [.int .i64 (x0.People.length : Int), .int .i64 (x0.Events.length : Int), .int .i64 (x0.Memories.length : Int)]) (e := 3) (by kernel_rfl) hS.sat rfl (fun b11 G13 w12 hg hcb11 => ?_))
 have hS := hS.grow hg; have hO := hO.grow hg
 have leG13 := hg.le
 have hfb11 : RSl RInt 1 G13 (some ⟨b11, 0, none⟩) 3 3 [(x0.People.length : Int), (x0.Events.length : Int), (x0.Memories.length : Int)] := RSl.of_rd hcb11 (Rd.cons (c := [.int .i64 (x0.People.length : Int)]) rfl rfl (Rd.cons (c := [.int .i64 (x0.Events.length : Int)]) rfl rfl (Rd.cons (c := [.int .i64 (x0.Memories.length : Int)]) rfl rfl (Rd.nil RInt 1 _)))) rfl (by decide)
 obtain ⟨y14, hy14, H⟩ := bnd H
 have l0_2 := leG6.trans leG13
 refine zO rfl (zC cb90 (f90_ok (x0 := ([108, 97, 110, 100] : List UInt8)) (x1 := [(x0.People.length : Int), (x0.Events.length : Int), (x0.Memories.length : Int)]) hS.sat (hT.mono l0_2) hfb11 hy14) rfl rfl (fun w15 hb => ?_)); have hS := hS.keep hb; have hO := hO.below hb; have hO := hO.front (k := 0) rfl; have hO := hO.front (k := 1) rfl
 have hO : Owns G13 w15 w0.heap.size ([bx 118 b7 (.pointer none) (.slice none 0 0), ⟨5, 1, 0, .slice none 0 0, []⟩]) := hO
 obtain ⟨y16, hy16, H⟩ := bnd H; refine zO rfl (OpP_lent (fi := []) (al := [.pointer (some ⟨b7, 0, none⟩), .string ⟨y14.toArray⟩]) (ca := []) cb89 (f89_ok (s := y14) hS hO (.inl rfl) rfl ((Rd.nil RU8 1 G6).mono RU8_mono leG13) hy16) rfl rfl rfl (fun vG18 G18 w17 L19 leG18 hS hO hvG18 => ?_)); obtain ⟨aw17, nw17, cw17, clw17, rfl, rfl, hnw17, hrw17⟩ := hvG18
 have hO : Owns G18 w17 w0.heap.size ([bx 118 b7 (.pointer (some ⟨b7, 0, none⟩)) (.slice aw17 nw17 cw17), ⟨5, 1, nw17, .slice aw17 nw17 cw17, clw17⟩]) := hO
 refine zN ?_; refine zQ ?_; refine zS ?_; refine zV (zF fd26_0 rfl) rfl ?_
 have l1_3 := leG13.trans leG18
 refine zV (zL na22 rfl ((hS.sat.le l1_3).cell (hcb4 0 _ rfl))) rfl ?_
 have l0_3 := l0_2.trans leG18
 refine zV (rn_len sl22 rfl rfl (h1.mono RTLandPerson_mono l0_3).1) rfl ?_; refine zV (zm (v := (.int .i64 0)) rfl) rfl ?_; refine zN ?_; obtain ⟨q22, hq22, H⟩ := bnd H; refine zM (fun F w => ∃ (Fb : Fr) (G : Gm) (aq22_0 : Option Addr) (nq22_0 cq22_0 : Nat) (claq22_0 : List Value), F = upds Fb [(1, .pointer (some ⟨b4, 0, none⟩)), (3, .pointer (some ⟨b7, 0, none⟩))] ∧ Gle G18 G ∧ Since w0.heap.size G0 w0 G w ∧ Owns G w w0.heap.size [bx 118 b7 (.pointer (some ⟨b7, 0, none⟩)) (.slice aq22_0 nq22_0 cq22_0), ⟨5, 1, nq22_0, .slice aq22_0 nq22_0 cq22_0, claq22_0⟩] ∧ nq22_0 = q22.length ∧ Rd RU8 1 G claq22_0 q22) ?_ ?_
 ·refine WC_block (WC_loop hq22 (fun s20 F w => ∃ (Fb : Fr) (G : Gm) (as20_0 : Option Addr) (ns20_0 cs20_0 : Nat) (clas20_0 : List Value), F = upds Fb [(1, .pointer (some ⟨b4, 0, none⟩)), (3, .pointer (some ⟨b7, 0, none⟩)), (23, .slice a1 n1 c1), (24, .int .i64 (x0.People.length : Int)), (25, .int .i64 s20.1)] ∧ Gle G18 G ∧ Since w0.heap.size G0 w0 G w ∧ Owns G w w0.heap.size [bx 118 b7 (.pointer (some ⟨b7, 0, none⟩)) (.slice as20_0 ns20_0 cs20_0), ⟨5, 1, ns20_0, .slice as20_0 ns20_0 cs20_0, clas20_0⟩] ∧ ns20_0 = s20.2.length ∧ Rd RU8 1 G clas20_0 s20.2) ?_ ?_)
  ·have hO : Owns G18 w17 w0.heap.size ([bx 118 b7 (.pointer (some ⟨b7, 0, none⟩)) (.slice aw17 nw17 cw17), ⟨5, 1, nw17, .slice aw17 nw17 cw17, clw17⟩]) := hO
   exact ⟨_, G18, aw17, nw17, cw17, clw17, upds_self _ _ ⟨rfl, rfl, rfl, rfl, rfl, trivial⟩, Gle.refl _, hS, hO, hnw17, hrw17⟩
  ·rintro s20 F w24 t23 ⟨Fb, G25, as20_0, ns20_0, cs20_0, clas20_0, rfl, leG25, hS, hO, hnhs20_0, hs20_0⟩
   intro H1 hqq22
   have Hoq22 := H; have H := H1
   unfold f75_b0 at H
   refine zS ?_; refine zV (rn_lss rfl rfl) rfl ?_; refine zN ?_; refine zQ ?_; refine zT rfl (fun hb26 => ?_) (fun hb26 => ?_)
   ·have H := ifT hb26 H; refine zP ?_; refine zQ ?_; refine WC_block ?_; refine zS ?_; obtain ⟨y27, hy27, H⟩ := bnd H
    have l0_4 := l0_3.trans leG25
    refine WL_idx sl22 (h1.mono RTLandPerson_mono l0_4) hy27 rfl rfl rfl ?_
    rintro b28 o28 _ hcb28 _ ⟨⟩
    refine zV (rn_loadA ag85 (cs := [.int .i64 y27.Mother, .int .i64 y27.Adopted]) rfl rfl (fun j v hj => hS.sat.cell (hcb28.drop_take 0 2 j v hj))) rfl ?_
    refine zO rfl (zU (v := fun b => .pointer (some ⟨b, 0, none⟩)) (cs := [.int .i64 0, .int .i64 0]) (e := 85) (by kernel_rfl) hS.sat hO rfl 2 1 rfl (by decide) (fun b29 w30 hb hO => ?_))
    have hS := hS.keep hb; refine zO rfl (OpP_store (vs := [.int .i64 y27.Mother, .int .i64 y27.Adopted]) sz85 hS hO (k := 0) rfl rfl rfl rfl rfl (one_all rfl) (Nat.le_of_ble_eq_true rfl) (fun w32 hS hO => ?_))
    have hO : Owns G25 w32 w0.heap.size ([⟨85, 2, 1, .slice (some ⟨b29, 0, none⟩) 1 1, [.int .i64 y27.Mother, .int .i64 y27.Adopted]⟩, bx 118 b7 (.pointer (some ⟨b7, 0, none⟩)) (.slice as20_0 ns20_0 cs20_0), ⟨5, 1, ns20_0, .slice as20_0 ns20_0 cs20_0, clas20_0⟩]) := hO
    obtain ⟨G33, leG33, hS, hO, hqG33, _⟩ := hO.freeze hS (k := 0) rfl
    have hcG33 : Cells G33 b29 0 [.int .i64 y27.Mother, .int .i64 y27.Adopted] := (hqG33 _ _ _ _ rfl)
    refine zN ?_; refine zR ?_; refine zV (rn_loadA ag85 (cs := [.int .i64 y27.Mother, .int .i64 y27.Adopted]) rfl rfl (fun j v hj => hS.sat.cell (hcG33.drop_take 0 2 j v hj))) rfl ?_; obtain ⟨y34, hy34, H⟩ := bnd H
    have l0_5 := l0_4.trans leG33
    refine zO rfl (zC cb91 (f91_ok (x0 := y27) hS.sat (hT.mono l0_5)  hy34) rfl rfl (fun w35 hb => ?_)); have hS := hS.keep hb; have hO := hO.below hb; obtain ⟨y36, hy36, H⟩ := bnd H; refine zO rfl (OpP_lent (fi := []) (al := [.pointer (some ⟨b7, 0, none⟩), .string ⟨y34.toArray⟩]) (ca := []) cb89 (f89_ok (s := y34) hS hO (.inr rfl) hnhs20_0 (hs20_0.mono RU8_mono leG33) hy36) rfl rfl rfl (fun vG38 G38 w37 L39 leG38 hS hO hvG38 => ?_)); obtain ⟨aw37, nw37, cw37, clw37, rfl, rfl, hnw37, hrw37⟩ := hvG38
    have hO : Owns G38 w37 w0.heap.size ([bx 118 b7 (.pointer (some ⟨b7, 0, none⟩)) (.slice aw37 nw37 cw37), ⟨5, 1, nw37, .slice aw37 nw37 cw37, clw37⟩]) := hO
    refine zN ?_; refine zR ?_; refine zV (rn_add rfl rfl) rfl ?_; refine zV (zm (v := (.int .i64 (IntKind.i64.wrap (s20.1 + 1)))) rfl) rfl ?_; refine zN ?_
    have hO : Owns G38 w37 w0.heap.size ([bx 118 b7 (.pointer (some ⟨b7, 0, none⟩)) (.slice aw37 nw37 cw37), ⟨5, 1, nw37, .slice aw37 nw37 cw37, clw37⟩]) := hO
    have H := oi H; subst H; refine ⟨_, rfl, ?_⟩
    have l3_6 := (leG25.trans leG33).trans leG38
    exact ⟨_, G38, aw37, nw37, cw37, clw37, upds_self _ _ ⟨rfl, rfl, rfl, rfl, rfl, trivial⟩, l3_6, hS, hO, hnw37, hrw37⟩
   ·have H := ifF hb26 H; refine WC_exit rfl ?_
    have hO : Owns G25 w24 w0.heap.size ([bx 118 b7 (.pointer (some ⟨b7, 0, none⟩)) (.slice as20_0 ns20_0 cs20_0), ⟨5, 1, ns20_0, .slice as20_0 ns20_0 cs20_0, clas20_0⟩]) := hO
    have H := oi H; subst H
    have hres := hqq22 _ rfl
    subst hres
    exact ⟨_, G25, as20_0, ns20_0, cs20_0, clas20_0, upds_self _ _ ⟨rfl, rfl, trivial⟩, leG25, hS, hO, hnhs20_0, hs20_0⟩
 ·rintro F w40 ⟨Fb, G41, aq22_0, nq22_0, cq22_0, claq22_0, rfl, leG41, hS, hO, hnhq22_0, hq22_0⟩
  refine zQ ?_; refine zS ?_; refine zV (zF fd26_1 rfl) rfl ?_
  have l1_4 := l1_3.trans leG41
  refine zV (zL na23 rfl ((hS.sat.le l1_4).cell (hcb4 1 _ rfl))) rfl ?_
  have l0_4 := l0_3.trans leG41
  refine zV (rn_len sl23 rfl rfl (h2.mono RTLandEvent_mono l0_4).1) rfl ?_; refine zV (zm (v := (.int .i64 0)) rfl) rfl ?_; refine zN ?_; obtain ⟨q44, hq44, H⟩ := bnd H; refine zM (fun F w => ∃ (Fb : Fr) (G : Gm) (aq44_0 : Option Addr) (nq44_0 cq44_0 : Nat) (claq44_0 : List Value), F = upds Fb [(1, .pointer (some ⟨b4, 0, none⟩)), (3, .pointer (some ⟨b7, 0, none⟩))] ∧ Gle G41 G ∧ Since w0.heap.size G0 w0 G w ∧ Owns G w w0.heap.size [bx 118 b7 (.pointer (some ⟨b7, 0, none⟩)) (.slice aq44_0 nq44_0 cq44_0), ⟨5, 1, nq44_0, .slice aq44_0 nq44_0 cq44_0, claq44_0⟩] ∧ nq44_0 = q44.length ∧ Rd RU8 1 G claq44_0 q44) ?_ ?_
  ·refine WC_block (WC_loop hq44 (fun s42 F w => ∃ (Fb : Fr) (G : Gm) (as42_0 : Option Addr) (ns42_0 cs42_0 : Nat) (clas42_0 : List Value), F = upds Fb [(1, .pointer (some ⟨b4, 0, none⟩)), (3, .pointer (some ⟨b7, 0, none⟩)), (34, .slice a2 n2 c2), (35, .int .i64 (x0.Events.length : Int)), (36, .int .i64 s42.1)] ∧ Gle G41 G ∧ Since w0.heap.size G0 w0 G w ∧ Owns G w w0.heap.size [bx 118 b7 (.pointer (some ⟨b7, 0, none⟩)) (.slice as42_0 ns42_0 cs42_0), ⟨5, 1, ns42_0, .slice as42_0 ns42_0 cs42_0, clas42_0⟩] ∧ ns42_0 = s42.2.length ∧ Rd RU8 1 G clas42_0 s42.2) ?_ ?_)
   ·have hO : Owns G41 w40 w0.heap.size ([bx 118 b7 (.pointer (some ⟨b7, 0, none⟩)) (.slice aq22_0 nq22_0 cq22_0), ⟨5, 1, nq22_0, .slice aq22_0 nq22_0 cq22_0, claq22_0⟩]) := hO
    exact ⟨_, G41, aq22_0, nq22_0, cq22_0, claq22_0, upds_self _ _ ⟨rfl, rfl, rfl, rfl, rfl, trivial⟩, Gle.refl _, hS, hO, hnhq22_0, hq22_0⟩
   ·rintro s42 F w46 t45 ⟨Fb, G47, as42_0, ns42_0, cs42_0, clas42_0, rfl, leG47, hS, hO, hnhs42_0, hs42_0⟩
    intro H1 hqq44
    have Hoq44 := H; have H := H1
    unfold f75_b1 at H
    refine zS ?_; refine zV (rn_lss rfl rfl) rfl ?_; refine zN ?_; refine zQ ?_; refine zT rfl (fun hb48 => ?_) (fun hb48 => ?_)
    ·have H := ifT hb48 H; refine zP ?_; refine zQ ?_; refine WC_block ?_; refine zS ?_; obtain ⟨y49, hy49, H⟩ := bnd H
     have l0_5 := l0_4.trans leG47
     refine WL_idx sl23 (h2.mono RTLandEvent_mono l0_5) hy49 rfl rfl rfl ?_
     rintro b50 o50 _ hcb50 _ ⟨⟩
     refine zV (rn_loadA ag69 (cs := [.int .i64 y49.Strip, .int .i64 y49.Holder]) rfl rfl (fun j v hj => hS.sat.cell (hcb50.drop_take 0 2 j v hj))) rfl ?_
     refine zO rfl (zU (v := fun b => .pointer (some ⟨b, 0, none⟩)) (cs := [.int .i64 0, .int .i64 0]) (e := 69) (by kernel_rfl) hS.sat hO rfl 2 1 rfl (by decide) (fun b51 w52 hb hO => ?_))
     have hS := hS.keep hb; refine zO rfl (OpP_store (vs := [.int .i64 y49.Strip, .int .i64 y49.Holder]) sz69 hS hO (k := 0) rfl rfl rfl rfl rfl (one_all rfl) (Nat.le_of_ble_eq_true rfl) (fun w54 hS hO => ?_))
     have hO : Owns G47 w54 w0.heap.size ([⟨69, 2, 1, .slice (some ⟨b51, 0, none⟩) 1 1, [.int .i64 y49.Strip, .int .i64 y49.Holder]⟩, bx 118 b7 (.pointer (some ⟨b7, 0, none⟩)) (.slice as42_0 ns42_0 cs42_0), ⟨5, 1, ns42_0, .slice as42_0 ns42_0 cs42_0, clas42_0⟩]) := hO
     obtain ⟨G55, leG55, hS, hO, hqG55, _⟩ := hO.freeze hS (k := 0) rfl
     have hcG55 : Cells G55 b51 0 [.int .i64 y49.Strip, .int .i64 y49.Holder] := (hqG55 _ _ _ _ rfl)
     refine zN ?_; refine zR ?_; refine zV (zF fd69_0 rfl) rfl ?_; refine zV (zL na3 rfl (hS.sat.cell (hcG55 0 _ rfl))) rfl ?_; refine zV (zF fd69_1 rfl) rfl ?_; refine zV (zL na3 rfl (hS.sat.cell (hcG55 1 _ rfl))) rfl ?_
     refine zO rfl (zW (v := fun b => .slice (some ⟨b, 0, none⟩) 2 2) (cs := [.int .i64 y49.Strip, .int .i64 y49.Holder]) (e := 3) (by kernel_rfl) hS.sat rfl (fun b56 G58 w57 hg hcb56 => ?_))
     have hS := hS.grow hg; have hO := hO.grow hg
     have leG58 := hg.le
     have hfb56 : RSl RInt 1 G58 (some ⟨b56, 0, none⟩) 2 2 [y49.Strip, y49.Holder] := RSl.of_rd hcb56 (Rd.cons (c := [.int .i64 y49.Strip]) rfl rfl (Rd.cons (c := [.int .i64 y49.Holder]) rfl rfl (Rd.nil RInt 1 _))) rfl (by decide)
     obtain ⟨y59, hy59, H⟩ := bnd H
     have l0_7 := (l0_5.trans leG55).trans leG58
     refine zO rfl (zC cb90 (f90_ok (x0 := ([101, 118, 101, 110, 116] : List UInt8)) (x1 := [y49.Strip, y49.Holder]) hS.sat (hT.mono l0_7) hfb56 hy59) rfl rfl (fun w60 hb => ?_)); have hS := hS.keep hb; have hO := hO.below hb; obtain ⟨y61, hy61, H⟩ := bnd H
     have l5_7 := leG55.trans leG58
     refine zO rfl (OpP_lent (fi := []) (al := [.pointer (some ⟨b7, 0, none⟩), .string ⟨y59.toArray⟩]) (ca := []) cb89 (f89_ok (s := y59) hS hO (.inr rfl) hnhs42_0 (hs42_0.mono RU8_mono l5_7) hy61) rfl rfl rfl (fun vG63 G63 w62 L64 leG63 hS hO hvG63 => ?_)); obtain ⟨aw62, nw62, cw62, clw62, rfl, rfl, hnw62, hrw62⟩ := hvG63
     have hO : Owns G63 w62 w0.heap.size ([bx 118 b7 (.pointer (some ⟨b7, 0, none⟩)) (.slice aw62 nw62 cw62), ⟨5, 1, nw62, .slice aw62 nw62 cw62, clw62⟩]) := hO
     refine zN ?_; refine zR ?_; refine zV (rn_add rfl rfl) rfl ?_; refine zV (zm (v := (.int .i64 (IntKind.i64.wrap (s42.1 + 1)))) rfl) rfl ?_; refine zN ?_
     have hO : Owns G63 w62 w0.heap.size ([bx 118 b7 (.pointer (some ⟨b7, 0, none⟩)) (.slice aw62 nw62 cw62), ⟨5, 1, nw62, .slice aw62 nw62 cw62, clw62⟩]) := hO
     have H := oi H; subst H; refine ⟨_, rfl, ?_⟩
     have l4_8 := (leG47.trans l5_7).trans leG63
     exact ⟨_, G63, aw62, nw62, cw62, clw62, upds_self _ _ ⟨rfl, rfl, rfl, rfl, rfl, trivial⟩, l4_8, hS, hO, hnw62, hrw62⟩
    ·have H := ifF hb48 H; refine WC_exit rfl ?_
     have hO : Owns G47 w46 w0.heap.size ([bx 118 b7 (.pointer (some ⟨b7, 0, none⟩)) (.slice as42_0 ns42_0 cs42_0), ⟨5, 1, ns42_0, .slice as42_0 ns42_0 cs42_0, clas42_0⟩]) := hO
     have H := oi H; subst H
     have hres := hqq44 _ rfl
     subst hres
     exact ⟨_, G47, as42_0, ns42_0, cs42_0, clas42_0, upds_self _ _ ⟨rfl, rfl, trivial⟩, leG47, hS, hO, hnhs42_0, hs42_0⟩
  ·rintro F w65 ⟨Fb, G66, aq44_0, nq44_0, cq44_0, claq44_0, rfl, leG66, hS, hO, hnhq44_0, hq44_0⟩
   refine zQ ?_; refine zS ?_; refine zV (zF fd26_2 rfl) rfl ?_
   have l1_5 := l1_4.trans leG66
   refine zV (zL na24 rfl ((hS.sat.le l1_5).cell (hcb4 2 _ rfl))) rfl ?_
   have l0_5 := l0_4.trans leG66
   refine zV (rn_len sl24 rfl rfl (h3.mono RTLandMemory_mono l0_5).1) rfl ?_; refine zV (zm (v := (.int .i64 0)) rfl) rfl ?_; refine zN ?_; obtain ⟨q69, hq69, H⟩ := bnd H; refine zM (fun F w => ∃ (Fb : Fr) (G : Gm) (aq69_0 : Option Addr) (nq69_0 cq69_0 : Nat) (claq69_0 : List Value), F = upds Fb [(3, .pointer (some ⟨b7, 0, none⟩))] ∧ Gle G66 G ∧ Since w0.heap.size G0 w0 G w ∧ Owns G w w0.heap.size [bx 118 b7 (.pointer (some ⟨b7, 0, none⟩)) (.slice aq69_0 nq69_0 cq69_0), ⟨5, 1, nq69_0, .slice aq69_0 nq69_0 cq69_0, claq69_0⟩] ∧ nq69_0 = q69.length ∧ Rd RU8 1 G claq69_0 q69) ?_ ?_
   ·refine WC_block (WC_loop hq69 (fun s67 F w => ∃ (Fb : Fr) (G : Gm) (as67_0 : Option Addr) (ns67_0 cs67_0 : Nat) (clas67_0 : List Value), F = upds Fb [(3, .pointer (some ⟨b7, 0, none⟩)), (49, .slice a3 n3 c3), (50, .int .i64 (x0.Memories.length : Int)), (51, .int .i64 s67.1)] ∧ Gle G66 G ∧ Since w0.heap.size G0 w0 G w ∧ Owns G w w0.heap.size [bx 118 b7 (.pointer (some ⟨b7, 0, none⟩)) (.slice as67_0 ns67_0 cs67_0), ⟨5, 1, ns67_0, .slice as67_0 ns67_0 cs67_0, clas67_0⟩] ∧ ns67_0 = s67.2.length ∧ Rd RU8 1 G clas67_0 s67.2) ?_ ?_)
    ·have hO : Owns G66 w65 w0.heap.size ([bx 118 b7 (.pointer (some ⟨b7, 0, none⟩)) (.slice aq44_0 nq44_0 cq44_0), ⟨5, 1, nq44_0, .slice aq44_0 nq44_0 cq44_0, claq44_0⟩]) := hO
     exact ⟨_, G66, aq44_0, nq44_0, cq44_0, claq44_0, upds_self _ _ ⟨rfl, rfl, rfl, rfl, trivial⟩, Gle.refl _, hS, hO, hnhq44_0, hq44_0⟩
    ·rintro s67 F w71 t70 ⟨Fb, G72, as67_0, ns67_0, cs67_0, clas67_0, rfl, leG72, hS, hO, hnhs67_0, hs67_0⟩
     intro H1 hqq69
     have Hoq69 := H; have H := H1
     unfold f75_b2 at H
     refine zS ?_; refine zV (rn_lss rfl rfl) rfl ?_; refine zN ?_; refine zQ ?_; refine zT rfl (fun hb73 => ?_) (fun hb73 => ?_)
     ·have H := ifT hb73 H; refine zP ?_; refine zQ ?_; refine WC_block ?_; refine zS ?_; obtain ⟨y74, hy74, H⟩ := bnd H
      have l0_6 := l0_5.trans leG72
      refine WL_idx sl24 (h3.mono RTLandMemory_mono l0_6) hy74 rfl rfl rfl ?_
      rintro b75 o75 _ hcb75 _ ⟨⟩
      refine zV (rn_loadA ag46 (cs := [.int .i64 y74.From, .int .i64 y74.To, .int .i64 y74.Years.Low, .int .i64 y74.Years.High]) rfl rfl (fun j v hj => hS.sat.cell (hcb75.drop_take 0 4 j v hj))) rfl ?_
      refine zO rfl (zU (v := fun b => .pointer (some ⟨b, 0, none⟩)) (cs := [.int .i64 0, .int .i64 0, .int .i64 0, .int .i64 0]) (e := 46) (by kernel_rfl) hS.sat hO rfl 4 1 rfl (by decide) (fun b76 w77 hb hO => ?_))
      have hS := hS.keep hb; refine zO rfl (OpP_store (vs := [.int .i64 y74.From, .int .i64 y74.To, .int .i64 y74.Years.Low, .int .i64 y74.Years.High]) sz46 hS hO (k := 0) rfl rfl rfl rfl rfl (one_all rfl) (Nat.le_of_ble_eq_true rfl) (fun w79 hS hO => ?_))
      have hO : Owns G72 w79 w0.heap.size ([⟨46, 4, 1, .slice (some ⟨b76, 0, none⟩) 1 1, [.int .i64 y74.From, .int .i64 y74.To, .int .i64 y74.Years.Low, .int .i64 y74.Years.High]⟩, bx 118 b7 (.pointer (some ⟨b7, 0, none⟩)) (.slice as67_0 ns67_0 cs67_0), ⟨5, 1, ns67_0, .slice as67_0 ns67_0 cs67_0, clas67_0⟩]) := hO
      obtain ⟨G80, leG80, hS, hO, hqG80, _⟩ := hO.freeze hS (k := 0) rfl
      have hcG80 : Cells G80 b76 0 [.int .i64 y74.From, .int .i64 y74.To, .int .i64 y74.Years.Low, .int .i64 y74.Years.High] := (hqG80 _ _ _ _ rfl)
      refine zN ?_; refine zR ?_; refine zV (zF fd46_0 rfl) rfl ?_; refine zV (zL na3 rfl (hS.sat.cell (hcG80 0 _ rfl))) rfl ?_; refine zV (zF fd46_1 rfl) rfl ?_; refine zV (zL na3 rfl (hS.sat.cell (hcG80 1 _ rfl))) rfl ?_; refine zV (zF fd46_2 rfl) rfl ?_; refine zV (zF fd44_0 rfl) rfl ?_; refine zV (zL na3 rfl (hS.sat.cell (hcG80 2 _ rfl))) rfl ?_; refine zV (zF fd46_2 rfl) rfl ?_; refine zV (zF fd44_1 rfl) rfl ?_; refine zV (zL na3 rfl (hS.sat.cell (hcG80 3 _ rfl))) rfl ?_
      refine zO rfl (zW (v := fun b => .slice (some ⟨b, 0, none⟩) 4 4) (cs := [.int .i64 y74.From, .int .i64 y74.To, .int .i64 y74.Years.Low, .int .i64 y74.Years.High]) (e := 3) (by kernel_rfl) hS.sat rfl (fun b81 G83 w82 hg hcb81 => ?_))
      have hS := hS.grow hg; have hO := hO.grow hg
      have leG83 := hg.le
      have hfb81 : RSl RInt 1 G83 (some ⟨b81, 0, none⟩) 4 4 [y74.From, y74.To, y74.Years.Low, y74.Years.High] := RSl.of_rd hcb81 (Rd.cons (c := [.int .i64 y74.From]) rfl rfl (Rd.cons (c := [.int .i64 y74.To]) rfl rfl (Rd.cons (c := [.int .i64 y74.Years.Low]) rfl rfl (Rd.cons (c := [.int .i64 y74.Years.High]) rfl rfl (Rd.nil RInt 1 _))))) rfl (by decide)
      obtain ⟨y84, hy84, H⟩ := bnd H
      have l0_8 := (l0_6.trans leG80).trans leG83
      refine zO rfl (zC cb90 (f90_ok (x0 := ([109, 101, 109, 111, 114, 121] : List UInt8)) (x1 := [y74.From, y74.To, y74.Years.Low, y74.Years.High]) hS.sat (hT.mono l0_8) hfb81 hy84) rfl rfl (fun w85 hb => ?_)); have hS := hS.keep hb; have hO := hO.below hb; obtain ⟨y86, hy86, H⟩ := bnd H
      have l6_8 := leG80.trans leG83
      refine zO rfl (OpP_lent (fi := []) (al := [.pointer (some ⟨b7, 0, none⟩), .string ⟨y84.toArray⟩]) (ca := []) cb89 (f89_ok (s := y84) hS hO (.inr rfl) hnhs67_0 (hs67_0.mono RU8_mono l6_8) hy86) rfl rfl rfl (fun vG88 G88 w87 L89 leG88 hS hO hvG88 => ?_)); obtain ⟨aw87, nw87, cw87, clw87, rfl, rfl, hnw87, hrw87⟩ := hvG88
      have hO : Owns G88 w87 w0.heap.size ([bx 118 b7 (.pointer (some ⟨b7, 0, none⟩)) (.slice aw87 nw87 cw87), ⟨5, 1, nw87, .slice aw87 nw87 cw87, clw87⟩]) := hO
      refine zN ?_; refine zR ?_; refine zV (rn_add rfl rfl) rfl ?_; refine zV (zm (v := (.int .i64 (IntKind.i64.wrap (s67.1 + 1)))) rfl) rfl ?_; refine zN ?_
      have hO : Owns G88 w87 w0.heap.size ([bx 118 b7 (.pointer (some ⟨b7, 0, none⟩)) (.slice aw87 nw87 cw87), ⟨5, 1, nw87, .slice aw87 nw87 cw87, clw87⟩]) := hO
      have H := oi H; subst H; refine ⟨_, rfl, ?_⟩
      have l5_9 := (leG72.trans l6_8).trans leG88
      exact ⟨_, G88, aw87, nw87, cw87, clw87, upds_self _ _ ⟨rfl, rfl, rfl, rfl, trivial⟩, l5_9, hS, hO, hnw87, hrw87⟩
     ·have H := ifF hb73 H; refine WC_exit rfl ?_
      have hO : Owns G72 w71 w0.heap.size ([bx 118 b7 (.pointer (some ⟨b7, 0, none⟩)) (.slice as67_0 ns67_0 cs67_0), ⟨5, 1, ns67_0, .slice as67_0 ns67_0 cs67_0, clas67_0⟩]) := hO
      have H := oi H; subst H
      have hres := hqq69 _ rfl
      subst hres
      exact ⟨_, G72, as67_0, ns67_0, cs67_0, clas67_0, upds_self _ _ ⟨rfl, trivial⟩, leG72, hS, hO, hnhs67_0, hs67_0⟩
   ·rintro F w90 ⟨Fb, G91, aq69_0, nq69_0, cq69_0, claq69_0, rfl, leG91, hS, hO, hnhq69_0, hq69_0⟩
    refine zS ?_; obtain ⟨_, hz93, H⟩ := bnd H; refine zO rfl (OpP_lent (fi := []) (al := [.pointer (some ⟨b7, 0, none⟩)]) (ca := []) cb92 (f92_own hS hO hnhq69_0 hq69_0 (neS_some hz93)) rfl rfl rfl (fun vG94 G94 w92 L95 leG94 hS hO hvG94 => ?_)); obtain ⟨rfl, rfl, hqw92, hfw92⟩ := hvG94
    have hO : Owns G94 w92 w0.heap.size ([bx 118 b7 (.pointer (some ⟨b7, 0, none⟩)) (.slice aq69_0 nq69_0 cq69_0)]) := hO
    obtain ⟨y96, hy96, H⟩ := bnd H; refine zV (rn_catS rfl rfl hy96) rfl ?_; refine zO rfl (zC cb92 (f92_fz hS.sat (bx_cell1 hO (k := 0) rfl) hqw92 hfw92 (neS_some hz93)) rfl rfl (fun w97 hb => ?_)); have hS := hS.keep hb; have hO := hO.below hb; obtain ⟨y98, hy98, H⟩ := bnd H
    have l0_7 := (l0_5.trans leG91).trans leG94
    refine zO rfl (zC cb93 (f93_ok (x0 := q69) hS.sat (hT.mono l0_7)  hy98) rfl rfl (fun w99 hb => ?_)); have hS := hS.keep hb; have hO := hO.below hb; obtain ⟨y100, hy100, H⟩ := bnd H; refine zV (rn_catS rfl rfl hy100) rfl ?_; obtain ⟨y101, hy101, H⟩ := bnd H; refine zV (rn_catS rfl rfl hy101) rfl ?_; refine zV (zA (v := (.string ⟨y101.toArray⟩)) rfl) rfl ?_; refine zN ?_; refine WC_ret ?_
    have H : some y101 = some r := H
    have H := oi H; subst H
    exact ⟨rfl, hS.below⟩
set_option maxHeartbeats 1000000 in
theorem f50_ok {G0 : Gm} {w0 : World} (hS0 : Sat G0 w0) {x0 : TLandBook} {a1 : Option Addr} {n1 c1 : Nat} {a2 : Option Addr} {n2 c2 : Nat} {a3 : Option Addr} {n3 c3 : Nat} (hT : TabG Tryd.prog G0) (h1 : RSl RTLandPerson 2 G0 a1 n1 c1 x0.People) (h2 : RSl RTLandEvent 2 G0 a2 n2 c2 x0.Events) (h3 : RSl RTLandMemory 4 G0 a3 n3 c3 x0.Memories) {r : (List UInt8) × Int} (H : f50 x0 = some r) :
  Calls Tryd.prog 50 #[.agg #[.slice a1 n1 c1, .slice a2 n2 c2, .slice a3 n3 c3]] w0 (RetV w0 (.tuple #[.string ⟨r.1.toArray⟩, .int .i64 r.2])) := by
 have hS := Since.start hS0
 have hO : Owns G0 w0 w0.heap.size [] := Owns.nil (Nat.le_refl _)
 unfold f50 at H
 refine enter2 (N := 9) (shutV _ _) Tryd.func50 rfl rfl rfl rfl ?_; refine zS ?_; refine zO rfl (zW (v := fun b => .pointer (some ⟨b, 0, none⟩)) (cs := [.slice a1 n1 c1, .slice a2 n2 c2, .slice a3 n3 c3]) (e := 26) (rn_boxA rfl) hS.sat rfl (fun b4 G6 w5 hg hcb4 => ?_)); have hS := hS.grow hg; have hO := hO.grow hg
 have leG6 := hg.le
 refine zV (zA (v := (.string ⟨([] : List UInt8).toArray⟩)) rfl) rfl ?_; refine zV (zA (v := (.int .i64 0)) rfl) rfl ?_; refine zN ?_; refine zQ ?_; refine zS ?_; refine zV (rn_loadA ag26 (cs := [.slice a1 n1 c1, .slice a2 n2 c2, .slice a3 n3 c3]) rfl rfl (fun j v hj => hS.sat.cell (hcb4.drop_take 0 3 j v hj))) rfl ?_; obtain ⟨y7, hy7, H⟩ := bnd H; refine zO rfl (zC cb51 (f51_ok (x0 := x0) hS.sat (h1.mono RTLandPerson_mono leG6) (h2.mono RTLandEvent_mono leG6) (h3.mono RTLandMemory_mono leG6) hy7) rfl rfl (fun w8 hb => ?_)); have hS := hS.keep hb; have hO := hO.below hb; refine zV (rn_not rfl) rfl ?_; refine zN ?_; refine zT rfl (fun hb9 => ?_) (fun hb9 => ?_)
 ·have H := ifT hb9 H; refine zS ?_; refine zV (zA (v := (.string ⟨([] : List UInt8).toArray⟩)) rfl) rfl ?_; refine zV (zA (v := (.int .i64 2)) rfl) rfl ?_; refine zN ?_; refine WC_ret ?_
  have H : some (([] : List UInt8), 2) = some r := H
  have H := oi H; subst H
  exact ⟨rfl, hS.below⟩
 ·have H := ifF hb9 H; refine zP ?_; refine zS ?_; refine zV (rn_loadA ag26 (cs := [.slice a1 n1 c1, .slice a2 n2 c2, .slice a3 n3 c3]) rfl rfl (fun j v hj => hS.sat.cell (hcb4.drop_take 0 3 j v hj))) rfl ?_; obtain ⟨y10, hy10, H⟩ := bnd H; refine zO rfl (zC cb75 (f75_ok (x0 := x0) hS.sat (hT.mono leG6) (h1.mono RTLandPerson_mono leG6) (h2.mono RTLandEvent_mono leG6) (h3.mono RTLandMemory_mono leG6) hy10) rfl rfl (fun w11 hb => ?_)); have hS := hS.keep hb; have hO := hO.below hb; refine zV (zA (v := (.string ⟨y10.toArray⟩)) rfl) rfl ?_; refine zV (zA (v := (.int .i64 0)) rfl) rfl ?_; refine zN ?_; refine WC_ret ?_
  have H : some (y10, 0) = some r := H
  have H := oi H; subst H
  exact ⟨rfl, hS.below⟩
set_option maxHeartbeats 1000000 in
theorem f15_ok {G0 : Gm} {w0 : World} (hS0 : Sat G0 w0)  (hT : TabG Tryd.prog G0) {r : Bool} (H : f15 = some r) :
  Calls Tryd.prog 15 #[] w0 (RetV w0 (.bool r)) := by
 have hS := Since.start hS0
 have hO : Owns G0 w0 w0.heap.size [] := Owns.nil (Nat.le_refl _)
 unfold f15 at H
 refine enter1 (N := 98) (shutV _ _) Tryd.func15 rfl rfl rfl rfl ?_; refine zS ?_; refine zV (zA (v := (.bool false)) rfl) rfl ?_; refine zN ?_; refine zS ?_; obtain ⟨y1, hy1, H⟩ := bnd H; refine zO rfl (OpP_callG cb48 (f48_ok  hS.sat  hy1) rfl rfl (fun vy1 G3 w2 hg hvy1 => ?_)); obtain ⟨a4, n4, c4, a5, n5, c5, a6, n6, c6, ⟨⟩, h4, h5, h6⟩ := hvy1; have hS := hS.grow hg; have hO := hO.grow hg
 have leG3 := hg.le
 obtain ⟨y7, hy7, H⟩ := bnd H; refine zO rfl (OpP_callG cb28 (f28_ok (x0 := y1) hS.sat h4 h5 h6 hy7) rfl rfl (fun vy7 G9 w8 hg hvy7 => ?_)); obtain ⟨a10, n10, c10, ⟨⟩, h10⟩ := hvy7; have hS := hS.grow hg; have hO := hO.grow hg
 have leG9 := hg.le
 refine zV (zm (v := (.tuple #[.slice a10 n10 c10, .int .i64 y7.2])) rfl) rfl ?_; refine zV (zX (v := (.slice a10 n10 c10)) rfl rfl) rfl ?_; refine zV (zX (v := (.int .i64 y7.2)) rfl rfl) rfl ?_; refine zV (zA (v := (.slice a10 n10 c10)) rfl) rfl ?_; refine zV (zA (v := (.int .i64 y7.2)) rfl) rfl ?_; refine zN ?_; refine zS ?_; obtain ⟨y11, hy11, H⟩ := bnd H; refine zO rfl (OpP_callG cb48 (f48_ok  hS.sat  hy11) rfl rfl (fun vy11 G13 w12 hg hvy11 => ?_)); obtain ⟨a14, n14, c14, a15, n15, c15, a16, n16, c16, ⟨⟩, h14, h15, h16⟩ := hvy11; have hS := hS.grow hg; have hO := hO.grow hg
 have leG13 := hg.le
 obtain ⟨y17, hy17, H⟩ := bnd H; refine zO rfl (zC cb43 (f43_ok (x0 := y11) (x1 := 2) (x2 := 3) hS.sat h14 h15 h16 hy17) rfl rfl (fun w18 hb => ?_)); have hS := hS.keep hb; have hO := hO.below hb; refine zV (zm (v := (.tuple #[.agg #[.int .i64 y17.1.Low, .int .i64 y17.1.High], .int .i64 y17.2])) rfl) rfl ?_; refine zV (zX (v := (.agg #[.int .i64 y17.1.Low, .int .i64 y17.1.High])) rfl rfl) rfl ?_; refine zV (zX (v := (.int .i64 y17.2)) rfl rfl) rfl ?_
 refine zO rfl (zU (v := fun b => .pointer (some ⟨b, 0, none⟩)) (cs := [.int .i64 0, .int .i64 0]) (e := 44) (by kernel_rfl) hS.sat hO rfl 2 1 rfl (by decide) (fun b19 w20 hb hO => ?_))
 have hS := hS.keep hb; refine zO rfl (OpP_store (vs := [.int .i64 y17.1.Low, .int .i64 y17.1.High]) sz44 hS hO (k := 0) rfl rfl rfl rfl rfl (one_all rfl) (Nat.le_of_ble_eq_true rfl) (fun w22 hS hO => ?_))
 have hO : Owns G13 w22 w0.heap.size ([⟨44, 2, 1, .slice (some ⟨b19, 0, none⟩) 1 1, [.int .i64 y17.1.Low, .int .i64 y17.1.High]⟩]) := hO
 obtain ⟨G23, leG23, hS, hO, hqG23, _⟩ := hO.freeze hS (k := 0) rfl
 have hcG23 : Cells G23 b19 0 [.int .i64 y17.1.Low, .int .i64 y17.1.High] := (hqG23 _ _ _ _ rfl)
 refine zV (zA (v := (.int .i64 y17.2)) rfl) rfl ?_; refine zN ?_; refine zS ?_; obtain ⟨y24, hy24, H⟩ := bnd H; refine zO rfl (OpP_callG cb49 (f49_ok  hS.sat  hy24) rfl rfl (fun vy24 G26 w25 hg hvy24 => ?_)); obtain ⟨a27, n27, c27, a28, n28, c28, a29, n29, c29, ⟨⟩, h27, h28, h29⟩ := hvy24; have hS := hS.grow hg; have hO := hO.grow hg
 have leG26 := hg.le
 obtain ⟨y30, hy30, H⟩ := bnd H; refine zO rfl (OpP_callG cb16 (f16_ok (x0 := y24) hS.sat h27 h28 h29 hy30) rfl rfl (fun vy30 G32 w31 hg hvy30 => ?_)); obtain ⟨a33, n33, c33, ⟨⟩, h33⟩ := hvy30; have hS := hS.grow hg; have hO := hO.grow hg
 have leG32 := hg.le
 refine zV (zm (v := (.tuple #[.slice a33 n33 c33, .int .i64 y30.2])) rfl) rfl ?_; refine zV (zX (v := (.slice a33 n33 c33)) rfl rfl) rfl ?_; refine zV (zX (v := (.int .i64 y30.2)) rfl rfl) rfl ?_; refine zV (zA (v := (.slice a33 n33 c33)) rfl) rfl ?_; refine zV (zA (v := (.int .i64 y30.2)) rfl) rfl ?_; refine zN ?_; refine zS ?_; obtain ⟨y34, hy34, H⟩ := bnd H; refine zO rfl (OpP_callG cb49 (f49_ok  hS.sat  hy34) rfl rfl (fun vy34 G36 w35 hg hvy34 => ?_)); obtain ⟨a37, n37, c37, a38, n38, c38, a39, n39, c39, ⟨⟩, h37, h38, h39⟩ := hvy34; have hS := hS.grow hg; have hO := hO.grow hg
 have leG36 := hg.le
 obtain ⟨y40, hy40, H⟩ := bnd H; refine zO rfl (OpP_callG cb17 (f17_ok (x0 := y34) hS.sat h37 h38 h39 hy40) rfl rfl (fun vy40 G42 w41 hg hvy40 => ?_)); obtain ⟨a43, n43, c43, ⟨⟩, h43⟩ := hvy40; have hS := hS.grow hg; have hO := hO.grow hg
 have leG42 := hg.le
 refine zV (zm (v := (.tuple #[.slice a43 n43 c43, .int .i64 y40.2])) rfl) rfl ?_; refine zV (zX (v := (.slice a43 n43 c43)) rfl rfl) rfl ?_; refine zV (zX (v := (.int .i64 y40.2)) rfl rfl) rfl ?_; refine zV (zA (v := (.slice a43 n43 c43)) rfl) rfl ?_; refine zV (zA (v := (.int .i64 y40.2)) rfl) rfl ?_; refine zN ?_; refine zS ?_; obtain ⟨y44, hy44, H⟩ := bnd H; refine zO rfl (OpP_callG cb48 (f48_ok  hS.sat  hy44) rfl rfl (fun vy44 G46 w45 hg hvy44 => ?_)); obtain ⟨a47, n47, c47, a48, n48, c48, a49, n49, c49, ⟨⟩, h47, h48, h49⟩ := hvy44; have hS := hS.grow hg; have hO := hO.grow hg
 have leG46 := hg.le
 obtain ⟨y50, hy50, H⟩ := bnd H; refine zO rfl (OpP_callG cb35 (f35_ok (x0 := y44) (x1 := 0) hS.sat h47 h48 h49 hy50) rfl rfl (fun vy50 G52 w51 hg hvy50 => ?_)); obtain ⟨a53, n53, c53, ⟨⟩, h53⟩ := hvy50; have hS := hS.grow hg; have hO := hO.grow hg
 have leG52 := hg.le
 refine zV (zm (v := (.tuple #[.slice a53 n53 c53, .int .i64 y50.2.1, .int .i64 y50.2.2])) rfl) rfl ?_; refine zV (zX (v := (.slice a53 n53 c53)) rfl rfl) rfl ?_; refine zV (zX (v := (.int .i64 y50.2.1)) rfl rfl) rfl ?_; refine zV (zX (v := (.int .i64 y50.2.2)) rfl rfl) rfl ?_; refine zV (zA (v := (.slice a53 n53 c53)) rfl) rfl ?_; refine zV (zA (v := (.int .i64 y50.2.1)) rfl) rfl ?_; refine zV (zA (v := (.int .i64 y50.2.2)) rfl) rfl ?_; refine zN ?_; refine zS ?_; obtain ⟨y54, hy54, H⟩ := bnd H; refine zO rfl (OpP_callG cb48 (f48_ok  hS.sat  hy54) rfl rfl (fun vy54 G56 w55 hg hvy54 => ?_)); obtain ⟨a57, n57, c57, a58, n58, c58, a59, n59, c59, ⟨⟩, h57, h58, h59⟩ := hvy54; have hS := hS.grow hg; have hO := hO.grow hg
 have leG56 := hg.le
 obtain ⟨y60, hy60, H⟩ := bnd H
 have l0_11 := (((((((((leG3.trans leG9).trans leG13).trans leG23).trans leG26).trans leG32).trans leG36).trans leG42).trans leG46).trans leG52).trans leG56
 refine zO rfl (zC cb50 (f50_ok (x0 := y54) hS.sat (hT.mono l0_11) h57 h58 h59 hy60) rfl rfl (fun w61 hb => ?_)); have hS := hS.keep hb; have hO := hO.below hb; refine zV (zm (v := (.tuple #[.string ⟨y60.1.toArray⟩, .int .i64 y60.2])) rfl) rfl ?_; refine zV (zX (v := (.string ⟨y60.1.toArray⟩)) rfl rfl) rfl ?_; refine zV (zX (v := (.int .i64 y60.2)) rfl rfl) rfl ?_; refine zV (zA (v := (.string ⟨y60.1.toArray⟩)) rfl) rfl ?_; refine zV (zA (v := (.int .i64 y60.2)) rfl) rfl ?_; refine zN ?_; refine zQ ?_; refine zQ ?_; obtain ⟨q62, hq62, H⟩ := bnd H; refine zM (fun F w => ∃ (Fb : Fr), F = upds Fb [(1, .slice a10 n10 c10), (3, .pointer (some ⟨b19, 0, none⟩)), (5, .slice a33 n33 c33), (7, .slice a43 n43 c43), (9, .slice a53 n53 c53), (10, .int .i64 y50.2.1), (12, .string ⟨y60.1.toArray⟩), (66, .bool q62)] ∧ w61 = w) ?_ ?_
 ·have Hoq62 := H; have H := hq62; refine zR ?_; refine zV (zm (v := (.int .i64 y7.2)) rfl) rfl ?_; refine zV (rn_neq rfl rfl) rfl ?_; refine zV (zm (v := (.bool (y7.2 != 0))) rfl) rfl ?_
  rcases bcases (y7.2 != 0) with hb63 | hb63
  ·have H := ifT hb63 H; refine zG rfl hb63 rfl rfl rfl ?_; refine zG rfl hb63 rfl rfl rfl ?_; refine zV (rn_pickT (v := (.bool true)) rfl hb63 rfl) rfl ?_; refine zV (zm (v := (.bool true)) rfl) rfl ?_; refine zG rfl rfl rfl rfl rfl ?_; refine zG rfl rfl rfl rfl rfl ?_; refine zV (rn_pickT (v := (.bool true)) rfl rfl rfl) rfl ?_; refine zV (zm (v := (.bool true)) rfl) rfl ?_; refine zG rfl rfl rfl rfl rfl ?_; refine zG rfl rfl rfl rfl rfl ?_; refine zV (rn_pickT (v := (.bool true)) rfl rfl rfl) rfl ?_; refine zV (zm (v := (.bool true)) rfl) rfl ?_; refine zG rfl rfl rfl rfl rfl ?_; refine zG rfl rfl rfl rfl rfl ?_; refine zV (rn_pickT (v := (.bool true)) rfl rfl rfl) rfl ?_; refine zV (zm (v := (.bool true)) rfl) rfl ?_; refine zG rfl rfl rfl rfl rfl ?_; refine zG rfl rfl rfl rfl rfl ?_; refine zV (rn_pickT (v := (.bool true)) rfl rfl rfl) rfl ?_; refine zN ?_; have H := oi H; subst H
   exact ⟨_, upds_self _ _ ⟨rfl, rfl, rfl, rfl, rfl, rfl, rfl, rfl, trivial⟩, rfl⟩
  ·have H := ifF hb63 H; refine zY rfl hb63 rfl rfl ?_; refine zV (zm (v := (.int .i64 y17.2)) rfl) rfl ?_; refine zY rfl hb63 rfl rfl ?_; refine zV (rn_neq rfl rfl) rfl ?_; refine zV (rn_pickF (v := (.bool (y17.2 != 0))) rfl hb63 rfl) rfl ?_; refine zV (zm (v := (.bool (y17.2 != 0))) rfl) rfl ?_
   rcases bcases (y17.2 != 0) with hb64 | hb64
   ·have H := ifT hb64 H; refine zG rfl hb64 rfl rfl rfl ?_; refine zG rfl hb64 rfl rfl rfl ?_; refine zV (rn_pickT (v := (.bool true)) rfl hb64 rfl) rfl ?_; refine zV (zm (v := (.bool true)) rfl) rfl ?_; refine zG rfl rfl rfl rfl rfl ?_; refine zG rfl rfl rfl rfl rfl ?_; refine zV (rn_pickT (v := (.bool true)) rfl rfl rfl) rfl ?_; refine zV (zm (v := (.bool true)) rfl) rfl ?_; refine zG rfl rfl rfl rfl rfl ?_; refine zG rfl rfl rfl rfl rfl ?_; refine zV (rn_pickT (v := (.bool true)) rfl rfl rfl) rfl ?_; refine zV (zm (v := (.bool true)) rfl) rfl ?_; refine zG rfl rfl rfl rfl rfl ?_; refine zG rfl rfl rfl rfl rfl ?_; refine zV (rn_pickT (v := (.bool true)) rfl rfl rfl) rfl ?_; refine zN ?_; have H := oi H; subst H
    exact ⟨_, upds_self _ _ ⟨rfl, rfl, rfl, rfl, rfl, rfl, rfl, rfl, trivial⟩, rfl⟩
   ·have H := ifF hb64 H; refine zY rfl hb64 rfl rfl ?_; refine zV (zm (v := (.int .i64 y30.2)) rfl) rfl ?_; refine zY rfl hb64 rfl rfl ?_; refine zV (rn_neq rfl rfl) rfl ?_; refine zV (rn_pickF (v := (.bool (y30.2 != 0))) rfl hb64 rfl) rfl ?_; refine zV (zm (v := (.bool (y30.2 != 0))) rfl) rfl ?_
    rcases bcases (y30.2 != 0) with hb65 | hb65
    ·have H := ifT hb65 H; refine zG rfl hb65 rfl rfl rfl ?_; refine zG rfl hb65 rfl rfl rfl ?_; refine zV (rn_pickT (v := (.bool true)) rfl hb65 rfl) rfl ?_; refine zV (zm (v := (.bool true)) rfl) rfl ?_; refine zG rfl rfl rfl rfl rfl ?_; refine zG rfl rfl rfl rfl rfl ?_; refine zV (rn_pickT (v := (.bool true)) rfl rfl rfl) rfl ?_; refine zV (zm (v := (.bool true)) rfl) rfl ?_; refine zG rfl rfl rfl rfl rfl ?_; refine zG rfl rfl rfl rfl rfl ?_; refine zV (rn_pickT (v := (.bool true)) rfl rfl rfl) rfl ?_; refine zN ?_; have H := oi H; subst H
     exact ⟨_, upds_self _ _ ⟨rfl, rfl, rfl, rfl, rfl, rfl, rfl, rfl, trivial⟩, rfl⟩
    ·have H := ifF hb65 H; refine zY rfl hb65 rfl rfl ?_; refine zV (zm (v := (.int .i64 y40.2)) rfl) rfl ?_; refine zY rfl hb65 rfl rfl ?_; refine zV (rn_neq rfl rfl) rfl ?_; refine zV (rn_pickF (v := (.bool (y40.2 != 0))) rfl hb65 rfl) rfl ?_; refine zV (zm (v := (.bool (y40.2 != 0))) rfl) rfl ?_
     rcases bcases (y40.2 != 0) with hb66 | hb66
     ·have H := ifT hb66 H; refine zG rfl hb66 rfl rfl rfl ?_; refine zG rfl hb66 rfl rfl rfl ?_; refine zV (rn_pickT (v := (.bool true)) rfl hb66 rfl) rfl ?_; refine zV (zm (v := (.bool true)) rfl) rfl ?_; refine zG rfl rfl rfl rfl rfl ?_; refine zG rfl rfl rfl rfl rfl ?_; refine zV (rn_pickT (v := (.bool true)) rfl rfl rfl) rfl ?_; refine zN ?_; have H := oi H; subst H
      exact ⟨_, upds_self _ _ ⟨rfl, rfl, rfl, rfl, rfl, rfl, rfl, rfl, trivial⟩, rfl⟩
     ·have H := ifF hb66 H; refine zY rfl hb66 rfl rfl ?_; refine zV (zm (v := (.int .i64 y50.2.2)) rfl) rfl ?_; refine zY rfl hb66 rfl rfl ?_; refine zV (rn_neq rfl rfl) rfl ?_; refine zV (rn_pickF (v := (.bool (y50.2.2 != 0))) rfl hb66 rfl) rfl ?_; refine zV (zm (v := (.bool (y50.2.2 != 0))) rfl) rfl ?_
      rcases bcases (y50.2.2 != 0) with hb67 | hb67
      ·have H := ifT hb67 H; refine zG rfl hb67 rfl rfl rfl ?_; refine zG rfl hb67 rfl rfl rfl ?_; refine zV (rn_pickT (v := (.bool true)) rfl hb67 rfl) rfl ?_; refine zN ?_; have H := oi H; subst H
       exact ⟨_, upds_self _ _ ⟨rfl, rfl, rfl, rfl, rfl, rfl, rfl, rfl, trivial⟩, rfl⟩
      ·have H := ifF hb67 H; refine zY rfl hb67 rfl rfl ?_; refine zV (zm (v := (.int .i64 y60.2)) rfl) rfl ?_; refine zY rfl hb67 rfl rfl ?_; refine zV (rn_neq rfl rfl) rfl ?_; refine zV (rn_pickF (v := (.bool (y60.2 != 0))) rfl hb67 rfl) rfl ?_; refine zN ?_; have H := oi H; subst H
       exact ⟨_, upds_self _ _ ⟨rfl, rfl, rfl, rfl, rfl, rfl, rfl, rfl, trivial⟩, rfl⟩
 ·rintro F wl ⟨Fb, rfl, rfl⟩
  refine zT rfl (fun hb70 => ?_) (fun hb70 => ?_)
  ·have H := ifT hb70 H; refine zS ?_; refine zV (zA (v := (.bool false)) rfl) rfl ?_; refine zN ?_; refine WC_ret ?_
   have H : some false = some r := H
   have H := oi H; subst H
   exact ⟨rfl, hS.below⟩
  ·have H := ifF hb70 H; refine zP ?_; refine zQ ?_; obtain ⟨q71, hq71, H⟩ := bnd H; refine zM (fun F w => ∃ (Fb : Fr) (G : Gm), F = upds Fb [(0, .bool q71)] ∧ Gle G56 G ∧ Since w0.heap.size G0 w0 G w ∧ Owns G w w0.heap.size []) ?_ ?_
   ·have Hoq71 := H; have H := hq71; refine zR ?_; refine zV (zm (v := (.slice a10 n10 c10)) rfl) rfl ?_
    refine zO rfl (zW (v := fun b => .slice (some ⟨b, 0, none⟩) 4 4) (cs := [.int .i64 0, .int .i64 10, .int .i64 15, .int .i64 7]) (e := 3) (by kernel_rfl) hS.sat rfl (fun b72 G74 w73 hg hcb72 => ?_))
    have hS := hS.grow hg; have hO := hO.grow hg
    have leG74 := hg.le
    have hfb72 : RSl RInt 1 G74 (some ⟨b72, 0, none⟩) 4 4 [0, 10, 15, 7] := RSl.of_rd hcb72 (Rd.cons (c := [.int .i64 0]) rfl rfl (Rd.cons (c := [.int .i64 10]) rfl rfl (Rd.cons (c := [.int .i64 15]) rfl rfl (Rd.cons (c := [.int .i64 7]) rfl rfl (Rd.nil RInt 1 _))))) rfl (by decide)
    obtain ⟨y75, hy75, H⟩ := bnd H
    have l2_12 := ((((((((leG13.trans leG23).trans leG26).trans leG32).trans leG36).trans leG42).trans leG46).trans leG52).trans leG56).trans leG74
    refine zO rfl (zC cb20 (f20_ok (x0 := y7.1) (x1 := [0, 10, 15, 7]) hS.sat (h10.mono RInt_mono l2_12) hfb72 hy75) rfl rfl (fun w76 hb => ?_)); have hS := hS.keep hb; have hO := hO.below hb; refine zV (zm (v := (.bool y75)) rfl) rfl ?_
    rcases bcases y75 with hb77 | hb77
    ·have H := ifT hb77 H; refine zY rfl hb77 rfl rfl ?_
     have l4_12 := ((((((leG26.trans leG32).trans leG36).trans leG42).trans leG46).trans leG52).trans leG56).trans leG74
     refine zV (rn_loadA ag44 (cs := [.int .i64 y17.1.Low, .int .i64 y17.1.High]) rfl rfl (fun j v hj => (hS.sat.le l4_12).cell (hcG23.drop_take 0 2 j v hj))) rfl ?_; refine zY rfl hb77 rfl rfl ?_
     refine zV (v := (.agg #[.int .i64 (-9), .int .i64 (-5)])) (by kernel_rfl) rfl ?_
     refine zY rfl hb77 rfl rfl ?_; refine zV (rn_eqlA (xs := [y17.1.Low, y17.1.High]) (ys := [(-9), (-5)]) in44 rfl rfl rfl rfl) rfl ?_; refine zV (rn_pickT (v := (.bool (([y17.1.Low, y17.1.High] : List Int) == [(-9), (-5)]))) rfl hb77 rfl) rfl ?_; refine zV (zm (v := (.bool (([y17.1.Low, y17.1.High] : List Int) == [(-9), (-5)]))) rfl) rfl ?_
     rcases bcases (([y17.1.Low, y17.1.High] : List Int) == [(-9), (-5)]) with hb78 | hb78
     ·have H := ifT hb78 H; refine zY rfl hb78 rfl rfl ?_; refine zV (zm (v := (.slice a33 n33 c33)) rfl) rfl ?_; refine zY rfl hb78 rfl rfl ?_
      refine zO rfl (zW (v := fun b => .slice (some ⟨b, 0, none⟩) 3 3) (cs := [.int .i64 1, .int .i64 2, .int .i64 4]) (e := 3) (by kernel_rfl) hS.sat rfl (fun b79 G81 w80 hg hcb79 => ?_))
      have hS := hS.grow hg; have hO := hO.grow hg
      have leG81 := hg.le
      have hfb79 : RSl RInt 1 G81 (some ⟨b79, 0, none⟩) 3 3 [1, 2, 4] := RSl.of_rd hcb79 (Rd.cons (c := [.int .i64 1]) rfl rfl (Rd.cons (c := [.int .i64 2]) rfl rfl (Rd.cons (c := [.int .i64 4]) rfl rfl (Rd.nil RInt 1 _)))) rfl (by decide)
      refine zY rfl hb78 rfl rfl ?_; obtain ⟨y82, hy82, H⟩ := bnd H
      have l6_13 := (((((leG36.trans leG42).trans leG46).trans leG52).trans leG56).trans leG74).trans leG81
      refine zO rfl (zC cb20 (f20_ok (x0 := y30.1) (x1 := [1, 2, 4]) hS.sat (h33.mono RInt_mono l6_13) hfb79 hy82) rfl rfl (fun w83 hb => ?_)); have hS := hS.keep hb; have hO := hO.below hb; refine zV (rn_pickT (v := (.bool y82)) rfl hb78 rfl) rfl ?_; refine zV (zm (v := (.bool y82)) rfl) rfl ?_
      rcases bcases y82 with hb84 | hb84
      ·have H := ifT hb84 H; refine zY rfl hb84 rfl rfl ?_; refine zV (zm (v := (.slice a43 n43 c43)) rfl) rfl ?_; refine zY rfl hb84 rfl rfl ?_
       refine zO rfl (zW (v := fun b => .slice (some ⟨b, 0, none⟩) 1 1) (cs := [.int .i64 1]) (e := 3) (by kernel_rfl) hS.sat rfl (fun b85 G87 w86 hg hcb85 => ?_))
       have hS := hS.grow hg; have hO := hO.grow hg
       have leG87 := hg.le
       have hfb85 : RSl RInt 1 G87 (some ⟨b85, 0, none⟩) 1 1 [1] := RSl.of_rd hcb85 (Rd.cons (c := [.int .i64 1]) rfl rfl (Rd.nil RInt 1 _)) rfl (by decide)
       refine zY rfl hb84 rfl rfl ?_; obtain ⟨y88, hy88, H⟩ := bnd H
       have l8_14 := ((((leG46.trans leG52).trans leG56).trans leG74).trans leG81).trans leG87
       refine zO rfl (zC cb20 (f20_ok (x0 := y40.1) (x1 := [1]) hS.sat (h43.mono RInt_mono l8_14) hfb85 hy88) rfl rfl (fun w89 hb => ?_)); have hS := hS.keep hb; have hO := hO.below hb; refine zV (rn_pickT (v := (.bool y88)) rfl hb84 rfl) rfl ?_; refine zV (zm (v := (.bool y88)) rfl) rfl ?_
       rcases bcases y88 with hb90 | hb90
       ·have H := ifT hb90 H; refine zY rfl hb90 rfl rfl ?_; refine zV (zm (v := (.slice a53 n53 c53)) rfl) rfl ?_; refine zY rfl hb90 rfl rfl ?_
        refine zO rfl (zW (v := fun b => .slice (some ⟨b, 0, none⟩) 3 3) (cs := [.int .i64 0, .int .i64 1, .int .i64 2]) (e := 3) (by kernel_rfl) hS.sat rfl (fun b91 G93 w92 hg hcb91 => ?_))
        have hS := hS.grow hg; have hO := hO.grow hg
        have leG93 := hg.le
        have hfb91 : RSl RInt 1 G93 (some ⟨b91, 0, none⟩) 3 3 [0, 1, 2] := RSl.of_rd hcb91 (Rd.cons (c := [.int .i64 0]) rfl rfl (Rd.cons (c := [.int .i64 1]) rfl rfl (Rd.cons (c := [.int .i64 2]) rfl rfl (Rd.nil RInt 1 _)))) rfl (by decide)
        refine zY rfl hb90 rfl rfl ?_; obtain ⟨y94, hy94, H⟩ := bnd H
        have l10_15 := (((leG56.trans leG74).trans leG81).trans leG87).trans leG93
        refine zO rfl (zC cb20 (f20_ok (x0 := y50.1) (x1 := [0, 1, 2]) hS.sat (h53.mono RInt_mono l10_15) hfb91 hy94) rfl rfl (fun w95 hb => ?_)); have hS := hS.keep hb; have hO := hO.below hb; refine zV (rn_pickT (v := (.bool y94)) rfl hb90 rfl) rfl ?_; refine zV (zm (v := (.bool y94)) rfl) rfl ?_
        rcases bcases y94 with hb96 | hb96
        ·have H := ifT hb96 H; refine zY rfl hb96 rfl rfl ?_; refine zV (zm (v := (.int .i64 y50.2.1)) rfl) rfl ?_; refine zY rfl hb96 rfl rfl ?_; refine zV (rn_eql rfl rfl) rfl ?_; refine zV (rn_pickT (v := (.bool (y50.2.1 == (-1)))) rfl hb96 rfl) rfl ?_; refine zV (zm (v := (.bool (y50.2.1 == (-1)))) rfl) rfl ?_
         rcases bcases (y50.2.1 == (-1)) with hb97 | hb97
         ·have H := ifT hb97 H; refine zY rfl hb97 rfl rfl ?_; refine zV (zm (v := (.string ⟨y60.1.toArray⟩)) rfl) rfl ?_; refine zY rfl hb97 rfl rfl ?_; refine zV (rn_eqlS rfl rfl) rfl ?_; refine zV (rn_pickT (v := (.bool (y60.1 == ([108, 97, 110, 100, 32, 52, 32, 52, 32, 52, 10, 112, 101, 114, 115, 111, 110, 32, 45, 32, 45, 10, 112, 101, 114, 115, 111, 110, 32, 48, 32, 45, 10, 112, 101, 114, 115, 111, 110, 32, 49, 32, 45, 10, 112, 101, 114, 115, 111, 110, 32, 45, 32, 48, 10, 101, 118, 101, 110, 116, 32, 48, 32, 48, 10, 101, 118, 101, 110, 116, 32, 48, 32, 49, 10, 101, 118, 101, 110, 116, 32, 48, 32, 50, 10, 101, 118, 101, 110, 116, 32, 49, 32, 49, 10, 109, 101, 109, 111, 114, 121, 32, 48, 32, 49, 32, 49, 48, 32, 50, 48, 10, 109, 101, 109, 111, 114, 121, 32, 49, 32, 50, 32, 53, 32, 56, 10, 109, 101, 109, 111, 114, 121, 32, 48, 32, 50, 32, 49, 50, 32, 49, 54, 10, 109, 101, 109, 111, 114, 121, 32, 49, 32, 51, 32, 45, 51, 32, 48, 10, 101, 110, 100, 32, 51, 54, 10] : List UInt8)))) rfl hb97 rfl) rfl ?_; refine zV (zA (v := (.bool (y60.1 == ([108, 97, 110, 100, 32, 52, 32, 52, 32, 52, 10, 112, 101, 114, 115, 111, 110, 32, 45, 32, 45, 10, 112, 101, 114, 115, 111, 110, 32, 48, 32, 45, 10, 112, 101, 114, 115, 111, 110, 32, 49, 32, 45, 10, 112, 101, 114, 115, 111, 110, 32, 45, 32, 48, 10, 101, 118, 101, 110, 116, 32, 48, 32, 48, 10, 101, 118, 101, 110, 116, 32, 48, 32, 49, 10, 101, 118, 101, 110, 116, 32, 48, 32, 50, 10, 101, 118, 101, 110, 116, 32, 49, 32, 49, 10, 109, 101, 109, 111, 114, 121, 32, 48, 32, 49, 32, 49, 48, 32, 50, 48, 10, 109, 101, 109, 111, 114, 121, 32, 49, 32, 50, 32, 53, 32, 56, 10, 109, 101, 109, 111, 114, 121, 32, 48, 32, 50, 32, 49, 50, 32, 49, 54, 10, 109, 101, 109, 111, 114, 121, 32, 49, 32, 51, 32, 45, 51, 32, 48, 10, 101, 110, 100, 32, 51, 54, 10] : List UInt8)))) rfl) rfl ?_; refine zN ?_
          have hO : Owns G93 w95 w0.heap.size ([]) := hO
          have H := oi H; subst H
          have l11_15 := ((leG74.trans leG81).trans leG87).trans leG93
          exact ⟨_, G93, upds_self _ _ ⟨rfl, trivial⟩, l11_15, hS, hO⟩
         ·have H := ifF hb97 H; refine zG rfl hb97 rfl rfl rfl ?_; refine zG rfl hb97 rfl rfl rfl ?_; refine zV (rn_pickF (v := (.bool false)) rfl hb97 rfl) rfl ?_; refine zV (zA (v := (.bool false)) rfl) rfl ?_; refine zN ?_
          have hO : Owns G93 w95 w0.heap.size ([]) := hO
          have H := oi H; subst H
          have l11_15 := ((leG74.trans leG81).trans leG87).trans leG93
          exact ⟨_, G93, upds_self _ _ ⟨rfl, trivial⟩, l11_15, hS, hO⟩
        ·have H := ifF hb96 H; refine zG rfl hb96 rfl rfl rfl ?_; refine zG rfl hb96 rfl rfl rfl ?_; refine zV (rn_pickF (v := (.bool false)) rfl hb96 rfl) rfl ?_; refine zV (zm (v := (.bool false)) rfl) rfl ?_; refine zG rfl rfl rfl rfl rfl ?_; refine zG rfl rfl rfl rfl rfl ?_; refine zV (rn_pickF (v := (.bool false)) rfl rfl rfl) rfl ?_; refine zV (zA (v := (.bool false)) rfl) rfl ?_; refine zN ?_
         have hO : Owns G93 w95 w0.heap.size ([]) := hO
         have H := oi H; subst H
         have l11_15 := ((leG74.trans leG81).trans leG87).trans leG93
         exact ⟨_, G93, upds_self _ _ ⟨rfl, trivial⟩, l11_15, hS, hO⟩
       ·have H := ifF hb90 H; refine zG rfl hb90 rfl rfl rfl ?_; refine zG rfl hb90 rfl rfl rfl ?_; refine zG rfl hb90 rfl rfl rfl ?_; refine zV (rn_pickF (v := (.bool false)) rfl hb90 rfl) rfl ?_; refine zV (zm (v := (.bool false)) rfl) rfl ?_; refine zG rfl rfl rfl rfl rfl ?_; refine zG rfl rfl rfl rfl rfl ?_; refine zV (rn_pickF (v := (.bool false)) rfl rfl rfl) rfl ?_; refine zV (zm (v := (.bool false)) rfl) rfl ?_; refine zG rfl rfl rfl rfl rfl ?_; refine zG rfl rfl rfl rfl rfl ?_; refine zV (rn_pickF (v := (.bool false)) rfl rfl rfl) rfl ?_; refine zV (zA (v := (.bool false)) rfl) rfl ?_; refine zN ?_
        have hO : Owns G87 w89 w0.heap.size ([]) := hO
        have H := oi H; subst H
        have l11_14 := (leG74.trans leG81).trans leG87
        exact ⟨_, G87, upds_self _ _ ⟨rfl, trivial⟩, l11_14, hS, hO⟩
      ·have H := ifF hb84 H; refine zG rfl hb84 rfl rfl rfl ?_; refine zG rfl hb84 rfl rfl rfl ?_; refine zG rfl hb84 rfl rfl rfl ?_; refine zV (rn_pickF (v := (.bool false)) rfl hb84 rfl) rfl ?_; refine zV (zm (v := (.bool false)) rfl) rfl ?_; refine zG rfl rfl rfl rfl rfl ?_; refine zG rfl rfl rfl rfl rfl ?_; refine zG rfl rfl rfl rfl rfl ?_; refine zV (rn_pickF (v := (.bool false)) rfl rfl rfl) rfl ?_; refine zV (zm (v := (.bool false)) rfl) rfl ?_; refine zG rfl rfl rfl rfl rfl ?_; refine zG rfl rfl rfl rfl rfl ?_; refine zV (rn_pickF (v := (.bool false)) rfl rfl rfl) rfl ?_; refine zV (zm (v := (.bool false)) rfl) rfl ?_; refine zG rfl rfl rfl rfl rfl ?_; refine zG rfl rfl rfl rfl rfl ?_; refine zV (rn_pickF (v := (.bool false)) rfl rfl rfl) rfl ?_; refine zV (zA (v := (.bool false)) rfl) rfl ?_; refine zN ?_
       have hO : Owns G81 w83 w0.heap.size ([]) := hO
       have H := oi H; subst H
       have l11_13 := leG74.trans leG81
       exact ⟨_, G81, upds_self _ _ ⟨rfl, trivial⟩, l11_13, hS, hO⟩
     ·have H := ifF hb78 H; refine zG rfl hb78 rfl rfl rfl ?_; refine zG rfl hb78 rfl rfl rfl ?_; refine zG rfl hb78 rfl rfl rfl ?_; refine zV (rn_pickF (v := (.bool false)) rfl hb78 rfl) rfl ?_; refine zV (zm (v := (.bool false)) rfl) rfl ?_; refine zG rfl rfl rfl rfl rfl ?_; refine zG rfl rfl rfl rfl rfl ?_; refine zG rfl rfl rfl rfl rfl ?_; refine zV (rn_pickF (v := (.bool false)) rfl rfl rfl) rfl ?_; refine zV (zm (v := (.bool false)) rfl) rfl ?_; refine zG rfl rfl rfl rfl rfl ?_; refine zG rfl rfl rfl rfl rfl ?_; refine zG rfl rfl rfl rfl rfl ?_; refine zV (rn_pickF (v := (.bool false)) rfl rfl rfl) rfl ?_; refine zV (zm (v := (.bool false)) rfl) rfl ?_; refine zG rfl rfl rfl rfl rfl ?_; refine zG rfl rfl rfl rfl rfl ?_; refine zV (rn_pickF (v := (.bool false)) rfl rfl rfl) rfl ?_; refine zV (zm (v := (.bool false)) rfl) rfl ?_; refine zG rfl rfl rfl rfl rfl ?_; refine zG rfl rfl rfl rfl rfl ?_; refine zV (rn_pickF (v := (.bool false)) rfl rfl rfl) rfl ?_; refine zV (zA (v := (.bool false)) rfl) rfl ?_; refine zN ?_
      have hO : Owns G74 w76 w0.heap.size ([]) := hO
      have H := oi H; subst H
      exact ⟨_, G74, upds_self _ _ ⟨rfl, trivial⟩, leG74, hS, hO⟩
    ·have H := ifF hb77 H; refine zG rfl hb77 rfl rfl rfl ?_; refine zG rfl hb77 rfl rfl rfl ?_; refine zG rfl hb77 rfl rfl rfl ?_; refine zV (rn_pickF (v := (.bool false)) rfl hb77 rfl) rfl ?_; refine zV (zm (v := (.bool false)) rfl) rfl ?_; refine zG rfl rfl rfl rfl rfl ?_; refine zG rfl rfl rfl rfl rfl ?_; refine zG rfl rfl rfl rfl rfl ?_; refine zV (rn_pickF (v := (.bool false)) rfl rfl rfl) rfl ?_; refine zV (zm (v := (.bool false)) rfl) rfl ?_; refine zG rfl rfl rfl rfl rfl ?_; refine zG rfl rfl rfl rfl rfl ?_; refine zG rfl rfl rfl rfl rfl ?_; refine zV (rn_pickF (v := (.bool false)) rfl rfl rfl) rfl ?_; refine zV (zm (v := (.bool false)) rfl) rfl ?_; refine zG rfl rfl rfl rfl rfl ?_; refine zG rfl rfl rfl rfl rfl ?_; refine zG rfl rfl rfl rfl rfl ?_; refine zV (rn_pickF (v := (.bool false)) rfl rfl rfl) rfl ?_; refine zV (zm (v := (.bool false)) rfl) rfl ?_; refine zG rfl rfl rfl rfl rfl ?_; refine zG rfl rfl rfl rfl rfl ?_; refine zV (rn_pickF (v := (.bool false)) rfl rfl rfl) rfl ?_; refine zV (zm (v := (.bool false)) rfl) rfl ?_; refine zG rfl rfl rfl rfl rfl ?_; refine zG rfl rfl rfl rfl rfl ?_; refine zV (rn_pickF (v := (.bool false)) rfl rfl rfl) rfl ?_; refine zV (zA (v := (.bool false)) rfl) rfl ?_; refine zN ?_
     have hO : Owns G74 w76 w0.heap.size ([]) := hO
     have H := oi H; subst H
     exact ⟨_, G74, upds_self _ _ ⟨rfl, trivial⟩, leG74, hS, hO⟩
   ·rintro F w98 ⟨Fb, G99, rfl, leG99, hS, hO⟩
    refine WC_ret ?_
    have H : some q71 = some r := H
    have H := oi H; subst H
    exact ⟨rfl, hS.below⟩
set_option maxHeartbeats 1000000 in
theorem f60_ok {G0 : Gm} {w0 : World} (hS0 : Sat G0 w0) {x0 : Int} {x1 : Int} {x2 : Int}  {r : Bool} (H : f60 x0 x1 x2 = some r) :
  Calls Tryd.prog 60 #[.int .i64 x0, .int .i64 x1, .int .i64 x2] w0 (RetV w0 (.bool r)) := by
 have hS := Since.start hS0
 have hO : Owns G0 w0 w0.heap.size [] := Owns.nil (Nat.le_refl _)
 unfold f60 at H
 refine enter1 (N := 15) (shutV _ _) Tryd.func60 rfl rfl rfl rfl ?_; refine zS ?_; refine zV (zA (v := (.bool false)) rfl) rfl ?_; refine zN ?_; refine zQ ?_; obtain ⟨q1, hq1, H⟩ := bnd H; refine zM (fun F w => ∃ (Fb : Fr), F = upds Fb [(6, .bool q1)] ∧ w0 = w) ?_ ?_
 ·have Hoq1 := H; have H := hq1; refine zR ?_; refine zV (zm (v := (.int .i64 x0)) rfl) rfl ?_; refine zV (zm (v := (.int .i64 x1)) rfl) rfl ?_; refine zV (rn_geq rfl rfl) rfl ?_; refine zV (zm (v := (.bool (decide (x1 ≤ x0)))) rfl) rfl ?_
  rcases bcases (decide (x1 ≤ x0)) with hb2 | hb2
  ·have H := ifT hb2 H; refine zY rfl hb2 rfl rfl ?_; refine zV (zm (v := (.int .i64 x0)) rfl) rfl ?_; refine zY rfl hb2 rfl rfl ?_; refine zV (zm (v := (.int .i64 x2)) rfl) rfl ?_; refine zY rfl hb2 rfl rfl ?_; refine zV (rn_leq rfl rfl) rfl ?_; refine zV (rn_pickT (v := (.bool (decide (x0 ≤ x2)))) rfl hb2 rfl) rfl ?_; refine zV (zA (v := (.bool (decide (x0 ≤ x2)))) rfl) rfl ?_; refine zN ?_; have H := oi H; subst H
   exact ⟨_, upds_self _ _ ⟨rfl, trivial⟩, rfl⟩
  ·have H := ifF hb2 H; refine zG rfl hb2 rfl rfl rfl ?_; refine zG rfl hb2 rfl rfl rfl ?_; refine zG rfl hb2 rfl rfl rfl ?_; refine zV (rn_pickF (v := (.bool false)) rfl hb2 rfl) rfl ?_; refine zV (zA (v := (.bool false)) rfl) rfl ?_; refine zN ?_; have H := oi H; subst H
   exact ⟨_, upds_self _ _ ⟨rfl, trivial⟩, rfl⟩
 ·rintro F wl ⟨Fb, rfl, rfl⟩
  refine WC_ret ?_
  have H : some q1 = some r := H
  have H := oi H; subst H
  exact ⟨rfl, hS.below⟩
set_option maxHeartbeats 1000000 in
theorem f33_ok {G0 : Gm} {w0 : World} (hS0 : Sat G0 w0) {x0 : Int}  {r : Bool} (H : f33 x0 = some r) :
  Calls Tryd.prog 33 #[.int .i64 x0] w0 (RetV w0 (.bool r)) := by
 have hS := Since.start hS0
 have hO : Owns G0 w0 w0.heap.size [] := Owns.nil (Nat.le_refl _)
 unfold f33 at H
 refine enter1 (N := 5) (shutV _ _) Tryd.func33 rfl rfl rfl rfl ?_; refine zS ?_; refine zV (zA (v := (.bool false)) rfl) rfl ?_; refine zN ?_; refine zS ?_; refine zV (zm (v := (.int .i64 x0)) rfl) rfl ?_; obtain ⟨y1, hy1, H⟩ := bnd H; refine zO rfl (zC cb60 (f60_ok (x0 := x0) (x1 := 0) (x2 := 5) hS.sat  hy1) rfl rfl (fun w2 hb => ?_)); have hS := hS.keep hb; have hO := hO.below hb; refine zV (zA (v := (.bool y1)) rfl) rfl ?_; refine zN ?_; refine WC_ret ?_
 have H : some y1 = some r := H
 have H := oi H; subst H
 exact ⟨rfl, hS.below⟩
set_option maxHeartbeats 1000000 in
theorem f38_ok {G0 : Gm} {w0 : World} (hS0 : Sat G0 w0) {x0 : TLandBook} {a1 : Option Addr} {n1 c1 : Nat} {a2 : Option Addr} {n2 c2 : Nat} {a3 : Option Addr} {n3 c3 : Nat} {x1 : Int} (h1 : RSl RTLandPerson 2 G0 a1 n1 c1 x0.People) (h2 : RSl RTLandEvent 2 G0 a2 n2 c2 x0.Events) (h3 : RSl RTLandMemory 4 G0 a3 n3 c3 x0.Memories) {r : Bool} (H : f38 x0 x1 = some r) :
  Calls Tryd.prog 38 #[.agg #[.slice a1 n1 c1, .slice a2 n2 c2, .slice a3 n3 c3], .int .i64 x1] w0 (RetV w0 (.bool r)) := by
 have hS := Since.start hS0
 have hO : Owns G0 w0 w0.heap.size [] := Owns.nil (Nat.le_refl _)
 unfold f38 at H
 refine enter1 (N := 11) (shutV _ _) Tryd.func38 rfl rfl rfl rfl ?_; refine zS ?_; refine zO rfl (zW (v := fun b => .pointer (some ⟨b, 0, none⟩)) (cs := [.slice a1 n1 c1, .slice a2 n2 c2, .slice a3 n3 c3]) (e := 26) (rn_boxA rfl) hS.sat rfl (fun b4 G6 w5 hg hcb4 => ?_)); have hS := hS.grow hg; have hO := hO.grow hg
 have leG6 := hg.le
 refine zV (zA (v := (.bool false)) rfl) rfl ?_; refine zN ?_; refine zS ?_; refine zV (zm (v := (.int .i64 x1)) rfl) rfl ?_; refine zV (zF fd26_0 rfl) rfl ?_; refine zV (zL na22 rfl (hS.sat.cell (hcb4 0 _ rfl))) rfl ?_; refine zV (rn_len sl22 rfl rfl (h1.mono RTLandPerson_mono leG6).1) rfl ?_; refine zV (rn_sub rfl rfl) rfl ?_; obtain ⟨y7, hy7, H⟩ := bnd H; refine zO rfl (zC cb60 (f60_ok (x0 := x1) (x1 := 0) (x2 := IntKind.i64.wrap ((x0.People.length : Int) - 1)) hS.sat  hy7) rfl rfl (fun w8 hb => ?_)); have hS := hS.keep hb; have hO := hO.below hb; refine zV (zA (v := (.bool y7)) rfl) rfl ?_; refine zN ?_; refine WC_ret ?_
 have H : some y7 = some r := H
 have H := oi H; subst H
 exact ⟨rfl, hS.below⟩
set_option maxHeartbeats 1000000 in
theorem f45_ok {G0 : Gm} {w0 : World} (hS0 : Sat G0 w0) {x0 : TLandBook} {a1 : Option Addr} {n1 c1 : Nat} {a2 : Option Addr} {n2 c2 : Nat} {a3 : Option Addr} {n3 c3 : Nat} {x1 : Int} (h1 : RSl RTLandPerson 2 G0 a1 n1 c1 x0.People) (h2 : RSl RTLandEvent 2 G0 a2 n2 c2 x0.Events) (h3 : RSl RTLandMemory 4 G0 a3 n3 c3 x0.Memories) {r : Bool} (H : f45 x0 x1 = some r) :
  Calls Tryd.prog 45 #[.agg #[.slice a1 n1 c1, .slice a2 n2 c2, .slice a3 n3 c3], .int .i64 x1] w0 (RetV w0 (.bool r)) := by
 have hS := Since.start hS0
 have hO : Owns G0 w0 w0.heap.size [] := Owns.nil (Nat.le_refl _)
 unfold f45 at H
 refine enter1 (N := 11) (shutV _ _) Tryd.func45 rfl rfl rfl rfl ?_; refine zS ?_; refine zO rfl (zW (v := fun b => .pointer (some ⟨b, 0, none⟩)) (cs := [.slice a1 n1 c1, .slice a2 n2 c2, .slice a3 n3 c3]) (e := 26) (rn_boxA rfl) hS.sat rfl (fun b4 G6 w5 hg hcb4 => ?_)); have hS := hS.grow hg; have hO := hO.grow hg
 have leG6 := hg.le
 refine zV (zA (v := (.bool false)) rfl) rfl ?_; refine zN ?_; refine zS ?_; refine zV (zm (v := (.int .i64 x1)) rfl) rfl ?_; refine zV (zF fd26_1 rfl) rfl ?_; refine zV (zL na23 rfl (hS.sat.cell (hcb4 1 _ rfl))) rfl ?_; refine zV (rn_len sl23 rfl rfl (h2.mono RTLandEvent_mono leG6).1) rfl ?_; refine zV (rn_sub rfl rfl) rfl ?_; obtain ⟨y7, hy7, H⟩ := bnd H; refine zO rfl (zC cb60 (f60_ok (x0 := x1) (x1 := 0) (x2 := IntKind.i64.wrap ((x0.Events.length : Int) - 1)) hS.sat  hy7) rfl rfl (fun w8 hb => ?_)); have hS := hS.keep hb; have hO := hO.below hb; refine zV (zA (v := (.bool y7)) rfl) rfl ?_; refine zN ?_; refine WC_ret ?_
 have H : some y7 = some r := H
 have H := oi H; subst H
 exact ⟨rfl, hS.below⟩
set_option maxHeartbeats 1000000 in
theorem f18_ok {G0 : Gm} {w0 : World} (hS0 : Sat G0 w0) {x0 : TLandBook} {a1 : Option Addr} {n1 c1 : Nat} {a2 : Option Addr} {n2 c2 : Nat} {a3 : Option Addr} {n3 c3 : Nat} (h1 : RSl RTLandPerson 2 G0 a1 n1 c1 x0.People) (h2 : RSl RTLandEvent 2 G0 a2 n2 c2 x0.Events) (h3 : RSl RTLandMemory 4 G0 a3 n3 c3 x0.Memories) {r : Bool} (H : f18 x0 = some r) :
  Calls Tryd.prog 18 #[.agg #[.slice a1 n1 c1, .slice a2 n2 c2, .slice a3 n3 c3]] w0 (RetV w0 (.bool r)) := by
 have hS := Since.start hS0
 have hO : Owns G0 w0 w0.heap.size [] := Owns.nil (Nat.le_refl _)
 unfold f18 at H
 refine enter1 (N := 130) (shutV _ _) Tryd.func18 rfl rfl rfl rfl ?_; refine zS ?_; refine zO rfl (zW (v := fun b => .pointer (some ⟨b, 0, none⟩)) (cs := [.slice a1 n1 c1, .slice a2 n2 c2, .slice a3 n3 c3]) (e := 26) (rn_boxA rfl) hS.sat rfl (fun b4 G6 w5 hg hcb4 => ?_)); have hS := hS.grow hg; have hO := hO.grow hg
 have leG6 := hg.le
 refine zV (zA (v := (.bool false)) rfl) rfl ?_; refine zN ?_; refine zQ ?_; refine zS ?_; refine zV (zA (v := (.int .i64 0)) rfl) rfl ?_; refine zN ?_; obtain ⟨q9, hq9, H⟩ := bnd H; refine zM (fun F w => ∃ (p8 : Unit) (Fb : Fr) (G : Gm), q9 = .inl p8 ∧ F = upds Fb [(1, .pointer (some ⟨b4, 0, none⟩))] ∧ Gle G6 G ∧ Since w0.heap.size G0 w0 G w ∧ Owns G w w0.heap.size []) ?_ ?_
 ·refine WC_block (WC_loop hq9 (fun s7 F w => ∃ (Fb : Fr) (G : Gm), F = upds Fb [(1, .pointer (some ⟨b4, 0, none⟩)), (3, .int .i64 s7)] ∧ Gle G6 G ∧ Since w0.heap.size G0 w0 G w ∧ Owns G w w0.heap.size []) ?_ ?_)
  ·have hO : Owns G6 w5 w0.heap.size ([]) := hO
   exact ⟨_, G6, upds_self _ _ ⟨rfl, rfl, trivial⟩, Gle.refl _, hS, hO⟩
  ·rintro s7 F w11 t10 ⟨Fb, G12, rfl, leG12, hS, hO⟩
   intro H1 hqq9
   have Hoq9 := H; have H := H1
   unfold f18_b0 at H
   refine zQ ?_; refine zS ?_; refine zV (zm (v := (.int .i64 s7)) rfl) rfl ?_; refine zV (zF fd26_0 rfl) rfl ?_; refine zV (zL na22 rfl ((hS.sat.le leG12).cell (hcb4 0 _ rfl))) rfl ?_
   have l0_2 := leG6.trans leG12
   refine zV (rn_len sl22 rfl rfl (h1.mono RTLandPerson_mono l0_2).1) rfl ?_; refine zV (rn_lss rfl rfl) rfl ?_; refine zN ?_; refine zT rfl (fun hb13 => ?_) (fun hb13 => ?_)
   ·have H := ifT hb13 H; refine zP ?_; refine zQ ?_; refine WC_block ?_; refine zQ ?_; obtain ⟨q14, hq14, H⟩ := bnd H; refine zM (fun F w => ∃ (Fb : Fr) (G : Gm), F = upds Fb [(1, .pointer (some ⟨b4, 0, none⟩)), (3, .int .i64 s7), (35, .bool q14)] ∧ Gle G12 G ∧ Since w0.heap.size G0 w0 G w ∧ Owns G w w0.heap.size []) ?_ ?_
    ·have Hoq14 := H; have H := hq14; refine zR ?_; refine zV (zF fd26_0 rfl) rfl ?_; refine zV (zL na22 rfl ((hS.sat.le leG12).cell (hcb4 0 _ rfl))) rfl ?_; refine zV (zm (v := (.int .i64 s7)) rfl) rfl ?_; obtain ⟨y15, hy15, H⟩ := bnd H; refine WL_idx sl22 (h1.mono RTLandPerson_mono l0_2) hy15 rfl rfl rfl ?_
     rintro b16 o16 _ hcb16 _ ⟨⟩
     refine zV (zF fd85_0 rfl) rfl ?_; refine zV (zL na3 rfl (hS.sat.cell (hcb16 0 _ rfl))) rfl ?_; refine zV (zm (v := (.int .i64 s7)) rfl) rfl ?_; refine zV (rn_sub rfl rfl) rfl ?_; obtain ⟨y17, hy17, H⟩ := bnd H; refine zO rfl (zC cb60 (f60_ok (x0 := y15.Mother) (x1 := (-1)) (x2 := IntKind.i64.wrap (s7 - 1)) hS.sat  hy17) rfl rfl (fun w18 hb => ?_)); have hS := hS.keep hb; have hO := hO.below hb; refine zV (rn_not rfl) rfl ?_; refine zV (zm (v := (.bool (!y17))) rfl) rfl ?_
     rcases bcases (!y17) with hb19 | hb19
     ·have H := ifT hb19 H; refine zG rfl hb19 rfl rfl rfl ?_; refine zG rfl hb19 rfl rfl rfl ?_; refine zG rfl hb19 rfl rfl rfl ?_; refine zG rfl hb19 rfl rfl rfl ?_; refine zG rfl hb19 rfl rfl rfl ?_; refine zG rfl hb19 rfl rfl rfl ?_; refine zG rfl hb19 rfl rfl rfl ?_; refine zG rfl hb19 rfl rfl rfl ?_; refine zG rfl hb19 rfl rfl rfl ?_; refine zG rfl hb19 rfl rfl rfl ?_; refine zV (rn_pickT (v := (.bool true)) rfl hb19 rfl) rfl ?_; refine zN ?_
      have hO : Owns G12 w18 w0.heap.size ([]) := hO
      have H := oi H; subst H
      exact ⟨_, G12, upds_self _ _ ⟨rfl, rfl, rfl, trivial⟩, Gle.refl _, hS, hO⟩
     ·have H := ifF hb19 H; refine zY rfl hb19 rfl rfl ?_; refine zV (zF fd26_0 rfl) rfl ?_; refine zY rfl hb19 rfl rfl ?_; refine zV (zL na22 rfl ((hS.sat.le leG12).cell (hcb4 0 _ rfl))) rfl ?_; refine zY rfl hb19 rfl rfl ?_; refine zV (zm (v := (.int .i64 s7)) rfl) rfl ?_; refine zY rfl hb19 rfl rfl ?_; refine WL_idx sl22 (h1.mono RTLandPerson_mono l0_2) hy15 rfl rfl rfl ?_
      rintro b20 o20 _ hcb20 _ ⟨⟩
      refine zY rfl hb19 rfl rfl ?_; refine zV (zF fd85_1 rfl) rfl ?_; refine zY rfl hb19 rfl rfl ?_; refine zV (zL na3 rfl (hS.sat.cell (hcb20 1 _ rfl))) rfl ?_; refine zY rfl hb19 rfl rfl ?_; refine zV (zm (v := (.int .i64 s7)) rfl) rfl ?_; refine zY rfl hb19 rfl rfl ?_; refine zV (rn_sub rfl rfl) rfl ?_; refine zY rfl hb19 rfl rfl ?_; obtain ⟨y21, hy21, H⟩ := bnd H; refine zO rfl (zC cb60 (f60_ok (x0 := y15.Adopted) (x1 := (-1)) (x2 := IntKind.i64.wrap (s7 - 1)) hS.sat  hy21) rfl rfl (fun w22 hb => ?_)); have hS := hS.keep hb; have hO := hO.below hb; refine zY rfl hb19 rfl rfl ?_; refine zV (rn_not rfl) rfl ?_; refine zV (rn_pickF (v := (.bool (!y21))) rfl hb19 rfl) rfl ?_; refine zN ?_
      have hO : Owns G12 w22 w0.heap.size ([]) := hO
      have H := oi H; subst H
      exact ⟨_, G12, upds_self _ _ ⟨rfl, rfl, rfl, trivial⟩, Gle.refl _, hS, hO⟩
    ·rintro F w23 ⟨Fb, G24, rfl, leG24, hS, hO⟩
     refine zT rfl (fun hb25 => ?_) (fun hb25 => ?_)
     ·have H := ifT hb25 H; refine zS ?_; refine zV (zA (v := (.bool false)) rfl) rfl ?_; refine zN ?_; refine WC_ret ?_; have H := oi H; subst H
      have hres := hqq9 _ rfl
      subst hres; have H := Hoq9
      have H : some false = some r := H
      have H := oi H; subst H
      exact ⟨rfl, hS.below⟩
     ·have H := ifF hb25 H; refine zP ?_; refine zR ?_; refine zV (zm (v := (.int .i64 s7)) rfl) rfl ?_; refine zV (rn_add rfl rfl) rfl ?_; refine zV (zA (v := (.int .i64 (IntKind.i64.wrap (s7 + 1)))) rfl) rfl ?_; refine zN ?_
      have hO : Owns G24 w23 w0.heap.size ([]) := hO
      have H := oi H; subst H; refine ⟨_, rfl, ?_⟩
      have l1_3 := leG12.trans leG24
      exact ⟨_, G24, upds_self _ _ ⟨rfl, rfl, trivial⟩, l1_3, hS, hO⟩
   ·have H := ifF hb13 H; refine WC_exit rfl ?_
    have hO : Owns G12 w11 w0.heap.size ([]) := hO
    have H := oi H; subst H
    have hres := hqq9 _ rfl
    subst hres
    exact ⟨_, _, G12, rfl, upds_self _ _ ⟨rfl, trivial⟩, leG12, hS, hO⟩
 ·rintro F w26 ⟨p8, Fb, G27, rfl, rfl, leG27, hS, hO⟩
  refine zQ ?_; refine zS ?_; refine zV (zA (v := (.int .i64 0)) rfl) rfl ?_; refine zN ?_; obtain ⟨q30, hq30, H⟩ := bnd H; refine zM (fun F w => ∃ (p29 : Unit) (Fb : Fr) (G : Gm), q30 = .inl p29 ∧ F = upds Fb [(1, .pointer (some ⟨b4, 0, none⟩))] ∧ Gle G27 G ∧ Since w0.heap.size G0 w0 G w ∧ Owns G w w0.heap.size []) ?_ ?_
  ·refine WC_block (WC_loop hq30 (fun s28 F w => ∃ (Fb : Fr) (G : Gm), F = upds Fb [(1, .pointer (some ⟨b4, 0, none⟩)), (4, .int .i64 s28)] ∧ Gle G27 G ∧ Since w0.heap.size G0 w0 G w ∧ Owns G w w0.heap.size []) ?_ ?_)
   ·have hO : Owns G27 w26 w0.heap.size ([]) := hO
    exact ⟨_, G27, upds_self _ _ ⟨rfl, rfl, trivial⟩, Gle.refl _, hS, hO⟩
   ·rintro s28 F w32 t31 ⟨Fb, G33, rfl, leG33, hS, hO⟩
    intro H1 hqq30
    have Hoq30 := H; have H := H1
    unfold f18_b1 at H
    refine zQ ?_; refine zS ?_; refine zV (zm (v := (.int .i64 s28)) rfl) rfl ?_; refine zV (zF fd26_1 rfl) rfl ?_
    have l1_3 := leG27.trans leG33
    refine zV (zL na23 rfl ((hS.sat.le l1_3).cell (hcb4 1 _ rfl))) rfl ?_
    have l0_3 := leG6.trans l1_3
    refine zV (rn_len sl23 rfl rfl (h2.mono RTLandEvent_mono l0_3).1) rfl ?_; refine zV (rn_lss rfl rfl) rfl ?_; refine zN ?_; refine zT rfl (fun hb34 => ?_) (fun hb34 => ?_)
    ·have H := ifT hb34 H; refine zP ?_; refine zQ ?_; refine WC_block ?_; refine zQ ?_; obtain ⟨q35, hq35, H⟩ := bnd H; refine zM (fun F w => ∃ (Fb : Fr) (G : Gm), F = upds Fb [(1, .pointer (some ⟨b4, 0, none⟩)), (4, .int .i64 s28), (61, .bool q35)] ∧ Gle G33 G ∧ Since w0.heap.size G0 w0 G w ∧ Owns G w w0.heap.size []) ?_ ?_
     ·have Hoq35 := H; have H := hq35; have hS := hS.keep (below_drew _); have hO := hO.below (below_drew _)
      refine WC_regionD mixedO (fun _ w => Sat G33 w ∧ True) (.fl 0 (.fl 1 (.on 2 (.on 3 (.on 4 (.on 5 (.on 6 (.on 7 (.on 8 (.fl 9 (.fl 10 (.fl 11 (.on 12 (.on 13 (.on 14 (.on 15 (.on 16 (.on 17 (.on 18 .nil))))))))))))))))))) (by kernel_rfl) rfl (by kernel_rfl) (fun _ => ⟨hS.sat, trivial⟩) ?_
      refine zD rfl (fun w hw => zF fd26_1 rfl) rfl ?_; refine zD rfl (fun w hw => zL na23 rfl ((hw.1.le l1_3).cell (hcb4 1 _ rfl))) rfl ?_; refine zE rfl rfl (OpP_val (zm (v := (.int .i64 s28)) rfl) rfl ?_); refine ⟨fun _ _ => ⟨hS.sat, trivial⟩, ?_⟩; obtain ⟨y36, hy36, H⟩ := bnd H; refine zE rfl rfl (OpP_idx sl23 (h2.mono RTLandEvent_mono l0_3) hy36 rfl rfl rfl ?_)
      rintro b37 o37 _ hcb37 _ ⟨⟩
      refine ⟨fun _ _ => ⟨hS.sat, trivial⟩, ?_⟩; refine zE rfl rfl (OpP_val (zF fd69_0 rfl) rfl ?_); refine ⟨fun _ _ => ⟨hS.sat, trivial⟩, ?_⟩; refine zE rfl rfl (OpP_val (zL na3 rfl (hS.sat.cell (hcb37 0 _ rfl))) rfl ?_); refine ⟨fun _ _ => ⟨hS.sat, trivial⟩, ?_⟩; obtain ⟨y38, hy38, H⟩ := bnd H; refine zE rfl rfl (zC cb33 (f33_ok (x0 := y36.Strip) hS.sat  hy38) rfl rfl (fun w39 hb => ?_)); have hS := hS.keep hb; have hO := hO.below hb; refine ⟨fun _ _ => ⟨hS.sat, trivial⟩, ?_⟩; refine zE rfl rfl (OpP_val (rn_not rfl) rfl ?_); refine ⟨fun _ _ => ⟨hS.sat, trivial⟩, ?_⟩; refine zE rfl rfl (OpP_val (zm (v := (.bool (!y38))) rfl) rfl ?_); refine ⟨fun _ _ => ⟨hS.sat, trivial⟩, ?_⟩
      rcases bcases (!y38) with hb40 | hb40
      ·have H := ifT hb40 H; refine zK rfl rfl hb40 rfl rfl rfl ?_; refine zK rfl rfl hb40 rfl rfl rfl ?_; refine zK rfl rfl hb40 rfl rfl rfl ?_; refine zJ rfl rfl hb40 rfl rfl rfl (fun _ _ => ⟨hS.sat, trivial⟩) ?_; refine zJ rfl rfl hb40 rfl rfl rfl (fun _ _ => ⟨hS.sat, trivial⟩) ?_; refine zJ rfl rfl hb40 rfl rfl rfl (fun _ _ => ⟨hS.sat, trivial⟩) ?_; refine zJ rfl rfl hb40 rfl rfl rfl (fun _ _ => ⟨hS.sat, trivial⟩) ?_
       refine zJ rfl rfl hb40 rfl rfl rfl (fun _ h => noneed (by kernel_rfl) h) ?_
       refine zJ rfl rfl hb40 rfl rfl rfl (fun _ h => noneed (by kernel_rfl) h) ?_
       refine zE rfl rfl (OpP_val (rn_pickT (v := (.bool true)) rfl hb40 rfl) rfl ?_)
       refine ⟨fun _ h => noneed (by kernel_rfl) h, ?_⟩
       refine zI ?_
       have hO : Owns G33 w39 w0.heap.size ([]) := hO
       have H := oi H; subst H
       exact ⟨_, G33, upds_self _ _ ⟨rfl, rfl, rfl, trivial⟩, Gle.refl _, hS, hO⟩
      ·have H := ifF hb40 H; refine zB rfl rfl hb40 rfl rfl (fun w hw => rn_loadA ag26 (cs := [.slice a1 n1 c1, .slice a2 n2 c2, .slice a3 n3 c3]) rfl rfl (fun j v hj => (hw.1.le l1_3).cell (hcb4.drop_take 0 3 j v hj))) rfl ?_; refine zB rfl rfl hb40 rfl rfl (fun w hw => zF fd26_1 rfl) rfl ?_; refine zB rfl rfl hb40 rfl rfl (fun w hw => zL na23 rfl ((hw.1.le l1_3).cell (hcb4 1 _ rfl))) rfl ?_; refine WD_opY rfl rfl rfl hb40 rfl rfl (OpP_val (zm (v := (.int .i64 s28)) rfl) rfl ?_); refine ⟨fun _ _ => ⟨hS.sat, trivial⟩, ?_⟩; refine WD_opY rfl rfl rfl hb40 rfl rfl (OpP_idx sl23 (h2.mono RTLandEvent_mono l0_3) hy36 rfl rfl rfl ?_)
       rintro b41 o41 _ hcb41 _ ⟨⟩
       refine ⟨fun _ _ => ⟨hS.sat, trivial⟩, ?_⟩; refine WD_opY rfl rfl rfl hb40 rfl rfl (OpP_val (zF fd69_1 rfl) rfl ?_); refine ⟨fun _ _ => ⟨hS.sat, trivial⟩, ?_⟩; refine WD_opY rfl rfl rfl hb40 rfl rfl (OpP_val (zL na3 rfl (hS.sat.cell (hcb41 1 _ rfl))) rfl ?_); refine ⟨fun _ _ => ⟨hS.sat, trivial⟩, ?_⟩; obtain ⟨y42, hy42, H⟩ := bnd H; refine WD_opY rfl rfl rfl hb40 rfl rfl (zC cb38 (f38_ok (x0 := x0) (x1 := y36.Holder) hS.sat (h1.mono RTLandPerson_mono l0_3) (h2.mono RTLandEvent_mono l0_3) (h3.mono RTLandMemory_mono l0_3) hy42) rfl rfl (fun w43 hb => ?_)); have hS := hS.keep hb; have hO := hO.below hb
       refine ⟨fun _ h => noneed (by kernel_rfl) h, ?_⟩
       refine WD_opY rfl rfl rfl hb40 rfl rfl (OpP_val (rn_not rfl) rfl ?_)
       refine ⟨fun _ h => noneed (by kernel_rfl) h, ?_⟩
       refine zE rfl rfl (OpP_val (rn_pickF (v := (.bool (!y42))) rfl hb40 rfl) rfl ?_)
       refine ⟨fun _ h => noneed (by kernel_rfl) h, ?_⟩
       refine zI ?_
       have hO : Owns G33 w43 w0.heap.size ([]) := hO
       have H := oi H; subst H
       exact ⟨_, G33, upds_self _ _ ⟨rfl, rfl, rfl, trivial⟩, Gle.refl _, hS, hO⟩
     ·rintro F w44 ⟨Fb, G45, rfl, leG45, hS, hO⟩
      refine zT rfl (fun hb46 => ?_) (fun hb46 => ?_)
      ·have H := ifT hb46 H; refine zS ?_; refine zV (zA (v := (.bool false)) rfl) rfl ?_; refine zN ?_; refine WC_ret ?_; have H := oi H; subst H
       have hres := hqq30 _ rfl
       subst hres; have H := Hoq30
       have H : some false = some r := H
       have H := oi H; subst H
       exact ⟨rfl, hS.below⟩
      ·have H := ifF hb46 H; refine zP ?_; refine zR ?_; refine zV (zm (v := (.int .i64 s28)) rfl) rfl ?_; refine zV (rn_add rfl rfl) rfl ?_; refine zV (zA (v := (.int .i64 (IntKind.i64.wrap (s28 + 1)))) rfl) rfl ?_; refine zN ?_
       have hO : Owns G45 w44 w0.heap.size ([]) := hO
       have H := oi H; subst H; refine ⟨_, rfl, ?_⟩
       have l2_4 := leG33.trans leG45
       exact ⟨_, G45, upds_self _ _ ⟨rfl, rfl, trivial⟩, l2_4, hS, hO⟩
    ·have H := ifF hb34 H; refine WC_exit rfl ?_
     have hO : Owns G33 w32 w0.heap.size ([]) := hO
     have H := oi H; subst H
     have hres := hqq30 _ rfl
     subst hres
     exact ⟨_, _, G33, rfl, upds_self _ _ ⟨rfl, trivial⟩, leG33, hS, hO⟩
  ·rintro F w47 ⟨p29, Fb, G48, rfl, rfl, leG48, hS, hO⟩
   refine zQ ?_; refine zS ?_; refine zV (zA (v := (.int .i64 0)) rfl) rfl ?_; refine zN ?_; obtain ⟨q51, hq51, H⟩ := bnd H; refine zM (fun F w => ∃ (p50 : Unit) (Fb : Fr) (G : Gm), q51 = .inl p50 ∧ F = upds Fb [(1, .pointer (some ⟨b4, 0, none⟩))] ∧ Gle G48 G ∧ Since w0.heap.size G0 w0 G w ∧ Owns G w w0.heap.size []) ?_ ?_
   ·refine WC_block (WC_loop hq51 (fun s49 F w => ∃ (Fb : Fr) (G : Gm), F = upds Fb [(1, .pointer (some ⟨b4, 0, none⟩)), (5, .int .i64 s49)] ∧ Gle G48 G ∧ Since w0.heap.size G0 w0 G w ∧ Owns G w w0.heap.size []) ?_ ?_)
    ·have hO : Owns G48 w47 w0.heap.size ([]) := hO
     exact ⟨_, G48, upds_self _ _ ⟨rfl, rfl, trivial⟩, Gle.refl _, hS, hO⟩
    ·rintro s49 F w53 t52 ⟨Fb, G54, rfl, leG54, hS, hO⟩
     intro H1 hqq51
     have Hoq51 := H; have H := H1
     unfold f18_b2 at H
     refine zQ ?_; refine zS ?_; refine zV (zm (v := (.int .i64 s49)) rfl) rfl ?_; refine zV (zF fd26_2 rfl) rfl ?_
     have l1_4 := (leG27.trans leG48).trans leG54
     refine zV (zL na24 rfl ((hS.sat.le l1_4).cell (hcb4 2 _ rfl))) rfl ?_
     have l0_4 := leG6.trans l1_4
     refine zV (rn_len sl24 rfl rfl (h3.mono RTLandMemory_mono l0_4).1) rfl ?_; refine zV (rn_lss rfl rfl) rfl ?_; refine zN ?_; refine zT rfl (fun hb55 => ?_) (fun hb55 => ?_)
     ·have H := ifT hb55 H; refine zP ?_; refine zQ ?_; refine WC_block ?_; refine zS ?_; refine zV (zF fd26_2 rfl) rfl ?_; refine zV (zL na24 rfl ((hS.sat.le l1_4).cell (hcb4 2 _ rfl))) rfl ?_; refine zV (zm (v := (.int .i64 s49)) rfl) rfl ?_; obtain ⟨y56, hy56, H⟩ := bnd H; refine WL_idx sl24 (h3.mono RTLandMemory_mono l0_4) hy56 rfl rfl rfl ?_
      rintro b57 o57 _ hcb57 _ ⟨⟩
      refine zV (rn_loadA ag46 (cs := [.int .i64 y56.From, .int .i64 y56.To, .int .i64 y56.Years.Low, .int .i64 y56.Years.High]) rfl rfl (fun j v hj => hS.sat.cell (hcb57.drop_take 0 4 j v hj))) rfl ?_
      refine zO rfl (zU (v := fun b => .pointer (some ⟨b, 0, none⟩)) (cs := [.int .i64 0, .int .i64 0, .int .i64 0, .int .i64 0]) (e := 46) (by kernel_rfl) hS.sat hO rfl 4 1 rfl (by decide) (fun b58 w59 hb hO => ?_))
      have hS := hS.keep hb; refine zO rfl (OpP_store (vs := [.int .i64 y56.From, .int .i64 y56.To, .int .i64 y56.Years.Low, .int .i64 y56.Years.High]) sz46 hS hO (k := 0) rfl rfl rfl rfl rfl (one_all rfl) (Nat.le_of_ble_eq_true rfl) (fun w61 hS hO => ?_))
      have hO : Owns G54 w61 w0.heap.size ([⟨46, 4, 1, .slice (some ⟨b58, 0, none⟩) 1 1, [.int .i64 y56.From, .int .i64 y56.To, .int .i64 y56.Years.Low, .int .i64 y56.Years.High]⟩]) := hO
      obtain ⟨G62, leG62, hS, hO, hqG62, _⟩ := hO.freeze hS (k := 0) rfl
      have hcG62 : Cells G62 b58 0 [.int .i64 y56.From, .int .i64 y56.To, .int .i64 y56.Years.Low, .int .i64 y56.Years.High] := (hqG62 _ _ _ _ rfl)
      refine zN ?_; refine zQ ?_; obtain ⟨q63, hq63, H⟩ := bnd H; refine zM (fun F w => ∃ (Fb : Fr) (G : Gm), F = upds Fb [(1, .pointer (some ⟨b4, 0, none⟩)), (5, .int .i64 s49), (113, .bool q63)] ∧ Gle G62 G ∧ Since w0.heap.size G0 w0 G w ∧ Owns G w w0.heap.size []) ?_ ?_
      ·have Hoq63 := H; have H := hq63; refine zR ?_
       have l1_5 := l1_4.trans leG62
       refine zV (rn_loadA ag26 (cs := [.slice a1 n1 c1, .slice a2 n2 c2, .slice a3 n3 c3]) rfl rfl (fun j v hj => (hS.sat.le l1_5).cell (hcb4.drop_take 0 3 j v hj))) rfl ?_; refine zV (zF fd46_0 rfl) rfl ?_; refine zV (zL na3 rfl (hS.sat.cell (hcG62 0 _ rfl))) rfl ?_; obtain ⟨y64, hy64, H⟩ := bnd H
       have l0_5 := l0_4.trans leG62
       refine zO rfl (zC cb45 (f45_ok (x0 := x0) (x1 := y56.From) hS.sat (h1.mono RTLandPerson_mono l0_5) (h2.mono RTLandEvent_mono l0_5) (h3.mono RTLandMemory_mono l0_5) hy64) rfl rfl (fun w65 hb => ?_)); have hS := hS.keep hb; have hO := hO.below hb; refine zV (rn_not rfl) rfl ?_; refine zV (zm (v := (.bool (!y64))) rfl) rfl ?_
       rcases bcases (!y64) with hb66 | hb66
       ·have H := ifT hb66 H; refine zG rfl hb66 rfl rfl rfl ?_; refine zG rfl hb66 rfl rfl rfl ?_; refine zG rfl hb66 rfl rfl rfl ?_; refine zG rfl hb66 rfl rfl rfl ?_; refine zG rfl hb66 rfl rfl rfl ?_; refine zV (rn_pickT (v := (.bool true)) rfl hb66 rfl) rfl ?_; refine zV (zm (v := (.bool true)) rfl) rfl ?_; refine zG rfl rfl rfl rfl rfl ?_; refine zG rfl rfl rfl rfl rfl ?_; refine zG rfl rfl rfl rfl rfl ?_; refine zG rfl rfl rfl rfl rfl ?_; refine zG rfl rfl rfl rfl rfl ?_; refine zV (rn_pickT (v := (.bool true)) rfl rfl rfl) rfl ?_; refine zV (zm (v := (.bool true)) rfl) rfl ?_; refine zG rfl rfl rfl rfl rfl ?_; refine zG rfl rfl rfl rfl rfl ?_; refine zG rfl rfl rfl rfl rfl ?_; refine zG rfl rfl rfl rfl rfl ?_; refine zV (rn_pickT (v := (.bool true)) rfl rfl rfl) rfl ?_; refine zV (zm (v := (.bool true)) rfl) rfl ?_; refine zG rfl rfl rfl rfl rfl ?_; refine zG rfl rfl rfl rfl rfl ?_; refine zG rfl rfl rfl rfl rfl ?_; refine zG rfl rfl rfl rfl rfl ?_; refine zG rfl rfl rfl rfl rfl ?_; refine zG rfl rfl rfl rfl rfl ?_; refine zG rfl rfl rfl rfl rfl ?_; refine zV (rn_pickT (v := (.bool true)) rfl rfl rfl) rfl ?_; refine zV (zm (v := (.bool true)) rfl) rfl ?_; refine zG rfl rfl rfl rfl rfl ?_; refine zG rfl rfl rfl rfl rfl ?_; refine zG rfl rfl rfl rfl rfl ?_; refine zG rfl rfl rfl rfl rfl ?_; refine zV (rn_pickT (v := (.bool true)) rfl rfl rfl) rfl ?_; refine zN ?_
        have hO : Owns G62 w65 w0.heap.size ([]) := hO
        have H := oi H; subst H
        exact ⟨_, G62, upds_self _ _ ⟨rfl, rfl, rfl, trivial⟩, Gle.refl _, hS, hO⟩
       ·have H := ifF hb66 H; refine zY rfl hb66 rfl rfl ?_; refine zV (rn_loadA ag26 (cs := [.slice a1 n1 c1, .slice a2 n2 c2, .slice a3 n3 c3]) rfl rfl (fun j v hj => (hS.sat.le l1_5).cell (hcb4.drop_take 0 3 j v hj))) rfl ?_; refine zY rfl hb66 rfl rfl ?_; refine zV (zF fd46_1 rfl) rfl ?_; refine zY rfl hb66 rfl rfl ?_; refine zV (zL na3 rfl (hS.sat.cell (hcG62 1 _ rfl))) rfl ?_; refine zY rfl hb66 rfl rfl ?_; obtain ⟨y67, hy67, H⟩ := bnd H; refine zO rfl (zC cb45 (f45_ok (x0 := x0) (x1 := y56.To) hS.sat (h1.mono RTLandPerson_mono l0_5) (h2.mono RTLandEvent_mono l0_5) (h3.mono RTLandMemory_mono l0_5) hy67) rfl rfl (fun w68 hb => ?_)); have hS := hS.keep hb; have hO := hO.below hb; refine zY rfl hb66 rfl rfl ?_; refine zV (rn_not rfl) rfl ?_; refine zV (rn_pickF (v := (.bool (!y67))) rfl hb66 rfl) rfl ?_; refine zV (zm (v := (.bool (!y67))) rfl) rfl ?_
        rcases bcases (!y67) with hb69 | hb69
        ·have H := ifT hb69 H; refine zG rfl hb69 rfl rfl rfl ?_; refine zG rfl hb69 rfl rfl rfl ?_; refine zG rfl hb69 rfl rfl rfl ?_; refine zG rfl hb69 rfl rfl rfl ?_; refine zG rfl hb69 rfl rfl rfl ?_; refine zV (rn_pickT (v := (.bool true)) rfl hb69 rfl) rfl ?_; refine zV (zm (v := (.bool true)) rfl) rfl ?_; refine zG rfl rfl rfl rfl rfl ?_; refine zG rfl rfl rfl rfl rfl ?_; refine zG rfl rfl rfl rfl rfl ?_; refine zG rfl rfl rfl rfl rfl ?_; refine zV (rn_pickT (v := (.bool true)) rfl rfl rfl) rfl ?_; refine zV (zm (v := (.bool true)) rfl) rfl ?_; refine zG rfl rfl rfl rfl rfl ?_; refine zG rfl rfl rfl rfl rfl ?_; refine zG rfl rfl rfl rfl rfl ?_; refine zG rfl rfl rfl rfl rfl ?_; refine zG rfl rfl rfl rfl rfl ?_; refine zG rfl rfl rfl rfl rfl ?_; refine zG rfl rfl rfl rfl rfl ?_; refine zV (rn_pickT (v := (.bool true)) rfl rfl rfl) rfl ?_; refine zV (zm (v := (.bool true)) rfl) rfl ?_; refine zG rfl rfl rfl rfl rfl ?_; refine zG rfl rfl rfl rfl rfl ?_; refine zG rfl rfl rfl rfl rfl ?_; refine zG rfl rfl rfl rfl rfl ?_; refine zV (rn_pickT (v := (.bool true)) rfl rfl rfl) rfl ?_; refine zN ?_
         have hO : Owns G62 w68 w0.heap.size ([]) := hO
         have H := oi H; subst H
         exact ⟨_, G62, upds_self _ _ ⟨rfl, rfl, rfl, trivial⟩, Gle.refl _, hS, hO⟩
        ·have H := ifF hb69 H; refine zY rfl hb69 rfl rfl ?_; refine zV (zF fd46_0 rfl) rfl ?_; refine zY rfl hb69 rfl rfl ?_; refine zV (zL na3 rfl (hS.sat.cell (hcG62 0 _ rfl))) rfl ?_; refine zY rfl hb69 rfl rfl ?_; refine zV (zF fd46_1 rfl) rfl ?_; refine zY rfl hb69 rfl rfl ?_; refine zV (zL na3 rfl (hS.sat.cell (hcG62 1 _ rfl))) rfl ?_; refine zY rfl hb69 rfl rfl ?_; refine zV (rn_eql rfl rfl) rfl ?_; refine zV (rn_pickF (v := (.bool (y56.From == y56.To))) rfl hb69 rfl) rfl ?_; refine zV (zm (v := (.bool (y56.From == y56.To))) rfl) rfl ?_
         rcases bcases (y56.From == y56.To) with hb70 | hb70
         ·have H := ifT hb70 H; refine zG rfl hb70 rfl rfl rfl ?_; refine zG rfl hb70 rfl rfl rfl ?_; refine zG rfl hb70 rfl rfl rfl ?_; refine zG rfl hb70 rfl rfl rfl ?_; refine zV (rn_pickT (v := (.bool true)) rfl hb70 rfl) rfl ?_; refine zV (zm (v := (.bool true)) rfl) rfl ?_; refine zG rfl rfl rfl rfl rfl ?_; refine zG rfl rfl rfl rfl rfl ?_; refine zG rfl rfl rfl rfl rfl ?_; refine zG rfl rfl rfl rfl rfl ?_; refine zG rfl rfl rfl rfl rfl ?_; refine zG rfl rfl rfl rfl rfl ?_; refine zG rfl rfl rfl rfl rfl ?_; refine zV (rn_pickT (v := (.bool true)) rfl rfl rfl) rfl ?_; refine zV (zm (v := (.bool true)) rfl) rfl ?_; refine zG rfl rfl rfl rfl rfl ?_; refine zG rfl rfl rfl rfl rfl ?_; refine zG rfl rfl rfl rfl rfl ?_; refine zG rfl rfl rfl rfl rfl ?_; refine zV (rn_pickT (v := (.bool true)) rfl rfl rfl) rfl ?_; refine zN ?_
          have hO : Owns G62 w68 w0.heap.size ([]) := hO
          have H := oi H; subst H
          exact ⟨_, G62, upds_self _ _ ⟨rfl, rfl, rfl, trivial⟩, Gle.refl _, hS, hO⟩
         ·have H := ifF hb70 H; refine zY rfl hb70 rfl rfl ?_; refine zV (zF fd46_2 rfl) rfl ?_; refine zY rfl hb70 rfl rfl ?_; refine zV (zF fd44_0 rfl) rfl ?_; refine zY rfl hb70 rfl rfl ?_; refine zV (zL na3 rfl (hS.sat.cell (hcG62 2 _ rfl))) rfl ?_; refine zY rfl hb70 rfl rfl ?_; refine zV (rn_lss rfl rfl) rfl ?_; refine zV (rn_pickF (v := (.bool (decide (y56.Years.Low < (-1000))))) rfl hb70 rfl) rfl ?_; refine zV (zm (v := (.bool (decide (y56.Years.Low < (-1000))))) rfl) rfl ?_
          rcases bcases (decide (y56.Years.Low < (-1000))) with hb71 | hb71
          ·have H := ifT hb71 H; refine zG rfl hb71 rfl rfl rfl ?_; refine zG rfl hb71 rfl rfl rfl ?_; refine zG rfl hb71 rfl rfl rfl ?_; refine zG rfl hb71 rfl rfl rfl ?_; refine zG rfl hb71 rfl rfl rfl ?_; refine zG rfl hb71 rfl rfl rfl ?_; refine zG rfl hb71 rfl rfl rfl ?_; refine zV (rn_pickT (v := (.bool true)) rfl hb71 rfl) rfl ?_; refine zV (zm (v := (.bool true)) rfl) rfl ?_; refine zG rfl rfl rfl rfl rfl ?_; refine zG rfl rfl rfl rfl rfl ?_; refine zG rfl rfl rfl rfl rfl ?_; refine zG rfl rfl rfl rfl rfl ?_; refine zV (rn_pickT (v := (.bool true)) rfl rfl rfl) rfl ?_; refine zN ?_
           have hO : Owns G62 w68 w0.heap.size ([]) := hO
           have H := oi H; subst H
           exact ⟨_, G62, upds_self _ _ ⟨rfl, rfl, rfl, trivial⟩, Gle.refl _, hS, hO⟩
          ·have H := ifF hb71 H; refine zY rfl hb71 rfl rfl ?_; refine zV (zF fd46_2 rfl) rfl ?_; refine zY rfl hb71 rfl rfl ?_; refine zV (zF fd44_0 rfl) rfl ?_; refine zY rfl hb71 rfl rfl ?_; refine zV (zL na3 rfl (hS.sat.cell (hcG62 2 _ rfl))) rfl ?_; refine zY rfl hb71 rfl rfl ?_; refine zV (zF fd46_2 rfl) rfl ?_; refine zY rfl hb71 rfl rfl ?_; refine zV (zF fd44_1 rfl) rfl ?_; refine zY rfl hb71 rfl rfl ?_; refine zV (zL na3 rfl (hS.sat.cell (hcG62 3 _ rfl))) rfl ?_; refine zY rfl hb71 rfl rfl ?_; refine zV (rn_gtr rfl rfl) rfl ?_; refine zV (rn_pickF (v := (.bool (decide (y56.Years.High < y56.Years.Low)))) rfl hb71 rfl) rfl ?_; refine zV (zm (v := (.bool (decide (y56.Years.High < y56.Years.Low)))) rfl) rfl ?_
           rcases bcases (decide (y56.Years.High < y56.Years.Low)) with hb72 | hb72
           ·have H := ifT hb72 H; refine zG rfl hb72 rfl rfl rfl ?_; refine zG rfl hb72 rfl rfl rfl ?_; refine zG rfl hb72 rfl rfl rfl ?_; refine zG rfl hb72 rfl rfl rfl ?_; refine zV (rn_pickT (v := (.bool true)) rfl hb72 rfl) rfl ?_; refine zN ?_
            have hO : Owns G62 w68 w0.heap.size ([]) := hO
            have H := oi H; subst H
            exact ⟨_, G62, upds_self _ _ ⟨rfl, rfl, rfl, trivial⟩, Gle.refl _, hS, hO⟩
           ·have H := ifF hb72 H; refine zY rfl hb72 rfl rfl ?_; refine zV (zF fd46_2 rfl) rfl ?_; refine zY rfl hb72 rfl rfl ?_; refine zV (zF fd44_1 rfl) rfl ?_; refine zY rfl hb72 rfl rfl ?_; refine zV (zL na3 rfl (hS.sat.cell (hcG62 3 _ rfl))) rfl ?_; refine zY rfl hb72 rfl rfl ?_; refine zV (rn_gtr rfl rfl) rfl ?_; refine zV (rn_pickF (v := (.bool (decide (1000 < y56.Years.High)))) rfl hb72 rfl) rfl ?_; refine zN ?_
            have hO : Owns G62 w68 w0.heap.size ([]) := hO
            have H := oi H; subst H
            exact ⟨_, G62, upds_self _ _ ⟨rfl, rfl, rfl, trivial⟩, Gle.refl _, hS, hO⟩
      ·rintro F w73 ⟨Fb, G74, rfl, leG74, hS, hO⟩
       refine zT rfl (fun hb75 => ?_) (fun hb75 => ?_)
       ·have H := ifT hb75 H; refine zS ?_; refine zV (zA (v := (.bool false)) rfl) rfl ?_; refine zN ?_; refine WC_ret ?_; have H := oi H; subst H
        have hres := hqq51 _ rfl
        subst hres; have H := Hoq51
        have H : some false = some r := H
        have H := oi H; subst H
        exact ⟨rfl, hS.below⟩
       ·have H := ifF hb75 H; refine zP ?_; refine zR ?_; refine zV (zm (v := (.int .i64 s49)) rfl) rfl ?_; refine zV (rn_add rfl rfl) rfl ?_; refine zV (zA (v := (.int .i64 (IntKind.i64.wrap (s49 + 1)))) rfl) rfl ?_; refine zN ?_
        have hO : Owns G74 w73 w0.heap.size ([]) := hO
        have H := oi H; subst H; refine ⟨_, rfl, ?_⟩
        have l3_6 := (leG54.trans leG62).trans leG74
        exact ⟨_, G74, upds_self _ _ ⟨rfl, rfl, trivial⟩, l3_6, hS, hO⟩
     ·have H := ifF hb55 H; refine WC_exit rfl ?_
      have hO : Owns G54 w53 w0.heap.size ([]) := hO
      have H := oi H; subst H
      have hres := hqq51 _ rfl
      subst hres
      exact ⟨_, _, G54, rfl, upds_self _ _ ⟨rfl, trivial⟩, leG54, hS, hO⟩
   ·rintro F w76 ⟨p50, Fb, G77, rfl, rfl, leG77, hS, hO⟩
    refine zQ ?_; obtain ⟨q78, hq78, H⟩ := bnd H; refine zM (fun F w => ∃ (Fb : Fr) (G : Gm), F = upds Fb [(2, .bool q78)] ∧ Gle G77 G ∧ Since w0.heap.size G0 w0 G w ∧ Owns G w w0.heap.size []) ?_ ?_
    ·have Hoq78 := H; have H := hq78; refine zR ?_; refine zV (zF fd26_0 rfl) rfl ?_
     have l1_4 := (leG27.trans leG48).trans leG77
     refine zV (zL na22 rfl ((hS.sat.le l1_4).cell (hcb4 0 _ rfl))) rfl ?_
     have l0_4 := leG6.trans l1_4
     refine zV (rn_len sl22 rfl rfl (h1.mono RTLandPerson_mono l0_4).1) rfl ?_; obtain ⟨y79, hy79, H⟩ := bnd H; refine zO rfl (zC cb60 (f60_ok (x0 := (x0.People.length : Int)) (x1 := 1) (x2 := 10) hS.sat  hy79) rfl rfl (fun w80 hb => ?_)); have hS := hS.keep hb; have hO := hO.below hb; refine zV (zm (v := (.bool y79)) rfl) rfl ?_
     rcases bcases y79 with hb81 | hb81
     ·have H := ifT hb81 H; refine zY rfl hb81 rfl rfl ?_; refine zV (zF fd26_1 rfl) rfl ?_; refine zY rfl hb81 rfl rfl ?_; refine zV (zL na23 rfl ((hS.sat.le l1_4).cell (hcb4 1 _ rfl))) rfl ?_; refine zY rfl hb81 rfl rfl ?_; refine zV (rn_len sl23 rfl rfl (h2.mono RTLandEvent_mono l0_4).1) rfl ?_; refine zY rfl hb81 rfl rfl ?_; obtain ⟨y82, hy82, H⟩ := bnd H; refine zO rfl (zC cb60 (f60_ok (x0 := (x0.Events.length : Int)) (x1 := 1) (x2 := 7) hS.sat  hy82) rfl rfl (fun w83 hb => ?_)); have hS := hS.keep hb; have hO := hO.below hb; refine zV (rn_pickT (v := (.bool y82)) rfl hb81 rfl) rfl ?_; refine zV (zm (v := (.bool y82)) rfl) rfl ?_
      rcases bcases y82 with hb84 | hb84
      ·have H := ifT hb84 H; refine zY rfl hb84 rfl rfl ?_; refine zV (zF fd26_2 rfl) rfl ?_; refine zY rfl hb84 rfl rfl ?_; refine zV (zL na24 rfl ((hS.sat.le l1_4).cell (hcb4 2 _ rfl))) rfl ?_; refine zY rfl hb84 rfl rfl ?_; refine zV (rn_len sl24 rfl rfl (h3.mono RTLandMemory_mono l0_4).1) rfl ?_; refine zY rfl hb84 rfl rfl ?_; refine zV (rn_leq rfl rfl) rfl ?_; refine zV (rn_pickT (v := (.bool (decide ((x0.Memories.length : Int) ≤ 10)))) rfl hb84 rfl) rfl ?_; refine zV (zA (v := (.bool (decide ((x0.Memories.length : Int) ≤ 10)))) rfl) rfl ?_; refine zN ?_
       have hO : Owns G77 w83 w0.heap.size ([]) := hO
       have H := oi H; subst H
       exact ⟨_, G77, upds_self _ _ ⟨rfl, trivial⟩, Gle.refl _, hS, hO⟩
      ·have H := ifF hb84 H; refine zG rfl hb84 rfl rfl rfl ?_; refine zG rfl hb84 rfl rfl rfl ?_; refine zG rfl hb84 rfl rfl rfl ?_; refine zG rfl hb84 rfl rfl rfl ?_; refine zV (rn_pickF (v := (.bool false)) rfl hb84 rfl) rfl ?_; refine zV (zA (v := (.bool false)) rfl) rfl ?_; refine zN ?_
       have hO : Owns G77 w83 w0.heap.size ([]) := hO
       have H := oi H; subst H
       exact ⟨_, G77, upds_self _ _ ⟨rfl, trivial⟩, Gle.refl _, hS, hO⟩
     ·have H := ifF hb81 H; refine zG rfl hb81 rfl rfl rfl ?_; refine zG rfl hb81 rfl rfl rfl ?_; refine zG rfl hb81 rfl rfl rfl ?_; refine zG rfl hb81 rfl rfl rfl ?_; refine zV (rn_pickF (v := (.bool false)) rfl hb81 rfl) rfl ?_; refine zV (zm (v := (.bool false)) rfl) rfl ?_; refine zG rfl rfl rfl rfl rfl ?_; refine zG rfl rfl rfl rfl rfl ?_; refine zG rfl rfl rfl rfl rfl ?_; refine zG rfl rfl rfl rfl rfl ?_; refine zV (rn_pickF (v := (.bool false)) rfl rfl rfl) rfl ?_; refine zV (zA (v := (.bool false)) rfl) rfl ?_; refine zN ?_
      have hO : Owns G77 w80 w0.heap.size ([]) := hO
      have H := oi H; subst H
      exact ⟨_, G77, upds_self _ _ ⟨rfl, trivial⟩, Gle.refl _, hS, hO⟩
    ·rintro F w85 ⟨Fb, G86, rfl, leG86, hS, hO⟩
     refine WC_ret ?_
     have H : some q78 = some r := H
     have H := oi H; subst H
     exact ⟨rfl, hS.below⟩
set_option maxHeartbeats 1000000 in
theorem f61_ok {G0 : Gm} {w0 : World} (hS0 : Sat G0 w0) {x0 : TLandBook} {a1 : Option Addr} {n1 c1 : Nat} {a2 : Option Addr} {n2 c2 : Nat} {a3 : Option Addr} {n3 c3 : Nat} (h1 : RSl RTLandPerson 2 G0 a1 n1 c1 x0.People) (h2 : RSl RTLandEvent 2 G0 a2 n2 c2 x0.Events) (h3 : RSl RTLandMemory 4 G0 a3 n3 c3 x0.Memories) {r : (List (List Int))} (H : f61 x0 = some r) :
  Calls Tryd.prog 61 #[.agg #[.slice a1 n1 c1, .slice a2 n2 c2, .slice a3 n3 c3]] w0 (RetG G0 w0 (fun G v => ∃ (ra0 : Option Addr) (rn0 rc0 : Nat), v = .slice ra0 rn0 rc0 ∧ RSl (RSlice RInt 1) 1 G ra0 rn0 rc0 r)) := by
 have hS := Since.start hS0
 have hO : Owns G0 w0 w0.heap.size [] := Owns.nil (Nat.le_refl _)
 unfold f61 at H
 refine enter1 (N := 143) (shutG _ _ _) Tryd.func61 rfl rfl rfl rfl ?_; refine zS ?_; refine zO rfl (zW (v := fun b => .pointer (some ⟨b, 0, none⟩)) (cs := [.slice a1 n1 c1, .slice a2 n2 c2, .slice a3 n3 c3]) (e := 26) (rn_boxA rfl) hS.sat rfl (fun b4 G6 w5 hg hcb4 => ?_)); have hS := hS.grow hg; have hO := hO.grow hg
 have leG6 := hg.le
 refine zV (zA (v := (.slice none 0 0)) rfl) rfl ?_; refine zN ?_; refine zS ?_; refine zV (zF fd26_1 rfl) rfl ?_; refine zV (zL na23 rfl (hS.sat.cell (hcb4 1 _ rfl))) rfl ?_; refine zV (rn_len sl23 rfl rfl (h2.mono RTLandEvent_mono leG6).1) rfl ?_; refine zV (zA (v := (.int .i64 (x0.Events.length : Int))) rfl) rfl ?_; refine zN ?_; refine zS ?_; refine zV (zA (v := (.slice none 0 0)) rfl) rfl ?_; refine zN ?_; refine zQ ?_; refine zS ?_; refine zV (zA (v := (.int .i64 0)) rfl) rfl ?_; refine zN ?_; have hO := hO.nest_nil 29 3
 have hO : Owns G6 w5 w0.heap.size (((nest 29 3 none 0 0 ([] : List NI)))) := hO
 obtain ⟨q10, hq10, H⟩ := bnd H; refine zM (fun F w => ∃ (Fb : Fr) (G : Gm) (aq10_0 : Option Addr) (nq10_0 cq10_0 : Nat) (Iaq10_0 : List NI), F = upds Fb [(1, .pointer (some ⟨b4, 0, none⟩)), (3, .int .i64 (x0.Events.length : Int)), (4, .slice aq10_0 nq10_0 cq10_0)] ∧ Gle G6 G ∧ Since w0.heap.size G0 w0 G w ∧ Owns G w w0.heap.size ((nest 29 3 aq10_0 nq10_0 cq10_0 Iaq10_0)) ∧ nq10_0 = Iaq10_0.length ∧ nums Iaq10_0 = q10) ?_ ?_
 ·refine WC_block (WC_loop hq10 (fun s8 F w => ∃ (Fb : Fr) (G : Gm) (as8_0 : Option Addr) (ns8_0 cs8_0 : Nat) (Ias8_0 : List NI), F = upds Fb [(1, .pointer (some ⟨b4, 0, none⟩)), (3, .int .i64 (x0.Events.length : Int)), (4, .slice as8_0 ns8_0 cs8_0), (5, .int .i64 s8.2)] ∧ Gle G6 G ∧ Since w0.heap.size G0 w0 G w ∧ Owns G w w0.heap.size ((nest 29 3 as8_0 ns8_0 cs8_0 Ias8_0)) ∧ ns8_0 = Ias8_0.length ∧ nums Ias8_0 = s8.1) ?_ ?_)
  ·have hO : Owns G6 w5 w0.heap.size (((nest 29 3 none 0 0 ([] : List NI)))) := hO
   exact ⟨_, G6, none, 0, 0, ([] : List NI), upds_self _ _ ⟨rfl, rfl, rfl, rfl, trivial⟩, Gle.refl _, hS, hO, rfl, rfl⟩
  ·rintro s8 F w12 t11 ⟨Fb, G13, as8_0, ns8_0, cs8_0, Ias8_0, rfl, leG13, hS, hO, hnhs8_0, hs8_0⟩
   intro H1 hqq10
   have Hoq10 := H; have H := H1
   unfold f61_b0 at H
   refine zQ ?_; refine zS ?_; refine zV (zm (v := (.int .i64 s8.2)) rfl) rfl ?_; refine zV (zm (v := (.int .i64 (x0.Events.length : Int))) rfl) rfl ?_; refine zV (rn_leq rfl rfl) rfl ?_; refine zN ?_; refine zT rfl (fun hb14 => ?_) (fun hb14 => ?_)
   ·have H := ifT hb14 H; refine zP ?_; refine zQ ?_; refine WC_block ?_; refine zS ?_; refine zV (zA (v := (.slice none 0 0)) rfl) rfl ?_; refine zN ?_; refine zQ ?_; refine zS ?_; refine zV (zA (v := (.int .i64 0)) rfl) rfl ?_; refine zN ?_; have hO := hO.cons_nil 3 1; obtain ⟨q18, hq18, H⟩ := bnd H; refine zM (fun F w => ∃ (Fb : Fr) (G : Gm) (aq18_0 : Option Addr) (nq18_0 cq18_0 : Nat) (claq18_0 : List Value), F = upds Fb [(1, .pointer (some ⟨b4, 0, none⟩)), (3, .int .i64 (x0.Events.length : Int)), (4, .slice as8_0 ns8_0 cs8_0), (5, .int .i64 s8.2), (6, .slice aq18_0 nq18_0 cq18_0)] ∧ Gle G13 G ∧ Since w0.heap.size G0 w0 G w ∧ Owns G w w0.heap.size (⟨3, 1, nq18_0, .slice aq18_0 nq18_0 cq18_0, claq18_0⟩ :: (nest 29 3 as8_0 ns8_0 cs8_0 Ias8_0)) ∧ nq18_0 = q18.length ∧ Rd RInt 1 G claq18_0 q18) ?_ ?_
    ·refine WC_block (WC_loop hq18 (fun s16 F w => ∃ (Fb : Fr) (G : Gm) (as16_0 : Option Addr) (ns16_0 cs16_0 : Nat) (clas16_0 : List Value), F = upds Fb [(1, .pointer (some ⟨b4, 0, none⟩)), (3, .int .i64 (x0.Events.length : Int)), (4, .slice as8_0 ns8_0 cs8_0), (5, .int .i64 s8.2), (6, .slice as16_0 ns16_0 cs16_0), (7, .int .i64 s16.2)] ∧ Gle G13 G ∧ Since w0.heap.size G0 w0 G w ∧ Owns G w w0.heap.size (⟨3, 1, ns16_0, .slice as16_0 ns16_0 cs16_0, clas16_0⟩ :: (nest 29 3 as8_0 ns8_0 cs8_0 Ias8_0)) ∧ ns16_0 = s16.1.length ∧ Rd RInt 1 G clas16_0 s16.1) ?_ ?_)
     ·have hO : Owns G13 w12 w0.heap.size ((⟨3, 1, 0, .slice none 0 0, []⟩ :: (nest 29 3 as8_0 ns8_0 cs8_0 Ias8_0))) := hO
      exact ⟨_, G13, none, 0, 0, [], upds_self _ _ ⟨rfl, rfl, rfl, rfl, rfl, rfl, trivial⟩, Gle.refl _, hS, hO, rfl, (Rd.nil RInt 1 G13)⟩
     ·rintro s16 F w20 t19 ⟨Fb, G21, as16_0, ns16_0, cs16_0, clas16_0, rfl, leG21, hS, hO, hnhs16_0, hs16_0⟩
      intro H1 hqq18
      have Hoq18 := H; have H := H1
      unfold f61_b1 at H
      refine zQ ?_; refine zS ?_; refine zV (zm (v := (.int .i64 s16.2)) rfl) rfl ?_; refine zV (zm (v := (.int .i64 (x0.Events.length : Int))) rfl) rfl ?_; refine zV (rn_leq rfl rfl) rfl ?_; refine zN ?_; refine zT rfl (fun hb22 => ?_) (fun hb22 => ?_)
      ·have H := ifT hb22 H; refine zP ?_; refine zQ ?_; refine WC_block ?_; refine zS ?_; refine zV (zA (v := (.int .i64 1000)) rfl) rfl ?_; refine zN ?_; refine zQ ?_; obtain ⟨q23, hq23, H⟩ := bnd H; refine zM (fun F w => ∃ (Fb : Fr), F = upds Fb [(1, .pointer (some ⟨b4, 0, none⟩)), (3, .int .i64 (x0.Events.length : Int)), (4, .slice as8_0 ns8_0 cs8_0), (5, .int .i64 s8.2), (6, .slice as16_0 ns16_0 cs16_0), (7, .int .i64 s16.2), (8, .int .i64 q23)] ∧ w20 = w) ?_ ?_
       ·have Hoq23 := H; have H := hq23; refine zQ ?_; obtain ⟨q24, hq24, H⟩ := bnd H; refine zM (fun F w => ∃ (Fb : Fr), F = upds Fb [(1, .pointer (some ⟨b4, 0, none⟩)), (3, .int .i64 (x0.Events.length : Int)), (4, .slice as8_0 ns8_0 cs8_0), (5, .int .i64 s8.2), (6, .slice as16_0 ns16_0 cs16_0), (7, .int .i64 s16.2), (8, .int .i64 1000), (34, .bool q24)] ∧ w20 = w) ?_ ?_
        ·have Hoq24 := H; have H := hq24; refine zR ?_; refine zV (zm (v := (.int .i64 s8.2)) rfl) rfl ?_; refine zV (zm (v := (.int .i64 s16.2)) rfl) rfl ?_; refine zV (rn_eql rfl rfl) rfl ?_; refine zV (zm (v := (.bool (s8.2 == s16.2))) rfl) rfl ?_
         rcases bcases (s8.2 == s16.2) with hb25 | hb25
         ·have H := ifT hb25 H; refine zG rfl hb25 rfl rfl rfl ?_; refine zG rfl hb25 rfl rfl rfl ?_; refine zG rfl hb25 rfl rfl rfl ?_; refine zV (rn_pickT (v := (.bool true)) rfl hb25 rfl) rfl ?_; refine zN ?_; have H := oi H; subst H
          exact ⟨_, upds_self _ _ ⟨rfl, rfl, rfl, rfl, rfl, rfl, rfl, rfl, trivial⟩, rfl⟩
         ·have H := ifF hb25 H; refine zY rfl hb25 rfl rfl ?_; refine zV (zm (v := (.int .i64 s16.2)) rfl) rfl ?_; refine zY rfl hb25 rfl rfl ?_; refine zV (zm (v := (.int .i64 (x0.Events.length : Int))) rfl) rfl ?_; refine zY rfl hb25 rfl rfl ?_; refine zV (rn_eql rfl rfl) rfl ?_; refine zV (rn_pickF (v := (.bool (s16.2 == (x0.Events.length : Int)))) rfl hb25 rfl) rfl ?_; refine zN ?_; have H := oi H; subst H
          exact ⟨_, upds_self _ _ ⟨rfl, rfl, rfl, rfl, rfl, rfl, rfl, rfl, trivial⟩, rfl⟩
        ·rintro F wl ⟨Fb, rfl, rfl⟩
         refine zT rfl (fun hb28 => ?_) (fun hb28 => ?_)
         ·have H := ifT hb28 H; refine zR ?_; refine zV (zA (v := (.int .i64 0)) rfl) rfl ?_; refine zN ?_; have H := oi H; subst H
          exact ⟨_, upds_self _ _ ⟨rfl, rfl, rfl, rfl, rfl, rfl, rfl, trivial⟩, rfl⟩
         ·have H := ifF hb28 H; refine zP ?_; have H := oi H; subst H
          exact ⟨_, upds_self _ _ ⟨rfl, rfl, rfl, rfl, rfl, rfl, rfl, trivial⟩, rfl⟩
       ·rintro F wl ⟨Fb, rfl, rfl⟩
        refine zR ?_; refine zV (zm (v := (.slice as16_0 ns16_0 cs16_0)) rfl) rfl ?_; refine zV (zm (v := (.int .i64 q23)) rfl) rfl ?_
        refine zO rfl (zW (v := fun b => .slice (some ⟨b, 0, none⟩) 1 1) (cs := [.int .i64 q23]) (e := 3) (by kernel_rfl) hS.sat rfl (fun b31 G33 w32 hg hcb31 => ?_))
        have hS := hS.grow hg; have hO := hO.grow hg
        have leG33 := hg.le
        have hfb31 : RSl RInt 1 G33 (some ⟨b31, 0, none⟩) 1 1 [q23] := RSl.of_rd hcb31 (Rd.cons (c := [.int .i64 q23]) rfl rfl (Rd.nil RInt 1 _)) rfl (by decide)
        obtain ⟨y34, hy34, H⟩ := bnd H; refine zO rfl (OpP_append (k := 0) sl29 RInt_one hS hO rfl hnhs16_0 (hs16_0.mono RInt_mono leG33) hfb31 hy34 rfl rfl rfl rfl rfl (fun aw35 cw35 w35 clw35 hS hO hrw35 => ?_))
        have hO : Owns G33 w35 w0.heap.size ((⟨3, 1, y34.length, .slice aw35 y34.length cw35, clw35⟩ :: (nest 29 3 as8_0 ns8_0 cs8_0 Ias8_0))) := hO
        refine zV (zA (v := (.slice aw35 y34.length cw35)) rfl) rfl ?_; refine zN ?_; refine zR ?_; refine zV (zm (v := (.int .i64 s16.2)) rfl) rfl ?_; refine zV (rn_add rfl rfl) rfl ?_; refine zV (zA (v := (.int .i64 (IntKind.i64.wrap (s16.2 + 1)))) rfl) rfl ?_; refine zN ?_
        have hO : Owns G33 w35 w0.heap.size ((⟨3, 1, y34.length, .slice aw35 y34.length cw35, clw35⟩ :: (nest 29 3 as8_0 ns8_0 cs8_0 Ias8_0))) := hO
        have H := oi H; subst H; refine ⟨_, rfl, ?_⟩
        have l2_4 := leG21.trans leG33
        exact ⟨_, G33, aw35, y34.length, cw35, clw35, upds_self _ _ ⟨rfl, rfl, rfl, rfl, rfl, rfl, trivial⟩, l2_4, hS, hO, rfl, hrw35⟩
      ·have H := ifF hb22 H; refine WC_exit rfl ?_
       have hO : Owns G21 w20 w0.heap.size ((⟨3, 1, ns16_0, .slice as16_0 ns16_0 cs16_0, clas16_0⟩ :: (nest 29 3 as8_0 ns8_0 cs8_0 Ias8_0))) := hO
       have H := oi H; subst H
       have hres := hqq18 _ rfl
       subst hres
       exact ⟨_, G21, as16_0, ns16_0, cs16_0, clas16_0, upds_self _ _ ⟨rfl, rfl, rfl, rfl, rfl, trivial⟩, leG21, hS, hO, hnhs16_0, hs16_0⟩
    ·rintro F w36 ⟨Fb, G37, aq18_0, nq18_0, cq18_0, claq18_0, rfl, leG37, hS, hO, hnhq18_0, hq18_0⟩
     refine zR ?_; refine zV (zm (v := (.slice as8_0 ns8_0 cs8_0)) rfl) rfl ?_; refine zV (zm (v := (.slice aq18_0 nq18_0 cq18_0)) rfl) rfl ?_
     refine zO rfl (zW (v := fun b => .slice (some ⟨b, 0, none⟩) 1 1) (cs := [.slice aq18_0 nq18_0 cq18_0]) (e := 29) (by kernel_rfl) hS.sat rfl (fun b38 G39 w40 hg hcb38 => ?_))
     have hS := hS.grow hg; have hO := hO.grow hg
     have leG39 := hg.le
     have hfb38 : RSl RRaw 1 G39 (some ⟨b38, 0, none⟩) 1 1 [.slice aq18_0 nq18_0 cq18_0] := RSl.of_rd hcb38 (Rd.cons (c := [.slice aq18_0 nq18_0 cq18_0]) rfl ⟨rfl, rfl⟩ (Rd.nil RRaw 1 _)) rfl (by decide)
     obtain ⟨y41, hy41, H⟩ := bnd H; refine zO rfl (OpP_nestApp (L1 := []) sl86 hS hO hs8_0 hnhs8_0 hnhq18_0 (hq18_0.mono RInt_mono leG39) hfb38 hy41 rfl rfl rfl rfl rfl (fun aw42 nw42 cw42 w42 Iw42 hS hO hiw42 hnw42 => ?_))
     have hO : Owns G39 w42 w0.heap.size (((nest 29 3 aw42 nw42 cw42 Iw42))) := hO
     refine zV (zA (v := (.slice aw42 nw42 cw42)) rfl) rfl ?_; refine zN ?_; refine zR ?_; refine zV (zm (v := (.int .i64 s8.2)) rfl) rfl ?_; refine zV (rn_add rfl rfl) rfl ?_; refine zV (zA (v := (.int .i64 (IntKind.i64.wrap (s8.2 + 1)))) rfl) rfl ?_; refine zN ?_
     have hO : Owns G39 w42 w0.heap.size (((nest 29 3 aw42 nw42 cw42 Iw42))) := hO
     have H := oi H; subst H; refine ⟨_, rfl, ?_⟩
     have l1_4 := (leG13.trans leG37).trans leG39
     exact ⟨_, G39, aw42, nw42, cw42, Iw42, upds_self _ _ ⟨rfl, rfl, rfl, rfl, trivial⟩, l1_4, hS, hO, hnw42, hiw42⟩
   ·have H := ifF hb14 H; refine WC_exit rfl ?_
    have hO : Owns G13 w12 w0.heap.size (((nest 29 3 as8_0 ns8_0 cs8_0 Ias8_0))) := hO
    have H := oi H; subst H
    have hres := hqq10 _ rfl
    subst hres
    exact ⟨_, G13, as8_0, ns8_0, cs8_0, Ias8_0, upds_self _ _ ⟨rfl, rfl, rfl, trivial⟩, leG13, hS, hO, hnhs8_0, hs8_0⟩
 ·rintro F w43 ⟨Fb, G44, aq10_0, nq10_0, cq10_0, Iaq10_0, rfl, leG44, hS, hO, hnhq10_0, hq10_0⟩
  refine zQ ?_; refine zS ?_; refine zV (zA (v := (.int .i64 0)) rfl) rfl ?_; refine zN ?_; obtain ⟨q47, hq47, H⟩ := bnd H; refine zM (fun F w => ∃ (Fb : Fr) (G : Gm) (aq47_0 : Option Addr) (nq47_0 cq47_0 : Nat) (Iaq47_0 : List NI), F = upds Fb [(3, .int .i64 (x0.Events.length : Int)), (4, .slice aq47_0 nq47_0 cq47_0)] ∧ Gle G44 G ∧ Since w0.heap.size G0 w0 G w ∧ Owns G w w0.heap.size ((nest 29 3 aq47_0 nq47_0 cq47_0 Iaq47_0)) ∧ nq47_0 = Iaq47_0.length ∧ nums Iaq47_0 = q47) ?_ ?_
  ·refine WC_block (WC_loop hq47 (fun s45 F w => ∃ (Fb : Fr) (G : Gm) (as45_0 : Option Addr) (ns45_0 cs45_0 : Nat) (Ias45_0 : List NI), F = upds Fb [(1, .pointer (some ⟨b4, 0, none⟩)), (3, .int .i64 (x0.Events.length : Int)), (4, .slice as45_0 ns45_0 cs45_0), (9, .int .i64 s45.2)] ∧ Gle G44 G ∧ Since w0.heap.size G0 w0 G w ∧ Owns G w w0.heap.size ((nest 29 3 as45_0 ns45_0 cs45_0 Ias45_0)) ∧ ns45_0 = Ias45_0.length ∧ nums Ias45_0 = s45.1) ?_ ?_)
   ·have hO : Owns G44 w43 w0.heap.size (((nest 29 3 aq10_0 nq10_0 cq10_0 Iaq10_0))) := hO
    exact ⟨_, G44, aq10_0, nq10_0, cq10_0, Iaq10_0, upds_self _ _ ⟨rfl, rfl, rfl, rfl, trivial⟩, Gle.refl _, hS, hO, hnhq10_0, hq10_0⟩
   ·rintro s45 F w49 t48 ⟨Fb, G50, as45_0, ns45_0, cs45_0, Ias45_0, rfl, leG50, hS, hO, hnhs45_0, hs45_0⟩
    intro H1 hqq47
    have Hoq47 := H; have H := H1
    unfold f61_b2 at H
    refine zQ ?_; refine zS ?_; refine zV (zm (v := (.int .i64 s45.2)) rfl) rfl ?_; refine zV (zF fd26_2 rfl) rfl ?_
    have l1_3 := leG44.trans leG50
    refine zV (zL na24 rfl ((hS.sat.le l1_3).cell (hcb4 2 _ rfl))) rfl ?_
    have l0_3 := leG6.trans l1_3
    refine zV (rn_len sl24 rfl rfl (h3.mono RTLandMemory_mono l0_3).1) rfl ?_; refine zV (rn_lss rfl rfl) rfl ?_; refine zN ?_; refine zT rfl (fun hb51 => ?_) (fun hb51 => ?_)
    ·have H := ifT hb51 H; refine zP ?_; refine zQ ?_; refine WC_block ?_; refine zS ?_; refine zV (zF fd26_2 rfl) rfl ?_; refine zV (zL na24 rfl ((hS.sat.le l1_3).cell (hcb4 2 _ rfl))) rfl ?_; refine zV (zm (v := (.int .i64 s45.2)) rfl) rfl ?_; obtain ⟨y52, hy52, H⟩ := bnd H; refine WL_idx sl24 (h3.mono RTLandMemory_mono l0_3) hy52 rfl rfl rfl ?_
     rintro b53 o53 _ hcb53 _ ⟨⟩
     refine zV (rn_loadA ag46 (cs := [.int .i64 y52.From, .int .i64 y52.To, .int .i64 y52.Years.Low, .int .i64 y52.Years.High]) rfl rfl (fun j v hj => hS.sat.cell (hcb53.drop_take 0 4 j v hj))) rfl ?_
     refine zO rfl (zU (v := fun b => .pointer (some ⟨b, 0, none⟩)) (cs := [.int .i64 0, .int .i64 0, .int .i64 0, .int .i64 0]) (e := 46) (by kernel_rfl) hS.sat hO rfl 4 1 rfl (by decide) (fun b54 w55 hb hO => ?_))
     have hS := hS.keep hb; refine zO rfl (OpP_store (vs := [.int .i64 y52.From, .int .i64 y52.To, .int .i64 y52.Years.Low, .int .i64 y52.Years.High]) sz46 hS hO (k := 0) rfl rfl rfl rfl rfl (one_all rfl) (Nat.le_of_ble_eq_true rfl) (fun w57 hS hO => ?_))
     have hO : Owns G50 w57 w0.heap.size ((⟨46, 4, 1, .slice (some ⟨b54, 0, none⟩) 1 1, [.int .i64 y52.From, .int .i64 y52.To, .int .i64 y52.Years.Low, .int .i64 y52.Years.High]⟩ :: (nest 29 3 as45_0 ns45_0 cs45_0 Ias45_0))) := hO
     obtain ⟨G58, leG58, hS, hO, hqG58, _⟩ := hO.freeze hS (k := 0) rfl
     have hcG58 : Cells G58 b54 0 [.int .i64 y52.From, .int .i64 y52.To, .int .i64 y52.Years.Low, .int .i64 y52.Years.High] := (hqG58 _ _ _ _ rfl)
     refine zN ?_; refine zQ ?_; have hS := hS.keep (below_drew _); have hO := hO.below (below_drew _)
     refine WC_regionD mixedO (fun _ w => Sat G58 w ∧ Owns G58 w w0.heap.size ((nest 29 3 as45_0 ns45_0 cs45_0 Ias45_0))) (.fl 0 (.fl 1 (.fl 2 (.fl 3 (.fl 4 (.fl 5 (.fl 6 (.fl 7 (.fl 8 (.fl 9 (.fl 10 (.fl 11 (.fl 12 (.fl 13 (.fl 14 (.fl 15 (.on 16 (.on 17 (.on 18 (.on 19 (.on 20 (.on 21 .nil)))))))))))))))))))))) (by kernel_rfl) rfl (by kernel_rfl) (fun _ => ⟨hS.sat, hO⟩) ?_
     refine zD rfl (fun w hw => zm (v := (.slice as45_0 ns45_0 cs45_0)) rfl) rfl ?_; refine zD rfl (fun w hw => zF fd46_0 rfl) rfl ?_; refine zD rfl (fun w hw => zL na3 rfl (hw.1.cell (hcG58 0 _ rfl))) rfl ?_; obtain ⟨y59, hy59, H⟩ := bnd H; obtain ⟨aqb60, cqb60, hqb60, hqxb60⟩ := nest_ix hs45_0 hy59; refine WD_idxO rfl sl86 hO (k := 0) rfl (hnhs45_0.trans (List.length_map ..).symm) (nest_rd _) hqxb60 rfl rfl rfl ?_
     rintro b60 ob60 _ hb60 _ hcb60 ⟨rfl, _⟩
     refine zD rfl (fun w hw => zL na29 rfl (zH hw.2 (k := 0) rfl hb60 _ 0 (hcb60 0 _ rfl))) rfl ?_; refine zD rfl (fun w hw => zF fd46_1 rfl) rfl ?_; refine zD rfl (fun w hw => zL na3 rfl (hw.1.cell (hcG58 1 _ rfl))) rfl ?_; refine zD rfl (fun w hw => zm (v := (.slice as45_0 ns45_0 cs45_0)) rfl) rfl ?_; refine zD rfl (fun w hw => zF fd46_0 rfl) rfl ?_; refine zD rfl (fun w hw => zL na3 rfl (hw.1.cell (hcG58 0 _ rfl))) rfl ?_; obtain ⟨aqb61, cqb61, hqb61, hqxb61⟩ := nest_ix hs45_0 hy59; refine WD_idxO rfl sl86 hO (k := 0) rfl (hnhs45_0.trans (List.length_map ..).symm) (nest_rd _) hqxb61 rfl rfl rfl ?_
     rintro b61 ob61 _ hb61 _ hcb61 ⟨rfl, _⟩
     refine zD rfl (fun w hw => zL na29 rfl (zH hw.2 (k := 0) rfl hb61 _ 0 (hcb61 0 _ rfl))) rfl ?_; refine zD rfl (fun w hw => zF fd46_1 rfl) rfl ?_; refine zD rfl (fun w hw => zL na3 rfl (hw.1.cell (hcG58 1 _ rfl))) rfl ?_; obtain ⟨y62, hy62, H⟩ := bnd H; obtain ⟨b63, ob63, hab63⟩ := nest_at (L1 := []) hO hqb61 hy62; refine zD rfl (fun w hw => rn_idxR sl29 hab63 hy62 rfl rfl rfl) rfl ?_; refine zD rfl (fun w hw => zL na3 rfl (nest_cell (L1 := []) (hw.2) hqb61 hab63 hy62)) rfl ?_; refine zE rfl rfl (OpP_val (zF fd46_2 rfl) rfl ?_); refine ⟨fun _ _ => ⟨hS.sat, hO⟩, ?_⟩; refine zE rfl rfl (OpP_val (zF fd44_1 rfl) rfl ?_); refine ⟨fun _ _ => ⟨hS.sat, hO⟩, ?_⟩; refine zE rfl rfl (OpP_val (zL na3 rfl (hS.sat.cell (hcG58 3 _ rfl))) rfl ?_); refine ⟨fun _ _ => ⟨hS.sat, hO⟩, ?_⟩; refine zE rfl rfl (OpP_val (rn_min rfl rfl) rfl ?_); refine ⟨fun _ _ => ⟨hS.sat, hO⟩, ?_⟩; obtain ⟨b64, ob64, hab64⟩ := nest_at (L1 := []) hO hqb60 hy62; refine zE rfl rfl (OpP_val (rn_idxR sl29 hab64 hy62 rfl rfl rfl) rfl ?_)
     refine ⟨fun _ h => noneed (by kernel_rfl) h, ?_⟩
     obtain ⟨y65, hy65, H⟩ := bnd H; obtain ⟨y66, hy66, H⟩ := bnd H; refine zE rfl rfl (OpP_storeN (L1 := []) sz3 hS hO hs45_0 hqb60 hab64 hy65 hy66 rfl rfl (fun w67 Iw67 hS hO hiw67 hlw67 => ?_))
     have hO : Owns G58 w67 w0.heap.size (((nest 29 3 as45_0 ns45_0 cs45_0 Iw67))) := hO
     refine ⟨fun _ h => noneed (by kernel_rfl) h, ?_⟩
     refine zI ?_; have hS := hS.keep (below_drew _); have hO := hO.below (below_drew _)
     refine WC_regionD mixedO (fun _ w => Sat G58 w ∧ Owns G58 w w0.heap.size ((nest 29 3 as45_0 ns45_0 cs45_0 Iw67))) (.fl 0 (.fl 1 (.fl 2 (.fl 3 (.fl 4 (.fl 5 (.fl 6 (.fl 7 (.fl 8 (.fl 9 (.fl 10 (.fl 11 (.fl 12 (.fl 13 (.fl 14 (.fl 15 (.on 16 (.on 17 (.on 18 (.on 19 (.on 20 (.on 21 (.on 22 .nil))))))))))))))))))))))) (by kernel_rfl) rfl (by kernel_rfl) (fun _ => ⟨hS.sat, hO⟩) ?_
     refine zD rfl (fun w hw => zm (v := (.slice as45_0 ns45_0 cs45_0)) rfl) rfl ?_; refine zD rfl (fun w hw => zF fd46_1 rfl) rfl ?_; refine zD rfl (fun w hw => zL na3 rfl (hw.1.cell (hcG58 1 _ rfl))) rfl ?_; obtain ⟨y68, hy68, H⟩ := bnd H; obtain ⟨aqb69, cqb69, hqb69, hqxb69⟩ := nest_ix hiw67 hy68; refine WD_idxO rfl sl86 hO (k := 0) rfl ((Eq.trans hnhs45_0 hlw67.symm).trans (List.length_map ..).symm) (nest_rd _) hqxb69 rfl rfl rfl ?_
     rintro b69 ob69 _ hb69 _ hcb69 ⟨rfl, _⟩
     refine zD rfl (fun w hw => zL na29 rfl (zH hw.2 (k := 0) rfl hb69 _ 0 (hcb69 0 _ rfl))) rfl ?_; refine zD rfl (fun w hw => zF fd46_0 rfl) rfl ?_; refine zD rfl (fun w hw => zL na3 rfl (hw.1.cell (hcG58 0 _ rfl))) rfl ?_; refine zD rfl (fun w hw => zm (v := (.slice as45_0 ns45_0 cs45_0)) rfl) rfl ?_; refine zD rfl (fun w hw => zF fd46_1 rfl) rfl ?_; refine zD rfl (fun w hw => zL na3 rfl (hw.1.cell (hcG58 1 _ rfl))) rfl ?_; obtain ⟨aqb70, cqb70, hqb70, hqxb70⟩ := nest_ix hiw67 hy68; refine WD_idxO rfl sl86 hO (k := 0) rfl ((Eq.trans hnhs45_0 hlw67.symm).trans (List.length_map ..).symm) (nest_rd _) hqxb70 rfl rfl rfl ?_
     rintro b70 ob70 _ hb70 _ hcb70 ⟨rfl, _⟩
     refine zD rfl (fun w hw => zL na29 rfl (zH hw.2 (k := 0) rfl hb70 _ 0 (hcb70 0 _ rfl))) rfl ?_; refine zD rfl (fun w hw => zF fd46_0 rfl) rfl ?_; refine zD rfl (fun w hw => zL na3 rfl (hw.1.cell (hcG58 0 _ rfl))) rfl ?_; obtain ⟨y71, hy71, H⟩ := bnd H; obtain ⟨b72, ob72, hab72⟩ := nest_at (L1 := []) hO hqb70 hy71; refine zD rfl (fun w hw => rn_idxR sl29 hab72 hy71 rfl rfl rfl) rfl ?_; refine zD rfl (fun w hw => zL na3 rfl (nest_cell (L1 := []) (hw.2) hqb70 hab72 hy71)) rfl ?_; refine zE rfl rfl (OpP_val (zF fd46_2 rfl) rfl ?_); refine ⟨fun _ _ => ⟨hS.sat, hO⟩, ?_⟩; refine zE rfl rfl (OpP_val (zF fd44_0 rfl) rfl ?_); refine ⟨fun _ _ => ⟨hS.sat, hO⟩, ?_⟩; refine zE rfl rfl (OpP_val (zL na3 rfl (hS.sat.cell (hcG58 2 _ rfl))) rfl ?_); refine ⟨fun _ _ => ⟨hS.sat, hO⟩, ?_⟩; refine zE rfl rfl (OpP_val (rn_neg rfl) rfl ?_); refine ⟨fun _ _ => ⟨hS.sat, hO⟩, ?_⟩; refine zE rfl rfl (OpP_val (rn_min rfl rfl) rfl ?_); refine ⟨fun _ _ => ⟨hS.sat, hO⟩, ?_⟩; obtain ⟨b73, ob73, hab73⟩ := nest_at (L1 := []) hO hqb69 hy71; refine zE rfl rfl (OpP_val (rn_idxR sl29 hab73 hy71 rfl rfl rfl) rfl ?_)
     refine ⟨fun _ h => noneed (by kernel_rfl) h, ?_⟩
     obtain ⟨y74, hy74, H⟩ := bnd H; obtain ⟨y75, hy75, H⟩ := bnd H; refine zE rfl rfl (OpP_storeN (L1 := []) sz3 hS hO hiw67 hqb69 hab73 hy74 hy75 rfl rfl (fun w76 Iw76 hS hO hiw76 hlw76 => ?_))
     have hO : Owns G58 w76 w0.heap.size (((nest 29 3 as45_0 ns45_0 cs45_0 Iw76))) := hO
     refine ⟨fun _ h => noneed (by kernel_rfl) h, ?_⟩
     refine zI ?_; refine zR ?_; refine zV (zm (v := (.int .i64 s45.2)) rfl) rfl ?_; refine zV (rn_add rfl rfl) rfl ?_; refine zV (zA (v := (.int .i64 (IntKind.i64.wrap (s45.2 + 1)))) rfl) rfl ?_; refine zN ?_
     have hO : Owns G58 w76 w0.heap.size (((nest 29 3 as45_0 ns45_0 cs45_0 Iw76))) := hO
     have H := oi H; subst H; refine ⟨_, rfl, ?_⟩
     have l2_4 := leG50.trans leG58
     exact ⟨_, G58, as45_0, ns45_0, cs45_0, Iw76, upds_self _ _ ⟨rfl, rfl, rfl, rfl, trivial⟩, l2_4, hS, hO, (Eq.trans (Eq.trans hnhs45_0 hlw67.symm) hlw76.symm), hiw76⟩
    ·have H := ifF hb51 H; refine WC_exit rfl ?_
     have hO : Owns G50 w49 w0.heap.size (((nest 29 3 as45_0 ns45_0 cs45_0 Ias45_0))) := hO
     have H := oi H; subst H
     have hres := hqq47 _ rfl
     subst hres
     exact ⟨_, G50, as45_0, ns45_0, cs45_0, Ias45_0, upds_self _ _ ⟨rfl, rfl, trivial⟩, leG50, hS, hO, hnhs45_0, hs45_0⟩
  ·rintro F w77 ⟨Fb, G78, aq47_0, nq47_0, cq47_0, Iaq47_0, rfl, leG78, hS, hO, hnhq47_0, hq47_0⟩
   refine zQ ?_; refine zS ?_; refine zV (zA (v := (.int .i64 0)) rfl) rfl ?_; refine zN ?_; obtain ⟨q81, hq81, H⟩ := bnd H; refine zM (fun F w => ∃ (Fb : Fr) (G : Gm) (aq81_0 : Option Addr) (nq81_0 cq81_0 : Nat) (Iaq81_0 : List NI), F = upds Fb [(4, .slice aq81_0 nq81_0 cq81_0)] ∧ Gle G78 G ∧ Since w0.heap.size G0 w0 G w ∧ Owns G w w0.heap.size ((nest 29 3 aq81_0 nq81_0 cq81_0 Iaq81_0)) ∧ nq81_0 = Iaq81_0.length ∧ nums Iaq81_0 = q81) ?_ ?_
   ·refine WC_block (WC_loop hq81 (fun s79 F w => ∃ (Fb : Fr) (G : Gm) (as79_0 : Option Addr) (ns79_0 cs79_0 : Nat) (Ias79_0 : List NI), F = upds Fb [(3, .int .i64 (x0.Events.length : Int)), (4, .slice as79_0 ns79_0 cs79_0), (11, .int .i64 s79.2)] ∧ Gle G78 G ∧ Since w0.heap.size G0 w0 G w ∧ Owns G w w0.heap.size ((nest 29 3 as79_0 ns79_0 cs79_0 Ias79_0)) ∧ ns79_0 = Ias79_0.length ∧ nums Ias79_0 = s79.1) ?_ ?_)
    ·have hO : Owns G78 w77 w0.heap.size (((nest 29 3 aq47_0 nq47_0 cq47_0 Iaq47_0))) := hO
     exact ⟨_, G78, aq47_0, nq47_0, cq47_0, Iaq47_0, upds_self _ _ ⟨rfl, rfl, rfl, trivial⟩, Gle.refl _, hS, hO, hnhq47_0, hq47_0⟩
    ·rintro s79 F w83 t82 ⟨Fb, G84, as79_0, ns79_0, cs79_0, Ias79_0, rfl, leG84, hS, hO, hnhs79_0, hs79_0⟩
     intro H1 hqq81
     have Hoq81 := H; have H := H1
     unfold f61_b3 at H
     refine zQ ?_; refine zS ?_; refine zV (zm (v := (.int .i64 s79.2)) rfl) rfl ?_; refine zV (zm (v := (.int .i64 (x0.Events.length : Int))) rfl) rfl ?_; refine zV (rn_leq rfl rfl) rfl ?_; refine zN ?_; refine zT rfl (fun hb85 => ?_) (fun hb85 => ?_)
     ·have H := ifT hb85 H; refine zP ?_; refine zQ ?_; refine WC_block ?_; refine zS ?_; refine zV (zA (v := (.int .i64 0)) rfl) rfl ?_; refine zN ?_; obtain ⟨q88, hq88, H⟩ := bnd H; refine zM (fun F w => ∃ (Fb : Fr) (G : Gm) (aq88_0 : Option Addr) (nq88_0 cq88_0 : Nat) (Iaq88_0 : List NI), F = upds Fb [(3, .int .i64 (x0.Events.length : Int)), (4, .slice aq88_0 nq88_0 cq88_0), (11, .int .i64 s79.2)] ∧ Gle G84 G ∧ Since w0.heap.size G0 w0 G w ∧ Owns G w w0.heap.size ((nest 29 3 aq88_0 nq88_0 cq88_0 Iaq88_0)) ∧ nq88_0 = Iaq88_0.length ∧ nums Iaq88_0 = q88) ?_ ?_
      ·refine WC_block (WC_loop hq88 (fun s86 F w => ∃ (Fb : Fr) (G : Gm) (as86_0 : Option Addr) (ns86_0 cs86_0 : Nat) (Ias86_0 : List NI), F = upds Fb [(3, .int .i64 (x0.Events.length : Int)), (4, .slice as86_0 ns86_0 cs86_0), (11, .int .i64 s79.2), (12, .int .i64 s86.2)] ∧ Gle G84 G ∧ Since w0.heap.size G0 w0 G w ∧ Owns G w w0.heap.size ((nest 29 3 as86_0 ns86_0 cs86_0 Ias86_0)) ∧ ns86_0 = Ias86_0.length ∧ nums Ias86_0 = s86.1) ?_ ?_)
       ·have hO : Owns G84 w83 w0.heap.size (((nest 29 3 as79_0 ns79_0 cs79_0 Ias79_0))) := hO
        exact ⟨_, G84, as79_0, ns79_0, cs79_0, Ias79_0, upds_self _ _ ⟨rfl, rfl, rfl, rfl, trivial⟩, Gle.refl _, hS, hO, hnhs79_0, hs79_0⟩
       ·rintro s86 F w90 t89 ⟨Fb, G91, as86_0, ns86_0, cs86_0, Ias86_0, rfl, leG91, hS, hO, hnhs86_0, hs86_0⟩
        intro H1 hqq88
        have Hoq88 := H; have H := H1
        unfold f61_b4 at H
        refine zQ ?_; refine zS ?_; refine zV (zm (v := (.int .i64 s86.2)) rfl) rfl ?_; refine zV (zm (v := (.int .i64 (x0.Events.length : Int))) rfl) rfl ?_; refine zV (rn_leq rfl rfl) rfl ?_; refine zN ?_; refine zT rfl (fun hb92 => ?_) (fun hb92 => ?_)
        ·have H := ifT hb92 H; refine zP ?_; refine zQ ?_; refine WC_block ?_; refine zS ?_; refine zV (zA (v := (.int .i64 0)) rfl) rfl ?_; refine zN ?_; obtain ⟨q95, hq95, H⟩ := bnd H; refine zM (fun F w => ∃ (Fb : Fr) (G : Gm) (aq95_0 : Option Addr) (nq95_0 cq95_0 : Nat) (Iaq95_0 : List NI), F = upds Fb [(3, .int .i64 (x0.Events.length : Int)), (4, .slice aq95_0 nq95_0 cq95_0), (11, .int .i64 s79.2), (12, .int .i64 s86.2)] ∧ Gle G91 G ∧ Since w0.heap.size G0 w0 G w ∧ Owns G w w0.heap.size ((nest 29 3 aq95_0 nq95_0 cq95_0 Iaq95_0)) ∧ nq95_0 = Iaq95_0.length ∧ nums Iaq95_0 = q95) ?_ ?_
         ·refine WC_block (WC_loop hq95 (fun s93 F w => ∃ (Fb : Fr) (G : Gm) (as93_0 : Option Addr) (ns93_0 cs93_0 : Nat) (Ias93_0 : List NI), F = upds Fb [(3, .int .i64 (x0.Events.length : Int)), (4, .slice as93_0 ns93_0 cs93_0), (11, .int .i64 s79.2), (12, .int .i64 s86.2), (13, .int .i64 s93.2)] ∧ Gle G91 G ∧ Since w0.heap.size G0 w0 G w ∧ Owns G w w0.heap.size ((nest 29 3 as93_0 ns93_0 cs93_0 Ias93_0)) ∧ ns93_0 = Ias93_0.length ∧ nums Ias93_0 = s93.1) ?_ ?_)
          ·have hO : Owns G91 w90 w0.heap.size (((nest 29 3 as86_0 ns86_0 cs86_0 Ias86_0))) := hO
           exact ⟨_, G91, as86_0, ns86_0, cs86_0, Ias86_0, upds_self _ _ ⟨rfl, rfl, rfl, rfl, rfl, trivial⟩, Gle.refl _, hS, hO, hnhs86_0, hs86_0⟩
          ·rintro s93 F w97 t96 ⟨Fb, G98, as93_0, ns93_0, cs93_0, Ias93_0, rfl, leG98, hS, hO, hnhs93_0, hs93_0⟩
           intro H1 hqq95
           have Hoq95 := H; have H := H1
           unfold f61_b5 at H
           refine zQ ?_; refine zS ?_; refine zV (zm (v := (.int .i64 s93.2)) rfl) rfl ?_; refine zV (zm (v := (.int .i64 (x0.Events.length : Int))) rfl) rfl ?_; refine zV (rn_leq rfl rfl) rfl ?_; refine zN ?_; refine zT rfl (fun hb99 => ?_) (fun hb99 => ?_)
           ·have H := ifT hb99 H; refine zP ?_; refine zQ ?_; refine WC_block ?_; have hS := hS.keep (below_drew _); have hO := hO.below (below_drew _)
            refine WC_regionD mixedO (fun _ w => Sat G98 w ∧ Owns G98 w w0.heap.size ((nest 29 3 as93_0 ns93_0 cs93_0 Ias93_0))) (.fl 0 (.fl 1 (.fl 2 (.fl 3 (.fl 4 (.fl 5 (.fl 6 (.fl 7 (.fl 8 (.fl 9 (.fl 10 (.fl 11 (.fl 12 (.fl 13 (.fl 14 (.fl 15 (.fl 16 (.fl 17 (.fl 18 (.fl 19 (.fl 20 (.fl 21 (.fl 22 (.on 23 (.on 24 (.on 25 (.on 26 (.on 27 (.on 28 (.on 29 .nil)))))))))))))))))))))))))))))) (by kernel_rfl) rfl (by kernel_rfl) (fun _ => ⟨hS.sat, hO⟩) ?_
            refine zD rfl (fun w hw => zm (v := (.slice as93_0 ns93_0 cs93_0)) rfl) rfl ?_; refine zD rfl (fun w hw => zm (v := (.int .i64 s86.2)) rfl) rfl ?_; obtain ⟨y100, hy100, H⟩ := bnd H; obtain ⟨aqb101, cqb101, hqb101, hqxb101⟩ := nest_ix hs93_0 hy100; refine WD_idxO rfl sl86 hO (k := 0) rfl (hnhs93_0.trans (List.length_map ..).symm) (nest_rd _) hqxb101 rfl rfl rfl ?_
            rintro b101 ob101 _ hb101 _ hcb101 ⟨rfl, _⟩
            refine zD rfl (fun w hw => zL na29 rfl (zH hw.2 (k := 0) rfl hb101 _ 0 (hcb101 0 _ rfl))) rfl ?_; refine zD rfl (fun w hw => zm (v := (.int .i64 s93.2)) rfl) rfl ?_; refine zD rfl (fun w hw => zm (v := (.slice as93_0 ns93_0 cs93_0)) rfl) rfl ?_; refine zD rfl (fun w hw => zm (v := (.int .i64 s86.2)) rfl) rfl ?_; obtain ⟨aqb102, cqb102, hqb102, hqxb102⟩ := nest_ix hs93_0 hy100; refine WD_idxO rfl sl86 hO (k := 0) rfl (hnhs93_0.trans (List.length_map ..).symm) (nest_rd _) hqxb102 rfl rfl rfl ?_
            rintro b102 ob102 _ hb102 _ hcb102 ⟨rfl, _⟩
            refine zD rfl (fun w hw => zL na29 rfl (zH hw.2 (k := 0) rfl hb102 _ 0 (hcb102 0 _ rfl))) rfl ?_; refine zD rfl (fun w hw => zm (v := (.int .i64 s93.2)) rfl) rfl ?_; obtain ⟨y103, hy103, H⟩ := bnd H; obtain ⟨b104, ob104, hab104⟩ := nest_at (L1 := []) hO hqb102 hy103; refine zD rfl (fun w hw => rn_idxR sl29 hab104 hy103 rfl rfl rfl) rfl ?_; refine zD rfl (fun w hw => zL na3 rfl (nest_cell (L1 := []) (hw.2) hqb102 hab104 hy103)) rfl ?_; refine zD rfl (fun w hw => zm (v := (.slice as93_0 ns93_0 cs93_0)) rfl) rfl ?_; refine zD rfl (fun w hw => zm (v := (.int .i64 s86.2)) rfl) rfl ?_; obtain ⟨aqb105, cqb105, hqb105, hqxb105⟩ := nest_ix hs93_0 hy100; refine WD_idxO rfl sl86 hO (k := 0) rfl (hnhs93_0.trans (List.length_map ..).symm) (nest_rd _) hqxb105 rfl rfl rfl ?_
            rintro b105 ob105 _ hb105 _ hcb105 ⟨rfl, _⟩
            refine zD rfl (fun w hw => zL na29 rfl (zH hw.2 (k := 0) rfl hb105 _ 0 (hcb105 0 _ rfl))) rfl ?_; refine zD rfl (fun w hw => zm (v := (.int .i64 s79.2)) rfl) rfl ?_; obtain ⟨y106, hy106, H⟩ := bnd H; obtain ⟨b107, ob107, hab107⟩ := nest_at (L1 := []) hO hqb105 hy106; refine zD rfl (fun w hw => rn_idxR sl29 hab107 hy106 rfl rfl rfl) rfl ?_; refine zD rfl (fun w hw => zL na3 rfl (nest_cell (L1 := []) (hw.2) hqb105 hab107 hy106)) rfl ?_; refine zD rfl (fun w hw => zm (v := (.slice as93_0 ns93_0 cs93_0)) rfl) rfl ?_; refine zD rfl (fun w hw => zm (v := (.int .i64 s79.2)) rfl) rfl ?_; obtain ⟨y108, hy108, H⟩ := bnd H; obtain ⟨aqb109, cqb109, hqb109, hqxb109⟩ := nest_ix hs93_0 hy108; refine WD_idxO rfl sl86 hO (k := 0) rfl (hnhs93_0.trans (List.length_map ..).symm) (nest_rd _) hqxb109 rfl rfl rfl ?_
            rintro b109 ob109 _ hb109 _ hcb109 ⟨rfl, _⟩
            refine zD rfl (fun w hw => zL na29 rfl (zH hw.2 (k := 0) rfl hb109 _ 0 (hcb109 0 _ rfl))) rfl ?_; refine zE rfl rfl (OpP_val (zm (v := (.int .i64 s93.2)) rfl) rfl ?_); refine ⟨fun _ _ => ⟨hS.sat, hO⟩, ?_⟩; obtain ⟨y110, hy110, H⟩ := bnd H; obtain ⟨b111, ob111, hab111⟩ := nest_at (L1 := []) hO hqb109 hy110; refine zE rfl rfl (OpP_val (rn_idxR sl29 hab111 hy110 rfl rfl rfl) rfl ?_); refine ⟨fun _ _ => ⟨hS.sat, hO⟩, ?_⟩; refine zE rfl rfl (OpP_val (zL na3 rfl (nest_cell (L1 := []) (hO) hqb109 hab111 hy110)) rfl ?_); refine ⟨fun _ _ => ⟨hS.sat, hO⟩, ?_⟩; refine zE rfl rfl (OpP_val (rn_add rfl rfl) rfl ?_); refine ⟨fun _ _ => ⟨hS.sat, hO⟩, ?_⟩; refine zE rfl rfl (OpP_val (rn_min rfl rfl) rfl ?_); refine ⟨fun _ _ => ⟨hS.sat, hO⟩, ?_⟩; obtain ⟨b112, ob112, hab112⟩ := nest_at (L1 := []) hO hqb101 hy103; refine zE rfl rfl (OpP_val (rn_idxR sl29 hab112 hy103 rfl rfl rfl) rfl ?_)
            refine ⟨fun _ h => noneed (by kernel_rfl) h, ?_⟩
            obtain ⟨y113, hy113, H⟩ := bnd H; obtain ⟨y114, hy114, H⟩ := bnd H; refine zE rfl rfl (OpP_storeN (L1 := []) sz3 hS hO hs93_0 hqb101 hab112 hy113 hy114 rfl rfl (fun w115 Iw115 hS hO hiw115 hlw115 => ?_))
            have hO : Owns G98 w115 w0.heap.size (((nest 29 3 as93_0 ns93_0 cs93_0 Iw115))) := hO
            refine ⟨fun _ h => noneed (by kernel_rfl) h, ?_⟩
            refine zI ?_; refine zR ?_; refine zV (zm (v := (.int .i64 s93.2)) rfl) rfl ?_; refine zV (rn_add rfl rfl) rfl ?_; refine zV (zA (v := (.int .i64 (IntKind.i64.wrap (s93.2 + 1)))) rfl) rfl ?_; refine zN ?_
            have hO : Owns G98 w115 w0.heap.size (((nest 29 3 as93_0 ns93_0 cs93_0 Iw115))) := hO
            have H := oi H; subst H; refine ⟨_, rfl, ?_⟩
            exact ⟨_, G98, as93_0, ns93_0, cs93_0, Iw115, upds_self _ _ ⟨rfl, rfl, rfl, rfl, rfl, trivial⟩, leG98, hS, hO, (Eq.trans hnhs93_0 hlw115.symm), hiw115⟩
           ·have H := ifF hb99 H; refine WC_exit rfl ?_
            have hO : Owns G98 w97 w0.heap.size (((nest 29 3 as93_0 ns93_0 cs93_0 Ias93_0))) := hO
            have H := oi H; subst H
            have hres := hqq95 _ rfl
            subst hres
            exact ⟨_, G98, as93_0, ns93_0, cs93_0, Ias93_0, upds_self _ _ ⟨rfl, rfl, rfl, rfl, trivial⟩, leG98, hS, hO, hnhs93_0, hs93_0⟩
         ·rintro F w116 ⟨Fb, G117, aq95_0, nq95_0, cq95_0, Iaq95_0, rfl, leG117, hS, hO, hnhq95_0, hq95_0⟩
          refine zR ?_; refine zV (zm (v := (.int .i64 s86.2)) rfl) rfl ?_; refine zV (rn_add rfl rfl) rfl ?_; refine zV (zA (v := (.int .i64 (IntKind.i64.wrap (s86.2 + 1)))) rfl) rfl ?_; refine zN ?_
          have hO : Owns G117 w116 w0.heap.size (((nest 29 3 aq95_0 nq95_0 cq95_0 Iaq95_0))) := hO
          have H := oi H; subst H; refine ⟨_, rfl, ?_⟩
          have l4_6 := leG91.trans leG117
          exact ⟨_, G117, aq95_0, nq95_0, cq95_0, Iaq95_0, upds_self _ _ ⟨rfl, rfl, rfl, rfl, trivial⟩, l4_6, hS, hO, hnhq95_0, hq95_0⟩
        ·have H := ifF hb92 H; refine WC_exit rfl ?_
         have hO : Owns G91 w90 w0.heap.size (((nest 29 3 as86_0 ns86_0 cs86_0 Ias86_0))) := hO
         have H := oi H; subst H
         have hres := hqq88 _ rfl
         subst hres
         exact ⟨_, G91, as86_0, ns86_0, cs86_0, Ias86_0, upds_self _ _ ⟨rfl, rfl, rfl, trivial⟩, leG91, hS, hO, hnhs86_0, hs86_0⟩
      ·rintro F w118 ⟨Fb, G119, aq88_0, nq88_0, cq88_0, Iaq88_0, rfl, leG119, hS, hO, hnhq88_0, hq88_0⟩
       refine zR ?_; refine zV (zm (v := (.int .i64 s79.2)) rfl) rfl ?_; refine zV (rn_add rfl rfl) rfl ?_; refine zV (zA (v := (.int .i64 (IntKind.i64.wrap (s79.2 + 1)))) rfl) rfl ?_; refine zN ?_
       have hO : Owns G119 w118 w0.heap.size (((nest 29 3 aq88_0 nq88_0 cq88_0 Iaq88_0))) := hO
       have H := oi H; subst H; refine ⟨_, rfl, ?_⟩
       have l3_5 := leG84.trans leG119
       exact ⟨_, G119, aq88_0, nq88_0, cq88_0, Iaq88_0, upds_self _ _ ⟨rfl, rfl, rfl, trivial⟩, l3_5, hS, hO, hnhq88_0, hq88_0⟩
     ·have H := ifF hb85 H; refine WC_exit rfl ?_
      have hO : Owns G84 w83 w0.heap.size (((nest 29 3 as79_0 ns79_0 cs79_0 Ias79_0))) := hO
      have H := oi H; subst H
      have hres := hqq81 _ rfl
      subst hres
      exact ⟨_, G84, as79_0, ns79_0, cs79_0, Ias79_0, upds_self _ _ ⟨rfl, trivial⟩, leG84, hS, hO, hnhs79_0, hs79_0⟩
   ·rintro F w120 ⟨Fb, G121, aq81_0, nq81_0, cq81_0, Iaq81_0, rfl, leG121, hS, hO, hnhq81_0, hq81_0⟩
    refine zS ?_; refine zV (zm (v := (.slice aq81_0 nq81_0 cq81_0)) rfl) rfl ?_; refine zV (zA (v := (.slice aq81_0 nq81_0 cq81_0)) rfl) rfl ?_; refine zN ?_; refine WC_ret ?_; obtain ⟨G122, leG122, hS, hO, hfG122⟩ := nest_freeze (L1 := []) hS hO hq81_0 hnhq81_0
    have H : some q81 = some r := H
    have H := oi H; subst H
    exact ⟨_, _, rfl, hS.toGrow, _, _, _, rfl, hfG122⟩
set_option maxHeartbeats 1000000 in
theorem f19_ok {G0 : Gm} {w0 : World} (hS0 : Sat G0 w0) {x0 : TLandBook} {a1 : Option Addr} {n1 c1 : Nat} {a2 : Option Addr} {n2 c2 : Nat} {a3 : Option Addr} {n3 c3 : Nat} (h1 : RSl RTLandPerson 2 G0 a1 n1 c1 x0.People) (h2 : RSl RTLandEvent 2 G0 a2 n2 c2 x0.Events) (h3 : RSl RTLandMemory 4 G0 a3 n3 c3 x0.Memories) {r : Bool} (H : f19 x0 = some r) :
  Calls Tryd.prog 19 #[.agg #[.slice a1 n1 c1, .slice a2 n2 c2, .slice a3 n3 c3]] w0 (RetV w0 (.bool r)) := by
 have hS := Since.start hS0
 have hO : Owns G0 w0 w0.heap.size [] := Owns.nil (Nat.le_refl _)
 unfold f19 at H
 refine enter1 (N := 21) (shutV _ _) Tryd.func19 rfl rfl rfl rfl ?_; refine zS ?_; refine zO rfl (zW (v := fun b => .pointer (some ⟨b, 0, none⟩)) (cs := [.slice a1 n1 c1, .slice a2 n2 c2, .slice a3 n3 c3]) (e := 26) (rn_boxA rfl) hS.sat rfl (fun b4 G6 w5 hg hcb4 => ?_)); have hS := hS.grow hg; have hO := hO.grow hg
 have leG6 := hg.le
 refine zV (zA (v := (.bool false)) rfl) rfl ?_; refine zN ?_; refine zS ?_; refine zV (rn_loadA ag26 (cs := [.slice a1 n1 c1, .slice a2 n2 c2, .slice a3 n3 c3]) rfl rfl (fun j v hj => hS.sat.cell (hcb4.drop_take 0 3 j v hj))) rfl ?_; obtain ⟨y7, hy7, H⟩ := bnd H; refine zO rfl (OpP_callG cb61 (f61_ok (x0 := x0) hS.sat (h1.mono RTLandPerson_mono leG6) (h2.mono RTLandEvent_mono leG6) (h3.mono RTLandMemory_mono leG6) hy7) rfl rfl (fun vy7 G9 w8 hg hvy7 => ?_)); obtain ⟨a10, n10, c10, ⟨⟩, h10⟩ := hvy7; have hS := hS.grow hg; have hO := hO.grow hg
 have leG9 := hg.le
 refine zV (zA (v := (.slice a10 n10 c10)) rfl) rfl ?_; refine zN ?_; refine zQ ?_; refine zS ?_; refine zV (zA (v := (.int .i64 0)) rfl) rfl ?_; refine zN ?_; obtain ⟨q13, hq13, H⟩ := bnd H; refine zM (fun F w => ∃ (p12 : Unit) (Fb : Fr), q13 = .inl p12 ∧ F = upds Fb [] ∧ w8 = w) ?_ ?_
 ·refine WC_block (WC_loop hq13 (fun s11 F w => ∃ (Fb : Fr), F = upds Fb [(3, .slice a10 n10 c10), (4, .int .i64 s11)] ∧ w8 = w) ?_ ?_)
  ·exact ⟨_, upds_self _ _ ⟨rfl, rfl, trivial⟩, rfl⟩
  ·rintro s11 F wl t14 ⟨Fb, rfl, rfl⟩
   intro H1 hqq13
   have Hoq13 := H; have H := H1
   unfold f19_b0 at H
   refine zQ ?_; refine zS ?_; refine zV (zm (v := (.int .i64 s11)) rfl) rfl ?_; refine zV (zm (v := (.slice a10 n10 c10)) rfl) rfl ?_; refine zV (rn_len sl86 rfl rfl h10.1) rfl ?_; refine zV (rn_lss rfl rfl) rfl ?_; refine zN ?_; refine zT rfl (fun hb17 => ?_) (fun hb17 => ?_)
   ·have H := ifT hb17 H; refine zP ?_; refine zQ ?_; refine WC_block ?_; refine zS ?_; refine zV (zm (v := (.slice a10 n10 c10)) rfl) rfl ?_; refine zV (zm (v := (.int .i64 s11)) rfl) rfl ?_; obtain ⟨y18, hy18, H⟩ := bnd H; refine WL_idx sl86 h10 hy18 rfl rfl rfl ?_
    rintro b19 o19 _ hcb19 _ ⟨a20, n20, c20, ⟨⟩, h20⟩
    refine zV (zL na29 rfl (hS.sat.cell (hcb19 0 _ rfl))) rfl ?_; refine zV (zm (v := (.int .i64 s11)) rfl) rfl ?_; obtain ⟨y21, hy21, H⟩ := bnd H; refine WL_idx sl29 h20 hy21 rfl rfl rfl ?_
    rintro b22 o22 _ hcb22 _ ⟨⟩
    refine zV (zL na3 rfl (hS.sat.cell (hcb22 0 _ rfl))) rfl ?_; refine zV (rn_lss rfl rfl) rfl ?_; refine zN ?_; refine zT rfl (fun hb23 => ?_) (fun hb23 => ?_)
    ·have H := ifT hb23 H; refine zS ?_; refine zV (zA (v := (.bool false)) rfl) rfl ?_; refine zN ?_; refine WC_ret ?_; have H := oi H; subst H
     have hres := hqq13 _ rfl
     subst hres; have H := Hoq13
     have H : some false = some r := H
     have H := oi H; subst H
     exact ⟨rfl, hS.below⟩
    ·have H := ifF hb23 H; refine zP ?_; refine zR ?_; refine zV (zm (v := (.int .i64 s11)) rfl) rfl ?_; refine zV (rn_add rfl rfl) rfl ?_; refine zV (zA (v := (.int .i64 (IntKind.i64.wrap (s11 + 1)))) rfl) rfl ?_; refine zN ?_; have H := oi H; subst H; refine ⟨_, rfl, ?_⟩
     exact ⟨_, upds_self _ _ ⟨rfl, rfl, trivial⟩, rfl⟩
   ·have H := ifF hb17 H; refine WC_exit rfl ?_; have H := oi H; subst H
    have hres := hqq13 _ rfl
    subst hres
    exact ⟨_, _, rfl, rfl, rfl⟩
 ·rintro F wl ⟨p12, Fb, rfl, rfl, rfl⟩
  refine zS ?_; refine zV (zA (v := (.bool true)) rfl) rfl ?_; refine zN ?_; refine WC_ret ?_
  have H : some true = some r := H
  have H := oi H; subst H
  exact ⟨rfl, hS.below⟩
set_option maxHeartbeats 1000000 in
theorem f82_ok {G0 : Gm} {w0 : World} (hS0 : Sat G0 w0) {x0 : (List Int)} {a1 : Option Addr} {n1 c1 : Nat} {x1 : (Int → Option Bool)} {k2 : Nat} {fi2 ca2 : List Value} (h1 : RSl RInt 1 G0 a1 n1 c1 x0) (hf2 : FnOk42 G0 k2 fi2 ca2 x1) {r : Int} (H : f82 x0 x1 = some r) :
  Calls Tryd.prog 82 #[.slice a1 n1 c1, .func (.func k2) (fi2).toArray (ca2).toArray] w0 (RetV w0 (.int .i64 r)) := by
 have hS := Since.start hS0
 have hO : Owns G0 w0 w0.heap.size [] := Owns.nil (Nat.le_refl _)
 unfold f82 at H
 refine enter1 (N := 19) (shutV _ _) Tryd.func82 rfl rfl rfl rfl ?_; refine zS ?_; refine zV (zA (v := (.int .i64 0)) rfl) rfl ?_; refine zN ?_; refine zQ ?_; refine zS ?_; refine zV (zm (v := (.slice a1 n1 c1)) rfl) rfl ?_; refine zV (rn_len sl29 rfl rfl h1.1) rfl ?_; refine zV (zm (v := (.int .i64 0)) rfl) rfl ?_; refine zN ?_; obtain ⟨q5, hq5, H⟩ := bnd H; refine zM (fun F w => ∃ (p4 : Unit) (Fb : Fr) (G : Gm), q5 = .inl p4 ∧ F = upds Fb [] ∧ Gle G0 G ∧ Since w0.heap.size G0 w0 G w ∧ Owns G w w0.heap.size []) ?_ ?_
 ·refine WC_block (WC_loop hq5 (fun s3 F w => ∃ (Fb : Fr) (G : Gm), F = upds Fb [(0, .slice a1 n1 c1), (1, .func (.func k2) (fi2).toArray (ca2).toArray), (7, .int .i64 (x0.length : Int)), (8, .int .i64 s3)] ∧ Gle G0 G ∧ Since w0.heap.size G0 w0 G w ∧ Owns G w w0.heap.size []) ?_ ?_)
  ·have hO : Owns G0 w0 w0.heap.size ([]) := hO
   exact ⟨_, G0, upds_self _ _ ⟨rfl, rfl, rfl, rfl, trivial⟩, Gle.refl _, hS, hO⟩
  ·rintro s3 F w7 t6 ⟨Fb, G8, rfl, leG8, hS, hO⟩
   intro H1 hqq5
   have Hoq5 := H; have H := H1
   unfold f82_b0 at H
   refine zS ?_; refine zV (rn_lss rfl rfl) rfl ?_; refine zN ?_; refine zQ ?_; refine zT rfl (fun hb9 => ?_) (fun hb9 => ?_)
   ·have H := ifT hb9 H; refine zP ?_; refine zQ ?_; refine WC_block ?_; refine zS ?_; refine zV (zm (v := (.int .i64 s3)) rfl) rfl ?_; refine zV (zA (v := (.int .i64 s3)) rfl) rfl ?_; refine zN ?_; refine zS ?_; refine zV (zm (v := (.func (.func k2) (fi2).toArray (ca2).toArray)) rfl) rfl ?_; refine zV (zm (v := (.slice a1 n1 c1)) rfl) rfl ?_; refine zV (zm (v := (.int .i64 s3)) rfl) rfl ?_; obtain ⟨y10, hy10, H⟩ := bnd H; refine WL_idx sl29 (h1.mono RInt_mono leG8) hy10 rfl rfl rfl ?_
    rintro b11 o11 _ hcb11 _ ⟨⟩
    refine zV (zL na3 rfl (hS.sat.cell (hcb11 0 _ rfl))) rfl ?_; obtain ⟨y12, hy12, H⟩ := bnd H; refine zO rfl (OpP_callVF hf2.1 (hf2.2 _ _ leG8 hS.sat y10 _  hy12) rfl rfl rfl (fun w13 hb => ?_)); have hS := hS.keep hb; have hO := hO.below hb; refine zN ?_; refine zT rfl (fun hb14 => ?_) (fun hb14 => ?_)
    ·have H := ifT hb14 H; refine zS ?_; refine zV (zm (v := (.int .i64 s3)) rfl) rfl ?_; refine zV (zA (v := (.int .i64 s3)) rfl) rfl ?_; refine zN ?_; refine WC_ret ?_; have H := oi H; subst H
     have hres := hqq5 _ rfl
     subst hres; have H := Hoq5
     have H : some s3 = some r := H
     have H := oi H; subst H
     exact ⟨rfl, hS.below⟩
    ·have H := ifF hb14 H; refine zP ?_; refine zR ?_; refine zV (rn_add rfl rfl) rfl ?_; refine zV (zm (v := (.int .i64 (IntKind.i64.wrap (s3 + 1)))) rfl) rfl ?_; refine zN ?_
     have hO : Owns G8 w13 w0.heap.size ([]) := hO
     have H := oi H; subst H; refine ⟨_, rfl, ?_⟩
     exact ⟨_, G8, upds_self _ _ ⟨rfl, rfl, rfl, rfl, trivial⟩, leG8, hS, hO⟩
   ·have H := ifF hb9 H; refine WC_exit rfl ?_
    have hO : Owns G8 w7 w0.heap.size ([]) := hO
    have H := oi H; subst H
    have hres := hqq5 _ rfl
    subst hres
    exact ⟨_, _, G8, rfl, rfl, leG8, hS, hO⟩
 ·rintro F w15 ⟨p4, Fb, G16, rfl, rfl, leG16, hS, hO⟩
  refine zS ?_; refine zV (zA (v := (.int .i64 (-1))) rfl) rfl ?_; refine zN ?_; refine WC_ret ?_
  have H : some (-1) = some r := H
  have H := oi H; subst H
  exact ⟨rfl, hS.below⟩
set_option maxHeartbeats 1000000 in
theorem f64_ok {G0 : Gm} {w0 : World} (hS0 : Sat G0 w0) {x0 : (List Int)} {a1 : Option Addr} {n1 c1 : Nat} {x1 : (Int → Option Bool)} {k2 : Nat} {fi2 ca2 : List Value} (h1 : RSl RInt 1 G0 a1 n1 c1 x0) (hf2 : FnOk42 G0 k2 fi2 ca2 x1) {r : Bool} (H : f64 x0 x1 = some r) :
  Calls Tryd.prog 64 #[.slice a1 n1 c1, .func (.func k2) (fi2).toArray (ca2).toArray] w0 (RetV w0 (.bool r)) := by
 have hS := Since.start hS0
 have hO : Owns G0 w0 w0.heap.size [] := Owns.nil (Nat.le_refl _)
 unfold f64 at H
 refine enter1 (N := 9) (shutV _ _) Tryd.func64 rfl rfl rfl rfl ?_; refine zS ?_; refine zV (zA (v := (.bool false)) rfl) rfl ?_; refine zN ?_; refine zS ?_; refine zV (zm (v := (.slice a1 n1 c1)) rfl) rfl ?_; refine zV (zm (v := (.func (.func k2) (fi2).toArray (ca2).toArray)) rfl) rfl ?_; obtain ⟨y3, hy3, H⟩ := bnd H; refine zO rfl (zC cb82 (f82_ok (x0 := x0) (x1 := x1) hS.sat h1 hf2 hy3) rfl rfl (fun w4 hb => ?_)); have hS := hS.keep hb; have hO := hO.below hb; refine zV (rn_geq rfl rfl) rfl ?_; refine zV (zA (v := (.bool (decide (0 ≤ y3)))) rfl) rfl ?_; refine zN ?_; refine WC_ret ?_
 have H : some (decide (0 ≤ y3)) = some r := H
 have H := oi H; subst H
 exact ⟨rfl, hS.below⟩
set_option maxHeartbeats 1000000 in
theorem f65_ok {G0 : Gm} {w0 : World} (hS0 : Sat G0 w0) {x0 : Int}  {r : Bool} (H : f65 x0 = some r) :
  Calls Tryd.prog 65 #[.int .i64 x0] w0 (RetV w0 (.bool r)) := by
 have hS := Since.start hS0
 have hO : Owns G0 w0 w0.heap.size [] := Owns.nil (Nat.le_refl _)
 unfold f65 at H
 refine enter1 (N := 6) (shutV _ _) Tryd.func65 rfl rfl rfl rfl ?_; refine zS ?_; refine zV (zA (v := (.bool false)) rfl) rfl ?_; refine zN ?_; refine zS ?_; refine zV (zm (v := (.int .i64 x0)) rfl) rfl ?_; obtain ⟨y1, hy1, H⟩ := bnd H; refine zO rfl (zC cb66 (f66_ok (x0 := x0) (x1 := 0) (x2 := 1000) hS.sat  hy1) rfl rfl (fun w2 hb => ?_)); have hS := hS.keep hb; have hO := hO.below hb; refine zV (rn_not rfl) rfl ?_; refine zV (zA (v := (.bool (!y1))) rfl) rfl ?_; refine zN ?_; refine WC_ret ?_
 have H : some (!y1) = some r := H
 have H := oi H; subst H
 exact ⟨rfl, hS.below⟩
set_option maxHeartbeats 1000000 in
theorem f68_ok {G0 : Gm} {w0 : World} (hS0 : Sat G0 w0) {x0 : TLandMemory} {x1 : (List Int)} {bq1 : Nat} {a1 : Option Addr} {n1 c1 : Nat} (hcq1 : Cells G0 bq1 0 [.slice a1 n1 c1]) (h1 : RSl RInt 1 G0 a1 n1 c1 x1) {r : Bool} (H : f68 x0 x1 = some r) :
  Calls Tryd.prog 68 #[.agg #[.int .i64 x0.From, .int .i64 x0.To, .int .i64 x0.Years.Low, .int .i64 x0.Years.High], .pointer (some ⟨bq1, 0, none⟩)] w0 (RetV w0 (.bool r)) := by
 have hS := Since.start hS0
 have hO : Owns G0 w0 w0.heap.size [] := Owns.nil (Nat.le_refl _)
 unfold f68 at H
 refine enter1 (N := 23) (shutV _ _) Tryd.func68 rfl rfl rfl rfl ?_; refine zS ?_; refine zO rfl (zW (v := fun b => .pointer (some ⟨b, 0, none⟩)) (cs := [.int .i64 x0.From, .int .i64 x0.To, .int .i64 x0.Years.Low, .int .i64 x0.Years.High]) (e := 46) (rn_boxA rfl) hS.sat rfl (fun b2 G4 w3 hg hcb2 => ?_)); have hS := hS.grow hg; have hO := hO.grow hg
 have leG4 := hg.le
 refine zV (zA (v := (.bool false)) rfl) rfl ?_; refine zN ?_; refine zQ ?_; have hS := hS.keep (below_drew _); have hO := hO.below (below_drew _)
 refine WC_regionD mixedO (fun _ w => Sat G4 w ∧ True) (.fl 0 (.fl 1 (.fl 2 (.fl 3 (.fl 4 (.fl 5 (.fl 6 (.fl 7 (.fl 8 (.fl 9 (.fl 10 (.fl 11 (.fl 12 (.fl 13 (.on 14 (.on 15 (.on 16 (.on 17 (.on 18 (.on 19 .nil)))))))))))))))))))) (by kernel_rfl) rfl (by kernel_rfl) (fun _ => ⟨hS.sat, trivial⟩) ?_
 refine zD rfl (fun w hw => zL na29 rfl ((hw.1.le leG4).cell (hcq1 0 _ rfl))) rfl ?_; refine zD rfl (fun w hw => zF fd46_1 rfl) rfl ?_; refine zD rfl (fun w hw => zL na3 rfl (hw.1.cell (hcb2 1 _ rfl))) rfl ?_; obtain ⟨y5, hy5, H⟩ := bnd H; refine WD_idx rfl sl29 (h1.mono RInt_mono leG4) hy5 rfl rfl rfl ?_
 rintro b6 o6 _ hcb6 _ ⟨⟩
 refine zD rfl (fun w hw => zL na3 rfl (hw.1.cell (hcb6 0 _ rfl))) rfl ?_; refine zD rfl (fun w hw => zL na29 rfl ((hw.1.le leG4).cell (hcq1 0 _ rfl))) rfl ?_; refine zD rfl (fun w hw => zF fd46_0 rfl) rfl ?_; refine zD rfl (fun w hw => zL na3 rfl (hw.1.cell (hcb2 0 _ rfl))) rfl ?_; obtain ⟨y7, hy7, H⟩ := bnd H; refine WD_idx rfl sl29 (h1.mono RInt_mono leG4) hy7 rfl rfl rfl ?_
 rintro b8 o8 _ hcb8 _ ⟨⟩
 refine zD rfl (fun w hw => zL na3 rfl (hw.1.cell (hcb8 0 _ rfl))) rfl ?_; refine zD rfl (fun w hw => rn_sub rfl rfl) rfl ?_; refine zD rfl (fun w hw => zF fd46_2 rfl) rfl ?_; refine zD rfl (fun w hw => zF fd44_0 rfl) rfl ?_; refine zD rfl (fun w hw => zL na3 rfl (hw.1.cell (hcb2 2 _ rfl))) rfl ?_; refine zE rfl rfl (OpP_val (zF fd46_2 rfl) rfl ?_); refine ⟨fun _ _ => ⟨hS.sat, trivial⟩, ?_⟩; refine zE rfl rfl (OpP_val (zF fd44_1 rfl) rfl ?_); refine ⟨fun _ _ => ⟨hS.sat, trivial⟩, ?_⟩; refine zE rfl rfl (OpP_val (zL na3 rfl (hS.sat.cell (hcb2 3 _ rfl))) rfl ?_); refine ⟨fun _ _ => ⟨hS.sat, trivial⟩, ?_⟩; obtain ⟨y9, hy9, H⟩ := bnd H; refine zE rfl rfl (zC cb66 (f66_ok (x0 := IntKind.i64.wrap (y5 - y7)) (x1 := x0.Years.Low) (x2 := x0.Years.High) hS.sat  hy9) rfl rfl (fun w10 hb => ?_)); have hS := hS.keep hb; have hO := hO.below hb
 refine ⟨fun _ h => noneed (by kernel_rfl) h, ?_⟩
 refine zE rfl rfl (OpP_val (rn_not rfl) rfl ?_)
 refine ⟨fun _ h => noneed (by kernel_rfl) h, ?_⟩
 refine zE rfl rfl (OpP_val (zA (v := (.bool (!y9))) rfl) rfl ?_)
 refine ⟨fun _ h => noneed (by kernel_rfl) h, ?_⟩
 refine zI ?_; refine WC_ret ?_
 have H : some (!y9) = some r := H
 have H := oi H; subst H
 exact ⟨rfl, hS.below⟩
set_option maxHeartbeats 1000000 in
theorem f27_ok {G0 : Gm} {w0 : World} (hS0 : Sat G0 w0) {x0 : TLandBook} {a1 : Option Addr} {n1 c1 : Nat} {a2 : Option Addr} {n2 c2 : Nat} {a3 : Option Addr} {n3 c3 : Nat} {x1 : (List Int)} {a4 : Option Addr} {n4 c4 : Nat} (h1 : RSl RTLandPerson 2 G0 a1 n1 c1 x0.People) (h2 : RSl RTLandEvent 2 G0 a2 n2 c2 x0.Events) (h3 : RSl RTLandMemory 4 G0 a3 n3 c3 x0.Memories) (h4 : RSl RInt 1 G0 a4 n4 c4 x1) {r : Bool × Int} (H : f27 x0 x1 = some r) :
  Calls Tryd.prog 27 #[.agg #[.slice a1 n1 c1, .slice a2 n2 c2, .slice a3 n3 c3], .slice a4 n4 c4] w0 (RetV w0 (.tuple #[.bool r.1, .int .i64 r.2])) := by
 have hS := Since.start hS0
 have hO : Owns G0 w0 w0.heap.size [] := Owns.nil (Nat.le_refl _)
 unfold f27 at H
 refine enter2 (N := 26) (shutV _ _) Tryd.func27 rfl rfl rfl rfl ?_; refine zS ?_; refine zO rfl (zW (v := fun b => .pointer (some ⟨b, 0, none⟩)) (cs := [.slice a1 n1 c1, .slice a2 n2 c2, .slice a3 n3 c3]) (e := 26) (rn_boxA rfl) hS.sat rfl (fun b5 G7 w6 hg hcb5 => ?_)); have hS := hS.grow hg; have hO := hO.grow hg
 have leG7 := hg.le
 refine zO rfl (zW (v := fun b => .pointer (some ⟨b, 0, none⟩)) (cs := [.slice a4 n4 c4]) (e := 29) (rn_box1 rfl rfl) hS.sat rfl (fun b8 G10 w9 hg hcb8 => ?_)); have hS := hS.grow hg; have hO := hO.grow hg
 have leG10 := hg.le
 refine zV (zA (v := (.bool false)) rfl) rfl ?_; refine zV (zA (v := (.int .i64 0)) rfl) rfl ?_; refine zN ?_; refine zQ ?_; refine zQ ?_; obtain ⟨q11, hq11, H⟩ := bnd H; refine zM (fun F w => ∃ (Fb : Fr) (G : Gm), F = upds Fb [(2, .pointer (some ⟨b5, 0, none⟩)), (3, .pointer (some ⟨b8, 0, none⟩)), (20, .bool q11)] ∧ Gle G10 G ∧ Since w0.heap.size G0 w0 G w ∧ Owns G w w0.heap.size []) ?_ ?_
 ·have Hoq11 := H; have H := hq11; refine zR ?_; refine zV (rn_loadA ag26 (cs := [.slice a1 n1 c1, .slice a2 n2 c2, .slice a3 n3 c3]) rfl rfl (fun j v hj => (hS.sat.le leG10).cell (hcb5.drop_take 0 3 j v hj))) rfl ?_; obtain ⟨y12, hy12, H⟩ := bnd H
  have l0_2 := leG7.trans leG10
  refine zO rfl (zC cb51 (f51_ok (x0 := x0) hS.sat (h1.mono RTLandPerson_mono l0_2) (h2.mono RTLandEvent_mono l0_2) (h3.mono RTLandMemory_mono l0_2) hy12) rfl rfl (fun w13 hb => ?_)); have hS := hS.keep hb; have hO := hO.below hb; refine zV (rn_not rfl) rfl ?_; refine zV (zm (v := (.bool (!y12))) rfl) rfl ?_
  rcases bcases (!y12) with hb14 | hb14
  ·have H := ifT hb14 H; refine zG rfl hb14 rfl rfl rfl ?_; refine zG rfl hb14 rfl rfl rfl ?_; refine zG rfl hb14 rfl rfl rfl ?_; refine zG rfl hb14 rfl rfl rfl ?_; refine zG rfl hb14 rfl rfl rfl ?_; refine zG rfl hb14 rfl rfl rfl ?_; refine zV (rn_pickT (v := (.bool true)) rfl hb14 rfl) rfl ?_; refine zV (zm (v := (.bool true)) rfl) rfl ?_; refine zG rfl rfl rfl rfl rfl ?_; refine zG rfl rfl rfl rfl rfl ?_; refine zV (rn_pickT (v := (.bool true)) rfl rfl rfl) rfl ?_; refine zN ?_
   have hO : Owns G10 w13 w0.heap.size ([]) := hO
   have H := oi H; subst H
   exact ⟨_, G10, upds_self _ _ ⟨rfl, rfl, rfl, trivial⟩, Gle.refl _, hS, hO⟩
  ·have H := ifF hb14 H; refine zY rfl hb14 rfl rfl ?_; refine zV (zL na29 rfl (hS.sat.cell (hcb8 0 _ rfl))) rfl ?_; refine zY rfl hb14 rfl rfl ?_; refine zV (rn_len sl29 rfl rfl (h4.mono RInt_mono l0_2).1) rfl ?_; refine zY rfl hb14 rfl rfl ?_; refine zV (zF fd26_1 rfl) rfl ?_; refine zY rfl hb14 rfl rfl ?_; refine zV (zL na23 rfl ((hS.sat.le leG10).cell (hcb5 1 _ rfl))) rfl ?_; refine zY rfl hb14 rfl rfl ?_; refine zV (rn_len sl23 rfl rfl (h2.mono RTLandEvent_mono l0_2).1) rfl ?_; refine zY rfl hb14 rfl rfl ?_; refine zV (rn_neq rfl rfl) rfl ?_; refine zV (rn_pickF (v := (.bool ((x1.length : Int) != (x0.Events.length : Int)))) rfl hb14 rfl) rfl ?_; refine zV (zm (v := (.bool ((x1.length : Int) != (x0.Events.length : Int)))) rfl) rfl ?_
   rcases bcases ((x1.length : Int) != (x0.Events.length : Int)) with hb15 | hb15
   ·have H := ifT hb15 H; refine zG rfl hb15 rfl rfl rfl ?_; refine zG rfl hb15 rfl rfl rfl ?_; refine zV (rn_pickT (v := (.bool true)) rfl hb15 rfl) rfl ?_; refine zN ?_
    have hO : Owns G10 w13 w0.heap.size ([]) := hO
    have H := oi H; subst H
    exact ⟨_, G10, upds_self _ _ ⟨rfl, rfl, rfl, trivial⟩, Gle.refl _, hS, hO⟩
   ·have H := ifF hb15 H; refine zY rfl hb15 rfl rfl ?_; refine zV (zL na29 rfl (hS.sat.cell (hcb8 0 _ rfl))) rfl ?_; refine zY rfl hb15 rfl rfl ?_
    have hF16 : FnOk42 G10 65 [] [] (fun (z0 : Int) => f65 z0) := ⟨cb65, fun G1 W1 hl hw z0 r1 H1 => f65_ok (x0 := z0) hw  H1⟩
    obtain ⟨y17, hy17, H⟩ := bnd H; refine zO rfl (zC cb64 (f64_ok (x0 := x1) (x1 := (fun (z0 : Int) => f65 z0)) hS.sat (h4.mono RInt_mono l0_2) hF16 hy17) rfl rfl (fun w18 hb => ?_)); have hS := hS.keep hb; have hO := hO.below hb; refine zV (rn_pickF (v := (.bool y17)) rfl hb15 rfl) rfl ?_; refine zN ?_
    have hO : Owns G10 w18 w0.heap.size ([]) := hO
    have H := oi H; subst H
    exact ⟨_, G10, upds_self _ _ ⟨rfl, rfl, rfl, trivial⟩, Gle.refl _, hS, hO⟩
 ·rintro F w19 ⟨Fb, G20, rfl, leG20, hS, hO⟩
  refine zT rfl (fun hb21 => ?_) (fun hb21 => ?_)
  ·have H := ifT hb21 H; refine zS ?_; refine zV (zA (v := (.bool false)) rfl) rfl ?_; refine zV (zA (v := (.int .i64 2)) rfl) rfl ?_; refine zN ?_; refine WC_ret ?_
   have H : some (false, 2) = some r := H
   have H := oi H; subst H
   exact ⟨rfl, hS.below⟩
  ·have H := ifF hb21 H; refine zP ?_; refine zS ?_; refine zV (zF fd26_2 rfl) rfl ?_
   have l1_3 := leG10.trans leG20
   refine zV (zL na24 rfl ((hS.sat.le l1_3).cell (hcb5 2 _ rfl))) rfl ?_
   have l0_3 := leG7.trans l1_3
   have hF22 : FnOk92 G20 68 [] [.pointer (some ⟨b8, 0, none⟩)] (fun (z0 : TLandMemory) => f68 z0 x1) := ⟨cb68, fun G1 W1 hl hw z0 r1 H1 => f68_ok (x0 := z0) (x1 := x1) hw ((hcb8.mono leG20).mono hl) ((h4.mono RInt_mono l0_3).mono RInt_mono hl) H1⟩
   refine zV (rn_func (vs := []) (us := [.pointer (some ⟨b8, 0, none⟩)]) rfl rfl) rfl ?_; obtain ⟨y23, hy23, H⟩ := bnd H; refine zO rfl (zC cb67 (f67_ok (x0 := x0.Memories) (x1 := (fun (z0 : TLandMemory) => f68 z0 x1)) hS.sat (h3.mono RTLandMemory_mono l0_3) hF22 hy23) rfl rfl (fun w24 hb => ?_)); have hS := hS.keep hb; have hO := hO.below hb; refine zV (rn_not rfl) rfl ?_; refine zV (zA (v := (.bool (!y23))) rfl) rfl ?_; refine zV (zA (v := (.int .i64 0)) rfl) rfl ?_; refine zN ?_; refine WC_ret ?_
   have H : some (!y23, 0) = some r := H
   have H := oi H; subst H
   exact ⟨rfl, hS.below⟩
set_option maxHeartbeats 1000000 in
theorem f29_ok {G0 : Gm} {w0 : World} (hS0 : Sat G0 w0) {x0 : TLandBook} {a1 : Option Addr} {n1 c1 : Nat} {a2 : Option Addr} {n2 c2 : Nat} {a3 : Option Addr} {n3 c3 : Nat} {x1 : (List Int)} {a4 : Option Addr} {n4 c4 : Nat} (h1 : RSl RTLandPerson 2 G0 a1 n1 c1 x0.People) (h2 : RSl RTLandEvent 2 G0 a2 n2 c2 x0.Events) (h3 : RSl RTLandMemory 4 G0 a3 n3 c3 x0.Memories) (h4 : RSl RInt 1 G0 a4 n4 c4 x1) {r : Bool} (H : f29 x0 x1 = some r) :
  Calls Tryd.prog 29 #[.agg #[.slice a1 n1 c1, .slice a2 n2 c2, .slice a3 n3 c3], .slice a4 n4 c4] w0 (RetV w0 (.bool r)) := by
 have hS := Since.start hS0
 have hO : Owns G0 w0 w0.heap.size [] := Owns.nil (Nat.le_refl _)
 unfold f29 at H
 refine enter1 (N := 24) (shutV _ _) Tryd.func29 rfl rfl rfl rfl ?_; refine zS ?_; refine zO rfl (zW (v := fun b => .pointer (some ⟨b, 0, none⟩)) (cs := [.slice a1 n1 c1, .slice a2 n2 c2, .slice a3 n3 c3]) (e := 26) (rn_boxA rfl) hS.sat rfl (fun b5 G7 w6 hg hcb5 => ?_)); have hS := hS.grow hg; have hO := hO.grow hg
 have leG7 := hg.le
 refine zV (zA (v := (.bool false)) rfl) rfl ?_; refine zN ?_; refine zQ ?_; refine zS ?_; refine zV (zA (v := (.int .i64 0)) rfl) rfl ?_; refine zN ?_; obtain ⟨q10, hq10, H⟩ := bnd H; refine zM (fun F w => ∃ (p9 : Unit) (Fb : Fr) (G : Gm), q10 = .inl p9 ∧ F = upds Fb [(1, .slice a4 n4 c4), (2, .pointer (some ⟨b5, 0, none⟩))] ∧ Gle G7 G ∧ Since w0.heap.size G0 w0 G w ∧ Owns G w w0.heap.size []) ?_ ?_
 ·refine WC_block (WC_loop hq10 (fun s8 F w => ∃ (Fb : Fr) (G : Gm), F = upds Fb [(1, .slice a4 n4 c4), (2, .pointer (some ⟨b5, 0, none⟩)), (5, .int .i64 s8)] ∧ Gle G7 G ∧ Since w0.heap.size G0 w0 G w ∧ Owns G w w0.heap.size []) ?_ ?_)
  ·have hO : Owns G7 w6 w0.heap.size ([]) := hO
   exact ⟨_, G7, upds_self _ _ ⟨rfl, rfl, rfl, trivial⟩, Gle.refl _, hS, hO⟩
  ·rintro s8 F w12 t11 ⟨Fb, G13, rfl, leG13, hS, hO⟩
   intro H1 hqq10
   have Hoq10 := H; have H := H1
   unfold f29_b0 at H
   refine zQ ?_; refine zS ?_; refine zV (zm (v := (.int .i64 s8)) rfl) rfl ?_; refine zV (zm (v := (.slice a4 n4 c4)) rfl) rfl ?_
   have l0_2 := leG7.trans leG13
   refine zV (rn_len sl29 rfl rfl (h4.mono RInt_mono l0_2).1) rfl ?_; refine zV (rn_lss rfl rfl) rfl ?_; refine zN ?_; refine zT rfl (fun hb14 => ?_) (fun hb14 => ?_)
   ·have H := ifT hb14 H; refine zP ?_; refine zQ ?_; refine WC_block ?_; refine zS ?_; refine zV (zm (v := (.slice a4 n4 c4)) rfl) rfl ?_; refine zV (zm (v := (.int .i64 s8)) rfl) rfl ?_; obtain ⟨y15, hy15, H⟩ := bnd H; refine WL_idx sl29 (h4.mono RInt_mono l0_2) hy15 rfl rfl rfl ?_
    rintro b16 o16 _ hcb16 _ ⟨⟩
    refine zV (zL na3 rfl (hS.sat.cell (hcb16 0 _ rfl))) rfl ?_; obtain ⟨y17, hy17, H⟩ := bnd H; refine zO rfl (zC cb60 (f60_ok (x0 := y15) (x1 := 0) (x2 := 1000) hS.sat  hy17) rfl rfl (fun w18 hb => ?_)); have hS := hS.keep hb; have hO := hO.below hb; refine zV (rn_not rfl) rfl ?_; refine zN ?_; refine zT rfl (fun hb19 => ?_) (fun hb19 => ?_)
    ·have H := ifT hb19 H; refine zS ?_; refine zV (zA (v := (.bool false)) rfl) rfl ?_; refine zN ?_; refine WC_ret ?_; have H := oi H; subst H
     have hres := hqq10 _ rfl
     subst hres; have H := Hoq10
     have H : some false = some r := H
     have H := oi H; subst H
     exact ⟨rfl, hS.below⟩
    ·have H := ifF hb19 H; refine zP ?_; refine zR ?_; refine zV (zm (v := (.int .i64 s8)) rfl) rfl ?_; refine zV (rn_add rfl rfl) rfl ?_; refine zV (zA (v := (.int .i64 (IntKind.i64.wrap (s8 + 1)))) rfl) rfl ?_; refine zN ?_
     have hO : Owns G13 w18 w0.heap.size ([]) := hO
     have H := oi H; subst H; refine ⟨_, rfl, ?_⟩
     exact ⟨_, G13, upds_self _ _ ⟨rfl, rfl, rfl, trivial⟩, leG13, hS, hO⟩
   ·have H := ifF hb14 H; refine WC_exit rfl ?_
    have hO : Owns G13 w12 w0.heap.size ([]) := hO
    have H := oi H; subst H
    have hres := hqq10 _ rfl
    subst hres
    exact ⟨_, _, G13, rfl, upds_self _ _ ⟨rfl, rfl, trivial⟩, leG13, hS, hO⟩
 ·rintro F w20 ⟨p9, Fb, G21, rfl, rfl, leG21, hS, hO⟩
  refine zS ?_; refine zV (zm (v := (.slice a4 n4 c4)) rfl) rfl ?_
  have l0_2 := leG7.trans leG21
  refine zV (rn_len sl29 rfl rfl (h4.mono RInt_mono l0_2).1) rfl ?_; refine zV (zF fd26_1 rfl) rfl ?_; refine zV (zL na23 rfl ((hS.sat.le leG21).cell (hcb5 1 _ rfl))) rfl ?_; refine zV (rn_len sl23 rfl rfl (h2.mono RTLandEvent_mono l0_2).1) rfl ?_; refine zV (rn_eql rfl rfl) rfl ?_; refine zV (zA (v := (.bool ((x1.length : Int) == (x0.Events.length : Int)))) rfl) rfl ?_; refine zN ?_; refine WC_ret ?_
  have H : some ((x1.length : Int) == (x0.Events.length : Int)) = some r := H
  have H := oi H; subst H
  exact ⟨rfl, hS.below⟩
end Go.Proofs.YtcaflmilfhhikaaDoor
