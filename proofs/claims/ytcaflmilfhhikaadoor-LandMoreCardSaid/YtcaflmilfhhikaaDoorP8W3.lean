/-
  The walks: each Go function computes its plain function (printed by a program of ours).
-/
import Derived.Test.YtcaflmilfhhikaaDoorFm
import Derived.Test.YtcaflmilfhhikaaDoorRd
import Derived.Test.YtcaflmilfhhikaaDoorBaseQ
import Derived.Test.YtcaflmilfhhikaaDoorIt
import Derived.Test.YtcaflmilfhhikaaDoorLib
import Derived.Test.YtcaflmilfhhikaaDoorBu
import Derived.Test.YtcaflmilfhhikaaDoorP8W2
namespace Go.Proofs.YtcaflmilfhhikaaDoor
open Go.RowKit
set_option linter.unusedVariables false

set_option maxRecDepth 20000
set_option linter.unusedVariables false
set_option maxHeartbeats 1000000 in
theorem f48_ok {G0 : Gm} {w0 : World} (hS0 : Sat G0 w0)   {r : TLandBook} (H : f48 = some r) :
  Calls Tryd.prog 48 #[] w0 (RetG G0 w0 (fun G v => ∃ (ra0 : Option Addr) (rn0 rc0 : Nat) (ra1 : Option Addr) (rn1 rc1 : Nat) (ra2 : Option Addr) (rn2 rc2 : Nat), v = .agg #[.slice ra0 rn0 rc0, .slice ra1 rn1 rc1, .slice ra2 rn2 rc2] ∧ RSl RTLandPerson 2 G ra0 rn0 rc0 r.People ∧ RSl RTLandEvent 2 G ra1 rn1 rc1 r.Events ∧ RSl RTLandMemory 4 G ra2 rn2 rc2 r.Memories)) := by
 have hS := Since.start hS0
 have hO : Owns G0 w0 w0.heap.size [] := Owns.nil (Nat.le_refl _)
 unfold f48 at H
 refine enterG (N := 21) (shutG _ _ _) [.cell 0 26] Tryd.func48 rfl rfl rfl rfl ?_; refine WC_seq ?_; refine WC_region ?_
 refine WL_op rfl (OpP_newO (v := fun b => .pointer (some ⟨b, 0, none⟩)) (cs := [.slice none 0 0, .slice none 0 0, .slice none 0 0]) (e := 26) (by kernel_rfl) hS.sat hO rfl 3 1 rfl (by decide) (fun b1 w2 hb hO => ?_))
 have hS := hS.keep hb; refine WL_nil ?_; refine WC_seq ?_; refine WC_region ?_
 refine WL_val (v := (.agg #[.int .i64 (-1), .int .i64 (-1)])) (by kernel_rfl) rfl ?_
 refine WL_val (v := (.agg #[.int .i64 0, .int .i64 (-1)])) (by kernel_rfl) rfl ?_
 refine WL_val (v := (.agg #[.int .i64 1, .int .i64 (-1)])) (by kernel_rfl) rfl ?_
 refine WL_val (v := (.agg #[.int .i64 (-1), .int .i64 0])) (by kernel_rfl) rfl ?_
 refine WL_op rfl (OpP_newF (v := fun b => .slice (some ⟨b, 0, none⟩) 4 4) (cs := [.int .i64 (-1), .int .i64 (-1), .int .i64 0, .int .i64 (-1), .int .i64 1, .int .i64 (-1), .int .i64 (-1), .int .i64 0]) (e := 85) (by kernel_rfl) hS.sat rfl (fun b4 G6 w5 hg hcb4 => ?_))
 have hS := hS.grow hg; have hO := hO.grow hg
 have leG6 := hg.le
 have hfb4 : RSl RTLandPerson 2 G6 (some ⟨b4, 0, none⟩) 4 4 [(⟨(-1), (-1)⟩ : TLandPerson), (⟨0, (-1)⟩ : TLandPerson), (⟨1, (-1)⟩ : TLandPerson), (⟨(-1), 0⟩ : TLandPerson)] := RSl.of_rd hcb4 (Rd.cons (c := [.int .i64 (-1), .int .i64 (-1)]) rfl rfl (Rd.cons (c := [.int .i64 0, .int .i64 (-1)]) rfl rfl (Rd.cons (c := [.int .i64 1, .int .i64 (-1)]) rfl rfl (Rd.cons (c := [.int .i64 (-1), .int .i64 0]) rfl rfl (Rd.nil RTLandPerson 2 _))))) rfl (by decide)
 refine WL_val (v := (.agg #[.int .i64 0, .int .i64 0])) (by kernel_rfl) rfl ?_
 refine WL_val (v := (.agg #[.int .i64 0, .int .i64 1])) (by kernel_rfl) rfl ?_
 refine WL_val (v := (.agg #[.int .i64 0, .int .i64 2])) (by kernel_rfl) rfl ?_
 refine WL_val (v := (.agg #[.int .i64 1, .int .i64 1])) (by kernel_rfl) rfl ?_
 refine WL_op rfl (OpP_newF (v := fun b => .slice (some ⟨b, 0, none⟩) 4 4) (cs := [.int .i64 0, .int .i64 0, .int .i64 0, .int .i64 1, .int .i64 0, .int .i64 2, .int .i64 1, .int .i64 1]) (e := 69) (by kernel_rfl) hS.sat rfl (fun b7 G9 w8 hg hcb7 => ?_))
 have hS := hS.grow hg; have hO := hO.grow hg
 have leG9 := hg.le
 have hfb7 : RSl RTLandEvent 2 G9 (some ⟨b7, 0, none⟩) 4 4 [(⟨0, 0⟩ : TLandEvent), (⟨0, 1⟩ : TLandEvent), (⟨0, 2⟩ : TLandEvent), (⟨1, 1⟩ : TLandEvent)] := RSl.of_rd hcb7 (Rd.cons (c := [.int .i64 0, .int .i64 0]) rfl rfl (Rd.cons (c := [.int .i64 0, .int .i64 1]) rfl rfl (Rd.cons (c := [.int .i64 0, .int .i64 2]) rfl rfl (Rd.cons (c := [.int .i64 1, .int .i64 1]) rfl rfl (Rd.nil RTLandEvent 2 _))))) rfl (by decide)
 refine WL_val (v := (.agg #[.int .i64 10, .int .i64 20])) (by kernel_rfl) rfl ?_
 refine WL_val (v := (.agg #[.int .i64 0, .int .i64 1, .int .i64 10, .int .i64 20])) (by kernel_rfl) rfl ?_
 refine WL_val (v := (.agg #[.int .i64 5, .int .i64 8])) (by kernel_rfl) rfl ?_
 refine WL_val (v := (.agg #[.int .i64 1, .int .i64 2, .int .i64 5, .int .i64 8])) (by kernel_rfl) rfl ?_
 refine WL_val (v := (.agg #[.int .i64 12, .int .i64 16])) (by kernel_rfl) rfl ?_
 refine WL_val (v := (.agg #[.int .i64 0, .int .i64 2, .int .i64 12, .int .i64 16])) (by kernel_rfl) rfl ?_
 refine WL_val (v := (.agg #[.int .i64 (-3), .int .i64 0])) (by kernel_rfl) rfl ?_
 refine WL_val (v := (.agg #[.int .i64 1, .int .i64 3, .int .i64 (-3), .int .i64 0])) (by kernel_rfl) rfl ?_
 refine WL_op rfl (OpP_newF (v := fun b => .slice (some ⟨b, 0, none⟩) 4 4) (cs := [.int .i64 0, .int .i64 1, .int .i64 10, .int .i64 20, .int .i64 1, .int .i64 2, .int .i64 5, .int .i64 8, .int .i64 0, .int .i64 2, .int .i64 12, .int .i64 16, .int .i64 1, .int .i64 3, .int .i64 (-3), .int .i64 0]) (e := 46) (by kernel_rfl) hS.sat rfl (fun b10 G12 w11 hg hcb10 => ?_))
 have hS := hS.grow hg; have hO := hO.grow hg
 have leG12 := hg.le
 have hfb10 : RSl RTLandMemory 4 G12 (some ⟨b10, 0, none⟩) 4 4 [(⟨0, 1, (⟨10, 20⟩ : TSpan)⟩ : TLandMemory), (⟨1, 2, (⟨5, 8⟩ : TSpan)⟩ : TLandMemory), (⟨0, 2, (⟨12, 16⟩ : TSpan)⟩ : TLandMemory), (⟨1, 3, (⟨(-3), 0⟩ : TSpan)⟩ : TLandMemory)] := RSl.of_rd hcb10 (Rd.cons (c := [.int .i64 0, .int .i64 1, .int .i64 10, .int .i64 20]) rfl rfl (Rd.cons (c := [.int .i64 1, .int .i64 2, .int .i64 5, .int .i64 8]) rfl rfl (Rd.cons (c := [.int .i64 0, .int .i64 2, .int .i64 12, .int .i64 16]) rfl rfl (Rd.cons (c := [.int .i64 1, .int .i64 3, .int .i64 (-3), .int .i64 0]) rfl rfl (Rd.nil RTLandMemory 4 _))))) rfl (by decide)
 refine WL_val (v := (.agg #[.slice (some ⟨b4, 0, none⟩) 4 4, .slice (some ⟨b7, 0, none⟩) 4 4, .slice (some ⟨b10, 0, none⟩) 4 4])) (by kernel_rfl) rfl ?_
 refine WL_op rfl (OpP_store (vs := [.slice (some ⟨b4, 0, none⟩) 4 4, .slice (some ⟨b7, 0, none⟩) 4 4, .slice (some ⟨b10, 0, none⟩) 4 4]) sz26 hS hO (k := 0) rfl rfl rfl rfl rfl (one_all rfl) (Nat.le_of_ble_eq_true rfl) (fun w13 hS hO => ?_))
 have hO : Owns G12 w13 w0.heap.size ([⟨26, 3, 1, .slice (some ⟨b1, 0, none⟩) 1 1, [.slice (some ⟨b4, 0, none⟩) 4 4, .slice (some ⟨b7, 0, none⟩) 4 4, .slice (some ⟨b10, 0, none⟩) 4 4]⟩]) := hO
 obtain ⟨G14, leG14, hS, hO, hqG14, _⟩ := hO.freeze hS (k := 0) rfl
 have hcG14 : Cells G14 b1 0 [.slice (some ⟨b4, 0, none⟩) 4 4, .slice (some ⟨b7, 0, none⟩) 4 4, .slice (some ⟨b10, 0, none⟩) 4 4] := (hqG14 _ _ _ _ rfl)
 refine WL_nil ?_; refine WC_ret ?_
 have H : some (⟨[(⟨(-1), (-1)⟩ : TLandPerson), (⟨0, (-1)⟩ : TLandPerson), (⟨1, (-1)⟩ : TLandPerson), (⟨(-1), 0⟩ : TLandPerson)], [(⟨0, 0⟩ : TLandEvent), (⟨0, 1⟩ : TLandEvent), (⟨0, 2⟩ : TLandEvent), (⟨1, 1⟩ : TLandEvent)], [(⟨0, 1, (⟨10, 20⟩ : TSpan)⟩ : TLandMemory), (⟨1, 2, (⟨5, 8⟩ : TSpan)⟩ : TLandMemory), (⟨0, 2, (⟨12, 16⟩ : TSpan)⟩ : TLandMemory), (⟨1, 3, (⟨(-3), 0⟩ : TSpan)⟩ : TLandMemory)]⟩ : TLandBook) = some r := H
 have H := Option.some.inj H; subst H
 have l1_4 := (leG9.trans leG12).trans leG14
 have l2_4 := leG12.trans leG14
 exact ⟨[.agg #[.slice (some ⟨b4, 0, none⟩) 4 4, .slice (some ⟨b7, 0, none⟩) 4 4, .slice (some ⟨b10, 0, none⟩) 4 4]], ⟨⟨_, rfl, ld_agg (cs := [.slice (some ⟨b4, 0, none⟩) 4 4, .slice (some ⟨b7, 0, none⟩) 4 4, .slice (some ⟨b10, 0, none⟩) 4 4]) ag26 rfl (fun j v hj => hS.sat.cell (hcG14 j v hj))⟩, trivial⟩, ⟨_, _, rfl, hS.toGrow, _, _, _, _, _, _, _, _, _, rfl, (hfb4.mono RTLandPerson_mono l1_4), (hfb7.mono RTLandEvent_mono l2_4), (hfb10.mono RTLandMemory_mono leG14)⟩⟩
set_option maxHeartbeats 1000000 in
theorem f49_ok {G0 : Gm} {w0 : World} (hS0 : Sat G0 w0)   {r : TLandBook} (H : f49 = some r) :
  Calls Tryd.prog 49 #[] w0 (RetG G0 w0 (fun G v => ∃ (ra0 : Option Addr) (rn0 rc0 : Nat) (ra1 : Option Addr) (rn1 rc1 : Nat) (ra2 : Option Addr) (rn2 rc2 : Nat), v = .agg #[.slice ra0 rn0 rc0, .slice ra1 rn1 rc1, .slice ra2 rn2 rc2] ∧ RSl RTLandPerson 2 G ra0 rn0 rc0 r.People ∧ RSl RTLandEvent 2 G ra1 rn1 rc1 r.Events ∧ RSl RTLandMemory 4 G ra2 rn2 rc2 r.Memories)) := by
 have hS := Since.start hS0
 have hO : Owns G0 w0 w0.heap.size [] := Owns.nil (Nat.le_refl _)
 unfold f49 at H
 refine enterG (N := 11) (shutG _ _ _) [.cell 0 26] Tryd.func49 rfl rfl rfl rfl ?_; refine WC_seq ?_; refine WC_region ?_
 refine WL_op rfl (OpP_newO (v := fun b => .pointer (some ⟨b, 0, none⟩)) (cs := [.slice none 0 0, .slice none 0 0, .slice none 0 0]) (e := 26) (by kernel_rfl) hS.sat hO rfl 3 1 rfl (by decide) (fun b1 w2 hb hO => ?_))
 have hS := hS.keep hb; refine WL_nil ?_; refine WC_seq ?_; refine WC_region ?_; refine WL_op rfl (OpP_inR (N' := 21) (rs := [.cell 0 26]) [] cb48 Tryd.func48 rfl rfl rfl rfl rfl rfl ?_); refine WC_seq ?_; refine WC_region ?_
 refine WL_op rfl (OpP_newO (v := fun b => .pointer (some ⟨b, 0, none⟩)) (cs := [.slice none 0 0, .slice none 0 0, .slice none 0 0]) (e := 26) (by kernel_rfl) hS.sat hO rfl 3 1 rfl (by decide) (fun b4 w5 hb hO => ?_))
 have hS := hS.keep hb; refine WL_nil ?_; refine WC_seq ?_; refine WC_region ?_
 refine WL_val (v := (.agg #[.int .i64 (-1), .int .i64 (-1)])) (by kernel_rfl) rfl ?_
 refine WL_val (v := (.agg #[.int .i64 0, .int .i64 (-1)])) (by kernel_rfl) rfl ?_
 refine WL_val (v := (.agg #[.int .i64 1, .int .i64 (-1)])) (by kernel_rfl) rfl ?_
 refine WL_val (v := (.agg #[.int .i64 (-1), .int .i64 0])) (by kernel_rfl) rfl ?_
 refine WL_op rfl (OpP_newO (v := fun b => .slice (some ⟨b, 0, none⟩) 4 4) (cs := [.int .i64 (-1), .int .i64 (-1), .int .i64 0, .int .i64 (-1), .int .i64 1, .int .i64 (-1), .int .i64 (-1), .int .i64 0]) (e := 85) (by kernel_rfl) hS.sat hO rfl 2 4 rfl (by decide) (fun b7 w8 hb hO => ?_))
 have hS := hS.keep hb
 have hrb7 : Rd RTLandPerson 2 G0 [.int .i64 (-1), .int .i64 (-1), .int .i64 0, .int .i64 (-1), .int .i64 1, .int .i64 (-1), .int .i64 (-1), .int .i64 0] [(⟨(-1), (-1)⟩ : TLandPerson), (⟨0, (-1)⟩ : TLandPerson), (⟨1, (-1)⟩ : TLandPerson), (⟨(-1), 0⟩ : TLandPerson)] := (Rd.cons (c := [.int .i64 (-1), .int .i64 (-1)]) rfl rfl (Rd.cons (c := [.int .i64 0, .int .i64 (-1)]) rfl rfl (Rd.cons (c := [.int .i64 1, .int .i64 (-1)]) rfl rfl (Rd.cons (c := [.int .i64 (-1), .int .i64 0]) rfl rfl (Rd.nil RTLandPerson 2 _)))))
 refine WL_val (v := (.agg #[.int .i64 0, .int .i64 0])) (by kernel_rfl) rfl ?_
 refine WL_val (v := (.agg #[.int .i64 0, .int .i64 1])) (by kernel_rfl) rfl ?_
 refine WL_val (v := (.agg #[.int .i64 0, .int .i64 2])) (by kernel_rfl) rfl ?_
 refine WL_val (v := (.agg #[.int .i64 1, .int .i64 1])) (by kernel_rfl) rfl ?_
 refine WL_op rfl (OpP_newO (v := fun b => .slice (some ⟨b, 0, none⟩) 4 4) (cs := [.int .i64 0, .int .i64 0, .int .i64 0, .int .i64 1, .int .i64 0, .int .i64 2, .int .i64 1, .int .i64 1]) (e := 69) (by kernel_rfl) hS.sat hO rfl 2 4 rfl (by decide) (fun b10 w11 hb hO => ?_))
 have hS := hS.keep hb
 have hrb10 : Rd RTLandEvent 2 G0 [.int .i64 0, .int .i64 0, .int .i64 0, .int .i64 1, .int .i64 0, .int .i64 2, .int .i64 1, .int .i64 1] [(⟨0, 0⟩ : TLandEvent), (⟨0, 1⟩ : TLandEvent), (⟨0, 2⟩ : TLandEvent), (⟨1, 1⟩ : TLandEvent)] := (Rd.cons (c := [.int .i64 0, .int .i64 0]) rfl rfl (Rd.cons (c := [.int .i64 0, .int .i64 1]) rfl rfl (Rd.cons (c := [.int .i64 0, .int .i64 2]) rfl rfl (Rd.cons (c := [.int .i64 1, .int .i64 1]) rfl rfl (Rd.nil RTLandEvent 2 _)))))
 refine WL_val (v := (.agg #[.int .i64 10, .int .i64 20])) (by kernel_rfl) rfl ?_
 refine WL_val (v := (.agg #[.int .i64 0, .int .i64 1, .int .i64 10, .int .i64 20])) (by kernel_rfl) rfl ?_
 refine WL_val (v := (.agg #[.int .i64 5, .int .i64 8])) (by kernel_rfl) rfl ?_
 refine WL_val (v := (.agg #[.int .i64 1, .int .i64 2, .int .i64 5, .int .i64 8])) (by kernel_rfl) rfl ?_
 refine WL_val (v := (.agg #[.int .i64 12, .int .i64 16])) (by kernel_rfl) rfl ?_
 refine WL_val (v := (.agg #[.int .i64 0, .int .i64 2, .int .i64 12, .int .i64 16])) (by kernel_rfl) rfl ?_
 refine WL_val (v := (.agg #[.int .i64 (-3), .int .i64 0])) (by kernel_rfl) rfl ?_
 refine WL_val (v := (.agg #[.int .i64 1, .int .i64 3, .int .i64 (-3), .int .i64 0])) (by kernel_rfl) rfl ?_
 refine WL_op rfl (OpP_newO (v := fun b => .slice (some ⟨b, 0, none⟩) 4 4) (cs := [.int .i64 0, .int .i64 1, .int .i64 10, .int .i64 20, .int .i64 1, .int .i64 2, .int .i64 5, .int .i64 8, .int .i64 0, .int .i64 2, .int .i64 12, .int .i64 16, .int .i64 1, .int .i64 3, .int .i64 (-3), .int .i64 0]) (e := 46) (by kernel_rfl) hS.sat hO rfl 4 4 rfl (by decide) (fun b13 w14 hb hO => ?_))
 have hS := hS.keep hb
 have hrb13 : Rd RTLandMemory 4 G0 [.int .i64 0, .int .i64 1, .int .i64 10, .int .i64 20, .int .i64 1, .int .i64 2, .int .i64 5, .int .i64 8, .int .i64 0, .int .i64 2, .int .i64 12, .int .i64 16, .int .i64 1, .int .i64 3, .int .i64 (-3), .int .i64 0] [(⟨0, 1, (⟨10, 20⟩ : TSpan)⟩ : TLandMemory), (⟨1, 2, (⟨5, 8⟩ : TSpan)⟩ : TLandMemory), (⟨0, 2, (⟨12, 16⟩ : TSpan)⟩ : TLandMemory), (⟨1, 3, (⟨(-3), 0⟩ : TSpan)⟩ : TLandMemory)] := (Rd.cons (c := [.int .i64 0, .int .i64 1, .int .i64 10, .int .i64 20]) rfl rfl (Rd.cons (c := [.int .i64 1, .int .i64 2, .int .i64 5, .int .i64 8]) rfl rfl (Rd.cons (c := [.int .i64 0, .int .i64 2, .int .i64 12, .int .i64 16]) rfl rfl (Rd.cons (c := [.int .i64 1, .int .i64 3, .int .i64 (-3), .int .i64 0]) rfl rfl (Rd.nil RTLandMemory 4 _)))))
 refine WL_val (v := (.agg #[.slice (some ⟨b7, 0, none⟩) 4 4, .slice (some ⟨b10, 0, none⟩) 4 4, .slice (some ⟨b13, 0, none⟩) 4 4])) (by kernel_rfl) rfl ?_
 refine WL_op rfl (OpP_store (vs := [.slice (some ⟨b7, 0, none⟩) 4 4, .slice (some ⟨b10, 0, none⟩) 4 4, .slice (some ⟨b13, 0, none⟩) 4 4]) sz26 hS hO (k := 3) rfl rfl rfl rfl rfl (one_all rfl) (Nat.le_of_ble_eq_true rfl) (fun w16 hS hO => ?_))
 have hO : Owns G0 w16 w0.heap.size ([⟨46, 4, 4, .slice (some ⟨b13, 0, none⟩) 4 4, [.int .i64 0, .int .i64 1, .int .i64 10, .int .i64 20, .int .i64 1, .int .i64 2, .int .i64 5, .int .i64 8, .int .i64 0, .int .i64 2, .int .i64 12, .int .i64 16, .int .i64 1, .int .i64 3, .int .i64 (-3), .int .i64 0]⟩, ⟨69, 2, 4, .slice (some ⟨b10, 0, none⟩) 4 4, [.int .i64 0, .int .i64 0, .int .i64 0, .int .i64 1, .int .i64 0, .int .i64 2, .int .i64 1, .int .i64 1]⟩, ⟨85, 2, 4, .slice (some ⟨b7, 0, none⟩) 4 4, [.int .i64 (-1), .int .i64 (-1), .int .i64 0, .int .i64 (-1), .int .i64 1, .int .i64 (-1), .int .i64 (-1), .int .i64 0]⟩, ⟨26, 3, 1, .slice (some ⟨b4, 0, none⟩) 1 1, [.slice (some ⟨b7, 0, none⟩) 4 4, .slice (some ⟨b10, 0, none⟩) 4 4, .slice (some ⟨b13, 0, none⟩) 4 4]⟩, ⟨26, 3, 1, .slice (some ⟨b1, 0, none⟩) 1 1, [.slice none 0 0, .slice none 0 0, .slice none 0 0]⟩]) := hO
 refine WL_nil ?_; refine WC_ret ?_; refine ⟨[.agg #[.slice (some ⟨b7, 0, none⟩) 4 4, .slice (some ⟨b10, 0, none⟩) 4 4, .slice (some ⟨b13, 0, none⟩) 4 4]], ⟨⟨_, rfl, ld_agg (cs := [.slice (some ⟨b7, 0, none⟩) 4 4, .slice (some ⟨b10, 0, none⟩) 4 4, .slice (some ⟨b13, 0, none⟩) 4 4]) ag26 rfl (fun j v hj => own_sub hO (k := 3) rfl 0 3 j v hj)⟩, trivial⟩, ?_⟩; have hO := hO.drop 3
 have hO : Owns G0 w16 w0.heap.size ([⟨46, 4, 4, .slice (some ⟨b13, 0, none⟩) 4 4, [.int .i64 0, .int .i64 1, .int .i64 10, .int .i64 20, .int .i64 1, .int .i64 2, .int .i64 5, .int .i64 8, .int .i64 0, .int .i64 2, .int .i64 12, .int .i64 16, .int .i64 1, .int .i64 3, .int .i64 (-3), .int .i64 0]⟩, ⟨69, 2, 4, .slice (some ⟨b10, 0, none⟩) 4 4, [.int .i64 0, .int .i64 0, .int .i64 0, .int .i64 1, .int .i64 0, .int .i64 2, .int .i64 1, .int .i64 1]⟩, ⟨85, 2, 4, .slice (some ⟨b7, 0, none⟩) 4 4, [.int .i64 (-1), .int .i64 (-1), .int .i64 0, .int .i64 (-1), .int .i64 1, .int .i64 (-1), .int .i64 (-1), .int .i64 0]⟩, ⟨26, 3, 1, .slice (some ⟨b1, 0, none⟩) 1 1, [.slice none 0 0, .slice none 0 0, .slice none 0 0]⟩]) := hO
 refine WL_op rfl (OpP_newO (v := fun b => .pointer (some ⟨b, 0, none⟩)) (cs := [.slice none 0 0, .slice none 0 0, .slice none 0 0]) (e := 26) (by kernel_rfl) hS.sat hO rfl 3 1 rfl (by decide) (fun b17 w18 hb hO => ?_))
 have hS := hS.keep hb; refine WL_op rfl (OpP_store (vs := [.slice (some ⟨b7, 0, none⟩) 4 4, .slice (some ⟨b10, 0, none⟩) 4 4, .slice (some ⟨b13, 0, none⟩) 4 4]) sz26 hS hO (k := 0) rfl rfl rfl rfl rfl (one_all rfl) (Nat.le_of_ble_eq_true rfl) (fun w20 hS hO => ?_))
 have hO : Owns G0 w20 w0.heap.size ([⟨26, 3, 1, .slice (some ⟨b17, 0, none⟩) 1 1, [.slice (some ⟨b7, 0, none⟩) 4 4, .slice (some ⟨b10, 0, none⟩) 4 4, .slice (some ⟨b13, 0, none⟩) 4 4]⟩, ⟨46, 4, 4, .slice (some ⟨b13, 0, none⟩) 4 4, [.int .i64 0, .int .i64 1, .int .i64 10, .int .i64 20, .int .i64 1, .int .i64 2, .int .i64 5, .int .i64 8, .int .i64 0, .int .i64 2, .int .i64 12, .int .i64 16, .int .i64 1, .int .i64 3, .int .i64 (-3), .int .i64 0]⟩, ⟨69, 2, 4, .slice (some ⟨b10, 0, none⟩) 4 4, [.int .i64 0, .int .i64 0, .int .i64 0, .int .i64 1, .int .i64 0, .int .i64 2, .int .i64 1, .int .i64 1]⟩, ⟨85, 2, 4, .slice (some ⟨b7, 0, none⟩) 4 4, [.int .i64 (-1), .int .i64 (-1), .int .i64 0, .int .i64 (-1), .int .i64 1, .int .i64 (-1), .int .i64 (-1), .int .i64 0]⟩, ⟨26, 3, 1, .slice (some ⟨b1, 0, none⟩) 1 1, [.slice none 0 0, .slice none 0 0, .slice none 0 0]⟩]) := hO
 refine WL_nil ?_; refine WC_seq ?_; refine WC_region ?_; refine WL_val (rn_fld fd26_2 rfl) rfl ?_; refine WL_val (rn_load na24 rfl (own_cell hO (k := 0) rfl (j := 2) rfl)) rfl ?_
 refine WL_val (v := (.agg #[.int .i64 12, .int .i64 30])) (by kernel_rfl) rfl ?_
 refine WL_val (v := (.agg #[.int .i64 0, .int .i64 1, .int .i64 12, .int .i64 30])) (by kernel_rfl) rfl ?_
 refine WL_op rfl (OpP_newF (v := fun b => .slice (some ⟨b, 0, none⟩) 1 1) (cs := [.int .i64 0, .int .i64 1, .int .i64 12, .int .i64 30]) (e := 46) (by kernel_rfl) hS.sat rfl (fun b21 G23 w22 hg hcb21 => ?_))
 have hS := hS.grow hg; have hO := hO.grow hg
 have leG23 := hg.le
 have hfb21 : RSl RTLandMemory 4 G23 (some ⟨b21, 0, none⟩) 1 1 [(⟨0, 1, (⟨12, 30⟩ : TSpan)⟩ : TLandMemory)] := RSl.of_rd hcb21 (Rd.cons (c := [.int .i64 0, .int .i64 1, .int .i64 12, .int .i64 30]) rfl rfl (Rd.nil RTLandMemory 4 _)) rfl (by decide)
 obtain ⟨y24, hy24, H⟩ := bnd H; refine WL_op rfl (OpP_append (k := 1) sl24 RTLandMemory_one hS hO rfl rfl (hrb13.mono RTLandMemory_mono leG23) hfb21 hy24 rfl rfl rfl rfl rfl (fun aw25 cw25 w25 clw25 hS hO hrw25 => ?_))
 have hO : Owns G23 w25 w0.heap.size ([⟨26, 3, 1, .slice (some ⟨b17, 0, none⟩) 1 1, [.slice (some ⟨b7, 0, none⟩) 4 4, .slice (some ⟨b10, 0, none⟩) 4 4, .slice (some ⟨b13, 0, none⟩) 4 4]⟩, ⟨46, 4, y24.length, .slice aw25 y24.length cw25, clw25⟩, ⟨69, 2, 4, .slice (some ⟨b10, 0, none⟩) 4 4, [.int .i64 0, .int .i64 0, .int .i64 0, .int .i64 1, .int .i64 0, .int .i64 2, .int .i64 1, .int .i64 1]⟩, ⟨85, 2, 4, .slice (some ⟨b7, 0, none⟩) 4 4, [.int .i64 (-1), .int .i64 (-1), .int .i64 0, .int .i64 (-1), .int .i64 1, .int .i64 (-1), .int .i64 (-1), .int .i64 0]⟩, ⟨26, 3, 1, .slice (some ⟨b1, 0, none⟩) 1 1, [.slice none 0 0, .slice none 0 0, .slice none 0 0]⟩]) := hO
 refine WL_val (rn_fld fd26_2 rfl) rfl ?_; refine WL_op rfl (OpP_store (vs := [.slice aw25 y24.length cw25]) sz24 hS hO (k := 0) rfl rfl rfl rfl rfl (one_all rfl) (Nat.le_of_ble_eq_true rfl) (fun w26 hS hO => ?_))
 have hO : Owns G23 w26 w0.heap.size ([⟨26, 3, 1, .slice (some ⟨b17, 0, none⟩) 1 1, [.slice (some ⟨b7, 0, none⟩) 4 4, .slice (some ⟨b10, 0, none⟩) 4 4, .slice aw25 y24.length cw25]⟩, ⟨46, 4, y24.length, .slice aw25 y24.length cw25, clw25⟩, ⟨69, 2, 4, .slice (some ⟨b10, 0, none⟩) 4 4, [.int .i64 0, .int .i64 0, .int .i64 0, .int .i64 1, .int .i64 0, .int .i64 2, .int .i64 1, .int .i64 1]⟩, ⟨85, 2, 4, .slice (some ⟨b7, 0, none⟩) 4 4, [.int .i64 (-1), .int .i64 (-1), .int .i64 0, .int .i64 (-1), .int .i64 1, .int .i64 (-1), .int .i64 (-1), .int .i64 0]⟩, ⟨26, 3, 1, .slice (some ⟨b1, 0, none⟩) 1 1, [.slice none 0 0, .slice none 0 0, .slice none 0 0]⟩]) := hO
 refine WL_nil ?_; refine WC_seq ?_; refine WC_region ?_; refine WL_val (rn_loadA ag26 (cs := [.slice (some ⟨b7, 0, none⟩) 4 4, .slice (some ⟨b10, 0, none⟩) 4 4, .slice aw25 y24.length cw25]) rfl rfl (fun j v hj => own_sub hO (k := 0) rfl 0 3 j v hj)) rfl ?_; refine WL_op rfl (OpP_store (vs := [.slice (some ⟨b7, 0, none⟩) 4 4, .slice (some ⟨b10, 0, none⟩) 4 4, .slice aw25 y24.length cw25]) sz26 hS hO (k := 4) rfl rfl rfl rfl rfl (one_all rfl) (Nat.le_of_ble_eq_true rfl) (fun w27 hS hO => ?_))
 have hO : Owns G23 w27 w0.heap.size ([⟨26, 3, 1, .slice (some ⟨b17, 0, none⟩) 1 1, [.slice (some ⟨b7, 0, none⟩) 4 4, .slice (some ⟨b10, 0, none⟩) 4 4, .slice aw25 y24.length cw25]⟩, ⟨46, 4, y24.length, .slice aw25 y24.length cw25, clw25⟩, ⟨69, 2, 4, .slice (some ⟨b10, 0, none⟩) 4 4, [.int .i64 0, .int .i64 0, .int .i64 0, .int .i64 1, .int .i64 0, .int .i64 2, .int .i64 1, .int .i64 1]⟩, ⟨85, 2, 4, .slice (some ⟨b7, 0, none⟩) 4 4, [.int .i64 (-1), .int .i64 (-1), .int .i64 0, .int .i64 (-1), .int .i64 1, .int .i64 (-1), .int .i64 (-1), .int .i64 0]⟩, ⟨26, 3, 1, .slice (some ⟨b1, 0, none⟩) 1 1, [.slice (some ⟨b7, 0, none⟩) 4 4, .slice (some ⟨b10, 0, none⟩) 4 4, .slice aw25 y24.length cw25]⟩]) := hO
 refine WL_nil ?_; refine WC_ret ?_; obtain ⟨G28, leG28, hS, hO, hfG28⟩ := hO.freezeS hS RTLandPerson_mono (k := 3) rfl (hrb7.mono RTLandPerson_mono leG23) rfl
 have l0_2 := leG23.trans leG28
 obtain ⟨G29, leG29, hS, hO, hfG29⟩ := hO.freezeS hS RTLandEvent_mono (k := 2) rfl (hrb10.mono RTLandEvent_mono l0_2) rfl
 have l1_3 := leG28.trans leG29
 obtain ⟨G30, leG30, hS, hO, hfG30⟩ := hO.freezeS hS RTLandMemory_mono (k := 1) rfl (hrw25.mono RTLandMemory_mono l1_3) rfl
 have H : some (⟨[(⟨(-1), (-1)⟩ : TLandPerson), (⟨0, (-1)⟩ : TLandPerson), (⟨1, (-1)⟩ : TLandPerson), (⟨(-1), 0⟩ : TLandPerson)], [(⟨0, 0⟩ : TLandEvent), (⟨0, 1⟩ : TLandEvent), (⟨0, 2⟩ : TLandEvent), (⟨1, 1⟩ : TLandEvent)], y24⟩ : TLandBook) = some r := H
 have H := Option.some.inj H; subst H
 have l2_4 := leG29.trans leG30
 exact ⟨[.agg #[.slice (some ⟨b7, 0, none⟩) 4 4, .slice (some ⟨b10, 0, none⟩) 4 4, .slice aw25 y24.length cw25]], ⟨⟨_, rfl, ld_agg (cs := [.slice (some ⟨b7, 0, none⟩) 4 4, .slice (some ⟨b10, 0, none⟩) 4 4, .slice aw25 y24.length cw25]) ag26 rfl (fun j v hj => own_sub hO (k := 1) rfl 0 3 j v hj)⟩, trivial⟩, ⟨_, _, rfl, hS.toGrow, _, _, _, _, _, _, _, _, _, rfl, (hfG28.mono RTLandPerson_mono l2_4), (hfG29.mono RTLandEvent_mono leG30), hfG30⟩⟩
set_option maxHeartbeats 1000000 in
theorem f90_ok {G0 : Gm} {w0 : World} (hS0 : Sat G0 w0) {x0 : (List UInt8)} {x1 : (List Int)} {a1 : Option Addr} {n1 c1 : Nat} (hT : TabG Tryd.prog G0) (h1 : RSl RInt 1 G0 a1 n1 c1 x1) {r : (List UInt8)} (H : f90 x0 x1 = some r) :
  Calls Tryd.prog 90 #[.string ⟨x0.toArray⟩, .slice a1 n1 c1] w0 (RetV w0 (.string ⟨r.toArray⟩)) := by
 have hS := Since.start hS0
 have hO : Owns G0 w0 w0.heap.size [] := Owns.nil (Nat.le_refl _)
 unfold f90 at H
 refine enter1 (N := 21) (shutV _ _) Tryd.func90 rfl rfl rfl rfl ?_; refine WC_seq ?_; refine WC_region ?_; refine WL_val (rn_assign (v := (.string ⟨([] : List UInt8).toArray⟩)) rfl) rfl ?_; refine WL_nil ?_; refine WC_seq ?_; refine WC_seq ?_; refine WC_region ?_; refine WL_val (rn_move (v := (.slice a1 n1 c1)) rfl) rfl ?_; refine WL_val (rn_len sl29 rfl rfl h1.1) rfl ?_; refine WL_val (rn_move (v := (.int .i64 0)) rfl) rfl ?_; refine WL_nil ?_; obtain ⟨q4, hq4, H⟩ := bnd H; refine WC_cut (fun F w => ∃ (Fb : Fr) (G : Gm), F = upds Fb [(0, .string ⟨q4.toArray⟩)] ∧ Gle G0 G ∧ Since w0.heap.size G0 w0 G w ∧ Owns G w w0.heap.size []) ?_ ?_
 ·refine WC_block (WC_loop hq4 (fun s2 F w => ∃ (Fb : Fr) (G : Gm), F = upds Fb [(0, .string ⟨s2.1.toArray⟩), (7, .slice a1 n1 c1), (8, .int .i64 (x1.length : Int)), (9, .int .i64 s2.2)] ∧ Gle G0 G ∧ Since w0.heap.size G0 w0 G w ∧ Owns G w w0.heap.size []) ?_ ?_)
  ·have hO : Owns G0 w0 w0.heap.size ([]) := hO
   exact ⟨_, G0, upds_self _ _ ⟨rfl, rfl, rfl, rfl, trivial⟩, Gle.refl _, hS, hO⟩
  ·rintro s2 F w6 t5 ⟨Fb, G7, rfl, leG7, hS, hO⟩
   intro H1 hqq4
   have Hoq4 := H; have H := H1
   unfold f90_b0 at H
   refine WC_seq ?_; refine WC_region ?_; refine WL_val (rn_lss rfl rfl) rfl ?_; refine WL_nil ?_; refine WC_seq ?_; refine WC_cond rfl (fun hb8 => ?_) (fun hb8 => ?_)
   ·have H := ifT hb8 H; refine WC_skip ?_; refine WC_seq ?_; refine WC_block ?_; refine WC_seq ?_; refine WC_region ?_; obtain ⟨y9, hy9, H⟩ := bnd H; refine WL_idx sl29 (h1.mono RInt_mono leG7) hy9 rfl rfl rfl ?_
    rintro b10 o10 _ hcb10 _ ⟨⟩
    refine WL_val (rn_load na3 rfl (hS.sat.cell (hcb10 0 _ rfl))) rfl ?_; refine WL_val (rn_assign (v := (.int .i64 y9)) rfl) rfl ?_; refine WL_nil ?_; refine WC_region ?_; refine WL_val (rn_move (v := (.string ⟨s2.1.toArray⟩)) rfl) rfl ?_; refine WL_val (rn_move (v := (.int .i64 y9)) rfl) rfl ?_; obtain ⟨y11, hy11, H⟩ := bnd H; refine WL_op rfl (OpP_callV cb98 (f98_ok (n := y9) hS.sat (hT.mono leG7) hy11) rfl rfl (fun w12 hb => ?_)); have hS := hS.keep hb; have hO := hO.below hb; obtain ⟨y13, hy13, H⟩ := bnd H; refine WL_val (rn_catS rfl rfl hy13) rfl ?_; obtain ⟨y14, hy14, H⟩ := bnd H; refine WL_val (rn_catS rfl rfl hy14) rfl ?_; refine WL_val (rn_assign (v := (.string ⟨y14.toArray⟩)) rfl) rfl ?_; refine WL_nil ?_; refine WC_region ?_; refine WL_val (rn_add rfl rfl) rfl ?_; refine WL_val (rn_move (v := (.int .i64 (IntKind.i64.wrap (s2.2 + 1)))) rfl) rfl ?_; refine WL_nil ?_
    have hO : Owns G7 w12 w0.heap.size ([]) := hO
    have H := Option.some.inj H; subst H; refine ⟨_, rfl, ?_⟩
    exact ⟨_, G7, upds_self _ _ ⟨rfl, rfl, rfl, rfl, trivial⟩, leG7, hS, hO⟩
   ·have H := ifF hb8 H; refine WC_exit rfl ?_
    have hO : Owns G7 w6 w0.heap.size ([]) := hO
    have H := Option.some.inj H; subst H
    have hres := hqq4 _ rfl
    subst hres
    exact ⟨_, G7, upds_self _ _ ⟨rfl, trivial⟩, leG7, hS, hO⟩
 ·rintro F w15 ⟨Fb, G16, rfl, leG16, hS, hO⟩
  refine WC_seq ?_; refine WC_region ?_; refine WL_val (rn_move (v := (.string ⟨q4.toArray⟩)) rfl) rfl ?_; obtain ⟨y17, hy17, H⟩ := bnd H; refine WL_val (rn_catS rfl rfl hy17) rfl ?_; refine WL_val (rn_assign (v := (.string ⟨y17.toArray⟩)) rfl) rfl ?_; refine WL_nil ?_; refine WC_ret ?_
  have H : some y17 = some r := H
  have H := Option.some.inj H; subst H
  exact ⟨rfl, hS.below⟩
set_option maxHeartbeats 1000000 in
theorem f91_ok {G0 : Gm} {w0 : World} (hS0 : Sat G0 w0) {x0 : TLandPerson} (hT : TabG Tryd.prog G0) {r : (List UInt8)} (H : f91 x0 = some r) :
  Calls Tryd.prog 91 #[.agg #[.int .i64 x0.Mother, .int .i64 x0.Adopted]] w0 (RetV w0 (.string ⟨r.toArray⟩)) := by
 have hS := Since.start hS0
 have hO : Owns G0 w0 w0.heap.size [] := Owns.nil (Nat.le_refl _)
 unfold f91 at H
 refine enter1 (N := 26) (shutV _ _) Tryd.func91 rfl rfl rfl rfl ?_; refine WC_seq ?_; refine WC_region ?_; refine WL_op rfl (OpP_newF (v := fun b => .pointer (some ⟨b, 0, none⟩)) (cs := [.int .i64 x0.Mother, .int .i64 x0.Adopted]) (e := 85) (rn_boxA rfl) hS.sat rfl (fun b1 G3 w2 hg hcb1 => ?_)); have hS := hS.grow hg; have hO := hO.grow hg
 have leG3 := hg.le
 refine WL_val (rn_assign (v := (.string ⟨([] : List UInt8).toArray⟩)) rfl) rfl ?_; refine WL_nil ?_; refine WC_seq ?_; refine WC_region ?_; refine WL_val (rn_assign (v := (.string ⟨([112, 101, 114, 115, 111, 110] : List UInt8).toArray⟩)) rfl) rfl ?_; refine WL_nil ?_; refine WC_seq ?_; refine WC_seq ?_; refine WC_region ?_; refine WL_val (rn_fld fd85_0 rfl) rfl ?_; refine WL_val (rn_load na3 rfl (hS.sat.cell (hcb1 0 _ rfl))) rfl ?_; refine WL_val (rn_fld fd85_1 rfl) rfl ?_; refine WL_val (rn_load na3 rfl (hS.sat.cell (hcb1 1 _ rfl))) rfl ?_
 refine WL_val (v := (.agg #[.int .i64 x0.Mother, .int .i64 x0.Adopted])) (by kernel_rfl) rfl ?_
 refine WL_val (rn_move (v := (.int .i64 0)) rfl) rfl ?_; refine WL_nil ?_; refine WC_block (WC_loopI ?_); refine WI_step ?_; refine WC_seq ?_; refine WC_region ?_
 refine WL_val (v := (.bool true)) (by kernel_rfl) rfl ?_
 refine WL_nil ?_; refine WC_seq ?_; refine WC_condT _ rfl rfl ?_; refine WC_skip ?_; refine WC_seq ?_; refine WC_block ?_; refine WC_seq ?_; refine WC_region ?_
 refine WL_val (v := (.int .i64 x0.Mother)) (by kernel_rfl) rfl ?_
 refine WL_val (rn_assign (v := (.int .i64 x0.Mother)) rfl) rfl ?_; refine WL_nil ?_; refine WC_seq ?_; refine WC_region ?_; refine WL_val (rn_move (v := (.int .i64 x0.Mother)) rfl) rfl ?_; obtain ⟨y4, hy4, H⟩ := bnd H; refine WL_op rfl (OpP_callV cb98 (f98_ok (n := x0.Mother) hS.sat (hT.mono leG3) hy4) rfl rfl (fun w5 hb => ?_)); have hS := hS.keep hb; have hO := hO.below hb; refine WL_val (rn_assign (v := (.string ⟨y4.toArray⟩)) rfl) rfl ?_; refine WL_nil ?_; refine WC_seq ?_; obtain ⟨q6, hq6, H⟩ := bnd H; refine WC_cut (fun F w => ∃ (Fb : Fr), F = upds Fb [(3, .string ⟨([112, 101, 114, 115, 111, 110] : List UInt8).toArray⟩), (6, .string ⟨q6.toArray⟩), (11, .agg #[.int .i64 x0.Mother, .int .i64 x0.Adopted]), (12, .int .i64 0)] ∧ w5 = w) ?_ ?_
 ·have Hoq6 := H; have H := hq6; refine WC_seq ?_; refine WC_region ?_; refine WL_val (rn_move (v := (.int .i64 x0.Mother)) rfl) rfl ?_; refine WL_val (rn_eql rfl rfl) rfl ?_; refine WL_nil ?_; refine WC_cond rfl (fun hb7 => ?_) (fun hb7 => ?_)
  ·have H := ifT hb7 H; refine WC_region ?_; refine WL_val (rn_assign (v := (.string ⟨([45] : List UInt8).toArray⟩)) rfl) rfl ?_; refine WL_nil ?_; have H := Option.some.inj H; subst H
   exact ⟨_, upds_self _ _ ⟨rfl, rfl, rfl, rfl, trivial⟩, rfl⟩
  ·have H := ifF hb7 H; refine WC_skip ?_; have H := Option.some.inj H; subst H
   exact ⟨_, upds_self _ _ ⟨rfl, rfl, rfl, rfl, trivial⟩, rfl⟩
 ·rintro F wl ⟨Fb, rfl, rfl⟩
  refine WC_region ?_; refine WL_val (rn_move (v := (.string ⟨([112, 101, 114, 115, 111, 110] : List UInt8).toArray⟩)) rfl) rfl ?_; refine WL_val (rn_move (v := (.string ⟨q6.toArray⟩)) rfl) rfl ?_; obtain ⟨y10, hy10, H⟩ := bnd H; refine WL_val (rn_catS rfl rfl hy10) rfl ?_; obtain ⟨y11, hy11, H⟩ := bnd H; refine WL_val (rn_catS rfl rfl hy11) rfl ?_; refine WL_val (rn_assign (v := (.string ⟨y11.toArray⟩)) rfl) rfl ?_; refine WL_nil ?_; refine WC_region ?_
  refine WL_val (v := (.int .i64 1)) (by kernel_rfl) rfl ?_
  refine WL_val (rn_move (v := (.int .i64 1)) rfl) rfl ?_; refine WL_nil ?_; refine WI_step ?_; refine WC_seq ?_; refine WC_region ?_
  refine WL_val (v := (.bool true)) (by kernel_rfl) rfl ?_
  refine WL_nil ?_; refine WC_seq ?_; refine WC_condT _ rfl rfl ?_; refine WC_skip ?_; refine WC_seq ?_; refine WC_block ?_; refine WC_seq ?_; refine WC_region ?_
  refine WL_val (v := (.int .i64 x0.Adopted)) (by kernel_rfl) rfl ?_
  refine WL_val (rn_assign (v := (.int .i64 x0.Adopted)) rfl) rfl ?_; refine WL_nil ?_; refine WC_seq ?_; refine WC_region ?_; refine WL_val (rn_move (v := (.int .i64 x0.Adopted)) rfl) rfl ?_; obtain ⟨y12, hy12, H⟩ := bnd H; refine WL_op rfl (OpP_callV cb98 (f98_ok (n := x0.Adopted) hS.sat (hT.mono leG3) hy12) rfl rfl (fun w13 hb => ?_)); have hS := hS.keep hb; have hO := hO.below hb; refine WL_val (rn_assign (v := (.string ⟨y12.toArray⟩)) rfl) rfl ?_; refine WL_nil ?_; refine WC_seq ?_; obtain ⟨q14, hq14, H⟩ := bnd H; refine WC_cut (fun F w => ∃ (Fb : Fr), F = upds Fb [(3, .string ⟨y11.toArray⟩), (6, .string ⟨q14.toArray⟩), (11, .agg #[.int .i64 x0.Mother, .int .i64 x0.Adopted]), (12, .int .i64 1)] ∧ w13 = w) ?_ ?_
  ·have Hoq14 := H; have H := hq14; refine WC_seq ?_; refine WC_region ?_; refine WL_val (rn_move (v := (.int .i64 x0.Adopted)) rfl) rfl ?_; refine WL_val (rn_eql rfl rfl) rfl ?_; refine WL_nil ?_; refine WC_cond rfl (fun hb15 => ?_) (fun hb15 => ?_)
   ·have H := ifT hb15 H; refine WC_region ?_; refine WL_val (rn_assign (v := (.string ⟨([45] : List UInt8).toArray⟩)) rfl) rfl ?_; refine WL_nil ?_; have H := Option.some.inj H; subst H
    exact ⟨_, upds_self _ _ ⟨rfl, rfl, rfl, rfl, trivial⟩, rfl⟩
   ·have H := ifF hb15 H; refine WC_skip ?_; have H := Option.some.inj H; subst H
    exact ⟨_, upds_self _ _ ⟨rfl, rfl, rfl, rfl, trivial⟩, rfl⟩
  ·rintro F wl ⟨Fb, rfl, rfl⟩
   refine WC_region ?_; refine WL_val (rn_move (v := (.string ⟨y11.toArray⟩)) rfl) rfl ?_; refine WL_val (rn_move (v := (.string ⟨q14.toArray⟩)) rfl) rfl ?_; obtain ⟨y18, hy18, H⟩ := bnd H; refine WL_val (rn_catS rfl rfl hy18) rfl ?_; obtain ⟨y19, hy19, H⟩ := bnd H; refine WL_val (rn_catS rfl rfl hy19) rfl ?_; refine WL_val (rn_assign (v := (.string ⟨y19.toArray⟩)) rfl) rfl ?_; refine WL_nil ?_; refine WC_region ?_
   refine WL_val (v := (.int .i64 2)) (by kernel_rfl) rfl ?_
   refine WL_val (rn_move (v := (.int .i64 2)) rfl) rfl ?_; refine WL_nil ?_; refine WI_step ?_; refine WC_seq ?_; refine WC_region ?_
   refine WL_val (v := (.bool false)) (by kernel_rfl) rfl ?_
   refine WL_nil ?_; refine WC_seq ?_; refine WC_condF _ rfl rfl ?_; refine WC_exit rfl ?_; refine WC_seq ?_; refine WC_region ?_; refine WL_val (rn_move (v := (.string ⟨y19.toArray⟩)) rfl) rfl ?_; obtain ⟨y20, hy20, H⟩ := bnd H; refine WL_val (rn_catS rfl rfl hy20) rfl ?_; refine WL_val (rn_assign (v := (.string ⟨y20.toArray⟩)) rfl) rfl ?_; refine WL_nil ?_; refine WC_ret ?_
   have H : some y20 = some r := H
   have H := Option.some.inj H; subst H
   exact ⟨rfl, hS.below⟩
set_option maxHeartbeats 1000000 in
theorem f93_ok {G0 : Gm} {w0 : World} (hS0 : Sat G0 w0) {x0 : (List UInt8)} (hT : TabG Tryd.prog G0) {r : (List UInt8)} (H : f93 x0 = some r) :
  Calls Tryd.prog 93 #[.string ⟨x0.toArray⟩] w0 (RetV w0 (.string ⟨r.toArray⟩)) := by
 have hS := Since.start hS0
 have hO : Owns G0 w0 w0.heap.size [] := Owns.nil (Nat.le_refl _)
 unfold f93 at H
 refine enter1 (N := 38) (shutV _ _) Tryd.func93 rfl rfl rfl rfl ?_; refine WC_seq ?_; refine WC_region ?_; refine WL_val (rn_assign (v := (.string ⟨([] : List UInt8).toArray⟩)) rfl) rfl ?_; refine WL_nil ?_; refine WC_seq ?_; refine WC_region ?_; refine WL_val (rn_assign (v := (.int .i64 0)) rfl) rfl ?_; refine WL_val (rn_assign (v := (.int .i64 0)) rfl) rfl ?_; refine WL_nil ?_; refine WC_seq ?_; refine WC_seq ?_; refine WC_region ?_; refine WL_val (rn_move (v := (.string ⟨x0.toArray⟩)) rfl) rfl ?_; refine WL_op rfl (OpP_rangeS Tryd.underlying9 hS hO rfl rfl (fun r1 w2 hS hO => ?_))
 have hO : Owns G0 w2 w0.heap.size ([⟨0, 1, 2, .map (some r1), [.string ⟨x0.toArray⟩, .int .i64 ((0 : Nat) : Int)]⟩]) := hO
 refine WL_nil ?_; obtain ⟨q6, hq6, H⟩ := bnd H; refine WC_cut (fun F w => ∃ (Fb : Fr) (G : Gm), F = upds Fb [(3, .int .i64 q6.1)] ∧ Gle G0 G ∧ Since w0.heap.size G0 w0 G w ∧ Owns G w w0.heap.size [⟨0, 1, 2, .map (some r1), [.string ⟨x0.toArray⟩, .int .i64 ((q6.2 : Nat) : Int)]⟩]) ?_ ?_
 ·refine WC_block (WC_loop hq6 (fun s4 F w => ∃ (Fb : Fr) (G : Gm), F = upds Fb [(3, .int .i64 s4.1), (4, .int .i64 s4.2.1), (8, .pointer (some ⟨r1, 0, none⟩))] ∧ Gle G0 G ∧ Since w0.heap.size G0 w0 G w ∧ Owns G w w0.heap.size [⟨0, 1, 2, .map (some r1), [.string ⟨x0.toArray⟩, .int .i64 ((s4.2.2 : Nat) : Int)]⟩]) ?_ ?_)
  ·have hO : Owns G0 w2 w0.heap.size ([⟨0, 1, 2, .map (some r1), [.string ⟨x0.toArray⟩, .int .i64 ((0 : Nat) : Int)]⟩]) := hO
   exact ⟨_, G0, upds_self _ _ ⟨rfl, rfl, rfl, trivial⟩, Gle.refl _, hS, hO⟩
  ·rintro s4 F w8 t7 ⟨Fb, G9, rfl, leG9, hS, hO⟩
   intro H1 hqq6
   have Hoq6 := H; have H := H1
   unfold f93_b0 at H
   refine WC_seq ?_; refine WC_region ?_
   rcases bcases (decide (s4.2.2 < x0.length)) with hb10 | hb10
   ·have H := ifT hb10 H; refine WL_op rfl (OpP_nextN (k := 0) hS hO rfl rfl rfl hb10 (fun w11 hS hO => ?_))
    have hO : Owns G9 w11 w0.heap.size ([⟨0, 1, 2, .map (some r1), [.string ⟨x0.toArray⟩, .int .i64 (((s4.2.2 + (decN x0 s4.2.2).2) : Nat) : Int)]⟩]) := hO
    refine WL_val (rn_extract (v := (.bool true)) rfl rfl) rfl ?_; refine WL_nil ?_; refine WC_seq ?_; refine WC_condT _ rfl rfl ?_; refine WC_skip ?_; refine WC_block ?_; refine WC_seq ?_; refine WC_region ?_; refine WL_val (rn_extract (v := (.int .i32 ((decN x0 s4.2.2).1))) rfl rfl) rfl ?_; refine WL_val (rn_assign (v := (.int .i32 ((decN x0 s4.2.2).1))) rfl) rfl ?_; refine WL_nil ?_; refine WC_seq ?_; obtain ⟨q12, hq12, H⟩ := bnd H; refine WC_cut (fun F w => ∃ (Fb : Fr), F = upds Fb [(3, .int .i64 s4.1), (4, .int .i64 s4.2.1), (6, .int .i32 ((decN x0 s4.2.2).1)), (8, .pointer (some ⟨r1, 0, none⟩)), (17, .bool q12)] ∧ w11 = w) ?_ ?_
    ·have Hoq12 := H; have H := hq12; refine WC_region ?_; refine WL_val (rn_move (v := (.int .i32 ((decN x0 s4.2.2).1))) rfl) rfl ?_; refine WL_val (rn_geq rfl rfl) rfl ?_; refine WL_val (rn_move (v := (.bool (decide (48 ≤ ((decN x0 s4.2.2).1))))) rfl) rfl ?_
     rcases bcases (decide (48 ≤ ((decN x0 s4.2.2).1))) with hb13 | hb13
     ·have H := ifT hb13 H; refine WL_guardY rfl hb13 rfl rfl ?_; refine WL_val (rn_move (v := (.int .i32 ((decN x0 s4.2.2).1))) rfl) rfl ?_; refine WL_guardY rfl hb13 rfl rfl ?_; refine WL_val (rn_leq rfl rfl) rfl ?_; refine WL_val (rn_pickT (v := (.bool (decide (((decN x0 s4.2.2).1) ≤ 57)))) rfl hb13 rfl) rfl ?_; refine WL_nil ?_; have H := Option.some.inj H; subst H
      exact ⟨_, upds_self _ _ ⟨rfl, rfl, rfl, rfl, rfl, trivial⟩, rfl⟩
     ·have H := ifF hb13 H; refine WL_guardN rfl hb13 rfl rfl rfl ?_; refine WL_guardN rfl hb13 rfl rfl rfl ?_; refine WL_val (rn_pickF (v := (.bool false)) rfl hb13 rfl) rfl ?_; refine WL_nil ?_; have H := Option.some.inj H; subst H
      exact ⟨_, upds_self _ _ ⟨rfl, rfl, rfl, rfl, rfl, trivial⟩, rfl⟩
    ·rintro F wl ⟨Fb, rfl, rfl⟩
     refine WC_cond rfl (fun hb16 => ?_) (fun hb16 => ?_)
     ·have H := ifT hb16 H; refine WC_seq ?_; refine WC_region ?_; refine WL_val (rn_move (v := (.int .i64 s4.1)) rfl) rfl ?_; refine WL_val (rn_move (v := (.int .i32 ((decN x0 s4.2.2).1))) rfl) rfl ?_; refine WL_val (rn_sub rfl rfl) rfl ?_; refine WL_val (rn_conv Tryd.underlying21 Tryd.underlying3 rfl) rfl ?_; refine WL_val (rn_move (v := (.int .i64 s4.2.1)) rfl) rfl ?_
      refine WL_val (rn_rem rfl rfl (by decide)) rfl ?_
      refine WL_val (rn_add rfl rfl) rfl ?_; refine WL_val (rn_mul rfl rfl) rfl ?_; refine WL_val (rn_add rfl rfl) rfl ?_; refine WL_val (rn_assign (v := (.int .i64 (IntKind.i64.wrap (s4.1 + (IntKind.i64.wrap ((IntKind.i64.wrap (IntKind.i32.wrap (((decN x0 s4.2.2).1) - 48))) * (IntKind.i64.wrap (1 + (s4.2.1.tmod 9))))))))) rfl) rfl ?_; refine WL_nil ?_; refine WC_region ?_; refine WL_val (rn_move (v := (.int .i64 s4.2.1)) rfl) rfl ?_; refine WL_val (rn_add rfl rfl) rfl ?_; refine WL_val (rn_assign (v := (.int .i64 (IntKind.i64.wrap (s4.2.1 + 1)))) rfl) rfl ?_; refine WL_nil ?_
      have hO : Owns G9 w11 w0.heap.size ([⟨0, 1, 2, .map (some r1), [.string ⟨x0.toArray⟩, .int .i64 (((s4.2.2 + (decN x0 s4.2.2).2) : Nat) : Int)]⟩]) := hO
      have H := Option.some.inj H; subst H; refine ⟨_, rfl, ?_⟩
      exact ⟨_, G9, upds_self _ _ ⟨rfl, rfl, rfl, trivial⟩, leG9, hS, hO⟩
     ·have H := ifF hb16 H; refine WC_skip ?_
      have hO : Owns G9 w11 w0.heap.size ([⟨0, 1, 2, .map (some r1), [.string ⟨x0.toArray⟩, .int .i64 (((s4.2.2 + (decN x0 s4.2.2).2) : Nat) : Int)]⟩]) := hO
      have H := Option.some.inj H; subst H; refine ⟨_, rfl, ?_⟩
      exact ⟨_, G9, upds_self _ _ ⟨rfl, rfl, rfl, trivial⟩, leG9, hS, hO⟩
   ·have H := ifF hb10 H; refine WL_op rfl (OpP_overN (k := 0) hO rfl rfl rfl hb10 ?_); refine WL_val (rn_extract (v := (.bool false)) rfl rfl) rfl ?_; refine WL_nil ?_; refine WC_seq ?_; refine WC_condF _ rfl rfl ?_; refine WC_exit rfl ?_
    have hO : Owns G9 w8 w0.heap.size ([⟨0, 1, 2, .map (some r1), [.string ⟨x0.toArray⟩, .int .i64 ((s4.2.2 : Nat) : Int)]⟩]) := hO
    have H := Option.some.inj H; subst H
    have hres := hqq6 _ rfl
    subst hres
    exact ⟨_, G9, upds_self _ _ ⟨rfl, trivial⟩, leG9, hS, hO⟩
 ·rintro F w17 ⟨Fb, G18, rfl, leG18, hS, hO⟩
  refine WC_seq ?_; refine WC_region ?_; refine WL_val (rn_move (v := (.int .i64 q6.1)) rfl) rfl ?_
  refine WL_val (rn_rem rfl rfl (by decide)) rfl ?_
  refine WL_val (rn_assign (v := (.int .i64 (q6.1.tmod 97))) rfl) rfl ?_; refine WL_nil ?_; refine WC_seq ?_; refine WC_region ?_; refine WL_val (rn_move (v := (.int .i64 (q6.1.tmod 97))) rfl) rfl ?_
  refine WL_val (rn_quo rfl rfl (by decide)) rfl ?_
  obtain ⟨y19, hy19, H⟩ := bnd H; refine WL_op rfl (OpP_callV cb98 (f98_ok (n := IntKind.i64.wrap ((q6.1.tmod 97).tdiv 10)) hS.sat (hT.mono leG18) hy19) rfl rfl (fun w20 hb => ?_)); have hS := hS.keep hb; have hO := hO.below hb; refine WL_val (rn_move (v := (.int .i64 (q6.1.tmod 97))) rfl) rfl ?_
  refine WL_val (rn_rem rfl rfl (by decide)) rfl ?_
  obtain ⟨y21, hy21, H⟩ := bnd H; refine WL_op rfl (OpP_callV cb98 (f98_ok (n := (q6.1.tmod 97).tmod 10) hS.sat (hT.mono leG18) hy21) rfl rfl (fun w22 hb => ?_)); have hS := hS.keep hb; have hO := hO.below hb; obtain ⟨y23, hy23, H⟩ := bnd H; refine WL_val (rn_catS rfl rfl hy23) rfl ?_; refine WL_val (rn_assign (v := (.string ⟨y23.toArray⟩)) rfl) rfl ?_; refine WL_nil ?_; refine WC_ret ?_
  have H : some y23 = some r := H
  have H := Option.some.inj H; subst H
  exact ⟨rfl, hS.below⟩
set_option maxHeartbeats 1000000 in
theorem f75_ok {G0 : Gm} {w0 : World} (hS0 : Sat G0 w0) {x0 : TLandBook} {a1 : Option Addr} {n1 c1 : Nat} {a2 : Option Addr} {n2 c2 : Nat} {a3 : Option Addr} {n3 c3 : Nat} (hT : TabG Tryd.prog G0) (h1 : RSl RTLandPerson 2 G0 a1 n1 c1 x0.People) (h2 : RSl RTLandEvent 2 G0 a2 n2 c2 x0.Events) (h3 : RSl RTLandMemory 4 G0 a3 n3 c3 x0.Memories) {r : (List UInt8)} (H : f75 x0 = some r) :
  Calls Tryd.prog 75 #[.agg #[.slice a1 n1 c1, .slice a2 n2 c2, .slice a3 n3 c3]] w0 (RetV w0 (.string ⟨r.toArray⟩)) := by
 have hS := Since.start hS0
 have hO : Owns G0 w0 w0.heap.size [] := Owns.nil (Nat.le_refl _)
 unfold f75 at H
 refine enter1 (N := 75) (shutV _ _) Tryd.func75 rfl rfl rfl rfl ?_; refine WC_seq ?_; refine WC_region ?_; refine WL_op rfl (OpP_newF (v := fun b => .pointer (some ⟨b, 0, none⟩)) (cs := [.slice a1 n1 c1, .slice a2 n2 c2, .slice a3 n3 c3]) (e := 26) (rn_boxA rfl) hS.sat rfl (fun b4 G6 w5 hg hcb4 => ?_)); have hS := hS.grow hg; have hO := hO.grow hg
 have leG6 := hg.le
 refine WL_val (rn_assign (v := (.string ⟨([] : List UInt8).toArray⟩)) rfl) rfl ?_; refine WL_nil ?_; refine WC_seq ?_; refine WC_region ?_
 refine WL_op rfl (OpP_newBx (e := 118) (v := fun b => .pointer (some ⟨b, 0, none⟩)) (u1 := .pointer none) (u2 := .slice none 0 0) (by kernel_rfl) hS hO rfl (fun b7 w8 hS hO => ?_))
 have hO := hO.cons_nil 5 1
 have hO : Owns G6 w8 w0.heap.size ([⟨5, 1, 0, .slice none 0 0, []⟩, bx 118 b7 (.pointer none) (.slice none 0 0)]) := hO
 refine WL_nil ?_; refine WC_seq ?_; refine WC_region ?_; refine WL_val (rn_fld fd26_0 rfl) rfl ?_; refine WL_val (rn_load na22 rfl (hS.sat.cell (hcb4 0 _ rfl))) rfl ?_; refine WL_val (rn_len sl22 rfl rfl (h1.mono RTLandPerson_mono leG6).1) rfl ?_; refine WL_val (rn_fld fd26_1 rfl) rfl ?_; refine WL_val (rn_load na23 rfl (hS.sat.cell (hcb4 1 _ rfl))) rfl ?_; refine WL_val (rn_len sl23 rfl rfl (h2.mono RTLandEvent_mono leG6).1) rfl ?_; refine WL_val (rn_fld fd26_2 rfl) rfl ?_; refine WL_val (rn_load na24 rfl (hS.sat.cell (hcb4 2 _ rfl))) rfl ?_; refine WL_val (rn_len sl24 rfl rfl (h3.mono RTLandMemory_mono leG6).1) rfl ?_
 refine WL_op rfl (OpP_newF (v := fun b => .slice (some ⟨b, 0, none⟩) 3 3) (cs := [.int .i64 (x0.People.length : Int), .int .i64 (x0.Events.length : Int), .int .i64 (x0.Memories.length : Int)]) (e := 3) (by kernel_rfl) hS.sat rfl (fun b11 G13 w12 hg hcb11 => ?_))
 have hS := hS.grow hg; have hO := hO.grow hg
 have leG13 := hg.le
 have hfb11 : RSl RInt 1 G13 (some ⟨b11, 0, none⟩) 3 3 [(x0.People.length : Int), (x0.Events.length : Int), (x0.Memories.length : Int)] := RSl.of_rd hcb11 (Rd.cons (c := [.int .i64 (x0.People.length : Int)]) rfl rfl (Rd.cons (c := [.int .i64 (x0.Events.length : Int)]) rfl rfl (Rd.cons (c := [.int .i64 (x0.Memories.length : Int)]) rfl rfl (Rd.nil RInt 1 _)))) rfl (by decide)
 obtain ⟨y14, hy14, H⟩ := bnd H
 have l0_2 := leG6.trans leG13
 refine WL_op rfl (OpP_callV cb90 (f90_ok (x0 := ([108, 97, 110, 100] : List UInt8)) (x1 := [(x0.People.length : Int), (x0.Events.length : Int), (x0.Memories.length : Int)]) hS.sat (hT.mono l0_2) hfb11 hy14) rfl rfl (fun w15 hb => ?_)); have hS := hS.keep hb; have hO := hO.below hb; have hO := hO.front (k := 0) rfl; have hO := hO.front (k := 1) rfl
 have hO : Owns G13 w15 w0.heap.size ([bx 118 b7 (.pointer none) (.slice none 0 0), ⟨5, 1, 0, .slice none 0 0, []⟩]) := hO
 obtain ⟨y16, hy16, H⟩ := bnd H; refine WL_op rfl (OpP_lent (fi := []) (al := [.pointer (some ⟨b7, 0, none⟩), .string ⟨y14.toArray⟩]) (ca := []) cb89 (f89_ok (s := y14) hS hO (.inl rfl) rfl ((Rd.nil RU8 1 G6).mono RU8_mono leG13) hy16) rfl rfl rfl (fun vG18 G18 w17 L19 leG18 hS hO hvG18 => ?_)); obtain ⟨aw17, nw17, cw17, clw17, rfl, rfl, hnw17, hrw17⟩ := hvG18
 have hO : Owns G18 w17 w0.heap.size ([bx 118 b7 (.pointer (some ⟨b7, 0, none⟩)) (.slice aw17 nw17 cw17), ⟨5, 1, nw17, .slice aw17 nw17 cw17, clw17⟩]) := hO
 refine WL_nil ?_; refine WC_seq ?_; refine WC_seq ?_; refine WC_region ?_; refine WL_val (rn_fld fd26_0 rfl) rfl ?_
 have l1_3 := leG13.trans leG18
 refine WL_val (rn_load na22 rfl ((hS.sat.le l1_3).cell (hcb4 0 _ rfl))) rfl ?_
 have l0_3 := l0_2.trans leG18
 refine WL_val (rn_len sl22 rfl rfl (h1.mono RTLandPerson_mono l0_3).1) rfl ?_; refine WL_val (rn_move (v := (.int .i64 0)) rfl) rfl ?_; refine WL_nil ?_; obtain ⟨q22, hq22, H⟩ := bnd H; refine WC_cut (fun F w => ∃ (Fb : Fr) (G : Gm) (aq22_0 : Option Addr) (nq22_0 cq22_0 : Nat) (claq22_0 : List Value), F = upds Fb [(1, .pointer (some ⟨b4, 0, none⟩)), (3, .pointer (some ⟨b7, 0, none⟩))] ∧ Gle G18 G ∧ Since w0.heap.size G0 w0 G w ∧ Owns G w w0.heap.size [bx 118 b7 (.pointer (some ⟨b7, 0, none⟩)) (.slice aq22_0 nq22_0 cq22_0), ⟨5, 1, nq22_0, .slice aq22_0 nq22_0 cq22_0, claq22_0⟩] ∧ nq22_0 = q22.length ∧ Rd RU8 1 G claq22_0 q22) ?_ ?_
 ·refine WC_block (WC_loop hq22 (fun s20 F w => ∃ (Fb : Fr) (G : Gm) (as20_0 : Option Addr) (ns20_0 cs20_0 : Nat) (clas20_0 : List Value), F = upds Fb [(1, .pointer (some ⟨b4, 0, none⟩)), (3, .pointer (some ⟨b7, 0, none⟩)), (23, .slice a1 n1 c1), (24, .int .i64 (x0.People.length : Int)), (25, .int .i64 s20.1)] ∧ Gle G18 G ∧ Since w0.heap.size G0 w0 G w ∧ Owns G w w0.heap.size [bx 118 b7 (.pointer (some ⟨b7, 0, none⟩)) (.slice as20_0 ns20_0 cs20_0), ⟨5, 1, ns20_0, .slice as20_0 ns20_0 cs20_0, clas20_0⟩] ∧ ns20_0 = s20.2.length ∧ Rd RU8 1 G clas20_0 s20.2) ?_ ?_)
  ·have hO : Owns G18 w17 w0.heap.size ([bx 118 b7 (.pointer (some ⟨b7, 0, none⟩)) (.slice aw17 nw17 cw17), ⟨5, 1, nw17, .slice aw17 nw17 cw17, clw17⟩]) := hO
   exact ⟨_, G18, aw17, nw17, cw17, clw17, upds_self _ _ ⟨rfl, rfl, rfl, rfl, rfl, trivial⟩, Gle.refl _, hS, hO, hnw17, hrw17⟩
  ·rintro s20 F w24 t23 ⟨Fb, G25, as20_0, ns20_0, cs20_0, clas20_0, rfl, leG25, hS, hO, hnhs20_0, hs20_0⟩
   intro H1 hqq22
   have Hoq22 := H; have H := H1
   unfold f75_b0 at H
   refine WC_seq ?_; refine WC_region ?_; refine WL_val (rn_lss rfl rfl) rfl ?_; refine WL_nil ?_; refine WC_seq ?_; refine WC_cond rfl (fun hb26 => ?_) (fun hb26 => ?_)
   ·have H := ifT hb26 H; refine WC_skip ?_; refine WC_seq ?_; refine WC_block ?_; refine WC_seq ?_; refine WC_region ?_; obtain ⟨y27, hy27, H⟩ := bnd H
    have l0_4 := l0_3.trans leG25
    refine WL_idx sl22 (h1.mono RTLandPerson_mono l0_4) hy27 rfl rfl rfl ?_
    rintro b28 o28 _ hcb28 _ ⟨⟩
    refine WL_val (rn_loadA ag85 (cs := [.int .i64 y27.Mother, .int .i64 y27.Adopted]) rfl rfl (fun j v hj => hS.sat.cell (hcb28.drop_take 0 2 j v hj))) rfl ?_
    refine WL_op rfl (OpP_newO (v := fun b => .pointer (some ⟨b, 0, none⟩)) (cs := [.int .i64 0, .int .i64 0]) (e := 85) (by kernel_rfl) hS.sat hO rfl 2 1 rfl (by decide) (fun b29 w30 hb hO => ?_))
    have hS := hS.keep hb; refine WL_op rfl (OpP_store (vs := [.int .i64 y27.Mother, .int .i64 y27.Adopted]) sz85 hS hO (k := 0) rfl rfl rfl rfl rfl (one_all rfl) (Nat.le_of_ble_eq_true rfl) (fun w32 hS hO => ?_))
    have hO : Owns G25 w32 w0.heap.size ([⟨85, 2, 1, .slice (some ⟨b29, 0, none⟩) 1 1, [.int .i64 y27.Mother, .int .i64 y27.Adopted]⟩, bx 118 b7 (.pointer (some ⟨b7, 0, none⟩)) (.slice as20_0 ns20_0 cs20_0), ⟨5, 1, ns20_0, .slice as20_0 ns20_0 cs20_0, clas20_0⟩]) := hO
    obtain ⟨G33, leG33, hS, hO, hqG33, _⟩ := hO.freeze hS (k := 0) rfl
    have hcG33 : Cells G33 b29 0 [.int .i64 y27.Mother, .int .i64 y27.Adopted] := (hqG33 _ _ _ _ rfl)
    refine WL_nil ?_; refine WC_region ?_; refine WL_val (rn_loadA ag85 (cs := [.int .i64 y27.Mother, .int .i64 y27.Adopted]) rfl rfl (fun j v hj => hS.sat.cell (hcG33.drop_take 0 2 j v hj))) rfl ?_; obtain ⟨y34, hy34, H⟩ := bnd H
    have l0_5 := l0_4.trans leG33
    refine WL_op rfl (OpP_callV cb91 (f91_ok (x0 := y27) hS.sat (hT.mono l0_5)  hy34) rfl rfl (fun w35 hb => ?_)); have hS := hS.keep hb; have hO := hO.below hb; obtain ⟨y36, hy36, H⟩ := bnd H; refine WL_op rfl (OpP_lent (fi := []) (al := [.pointer (some ⟨b7, 0, none⟩), .string ⟨y34.toArray⟩]) (ca := []) cb89 (f89_ok (s := y34) hS hO (.inr rfl) hnhs20_0 (hs20_0.mono RU8_mono leG33) hy36) rfl rfl rfl (fun vG38 G38 w37 L39 leG38 hS hO hvG38 => ?_)); obtain ⟨aw37, nw37, cw37, clw37, rfl, rfl, hnw37, hrw37⟩ := hvG38
    have hO : Owns G38 w37 w0.heap.size ([bx 118 b7 (.pointer (some ⟨b7, 0, none⟩)) (.slice aw37 nw37 cw37), ⟨5, 1, nw37, .slice aw37 nw37 cw37, clw37⟩]) := hO
    refine WL_nil ?_; refine WC_region ?_; refine WL_val (rn_add rfl rfl) rfl ?_; refine WL_val (rn_move (v := (.int .i64 (IntKind.i64.wrap (s20.1 + 1)))) rfl) rfl ?_; refine WL_nil ?_
    have hO : Owns G38 w37 w0.heap.size ([bx 118 b7 (.pointer (some ⟨b7, 0, none⟩)) (.slice aw37 nw37 cw37), ⟨5, 1, nw37, .slice aw37 nw37 cw37, clw37⟩]) := hO
    have H := Option.some.inj H; subst H; refine ⟨_, rfl, ?_⟩
    have l3_6 := (leG25.trans leG33).trans leG38
    exact ⟨_, G38, aw37, nw37, cw37, clw37, upds_self _ _ ⟨rfl, rfl, rfl, rfl, rfl, trivial⟩, l3_6, hS, hO, hnw37, hrw37⟩
   ·have H := ifF hb26 H; refine WC_exit rfl ?_
    have hO : Owns G25 w24 w0.heap.size ([bx 118 b7 (.pointer (some ⟨b7, 0, none⟩)) (.slice as20_0 ns20_0 cs20_0), ⟨5, 1, ns20_0, .slice as20_0 ns20_0 cs20_0, clas20_0⟩]) := hO
    have H := Option.some.inj H; subst H
    have hres := hqq22 _ rfl
    subst hres
    exact ⟨_, G25, as20_0, ns20_0, cs20_0, clas20_0, upds_self _ _ ⟨rfl, rfl, trivial⟩, leG25, hS, hO, hnhs20_0, hs20_0⟩
 ·rintro F w40 ⟨Fb, G41, aq22_0, nq22_0, cq22_0, claq22_0, rfl, leG41, hS, hO, hnhq22_0, hq22_0⟩
  refine WC_seq ?_; refine WC_seq ?_; refine WC_region ?_; refine WL_val (rn_fld fd26_1 rfl) rfl ?_
  have l1_4 := l1_3.trans leG41
  refine WL_val (rn_load na23 rfl ((hS.sat.le l1_4).cell (hcb4 1 _ rfl))) rfl ?_
  have l0_4 := l0_3.trans leG41
  refine WL_val (rn_len sl23 rfl rfl (h2.mono RTLandEvent_mono l0_4).1) rfl ?_; refine WL_val (rn_move (v := (.int .i64 0)) rfl) rfl ?_; refine WL_nil ?_; obtain ⟨q44, hq44, H⟩ := bnd H; refine WC_cut (fun F w => ∃ (Fb : Fr) (G : Gm) (aq44_0 : Option Addr) (nq44_0 cq44_0 : Nat) (claq44_0 : List Value), F = upds Fb [(1, .pointer (some ⟨b4, 0, none⟩)), (3, .pointer (some ⟨b7, 0, none⟩))] ∧ Gle G41 G ∧ Since w0.heap.size G0 w0 G w ∧ Owns G w w0.heap.size [bx 118 b7 (.pointer (some ⟨b7, 0, none⟩)) (.slice aq44_0 nq44_0 cq44_0), ⟨5, 1, nq44_0, .slice aq44_0 nq44_0 cq44_0, claq44_0⟩] ∧ nq44_0 = q44.length ∧ Rd RU8 1 G claq44_0 q44) ?_ ?_
  ·refine WC_block (WC_loop hq44 (fun s42 F w => ∃ (Fb : Fr) (G : Gm) (as42_0 : Option Addr) (ns42_0 cs42_0 : Nat) (clas42_0 : List Value), F = upds Fb [(1, .pointer (some ⟨b4, 0, none⟩)), (3, .pointer (some ⟨b7, 0, none⟩)), (34, .slice a2 n2 c2), (35, .int .i64 (x0.Events.length : Int)), (36, .int .i64 s42.1)] ∧ Gle G41 G ∧ Since w0.heap.size G0 w0 G w ∧ Owns G w w0.heap.size [bx 118 b7 (.pointer (some ⟨b7, 0, none⟩)) (.slice as42_0 ns42_0 cs42_0), ⟨5, 1, ns42_0, .slice as42_0 ns42_0 cs42_0, clas42_0⟩] ∧ ns42_0 = s42.2.length ∧ Rd RU8 1 G clas42_0 s42.2) ?_ ?_)
   ·have hO : Owns G41 w40 w0.heap.size ([bx 118 b7 (.pointer (some ⟨b7, 0, none⟩)) (.slice aq22_0 nq22_0 cq22_0), ⟨5, 1, nq22_0, .slice aq22_0 nq22_0 cq22_0, claq22_0⟩]) := hO
    exact ⟨_, G41, aq22_0, nq22_0, cq22_0, claq22_0, upds_self _ _ ⟨rfl, rfl, rfl, rfl, rfl, trivial⟩, Gle.refl _, hS, hO, hnhq22_0, hq22_0⟩
   ·rintro s42 F w46 t45 ⟨Fb, G47, as42_0, ns42_0, cs42_0, clas42_0, rfl, leG47, hS, hO, hnhs42_0, hs42_0⟩
    intro H1 hqq44
    have Hoq44 := H; have H := H1
    unfold f75_b1 at H
    refine WC_seq ?_; refine WC_region ?_; refine WL_val (rn_lss rfl rfl) rfl ?_; refine WL_nil ?_; refine WC_seq ?_; refine WC_cond rfl (fun hb48 => ?_) (fun hb48 => ?_)
    ·have H := ifT hb48 H; refine WC_skip ?_; refine WC_seq ?_; refine WC_block ?_; refine WC_seq ?_; refine WC_region ?_; obtain ⟨y49, hy49, H⟩ := bnd H
     have l0_5 := l0_4.trans leG47
     refine WL_idx sl23 (h2.mono RTLandEvent_mono l0_5) hy49 rfl rfl rfl ?_
     rintro b50 o50 _ hcb50 _ ⟨⟩
     refine WL_val (rn_loadA ag69 (cs := [.int .i64 y49.Strip, .int .i64 y49.Holder]) rfl rfl (fun j v hj => hS.sat.cell (hcb50.drop_take 0 2 j v hj))) rfl ?_
     refine WL_op rfl (OpP_newO (v := fun b => .pointer (some ⟨b, 0, none⟩)) (cs := [.int .i64 0, .int .i64 0]) (e := 69) (by kernel_rfl) hS.sat hO rfl 2 1 rfl (by decide) (fun b51 w52 hb hO => ?_))
     have hS := hS.keep hb; refine WL_op rfl (OpP_store (vs := [.int .i64 y49.Strip, .int .i64 y49.Holder]) sz69 hS hO (k := 0) rfl rfl rfl rfl rfl (one_all rfl) (Nat.le_of_ble_eq_true rfl) (fun w54 hS hO => ?_))
     have hO : Owns G47 w54 w0.heap.size ([⟨69, 2, 1, .slice (some ⟨b51, 0, none⟩) 1 1, [.int .i64 y49.Strip, .int .i64 y49.Holder]⟩, bx 118 b7 (.pointer (some ⟨b7, 0, none⟩)) (.slice as42_0 ns42_0 cs42_0), ⟨5, 1, ns42_0, .slice as42_0 ns42_0 cs42_0, clas42_0⟩]) := hO
     obtain ⟨G55, leG55, hS, hO, hqG55, _⟩ := hO.freeze hS (k := 0) rfl
     have hcG55 : Cells G55 b51 0 [.int .i64 y49.Strip, .int .i64 y49.Holder] := (hqG55 _ _ _ _ rfl)
     refine WL_nil ?_; refine WC_region ?_; refine WL_val (rn_fld fd69_0 rfl) rfl ?_; refine WL_val (rn_load na3 rfl (hS.sat.cell (hcG55 0 _ rfl))) rfl ?_; refine WL_val (rn_fld fd69_1 rfl) rfl ?_; refine WL_val (rn_load na3 rfl (hS.sat.cell (hcG55 1 _ rfl))) rfl ?_
     refine WL_op rfl (OpP_newF (v := fun b => .slice (some ⟨b, 0, none⟩) 2 2) (cs := [.int .i64 y49.Strip, .int .i64 y49.Holder]) (e := 3) (by kernel_rfl) hS.sat rfl (fun b56 G58 w57 hg hcb56 => ?_))
     have hS := hS.grow hg; have hO := hO.grow hg
     have leG58 := hg.le
     have hfb56 : RSl RInt 1 G58 (some ⟨b56, 0, none⟩) 2 2 [y49.Strip, y49.Holder] := RSl.of_rd hcb56 (Rd.cons (c := [.int .i64 y49.Strip]) rfl rfl (Rd.cons (c := [.int .i64 y49.Holder]) rfl rfl (Rd.nil RInt 1 _))) rfl (by decide)
     obtain ⟨y59, hy59, H⟩ := bnd H
     have l0_7 := (l0_5.trans leG55).trans leG58
     refine WL_op rfl (OpP_callV cb90 (f90_ok (x0 := ([101, 118, 101, 110, 116] : List UInt8)) (x1 := [y49.Strip, y49.Holder]) hS.sat (hT.mono l0_7) hfb56 hy59) rfl rfl (fun w60 hb => ?_)); have hS := hS.keep hb; have hO := hO.below hb; obtain ⟨y61, hy61, H⟩ := bnd H
     have l5_7 := leG55.trans leG58
     refine WL_op rfl (OpP_lent (fi := []) (al := [.pointer (some ⟨b7, 0, none⟩), .string ⟨y59.toArray⟩]) (ca := []) cb89 (f89_ok (s := y59) hS hO (.inr rfl) hnhs42_0 (hs42_0.mono RU8_mono l5_7) hy61) rfl rfl rfl (fun vG63 G63 w62 L64 leG63 hS hO hvG63 => ?_)); obtain ⟨aw62, nw62, cw62, clw62, rfl, rfl, hnw62, hrw62⟩ := hvG63
     have hO : Owns G63 w62 w0.heap.size ([bx 118 b7 (.pointer (some ⟨b7, 0, none⟩)) (.slice aw62 nw62 cw62), ⟨5, 1, nw62, .slice aw62 nw62 cw62, clw62⟩]) := hO
     refine WL_nil ?_; refine WC_region ?_; refine WL_val (rn_add rfl rfl) rfl ?_; refine WL_val (rn_move (v := (.int .i64 (IntKind.i64.wrap (s42.1 + 1)))) rfl) rfl ?_; refine WL_nil ?_
     have hO : Owns G63 w62 w0.heap.size ([bx 118 b7 (.pointer (some ⟨b7, 0, none⟩)) (.slice aw62 nw62 cw62), ⟨5, 1, nw62, .slice aw62 nw62 cw62, clw62⟩]) := hO
     have H := Option.some.inj H; subst H; refine ⟨_, rfl, ?_⟩
     have l4_8 := (leG47.trans l5_7).trans leG63
     exact ⟨_, G63, aw62, nw62, cw62, clw62, upds_self _ _ ⟨rfl, rfl, rfl, rfl, rfl, trivial⟩, l4_8, hS, hO, hnw62, hrw62⟩
    ·have H := ifF hb48 H; refine WC_exit rfl ?_
     have hO : Owns G47 w46 w0.heap.size ([bx 118 b7 (.pointer (some ⟨b7, 0, none⟩)) (.slice as42_0 ns42_0 cs42_0), ⟨5, 1, ns42_0, .slice as42_0 ns42_0 cs42_0, clas42_0⟩]) := hO
     have H := Option.some.inj H; subst H
     have hres := hqq44 _ rfl
     subst hres
     exact ⟨_, G47, as42_0, ns42_0, cs42_0, clas42_0, upds_self _ _ ⟨rfl, rfl, trivial⟩, leG47, hS, hO, hnhs42_0, hs42_0⟩
  ·rintro F w65 ⟨Fb, G66, aq44_0, nq44_0, cq44_0, claq44_0, rfl, leG66, hS, hO, hnhq44_0, hq44_0⟩
   refine WC_seq ?_; refine WC_seq ?_; refine WC_region ?_; refine WL_val (rn_fld fd26_2 rfl) rfl ?_
   have l1_5 := l1_4.trans leG66
   refine WL_val (rn_load na24 rfl ((hS.sat.le l1_5).cell (hcb4 2 _ rfl))) rfl ?_
   have l0_5 := l0_4.trans leG66
   refine WL_val (rn_len sl24 rfl rfl (h3.mono RTLandMemory_mono l0_5).1) rfl ?_; refine WL_val (rn_move (v := (.int .i64 0)) rfl) rfl ?_; refine WL_nil ?_; obtain ⟨q69, hq69, H⟩ := bnd H; refine WC_cut (fun F w => ∃ (Fb : Fr) (G : Gm) (aq69_0 : Option Addr) (nq69_0 cq69_0 : Nat) (claq69_0 : List Value), F = upds Fb [(3, .pointer (some ⟨b7, 0, none⟩))] ∧ Gle G66 G ∧ Since w0.heap.size G0 w0 G w ∧ Owns G w w0.heap.size [bx 118 b7 (.pointer (some ⟨b7, 0, none⟩)) (.slice aq69_0 nq69_0 cq69_0), ⟨5, 1, nq69_0, .slice aq69_0 nq69_0 cq69_0, claq69_0⟩] ∧ nq69_0 = q69.length ∧ Rd RU8 1 G claq69_0 q69) ?_ ?_
   ·refine WC_block (WC_loop hq69 (fun s67 F w => ∃ (Fb : Fr) (G : Gm) (as67_0 : Option Addr) (ns67_0 cs67_0 : Nat) (clas67_0 : List Value), F = upds Fb [(3, .pointer (some ⟨b7, 0, none⟩)), (49, .slice a3 n3 c3), (50, .int .i64 (x0.Memories.length : Int)), (51, .int .i64 s67.1)] ∧ Gle G66 G ∧ Since w0.heap.size G0 w0 G w ∧ Owns G w w0.heap.size [bx 118 b7 (.pointer (some ⟨b7, 0, none⟩)) (.slice as67_0 ns67_0 cs67_0), ⟨5, 1, ns67_0, .slice as67_0 ns67_0 cs67_0, clas67_0⟩] ∧ ns67_0 = s67.2.length ∧ Rd RU8 1 G clas67_0 s67.2) ?_ ?_)
    ·have hO : Owns G66 w65 w0.heap.size ([bx 118 b7 (.pointer (some ⟨b7, 0, none⟩)) (.slice aq44_0 nq44_0 cq44_0), ⟨5, 1, nq44_0, .slice aq44_0 nq44_0 cq44_0, claq44_0⟩]) := hO
     exact ⟨_, G66, aq44_0, nq44_0, cq44_0, claq44_0, upds_self _ _ ⟨rfl, rfl, rfl, rfl, trivial⟩, Gle.refl _, hS, hO, hnhq44_0, hq44_0⟩
    ·rintro s67 F w71 t70 ⟨Fb, G72, as67_0, ns67_0, cs67_0, clas67_0, rfl, leG72, hS, hO, hnhs67_0, hs67_0⟩
     intro H1 hqq69
     have Hoq69 := H; have H := H1
     unfold f75_b2 at H
     refine WC_seq ?_; refine WC_region ?_; refine WL_val (rn_lss rfl rfl) rfl ?_; refine WL_nil ?_; refine WC_seq ?_; refine WC_cond rfl (fun hb73 => ?_) (fun hb73 => ?_)
     ·have H := ifT hb73 H; refine WC_skip ?_; refine WC_seq ?_; refine WC_block ?_; refine WC_seq ?_; refine WC_region ?_; obtain ⟨y74, hy74, H⟩ := bnd H
      have l0_6 := l0_5.trans leG72
      refine WL_idx sl24 (h3.mono RTLandMemory_mono l0_6) hy74 rfl rfl rfl ?_
      rintro b75 o75 _ hcb75 _ ⟨⟩
      refine WL_val (rn_loadA ag46 (cs := [.int .i64 y74.From, .int .i64 y74.To, .int .i64 y74.Years.Low, .int .i64 y74.Years.High]) rfl rfl (fun j v hj => hS.sat.cell (hcb75.drop_take 0 4 j v hj))) rfl ?_
      refine WL_op rfl (OpP_newO (v := fun b => .pointer (some ⟨b, 0, none⟩)) (cs := [.int .i64 0, .int .i64 0, .int .i64 0, .int .i64 0]) (e := 46) (by kernel_rfl) hS.sat hO rfl 4 1 rfl (by decide) (fun b76 w77 hb hO => ?_))
      have hS := hS.keep hb; refine WL_op rfl (OpP_store (vs := [.int .i64 y74.From, .int .i64 y74.To, .int .i64 y74.Years.Low, .int .i64 y74.Years.High]) sz46 hS hO (k := 0) rfl rfl rfl rfl rfl (one_all rfl) (Nat.le_of_ble_eq_true rfl) (fun w79 hS hO => ?_))
      have hO : Owns G72 w79 w0.heap.size ([⟨46, 4, 1, .slice (some ⟨b76, 0, none⟩) 1 1, [.int .i64 y74.From, .int .i64 y74.To, .int .i64 y74.Years.Low, .int .i64 y74.Years.High]⟩, bx 118 b7 (.pointer (some ⟨b7, 0, none⟩)) (.slice as67_0 ns67_0 cs67_0), ⟨5, 1, ns67_0, .slice as67_0 ns67_0 cs67_0, clas67_0⟩]) := hO
      obtain ⟨G80, leG80, hS, hO, hqG80, _⟩ := hO.freeze hS (k := 0) rfl
      have hcG80 : Cells G80 b76 0 [.int .i64 y74.From, .int .i64 y74.To, .int .i64 y74.Years.Low, .int .i64 y74.Years.High] := (hqG80 _ _ _ _ rfl)
      refine WL_nil ?_; refine WC_region ?_; refine WL_val (rn_fld fd46_0 rfl) rfl ?_; refine WL_val (rn_load na3 rfl (hS.sat.cell (hcG80 0 _ rfl))) rfl ?_; refine WL_val (rn_fld fd46_1 rfl) rfl ?_; refine WL_val (rn_load na3 rfl (hS.sat.cell (hcG80 1 _ rfl))) rfl ?_; refine WL_val (rn_fld fd46_2 rfl) rfl ?_; refine WL_val (rn_fld fd44_0 rfl) rfl ?_; refine WL_val (rn_load na3 rfl (hS.sat.cell (hcG80 2 _ rfl))) rfl ?_; refine WL_val (rn_fld fd46_2 rfl) rfl ?_; refine WL_val (rn_fld fd44_1 rfl) rfl ?_; refine WL_val (rn_load na3 rfl (hS.sat.cell (hcG80 3 _ rfl))) rfl ?_
      refine WL_op rfl (OpP_newF (v := fun b => .slice (some ⟨b, 0, none⟩) 4 4) (cs := [.int .i64 y74.From, .int .i64 y74.To, .int .i64 y74.Years.Low, .int .i64 y74.Years.High]) (e := 3) (by kernel_rfl) hS.sat rfl (fun b81 G83 w82 hg hcb81 => ?_))
      have hS := hS.grow hg; have hO := hO.grow hg
      have leG83 := hg.le
      have hfb81 : RSl RInt 1 G83 (some ⟨b81, 0, none⟩) 4 4 [y74.From, y74.To, y74.Years.Low, y74.Years.High] := RSl.of_rd hcb81 (Rd.cons (c := [.int .i64 y74.From]) rfl rfl (Rd.cons (c := [.int .i64 y74.To]) rfl rfl (Rd.cons (c := [.int .i64 y74.Years.Low]) rfl rfl (Rd.cons (c := [.int .i64 y74.Years.High]) rfl rfl (Rd.nil RInt 1 _))))) rfl (by decide)
      obtain ⟨y84, hy84, H⟩ := bnd H
      have l0_8 := (l0_6.trans leG80).trans leG83
      refine WL_op rfl (OpP_callV cb90 (f90_ok (x0 := ([109, 101, 109, 111, 114, 121] : List UInt8)) (x1 := [y74.From, y74.To, y74.Years.Low, y74.Years.High]) hS.sat (hT.mono l0_8) hfb81 hy84) rfl rfl (fun w85 hb => ?_)); have hS := hS.keep hb; have hO := hO.below hb; obtain ⟨y86, hy86, H⟩ := bnd H
      have l6_8 := leG80.trans leG83
      refine WL_op rfl (OpP_lent (fi := []) (al := [.pointer (some ⟨b7, 0, none⟩), .string ⟨y84.toArray⟩]) (ca := []) cb89 (f89_ok (s := y84) hS hO (.inr rfl) hnhs67_0 (hs67_0.mono RU8_mono l6_8) hy86) rfl rfl rfl (fun vG88 G88 w87 L89 leG88 hS hO hvG88 => ?_)); obtain ⟨aw87, nw87, cw87, clw87, rfl, rfl, hnw87, hrw87⟩ := hvG88
      have hO : Owns G88 w87 w0.heap.size ([bx 118 b7 (.pointer (some ⟨b7, 0, none⟩)) (.slice aw87 nw87 cw87), ⟨5, 1, nw87, .slice aw87 nw87 cw87, clw87⟩]) := hO
      refine WL_nil ?_; refine WC_region ?_; refine WL_val (rn_add rfl rfl) rfl ?_; refine WL_val (rn_move (v := (.int .i64 (IntKind.i64.wrap (s67.1 + 1)))) rfl) rfl ?_; refine WL_nil ?_
      have hO : Owns G88 w87 w0.heap.size ([bx 118 b7 (.pointer (some ⟨b7, 0, none⟩)) (.slice aw87 nw87 cw87), ⟨5, 1, nw87, .slice aw87 nw87 cw87, clw87⟩]) := hO
      have H := Option.some.inj H; subst H; refine ⟨_, rfl, ?_⟩
      have l5_9 := (leG72.trans l6_8).trans leG88
      exact ⟨_, G88, aw87, nw87, cw87, clw87, upds_self _ _ ⟨rfl, rfl, rfl, rfl, trivial⟩, l5_9, hS, hO, hnw87, hrw87⟩
     ·have H := ifF hb73 H; refine WC_exit rfl ?_
      have hO : Owns G72 w71 w0.heap.size ([bx 118 b7 (.pointer (some ⟨b7, 0, none⟩)) (.slice as67_0 ns67_0 cs67_0), ⟨5, 1, ns67_0, .slice as67_0 ns67_0 cs67_0, clas67_0⟩]) := hO
      have H := Option.some.inj H; subst H
      have hres := hqq69 _ rfl
      subst hres
      exact ⟨_, G72, as67_0, ns67_0, cs67_0, clas67_0, upds_self _ _ ⟨rfl, trivial⟩, leG72, hS, hO, hnhs67_0, hs67_0⟩
   ·rintro F w90 ⟨Fb, G91, aq69_0, nq69_0, cq69_0, claq69_0, rfl, leG91, hS, hO, hnhq69_0, hq69_0⟩
    refine WC_seq ?_; refine WC_region ?_; obtain ⟨_, hz93, H⟩ := bnd H; refine WL_op rfl (OpP_lent (fi := []) (al := [.pointer (some ⟨b7, 0, none⟩)]) (ca := []) cb92 (f92_own hS hO hnhq69_0 hq69_0 (neS_some hz93)) rfl rfl rfl (fun vG94 G94 w92 L95 leG94 hS hO hvG94 => ?_)); obtain ⟨rfl, rfl, hqw92, hfw92⟩ := hvG94
    have hO : Owns G94 w92 w0.heap.size ([bx 118 b7 (.pointer (some ⟨b7, 0, none⟩)) (.slice aq69_0 nq69_0 cq69_0)]) := hO
    obtain ⟨y96, hy96, H⟩ := bnd H; refine WL_val (rn_catS rfl rfl hy96) rfl ?_; refine WL_op rfl (OpP_callV cb92 (f92_fz hS.sat (bx_cell1 hO (k := 0) rfl) hqw92 hfw92 (neS_some hz93)) rfl rfl (fun w97 hb => ?_)); have hS := hS.keep hb; have hO := hO.below hb; obtain ⟨y98, hy98, H⟩ := bnd H
    have l0_7 := (l0_5.trans leG91).trans leG94
    refine WL_op rfl (OpP_callV cb93 (f93_ok (x0 := q69) hS.sat (hT.mono l0_7)  hy98) rfl rfl (fun w99 hb => ?_)); have hS := hS.keep hb; have hO := hO.below hb; obtain ⟨y100, hy100, H⟩ := bnd H; refine WL_val (rn_catS rfl rfl hy100) rfl ?_; obtain ⟨y101, hy101, H⟩ := bnd H; refine WL_val (rn_catS rfl rfl hy101) rfl ?_; refine WL_val (rn_assign (v := (.string ⟨y101.toArray⟩)) rfl) rfl ?_; refine WL_nil ?_; refine WC_ret ?_
    have H : some y101 = some r := H
    have H := Option.some.inj H; subst H
    exact ⟨rfl, hS.below⟩
set_option maxHeartbeats 1000000 in
theorem f50_ok {G0 : Gm} {w0 : World} (hS0 : Sat G0 w0) {x0 : TLandBook} {a1 : Option Addr} {n1 c1 : Nat} {a2 : Option Addr} {n2 c2 : Nat} {a3 : Option Addr} {n3 c3 : Nat} (hT : TabG Tryd.prog G0) (h1 : RSl RTLandPerson 2 G0 a1 n1 c1 x0.People) (h2 : RSl RTLandEvent 2 G0 a2 n2 c2 x0.Events) (h3 : RSl RTLandMemory 4 G0 a3 n3 c3 x0.Memories) {r : (List UInt8) × Int} (H : f50 x0 = some r) :
  Calls Tryd.prog 50 #[.agg #[.slice a1 n1 c1, .slice a2 n2 c2, .slice a3 n3 c3]] w0 (RetV w0 (.tuple #[.string ⟨r.1.toArray⟩, .int .i64 r.2])) := by
 have hS := Since.start hS0
 have hO : Owns G0 w0 w0.heap.size [] := Owns.nil (Nat.le_refl _)
 unfold f50 at H
 refine enter2 (N := 9) (shutV _ _) Tryd.func50 rfl rfl rfl rfl ?_; refine WC_seq ?_; refine WC_region ?_; refine WL_op rfl (OpP_newF (v := fun b => .pointer (some ⟨b, 0, none⟩)) (cs := [.slice a1 n1 c1, .slice a2 n2 c2, .slice a3 n3 c3]) (e := 26) (rn_boxA rfl) hS.sat rfl (fun b4 G6 w5 hg hcb4 => ?_)); have hS := hS.grow hg; have hO := hO.grow hg
 have leG6 := hg.le
 refine WL_val (rn_assign (v := (.string ⟨([] : List UInt8).toArray⟩)) rfl) rfl ?_; refine WL_val (rn_assign (v := (.int .i64 0)) rfl) rfl ?_; refine WL_nil ?_; refine WC_seq ?_; refine WC_seq ?_; refine WC_region ?_; refine WL_val (rn_loadA ag26 (cs := [.slice a1 n1 c1, .slice a2 n2 c2, .slice a3 n3 c3]) rfl rfl (fun j v hj => hS.sat.cell (hcb4.drop_take 0 3 j v hj))) rfl ?_; obtain ⟨y7, hy7, H⟩ := bnd H; refine WL_op rfl (OpP_callV cb51 (f51_ok (x0 := x0) hS.sat (h1.mono RTLandPerson_mono leG6) (h2.mono RTLandEvent_mono leG6) (h3.mono RTLandMemory_mono leG6) hy7) rfl rfl (fun w8 hb => ?_)); have hS := hS.keep hb; have hO := hO.below hb; refine WL_val (rn_not rfl) rfl ?_; refine WL_nil ?_; refine WC_cond rfl (fun hb9 => ?_) (fun hb9 => ?_)
 ·have H := ifT hb9 H; refine WC_seq ?_; refine WC_region ?_; refine WL_val (rn_assign (v := (.string ⟨([] : List UInt8).toArray⟩)) rfl) rfl ?_; refine WL_val (rn_assign (v := (.int .i64 2)) rfl) rfl ?_; refine WL_nil ?_; refine WC_ret ?_
  have H : some (([] : List UInt8), 2) = some r := H
  have H := Option.some.inj H; subst H
  exact ⟨rfl, hS.below⟩
 ·have H := ifF hb9 H; refine WC_skip ?_; refine WC_seq ?_; refine WC_region ?_; refine WL_val (rn_loadA ag26 (cs := [.slice a1 n1 c1, .slice a2 n2 c2, .slice a3 n3 c3]) rfl rfl (fun j v hj => hS.sat.cell (hcb4.drop_take 0 3 j v hj))) rfl ?_; obtain ⟨y10, hy10, H⟩ := bnd H; refine WL_op rfl (OpP_callV cb75 (f75_ok (x0 := x0) hS.sat (hT.mono leG6) (h1.mono RTLandPerson_mono leG6) (h2.mono RTLandEvent_mono leG6) (h3.mono RTLandMemory_mono leG6) hy10) rfl rfl (fun w11 hb => ?_)); have hS := hS.keep hb; have hO := hO.below hb; refine WL_val (rn_assign (v := (.string ⟨y10.toArray⟩)) rfl) rfl ?_; refine WL_val (rn_assign (v := (.int .i64 0)) rfl) rfl ?_; refine WL_nil ?_; refine WC_ret ?_
  have H : some (y10, 0) = some r := H
  have H := Option.some.inj H; subst H
  exact ⟨rfl, hS.below⟩
set_option maxHeartbeats 1000000 in
theorem f15_ok {G0 : Gm} {w0 : World} (hS0 : Sat G0 w0)  (hT : TabG Tryd.prog G0) {r : Bool} (H : f15 = some r) :
  Calls Tryd.prog 15 #[] w0 (RetV w0 (.bool r)) := by
 have hS := Since.start hS0
 have hO : Owns G0 w0 w0.heap.size [] := Owns.nil (Nat.le_refl _)
 unfold f15 at H
 refine enter1 (N := 98) (shutV _ _) Tryd.func15 rfl rfl rfl rfl ?_; refine WC_seq ?_; refine WC_region ?_; refine WL_val (rn_assign (v := (.bool false)) rfl) rfl ?_; refine WL_nil ?_; refine WC_seq ?_; refine WC_region ?_; obtain ⟨y1, hy1, H⟩ := bnd H; refine WL_op rfl (OpP_callG cb48 (f48_ok  hS.sat  hy1) rfl rfl (fun vy1 G3 w2 hg hvy1 => ?_)); obtain ⟨a4, n4, c4, a5, n5, c5, a6, n6, c6, ⟨⟩, h4, h5, h6⟩ := hvy1; have hS := hS.grow hg; have hO := hO.grow hg
 have leG3 := hg.le
 obtain ⟨y7, hy7, H⟩ := bnd H; refine WL_op rfl (OpP_callG cb28 (f28_ok (x0 := y1) hS.sat h4 h5 h6 hy7) rfl rfl (fun vy7 G9 w8 hg hvy7 => ?_)); obtain ⟨a10, n10, c10, ⟨⟩, h10⟩ := hvy7; have hS := hS.grow hg; have hO := hO.grow hg
 have leG9 := hg.le
 refine WL_val (rn_move (v := (.tuple #[.slice a10 n10 c10, .int .i64 y7.2])) rfl) rfl ?_; refine WL_val (rn_extract (v := (.slice a10 n10 c10)) rfl rfl) rfl ?_; refine WL_val (rn_extract (v := (.int .i64 y7.2)) rfl rfl) rfl ?_; refine WL_val (rn_assign (v := (.slice a10 n10 c10)) rfl) rfl ?_; refine WL_val (rn_assign (v := (.int .i64 y7.2)) rfl) rfl ?_; refine WL_nil ?_; refine WC_seq ?_; refine WC_region ?_; obtain ⟨y11, hy11, H⟩ := bnd H; refine WL_op rfl (OpP_callG cb48 (f48_ok  hS.sat  hy11) rfl rfl (fun vy11 G13 w12 hg hvy11 => ?_)); obtain ⟨a14, n14, c14, a15, n15, c15, a16, n16, c16, ⟨⟩, h14, h15, h16⟩ := hvy11; have hS := hS.grow hg; have hO := hO.grow hg
 have leG13 := hg.le
 obtain ⟨y17, hy17, H⟩ := bnd H; refine WL_op rfl (OpP_callV cb43 (f43_ok (x0 := y11) (x1 := 2) (x2 := 3) hS.sat h14 h15 h16 hy17) rfl rfl (fun w18 hb => ?_)); have hS := hS.keep hb; have hO := hO.below hb; refine WL_val (rn_move (v := (.tuple #[.agg #[.int .i64 y17.1.Low, .int .i64 y17.1.High], .int .i64 y17.2])) rfl) rfl ?_; refine WL_val (rn_extract (v := (.agg #[.int .i64 y17.1.Low, .int .i64 y17.1.High])) rfl rfl) rfl ?_; refine WL_val (rn_extract (v := (.int .i64 y17.2)) rfl rfl) rfl ?_
 refine WL_op rfl (OpP_newO (v := fun b => .pointer (some ⟨b, 0, none⟩)) (cs := [.int .i64 0, .int .i64 0]) (e := 44) (by kernel_rfl) hS.sat hO rfl 2 1 rfl (by decide) (fun b19 w20 hb hO => ?_))
 have hS := hS.keep hb; refine WL_op rfl (OpP_store (vs := [.int .i64 y17.1.Low, .int .i64 y17.1.High]) sz44 hS hO (k := 0) rfl rfl rfl rfl rfl (one_all rfl) (Nat.le_of_ble_eq_true rfl) (fun w22 hS hO => ?_))
 have hO : Owns G13 w22 w0.heap.size ([⟨44, 2, 1, .slice (some ⟨b19, 0, none⟩) 1 1, [.int .i64 y17.1.Low, .int .i64 y17.1.High]⟩]) := hO
 obtain ⟨G23, leG23, hS, hO, hqG23, _⟩ := hO.freeze hS (k := 0) rfl
 have hcG23 : Cells G23 b19 0 [.int .i64 y17.1.Low, .int .i64 y17.1.High] := (hqG23 _ _ _ _ rfl)
 refine WL_val (rn_assign (v := (.int .i64 y17.2)) rfl) rfl ?_; refine WL_nil ?_; refine WC_seq ?_; refine WC_region ?_; obtain ⟨y24, hy24, H⟩ := bnd H; refine WL_op rfl (OpP_callG cb49 (f49_ok  hS.sat  hy24) rfl rfl (fun vy24 G26 w25 hg hvy24 => ?_)); obtain ⟨a27, n27, c27, a28, n28, c28, a29, n29, c29, ⟨⟩, h27, h28, h29⟩ := hvy24; have hS := hS.grow hg; have hO := hO.grow hg
 have leG26 := hg.le
 obtain ⟨y30, hy30, H⟩ := bnd H; refine WL_op rfl (OpP_callG cb16 (f16_ok (x0 := y24) hS.sat h27 h28 h29 hy30) rfl rfl (fun vy30 G32 w31 hg hvy30 => ?_)); obtain ⟨a33, n33, c33, ⟨⟩, h33⟩ := hvy30; have hS := hS.grow hg; have hO := hO.grow hg
 have leG32 := hg.le
 refine WL_val (rn_move (v := (.tuple #[.slice a33 n33 c33, .int .i64 y30.2])) rfl) rfl ?_; refine WL_val (rn_extract (v := (.slice a33 n33 c33)) rfl rfl) rfl ?_; refine WL_val (rn_extract (v := (.int .i64 y30.2)) rfl rfl) rfl ?_; refine WL_val (rn_assign (v := (.slice a33 n33 c33)) rfl) rfl ?_; refine WL_val (rn_assign (v := (.int .i64 y30.2)) rfl) rfl ?_; refine WL_nil ?_; refine WC_seq ?_; refine WC_region ?_; obtain ⟨y34, hy34, H⟩ := bnd H; refine WL_op rfl (OpP_callG cb49 (f49_ok  hS.sat  hy34) rfl rfl (fun vy34 G36 w35 hg hvy34 => ?_)); obtain ⟨a37, n37, c37, a38, n38, c38, a39, n39, c39, ⟨⟩, h37, h38, h39⟩ := hvy34; have hS := hS.grow hg; have hO := hO.grow hg
 have leG36 := hg.le
 obtain ⟨y40, hy40, H⟩ := bnd H; refine WL_op rfl (OpP_callG cb17 (f17_ok (x0 := y34) hS.sat h37 h38 h39 hy40) rfl rfl (fun vy40 G42 w41 hg hvy40 => ?_)); obtain ⟨a43, n43, c43, ⟨⟩, h43⟩ := hvy40; have hS := hS.grow hg; have hO := hO.grow hg
 have leG42 := hg.le
 refine WL_val (rn_move (v := (.tuple #[.slice a43 n43 c43, .int .i64 y40.2])) rfl) rfl ?_; refine WL_val (rn_extract (v := (.slice a43 n43 c43)) rfl rfl) rfl ?_; refine WL_val (rn_extract (v := (.int .i64 y40.2)) rfl rfl) rfl ?_; refine WL_val (rn_assign (v := (.slice a43 n43 c43)) rfl) rfl ?_; refine WL_val (rn_assign (v := (.int .i64 y40.2)) rfl) rfl ?_; refine WL_nil ?_; refine WC_seq ?_; refine WC_region ?_; obtain ⟨y44, hy44, H⟩ := bnd H; refine WL_op rfl (OpP_callG cb48 (f48_ok  hS.sat  hy44) rfl rfl (fun vy44 G46 w45 hg hvy44 => ?_)); obtain ⟨a47, n47, c47, a48, n48, c48, a49, n49, c49, ⟨⟩, h47, h48, h49⟩ := hvy44; have hS := hS.grow hg; have hO := hO.grow hg
 have leG46 := hg.le
 obtain ⟨y50, hy50, H⟩ := bnd H; refine WL_op rfl (OpP_callG cb35 (f35_ok (x0 := y44) (x1 := 0) hS.sat h47 h48 h49 hy50) rfl rfl (fun vy50 G52 w51 hg hvy50 => ?_)); obtain ⟨a53, n53, c53, ⟨⟩, h53⟩ := hvy50; have hS := hS.grow hg; have hO := hO.grow hg
 have leG52 := hg.le
 refine WL_val (rn_move (v := (.tuple #[.slice a53 n53 c53, .int .i64 y50.2.1, .int .i64 y50.2.2])) rfl) rfl ?_; refine WL_val (rn_extract (v := (.slice a53 n53 c53)) rfl rfl) rfl ?_; refine WL_val (rn_extract (v := (.int .i64 y50.2.1)) rfl rfl) rfl ?_; refine WL_val (rn_extract (v := (.int .i64 y50.2.2)) rfl rfl) rfl ?_; refine WL_val (rn_assign (v := (.slice a53 n53 c53)) rfl) rfl ?_; refine WL_val (rn_assign (v := (.int .i64 y50.2.1)) rfl) rfl ?_; refine WL_val (rn_assign (v := (.int .i64 y50.2.2)) rfl) rfl ?_; refine WL_nil ?_; refine WC_seq ?_; refine WC_region ?_; obtain ⟨y54, hy54, H⟩ := bnd H; refine WL_op rfl (OpP_callG cb48 (f48_ok  hS.sat  hy54) rfl rfl (fun vy54 G56 w55 hg hvy54 => ?_)); obtain ⟨a57, n57, c57, a58, n58, c58, a59, n59, c59, ⟨⟩, h57, h58, h59⟩ := hvy54; have hS := hS.grow hg; have hO := hO.grow hg
 have leG56 := hg.le
 obtain ⟨y60, hy60, H⟩ := bnd H
 have l0_11 := (((((((((leG3.trans leG9).trans leG13).trans leG23).trans leG26).trans leG32).trans leG36).trans leG42).trans leG46).trans leG52).trans leG56
 refine WL_op rfl (OpP_callV cb50 (f50_ok (x0 := y54) hS.sat (hT.mono l0_11) h57 h58 h59 hy60) rfl rfl (fun w61 hb => ?_)); have hS := hS.keep hb; have hO := hO.below hb; refine WL_val (rn_move (v := (.tuple #[.string ⟨y60.1.toArray⟩, .int .i64 y60.2])) rfl) rfl ?_; refine WL_val (rn_extract (v := (.string ⟨y60.1.toArray⟩)) rfl rfl) rfl ?_; refine WL_val (rn_extract (v := (.int .i64 y60.2)) rfl rfl) rfl ?_; refine WL_val (rn_assign (v := (.string ⟨y60.1.toArray⟩)) rfl) rfl ?_; refine WL_val (rn_assign (v := (.int .i64 y60.2)) rfl) rfl ?_; refine WL_nil ?_; refine WC_seq ?_; refine WC_seq ?_; obtain ⟨q62, hq62, H⟩ := bnd H; refine WC_cut (fun F w => ∃ (Fb : Fr), F = upds Fb [(1, .slice a10 n10 c10), (3, .pointer (some ⟨b19, 0, none⟩)), (5, .slice a33 n33 c33), (7, .slice a43 n43 c43), (9, .slice a53 n53 c53), (10, .int .i64 y50.2.1), (12, .string ⟨y60.1.toArray⟩), (66, .bool q62)] ∧ w61 = w) ?_ ?_
 ·have Hoq62 := H; have H := hq62; refine WC_region ?_; refine WL_val (rn_move (v := (.int .i64 y7.2)) rfl) rfl ?_; refine WL_val (rn_neq rfl rfl) rfl ?_; refine WL_val (rn_move (v := (.bool (y7.2 != 0))) rfl) rfl ?_
  rcases bcases (y7.2 != 0) with hb63 | hb63
  ·have H := ifT hb63 H; refine WL_guardN rfl hb63 rfl rfl rfl ?_; refine WL_guardN rfl hb63 rfl rfl rfl ?_; refine WL_val (rn_pickT (v := (.bool true)) rfl hb63 rfl) rfl ?_; refine WL_val (rn_move (v := (.bool true)) rfl) rfl ?_; refine WL_guardN rfl rfl rfl rfl rfl ?_; refine WL_guardN rfl rfl rfl rfl rfl ?_; refine WL_val (rn_pickT (v := (.bool true)) rfl rfl rfl) rfl ?_; refine WL_val (rn_move (v := (.bool true)) rfl) rfl ?_; refine WL_guardN rfl rfl rfl rfl rfl ?_; refine WL_guardN rfl rfl rfl rfl rfl ?_; refine WL_val (rn_pickT (v := (.bool true)) rfl rfl rfl) rfl ?_; refine WL_val (rn_move (v := (.bool true)) rfl) rfl ?_; refine WL_guardN rfl rfl rfl rfl rfl ?_; refine WL_guardN rfl rfl rfl rfl rfl ?_; refine WL_val (rn_pickT (v := (.bool true)) rfl rfl rfl) rfl ?_; refine WL_val (rn_move (v := (.bool true)) rfl) rfl ?_; refine WL_guardN rfl rfl rfl rfl rfl ?_; refine WL_guardN rfl rfl rfl rfl rfl ?_; refine WL_val (rn_pickT (v := (.bool true)) rfl rfl rfl) rfl ?_; refine WL_nil ?_; have H := Option.some.inj H; subst H
   exact ⟨_, upds_self _ _ ⟨rfl, rfl, rfl, rfl, rfl, rfl, rfl, rfl, trivial⟩, rfl⟩
  ·have H := ifF hb63 H; refine WL_guardY rfl hb63 rfl rfl ?_; refine WL_val (rn_move (v := (.int .i64 y17.2)) rfl) rfl ?_; refine WL_guardY rfl hb63 rfl rfl ?_; refine WL_val (rn_neq rfl rfl) rfl ?_; refine WL_val (rn_pickF (v := (.bool (y17.2 != 0))) rfl hb63 rfl) rfl ?_; refine WL_val (rn_move (v := (.bool (y17.2 != 0))) rfl) rfl ?_
   rcases bcases (y17.2 != 0) with hb64 | hb64
   ·have H := ifT hb64 H; refine WL_guardN rfl hb64 rfl rfl rfl ?_; refine WL_guardN rfl hb64 rfl rfl rfl ?_; refine WL_val (rn_pickT (v := (.bool true)) rfl hb64 rfl) rfl ?_; refine WL_val (rn_move (v := (.bool true)) rfl) rfl ?_; refine WL_guardN rfl rfl rfl rfl rfl ?_; refine WL_guardN rfl rfl rfl rfl rfl ?_; refine WL_val (rn_pickT (v := (.bool true)) rfl rfl rfl) rfl ?_; refine WL_val (rn_move (v := (.bool true)) rfl) rfl ?_; refine WL_guardN rfl rfl rfl rfl rfl ?_; refine WL_guardN rfl rfl rfl rfl rfl ?_; refine WL_val (rn_pickT (v := (.bool true)) rfl rfl rfl) rfl ?_; refine WL_val (rn_move (v := (.bool true)) rfl) rfl ?_; refine WL_guardN rfl rfl rfl rfl rfl ?_; refine WL_guardN rfl rfl rfl rfl rfl ?_; refine WL_val (rn_pickT (v := (.bool true)) rfl rfl rfl) rfl ?_; refine WL_nil ?_; have H := Option.some.inj H; subst H
    exact ⟨_, upds_self _ _ ⟨rfl, rfl, rfl, rfl, rfl, rfl, rfl, rfl, trivial⟩, rfl⟩
   ·have H := ifF hb64 H; refine WL_guardY rfl hb64 rfl rfl ?_; refine WL_val (rn_move (v := (.int .i64 y30.2)) rfl) rfl ?_; refine WL_guardY rfl hb64 rfl rfl ?_; refine WL_val (rn_neq rfl rfl) rfl ?_; refine WL_val (rn_pickF (v := (.bool (y30.2 != 0))) rfl hb64 rfl) rfl ?_; refine WL_val (rn_move (v := (.bool (y30.2 != 0))) rfl) rfl ?_
    rcases bcases (y30.2 != 0) with hb65 | hb65
    ·have H := ifT hb65 H; refine WL_guardN rfl hb65 rfl rfl rfl ?_; refine WL_guardN rfl hb65 rfl rfl rfl ?_; refine WL_val (rn_pickT (v := (.bool true)) rfl hb65 rfl) rfl ?_; refine WL_val (rn_move (v := (.bool true)) rfl) rfl ?_; refine WL_guardN rfl rfl rfl rfl rfl ?_; refine WL_guardN rfl rfl rfl rfl rfl ?_; refine WL_val (rn_pickT (v := (.bool true)) rfl rfl rfl) rfl ?_; refine WL_val (rn_move (v := (.bool true)) rfl) rfl ?_; refine WL_guardN rfl rfl rfl rfl rfl ?_; refine WL_guardN rfl rfl rfl rfl rfl ?_; refine WL_val (rn_pickT (v := (.bool true)) rfl rfl rfl) rfl ?_; refine WL_nil ?_; have H := Option.some.inj H; subst H
     exact ⟨_, upds_self _ _ ⟨rfl, rfl, rfl, rfl, rfl, rfl, rfl, rfl, trivial⟩, rfl⟩
    ·have H := ifF hb65 H; refine WL_guardY rfl hb65 rfl rfl ?_; refine WL_val (rn_move (v := (.int .i64 y40.2)) rfl) rfl ?_; refine WL_guardY rfl hb65 rfl rfl ?_; refine WL_val (rn_neq rfl rfl) rfl ?_; refine WL_val (rn_pickF (v := (.bool (y40.2 != 0))) rfl hb65 rfl) rfl ?_; refine WL_val (rn_move (v := (.bool (y40.2 != 0))) rfl) rfl ?_
     rcases bcases (y40.2 != 0) with hb66 | hb66
     ·have H := ifT hb66 H; refine WL_guardN rfl hb66 rfl rfl rfl ?_; refine WL_guardN rfl hb66 rfl rfl rfl ?_; refine WL_val (rn_pickT (v := (.bool true)) rfl hb66 rfl) rfl ?_; refine WL_val (rn_move (v := (.bool true)) rfl) rfl ?_; refine WL_guardN rfl rfl rfl rfl rfl ?_; refine WL_guardN rfl rfl rfl rfl rfl ?_; refine WL_val (rn_pickT (v := (.bool true)) rfl rfl rfl) rfl ?_; refine WL_nil ?_; have H := Option.some.inj H; subst H
      exact ⟨_, upds_self _ _ ⟨rfl, rfl, rfl, rfl, rfl, rfl, rfl, rfl, trivial⟩, rfl⟩
     ·have H := ifF hb66 H; refine WL_guardY rfl hb66 rfl rfl ?_; refine WL_val (rn_move (v := (.int .i64 y50.2.2)) rfl) rfl ?_; refine WL_guardY rfl hb66 rfl rfl ?_; refine WL_val (rn_neq rfl rfl) rfl ?_; refine WL_val (rn_pickF (v := (.bool (y50.2.2 != 0))) rfl hb66 rfl) rfl ?_; refine WL_val (rn_move (v := (.bool (y50.2.2 != 0))) rfl) rfl ?_
      rcases bcases (y50.2.2 != 0) with hb67 | hb67
      ·have H := ifT hb67 H; refine WL_guardN rfl hb67 rfl rfl rfl ?_; refine WL_guardN rfl hb67 rfl rfl rfl ?_; refine WL_val (rn_pickT (v := (.bool true)) rfl hb67 rfl) rfl ?_; refine WL_nil ?_; have H := Option.some.inj H; subst H
       exact ⟨_, upds_self _ _ ⟨rfl, rfl, rfl, rfl, rfl, rfl, rfl, rfl, trivial⟩, rfl⟩
      ·have H := ifF hb67 H; refine WL_guardY rfl hb67 rfl rfl ?_; refine WL_val (rn_move (v := (.int .i64 y60.2)) rfl) rfl ?_; refine WL_guardY rfl hb67 rfl rfl ?_; refine WL_val (rn_neq rfl rfl) rfl ?_; refine WL_val (rn_pickF (v := (.bool (y60.2 != 0))) rfl hb67 rfl) rfl ?_; refine WL_nil ?_; have H := Option.some.inj H; subst H
       exact ⟨_, upds_self _ _ ⟨rfl, rfl, rfl, rfl, rfl, rfl, rfl, rfl, trivial⟩, rfl⟩
 ·rintro F wl ⟨Fb, rfl, rfl⟩
  refine WC_cond rfl (fun hb70 => ?_) (fun hb70 => ?_)
  ·have H := ifT hb70 H; refine WC_seq ?_; refine WC_region ?_; refine WL_val (rn_assign (v := (.bool false)) rfl) rfl ?_; refine WL_nil ?_; refine WC_ret ?_
   have H : some false = some r := H
   have H := Option.some.inj H; subst H
   exact ⟨rfl, hS.below⟩
  ·have H := ifF hb70 H; refine WC_skip ?_; refine WC_seq ?_; obtain ⟨q71, hq71, H⟩ := bnd H; refine WC_cut (fun F w => ∃ (Fb : Fr) (G : Gm), F = upds Fb [(0, .bool q71)] ∧ Gle G56 G ∧ Since w0.heap.size G0 w0 G w ∧ Owns G w w0.heap.size []) ?_ ?_
   ·have Hoq71 := H; have H := hq71; refine WC_region ?_; refine WL_val (rn_move (v := (.slice a10 n10 c10)) rfl) rfl ?_
    refine WL_op rfl (OpP_newF (v := fun b => .slice (some ⟨b, 0, none⟩) 4 4) (cs := [.int .i64 0, .int .i64 10, .int .i64 15, .int .i64 7]) (e := 3) (by kernel_rfl) hS.sat rfl (fun b72 G74 w73 hg hcb72 => ?_))
    have hS := hS.grow hg; have hO := hO.grow hg
    have leG74 := hg.le
    have hfb72 : RSl RInt 1 G74 (some ⟨b72, 0, none⟩) 4 4 [0, 10, 15, 7] := RSl.of_rd hcb72 (Rd.cons (c := [.int .i64 0]) rfl rfl (Rd.cons (c := [.int .i64 10]) rfl rfl (Rd.cons (c := [.int .i64 15]) rfl rfl (Rd.cons (c := [.int .i64 7]) rfl rfl (Rd.nil RInt 1 _))))) rfl (by decide)
    obtain ⟨y75, hy75, H⟩ := bnd H
    have l2_12 := ((((((((leG13.trans leG23).trans leG26).trans leG32).trans leG36).trans leG42).trans leG46).trans leG52).trans leG56).trans leG74
    refine WL_op rfl (OpP_callV cb20 (f20_ok (x0 := y7.1) (x1 := [0, 10, 15, 7]) hS.sat (h10.mono RInt_mono l2_12) hfb72 hy75) rfl rfl (fun w76 hb => ?_)); have hS := hS.keep hb; have hO := hO.below hb; refine WL_val (rn_move (v := (.bool y75)) rfl) rfl ?_
    rcases bcases y75 with hb77 | hb77
    ·have H := ifT hb77 H; refine WL_guardY rfl hb77 rfl rfl ?_
     have l4_12 := ((((((leG26.trans leG32).trans leG36).trans leG42).trans leG46).trans leG52).trans leG56).trans leG74
     refine WL_val (rn_loadA ag44 (cs := [.int .i64 y17.1.Low, .int .i64 y17.1.High]) rfl rfl (fun j v hj => (hS.sat.le l4_12).cell (hcG23.drop_take 0 2 j v hj))) rfl ?_; refine WL_guardY rfl hb77 rfl rfl ?_
     refine WL_val (v := (.agg #[.int .i64 (-9), .int .i64 (-5)])) (by kernel_rfl) rfl ?_
     refine WL_guardY rfl hb77 rfl rfl ?_; refine WL_val (rn_eqlA (xs := [y17.1.Low, y17.1.High]) (ys := [(-9), (-5)]) in44 rfl rfl rfl rfl) rfl ?_; refine WL_val (rn_pickT (v := (.bool (([y17.1.Low, y17.1.High] : List Int) == [(-9), (-5)]))) rfl hb77 rfl) rfl ?_; refine WL_val (rn_move (v := (.bool (([y17.1.Low, y17.1.High] : List Int) == [(-9), (-5)]))) rfl) rfl ?_
     rcases bcases (([y17.1.Low, y17.1.High] : List Int) == [(-9), (-5)]) with hb78 | hb78
     ·have H := ifT hb78 H; refine WL_guardY rfl hb78 rfl rfl ?_; refine WL_val (rn_move (v := (.slice a33 n33 c33)) rfl) rfl ?_; refine WL_guardY rfl hb78 rfl rfl ?_
      refine WL_op rfl (OpP_newF (v := fun b => .slice (some ⟨b, 0, none⟩) 3 3) (cs := [.int .i64 1, .int .i64 2, .int .i64 4]) (e := 3) (by kernel_rfl) hS.sat rfl (fun b79 G81 w80 hg hcb79 => ?_))
      have hS := hS.grow hg; have hO := hO.grow hg
      have leG81 := hg.le
      have hfb79 : RSl RInt 1 G81 (some ⟨b79, 0, none⟩) 3 3 [1, 2, 4] := RSl.of_rd hcb79 (Rd.cons (c := [.int .i64 1]) rfl rfl (Rd.cons (c := [.int .i64 2]) rfl rfl (Rd.cons (c := [.int .i64 4]) rfl rfl (Rd.nil RInt 1 _)))) rfl (by decide)
      refine WL_guardY rfl hb78 rfl rfl ?_; obtain ⟨y82, hy82, H⟩ := bnd H
      have l6_13 := (((((leG36.trans leG42).trans leG46).trans leG52).trans leG56).trans leG74).trans leG81
      refine WL_op rfl (OpP_callV cb20 (f20_ok (x0 := y30.1) (x1 := [1, 2, 4]) hS.sat (h33.mono RInt_mono l6_13) hfb79 hy82) rfl rfl (fun w83 hb => ?_)); have hS := hS.keep hb; have hO := hO.below hb; refine WL_val (rn_pickT (v := (.bool y82)) rfl hb78 rfl) rfl ?_; refine WL_val (rn_move (v := (.bool y82)) rfl) rfl ?_
      rcases bcases y82 with hb84 | hb84
      ·have H := ifT hb84 H; refine WL_guardY rfl hb84 rfl rfl ?_; refine WL_val (rn_move (v := (.slice a43 n43 c43)) rfl) rfl ?_; refine WL_guardY rfl hb84 rfl rfl ?_
       refine WL_op rfl (OpP_newF (v := fun b => .slice (some ⟨b, 0, none⟩) 1 1) (cs := [.int .i64 1]) (e := 3) (by kernel_rfl) hS.sat rfl (fun b85 G87 w86 hg hcb85 => ?_))
       have hS := hS.grow hg; have hO := hO.grow hg
       have leG87 := hg.le
       have hfb85 : RSl RInt 1 G87 (some ⟨b85, 0, none⟩) 1 1 [1] := RSl.of_rd hcb85 (Rd.cons (c := [.int .i64 1]) rfl rfl (Rd.nil RInt 1 _)) rfl (by decide)
       refine WL_guardY rfl hb84 rfl rfl ?_; obtain ⟨y88, hy88, H⟩ := bnd H
       have l8_14 := ((((leG46.trans leG52).trans leG56).trans leG74).trans leG81).trans leG87
       refine WL_op rfl (OpP_callV cb20 (f20_ok (x0 := y40.1) (x1 := [1]) hS.sat (h43.mono RInt_mono l8_14) hfb85 hy88) rfl rfl (fun w89 hb => ?_)); have hS := hS.keep hb; have hO := hO.below hb; refine WL_val (rn_pickT (v := (.bool y88)) rfl hb84 rfl) rfl ?_; refine WL_val (rn_move (v := (.bool y88)) rfl) rfl ?_
       rcases bcases y88 with hb90 | hb90
       ·have H := ifT hb90 H; refine WL_guardY rfl hb90 rfl rfl ?_; refine WL_val (rn_move (v := (.slice a53 n53 c53)) rfl) rfl ?_; refine WL_guardY rfl hb90 rfl rfl ?_
        refine WL_op rfl (OpP_newF (v := fun b => .slice (some ⟨b, 0, none⟩) 3 3) (cs := [.int .i64 0, .int .i64 1, .int .i64 2]) (e := 3) (by kernel_rfl) hS.sat rfl (fun b91 G93 w92 hg hcb91 => ?_))
        have hS := hS.grow hg; have hO := hO.grow hg
        have leG93 := hg.le
        have hfb91 : RSl RInt 1 G93 (some ⟨b91, 0, none⟩) 3 3 [0, 1, 2] := RSl.of_rd hcb91 (Rd.cons (c := [.int .i64 0]) rfl rfl (Rd.cons (c := [.int .i64 1]) rfl rfl (Rd.cons (c := [.int .i64 2]) rfl rfl (Rd.nil RInt 1 _)))) rfl (by decide)
        refine WL_guardY rfl hb90 rfl rfl ?_; obtain ⟨y94, hy94, H⟩ := bnd H
        have l10_15 := (((leG56.trans leG74).trans leG81).trans leG87).trans leG93
        refine WL_op rfl (OpP_callV cb20 (f20_ok (x0 := y50.1) (x1 := [0, 1, 2]) hS.sat (h53.mono RInt_mono l10_15) hfb91 hy94) rfl rfl (fun w95 hb => ?_)); have hS := hS.keep hb; have hO := hO.below hb; refine WL_val (rn_pickT (v := (.bool y94)) rfl hb90 rfl) rfl ?_; refine WL_val (rn_move (v := (.bool y94)) rfl) rfl ?_
        rcases bcases y94 with hb96 | hb96
        ·have H := ifT hb96 H; refine WL_guardY rfl hb96 rfl rfl ?_; refine WL_val (rn_move (v := (.int .i64 y50.2.1)) rfl) rfl ?_; refine WL_guardY rfl hb96 rfl rfl ?_; refine WL_val (rn_eql rfl rfl) rfl ?_; refine WL_val (rn_pickT (v := (.bool (y50.2.1 == (-1)))) rfl hb96 rfl) rfl ?_; refine WL_val (rn_move (v := (.bool (y50.2.1 == (-1)))) rfl) rfl ?_
         rcases bcases (y50.2.1 == (-1)) with hb97 | hb97
         ·have H := ifT hb97 H; refine WL_guardY rfl hb97 rfl rfl ?_; refine WL_val (rn_move (v := (.string ⟨y60.1.toArray⟩)) rfl) rfl ?_; refine WL_guardY rfl hb97 rfl rfl ?_; refine WL_val (rn_eqlS rfl rfl) rfl ?_; refine WL_val (rn_pickT (v := (.bool (y60.1 == ([108, 97, 110, 100, 32, 52, 32, 52, 32, 52, 10, 112, 101, 114, 115, 111, 110, 32, 45, 32, 45, 10, 112, 101, 114, 115, 111, 110, 32, 48, 32, 45, 10, 112, 101, 114, 115, 111, 110, 32, 49, 32, 45, 10, 112, 101, 114, 115, 111, 110, 32, 45, 32, 48, 10, 101, 118, 101, 110, 116, 32, 48, 32, 48, 10, 101, 118, 101, 110, 116, 32, 48, 32, 49, 10, 101, 118, 101, 110, 116, 32, 48, 32, 50, 10, 101, 118, 101, 110, 116, 32, 49, 32, 49, 10, 109, 101, 109, 111, 114, 121, 32, 48, 32, 49, 32, 49, 48, 32, 50, 48, 10, 109, 101, 109, 111, 114, 121, 32, 49, 32, 50, 32, 53, 32, 56, 10, 109, 101, 109, 111, 114, 121, 32, 48, 32, 50, 32, 49, 50, 32, 49, 54, 10, 109, 101, 109, 111, 114, 121, 32, 49, 32, 51, 32, 45, 51, 32, 48, 10, 101, 110, 100, 32, 51, 54, 10] : List UInt8)))) rfl hb97 rfl) rfl ?_; refine WL_val (rn_assign (v := (.bool (y60.1 == ([108, 97, 110, 100, 32, 52, 32, 52, 32, 52, 10, 112, 101, 114, 115, 111, 110, 32, 45, 32, 45, 10, 112, 101, 114, 115, 111, 110, 32, 48, 32, 45, 10, 112, 101, 114, 115, 111, 110, 32, 49, 32, 45, 10, 112, 101, 114, 115, 111, 110, 32, 45, 32, 48, 10, 101, 118, 101, 110, 116, 32, 48, 32, 48, 10, 101, 118, 101, 110, 116, 32, 48, 32, 49, 10, 101, 118, 101, 110, 116, 32, 48, 32, 50, 10, 101, 118, 101, 110, 116, 32, 49, 32, 49, 10, 109, 101, 109, 111, 114, 121, 32, 48, 32, 49, 32, 49, 48, 32, 50, 48, 10, 109, 101, 109, 111, 114, 121, 32, 49, 32, 50, 32, 53, 32, 56, 10, 109, 101, 109, 111, 114, 121, 32, 48, 32, 50, 32, 49, 50, 32, 49, 54, 10, 109, 101, 109, 111, 114, 121, 32, 49, 32, 51, 32, 45, 51, 32, 48, 10, 101, 110, 100, 32, 51, 54, 10] : List UInt8)))) rfl) rfl ?_; refine WL_nil ?_
          have hO : Owns G93 w95 w0.heap.size ([]) := hO
          have H := Option.some.inj H; subst H
          have l11_15 := ((leG74.trans leG81).trans leG87).trans leG93
          exact ⟨_, G93, upds_self _ _ ⟨rfl, trivial⟩, l11_15, hS, hO⟩
         ·have H := ifF hb97 H; refine WL_guardN rfl hb97 rfl rfl rfl ?_; refine WL_guardN rfl hb97 rfl rfl rfl ?_; refine WL_val (rn_pickF (v := (.bool false)) rfl hb97 rfl) rfl ?_; refine WL_val (rn_assign (v := (.bool false)) rfl) rfl ?_; refine WL_nil ?_
          have hO : Owns G93 w95 w0.heap.size ([]) := hO
          have H := Option.some.inj H; subst H
          have l11_15 := ((leG74.trans leG81).trans leG87).trans leG93
          exact ⟨_, G93, upds_self _ _ ⟨rfl, trivial⟩, l11_15, hS, hO⟩
        ·have H := ifF hb96 H; refine WL_guardN rfl hb96 rfl rfl rfl ?_; refine WL_guardN rfl hb96 rfl rfl rfl ?_; refine WL_val (rn_pickF (v := (.bool false)) rfl hb96 rfl) rfl ?_; refine WL_val (rn_move (v := (.bool false)) rfl) rfl ?_; refine WL_guardN rfl rfl rfl rfl rfl ?_; refine WL_guardN rfl rfl rfl rfl rfl ?_; refine WL_val (rn_pickF (v := (.bool false)) rfl rfl rfl) rfl ?_; refine WL_val (rn_assign (v := (.bool false)) rfl) rfl ?_; refine WL_nil ?_
         have hO : Owns G93 w95 w0.heap.size ([]) := hO
         have H := Option.some.inj H; subst H
         have l11_15 := ((leG74.trans leG81).trans leG87).trans leG93
         exact ⟨_, G93, upds_self _ _ ⟨rfl, trivial⟩, l11_15, hS, hO⟩
       ·have H := ifF hb90 H; refine WL_guardN rfl hb90 rfl rfl rfl ?_; refine WL_guardN rfl hb90 rfl rfl rfl ?_; refine WL_guardN rfl hb90 rfl rfl rfl ?_; refine WL_val (rn_pickF (v := (.bool false)) rfl hb90 rfl) rfl ?_; refine WL_val (rn_move (v := (.bool false)) rfl) rfl ?_; refine WL_guardN rfl rfl rfl rfl rfl ?_; refine WL_guardN rfl rfl rfl rfl rfl ?_; refine WL_val (rn_pickF (v := (.bool false)) rfl rfl rfl) rfl ?_; refine WL_val (rn_move (v := (.bool false)) rfl) rfl ?_; refine WL_guardN rfl rfl rfl rfl rfl ?_; refine WL_guardN rfl rfl rfl rfl rfl ?_; refine WL_val (rn_pickF (v := (.bool false)) rfl rfl rfl) rfl ?_; refine WL_val (rn_assign (v := (.bool false)) rfl) rfl ?_; refine WL_nil ?_
        have hO : Owns G87 w89 w0.heap.size ([]) := hO
        have H := Option.some.inj H; subst H
        have l11_14 := (leG74.trans leG81).trans leG87
        exact ⟨_, G87, upds_self _ _ ⟨rfl, trivial⟩, l11_14, hS, hO⟩
      ·have H := ifF hb84 H; refine WL_guardN rfl hb84 rfl rfl rfl ?_; refine WL_guardN rfl hb84 rfl rfl rfl ?_; refine WL_guardN rfl hb84 rfl rfl rfl ?_; refine WL_val (rn_pickF (v := (.bool false)) rfl hb84 rfl) rfl ?_; refine WL_val (rn_move (v := (.bool false)) rfl) rfl ?_; refine WL_guardN rfl rfl rfl rfl rfl ?_; refine WL_guardN rfl rfl rfl rfl rfl ?_; refine WL_guardN rfl rfl rfl rfl rfl ?_; refine WL_val (rn_pickF (v := (.bool false)) rfl rfl rfl) rfl ?_; refine WL_val (rn_move (v := (.bool false)) rfl) rfl ?_; refine WL_guardN rfl rfl rfl rfl rfl ?_; refine WL_guardN rfl rfl rfl rfl rfl ?_; refine WL_val (rn_pickF (v := (.bool false)) rfl rfl rfl) rfl ?_; refine WL_val (rn_move (v := (.bool false)) rfl) rfl ?_; refine WL_guardN rfl rfl rfl rfl rfl ?_; refine WL_guardN rfl rfl rfl rfl rfl ?_; refine WL_val (rn_pickF (v := (.bool false)) rfl rfl rfl) rfl ?_; refine WL_val (rn_assign (v := (.bool false)) rfl) rfl ?_; refine WL_nil ?_
       have hO : Owns G81 w83 w0.heap.size ([]) := hO
       have H := Option.some.inj H; subst H
       have l11_13 := leG74.trans leG81
       exact ⟨_, G81, upds_self _ _ ⟨rfl, trivial⟩, l11_13, hS, hO⟩
     ·have H := ifF hb78 H; refine WL_guardN rfl hb78 rfl rfl rfl ?_; refine WL_guardN rfl hb78 rfl rfl rfl ?_; refine WL_guardN rfl hb78 rfl rfl rfl ?_; refine WL_val (rn_pickF (v := (.bool false)) rfl hb78 rfl) rfl ?_; refine WL_val (rn_move (v := (.bool false)) rfl) rfl ?_; refine WL_guardN rfl rfl rfl rfl rfl ?_; refine WL_guardN rfl rfl rfl rfl rfl ?_; refine WL_guardN rfl rfl rfl rfl rfl ?_; refine WL_val (rn_pickF (v := (.bool false)) rfl rfl rfl) rfl ?_; refine WL_val (rn_move (v := (.bool false)) rfl) rfl ?_; refine WL_guardN rfl rfl rfl rfl rfl ?_; refine WL_guardN rfl rfl rfl rfl rfl ?_; refine WL_guardN rfl rfl rfl rfl rfl ?_; refine WL_val (rn_pickF (v := (.bool false)) rfl rfl rfl) rfl ?_; refine WL_val (rn_move (v := (.bool false)) rfl) rfl ?_; refine WL_guardN rfl rfl rfl rfl rfl ?_; refine WL_guardN rfl rfl rfl rfl rfl ?_; refine WL_val (rn_pickF (v := (.bool false)) rfl rfl rfl) rfl ?_; refine WL_val (rn_move (v := (.bool false)) rfl) rfl ?_; refine WL_guardN rfl rfl rfl rfl rfl ?_; refine WL_guardN rfl rfl rfl rfl rfl ?_; refine WL_val (rn_pickF (v := (.bool false)) rfl rfl rfl) rfl ?_; refine WL_val (rn_assign (v := (.bool false)) rfl) rfl ?_; refine WL_nil ?_
      have hO : Owns G74 w76 w0.heap.size ([]) := hO
      have H := Option.some.inj H; subst H
      exact ⟨_, G74, upds_self _ _ ⟨rfl, trivial⟩, leG74, hS, hO⟩
    ·have H := ifF hb77 H; refine WL_guardN rfl hb77 rfl rfl rfl ?_; refine WL_guardN rfl hb77 rfl rfl rfl ?_; refine WL_guardN rfl hb77 rfl rfl rfl ?_; refine WL_val (rn_pickF (v := (.bool false)) rfl hb77 rfl) rfl ?_; refine WL_val (rn_move (v := (.bool false)) rfl) rfl ?_; refine WL_guardN rfl rfl rfl rfl rfl ?_; refine WL_guardN rfl rfl rfl rfl rfl ?_; refine WL_guardN rfl rfl rfl rfl rfl ?_; refine WL_val (rn_pickF (v := (.bool false)) rfl rfl rfl) rfl ?_; refine WL_val (rn_move (v := (.bool false)) rfl) rfl ?_; refine WL_guardN rfl rfl rfl rfl rfl ?_; refine WL_guardN rfl rfl rfl rfl rfl ?_; refine WL_guardN rfl rfl rfl rfl rfl ?_; refine WL_val (rn_pickF (v := (.bool false)) rfl rfl rfl) rfl ?_; refine WL_val (rn_move (v := (.bool false)) rfl) rfl ?_; refine WL_guardN rfl rfl rfl rfl rfl ?_; refine WL_guardN rfl rfl rfl rfl rfl ?_; refine WL_guardN rfl rfl rfl rfl rfl ?_; refine WL_val (rn_pickF (v := (.bool false)) rfl rfl rfl) rfl ?_; refine WL_val (rn_move (v := (.bool false)) rfl) rfl ?_; refine WL_guardN rfl rfl rfl rfl rfl ?_; refine WL_guardN rfl rfl rfl rfl rfl ?_; refine WL_val (rn_pickF (v := (.bool false)) rfl rfl rfl) rfl ?_; refine WL_val (rn_move (v := (.bool false)) rfl) rfl ?_; refine WL_guardN rfl rfl rfl rfl rfl ?_; refine WL_guardN rfl rfl rfl rfl rfl ?_; refine WL_val (rn_pickF (v := (.bool false)) rfl rfl rfl) rfl ?_; refine WL_val (rn_assign (v := (.bool false)) rfl) rfl ?_; refine WL_nil ?_
     have hO : Owns G74 w76 w0.heap.size ([]) := hO
     have H := Option.some.inj H; subst H
     exact ⟨_, G74, upds_self _ _ ⟨rfl, trivial⟩, leG74, hS, hO⟩
   ·rintro F w98 ⟨Fb, G99, rfl, leG99, hS, hO⟩
    refine WC_ret ?_
    have H : some q71 = some r := H
    have H := Option.some.inj H; subst H
    exact ⟨rfl, hS.below⟩
set_option maxHeartbeats 1000000 in
theorem f60_ok {G0 : Gm} {w0 : World} (hS0 : Sat G0 w0) {x0 : Int} {x1 : Int} {x2 : Int}  {r : Bool} (H : f60 x0 x1 x2 = some r) :
  Calls Tryd.prog 60 #[.int .i64 x0, .int .i64 x1, .int .i64 x2] w0 (RetV w0 (.bool r)) := by
 have hS := Since.start hS0
 have hO : Owns G0 w0 w0.heap.size [] := Owns.nil (Nat.le_refl _)
 unfold f60 at H
 refine enter1 (N := 15) (shutV _ _) Tryd.func60 rfl rfl rfl rfl ?_; refine WC_seq ?_; refine WC_region ?_; refine WL_val (rn_assign (v := (.bool false)) rfl) rfl ?_; refine WL_nil ?_; refine WC_seq ?_; obtain ⟨q1, hq1, H⟩ := bnd H; refine WC_cut (fun F w => ∃ (Fb : Fr), F = upds Fb [(6, .bool q1)] ∧ w0 = w) ?_ ?_
 ·have Hoq1 := H; have H := hq1; refine WC_region ?_; refine WL_val (rn_move (v := (.int .i64 x0)) rfl) rfl ?_; refine WL_val (rn_move (v := (.int .i64 x1)) rfl) rfl ?_; refine WL_val (rn_geq rfl rfl) rfl ?_; refine WL_val (rn_move (v := (.bool (decide (x1 ≤ x0)))) rfl) rfl ?_
  rcases bcases (decide (x1 ≤ x0)) with hb2 | hb2
  ·have H := ifT hb2 H; refine WL_guardY rfl hb2 rfl rfl ?_; refine WL_val (rn_move (v := (.int .i64 x0)) rfl) rfl ?_; refine WL_guardY rfl hb2 rfl rfl ?_; refine WL_val (rn_move (v := (.int .i64 x2)) rfl) rfl ?_; refine WL_guardY rfl hb2 rfl rfl ?_; refine WL_val (rn_leq rfl rfl) rfl ?_; refine WL_val (rn_pickT (v := (.bool (decide (x0 ≤ x2)))) rfl hb2 rfl) rfl ?_; refine WL_val (rn_assign (v := (.bool (decide (x0 ≤ x2)))) rfl) rfl ?_; refine WL_nil ?_; have H := Option.some.inj H; subst H
   exact ⟨_, upds_self _ _ ⟨rfl, trivial⟩, rfl⟩
  ·have H := ifF hb2 H; refine WL_guardN rfl hb2 rfl rfl rfl ?_; refine WL_guardN rfl hb2 rfl rfl rfl ?_; refine WL_guardN rfl hb2 rfl rfl rfl ?_; refine WL_val (rn_pickF (v := (.bool false)) rfl hb2 rfl) rfl ?_; refine WL_val (rn_assign (v := (.bool false)) rfl) rfl ?_; refine WL_nil ?_; have H := Option.some.inj H; subst H
   exact ⟨_, upds_self _ _ ⟨rfl, trivial⟩, rfl⟩
 ·rintro F wl ⟨Fb, rfl, rfl⟩
  refine WC_ret ?_
  have H : some q1 = some r := H
  have H := Option.some.inj H; subst H
  exact ⟨rfl, hS.below⟩
set_option maxHeartbeats 1000000 in
theorem f33_ok {G0 : Gm} {w0 : World} (hS0 : Sat G0 w0) {x0 : Int}  {r : Bool} (H : f33 x0 = some r) :
  Calls Tryd.prog 33 #[.int .i64 x0] w0 (RetV w0 (.bool r)) := by
 have hS := Since.start hS0
 have hO : Owns G0 w0 w0.heap.size [] := Owns.nil (Nat.le_refl _)
 unfold f33 at H
 refine enter1 (N := 5) (shutV _ _) Tryd.func33 rfl rfl rfl rfl ?_; refine WC_seq ?_; refine WC_region ?_; refine WL_val (rn_assign (v := (.bool false)) rfl) rfl ?_; refine WL_nil ?_; refine WC_seq ?_; refine WC_region ?_; refine WL_val (rn_move (v := (.int .i64 x0)) rfl) rfl ?_; obtain ⟨y1, hy1, H⟩ := bnd H; refine WL_op rfl (OpP_callV cb60 (f60_ok (x0 := x0) (x1 := 0) (x2 := 5) hS.sat  hy1) rfl rfl (fun w2 hb => ?_)); have hS := hS.keep hb; have hO := hO.below hb; refine WL_val (rn_assign (v := (.bool y1)) rfl) rfl ?_; refine WL_nil ?_; refine WC_ret ?_
 have H : some y1 = some r := H
 have H := Option.some.inj H; subst H
 exact ⟨rfl, hS.below⟩
set_option maxHeartbeats 1000000 in
theorem f38_ok {G0 : Gm} {w0 : World} (hS0 : Sat G0 w0) {x0 : TLandBook} {a1 : Option Addr} {n1 c1 : Nat} {a2 : Option Addr} {n2 c2 : Nat} {a3 : Option Addr} {n3 c3 : Nat} {x1 : Int} (h1 : RSl RTLandPerson 2 G0 a1 n1 c1 x0.People) (h2 : RSl RTLandEvent 2 G0 a2 n2 c2 x0.Events) (h3 : RSl RTLandMemory 4 G0 a3 n3 c3 x0.Memories) {r : Bool} (H : f38 x0 x1 = some r) :
  Calls Tryd.prog 38 #[.agg #[.slice a1 n1 c1, .slice a2 n2 c2, .slice a3 n3 c3], .int .i64 x1] w0 (RetV w0 (.bool r)) := by
 have hS := Since.start hS0
 have hO : Owns G0 w0 w0.heap.size [] := Owns.nil (Nat.le_refl _)
 unfold f38 at H
 refine enter1 (N := 11) (shutV _ _) Tryd.func38 rfl rfl rfl rfl ?_; refine WC_seq ?_; refine WC_region ?_; refine WL_op rfl (OpP_newF (v := fun b => .pointer (some ⟨b, 0, none⟩)) (cs := [.slice a1 n1 c1, .slice a2 n2 c2, .slice a3 n3 c3]) (e := 26) (rn_boxA rfl) hS.sat rfl (fun b4 G6 w5 hg hcb4 => ?_)); have hS := hS.grow hg; have hO := hO.grow hg
 have leG6 := hg.le
 refine WL_val (rn_assign (v := (.bool false)) rfl) rfl ?_; refine WL_nil ?_; refine WC_seq ?_; refine WC_region ?_; refine WL_val (rn_move (v := (.int .i64 x1)) rfl) rfl ?_; refine WL_val (rn_fld fd26_0 rfl) rfl ?_; refine WL_val (rn_load na22 rfl (hS.sat.cell (hcb4 0 _ rfl))) rfl ?_; refine WL_val (rn_len sl22 rfl rfl (h1.mono RTLandPerson_mono leG6).1) rfl ?_; refine WL_val (rn_sub rfl rfl) rfl ?_; obtain ⟨y7, hy7, H⟩ := bnd H; refine WL_op rfl (OpP_callV cb60 (f60_ok (x0 := x1) (x1 := 0) (x2 := IntKind.i64.wrap ((x0.People.length : Int) - 1)) hS.sat  hy7) rfl rfl (fun w8 hb => ?_)); have hS := hS.keep hb; have hO := hO.below hb; refine WL_val (rn_assign (v := (.bool y7)) rfl) rfl ?_; refine WL_nil ?_; refine WC_ret ?_
 have H : some y7 = some r := H
 have H := Option.some.inj H; subst H
 exact ⟨rfl, hS.below⟩
set_option maxHeartbeats 1000000 in
theorem f45_ok {G0 : Gm} {w0 : World} (hS0 : Sat G0 w0) {x0 : TLandBook} {a1 : Option Addr} {n1 c1 : Nat} {a2 : Option Addr} {n2 c2 : Nat} {a3 : Option Addr} {n3 c3 : Nat} {x1 : Int} (h1 : RSl RTLandPerson 2 G0 a1 n1 c1 x0.People) (h2 : RSl RTLandEvent 2 G0 a2 n2 c2 x0.Events) (h3 : RSl RTLandMemory 4 G0 a3 n3 c3 x0.Memories) {r : Bool} (H : f45 x0 x1 = some r) :
  Calls Tryd.prog 45 #[.agg #[.slice a1 n1 c1, .slice a2 n2 c2, .slice a3 n3 c3], .int .i64 x1] w0 (RetV w0 (.bool r)) := by
 have hS := Since.start hS0
 have hO : Owns G0 w0 w0.heap.size [] := Owns.nil (Nat.le_refl _)
 unfold f45 at H
 refine enter1 (N := 11) (shutV _ _) Tryd.func45 rfl rfl rfl rfl ?_; refine WC_seq ?_; refine WC_region ?_; refine WL_op rfl (OpP_newF (v := fun b => .pointer (some ⟨b, 0, none⟩)) (cs := [.slice a1 n1 c1, .slice a2 n2 c2, .slice a3 n3 c3]) (e := 26) (rn_boxA rfl) hS.sat rfl (fun b4 G6 w5 hg hcb4 => ?_)); have hS := hS.grow hg; have hO := hO.grow hg
 have leG6 := hg.le
 refine WL_val (rn_assign (v := (.bool false)) rfl) rfl ?_; refine WL_nil ?_; refine WC_seq ?_; refine WC_region ?_; refine WL_val (rn_move (v := (.int .i64 x1)) rfl) rfl ?_; refine WL_val (rn_fld fd26_1 rfl) rfl ?_; refine WL_val (rn_load na23 rfl (hS.sat.cell (hcb4 1 _ rfl))) rfl ?_; refine WL_val (rn_len sl23 rfl rfl (h2.mono RTLandEvent_mono leG6).1) rfl ?_; refine WL_val (rn_sub rfl rfl) rfl ?_; obtain ⟨y7, hy7, H⟩ := bnd H; refine WL_op rfl (OpP_callV cb60 (f60_ok (x0 := x1) (x1 := 0) (x2 := IntKind.i64.wrap ((x0.Events.length : Int) - 1)) hS.sat  hy7) rfl rfl (fun w8 hb => ?_)); have hS := hS.keep hb; have hO := hO.below hb; refine WL_val (rn_assign (v := (.bool y7)) rfl) rfl ?_; refine WL_nil ?_; refine WC_ret ?_
 have H : some y7 = some r := H
 have H := Option.some.inj H; subst H
 exact ⟨rfl, hS.below⟩
set_option maxHeartbeats 1000000 in
theorem f18_ok {G0 : Gm} {w0 : World} (hS0 : Sat G0 w0) {x0 : TLandBook} {a1 : Option Addr} {n1 c1 : Nat} {a2 : Option Addr} {n2 c2 : Nat} {a3 : Option Addr} {n3 c3 : Nat} (h1 : RSl RTLandPerson 2 G0 a1 n1 c1 x0.People) (h2 : RSl RTLandEvent 2 G0 a2 n2 c2 x0.Events) (h3 : RSl RTLandMemory 4 G0 a3 n3 c3 x0.Memories) {r : Bool} (H : f18 x0 = some r) :
  Calls Tryd.prog 18 #[.agg #[.slice a1 n1 c1, .slice a2 n2 c2, .slice a3 n3 c3]] w0 (RetV w0 (.bool r)) := by
 have hS := Since.start hS0
 have hO : Owns G0 w0 w0.heap.size [] := Owns.nil (Nat.le_refl _)
 unfold f18 at H
 refine enter1 (N := 130) (shutV _ _) Tryd.func18 rfl rfl rfl rfl ?_; refine WC_seq ?_; refine WC_region ?_; refine WL_op rfl (OpP_newF (v := fun b => .pointer (some ⟨b, 0, none⟩)) (cs := [.slice a1 n1 c1, .slice a2 n2 c2, .slice a3 n3 c3]) (e := 26) (rn_boxA rfl) hS.sat rfl (fun b4 G6 w5 hg hcb4 => ?_)); have hS := hS.grow hg; have hO := hO.grow hg
 have leG6 := hg.le
 refine WL_val (rn_assign (v := (.bool false)) rfl) rfl ?_; refine WL_nil ?_; refine WC_seq ?_; refine WC_seq ?_; refine WC_region ?_; refine WL_val (rn_assign (v := (.int .i64 0)) rfl) rfl ?_; refine WL_nil ?_; obtain ⟨q9, hq9, H⟩ := bnd H; refine WC_cut (fun F w => ∃ (p8 : Unit) (Fb : Fr) (G : Gm), q9 = .inl p8 ∧ F = upds Fb [(1, .pointer (some ⟨b4, 0, none⟩))] ∧ Gle G6 G ∧ Since w0.heap.size G0 w0 G w ∧ Owns G w w0.heap.size []) ?_ ?_
 ·refine WC_block (WC_loop hq9 (fun s7 F w => ∃ (Fb : Fr) (G : Gm), F = upds Fb [(1, .pointer (some ⟨b4, 0, none⟩)), (3, .int .i64 s7)] ∧ Gle G6 G ∧ Since w0.heap.size G0 w0 G w ∧ Owns G w w0.heap.size []) ?_ ?_)
  ·have hO : Owns G6 w5 w0.heap.size ([]) := hO
   exact ⟨_, G6, upds_self _ _ ⟨rfl, rfl, trivial⟩, Gle.refl _, hS, hO⟩
  ·rintro s7 F w11 t10 ⟨Fb, G12, rfl, leG12, hS, hO⟩
   intro H1 hqq9
   have Hoq9 := H; have H := H1
   unfold f18_b0 at H
   refine WC_seq ?_; refine WC_seq ?_; refine WC_region ?_; refine WL_val (rn_move (v := (.int .i64 s7)) rfl) rfl ?_; refine WL_val (rn_fld fd26_0 rfl) rfl ?_; refine WL_val (rn_load na22 rfl ((hS.sat.le leG12).cell (hcb4 0 _ rfl))) rfl ?_
   have l0_2 := leG6.trans leG12
   refine WL_val (rn_len sl22 rfl rfl (h1.mono RTLandPerson_mono l0_2).1) rfl ?_; refine WL_val (rn_lss rfl rfl) rfl ?_; refine WL_nil ?_; refine WC_cond rfl (fun hb13 => ?_) (fun hb13 => ?_)
   ·have H := ifT hb13 H; refine WC_skip ?_; refine WC_seq ?_; refine WC_block ?_; refine WC_seq ?_; obtain ⟨q14, hq14, H⟩ := bnd H; refine WC_cut (fun F w => ∃ (Fb : Fr) (G : Gm), F = upds Fb [(1, .pointer (some ⟨b4, 0, none⟩)), (3, .int .i64 s7), (35, .bool q14)] ∧ Gle G12 G ∧ Since w0.heap.size G0 w0 G w ∧ Owns G w w0.heap.size []) ?_ ?_
    ·have Hoq14 := H; have H := hq14; refine WC_region ?_; refine WL_val (rn_fld fd26_0 rfl) rfl ?_; refine WL_val (rn_load na22 rfl ((hS.sat.le leG12).cell (hcb4 0 _ rfl))) rfl ?_; refine WL_val (rn_move (v := (.int .i64 s7)) rfl) rfl ?_; obtain ⟨y15, hy15, H⟩ := bnd H; refine WL_idx sl22 (h1.mono RTLandPerson_mono l0_2) hy15 rfl rfl rfl ?_
     rintro b16 o16 _ hcb16 _ ⟨⟩
     refine WL_val (rn_fld fd85_0 rfl) rfl ?_; refine WL_val (rn_load na3 rfl (hS.sat.cell (hcb16 0 _ rfl))) rfl ?_; refine WL_val (rn_move (v := (.int .i64 s7)) rfl) rfl ?_; refine WL_val (rn_sub rfl rfl) rfl ?_; obtain ⟨y17, hy17, H⟩ := bnd H; refine WL_op rfl (OpP_callV cb60 (f60_ok (x0 := y15.Mother) (x1 := (-1)) (x2 := IntKind.i64.wrap (s7 - 1)) hS.sat  hy17) rfl rfl (fun w18 hb => ?_)); have hS := hS.keep hb; have hO := hO.below hb; refine WL_val (rn_not rfl) rfl ?_; refine WL_val (rn_move (v := (.bool (!y17))) rfl) rfl ?_
     rcases bcases (!y17) with hb19 | hb19
     ·have H := ifT hb19 H; refine WL_guardN rfl hb19 rfl rfl rfl ?_; refine WL_guardN rfl hb19 rfl rfl rfl ?_; refine WL_guardN rfl hb19 rfl rfl rfl ?_; refine WL_guardN rfl hb19 rfl rfl rfl ?_; refine WL_guardN rfl hb19 rfl rfl rfl ?_; refine WL_guardN rfl hb19 rfl rfl rfl ?_; refine WL_guardN rfl hb19 rfl rfl rfl ?_; refine WL_guardN rfl hb19 rfl rfl rfl ?_; refine WL_guardN rfl hb19 rfl rfl rfl ?_; refine WL_guardN rfl hb19 rfl rfl rfl ?_; refine WL_val (rn_pickT (v := (.bool true)) rfl hb19 rfl) rfl ?_; refine WL_nil ?_
      have hO : Owns G12 w18 w0.heap.size ([]) := hO
      have H := Option.some.inj H; subst H
      exact ⟨_, G12, upds_self _ _ ⟨rfl, rfl, rfl, trivial⟩, Gle.refl _, hS, hO⟩
     ·have H := ifF hb19 H; refine WL_guardY rfl hb19 rfl rfl ?_; refine WL_val (rn_fld fd26_0 rfl) rfl ?_; refine WL_guardY rfl hb19 rfl rfl ?_; refine WL_val (rn_load na22 rfl ((hS.sat.le leG12).cell (hcb4 0 _ rfl))) rfl ?_; refine WL_guardY rfl hb19 rfl rfl ?_; refine WL_val (rn_move (v := (.int .i64 s7)) rfl) rfl ?_; refine WL_guardY rfl hb19 rfl rfl ?_; refine WL_idx sl22 (h1.mono RTLandPerson_mono l0_2) hy15 rfl rfl rfl ?_
      rintro b20 o20 _ hcb20 _ ⟨⟩
      refine WL_guardY rfl hb19 rfl rfl ?_; refine WL_val (rn_fld fd85_1 rfl) rfl ?_; refine WL_guardY rfl hb19 rfl rfl ?_; refine WL_val (rn_load na3 rfl (hS.sat.cell (hcb20 1 _ rfl))) rfl ?_; refine WL_guardY rfl hb19 rfl rfl ?_; refine WL_val (rn_move (v := (.int .i64 s7)) rfl) rfl ?_; refine WL_guardY rfl hb19 rfl rfl ?_; refine WL_val (rn_sub rfl rfl) rfl ?_; refine WL_guardY rfl hb19 rfl rfl ?_; obtain ⟨y21, hy21, H⟩ := bnd H; refine WL_op rfl (OpP_callV cb60 (f60_ok (x0 := y15.Adopted) (x1 := (-1)) (x2 := IntKind.i64.wrap (s7 - 1)) hS.sat  hy21) rfl rfl (fun w22 hb => ?_)); have hS := hS.keep hb; have hO := hO.below hb; refine WL_guardY rfl hb19 rfl rfl ?_; refine WL_val (rn_not rfl) rfl ?_; refine WL_val (rn_pickF (v := (.bool (!y21))) rfl hb19 rfl) rfl ?_; refine WL_nil ?_
      have hO : Owns G12 w22 w0.heap.size ([]) := hO
      have H := Option.some.inj H; subst H
      exact ⟨_, G12, upds_self _ _ ⟨rfl, rfl, rfl, trivial⟩, Gle.refl _, hS, hO⟩
    ·rintro F w23 ⟨Fb, G24, rfl, leG24, hS, hO⟩
     refine WC_cond rfl (fun hb25 => ?_) (fun hb25 => ?_)
     ·have H := ifT hb25 H; refine WC_seq ?_; refine WC_region ?_; refine WL_val (rn_assign (v := (.bool false)) rfl) rfl ?_; refine WL_nil ?_; refine WC_ret ?_; have H := Option.some.inj H; subst H
      have hres := hqq9 _ rfl
      subst hres; have H := Hoq9
      have H : some false = some r := H
      have H := Option.some.inj H; subst H
      exact ⟨rfl, hS.below⟩
     ·have H := ifF hb25 H; refine WC_skip ?_; refine WC_region ?_; refine WL_val (rn_move (v := (.int .i64 s7)) rfl) rfl ?_; refine WL_val (rn_add rfl rfl) rfl ?_; refine WL_val (rn_assign (v := (.int .i64 (IntKind.i64.wrap (s7 + 1)))) rfl) rfl ?_; refine WL_nil ?_
      have hO : Owns G24 w23 w0.heap.size ([]) := hO
      have H := Option.some.inj H; subst H; refine ⟨_, rfl, ?_⟩
      have l1_3 := leG12.trans leG24
      exact ⟨_, G24, upds_self _ _ ⟨rfl, rfl, trivial⟩, l1_3, hS, hO⟩
   ·have H := ifF hb13 H; refine WC_exit rfl ?_
    have hO : Owns G12 w11 w0.heap.size ([]) := hO
    have H := Option.some.inj H; subst H
    have hres := hqq9 _ rfl
    subst hres
    exact ⟨_, _, G12, rfl, upds_self _ _ ⟨rfl, trivial⟩, leG12, hS, hO⟩
 ·rintro F w26 ⟨p8, Fb, G27, rfl, rfl, leG27, hS, hO⟩
  refine WC_seq ?_; refine WC_seq ?_; refine WC_region ?_; refine WL_val (rn_assign (v := (.int .i64 0)) rfl) rfl ?_; refine WL_nil ?_; obtain ⟨q30, hq30, H⟩ := bnd H; refine WC_cut (fun F w => ∃ (p29 : Unit) (Fb : Fr) (G : Gm), q30 = .inl p29 ∧ F = upds Fb [(1, .pointer (some ⟨b4, 0, none⟩))] ∧ Gle G27 G ∧ Since w0.heap.size G0 w0 G w ∧ Owns G w w0.heap.size []) ?_ ?_
  ·refine WC_block (WC_loop hq30 (fun s28 F w => ∃ (Fb : Fr) (G : Gm), F = upds Fb [(1, .pointer (some ⟨b4, 0, none⟩)), (4, .int .i64 s28)] ∧ Gle G27 G ∧ Since w0.heap.size G0 w0 G w ∧ Owns G w w0.heap.size []) ?_ ?_)
   ·have hO : Owns G27 w26 w0.heap.size ([]) := hO
    exact ⟨_, G27, upds_self _ _ ⟨rfl, rfl, trivial⟩, Gle.refl _, hS, hO⟩
   ·rintro s28 F w32 t31 ⟨Fb, G33, rfl, leG33, hS, hO⟩
    intro H1 hqq30
    have Hoq30 := H; have H := H1
    unfold f18_b1 at H
    refine WC_seq ?_; refine WC_seq ?_; refine WC_region ?_; refine WL_val (rn_move (v := (.int .i64 s28)) rfl) rfl ?_; refine WL_val (rn_fld fd26_1 rfl) rfl ?_
    have l1_3 := leG27.trans leG33
    refine WL_val (rn_load na23 rfl ((hS.sat.le l1_3).cell (hcb4 1 _ rfl))) rfl ?_
    have l0_3 := leG6.trans l1_3
    refine WL_val (rn_len sl23 rfl rfl (h2.mono RTLandEvent_mono l0_3).1) rfl ?_; refine WL_val (rn_lss rfl rfl) rfl ?_; refine WL_nil ?_; refine WC_cond rfl (fun hb34 => ?_) (fun hb34 => ?_)
    ·have H := ifT hb34 H; refine WC_skip ?_; refine WC_seq ?_; refine WC_block ?_; refine WC_seq ?_; obtain ⟨q35, hq35, H⟩ := bnd H; refine WC_cut (fun F w => ∃ (Fb : Fr) (G : Gm), F = upds Fb [(1, .pointer (some ⟨b4, 0, none⟩)), (4, .int .i64 s28), (61, .bool q35)] ∧ Gle G33 G ∧ Since w0.heap.size G0 w0 G w ∧ Owns G w w0.heap.size []) ?_ ?_
     ·have Hoq35 := H; have H := hq35; have hS := hS.keep (below_drew _); have hO := hO.below (below_drew _)
      refine WC_regionD mixedO (fun _ w => Sat G33 w ∧ True) (.fl 0 (.fl 1 (.on 2 (.on 3 (.on 4 (.on 5 (.on 6 (.on 7 (.on 8 (.fl 9 (.fl 10 (.fl 11 (.on 12 (.on 13 (.on 14 (.on 15 (.on 16 (.on 17 (.on 18 .nil))))))))))))))))))) (by kernel_rfl) rfl (by kernel_rfl) (fun _ => ⟨hS.sat, trivial⟩) ?_
      refine WD_val rfl (fun w hw => rn_fld fd26_1 rfl) rfl ?_; refine WD_val rfl (fun w hw => rn_load na23 rfl ((hw.1.le l1_3).cell (hcb4 1 _ rfl))) rfl ?_; refine WD_op rfl rfl (OpP_val (rn_move (v := (.int .i64 s28)) rfl) rfl ?_); refine ⟨fun _ _ => ⟨hS.sat, trivial⟩, ?_⟩; obtain ⟨y36, hy36, H⟩ := bnd H; refine WD_op rfl rfl (OpP_idx sl23 (h2.mono RTLandEvent_mono l0_3) hy36 rfl rfl rfl ?_)
      rintro b37 o37 _ hcb37 _ ⟨⟩
      refine ⟨fun _ _ => ⟨hS.sat, trivial⟩, ?_⟩; refine WD_op rfl rfl (OpP_val (rn_fld fd69_0 rfl) rfl ?_); refine ⟨fun _ _ => ⟨hS.sat, trivial⟩, ?_⟩; refine WD_op rfl rfl (OpP_val (rn_load na3 rfl (hS.sat.cell (hcb37 0 _ rfl))) rfl ?_); refine ⟨fun _ _ => ⟨hS.sat, trivial⟩, ?_⟩; obtain ⟨y38, hy38, H⟩ := bnd H; refine WD_op rfl rfl (OpP_callV cb33 (f33_ok (x0 := y36.Strip) hS.sat  hy38) rfl rfl (fun w39 hb => ?_)); have hS := hS.keep hb; have hO := hO.below hb; refine ⟨fun _ _ => ⟨hS.sat, trivial⟩, ?_⟩; refine WD_op rfl rfl (OpP_val (rn_not rfl) rfl ?_); refine ⟨fun _ _ => ⟨hS.sat, trivial⟩, ?_⟩; refine WD_op rfl rfl (OpP_val (rn_move (v := (.bool (!y38))) rfl) rfl ?_); refine ⟨fun _ _ => ⟨hS.sat, trivial⟩, ?_⟩
      rcases bcases (!y38) with hb40 | hb40
      ·have H := ifT hb40 H; refine WD_skip rfl rfl hb40 rfl rfl rfl ?_; refine WD_skip rfl rfl hb40 rfl rfl rfl ?_; refine WD_skip rfl rfl hb40 rfl rfl rfl ?_; refine WD_skipS rfl rfl hb40 rfl rfl rfl (fun _ _ => ⟨hS.sat, trivial⟩) ?_; refine WD_skipS rfl rfl hb40 rfl rfl rfl (fun _ _ => ⟨hS.sat, trivial⟩) ?_; refine WD_skipS rfl rfl hb40 rfl rfl rfl (fun _ _ => ⟨hS.sat, trivial⟩) ?_; refine WD_skipS rfl rfl hb40 rfl rfl rfl (fun _ _ => ⟨hS.sat, trivial⟩) ?_
       refine WD_skipS rfl rfl hb40 rfl rfl rfl (fun _ h => noneed (by kernel_rfl) h) ?_
       refine WD_skipS rfl rfl hb40 rfl rfl rfl (fun _ h => noneed (by kernel_rfl) h) ?_
       refine WD_op rfl rfl (OpP_val (rn_pickT (v := (.bool true)) rfl hb40 rfl) rfl ?_)
       refine ⟨fun _ h => noneed (by kernel_rfl) h, ?_⟩
       refine WD_nil ?_
       have hO : Owns G33 w39 w0.heap.size ([]) := hO
       have H := Option.some.inj H; subst H
       exact ⟨_, G33, upds_self _ _ ⟨rfl, rfl, rfl, trivial⟩, Gle.refl _, hS, hO⟩
      ·have H := ifF hb40 H; refine WD_valY rfl rfl hb40 rfl rfl (fun w hw => rn_loadA ag26 (cs := [.slice a1 n1 c1, .slice a2 n2 c2, .slice a3 n3 c3]) rfl rfl (fun j v hj => (hw.1.le l1_3).cell (hcb4.drop_take 0 3 j v hj))) rfl ?_; refine WD_valY rfl rfl hb40 rfl rfl (fun w hw => rn_fld fd26_1 rfl) rfl ?_; refine WD_valY rfl rfl hb40 rfl rfl (fun w hw => rn_load na23 rfl ((hw.1.le l1_3).cell (hcb4 1 _ rfl))) rfl ?_; refine WD_opY rfl rfl rfl hb40 rfl rfl (OpP_val (rn_move (v := (.int .i64 s28)) rfl) rfl ?_); refine ⟨fun _ _ => ⟨hS.sat, trivial⟩, ?_⟩; refine WD_opY rfl rfl rfl hb40 rfl rfl (OpP_idx sl23 (h2.mono RTLandEvent_mono l0_3) hy36 rfl rfl rfl ?_)
       rintro b41 o41 _ hcb41 _ ⟨⟩
       refine ⟨fun _ _ => ⟨hS.sat, trivial⟩, ?_⟩; refine WD_opY rfl rfl rfl hb40 rfl rfl (OpP_val (rn_fld fd69_1 rfl) rfl ?_); refine ⟨fun _ _ => ⟨hS.sat, trivial⟩, ?_⟩; refine WD_opY rfl rfl rfl hb40 rfl rfl (OpP_val (rn_load na3 rfl (hS.sat.cell (hcb41 1 _ rfl))) rfl ?_); refine ⟨fun _ _ => ⟨hS.sat, trivial⟩, ?_⟩; obtain ⟨y42, hy42, H⟩ := bnd H; refine WD_opY rfl rfl rfl hb40 rfl rfl (OpP_callV cb38 (f38_ok (x0 := x0) (x1 := y36.Holder) hS.sat (h1.mono RTLandPerson_mono l0_3) (h2.mono RTLandEvent_mono l0_3) (h3.mono RTLandMemory_mono l0_3) hy42) rfl rfl (fun w43 hb => ?_)); have hS := hS.keep hb; have hO := hO.below hb
       refine ⟨fun _ h => noneed (by kernel_rfl) h, ?_⟩
       refine WD_opY rfl rfl rfl hb40 rfl rfl (OpP_val (rn_not rfl) rfl ?_)
       refine ⟨fun _ h => noneed (by kernel_rfl) h, ?_⟩
       refine WD_op rfl rfl (OpP_val (rn_pickF (v := (.bool (!y42))) rfl hb40 rfl) rfl ?_)
       refine ⟨fun _ h => noneed (by kernel_rfl) h, ?_⟩
       refine WD_nil ?_
       have hO : Owns G33 w43 w0.heap.size ([]) := hO
       have H := Option.some.inj H; subst H
       exact ⟨_, G33, upds_self _ _ ⟨rfl, rfl, rfl, trivial⟩, Gle.refl _, hS, hO⟩
     ·rintro F w44 ⟨Fb, G45, rfl, leG45, hS, hO⟩
      refine WC_cond rfl (fun hb46 => ?_) (fun hb46 => ?_)
      ·have H := ifT hb46 H; refine WC_seq ?_; refine WC_region ?_; refine WL_val (rn_assign (v := (.bool false)) rfl) rfl ?_; refine WL_nil ?_; refine WC_ret ?_; have H := Option.some.inj H; subst H
       have hres := hqq30 _ rfl
       subst hres; have H := Hoq30
       have H : some false = some r := H
       have H := Option.some.inj H; subst H
       exact ⟨rfl, hS.below⟩
      ·have H := ifF hb46 H; refine WC_skip ?_; refine WC_region ?_; refine WL_val (rn_move (v := (.int .i64 s28)) rfl) rfl ?_; refine WL_val (rn_add rfl rfl) rfl ?_; refine WL_val (rn_assign (v := (.int .i64 (IntKind.i64.wrap (s28 + 1)))) rfl) rfl ?_; refine WL_nil ?_
       have hO : Owns G45 w44 w0.heap.size ([]) := hO
       have H := Option.some.inj H; subst H; refine ⟨_, rfl, ?_⟩
       have l2_4 := leG33.trans leG45
       exact ⟨_, G45, upds_self _ _ ⟨rfl, rfl, trivial⟩, l2_4, hS, hO⟩
    ·have H := ifF hb34 H; refine WC_exit rfl ?_
     have hO : Owns G33 w32 w0.heap.size ([]) := hO
     have H := Option.some.inj H; subst H
     have hres := hqq30 _ rfl
     subst hres
     exact ⟨_, _, G33, rfl, upds_self _ _ ⟨rfl, trivial⟩, leG33, hS, hO⟩
  ·rintro F w47 ⟨p29, Fb, G48, rfl, rfl, leG48, hS, hO⟩
   refine WC_seq ?_; refine WC_seq ?_; refine WC_region ?_; refine WL_val (rn_assign (v := (.int .i64 0)) rfl) rfl ?_; refine WL_nil ?_; obtain ⟨q51, hq51, H⟩ := bnd H; refine WC_cut (fun F w => ∃ (p50 : Unit) (Fb : Fr) (G : Gm), q51 = .inl p50 ∧ F = upds Fb [(1, .pointer (some ⟨b4, 0, none⟩))] ∧ Gle G48 G ∧ Since w0.heap.size G0 w0 G w ∧ Owns G w w0.heap.size []) ?_ ?_
   ·refine WC_block (WC_loop hq51 (fun s49 F w => ∃ (Fb : Fr) (G : Gm), F = upds Fb [(1, .pointer (some ⟨b4, 0, none⟩)), (5, .int .i64 s49)] ∧ Gle G48 G ∧ Since w0.heap.size G0 w0 G w ∧ Owns G w w0.heap.size []) ?_ ?_)
    ·have hO : Owns G48 w47 w0.heap.size ([]) := hO
     exact ⟨_, G48, upds_self _ _ ⟨rfl, rfl, trivial⟩, Gle.refl _, hS, hO⟩
    ·rintro s49 F w53 t52 ⟨Fb, G54, rfl, leG54, hS, hO⟩
     intro H1 hqq51
     have Hoq51 := H; have H := H1
     unfold f18_b2 at H
     refine WC_seq ?_; refine WC_seq ?_; refine WC_region ?_; refine WL_val (rn_move (v := (.int .i64 s49)) rfl) rfl ?_; refine WL_val (rn_fld fd26_2 rfl) rfl ?_
     have l1_4 := (leG27.trans leG48).trans leG54
     refine WL_val (rn_load na24 rfl ((hS.sat.le l1_4).cell (hcb4 2 _ rfl))) rfl ?_
     have l0_4 := leG6.trans l1_4
     refine WL_val (rn_len sl24 rfl rfl (h3.mono RTLandMemory_mono l0_4).1) rfl ?_; refine WL_val (rn_lss rfl rfl) rfl ?_; refine WL_nil ?_; refine WC_cond rfl (fun hb55 => ?_) (fun hb55 => ?_)
     ·have H := ifT hb55 H; refine WC_skip ?_; refine WC_seq ?_; refine WC_block ?_; refine WC_seq ?_; refine WC_region ?_; refine WL_val (rn_fld fd26_2 rfl) rfl ?_; refine WL_val (rn_load na24 rfl ((hS.sat.le l1_4).cell (hcb4 2 _ rfl))) rfl ?_; refine WL_val (rn_move (v := (.int .i64 s49)) rfl) rfl ?_; obtain ⟨y56, hy56, H⟩ := bnd H; refine WL_idx sl24 (h3.mono RTLandMemory_mono l0_4) hy56 rfl rfl rfl ?_
      rintro b57 o57 _ hcb57 _ ⟨⟩
      refine WL_val (rn_loadA ag46 (cs := [.int .i64 y56.From, .int .i64 y56.To, .int .i64 y56.Years.Low, .int .i64 y56.Years.High]) rfl rfl (fun j v hj => hS.sat.cell (hcb57.drop_take 0 4 j v hj))) rfl ?_
      refine WL_op rfl (OpP_newO (v := fun b => .pointer (some ⟨b, 0, none⟩)) (cs := [.int .i64 0, .int .i64 0, .int .i64 0, .int .i64 0]) (e := 46) (by kernel_rfl) hS.sat hO rfl 4 1 rfl (by decide) (fun b58 w59 hb hO => ?_))
      have hS := hS.keep hb; refine WL_op rfl (OpP_store (vs := [.int .i64 y56.From, .int .i64 y56.To, .int .i64 y56.Years.Low, .int .i64 y56.Years.High]) sz46 hS hO (k := 0) rfl rfl rfl rfl rfl (one_all rfl) (Nat.le_of_ble_eq_true rfl) (fun w61 hS hO => ?_))
      have hO : Owns G54 w61 w0.heap.size ([⟨46, 4, 1, .slice (some ⟨b58, 0, none⟩) 1 1, [.int .i64 y56.From, .int .i64 y56.To, .int .i64 y56.Years.Low, .int .i64 y56.Years.High]⟩]) := hO
      obtain ⟨G62, leG62, hS, hO, hqG62, _⟩ := hO.freeze hS (k := 0) rfl
      have hcG62 : Cells G62 b58 0 [.int .i64 y56.From, .int .i64 y56.To, .int .i64 y56.Years.Low, .int .i64 y56.Years.High] := (hqG62 _ _ _ _ rfl)
      refine WL_nil ?_; refine WC_seq ?_; obtain ⟨q63, hq63, H⟩ := bnd H; refine WC_cut (fun F w => ∃ (Fb : Fr) (G : Gm), F = upds Fb [(1, .pointer (some ⟨b4, 0, none⟩)), (5, .int .i64 s49), (113, .bool q63)] ∧ Gle G62 G ∧ Since w0.heap.size G0 w0 G w ∧ Owns G w w0.heap.size []) ?_ ?_
      ·have Hoq63 := H; have H := hq63; refine WC_region ?_
       have l1_5 := l1_4.trans leG62
       refine WL_val (rn_loadA ag26 (cs := [.slice a1 n1 c1, .slice a2 n2 c2, .slice a3 n3 c3]) rfl rfl (fun j v hj => (hS.sat.le l1_5).cell (hcb4.drop_take 0 3 j v hj))) rfl ?_; refine WL_val (rn_fld fd46_0 rfl) rfl ?_; refine WL_val (rn_load na3 rfl (hS.sat.cell (hcG62 0 _ rfl))) rfl ?_; obtain ⟨y64, hy64, H⟩ := bnd H
       have l0_5 := l0_4.trans leG62
       refine WL_op rfl (OpP_callV cb45 (f45_ok (x0 := x0) (x1 := y56.From) hS.sat (h1.mono RTLandPerson_mono l0_5) (h2.mono RTLandEvent_mono l0_5) (h3.mono RTLandMemory_mono l0_5) hy64) rfl rfl (fun w65 hb => ?_)); have hS := hS.keep hb; have hO := hO.below hb; refine WL_val (rn_not rfl) rfl ?_; refine WL_val (rn_move (v := (.bool (!y64))) rfl) rfl ?_
       rcases bcases (!y64) with hb66 | hb66
       ·have H := ifT hb66 H; refine WL_guardN rfl hb66 rfl rfl rfl ?_; refine WL_guardN rfl hb66 rfl rfl rfl ?_; refine WL_guardN rfl hb66 rfl rfl rfl ?_; refine WL_guardN rfl hb66 rfl rfl rfl ?_; refine WL_guardN rfl hb66 rfl rfl rfl ?_; refine WL_val (rn_pickT (v := (.bool true)) rfl hb66 rfl) rfl ?_; refine WL_val (rn_move (v := (.bool true)) rfl) rfl ?_; refine WL_guardN rfl rfl rfl rfl rfl ?_; refine WL_guardN rfl rfl rfl rfl rfl ?_; refine WL_guardN rfl rfl rfl rfl rfl ?_; refine WL_guardN rfl rfl rfl rfl rfl ?_; refine WL_guardN rfl rfl rfl rfl rfl ?_; refine WL_val (rn_pickT (v := (.bool true)) rfl rfl rfl) rfl ?_; refine WL_val (rn_move (v := (.bool true)) rfl) rfl ?_; refine WL_guardN rfl rfl rfl rfl rfl ?_; refine WL_guardN rfl rfl rfl rfl rfl ?_; refine WL_guardN rfl rfl rfl rfl rfl ?_; refine WL_guardN rfl rfl rfl rfl rfl ?_; refine WL_val (rn_pickT (v := (.bool true)) rfl rfl rfl) rfl ?_; refine WL_val (rn_move (v := (.bool true)) rfl) rfl ?_; refine WL_guardN rfl rfl rfl rfl rfl ?_; refine WL_guardN rfl rfl rfl rfl rfl ?_; refine WL_guardN rfl rfl rfl rfl rfl ?_; refine WL_guardN rfl rfl rfl rfl rfl ?_; refine WL_guardN rfl rfl rfl rfl rfl ?_; refine WL_guardN rfl rfl rfl rfl rfl ?_; refine WL_guardN rfl rfl rfl rfl rfl ?_; refine WL_val (rn_pickT (v := (.bool true)) rfl rfl rfl) rfl ?_; refine WL_val (rn_move (v := (.bool true)) rfl) rfl ?_; refine WL_guardN rfl rfl rfl rfl rfl ?_; refine WL_guardN rfl rfl rfl rfl rfl ?_; refine WL_guardN rfl rfl rfl rfl rfl ?_; refine WL_guardN rfl rfl rfl rfl rfl ?_; refine WL_val (rn_pickT (v := (.bool true)) rfl rfl rfl) rfl ?_; refine WL_nil ?_
        have hO : Owns G62 w65 w0.heap.size ([]) := hO
        have H := Option.some.inj H; subst H
        exact ⟨_, G62, upds_self _ _ ⟨rfl, rfl, rfl, trivial⟩, Gle.refl _, hS, hO⟩
       ·have H := ifF hb66 H; refine WL_guardY rfl hb66 rfl rfl ?_; refine WL_val (rn_loadA ag26 (cs := [.slice a1 n1 c1, .slice a2 n2 c2, .slice a3 n3 c3]) rfl rfl (fun j v hj => (hS.sat.le l1_5).cell (hcb4.drop_take 0 3 j v hj))) rfl ?_; refine WL_guardY rfl hb66 rfl rfl ?_; refine WL_val (rn_fld fd46_1 rfl) rfl ?_; refine WL_guardY rfl hb66 rfl rfl ?_; refine WL_val (rn_load na3 rfl (hS.sat.cell (hcG62 1 _ rfl))) rfl ?_; refine WL_guardY rfl hb66 rfl rfl ?_; obtain ⟨y67, hy67, H⟩ := bnd H; refine WL_op rfl (OpP_callV cb45 (f45_ok (x0 := x0) (x1 := y56.To) hS.sat (h1.mono RTLandPerson_mono l0_5) (h2.mono RTLandEvent_mono l0_5) (h3.mono RTLandMemory_mono l0_5) hy67) rfl rfl (fun w68 hb => ?_)); have hS := hS.keep hb; have hO := hO.below hb; refine WL_guardY rfl hb66 rfl rfl ?_; refine WL_val (rn_not rfl) rfl ?_; refine WL_val (rn_pickF (v := (.bool (!y67))) rfl hb66 rfl) rfl ?_; refine WL_val (rn_move (v := (.bool (!y67))) rfl) rfl ?_
        rcases bcases (!y67) with hb69 | hb69
        ·have H := ifT hb69 H; refine WL_guardN rfl hb69 rfl rfl rfl ?_; refine WL_guardN rfl hb69 rfl rfl rfl ?_; refine WL_guardN rfl hb69 rfl rfl rfl ?_; refine WL_guardN rfl hb69 rfl rfl rfl ?_; refine WL_guardN rfl hb69 rfl rfl rfl ?_; refine WL_val (rn_pickT (v := (.bool true)) rfl hb69 rfl) rfl ?_; refine WL_val (rn_move (v := (.bool true)) rfl) rfl ?_; refine WL_guardN rfl rfl rfl rfl rfl ?_; refine WL_guardN rfl rfl rfl rfl rfl ?_; refine WL_guardN rfl rfl rfl rfl rfl ?_; refine WL_guardN rfl rfl rfl rfl rfl ?_; refine WL_val (rn_pickT (v := (.bool true)) rfl rfl rfl) rfl ?_; refine WL_val (rn_move (v := (.bool true)) rfl) rfl ?_; refine WL_guardN rfl rfl rfl rfl rfl ?_; refine WL_guardN rfl rfl rfl rfl rfl ?_; refine WL_guardN rfl rfl rfl rfl rfl ?_; refine WL_guardN rfl rfl rfl rfl rfl ?_; refine WL_guardN rfl rfl rfl rfl rfl ?_; refine WL_guardN rfl rfl rfl rfl rfl ?_; refine WL_guardN rfl rfl rfl rfl rfl ?_; refine WL_val (rn_pickT (v := (.bool true)) rfl rfl rfl) rfl ?_; refine WL_val (rn_move (v := (.bool true)) rfl) rfl ?_; refine WL_guardN rfl rfl rfl rfl rfl ?_; refine WL_guardN rfl rfl rfl rfl rfl ?_; refine WL_guardN rfl rfl rfl rfl rfl ?_; refine WL_guardN rfl rfl rfl rfl rfl ?_; refine WL_val (rn_pickT (v := (.bool true)) rfl rfl rfl) rfl ?_; refine WL_nil ?_
         have hO : Owns G62 w68 w0.heap.size ([]) := hO
         have H := Option.some.inj H; subst H
         exact ⟨_, G62, upds_self _ _ ⟨rfl, rfl, rfl, trivial⟩, Gle.refl _, hS, hO⟩
        ·have H := ifF hb69 H; refine WL_guardY rfl hb69 rfl rfl ?_; refine WL_val (rn_fld fd46_0 rfl) rfl ?_; refine WL_guardY rfl hb69 rfl rfl ?_; refine WL_val (rn_load na3 rfl (hS.sat.cell (hcG62 0 _ rfl))) rfl ?_; refine WL_guardY rfl hb69 rfl rfl ?_; refine WL_val (rn_fld fd46_1 rfl) rfl ?_; refine WL_guardY rfl hb69 rfl rfl ?_; refine WL_val (rn_load na3 rfl (hS.sat.cell (hcG62 1 _ rfl))) rfl ?_; refine WL_guardY rfl hb69 rfl rfl ?_; refine WL_val (rn_eql rfl rfl) rfl ?_; refine WL_val (rn_pickF (v := (.bool (y56.From == y56.To))) rfl hb69 rfl) rfl ?_; refine WL_val (rn_move (v := (.bool (y56.From == y56.To))) rfl) rfl ?_
         rcases bcases (y56.From == y56.To) with hb70 | hb70
         ·have H := ifT hb70 H; refine WL_guardN rfl hb70 rfl rfl rfl ?_; refine WL_guardN rfl hb70 rfl rfl rfl ?_; refine WL_guardN rfl hb70 rfl rfl rfl ?_; refine WL_guardN rfl hb70 rfl rfl rfl ?_; refine WL_val (rn_pickT (v := (.bool true)) rfl hb70 rfl) rfl ?_; refine WL_val (rn_move (v := (.bool true)) rfl) rfl ?_; refine WL_guardN rfl rfl rfl rfl rfl ?_; refine WL_guardN rfl rfl rfl rfl rfl ?_; refine WL_guardN rfl rfl rfl rfl rfl ?_; refine WL_guardN rfl rfl rfl rfl rfl ?_; refine WL_guardN rfl rfl rfl rfl rfl ?_; refine WL_guardN rfl rfl rfl rfl rfl ?_; refine WL_guardN rfl rfl rfl rfl rfl ?_; refine WL_val (rn_pickT (v := (.bool true)) rfl rfl rfl) rfl ?_; refine WL_val (rn_move (v := (.bool true)) rfl) rfl ?_; refine WL_guardN rfl rfl rfl rfl rfl ?_; refine WL_guardN rfl rfl rfl rfl rfl ?_; refine WL_guardN rfl rfl rfl rfl rfl ?_; refine WL_guardN rfl rfl rfl rfl rfl ?_; refine WL_val (rn_pickT (v := (.bool true)) rfl rfl rfl) rfl ?_; refine WL_nil ?_
          have hO : Owns G62 w68 w0.heap.size ([]) := hO
          have H := Option.some.inj H; subst H
          exact ⟨_, G62, upds_self _ _ ⟨rfl, rfl, rfl, trivial⟩, Gle.refl _, hS, hO⟩
         ·have H := ifF hb70 H; refine WL_guardY rfl hb70 rfl rfl ?_; refine WL_val (rn_fld fd46_2 rfl) rfl ?_; refine WL_guardY rfl hb70 rfl rfl ?_; refine WL_val (rn_fld fd44_0 rfl) rfl ?_; refine WL_guardY rfl hb70 rfl rfl ?_; refine WL_val (rn_load na3 rfl (hS.sat.cell (hcG62 2 _ rfl))) rfl ?_; refine WL_guardY rfl hb70 rfl rfl ?_; refine WL_val (rn_lss rfl rfl) rfl ?_; refine WL_val (rn_pickF (v := (.bool (decide (y56.Years.Low < (-1000))))) rfl hb70 rfl) rfl ?_; refine WL_val (rn_move (v := (.bool (decide (y56.Years.Low < (-1000))))) rfl) rfl ?_
          rcases bcases (decide (y56.Years.Low < (-1000))) with hb71 | hb71
          ·have H := ifT hb71 H; refine WL_guardN rfl hb71 rfl rfl rfl ?_; refine WL_guardN rfl hb71 rfl rfl rfl ?_; refine WL_guardN rfl hb71 rfl rfl rfl ?_; refine WL_guardN rfl hb71 rfl rfl rfl ?_; refine WL_guardN rfl hb71 rfl rfl rfl ?_; refine WL_guardN rfl hb71 rfl rfl rfl ?_; refine WL_guardN rfl hb71 rfl rfl rfl ?_; refine WL_val (rn_pickT (v := (.bool true)) rfl hb71 rfl) rfl ?_; refine WL_val (rn_move (v := (.bool true)) rfl) rfl ?_; refine WL_guardN rfl rfl rfl rfl rfl ?_; refine WL_guardN rfl rfl rfl rfl rfl ?_; refine WL_guardN rfl rfl rfl rfl rfl ?_; refine WL_guardN rfl rfl rfl rfl rfl ?_; refine WL_val (rn_pickT (v := (.bool true)) rfl rfl rfl) rfl ?_; refine WL_nil ?_
           have hO : Owns G62 w68 w0.heap.size ([]) := hO
           have H := Option.some.inj H; subst H
           exact ⟨_, G62, upds_self _ _ ⟨rfl, rfl, rfl, trivial⟩, Gle.refl _, hS, hO⟩
          ·have H := ifF hb71 H; refine WL_guardY rfl hb71 rfl rfl ?_; refine WL_val (rn_fld fd46_2 rfl) rfl ?_; refine WL_guardY rfl hb71 rfl rfl ?_; refine WL_val (rn_fld fd44_0 rfl) rfl ?_; refine WL_guardY rfl hb71 rfl rfl ?_; refine WL_val (rn_load na3 rfl (hS.sat.cell (hcG62 2 _ rfl))) rfl ?_; refine WL_guardY rfl hb71 rfl rfl ?_; refine WL_val (rn_fld fd46_2 rfl) rfl ?_; refine WL_guardY rfl hb71 rfl rfl ?_; refine WL_val (rn_fld fd44_1 rfl) rfl ?_; refine WL_guardY rfl hb71 rfl rfl ?_; refine WL_val (rn_load na3 rfl (hS.sat.cell (hcG62 3 _ rfl))) rfl ?_; refine WL_guardY rfl hb71 rfl rfl ?_; refine WL_val (rn_gtr rfl rfl) rfl ?_; refine WL_val (rn_pickF (v := (.bool (decide (y56.Years.High < y56.Years.Low)))) rfl hb71 rfl) rfl ?_; refine WL_val (rn_move (v := (.bool (decide (y56.Years.High < y56.Years.Low)))) rfl) rfl ?_
           rcases bcases (decide (y56.Years.High < y56.Years.Low)) with hb72 | hb72
           ·have H := ifT hb72 H; refine WL_guardN rfl hb72 rfl rfl rfl ?_; refine WL_guardN rfl hb72 rfl rfl rfl ?_; refine WL_guardN rfl hb72 rfl rfl rfl ?_; refine WL_guardN rfl hb72 rfl rfl rfl ?_; refine WL_val (rn_pickT (v := (.bool true)) rfl hb72 rfl) rfl ?_; refine WL_nil ?_
            have hO : Owns G62 w68 w0.heap.size ([]) := hO
            have H := Option.some.inj H; subst H
            exact ⟨_, G62, upds_self _ _ ⟨rfl, rfl, rfl, trivial⟩, Gle.refl _, hS, hO⟩
           ·have H := ifF hb72 H; refine WL_guardY rfl hb72 rfl rfl ?_; refine WL_val (rn_fld fd46_2 rfl) rfl ?_; refine WL_guardY rfl hb72 rfl rfl ?_; refine WL_val (rn_fld fd44_1 rfl) rfl ?_; refine WL_guardY rfl hb72 rfl rfl ?_; refine WL_val (rn_load na3 rfl (hS.sat.cell (hcG62 3 _ rfl))) rfl ?_; refine WL_guardY rfl hb72 rfl rfl ?_; refine WL_val (rn_gtr rfl rfl) rfl ?_; refine WL_val (rn_pickF (v := (.bool (decide (1000 < y56.Years.High)))) rfl hb72 rfl) rfl ?_; refine WL_nil ?_
            have hO : Owns G62 w68 w0.heap.size ([]) := hO
            have H := Option.some.inj H; subst H
            exact ⟨_, G62, upds_self _ _ ⟨rfl, rfl, rfl, trivial⟩, Gle.refl _, hS, hO⟩
      ·rintro F w73 ⟨Fb, G74, rfl, leG74, hS, hO⟩
       refine WC_cond rfl (fun hb75 => ?_) (fun hb75 => ?_)
       ·have H := ifT hb75 H; refine WC_seq ?_; refine WC_region ?_; refine WL_val (rn_assign (v := (.bool false)) rfl) rfl ?_; refine WL_nil ?_; refine WC_ret ?_; have H := Option.some.inj H; subst H
        have hres := hqq51 _ rfl
        subst hres; have H := Hoq51
        have H : some false = some r := H
        have H := Option.some.inj H; subst H
        exact ⟨rfl, hS.below⟩
       ·have H := ifF hb75 H; refine WC_skip ?_; refine WC_region ?_; refine WL_val (rn_move (v := (.int .i64 s49)) rfl) rfl ?_; refine WL_val (rn_add rfl rfl) rfl ?_; refine WL_val (rn_assign (v := (.int .i64 (IntKind.i64.wrap (s49 + 1)))) rfl) rfl ?_; refine WL_nil ?_
        have hO : Owns G74 w73 w0.heap.size ([]) := hO
        have H := Option.some.inj H; subst H; refine ⟨_, rfl, ?_⟩
        have l3_6 := (leG54.trans leG62).trans leG74
        exact ⟨_, G74, upds_self _ _ ⟨rfl, rfl, trivial⟩, l3_6, hS, hO⟩
     ·have H := ifF hb55 H; refine WC_exit rfl ?_
      have hO : Owns G54 w53 w0.heap.size ([]) := hO
      have H := Option.some.inj H; subst H
      have hres := hqq51 _ rfl
      subst hres
      exact ⟨_, _, G54, rfl, upds_self _ _ ⟨rfl, trivial⟩, leG54, hS, hO⟩
   ·rintro F w76 ⟨p50, Fb, G77, rfl, rfl, leG77, hS, hO⟩
    refine WC_seq ?_; obtain ⟨q78, hq78, H⟩ := bnd H; refine WC_cut (fun F w => ∃ (Fb : Fr) (G : Gm), F = upds Fb [(2, .bool q78)] ∧ Gle G77 G ∧ Since w0.heap.size G0 w0 G w ∧ Owns G w w0.heap.size []) ?_ ?_
    ·have Hoq78 := H; have H := hq78; refine WC_region ?_; refine WL_val (rn_fld fd26_0 rfl) rfl ?_
     have l1_4 := (leG27.trans leG48).trans leG77
     refine WL_val (rn_load na22 rfl ((hS.sat.le l1_4).cell (hcb4 0 _ rfl))) rfl ?_
     have l0_4 := leG6.trans l1_4
     refine WL_val (rn_len sl22 rfl rfl (h1.mono RTLandPerson_mono l0_4).1) rfl ?_; obtain ⟨y79, hy79, H⟩ := bnd H; refine WL_op rfl (OpP_callV cb60 (f60_ok (x0 := (x0.People.length : Int)) (x1 := 1) (x2 := 10) hS.sat  hy79) rfl rfl (fun w80 hb => ?_)); have hS := hS.keep hb; have hO := hO.below hb; refine WL_val (rn_move (v := (.bool y79)) rfl) rfl ?_
     rcases bcases y79 with hb81 | hb81
     ·have H := ifT hb81 H; refine WL_guardY rfl hb81 rfl rfl ?_; refine WL_val (rn_fld fd26_1 rfl) rfl ?_; refine WL_guardY rfl hb81 rfl rfl ?_; refine WL_val (rn_load na23 rfl ((hS.sat.le l1_4).cell (hcb4 1 _ rfl))) rfl ?_; refine WL_guardY rfl hb81 rfl rfl ?_; refine WL_val (rn_len sl23 rfl rfl (h2.mono RTLandEvent_mono l0_4).1) rfl ?_; refine WL_guardY rfl hb81 rfl rfl ?_; obtain ⟨y82, hy82, H⟩ := bnd H; refine WL_op rfl (OpP_callV cb60 (f60_ok (x0 := (x0.Events.length : Int)) (x1 := 1) (x2 := 7) hS.sat  hy82) rfl rfl (fun w83 hb => ?_)); have hS := hS.keep hb; have hO := hO.below hb; refine WL_val (rn_pickT (v := (.bool y82)) rfl hb81 rfl) rfl ?_; refine WL_val (rn_move (v := (.bool y82)) rfl) rfl ?_
      rcases bcases y82 with hb84 | hb84
      ·have H := ifT hb84 H; refine WL_guardY rfl hb84 rfl rfl ?_; refine WL_val (rn_fld fd26_2 rfl) rfl ?_; refine WL_guardY rfl hb84 rfl rfl ?_; refine WL_val (rn_load na24 rfl ((hS.sat.le l1_4).cell (hcb4 2 _ rfl))) rfl ?_; refine WL_guardY rfl hb84 rfl rfl ?_; refine WL_val (rn_len sl24 rfl rfl (h3.mono RTLandMemory_mono l0_4).1) rfl ?_; refine WL_guardY rfl hb84 rfl rfl ?_; refine WL_val (rn_leq rfl rfl) rfl ?_; refine WL_val (rn_pickT (v := (.bool (decide ((x0.Memories.length : Int) ≤ 10)))) rfl hb84 rfl) rfl ?_; refine WL_val (rn_assign (v := (.bool (decide ((x0.Memories.length : Int) ≤ 10)))) rfl) rfl ?_; refine WL_nil ?_
       have hO : Owns G77 w83 w0.heap.size ([]) := hO
       have H := Option.some.inj H; subst H
       exact ⟨_, G77, upds_self _ _ ⟨rfl, trivial⟩, Gle.refl _, hS, hO⟩
      ·have H := ifF hb84 H; refine WL_guardN rfl hb84 rfl rfl rfl ?_; refine WL_guardN rfl hb84 rfl rfl rfl ?_; refine WL_guardN rfl hb84 rfl rfl rfl ?_; refine WL_guardN rfl hb84 rfl rfl rfl ?_; refine WL_val (rn_pickF (v := (.bool false)) rfl hb84 rfl) rfl ?_; refine WL_val (rn_assign (v := (.bool false)) rfl) rfl ?_; refine WL_nil ?_
       have hO : Owns G77 w83 w0.heap.size ([]) := hO
       have H := Option.some.inj H; subst H
       exact ⟨_, G77, upds_self _ _ ⟨rfl, trivial⟩, Gle.refl _, hS, hO⟩
     ·have H := ifF hb81 H; refine WL_guardN rfl hb81 rfl rfl rfl ?_; refine WL_guardN rfl hb81 rfl rfl rfl ?_; refine WL_guardN rfl hb81 rfl rfl rfl ?_; refine WL_guardN rfl hb81 rfl rfl rfl ?_; refine WL_val (rn_pickF (v := (.bool false)) rfl hb81 rfl) rfl ?_; refine WL_val (rn_move (v := (.bool false)) rfl) rfl ?_; refine WL_guardN rfl rfl rfl rfl rfl ?_; refine WL_guardN rfl rfl rfl rfl rfl ?_; refine WL_guardN rfl rfl rfl rfl rfl ?_; refine WL_guardN rfl rfl rfl rfl rfl ?_; refine WL_val (rn_pickF (v := (.bool false)) rfl rfl rfl) rfl ?_; refine WL_val (rn_assign (v := (.bool false)) rfl) rfl ?_; refine WL_nil ?_
      have hO : Owns G77 w80 w0.heap.size ([]) := hO
      have H := Option.some.inj H; subst H
      exact ⟨_, G77, upds_self _ _ ⟨rfl, trivial⟩, Gle.refl _, hS, hO⟩
    ·rintro F w85 ⟨Fb, G86, rfl, leG86, hS, hO⟩
     refine WC_ret ?_
     have H : some q78 = some r := H
     have H := Option.some.inj H; subst H
     exact ⟨rfl, hS.below⟩
set_option maxHeartbeats 1000000 in
theorem f34_ok {G0 : Gm} {w0 : World} (hS0 : Sat G0 w0) {x0 : TLandBook} {a1 : Option Addr} {n1 c1 : Nat} {a2 : Option Addr} {n2 c2 : Nat} {a3 : Option Addr} {n3 c3 : Nat} (h1 : RSl RTLandPerson 2 G0 a1 n1 c1 x0.People) (h2 : RSl RTLandEvent 2 G0 a2 n2 c2 x0.Events) (h3 : RSl RTLandMemory 4 G0 a3 n3 c3 x0.Memories) {r : (List TSpan) × Int} (H : f34 x0 = some r) :
  Calls Tryd.prog 34 #[.agg #[.slice a1 n1 c1, .slice a2 n2 c2, .slice a3 n3 c3]] w0 (RetG G0 w0 (fun G v => ∃ (ra0 : Option Addr) (rn0 rc0 : Nat), v = .tuple #[.slice ra0 rn0 rc0, .int .i64 r.2] ∧ RSl RTSpan 2 G ra0 rn0 rc0 r.1)) := by
 have hS := Since.start hS0
 have hO : Owns G0 w0 w0.heap.size [] := Owns.nil (Nat.le_refl _)
 unfold f34 at H
 refine enter2 (N := 30) (shutG _ _ _) Tryd.func34 rfl rfl rfl rfl ?_; refine WC_seq ?_; refine WC_region ?_; refine WL_op rfl (OpP_newF (v := fun b => .pointer (some ⟨b, 0, none⟩)) (cs := [.slice a1 n1 c1, .slice a2 n2 c2, .slice a3 n3 c3]) (e := 26) (rn_boxA rfl) hS.sat rfl (fun b4 G6 w5 hg hcb4 => ?_)); have hS := hS.grow hg; have hO := hO.grow hg
 have leG6 := hg.le
 refine WL_val (rn_assign (v := (.slice none 0 0)) rfl) rfl ?_; refine WL_val (rn_assign (v := (.int .i64 0)) rfl) rfl ?_; refine WL_nil ?_; refine WC_seq ?_; refine WC_region ?_; refine WL_val (rn_loadA ag26 (cs := [.slice a1 n1 c1, .slice a2 n2 c2, .slice a3 n3 c3]) rfl rfl (fun j v hj => hS.sat.cell (hcb4.drop_take 0 3 j v hj))) rfl ?_; obtain ⟨y7, hy7, H⟩ := bnd H; refine WL_op rfl (OpP_callV cb69 (f69_ok (x0 := x0) (x1 := true) hS.sat (h1.mono RTLandPerson_mono leG6) (h2.mono RTLandEvent_mono leG6) (h3.mono RTLandMemory_mono leG6) hy7) rfl rfl (fun w8 hb => ?_)); have hS := hS.keep hb; have hO := hO.below hb; refine WL_val (rn_move (v := (.tuple #[.agg (cellsT y7.1).toArray, .int .i64 y7.2])) rfl) rfl ?_; refine WL_val (rn_extract (v := (.agg (cellsT y7.1).toArray)) rfl rfl) rfl ?_; refine WL_val (rn_extract (v := (.int .i64 y7.2)) rfl rfl) rfl ?_
 refine WL_op rfl (OpP_newO (v := fun b => .pointer (some ⟨b, 0, none⟩)) (cs := (cellsT (Tb.zero 64))) (e := 95) (by kernel_rfl) hS.sat hO rfl 64 1 (cellsT_len _) (by decide) (fun b9 w10 hb hO => ?_))
 have hS := hS.keep hb; refine WL_op rfl (OpP_storeTT sz95 hS hO (k := 0) rfl rfl rfl (fun w12 hS hO => ?_))
 have hO : Owns G6 w12 w0.heap.size ([⟨95, 64, 1, .slice (some ⟨b9, 0, none⟩) 1 1, cellsT y7.1⟩]) := hO
 refine WL_val (rn_assign (v := (.int .i64 y7.2)) rfl) rfl ?_; refine WL_nil ?_; refine WC_seq ?_; refine WC_seq ?_; refine WC_region ?_; refine WL_val (rn_move (v := (.int .i64 y7.2)) rfl) rfl ?_; refine WL_val (rn_neq rfl rfl) rfl ?_; refine WL_nil ?_; refine WC_cond rfl (fun hb13 => ?_) (fun hb13 => ?_)
 ·have H := ifT hb13 H; refine WC_seq ?_; refine WC_region ?_; refine WL_val (rn_move (v := (.int .i64 y7.2)) rfl) rfl ?_; refine WL_val (rn_assign (v := (.slice none 0 0)) rfl) rfl ?_; refine WL_val (rn_assign (v := (.int .i64 y7.2)) rfl) rfl ?_; refine WL_nil ?_; refine WC_ret ?_
  have H : some ([], y7.2) = some r := H
  have H := Option.some.inj H; subst H
  exact ⟨_, _, rfl, hS.toGrow, _, _, _, rfl, (RSl.nil RTSpan 2 G6 none)⟩
 ·have H := ifF hb13 H; refine WC_skip ?_; refine WC_seq ?_; refine WC_region ?_; refine WL_val (rn_assign (v := (.slice none 0 0)) rfl) rfl ?_; refine WL_nil ?_; refine WC_seq ?_; refine WC_seq ?_; refine WC_region ?_; refine WL_val (rn_fld fd26_1 rfl) rfl ?_; refine WL_val (rn_load na23 rfl (hS.sat.cell (hcb4 1 _ rfl))) rfl ?_; refine WL_val (rn_len sl23 rfl rfl (h2.mono RTLandEvent_mono leG6).1) rfl ?_; refine WL_val (rn_move (v := (.int .i64 0)) rfl) rfl ?_; refine WL_nil ?_; have hO := hO.cons_nil 44 2; obtain ⟨q17, hq17, H⟩ := bnd H; refine WC_cut (fun F w => ∃ (Fb : Fr) (G : Gm) (aq17_0 : Option Addr) (nq17_0 cq17_0 : Nat) (claq17_0 : List Value), F = upds Fb [(6, .slice aq17_0 nq17_0 cq17_0)] ∧ Gle G6 G ∧ Since w0.heap.size G0 w0 G w ∧ Owns G w w0.heap.size [⟨44, 2, nq17_0, .slice aq17_0 nq17_0 cq17_0, claq17_0⟩, ⟨95, 64, 1, .slice (some ⟨b9, 0, none⟩) 1 1, cellsT q17.2⟩] ∧ nq17_0 = q17.1.length ∧ Rd RTSpan 2 G claq17_0 q17.1) ?_ ?_
  ·refine WC_block (WC_loop hq17 (fun s15 F w => ∃ (Fb : Fr) (G : Gm) (as15_0 : Option Addr) (ns15_0 cs15_0 : Nat) (clas15_0 : List Value), F = upds Fb [(4, .pointer (some ⟨b9, 0, none⟩)), (6, .slice as15_0 ns15_0 cs15_0), (18, .int .i64 (x0.Events.length : Int)), (19, .int .i64 s15.2.1)] ∧ Gle G6 G ∧ Since w0.heap.size G0 w0 G w ∧ Owns G w w0.heap.size [⟨44, 2, ns15_0, .slice as15_0 ns15_0 cs15_0, clas15_0⟩, ⟨95, 64, 1, .slice (some ⟨b9, 0, none⟩) 1 1, cellsT s15.2.2⟩] ∧ ns15_0 = s15.1.length ∧ Rd RTSpan 2 G clas15_0 s15.1) ?_ ?_)
   ·have hO : Owns G6 w12 w0.heap.size ([⟨44, 2, 0, .slice none 0 0, []⟩, ⟨95, 64, 1, .slice (some ⟨b9, 0, none⟩) 1 1, cellsT y7.1⟩]) := hO
    exact ⟨_, G6, none, 0, 0, [], upds_self _ _ ⟨rfl, rfl, rfl, rfl, trivial⟩, Gle.refl _, hS, hO, rfl, (Rd.nil RTSpan 2 G6)⟩
   ·rintro s15 F w19 t18 ⟨Fb, G20, as15_0, ns15_0, cs15_0, clas15_0, rfl, leG20, hS, hO, hnhs15_0, hs15_0⟩
    intro H1 hqq17
    have Hoq17 := H; have H := H1
    unfold f34_b0 at H
    refine WC_seq ?_; refine WC_region ?_; refine WL_val (rn_lss rfl rfl) rfl ?_; refine WL_nil ?_; refine WC_seq ?_; refine WC_cond rfl (fun hb21 => ?_) (fun hb21 => ?_)
    ·have H := ifT hb21 H; refine WC_skip ?_; refine WC_seq ?_; refine WC_block ?_; refine WC_seq ?_; refine WC_region ?_; refine WL_val (rn_move (v := (.int .i64 s15.2.1)) rfl) rfl ?_; refine WL_val (rn_assign (v := (.int .i64 s15.2.1)) rfl) rfl ?_; refine WL_nil ?_; refine WC_region ?_; refine WL_val (rn_move (v := (.slice as15_0 ns15_0 cs15_0)) rfl) rfl ?_; refine WL_val (rn_loadT ag95 hO (k := 1) rfl rfl) rfl ?_; refine WL_val (rn_move (v := (.int .i64 s15.2.1)) rfl) rfl ?_; obtain ⟨y22, hy22, H⟩ := bnd H; refine WL_op rfl (OpP_callV cb70 (f70_ok (x0 := s15.2.2) (x1 := 7) (x2 := s15.2.1) hS.sat  hy22) rfl rfl (fun w23 hb => ?_)); have hS := hS.keep hb; have hO := hO.below hb
     refine WL_op rfl (OpP_newF (v := fun b => .slice (some ⟨b, 0, none⟩) 1 1) (cs := [.int .i64 y22.Low, .int .i64 y22.High]) (e := 44) (by kernel_rfl) hS.sat rfl (fun b24 G26 w25 hg hcb24 => ?_))
     have hS := hS.grow hg; have hO := hO.grow hg
     have leG26 := hg.le
     have hfb24 : RSl RTSpan 2 G26 (some ⟨b24, 0, none⟩) 1 1 [y22] := RSl.of_rd hcb24 (Rd.cons (c := [.int .i64 y22.Low, .int .i64 y22.High]) rfl rfl (Rd.nil RTSpan 2 _)) rfl (by decide)
     obtain ⟨y27, hy27, H⟩ := bnd H; refine WL_op rfl (OpP_append (k := 0) sl47 RTSpan_one hS hO rfl hnhs15_0 (hs15_0.mono RTSpan_mono leG26) hfb24 hy27 rfl rfl rfl rfl rfl (fun aw28 cw28 w28 clw28 hS hO hrw28 => ?_))
     have hO : Owns G26 w28 w0.heap.size ([⟨44, 2, y27.length, .slice aw28 y27.length cw28, clw28⟩, ⟨95, 64, 1, .slice (some ⟨b9, 0, none⟩) 1 1, cellsT s15.2.2⟩]) := hO
     refine WL_val (rn_assign (v := (.slice aw28 y27.length cw28)) rfl) rfl ?_; refine WL_nil ?_; refine WC_region ?_; refine WL_val (rn_add rfl rfl) rfl ?_; refine WL_val (rn_move (v := (.int .i64 (IntKind.i64.wrap (s15.2.1 + 1)))) rfl) rfl ?_; refine WL_nil ?_
     have hO : Owns G26 w28 w0.heap.size ([⟨44, 2, y27.length, .slice aw28 y27.length cw28, clw28⟩, ⟨95, 64, 1, .slice (some ⟨b9, 0, none⟩) 1 1, cellsT s15.2.2⟩]) := hO
     have H := Option.some.inj H; subst H; refine ⟨_, rfl, ?_⟩
     have l1_3 := leG20.trans leG26
     exact ⟨_, G26, aw28, y27.length, cw28, clw28, upds_self _ _ ⟨rfl, rfl, rfl, rfl, trivial⟩, l1_3, hS, hO, rfl, hrw28⟩
    ·have H := ifF hb21 H; refine WC_exit rfl ?_
     have hO : Owns G20 w19 w0.heap.size ([⟨44, 2, ns15_0, .slice as15_0 ns15_0 cs15_0, clas15_0⟩, ⟨95, 64, 1, .slice (some ⟨b9, 0, none⟩) 1 1, cellsT s15.2.2⟩]) := hO
     have H := Option.some.inj H; subst H
     have hres := hqq17 _ rfl
     subst hres
     exact ⟨_, G20, as15_0, ns15_0, cs15_0, clas15_0, upds_self _ _ ⟨rfl, trivial⟩, leG20, hS, hO, hnhs15_0, hs15_0⟩
  ·rintro F w29 ⟨Fb, G30, aq17_0, nq17_0, cq17_0, claq17_0, rfl, leG30, hS, hO, hnhq17_0, hq17_0⟩
   refine WC_seq ?_; refine WC_region ?_; refine WL_val (rn_move (v := (.slice aq17_0 nq17_0 cq17_0)) rfl) rfl ?_; refine WL_val (rn_assign (v := (.slice aq17_0 nq17_0 cq17_0)) rfl) rfl ?_; refine WL_val (rn_assign (v := (.int .i64 0)) rfl) rfl ?_; refine WL_nil ?_; refine WC_ret ?_; obtain ⟨G31, leG31, hS, hO, hfG31⟩ := hO.freezeS hS RTSpan_mono (k := 0) rfl hq17_0 hnhq17_0
   have H : some (q17.1, 0) = some r := H
   have H := Option.some.inj H; subst H
   exact ⟨_, _, rfl, hS.toGrow, _, _, _, rfl, hfG31⟩
end Go.Proofs.YtcaflmilfhhikaaDoor
