/-
 slices.SortStableFunc over []store: the whole sort, 117 of them (printed by mkss.py).
-/
import Derived.Test.YtihedfkcccaonaaGreatDoorRx
namespace Go.Proofs.YtihedfkcccaonaaGreatDoor
open Go.RowKit
set_option maxRecDepth 20000
theorem zAz : zJ Tryz.prog 79 = true := by kernel_rfl
theorem kg {P : Program} {F : Fr} {w : World} {d : Option Nat} {t u ty : TypeId} {pos : String} {af : Array Edge} {gd : Option (Nat × Bool)} {x y : Operand} {m n : Nat} (hx : ev F x = iV (m : Int)) (hy : ev F y = iV (n : Int)) (h : m * n ≤ 4000) : (execOp (ev F) ⟨d, .binOp .mul t x y u, ty, pos, af, gd⟩).run P w = .ok (.value (iV ((m * n : Nat) : Int))) w := by
 rw [vH hx hy, show ((m : Int) * (n : Int)) = ((m * n : Nat) : Int) by simp, zgR h]
section
variable {B : Nat} {G0 Gc : Gm} {w0 wc : World} {Lq : List Row} {a : Option Addr} {n c kc : Nat} {cells ca : List Value} {D : List (Int × Int)} {key : Int × Int → Int}
set_option maxHeartbeats 4000000 in
theorem zvW (hS : Since B G0 w0 Gc wc) (hO : Owns Gc wc B (rowS a 117 c cells :: Lq)) (hr : Rd RSt 2 Gc cells D) (hn : 117 = D.length) (hcmp : CmpOk B G0 Gc w0 Lq a 117 c kc ca key D) :
  Calls Tryz.prog 79 [.slice a 117 c, iV 117, .func (.func kc) #[] ca.toArray].toArray wc (jP B G0 w0 Gc wc (fun G' L' _ => ∃ cells' E, L' = rowS a 117 c cells' :: Lq ∧ Rd RSt 2 G' cells' E ∧ Sr key E 0 117 ∧ E.Perm D)) := by
 have le : Gle Gc Gc := Gle.refl _
 have hm : Mv 0 117 D D := Mv.refl _ _ _
 refine yP (N := 63) (rs := []) hO.base Tryz.func79 rfl rfl rfl rfl (zd (zb (za (zf (v := iV 20) rfl) rfl (ze ?_))))
 refine zd (zb (za (zc (v := iV 20) rfl) rfl (za (zf (v := iV 0) rfl) rfl (za (zf (v := iV 20) rfl) rfl (ze ?_)))))
 refine zd (zp (qh ?_))
 refine qg (zd (zd (zb (za (zc (v := iV 20) rfl) rfl (za (zc (v := iV 117) rfl) rfl (za (yW rfl rfl) rfl (ze (zQ true rfl rfl (zq (zp (zd ?_)))))))))))
 refine zb (za (zc (v := .slice a 117 c) rfl) rfl (za (zc (v := iV 0) rfl) rfl (za (zc (v := iV 20) rfl) rfl (za (zc (v := .func (.func kc) #[] ca.toArray) rfl) rfl (?_)))))
 have hl : 117 = _ := hn.trans hm.len.symm
 refine zm rfl (z9 (fi := []) (al := [.slice a 117 c, iV ((0 : Nat) : Int), iV ((20 : Nat) : Int), .func (.func kc) #[] ca.toArray]) (ca := []) zgJ (zbe (s := 0) (e := 20) hS hO hr hl (by decide) (by decide) (by decide) (hcmp.le le hm.perm)) rfl rfl rfl fun v G w L1 le1 hS hO hv => ?_)
 obtain ⟨cells, E, rfl, hr, s0_20, hM⟩ := hv
 have le := le.trans le1
 have hm := hm.trans (hM.wide (by decide) (by decide))
 clear hM le1 hl
 refine ze (zd (zb (za (zc (v := iV 20) rfl) rfl (za (zf (v := iV 20) rfl) rfl (ze ?_)))))
 refine zb (za (zc (v := iV 20) rfl) rfl (za (zc (v := iV 20) rfl) rfl (za (v := iV 40) (zX (m := 20) (n := 20) rfl rfl (by decide)) rfl (za (zf (v := iV 40) rfl) rfl (ze ?_)))))
 refine qg (zd (zd (zb (za (zc (v := iV 40) rfl) rfl (za (zc (v := iV 117) rfl) rfl (za (yW rfl rfl) rfl (ze (zQ true rfl rfl (zq (zp (zd ?_)))))))))))
 refine zb (za (zc (v := .slice a 117 c) rfl) rfl (za (zc (v := iV 20) rfl) rfl (za (zc (v := iV 40) rfl) rfl (za (zc (v := .func (.func kc) #[] ca.toArray) rfl) rfl (?_)))))
 have hl : 117 = _ := hn.trans hm.len.symm
 refine zm rfl (z9 (fi := []) (al := [.slice a 117 c, iV ((20 : Nat) : Int), iV ((40 : Nat) : Int), .func (.func kc) #[] ca.toArray]) (ca := []) zgJ (zbe (s := 20) (e := 40) hS hO hr hl (by decide) (by decide) (by decide) (hcmp.le le hm.perm)) rfl rfl rfl fun v G w L1 le1 hS hO hv => ?_)
 obtain ⟨cells, E, rfl, hr, s20_40, hM⟩ := hv
 have le := le.trans le1
 have hm := hm.trans (hM.wide (by decide) (by decide))
 have s0_20 := s0_20.out hM (.inl (by decide))
 clear hM le1 hl
 refine ze (zd (zb (za (zc (v := iV 40) rfl) rfl (za (zf (v := iV 40) rfl) rfl (ze ?_)))))
 refine zb (za (zc (v := iV 40) rfl) rfl (za (zc (v := iV 20) rfl) rfl (za (v := iV 60) (zX (m := 40) (n := 20) rfl rfl (by decide)) rfl (za (zf (v := iV 60) rfl) rfl (ze ?_)))))
 refine qg (zd (zd (zb (za (zc (v := iV 60) rfl) rfl (za (zc (v := iV 117) rfl) rfl (za (yW rfl rfl) rfl (ze (zQ true rfl rfl (zq (zp (zd ?_)))))))))))
 refine zb (za (zc (v := .slice a 117 c) rfl) rfl (za (zc (v := iV 40) rfl) rfl (za (zc (v := iV 60) rfl) rfl (za (zc (v := .func (.func kc) #[] ca.toArray) rfl) rfl (?_)))))
 have hl : 117 = _ := hn.trans hm.len.symm
 refine zm rfl (z9 (fi := []) (al := [.slice a 117 c, iV ((40 : Nat) : Int), iV ((60 : Nat) : Int), .func (.func kc) #[] ca.toArray]) (ca := []) zgJ (zbe (s := 40) (e := 60) hS hO hr hl (by decide) (by decide) (by decide) (hcmp.le le hm.perm)) rfl rfl rfl fun v G w L1 le1 hS hO hv => ?_)
 obtain ⟨cells, E, rfl, hr, s40_60, hM⟩ := hv
 have le := le.trans le1
 have hm := hm.trans (hM.wide (by decide) (by decide))
 have s0_20 := s0_20.out hM (.inl (by decide))
 have s20_40 := s20_40.out hM (.inl (by decide))
 clear hM le1 hl
 refine ze (zd (zb (za (zc (v := iV 60) rfl) rfl (za (zf (v := iV 60) rfl) rfl (ze ?_)))))
 refine zb (za (zc (v := iV 60) rfl) rfl (za (zc (v := iV 20) rfl) rfl (za (v := iV 80) (zX (m := 60) (n := 20) rfl rfl (by decide)) rfl (za (zf (v := iV 80) rfl) rfl (ze ?_)))))
 refine qg (zd (zd (zb (za (zc (v := iV 80) rfl) rfl (za (zc (v := iV 117) rfl) rfl (za (yW rfl rfl) rfl (ze (zQ true rfl rfl (zq (zp (zd ?_)))))))))))
 refine zb (za (zc (v := .slice a 117 c) rfl) rfl (za (zc (v := iV 60) rfl) rfl (za (zc (v := iV 80) rfl) rfl (za (zc (v := .func (.func kc) #[] ca.toArray) rfl) rfl (?_)))))
 have hl : 117 = _ := hn.trans hm.len.symm
 refine zm rfl (z9 (fi := []) (al := [.slice a 117 c, iV ((60 : Nat) : Int), iV ((80 : Nat) : Int), .func (.func kc) #[] ca.toArray]) (ca := []) zgJ (zbe (s := 60) (e := 80) hS hO hr hl (by decide) (by decide) (by decide) (hcmp.le le hm.perm)) rfl rfl rfl fun v G w L1 le1 hS hO hv => ?_)
 obtain ⟨cells, E, rfl, hr, s60_80, hM⟩ := hv
 have le := le.trans le1
 have hm := hm.trans (hM.wide (by decide) (by decide))
 have s0_20 := s0_20.out hM (.inl (by decide))
 have s20_40 := s20_40.out hM (.inl (by decide))
 have s40_60 := s40_60.out hM (.inl (by decide))
 clear hM le1 hl
 refine ze (zd (zb (za (zc (v := iV 80) rfl) rfl (za (zf (v := iV 80) rfl) rfl (ze ?_)))))
 refine zb (za (zc (v := iV 80) rfl) rfl (za (zc (v := iV 20) rfl) rfl (za (v := iV 100) (zX (m := 80) (n := 20) rfl rfl (by decide)) rfl (za (zf (v := iV 100) rfl) rfl (ze ?_)))))
 refine qg (zd (zd (zb (za (zc (v := iV 100) rfl) rfl (za (zc (v := iV 117) rfl) rfl (za (yW rfl rfl) rfl (ze (zQ true rfl rfl (zq (zp (zd ?_)))))))))))
 refine zb (za (zc (v := .slice a 117 c) rfl) rfl (za (zc (v := iV 80) rfl) rfl (za (zc (v := iV 100) rfl) rfl (za (zc (v := .func (.func kc) #[] ca.toArray) rfl) rfl (?_)))))
 have hl : 117 = _ := hn.trans hm.len.symm
 refine zm rfl (z9 (fi := []) (al := [.slice a 117 c, iV ((80 : Nat) : Int), iV ((100 : Nat) : Int), .func (.func kc) #[] ca.toArray]) (ca := []) zgJ (zbe (s := 80) (e := 100) hS hO hr hl (by decide) (by decide) (by decide) (hcmp.le le hm.perm)) rfl rfl rfl fun v G w L1 le1 hS hO hv => ?_)
 obtain ⟨cells, E, rfl, hr, s80_100, hM⟩ := hv
 have le := le.trans le1
 have hm := hm.trans (hM.wide (by decide) (by decide))
 have s0_20 := s0_20.out hM (.inl (by decide))
 have s20_40 := s20_40.out hM (.inl (by decide))
 have s40_60 := s40_60.out hM (.inl (by decide))
 have s60_80 := s60_80.out hM (.inl (by decide))
 clear hM le1 hl
 refine ze (zd (zb (za (zc (v := iV 100) rfl) rfl (za (zf (v := iV 100) rfl) rfl (ze ?_)))))
 refine zb (za (zc (v := iV 100) rfl) rfl (za (zc (v := iV 20) rfl) rfl (za (v := iV 120) (zX (m := 100) (n := 20) rfl rfl (by decide)) rfl (za (zf (v := iV 120) rfl) rfl (ze ?_)))))
 refine qg (zd (zd (zb (za (zc (v := iV 120) rfl) rfl (za (zc (v := iV 117) rfl) rfl (za (yW rfl rfl) rfl (ze (zH false rfl rfl (zW rfl (zd ?_))))))))))
 refine zb (za (zc (v := .slice a 117 c) rfl) rfl (za (zc (v := iV 100) rfl) rfl (za (zc (v := iV 117) rfl) rfl (za (zc (v := .func (.func kc) #[] ca.toArray) rfl) rfl (?_)))))
 have hl : 117 = _ := hn.trans hm.len.symm
 refine zm rfl (z9 (fi := []) (al := [.slice a 117 c, iV ((100 : Nat) : Int), iV ((117 : Nat) : Int), .func (.func kc) #[] ca.toArray]) (ca := []) zgJ (zbe (s := 100) (e := 117) hS hO hr hl (by decide) (by decide) (by decide) (hcmp.le le hm.perm)) rfl rfl rfl fun v G w L1 le1 hS hO hv => ?_)
 obtain ⟨cells, E, rfl, hr, s100_117, hM⟩ := hv
 have le := le.trans le1
 have hm := hm.trans (hM.wide (by decide) (by decide))
 have s0_20 := s0_20.out hM (.inl (by decide))
 have s20_40 := s20_40.out hM (.inl (by decide))
 have s40_60 := s40_60.out hM (.inl (by decide))
 have s60_80 := s60_80.out hM (.inl (by decide))
 have s80_100 := s80_100.out hM (.inl (by decide))
 clear hM le1 hl
 refine ze (zp (qh ?_))
 refine qg (zd (zd (zb (za (zc (v := iV 20) rfl) rfl (za (zc (v := iV 117) rfl) rfl (za (zN rfl rfl) rfl (ze (zQ true rfl rfl (zq (zp (zd ?_)))))))))))
 refine zb (za (zc (v := iV 20) rfl) rfl (za (v := iV 40) (kg (m := 2) (n := 20) rfl rfl (by decide)) rfl (za (zf (v := iV 0) rfl) rfl (za (zf (v := iV 40) rfl) rfl (ze ?_)))))
 refine zd (zp (qh ?_))
 refine qg (zd (zd (zb (za (zc (v := iV 40) rfl) rfl (za (zc (v := iV 117) rfl) rfl (za (yW rfl rfl) rfl (ze (zQ true rfl rfl (zq (zp (zd ?_)))))))))))
 refine zb (za (zc (v := .slice a 117 c) rfl) rfl (za (zc (v := iV 0) rfl) rfl (za (zc (v := iV 0) rfl) rfl (za (zc (v := iV 20) rfl) rfl (za (v := iV 20) (zX (m := 0) (n := 20) rfl rfl (by decide)) rfl (za (zc (v := iV 40) rfl) rfl (za (zc (v := .func (.func kc) #[] ca.toArray) rfl) rfl (?_))))))))
 have hl : 117 = _ := hn.trans hm.len.symm
 refine zm rfl (z9 (fi := []) (al := [.slice a 117 c, iV ((0 : Nat) : Int), iV ((20 : Nat) : Int), iV ((40 : Nat) : Int), .func (.func kc) #[] ca.toArray]) (ca := []) zfx (zcI 200 (s := 0) (m := 20) (e := 40) (by decide) hS hO hr hl (by decide) (by decide) (by decide) (by decide) (hcmp.le le hm.perm) s0_20 s20_40) rfl rfl rfl fun v G w L1 le1 hS hO hv => ?_)
 obtain ⟨cells, E, rfl, hr, s0_40, hM⟩ := hv
 have le := le.trans le1
 have hm := hm.trans (hM.wide (by decide) (by decide))
 have s40_60 := s40_60.out hM (.inr (by decide))
 have s60_80 := s60_80.out hM (.inr (by decide))
 have s80_100 := s80_100.out hM (.inr (by decide))
 have s100_117 := s100_117.out hM (.inr (by decide))
 clear hM le1 hl
 refine ze (zd (zb (za (zc (v := iV 40) rfl) rfl (za (zf (v := iV 40) rfl) rfl (ze ?_)))))
 refine zb (za (zc (v := iV 40) rfl) rfl (za (zc (v := iV 20) rfl) rfl (za (v := iV 40) (kg (m := 2) (n := 20) rfl rfl (by decide)) rfl (za (v := iV 80) (zX (m := 40) (n := 40) rfl rfl (by decide)) rfl (za (zf (v := iV 80) rfl) rfl (ze ?_))))))
 refine qg (zd (zd (zb (za (zc (v := iV 80) rfl) rfl (za (zc (v := iV 117) rfl) rfl (za (yW rfl rfl) rfl (ze (zQ true rfl rfl (zq (zp (zd ?_)))))))))))
 refine zb (za (zc (v := .slice a 117 c) rfl) rfl (za (zc (v := iV 40) rfl) rfl (za (zc (v := iV 40) rfl) rfl (za (zc (v := iV 20) rfl) rfl (za (v := iV 60) (zX (m := 40) (n := 20) rfl rfl (by decide)) rfl (za (zc (v := iV 80) rfl) rfl (za (zc (v := .func (.func kc) #[] ca.toArray) rfl) rfl (?_))))))))
 have hl : 117 = _ := hn.trans hm.len.symm
 refine zm rfl (z9 (fi := []) (al := [.slice a 117 c, iV ((40 : Nat) : Int), iV ((60 : Nat) : Int), iV ((80 : Nat) : Int), .func (.func kc) #[] ca.toArray]) (ca := []) zfx (zcI 200 (s := 40) (m := 60) (e := 80) (by decide) hS hO hr hl (by decide) (by decide) (by decide) (by decide) (hcmp.le le hm.perm) s40_60 s60_80) rfl rfl rfl fun v G w L1 le1 hS hO hv => ?_)
 obtain ⟨cells, E, rfl, hr, s40_80, hM⟩ := hv
 have le := le.trans le1
 have hm := hm.trans (hM.wide (by decide) (by decide))
 have s0_40 := s0_40.out hM (.inl (by decide))
 have s80_100 := s80_100.out hM (.inr (by decide))
 have s100_117 := s100_117.out hM (.inr (by decide))
 clear hM le1 hl
 refine ze (zd (zb (za (zc (v := iV 80) rfl) rfl (za (zf (v := iV 80) rfl) rfl (ze ?_)))))
 refine zb (za (zc (v := iV 80) rfl) rfl (za (zc (v := iV 20) rfl) rfl (za (v := iV 40) (kg (m := 2) (n := 20) rfl rfl (by decide)) rfl (za (v := iV 120) (zX (m := 80) (n := 40) rfl rfl (by decide)) rfl (za (zf (v := iV 120) rfl) rfl (ze ?_))))))
 refine qg (zd (zd (zb (za (zc (v := iV 120) rfl) rfl (za (zc (v := iV 117) rfl) rfl (za (yW rfl rfl) rfl (ze (zH false rfl rfl (zW rfl (zd ?_))))))))))
 refine zd (zb (za (zc (v := iV 80) rfl) rfl (za (zc (v := iV 20) rfl) rfl (za (v := iV 100) (zX (m := 80) (n := 20) rfl rfl (by decide)) rfl (za (zf (v := iV 100) rfl) rfl (ze ?_))))))
 refine zd (zb (za (zc (v := iV 100) rfl) rfl (za (zc (v := iV 117) rfl) rfl (za (zN rfl rfl) rfl (ze (zQ true rfl rfl ?_))))))
 refine zb (za (zc (v := .slice a 117 c) rfl) rfl (za (zc (v := iV 80) rfl) rfl (za (zc (v := iV 100) rfl) rfl (za (zc (v := iV 117) rfl) rfl (za (zc (v := .func (.func kc) #[] ca.toArray) rfl) rfl (?_))))))
 have hl : 117 = _ := hn.trans hm.len.symm
 refine zm rfl (z9 (fi := []) (al := [.slice a 117 c, iV ((80 : Nat) : Int), iV ((100 : Nat) : Int), iV ((117 : Nat) : Int), .func (.func kc) #[] ca.toArray]) (ca := []) zfx (zcI 200 (s := 80) (m := 100) (e := 117) (by decide) hS hO hr hl (by decide) (by decide) (by decide) (by decide) (hcmp.le le hm.perm) s80_100 s100_117) rfl rfl rfl fun v G w L1 le1 hS hO hv => ?_)
 obtain ⟨cells, E, rfl, hr, s80_117, hM⟩ := hv
 have le := le.trans le1
 have hm := hm.trans (hM.wide (by decide) (by decide))
 have s0_40 := s0_40.out hM (.inl (by decide))
 have s40_80 := s40_80.out hM (.inl (by decide))
 clear hM le1 hl
 refine ze (zb (za (zc (v := iV 20) rfl) rfl (za (v := iV 40) (kg (m := 20) (n := 2) rfl rfl (by decide)) rfl (za (zf (v := iV 40) rfl) rfl (ze ?_)))))
 refine qg (zd (zd (zb (za (zc (v := iV 40) rfl) rfl (za (zc (v := iV 117) rfl) rfl (za (zN rfl rfl) rfl (ze (zQ true rfl rfl (zq (zp (zd ?_)))))))))))
 refine zb (za (zc (v := iV 40) rfl) rfl (za (v := iV 80) (kg (m := 2) (n := 40) rfl rfl (by decide)) rfl (za (zf (v := iV 0) rfl) rfl (za (zf (v := iV 80) rfl) rfl (ze ?_)))))
 refine zd (zp (qh ?_))
 refine qg (zd (zd (zb (za (zc (v := iV 80) rfl) rfl (za (zc (v := iV 117) rfl) rfl (za (yW rfl rfl) rfl (ze (zQ true rfl rfl (zq (zp (zd ?_)))))))))))
 refine zb (za (zc (v := .slice a 117 c) rfl) rfl (za (zc (v := iV 0) rfl) rfl (za (zc (v := iV 0) rfl) rfl (za (zc (v := iV 40) rfl) rfl (za (v := iV 40) (zX (m := 0) (n := 40) rfl rfl (by decide)) rfl (za (zc (v := iV 80) rfl) rfl (za (zc (v := .func (.func kc) #[] ca.toArray) rfl) rfl (?_))))))))
 have hl : 117 = _ := hn.trans hm.len.symm
 refine zm rfl (z9 (fi := []) (al := [.slice a 117 c, iV ((0 : Nat) : Int), iV ((40 : Nat) : Int), iV ((80 : Nat) : Int), .func (.func kc) #[] ca.toArray]) (ca := []) zfx (zcI 200 (s := 0) (m := 40) (e := 80) (by decide) hS hO hr hl (by decide) (by decide) (by decide) (by decide) (hcmp.le le hm.perm) s0_40 s40_80) rfl rfl rfl fun v G w L1 le1 hS hO hv => ?_)
 obtain ⟨cells, E, rfl, hr, s0_80, hM⟩ := hv
 have le := le.trans le1
 have hm := hm.trans (hM.wide (by decide) (by decide))
 have s80_117 := s80_117.out hM (.inr (by decide))
 clear hM le1 hl
 refine ze (zd (zb (za (zc (v := iV 80) rfl) rfl (za (zf (v := iV 80) rfl) rfl (ze ?_)))))
 refine zb (za (zc (v := iV 80) rfl) rfl (za (zc (v := iV 40) rfl) rfl (za (v := iV 80) (kg (m := 2) (n := 40) rfl rfl (by decide)) rfl (za (v := iV 160) (zX (m := 80) (n := 80) rfl rfl (by decide)) rfl (za (zf (v := iV 160) rfl) rfl (ze ?_))))))
 refine qg (zd (zd (zb (za (zc (v := iV 160) rfl) rfl (za (zc (v := iV 117) rfl) rfl (za (yW rfl rfl) rfl (ze (zH false rfl rfl (zW rfl (zd ?_))))))))))
 refine zd (zb (za (zc (v := iV 80) rfl) rfl (za (zc (v := iV 40) rfl) rfl (za (v := iV 120) (zX (m := 80) (n := 40) rfl rfl (by decide)) rfl (za (zf (v := iV 120) rfl) rfl (ze ?_))))))
 refine zd (zb (za (zc (v := iV 120) rfl) rfl (za (zc (v := iV 117) rfl) rfl (za (zN rfl rfl) rfl (ze (zH false rfl rfl (zq (zb (za (zc (v := iV 40) rfl) rfl (za (v := iV 80) (kg (m := 40) (n := 2) rfl rfl (by decide)) rfl (za (zf (v := iV 80) rfl) rfl (ze ?_))))))))))))
 refine qg (zd (zd (zb (za (zc (v := iV 80) rfl) rfl (za (zc (v := iV 117) rfl) rfl (za (zN rfl rfl) rfl (ze (zQ true rfl rfl (zq (zp (zd ?_)))))))))))
 refine zb (za (zc (v := iV 80) rfl) rfl (za (v := iV 160) (kg (m := 2) (n := 80) rfl rfl (by decide)) rfl (za (zf (v := iV 0) rfl) rfl (za (zf (v := iV 160) rfl) rfl (ze ?_)))))
 refine zd (zp (qh ?_))
 refine qg (zd (zd (zb (za (zc (v := iV 160) rfl) rfl (za (zc (v := iV 117) rfl) rfl (za (yW rfl rfl) rfl (ze (zH false rfl rfl (zW rfl (zd ?_))))))))))
 refine zd (zb (za (zc (v := iV 0) rfl) rfl (za (zc (v := iV 80) rfl) rfl (za (v := iV 80) (zX (m := 0) (n := 80) rfl rfl (by decide)) rfl (za (zf (v := iV 80) rfl) rfl (ze ?_))))))
 refine zd (zb (za (zc (v := iV 80) rfl) rfl (za (zc (v := iV 117) rfl) rfl (za (zN rfl rfl) rfl (ze (zQ true rfl rfl ?_))))))
 refine zb (za (zc (v := .slice a 117 c) rfl) rfl (za (zc (v := iV 0) rfl) rfl (za (zc (v := iV 80) rfl) rfl (za (zc (v := iV 117) rfl) rfl (za (zc (v := .func (.func kc) #[] ca.toArray) rfl) rfl (?_))))))
 have hl : 117 = _ := hn.trans hm.len.symm
 refine zm rfl (z9 (fi := []) (al := [.slice a 117 c, iV ((0 : Nat) : Int), iV ((80 : Nat) : Int), iV ((117 : Nat) : Int), .func (.func kc) #[] ca.toArray]) (ca := []) zfx (zcI 200 (s := 0) (m := 80) (e := 117) (by decide) hS hO hr hl (by decide) (by decide) (by decide) (by decide) (hcmp.le le hm.perm) s0_80 s80_117) rfl rfl rfl fun v G w L1 le1 hS hO hv => ?_)
 obtain ⟨cells, E, rfl, hr, s0_117, hM⟩ := hv
 have le := le.trans le1
 have hm := hm.trans (hM.wide (by decide) (by decide))
 clear hM le1 hl
 refine ze (zb (za (zc (v := iV 80) rfl) rfl (za (v := iV 160) (kg (m := 80) (n := 2) rfl rfl (by decide)) rfl (za (zf (v := iV 160) rfl) rfl (ze ?_)))))
 refine qg (zd (zd (zb (za (zc (v := iV 160) rfl) rfl (za (zc (v := iV 117) rfl) rfl (za (zN rfl rfl) rfl (ze (zH false rfl rfl (zW rfl ?_)))))))))
 exact ⟨[], trivial, G, _, le, hS, hO, cells, E, rfl, hr, s0_117, hm.perm⟩
theorem zwb (hS : Since B G0 w0 Gc wc) (hO : Owns Gc wc B (rowS a 117 c cells :: Lq)) (hr : Rd RSt 2 Gc cells D) (hn : 117 = D.length) (hcmp : CmpOk B G0 Gc w0 Lq a 117 c kc ca key D) :
  Calls Tryz.prog 27 [.slice a 117 c, .func (.func kc) #[] ca.toArray].toArray wc (jP B G0 w0 Gc wc (fun G' L' _ => ∃ cells' E, L' = rowS a 117 c cells' :: Lq ∧ Rd RSt 2 G' cells' E ∧ Sr key E 0 117 ∧ E.Perm D)) := by
 refine yP (N := 9) (rs := []) hO.base Tryz.func27 rfl rfl rfl rfl (zb (za (zc (v := .slice a 117 c) rfl) rfl (za (zc (v := .slice a 117 c) rfl) rfl (za (v := iV 117) (ji (m := 117) jr rfl rfl rfl) rfl (za (zc (v := .func (.func kc) #[] ca.toArray) rfl) rfl ?_)))))
 refine zm rfl (z9 (fi := []) (al := [.slice a 117 c, iV 117, .func (.func kc) #[] ca.toArray]) (ca := []) zAz (zvW hS hO hr hn hcmp) rfl rfl rfl fun v G w L1 le hS hO hv => ?_)
 obtain ⟨cells, E, rfl, hr, hs, hp⟩ := hv
 exact ze ⟨[], trivial, G, _, le, hS, hO, cells, E, rfl, hr, hs, hp⟩
end
abbrev vIs (n : Int) : Value := iV n
theorem zqS : Tryz.prog.underlying 88 = some (.map 91 3) := by kernel_rfl
theorem zhs : zmi Tryz.prog 91 zaG := zoT (by kernel_rfl) (by kernel_rfl)
theorem zt7 : (Tryz.prog.info? 3).bind (·.zero) = some (vIs (0 : Int)) := by kernel_rfl
theorem zxv : naB Tryz.prog 88 = true := by kernel_rfl
theorem zAD : zJ Tryz.prog 28 = true := by kernel_rfl
theorem zwa {B b rm k e : Nat} {G : Gm} {w : World} {L : List Row} {M : List ((Int × Int) × Int)} {x y : Int × Int} {cx cy : Int} (hS0 : Sat G w) (hO : Owns G w B L) (hr : L[k]? = some ⟨e, 2, M.length, .map (some rm), kvs zaG vIs M⟩) (hc : Cells G b 0 [.map (some rm)]) (hx : ju M x = some cx) (hy : ju M y = some cy) (h1 : 0 ≤ cx ∧ cx ≤ 1000000000) (h2 : 0 ≤ cy ∧ cy ≤ 1000000000) :
  Calls Tryz.prog 28 ([] ++ [Value.agg #[iV x.1, iV x.2], .agg #[iV y.1, iV y.2]] ++ [pV b]).toArray w (qW w (iV (cx - cy))) := by
 have hS := Since.start hS0
 refine qb (N := 13) (yd _ _) Tryz.func28 rfl rfl rfl rfl (zd (zb ?_))
 refine zm rfl (zP (v := fun b => pV b) (cs := [iV x.1, iV x.2]) (e := 91) (qu rfl) hS.sat rfl fun b3 G1 w1 hg1 hc3 => ?_)
 have hS := hS.grow hg1
 have hO := hO.grow hg1
 refine zm rfl (zP (v := fun b => pV b) (cs := [iV y.1, iV y.2]) (e := 91) (qu rfl) hS.sat rfl fun b4 G2 w2 hg2 hc4 => ?_)
 have hS := hS.grow hg2
 have hO := hO.grow hg2
 have hc3 := hc3.mono hg2.le
 have hc := hc.mono (hg1.le.trans hg2.le)
 refine za (zf (v := iV 0) rfl) rfl (ze (zd ?_))
 refine zM qw (fun _ w => Sat G2 w ∧ Owns G2 w B L) (.fl 0 (.fl 1 (.fl 2 (.fl 3 (.fl 4 (.fl 5 (.fl 6 (.on 7 .nil)))))))) (by kernel_rfl) rfl (by kernel_rfl) (fun _ => ⟨(hS.keep (zj _)).sat, hO.below (zj _)⟩) ?_
 have hS := hS.keep (zj w2)
 refine zh rfl (fun w hw => zo zxv rfl (hw.1.cell (hc 0 _ rfl))) rfl (zh rfl (fun w hw => zu xH (cs := [iV x.1, iV x.2]) rfl rfl fun j v hj => hw.1.cell (hc3 j v hj)) rfl ?_)
 refine zh (v := iV cx) rfl (fun w hw => (zc3 (a := x) (z := (0 : Int)) (vv := vIs) zqS zhs zt7 hw.2 hr rfl rfl).trans (by rw [hx]; rfl)) rfl ?_
 refine zh rfl (fun w hw => zo zxv rfl (hw.1.cell (hc 0 _ rfl))) rfl (zh rfl (fun w hw => zu xH (cs := [iV y.1, iV y.2]) rfl rfl fun j v hj => hw.1.cell (hc4 j v hj)) rfl ?_)
 refine zh (v := iV cy) rfl (fun w hw => (zc3 (a := y) (z := (0 : Int)) (vv := vIs) zqS zhs zt7 hw.2 hr rfl rfl).trans (by rw [hy]; rfl)) rfl ?_
 refine zh rfl (fun w hw => vd rfl rfl) rfl ?_
 rw [show IntKind.i64.wrap (cx - cy) = cx - cy from qt ⟨by omega, by omega⟩]
 refine zD rfl rfl (zY (zf (v := iV (cx - cy)) rfl) rfl ⟨fun _ h => zR (by kernel_rfl) h, qp (zF ?_)⟩)
 exact ⟨rfl, hS.below⟩
theorem zyg {B : Nat} {G0 Gc : Gm} {w0 : World} {Lq : List Row} {a : Option Addr} {n c b rm k e : Nat} {M : List ((Int × Int) × Int)} {key : Int × Int → Int} {D : List (Int × Int)} (hc : Cells Gc b 0 [.map (some rm)]) (hk : Lq[k]? = some ⟨e, 2, M.length, .map (some rm), kvs zaG vIs M⟩)
  (hM : ∀ x ∈ D, ju M x = some (key x) ∧ 0 ≤ key x ∧ key x ≤ 1000000000) : CmpOk B G0 Gc w0 Lq a n c 28 [pV b] key D :=
 ⟨zAD, fun G w cells le hS hO x hx y hy => ⟨key x - key y, by omega, zwa (k := k + 1) hS.sat hO hk (hc.mono le) (hM x hx).1 (hM y hy).1 (hM x hx).2 (hM y hy).2⟩⟩
def vV (p : Int × Int → Bool) (D : List (Int × Int)) : Value := match D.find? p with
 | some x => .tuple #[.agg #[iV x.1, iV x.2], .bool true]
 | none => .tuple #[.agg #[iV 0, iV 0], .bool false]
theorem ziK {p : Int × Int → Bool} {D : List (Int × Int)} {i : Nat} (h : i < D.length) (hp : p D[i] = true) (hb : ∀ k (hk : k < D.length), k < i → p D[k] = false) : vV p D = .tuple #[.agg #[iV D[i].1, iV D[i].2], .bool true] := by
 have : D.find? p = some D[i] := List.find?_eq_some_iff_getElem.2 ⟨hp, i, h, rfl, fun j hj => by rw [hb j (by omega) hj]; rfl⟩
 unfold vV
 rw [this]
theorem ziL {p : Int × Int → Bool} {D : List (Int × Int)} (hb : ∀ k (hk : k < D.length), p D[k] = false) : vV p D = .tuple #[.agg #[iV 0, iV 0], .bool false] := by
 have : D.find? p = none := List.find?_eq_none.2 fun x hx => by
  obtain ⟨k, hk, rfl⟩ := List.mem_iff_getElem.1 hx
  rw [hb k hk]
  decide
 unfold vV
 rw [this]
abbrev jT (b : Nat) (u v : Int) : Row := ⟨91, 2, 1, .slice (some ⟨b, 0, none⟩) 1 1, [iV u, iV v]⟩
theorem zv9 {a : Option Addr} {n c kc : Nat} {ca : List Value} {G0 : Gm} {w0 : World} {D : List (Int × Int)} {p : Int × Int → Bool} (hS0 : Sat G0 w0) (hl : RSl RSt 2 G0 a n c D) (hn : n ≤ 1000) (hk : zJ Tryz.prog kc = true)
  (hsuf : ∀ w, Below w0.heap.size w0 w → ∀ x ∈ D, Calls Tryz.prog kc ([] ++ [Value.agg #[iV x.1, iV x.2]] ++ ca).toArray w (qW w (.bool (p x)))) :
  Calls Tryz.prog 29 [.slice a n c, .func (.func kc) #[] ca.toArray].toArray w0 (qW w0 (vV p D)) := by
 have hS := Since.start hS0
 have hO : Owns G0 w0 w0.heap.size [] := Owns.nil (Nat.le_refl _)
 have hnl : n = D.length := hl.1
 refine zdo (N := 21) (yd _ _) [.cell 4 91, .tmp 5] Tryz.func29 rfl rfl rfl rfl (zd (zb ?_))
 refine zm rfl (z7 (v := fun b => pV b) (cs := [iV 0, iV 0]) (e := 91) (by kernel_rfl) hS.sat hO rfl 2 1 rfl (by decide) fun b4 w1 hb hO => ?_)
 have hS := hS.keep hb
 refine za (zf (v := .bool false) rfl) rfl (ze (zd (zd (zb (za (zc (v := .slice a n c) rfl) rfl (za (ji (m := n) jr rfl rfl rfl) rfl (za (zc (v := iV 0) rfl) rfl (ze ?_))))))))
 refine zp (qh (qN n (fun i F w => ∃ Fb, F = qi Fb [(1, .func (.func kc) #[] ca.toArray), (4, pV b4), (9, .slice a n c), (10, iV (n : Int)), (11, iV (i : Int))] ∧ Since w0.heap.size G0 w0 G0 w ∧ Owns G0 w w0.heap.size [jT b4 0 0] ∧ ∀ k (hk : k < D.length), k < i → p D[k] = false) ?_ ?_ n 0 _ _ (by omega) ⟨_, zi _ _ ⟨rfl, rfl, rfl, rfl, rfl, trivial⟩, hS, hO, fun k _ h => by omega⟩))
 ·rintro i F w hi ⟨Fb, rfl, hS, hO, hbf⟩
  have hiD : i < D.length := by omega
  refine zd (zb (za (zN rfl rfl) rfl (ze (zd (zQ (decide ((i : Int) < (n : Int))) (decide_eq_true (by omega)) rfl (zq ?_))))))
  refine zd (zp (zd (zb (zb0 jr hl (yo hiD) rfl rfl rfl ?_))))
  rintro bp op _ hcp _ ⟨⟩
  refine za (zu xH (cs := [iV D[i].1, iV D[i].2]) rfl rfl fun j v hj => hS.sat.cell (hcp j v hj)) rfl ?_
  refine zm rfl (z7 (v := fun b => pV b) (cs := [iV 0, iV 0]) (e := 91) (by kernel_rfl) hS.sat hO rfl 2 1 rfl (by decide) fun b7 w2 hb hO => ?_)
  have hS := hS.keep hb
  refine zm rfl (zG (vs := [iV D[i].1, iV D[i].2]) zbq hS hO (k := 0) rfl rfl rfl rfl rfl (yt rfl rfl) (nQl rfl) fun w3 hS hO => ze ?_)
  have hO : Owns G0 w3 w0.heap.size [jT b7 D[i].1 D[i].2, jT b4 0 0] := hO
  refine zd (zb (za (zc (v := .func (.func kc) #[] ca.toArray) rfl) rfl (za (zu xH (cs := [iV D[i].1, iV D[i].2]) rfl rfl (qX hO (k := 0) rfl 0 2)) rfl ?_)))
  refine zm rfl (ym (fi := []) (al := [.agg #[iV D[i].1, iV D[i].2]]) (ca := ca) hk (hsuf _ hS.below D[i] (List.getElem_mem _)) rfl rfl rfl fun w4 hb => ze ?_)
  have hS := hS.keep hb
  have hO := hO.below hb
  refine zV rfl (fun hb => ?_) (fun hb => ?_)
  ·refine zd (zb (za (zu xH (cs := [iV D[i].1, iV D[i].2]) rfl rfl (qX hO (k := 0) rfl 0 2)) rfl ?_))
   refine zm rfl (zG (vs := [iV D[i].1, iV D[i].2]) zbq hS hO (k := 1) rfl rfl rfl rfl rfl (yt rfl rfl) (nQl rfl) fun w5 hS hO => ?_)
   have hO : Owns G0 w5 w0.heap.size [jT b7 D[i].1 D[i].2, jT b4 D[i].1 D[i].2] := hO
   refine za (zf (v := .bool true) rfl) rfl (ze (zF ?_))
   exact ⟨[.agg #[iV D[i].1, iV D[i].2], .bool true], ⟨⟨_, rfl, vi (cs := [iV D[i].1, iV D[i].2]) xH rfl (qX hO (k := 1) rfl 0 2)⟩, rfl, trivial⟩, by rw [ziK hiD hb hbf]; rfl, hS.below⟩
  ·refine zq (zb (za (v := iV ((i + 1 : Nat) : Int)) (zX (m := i) (n := 1) rfl rfl (by omega)) rfl (za (zc (v := iV ((i + 1 : Nat) : Int)) rfl) rfl (ze ?_))))
   refine ⟨_, zi _ _ ⟨rfl, rfl, rfl, rfl, rfl, trivial⟩, hS, hO.drop 0, fun k hk h => ?_⟩
   rcases Nat.lt_or_ge k i with h' | h'
   ·exact hbf k hk h'
   ·obtain rfl : k = i := by omega
    exact hb
 ·rintro F w ⟨Fb, rfl, hS, hO, hbf⟩
  refine qg (zd (zb (za (zN rfl rfl) rfl (ze (zd (zH (decide ((n : Int) < (n : Int))) (decide_eq_false (by omega)) rfl (zW rfl ?_)))))))
  refine zd (zb ?_)
  refine zm rfl (z7 (v := fun b => pV b) (cs := [iV 0, iV 0]) (e := 91) (by kernel_rfl) hS.sat hO rfl 2 1 rfl (by decide) fun b8 w2 hb hO => ze ?_)
  have hS := hS.keep hb
  have hO : Owns G0 w2 w0.heap.size [jT b8 0 0, jT b4 0 0] := hO
  refine zd (zb (za (zu xH (cs := [iV 0, iV 0]) rfl rfl (qX hO (k := 0) rfl 0 2)) rfl ?_))
  refine zm rfl (zG (vs := [iV 0, iV 0]) zbq hS hO (k := 1) rfl rfl rfl rfl rfl (yt rfl rfl) (nQl rfl) fun w5 hS hO => ?_)
  have hO : Owns G0 w5 w0.heap.size [jT b8 0 0, jT b4 0 0] := hO
  refine za (zf (v := .bool false) rfl) rfl (ze (zF ?_))
  exact ⟨[.agg #[iV 0, iV 0], .bool false], ⟨⟨_, rfl, vi (cs := [iV 0, iV 0]) xH rfl (qX hO (k := 1) rfl 0 2)⟩, rfl, trivial⟩, by rw [ziL fun k hk => hbf k hk (by omega)]; rfl, hS.below⟩
def kE (xs : List Int) (i : Nat) : Int := (xs.take i).sum
theorem zeq {xs : List Int} {i : Nat} (h : i < xs.length) : kE xs (i + 1) = kE xs i + xs[i] := by
 unfold kE
 rw [List.take_add_one, List.getElem?_eq_getElem h, List.sum_append]
 simp
theorem zf1 {xs : List Int} (hb : ∀ x ∈ xs, -1000000000000 ≤ x ∧ x ≤ 1000000000000) : ∀ i, i ≤ xs.length → -(1000000000000 * (i : Int)) ≤ kE xs i ∧ kE xs i ≤ 1000000000000 * (i : Int)
 | 0, _ => by simp [kE]
 | i + 1, h => by
  have h1 := zf1 hb i (by omega)
  have h2 := hb _ (List.getElem_mem (show i < xs.length by omega))
  rw [zeq (by omega)]
  omega
theorem zi8 : zJ Tryz.prog 174 = true := by kernel_rfl
theorem zcH {G0 : Gm} {w0 : World} {a : Option Addr} {n c : Nat} {xs : List Int} (hS0 : Sat G0 w0) (hl : RSl yD 1 G0 a n c xs) (hn : n ≤ 1000) (hb : ∀ x ∈ xs, -1000000000000 ≤ x ∧ x ≤ 1000000000000) :
  Calls Tryz.prog 174 [.slice a n c].toArray w0 (qW w0 (iV xs.sum)) := by
 have hS := Since.start hS0
 have hnl : n = xs.length := hl.1
 refine qb (N := 17) (yd _ _) Tryz.func174 rfl rfl rfl rfl (zd (zb (za (zf (v := iV 0) rfl) rfl (ze (zd (zb (za (zf (v := iV 0) rfl) rfl (ze ?_))))))))
 refine zd (zd (zb (za (zc (v := .slice a n c) rfl) rfl (za (ji (m := n) s24 rfl rfl rfl) rfl (za (zc (v := iV 0) rfl) rfl (ze ?_))))))
 refine zp (qh (qN n (fun i F w => ∃ Fb, F = qi Fb [(3, iV (kE xs i)), (6, .slice a n c), (7, iV (n : Int)), (8, iV (i : Int))] ∧ Since w0.heap.size G0 w0 G0 w) ?_ ?_ n 0 _ _ (by omega) ⟨_, zi _ _ ⟨rfl, rfl, rfl, rfl, trivial⟩, hS⟩))
 ·rintro i F w hi ⟨Fb, rfl, hS⟩
  have hiD : i < xs.length := by omega
  have h1 := zf1 hb i (by omega)
  have h2 := hb _ (List.getElem_mem hiD)
  refine zd (zb (za (zN rfl rfl) rfl (ze (zd (zQ (decide ((i : Int) < (n : Int))) (decide_eq_true (by omega)) rfl (zq ?_))))))
  refine zd (zp (zd (zb (zb0 s24 hl (yo hiD) rfl rfl rfl ?_))))
  rintro bp op _ hcp _ ⟨⟩
  refine za (zo n3 rfl (hS.sat.cell (hcp 0 _ rfl))) rfl (za (zf (v := iV xs[i]) rfl) rfl (ze (zb (za (zc (v := iV (kE xs i)) rfl) rfl (za (zc (v := iV xs[i]) rfl) rfl (za (jz rfl rfl) rfl ?_))))))
  rw [show IntKind.i64.wrap (kE xs i + xs[i]) = kE xs (i + 1) by rw [zeq hiD]; exact qt ⟨by omega, by omega⟩]
  refine za (zf (v := iV (kE xs (i + 1))) rfl) rfl (ze (zb (za (v := iV ((i + 1 : Nat) : Int)) (zX (m := i) (n := 1) rfl rfl (by omega)) rfl (za (zc (v := iV ((i + 1 : Nat) : Int)) rfl) rfl (ze ?_)))))
  exact ⟨_, zi _ _ ⟨rfl, rfl, rfl, rfl, trivial⟩, hS⟩
 ·rintro F w ⟨Fb, rfl, hS⟩
  refine qg (zd (zb (za (zN rfl rfl) rfl (ze (zd (zH (decide ((n : Int) < (n : Int))) (decide_eq_false (by omega)) rfl (zW rfl ?_)))))))
  refine zd (zb (za (zc (v := iV (kE xs n)) rfl) rfl (za (zf (v := iV (kE xs n)) rfl) rfl (ze (zF ?_)))))
  exact ⟨by rw [show xs.sum = kE xs n by unfold kE; rw [hnl, List.take_length]]; rfl, hS.below⟩
theorem zq3 {G : Gm} {b : Nat} {x y : Int} (h : Cells G b 0 [iV x, iV y]) : RSl yD 1 G (some ⟨b, 0, none⟩) 2 2 [x, y] := by
 refine ⟨rfl, by decide, fun i v hi => ?_⟩
 match i, hi with
 | 0, hi => exact ⟨b, 0, [iV x], rfl, fun j u hj => by cases j with | zero => exact h 0 u hj | succ j => simp at hj, rfl, by cases hi; rfl⟩
 | 1, hi => exact ⟨b, 0, [iV y], rfl, fun j u hj => by cases j with | zero => exact h 1 u hj | succ j => simp at hj, rfl, by cases hi; rfl⟩
structure jQ where
 sunny : Int
 cloudy : Int
 size : Int
 fade : Int
 start : Int
 la : Option Addr
 ln : Nat
 lc : Nat
 days : Int
 window : Int
 most : Int
 panel : Int
 battery : Int
 p : Int
 q : Int
 off : Int
 wt : List UInt8
abbrev rowR (b : Nat) (S : jQ) (day en ca l0 l1 l2 l3 l4 l5 : Int) : Row := ⟨113, 24, 1, .slice (some ⟨b, 0, none⟩) 1 1, [iV S.sunny, iV S.cloudy, iV S.size, iV S.fade, iV S.start, .slice S.la S.ln S.lc, iV S.days, iV S.window, iV S.most, iV S.panel, iV S.battery, iV S.p, iV S.q, iV S.off, .string ⟨S.wt.toArray⟩, iV day, iV en, iV ca, iV l0, iV l1, iV l2, iV l3, iV l4, iV l5]⟩
theorem zbK : qx Tryz.prog 113 0 = some 0 := by kernel_rfl
theorem znU : qx Tryz.prog 113 1 = some 11 := by kernel_rfl
theorem zuo : qx Tryz.prog 113 2 = some 13 := by kernel_rfl
theorem zun : qx Tryz.prog 113 3 = some 14 := by kernel_rfl
theorem znT : qx Tryz.prog 113 4 = some 15 := by kernel_rfl
theorem jA : qx Tryz.prog 113 5 = some 16 := by kernel_rfl
theorem zhe : qx Tryz.prog 113 6 = some 17 := by kernel_rfl
theorem kH : qx Tryz.prog 113 7 = some 18 := by kernel_rfl
theorem zxi : qx Tryz.prog 45 2 = some 2 := by kernel_rfl
theorem zxh : qx Tryz.prog 45 3 = some 3 := by kernel_rfl
theorem znZ : qx Tryz.prog 91 1 = some 1 := by kernel_rfl
theorem znV : qx Tryz.prog 67 4 = some 4 := by kernel_rfl
section
variable {B : Nat} {G0 Gc : Gm} {w0 wc : World} {Lq : List Row} {b : Nat} {S : jQ} {day en ca l0 l1 l2 l3 l4 l5 : Int}
theorem zpn (hO : Owns Gc wc B (rowR b S day en ca l0 l1 l2 l3 l4 l5 :: Lq)) (h1 : IntKind.i64.wrap (S.size * S.q) = S.size * S.q) :
  Calls Tryz.prog 91 [pV b].toArray wc (qW wc (iV (S.size * S.q))) := by
 refine qb (N := 14) (yd _ _) Tryz.func91 rfl rfl rfl rfl (zd (zb (za (zf (v := iV 0) rfl) rfl (ze (zd ?_)))))
 refine zM qw (fun _ w => Owns Gc w B (rowR b S day en ca l0 l1 l2 l3 l4 l5 :: Lq)) (.fl 0 (.fl 1 (.fl 2 (.fl 3 (.fl 4 (.fl 5 (.fl 6 (.fl 7 (.fl 8 (.fl 9 (.fl 10 (.on 11 .nil)))))))))))) (by kernel_rfl) rfl (by kernel_rfl) (fun _ => hO.below (zj _)) ?_
 refine zh rfl (fun w hw => zc (v := pV b) rfl) rfl (zh (v := pV b) rfl (fun w hw => by kernel_rfl) rfl (zh rfl (fun w hw => zk zbK rfl) rfl (zh rfl (fun w hw => zk zxi rfl) rfl (zh rfl (fun w hw => zo n3 rfl (zr hw (k := 0) rfl rfl)) rfl ?_))))
 refine zh rfl (fun w hw => zc (v := pV b) rfl) rfl (zh (v := pV b) rfl (fun w hw => by kernel_rfl) rfl (zh rfl (fun w hw => zk znU rfl) rfl (zh rfl (fun w hw => zk znZ rfl) rfl (zh rfl (fun w hw => zo n3 rfl (zr hw (k := 0) rfl rfl)) rfl (zh rfl (fun w hw => vH rfl rfl) rfl ?_)))))
 rw [h1]
 refine zD rfl rfl (zY (zf (v := iV (S.size * S.q)) rfl) rfl ⟨fun _ h => zR (by kernel_rfl) h, qp (zF ?_)⟩)
 exact ⟨rfl, zj _⟩
theorem zvP (hS : Since B G0 w0 Gc wc) (hO : Owns Gc wc B (rowR b S day en ca l0 l1 l2 l3 l4 l5 :: Lq)) (he : 0 ≤ en ∧ en ≤ 1000000000) (hf : 0 ≤ S.fade ∧ S.fade ≤ 1000) (h4 : -100000000000 ≤ l4 ∧ l4 ≤ 100000000000) :
  Calls Tryz.prog 94 [pV b].toArray wc (jP B G0 w0 Gc wc (fun G' L' _ => L' = rowR b S day (en - en * S.fade / 1000) ca l0 l1 l2 l3 (l4 + en * S.fade / 1000) l5 :: Lq)) := by
 have m0 : 0 ≤ en * S.fade := Int.mul_nonneg he.1 hf.1
 have m1 : en * S.fade ≤ 1000000000 * 1000 := Int.mul_le_mul he.2 hf.2 hf.1 (by decide)
 have m2 : en * S.fade ≤ en * 1000 := Int.mul_le_mul_of_nonneg_left hf.2 he.1
 obtain ⟨z, hz⟩ : ∃ z, z = en * S.fade / 1000 := ⟨_, rfl⟩
 rw [← hz]
 have hzb : 0 ≤ z ∧ z ≤ en := by omega
 have w1 : IntKind.i64.wrap (en * S.fade) = en * S.fade := qt ⟨by omega, by omega⟩
 have w2 : (en * S.fade).tdiv 1000 = z := by rw [hz, Int.tdiv_eq_ediv_of_nonneg m0]
 have w3 : IntKind.i64.wrap z = z := qt ⟨by omega, by omega⟩
 have w4 : IntKind.i64.wrap (en - z) = en - z := qt ⟨by omega, by omega⟩
 refine yP (N := 34) (rs := []) hO.base Tryz.func94 rfl rfl rfl rfl (zd ?_)
 refine zM qw (fun _ w => Owns Gc w B (rowR b S day en ca l0 l1 l2 l3 l4 l5 :: Lq)) (.fl 0 (.fl 1 (.fl 2 (.fl 3 (.fl 4 (.fl 5 (.fl 6 (.fl 7 (.fl 8 (.fl 9 (.fl 10 (.on 11 .nil)))))))))))) (by kernel_rfl) rfl (by kernel_rfl) (fun _ => hO.below (zj _)) ?_
 have hS := hS.keep (zj wc)
 have hO := hO.below (zj wc)
 refine zh rfl (fun w hw => zc (v := pV b) rfl) rfl (zh (v := pV b) rfl (fun w hw => by kernel_rfl) rfl (zh rfl (fun w hw => zk jA rfl) rfl (zh rfl (fun w hw => zo n3 rfl (zr hw (k := 0) rfl rfl)) rfl ?_)))
 refine zh rfl (fun w hw => zc (v := pV b) rfl) rfl (zh (v := pV b) rfl (fun w hw => by kernel_rfl) rfl (zh rfl (fun w hw => zk zbK rfl) rfl (zh rfl (fun w hw => zk zxh rfl) rfl (zh rfl (fun w hw => zo n3 rfl (zr hw (k := 0) rfl rfl)) rfl (zh rfl (fun w hw => vH rfl rfl) rfl ?_)))))
 rw [w1]
 refine zh rfl (fun w hw => zjQ rfl rfl (by decide)) rfl ?_
 rw [w2, w3]
 refine zD rfl rfl (zY (zf (v := iV z) rfl) rfl ⟨fun _ h => zR (by kernel_rfl) h, qp (zd (zb ?_))⟩)
 refine za (zc (v := pV b) rfl) rfl (za (v := pV b) (by kernel_rfl) rfl (za (zk jA rfl) rfl (za (zo n3 rfl (zr hO (k := 0) rfl rfl)) rfl (za (zc (v := iV z) rfl) rfl (za (vd rfl rfl) rfl ?_)))))
 rw [w4]
 refine za (v := pV b) (by kernel_rfl) rfl (za (zk jA rfl) rfl ?_)
 refine zm rfl (zG (vs := [iV (en - z)]) z3 hS hO (k := 0) rfl rfl rfl rfl rfl (zU rfl) (nQl rfl) fun w5 hS hO => ze ?_)
 have hO : Owns Gc w5 B (rowR b S day (en - z) ca l0 l1 l2 l3 l4 l5 :: Lq) := hO
 refine zb (za (zc (v := pV b) rfl) rfl (za (zc (v := pV b) rfl) rfl (za (v := pV b) (by kernel_rfl) rfl (za (zk kH rfl) rfl (za (zk znV rfl) rfl (za (zo n3 rfl (zr hO (k := 0) rfl rfl)) rfl (za (zc (v := iV z) rfl) rfl ?_)))))))
 refine zm rfl (zP (v := fun b => .slice (some ⟨b, 0, none⟩) 2 2) (cs := [iV l4, iV z]) (e := 3) (by kernel_rfl) hS.sat rfl fun bb G1 w6 hg hc => ?_)
 have hS := hS.grow hg
 have hO := hO.grow hg
 have hsum : Calls Tryz.prog 174 [.slice (some ⟨bb, 0, none⟩) 2 2].toArray w6 (qW w6 (iV (l4 + z))) := by
  have := zcH (xs := [l4, z]) hS.sat (zq3 hc) (by decide) (fun x hx => by
   rcases List.mem_cons.1 hx with rfl | hx
   ·omega
   ·obtain rfl := List.mem_singleton.1 hx; omega)
  simpa using this
 refine zm rfl (zy zi8 hsum rfl rfl fun w7 hb => ?_)
 have hS := hS.keep hb
 have hO := hO.below hb
 refine za (v := pV b) (by kernel_rfl) rfl (za (zk kH rfl) rfl (za (zk znV rfl) rfl ?_))
 refine zm rfl (zG (vs := [iV (l4 + z)]) z3 hS hO (k := 0) rfl rfl rfl rfl rfl (zU rfl) (nQl rfl) fun w8 hS hO => ze ?_)
 exact ⟨[], trivial, G1, _, hg.le, hS, hO, rfl⟩
theorem zxk : qx Tryz.prog 45 0 = some 0 := by kernel_rfl
theorem zxj : qx Tryz.prog 45 1 = some 1 := by kernel_rfl
theorem zn0 : qx Tryz.prog 91 0 = some 0 := by kernel_rfl
theorem znY : qx Tryz.prog 67 1 = some 1 := by kernel_rfl
theorem znW : qx Tryz.prog 67 3 = some 3 := by kernel_rfl
theorem n9 : naB Tryz.prog 9 = true := by kernel_rfl
theorem un9 : Tryz.prog.underlying 9 = some .string := by kernel_rfl
theorem zym : zJ Tryz.prog 91 = true := by kernel_rfl
theorem zny {P : Int → Prop} {x y z : Int} (hx : P x) (hy : P y) (hz : P z) : ∀ u ∈ [x, y, z], P u := fun u hu => by
 rcases List.mem_cons.1 hu with rfl | hu
 ·exact hx
 ·rcases List.mem_cons.1 hu with rfl | hu
  ·exact hy
  ·obtain rfl := List.mem_singleton.1 hu; exact hz
theorem zjD {P : Int → Prop} {x y : Int} (hx : P x) (hy : P y) : ∀ u ∈ [x, y], P u := fun u hu => by
 rcases List.mem_cons.1 hu with rfl | hu
 ·exact hx
 ·obtain rfl := List.mem_singleton.1 hu; exact hy
def yK (S : jQ) (x : UInt8) : Int := if x.toNat = 99 then S.cloudy else S.sunny
set_option maxHeartbeats 2000000 in
theorem zvR {x : UInt8} {g h e' : Int} (hS : Since B G0 w0 Gc wc) (hO : Owns Gc wc B (rowR b S day en ca l0 l1 l2 l3 l4 l5 :: Lq)) (hd : ix S.wt day = some x) (hg : g = yK S x * S.p) (hh : h = S.size * S.q) (hm : e' = if h < en + g then h else en + g)
  (hgb : 0 ≤ g ∧ g ≤ 1000000000) (hhb : 0 ≤ h ∧ h ≤ 1000000000) (he : 0 ≤ en ∧ en ≤ 1000000000) (h1 : -100000000000 ≤ l1 ∧ l1 ≤ 100000000000) (h3 : -100000000000 ≤ l3 ∧ l3 ≤ 100000000000) :
  Calls Tryz.prog 92 [pV b].toArray wc (jP B G0 w0 Gc wc (fun G' L' _ => L' = rowR b S day e' ca l0 (l1 + g) l2 (l3 + (en + g) - e') l4 l5 :: Lq)) := by
 have heb : 0 ≤ e' ∧ e' ≤ 1000000000 := by rw [hm]; split <;> omega
 have q1 : IntKind.i64.wrap (yK S x * S.p) = g := by rw [← hg]; exact qt ⟨by omega, by omega⟩
 have q2 : IntKind.i64.wrap (0 - e') = -e' := by rw [show (0 : Int) - e' = -e' by omega]; exact qt ⟨by omega, by omega⟩
 refine yP (N := 75) (rs := []) hO.base Tryz.func92 rfl rfl rfl rfl (zd (zb ?_))
 refine za (zc (v := pV b) rfl) rfl (za (v := pV b) (by kernel_rfl) rfl (za (zk zbK rfl) rfl (za (zk zxk rfl) rfl (za (zo n3 rfl (zr hO (k := 0) rfl rfl)) rfl (za (zf (v := iV S.sunny) rfl) rfl (ze ?_))))))
 refine zd (zZ (fun F w => ∃ Fb, F = qi Fb [(0, pV b), (2, iV (yK S x))] ∧ Since B G0 w0 Gc w ∧ Owns Gc w B (rowR b S day en ca l0 l1 l2 l3 l4 l5 :: Lq)) ?_ ?_)
 ·refine zd (zM qw (fun _ w => Owns Gc w B (rowR b S day en ca l0 l1 l2 l3 l4 l5 :: Lq)) (.fl 0 (.fl 1 (.fl 2 (.fl 3 (.fl 4 (.fl 5 (.fl 6 (.fl 7 (.fl 8 (.fl 9 .nil)))))))))) (by kernel_rfl) rfl (by kernel_rfl) (fun _ => hO.below (zj _)) ?_)
  have hS := hS.keep (zj wc)
  have hO := hO.below (zj wc)
  refine zh rfl (fun w hw => zc (v := pV b) rfl) rfl (zh (v := pV b) rfl (fun w hw => by kernel_rfl) rfl (zh rfl (fun w hw => zk zun rfl) rfl (zh rfl (fun w hw => zo n9 rfl (zr hw (k := 0) rfl rfl)) rfl ?_)))
  refine zh rfl (fun w hw => zc (v := pV b) rfl) rfl (zh (v := pV b) rfl (fun w hw => by kernel_rfl) rfl (zh rfl (fun w hw => zk znT rfl) rfl (zh rfl (fun w hw => zo n3 rfl (zr hw (k := 0) rfl rfl)) rfl ?_)))
  refine zh rfl (fun w hw => Go.Proofs.YtihedfkcccaonaaGreatDoor.rn_idxS un9 rfl rfl hd) rfl (zh rfl (fun w hw => xu rfl rfl) rfl (qp (zV rfl (fun hb => ?_) (fun hb => ?_))))
  ·have hx : x.toNat = 99 := by
    have h9 : (x.toNat : Int) = 99 := by simpa using hb
    omega
   refine zb (za (zc (v := pV b) rfl) rfl (za (v := pV b) (by kernel_rfl) rfl (za (zk zbK rfl) rfl (za (zk zxj rfl) rfl (za (zo n3 rfl (zr hO (k := 0) rfl rfl)) rfl (za (zf (v := iV S.cloudy) rfl) rfl (ze ?_)))))))
   exact ⟨_, zi _ _ ⟨rfl, by unfold yK; rw [if_pos hx]; rfl, trivial⟩, hS, hO⟩
  ·have hx : ¬ x.toNat = 99 := fun h => by rw [h] at hb; simp at hb
   exact zq ⟨_, zi _ _ ⟨rfl, by unfold yK; rw [if_neg hx]; rfl, trivial⟩, hS, hO⟩
 rintro F w ⟨Fb, rfl, hS, hO⟩
 refine zd (zb (za (zc (v := iV (yK S x)) rfl) rfl (za (zc (v := pV b) rfl) rfl (za (v := pV b) (by kernel_rfl) rfl (za (zk znU rfl) rfl (za (zk zn0 rfl) rfl (za (zo n3 rfl (zr hO (k := 0) rfl rfl)) rfl (za (vH rfl rfl) rfl ?_))))))))
 rw [q1]
 refine za (zf (v := iV g) rfl) rfl (ze (zd (zb (za (zc (v := pV b) rfl) rfl (za (v := pV b) (by kernel_rfl) rfl (za (zk jA rfl) rfl (za (zo n3 rfl (zr hO (k := 0) rfl rfl)) rfl (za (zc (v := iV g) rfl) rfl ?_))))))))
 refine zm rfl (zP (v := fun b => .slice (some ⟨b, 0, none⟩) 2 2) (cs := [iV en, iV g]) (e := 3) (by kernel_rfl) hS.sat rfl fun b1 G1 w1 hg1 hc1 => ?_)
 have hS := hS.grow hg1
 have hO := hO.grow hg1
 have s1 : Calls Tryz.prog 174 [.slice (some ⟨b1, 0, none⟩) 2 2].toArray w1 (qW w1 (iV (en + g))) := by
  have := zcH (xs := [en, g]) hS.sat (zq3 hc1) (by decide) (zjD (by omega) (by omega))
  simpa using this
 refine zm rfl (zy zi8 s1 rfl rfl fun w2 hb => ?_)
 have hS := hS.keep hb
 have hO := hO.below hb
 refine za (zf (v := iV (en + g)) rfl) rfl (ze (zd (zb (za (zc (v := pV b) rfl) rfl (za (zc (v := iV (en + g)) rfl) rfl (za (zc (v := pV b) rfl) rfl ?_))))))
 have s2 : Calls Tryz.prog 91 [pV b].toArray w2 (qW w2 (iV h)) := by rw [hh]; exact zpn hO (by rw [← hh]; exact qt ⟨by omega, by omega⟩)
 refine zm rfl (zy zym s2 rfl rfl fun w3 hb => ?_)
 have hS := hS.keep hb
 have hO := hO.below hb
 refine za (v := iV e') ((zul (m := en + g) (n := h) rfl rfl).trans (by rw [hm])) rfl (za (v := pV b) (by kernel_rfl) rfl (za (zk jA rfl) rfl ?_))
 refine zm rfl (zG (vs := [iV e']) z3 hS hO (k := 0) rfl rfl rfl rfl rfl (zU rfl) (nQl rfl) fun w4 hS hO => ze ?_)
 have hO : Owns G1 w4 B (rowR b S day e' ca l0 l1 l2 l3 l4 l5 :: Lq) := hO
 refine zd (zb (za (zc (v := pV b) rfl) rfl (za (zc (v := pV b) rfl) rfl (za (v := pV b) (by kernel_rfl) rfl (za (zk kH rfl) rfl (za (zk znY rfl) rfl (za (zo n3 rfl (zr hO (k := 0) rfl rfl)) rfl (za (zc (v := iV g) rfl) rfl ?_))))))))
 refine zm rfl (zP (v := fun b => .slice (some ⟨b, 0, none⟩) 2 2) (cs := [iV l1, iV g]) (e := 3) (by kernel_rfl) hS.sat rfl fun b2 G2 w5 hg2 hc2 => ?_)
 have hS := hS.grow hg2
 have hO := hO.grow hg2
 have s3 : Calls Tryz.prog 174 [.slice (some ⟨b2, 0, none⟩) 2 2].toArray w5 (qW w5 (iV (l1 + g))) := by
  have := zcH (xs := [l1, g]) hS.sat (zq3 hc2) (by decide) (zjD (by omega) (by omega))
  simpa using this
 refine zm rfl (zy zi8 s3 rfl rfl fun w6 hb => ?_)
 have hS := hS.keep hb
 have hO := hO.below hb
 refine za (v := pV b) (by kernel_rfl) rfl (za (zk kH rfl) rfl (za (zk znY rfl) rfl ?_))
 refine zm rfl (zG (vs := [iV (l1 + g)]) z3 hS hO (k := 0) rfl rfl rfl rfl rfl (zU rfl) (nQl rfl) fun w7 hS hO => ze ?_)
 have hO : Owns G2 w7 B (rowR b S day e' ca l0 (l1 + g) l2 l3 l4 l5 :: Lq) := hO
 refine zM qw (fun _ w => Owns G2 w B (rowR b S day e' ca l0 (l1 + g) l2 l3 l4 l5 :: Lq)) (.fl 0 (.fl 1 (.fl 2 (.fl 3 (.fl 4 (.fl 5 (.fl 6 (.fl 7 (.fl 8 (.fl 9 (.fl 10 (.fl 11 (.on 12 (.on 13 (.fl 14 (.fl 15 (.fl 16 (.on 17 .nil)))))))))))))))))) (by kernel_rfl) rfl (by kernel_rfl) (fun _ => hO.below (zj _)) ?_
 have hS := hS.keep (zj w7)
 have hO := hO.below (zj w7)
 refine zh rfl (fun w hw => zc (v := pV b) rfl) rfl (zh rfl (fun w hw => zc (v := pV b) rfl) rfl (zh (v := pV b) rfl (fun w hw => by kernel_rfl) rfl (zh rfl (fun w hw => zk kH rfl) rfl (zh rfl (fun w hw => zk znW rfl) rfl (zh rfl (fun w hw => zo n3 rfl (zr hw (k := 0) rfl rfl)) rfl (zh rfl (fun w hw => zc (v := iV (en + g)) rfl) rfl ?_))))))
 refine zh rfl (fun w hw => zc (v := pV b) rfl) rfl (zh (v := pV b) rfl (fun w hw => by kernel_rfl) rfl (zh rfl (fun w hw => zk jA rfl) rfl (zh rfl (fun w hw => zo n3 rfl (zr hw (k := 0) rfl rfl)) rfl (zh rfl (fun w hw => zuk rfl) rfl ?_))))
 rw [q2]
 refine zD rfl rfl (zP (v := fun b => .slice (some ⟨b, 0, none⟩) 3 3) (cs := [iV l3, iV (en + g), iV (-e')]) (e := 3) (by kernel_rfl) hS.sat rfl fun b3 G3 w8 hg3 hc3 => ⟨fun _ _ => (hO.grow hg3).le hg3.le, ?_⟩)
 have hS := hS.grow hg3
 have hO := hO.grow hg3
 have s4 : Calls Tryz.prog 174 [.slice (some ⟨b3, 0, none⟩) 3 3].toArray w8 (qW w8 (iV (l3 + (en + g) - e'))) := by
  have := zcH (xs := [l3, en + g, -e']) hS.sat (RSl.of_rd hc3 (Rd.cons (c := [iV l3]) rfl rfl (Rd.cons (c := [iV (en + g)]) rfl rfl (Rd.cons (c := [iV (-e')]) rfl rfl (Rd.nil yD 1 _)))) rfl (show 3 ≤ maxLen by decide)) (show 3 ≤ 1000 by decide) (zny (by omega) (by omega) (by omega))
  rwa [show [l3, en + g, -e'].sum = l3 + (en + g) - e' by simp; omega] at this
 refine zD rfl rfl (zy zi8 s4 rfl rfl fun w9 hb => ⟨fun _ _ => (hO.below hb).le hg3.le, ?_⟩)
 have hS := hS.keep hb
 have hO := hO.below hb
 refine zh (v := pV b) rfl (fun w hw => by kernel_rfl) rfl (zh rfl (fun w hw => zk kH rfl) rfl (zh rfl (fun w hw => zk znW rfl) rfl ?_))
 refine zD rfl rfl (zG (vs := [iV (l3 + (en + g) - e')]) z3 hS hO (k := 0) rfl rfl rfl rfl rfl (zU rfl) (nQl rfl) fun w10 hS hO => ⟨fun _ h => zR (by kernel_rfl) h, qp ?_⟩)
 exact ⟨[], trivial, G3, _, (hg1.le.trans hg2.le).trans hg3.le, hS, hO, rfl⟩
end
def yI (ls : List zE) (off : Nat) (en u : Int) : Nat → Int × Nat × Int
 | 0 => (en, 0, u)
 | i + 1 => match ls[i]? with
  | none => yI ls off en u i
  | some l => if off / 2 ^ i % 2 = 1 ∨ (yI ls off en u i).1 < l.Need + l.Keep then yI ls off en u i else ((yI ls off en u i).1 - l.Need, (yI ls off en u i).2.1 + 2 ^ i, (yI ls off en u i).2.2 + l.Need)
structure zhV (ls : List zE) : Prop where
 few : ls.length ≤ 5
 each : ∀ l ∈ ls, 0 ≤ l.Need ∧ l.Need ≤ 1000000 ∧ 0 ≤ l.Keep ∧ l.Keep ≤ 1000000
theorem zaF {ls : List zE} (h : zhV ls) {off : Nat} {en u : Int} (he : 0 ≤ en) : ∀ i, 0 ≤ (yI ls off en u i).1 ∧ (yI ls off en u i).1 ≤ en ∧ (yI ls off en u i).2.1 < 2 ^ i ∧ u ≤ (yI ls off en u i).2.2 ∧ (yI ls off en u i).2.2 ≤ u + 1000000 * (i : Int)
 | 0 => by simp [yI]; exact he
 | i + 1 => by
  obtain ⟨h1, h2, h3, h4, h5⟩ := zaF h (off := off) (u := u) he i
  have hp : 2 ^ (i + 1) = 2 ^ i + 2 ^ i := by rw [Nat.pow_succ]; omega
  unfold yI
  split
  ·exact ⟨h1, h2, by omega, h4, by omega⟩
  ·rename_i l hl
   obtain ⟨k1, k2, k3, k4⟩ := h.each l (List.mem_of_getElem? hl)
   split
   ·exact ⟨h1, h2, by omega, h4, by omega⟩
   ·rename_i hc
    have hc' : ¬ (yI ls off en u i).1 < l.Need + l.Keep := fun hh => hc (.inr hh)
    exact ⟨by simp only; omega, by simp only; omega, by simp only; omega, by simp only; omega, by simp only; omega⟩
theorem zuz {i q : Nat} (hi : i < 5) (hq : q < 2 ^ i) : orI .i64 (q : Int) ((2 ^ i : Nat) : Int) = ((q + 2 ^ i : Nat) : Int) := by
 have h : ∀ i : Nat, i < 5 → ∀ q : Nat, q < 32 → q < 2 ^ i → orI .i64 (q : Int) ((2 ^ i : Nat) : Int) = ((q + 2 ^ i : Nat) : Int) := by decide
 have : 2 ^ i ≤ 16 := by
  have : i = 0 ∨ i = 1 ∨ i = 2 ∨ i = 3 ∨ i = 4 := by omega
  rcases this with rfl | rfl | rfl | rfl | rfl <;> decide
 exact h i hi q (by omega) hq
theorem zhR {q : Nat} (hq : q < 64) : zs5 .i64 (q : Int) 1 = ((q % 2 : Nat) : Int) := by
 have h : ∀ q : Nat, q < 64 → zs5 .i64 (q : Int) 1 = ((q % 2 : Nat) : Int) := by decide
 exact h q hq
theorem zkX {n : Nat} (h : n < 5) : zmp .i64 1 (n : Int) = some ((2 ^ n : Nat) : Int) := by
 have : n = 0 ∨ n = 1 ∨ n = 2 ∨ n = 3 ∨ n = 4 := by omega
 rcases this with rfl | rfl | rfl | rfl | rfl <;> decide
theorem zgZ {n q : Nat} (h : n < 5) : znK .i64 (q : Int) (n : Int) = some ((q / 2 ^ n : Nat) : Int) := by
 unfold znK
 rw [if_neg (by omega), show min ((n : Int).toNat) IntKind.i64.bits = n by show min n 64 = n; omega, Int.fdiv_eq_ediv_of_nonneg _ (by exact Int.le_of_lt (Int.pow_pos (by decide)))]
 simp
theorem s43 : slB Tryz.prog 43 = some (115, 3, 24) := by kernel_rfl
theorem zx0 : agB Tryz.prog 115 = some 3 := by kernel_rfl
theorem zwZ : szB Tryz.prog 115 = some 3 := by kernel_rfl
theorem n43 : naB Tryz.prog 43 = true := by kernel_rfl
theorem ztm : qx Tryz.prog 45 5 = some 5 := by kernel_rfl
theorem zjW : qx Tryz.prog 115 0 = some 0 := by kernel_rfl
theorem zuq : qx Tryz.prog 115 1 = some 1 := by kernel_rfl
theorem znX : qx Tryz.prog 67 2 = some 2 := by kernel_rfl
abbrev zg4 (b : Nat) (l : zE) : Row := ⟨115, 3, 1, .slice (some ⟨b, 0, none⟩) 1 1, [iV l.Need, iV l.Keep, .bool l.Must]⟩
theorem zf0 {u v x : Value} (hu : u.oneCell' = true) (hv : v.oneCell' = true) (hx : x.oneCell' = true) : ∀ y ∈ [u, v, x], y.oneCell' = true := fun y hy => by
 rcases List.mem_cons.1 hy with rfl | hy
 ·exact hu
 ·exact yt hv hx y hy
section
variable {B : Nat} {G0 Gc : Gm} {w0 wc : World} {Lq : List Row} {b : Nat} {S : jQ} {day en ca l0 l1 l2 l3 l4 l5 : Int} {ls : List zE} {o : Nat}
set_option maxHeartbeats 4000000 in
theorem zvQ (hS : Since B G0 w0 Gc wc) (hO : Owns Gc wc B (rowR b S day en ca l0 l1 l2 l3 l4 l5 :: Lq)) (hl : RSl zO 3 Gc S.la S.ln S.lc ls) (hok : zhV ls) (ho : S.off = (o : Int)) (ho2 : o < 32) (he : 0 ≤ en ∧ en ≤ 1000000000) (h2 : -100000000000 ≤ l2 ∧ l2 ≤ 100000000000) :
  Calls Tryz.prog 93 [pV b].toArray wc (jP B G0 w0 Gc wc (fun G' L' _ => L' = rowR b S day (yI ls o en l2 ls.length).1 ((yI ls o en l2 ls.length).2.1 : Nat) l0 l1 (yI ls o en l2 ls.length).2.2 l3 l4 l5 :: Lq)) := by
 have hnl : S.ln = ls.length := hl.1
 have hfew := hok.few
 refine yP (N := 70) (rs := []) hO.base Tryz.func93 rfl rfl rfl rfl (zd (zb ?_))
 refine za (zc (v := pV b) rfl) rfl (za (v := pV b) (by kernel_rfl) rfl (za (zk zhe rfl) rfl ?_))
 refine zm rfl (zG (vs := [iV 0]) z3 hS hO (k := 0) rfl rfl rfl rfl rfl (zU rfl) (nQl rfl) fun w1 hS hO => ze ?_)
 have hO : Owns Gc w1 B (rowR b S day en 0 l0 l1 l2 l3 l4 l5 :: Lq) := hO
 refine zd (zb (za (zc (v := pV b) rfl) rfl (za (v := pV b) (by kernel_rfl) rfl (za (zk zbK rfl) rfl (za (zk ztm rfl) rfl (za (zo n43 rfl (zr hO (k := 0) rfl rfl)) rfl (za (ji (m := ls.length) s43 rfl rfl hnl) rfl (za (zc (v := iV 0) rfl) rfl (ze ?_)))))))))
 refine zp (qh (qN ls.length (fun i F w => ∃ Fb G, F = qi Fb [(0, pV b), (11, .slice S.la S.ln S.lc), (12, iV (ls.length : Int)), (13, iV (i : Int))] ∧ Gle Gc G ∧ Since B G0 w0 G w ∧ Owns G w B (rowR b S day (yI ls o en l2 i).1 ((yI ls o en l2 i).2.1 : Nat) l0 l1 (yI ls o en l2 i).2.2 l3 l4 l5 :: Lq)) ?_ ?_ ls.length 0 _ _ (by omega) ⟨_, Gc, zi _ _ ⟨rfl, rfl, rfl, rfl, trivial⟩, Gle.refl _, hS, hO⟩))
 ·rintro i F w hi ⟨Fb, G, rfl, le, hS, hO⟩
  obtain ⟨k1, k2, k3, k4, k5⟩ := zaF hok (off := o) (u := l2) he.1 i
  have hnx : yI ls o en l2 (i + 1) = if o / 2 ^ i % 2 = 1 ∨ (yI ls o en l2 i).1 < ls[i].Need + ls[i].Keep then yI ls o en l2 i else ((yI ls o en l2 i).1 - ls[i].Need, (yI ls o en l2 i).2.1 + 2 ^ i, (yI ls o en l2 i).2.2 + ls[i].Need) := by
   conv => lhs; unfold yI
   rw [List.getElem?_eq_getElem hi]
  generalize yI ls o en l2 i = st at hO k1 k2 k3 k4 k5 hnx
  obtain ⟨ei, ci, ui⟩ := st
  simp only at hO k1 k2 k3 k4 k5 hnx
  have hl := hl.mono zx le
  obtain ⟨m1, m2, m3, m4⟩ := hok.each _ (List.getElem_mem hi)
  refine zd (zb (za (zN rfl rfl) rfl (ze (zd (zQ (decide ((i : Int) < (ls.length : Int))) (decide_eq_true (by omega)) rfl (zq ?_))))))
  refine zd (zZ (fun F w => ∃ Fb G, F = qi Fb [(0, pV b), (11, .slice S.la S.ln S.lc), (12, iV (ls.length : Int)), (13, iV (i : Int))] ∧ Gle Gc G ∧ Since B G0 w0 G w ∧ Owns G w B (rowR b S day (yI ls o en l2 (i + 1)).1 ((yI ls o en l2 (i + 1)).2.1 : Nat) l0 l1 (yI ls o en l2 (i + 1)).2.2 l3 l4 l5 :: Lq)) ?_ ?_)
  ·refine zp (zd (zb (za (zc (v := iV (i : Int)) rfl) rfl (zb0 s43 hl (yo hi) rfl rfl rfl ?_))))
   rintro bp op _ hcp _ ⟨⟩
   refine za (zu zx0 (cs := [iV ls[i].Need, iV ls[i].Keep, .bool ls[i].Must]) rfl rfl fun j v hj => hS.sat.cell (hcp j v hj)) rfl ?_
   refine zm rfl (z7 (v := fun b => pV b) (cs := [iV 0, iV 0, .bool false]) (e := 115) (by kernel_rfl) hS.sat hO rfl 3 1 rfl (by decide) fun b3 w2 hb hO => ?_)
   have hS := hS.keep hb
   refine za (zf (v := iV (i : Int)) rfl) rfl ?_
   refine zm rfl (zG (vs := [iV ls[i].Need, iV ls[i].Keep, .bool ls[i].Must]) zwZ hS hO (k := 0) rfl rfl rfl rfl rfl (zf0 rfl rfl rfl) (nQl rfl) fun w3 hS hO => ze ?_)
   have hO : Owns G w3 B (zg4 b3 ls[i] :: rowR b S day ei (ci : Nat) l0 l1 ui l3 l4 l5 :: Lq) := hO
   refine zd (zd (zM qw (fun _ w => Owns G w B (zg4 b3 ls[i] :: rowR b S day ei (ci : Nat) l0 l1 ui l3 l4 l5 :: Lq)) (.fl 0 (.fl 1 (.fl 2 (.fl 3 (.fl 4 (.fl 5 (.fl 6 (.fl 7 (.fl 8 (.fl 9 (.fl 10 (.fl 11 (.fl 12 (.fl 13 (.fl 14 (.fl 15 (.fl 16 (.fl 17 (.fl 18 (.fl 19 .nil)))))))))))))))))))) (by kernel_rfl) rfl (by kernel_rfl) (fun _ => hO.below (zj _)) ?_))
   have hS := hS.keep (zj w3)
   have hO := hO.below (zj w3)
   have hob : o / 2 ^ i < 64 := Nat.lt_of_le_of_lt (Nat.div_le_self _ _) (by omega)
   refine zh rfl (fun w hw => zc (v := pV b) rfl) rfl (zh (v := pV b) rfl (fun w hw => by kernel_rfl) rfl (zh rfl (fun w hw => zk zuo rfl) rfl (zh (v := iV (o : Int)) rfl (fun w hw => by rw [← ho]; exact zo n3 rfl (zr hw (k := 1) rfl rfl)) rfl (zh rfl (fun w hw => zc (v := iV (i : Int)) rfl) rfl (zh rfl (fun w hw => zg7 rfl rfl (zgZ (by omega))) rfl (zh rfl (fun w hw => zjU rfl rfl) rfl ?_))))))
   rw [zhR hob]
   by_cases hbit : o / 2 ^ i % 2 = 1
   ·refine zh (v := .bool true) rfl (fun w hw => (xu (m := ((o / 2 ^ i % 2 : Nat) : Int)) (n := 1) rfl rfl).trans (by rw [hbit]; rfl)) rfl (zh rfl (fun w hw => zc (v := .bool true) rfl) rfl ?_)
    refine ye rfl rfl (b := true) rfl rfl rfl rfl (ye rfl rfl (b := true) rfl rfl rfl rfl (ye rfl rfl (b := true) rfl rfl rfl rfl (ye rfl rfl (b := true) rfl rfl rfl rfl (ye rfl rfl (b := true) rfl rfl rfl rfl (ye rfl rfl (b := true) rfl rfl rfl rfl (ye rfl rfl (b := true) rfl rfl rfl rfl (ye rfl rfl (b := true) rfl rfl rfl rfl (ye rfl rfl (b := true) rfl rfl rfl rfl (ye rfl rfl (b := true) rfl rfl rfl rfl ?_)))))))))
    refine zh rfl (fun w hw => yy (v := .bool true) rfl rfl rfl) rfl (qp (zQ true rfl rfl (zW rfl ?_)))
    exact ⟨_, G, zi _ _ ⟨rfl, rfl, rfl, rfl, trivial⟩, le, hS, by rw [hnx, if_pos (.inl hbit)]; exact hO.drop 0⟩
   ·have hbit0 : o / 2 ^ i % 2 = 0 := by omega
    have e1 : IntKind.i64.wrap (ls[i].Need + ls[i].Keep) = ls[i].Need + ls[i].Keep := qt ⟨by omega, by omega⟩
    refine zh (v := .bool false) rfl (fun w hw => (xu (m := ((o / 2 ^ i % 2 : Nat) : Int)) (n := 1) rfl rfl).trans (by rw [hbit0]; rfl)) rfl (zh rfl (fun w hw => zc (v := .bool false) rfl) rfl ?_)
    refine qF  rfl rfl (b := false) rfl rfl rfl (fun w hw => zc (v := pV b) rfl) rfl (qF (v := pV b) rfl rfl (b := false) rfl rfl rfl (fun w hw => by kernel_rfl) rfl (qF  rfl rfl (b := false) rfl rfl rfl (fun w hw => zk jA rfl) rfl (qF  rfl rfl (b := false) rfl rfl rfl (fun w hw => zo n3 rfl (zr hw (k := 1) rfl rfl)) rfl (qF  rfl rfl (b := false) rfl rfl rfl (fun w hw => zk zjW rfl) rfl (qF  rfl rfl (b := false) rfl rfl rfl (fun w hw => zo n3 rfl (zr hw (k := 0) rfl rfl)) rfl (qF  rfl rfl (b := false) rfl rfl rfl (fun w hw => zk zuq rfl) rfl (qF  rfl rfl (b := false) rfl rfl rfl (fun w hw => zo n3 rfl (zr hw (k := 0) rfl rfl)) rfl (qF  rfl rfl (b := false) rfl rfl rfl (fun w hw => jz rfl rfl) rfl ?_))))))))
    rw [e1]
    refine qF  rfl rfl (b := false) rfl rfl rfl (fun w hw => zN rfl rfl) rfl (zh rfl (fun w hw => xc (v := .bool (decide (ei < ls[i].Need + ls[i].Keep))) rfl rfl rfl) rfl (qp (zV rfl (fun hb => ?_) (fun hb => ?_))))
    ·have hlt := of_decide_eq_true hb
     exact zW rfl ⟨_, G, zi _ _ ⟨rfl, rfl, rfl, rfl, trivial⟩, le, hS, by rw [hnx, if_pos (.inr hlt)]; exact hO.drop 0⟩
    have hlt := of_decide_eq_false hb
    rw [if_neg (fun h => h.elim hbit hlt)] at hnx
    have e2 : IntKind.i64.wrap (ei - ls[i].Need) = ei - ls[i].Need := qt ⟨by omega, by omega⟩
    refine zq ?_
    refine zd (zM qw (fun _ w => Owns G w B (zg4 b3 ls[i] :: rowR b S day ei (ci : Nat) l0 l1 ui l3 l4 l5 :: Lq)) (.fl 0 (.fl 1 (.fl 2 (.fl 3 (.fl 4 (.fl 5 (.fl 6 (.fl 7 (.fl 8 (.on 9 .nil)))))))))) (by kernel_rfl) rfl (by kernel_rfl) (fun _ => hO.below (zj _)) ?_)
    have hS := hS.keep (zj _)
    have hO := hO.below (zj _)
    refine zh rfl (fun w hw => zc (v := pV b) rfl) rfl (zh (v := pV b) rfl (fun w hw => by kernel_rfl) rfl (zh rfl (fun w hw => zk jA rfl) rfl (zh rfl (fun w hw => zo n3 rfl (zr hw (k := 1) rfl rfl)) rfl (zh rfl (fun w hw => zk zjW rfl) rfl (zh rfl (fun w hw => zo n3 rfl (zr hw (k := 0) rfl rfl)) rfl (zh rfl (fun w hw => vd rfl rfl) rfl ?_))))))
    rw [e2]
    refine zh (v := pV b) rfl (fun w hw => by kernel_rfl) rfl (zh rfl (fun w hw => zk jA rfl) rfl ?_)
    refine zD rfl rfl (zG (vs := [iV (ei - ls[i].Need)]) z3 hS hO (k := 1) rfl rfl rfl rfl rfl (zU rfl) (nQl rfl) fun w5 hS hO => ⟨fun _ h => zR (by kernel_rfl) h, qp ?_⟩)
    have hO : Owns G w5 B (zg4 b3 ls[i] :: rowR b S day (ei - ls[i].Need) (ci : Nat) l0 l1 ui l3 l4 l5 :: Lq) := hO
    refine zd (zM qw (fun _ w => Owns G w B (zg4 b3 ls[i] :: rowR b S day (ei - ls[i].Need) (ci : Nat) l0 l1 ui l3 l4 l5 :: Lq)) (.fl 0 (.fl 1 (.fl 2 (.fl 3 (.fl 4 (.fl 5 (.fl 6 (.fl 7 (.fl 8 (.on 9 .nil)))))))))) (by kernel_rfl) rfl (by kernel_rfl) (fun _ => hO.below (zj _)) ?_)
    have hS := hS.keep (zj _)
    have hO := hO.below (zj _)
    refine zh rfl (fun w hw => zc (v := pV b) rfl) rfl (zh (v := pV b) rfl (fun w hw => by kernel_rfl) rfl (zh rfl (fun w hw => zk zhe rfl) rfl (zh rfl (fun w hw => zo n3 rfl (zr hw (k := 1) rfl rfl)) rfl (zh rfl (fun w hw => zc (v := iV (i : Int)) rfl) rfl (zh rfl (fun w hw => zg8 rfl rfl (zkX (by omega))) rfl (zh rfl (fun w hw => zxc rfl rfl) rfl ?_))))))
    rw [zuz (by omega) k3]
    refine zh (v := pV b) rfl (fun w hw => by kernel_rfl) rfl (zh rfl (fun w hw => zk zhe rfl) rfl ?_)
    refine zD rfl rfl (zG (vs := [iV ((ci + 2 ^ i : Nat) : Int)]) z3 hS hO (k := 1) rfl rfl rfl rfl rfl (zU rfl) (nQl rfl) fun w6 hS hO => ⟨fun _ h => zR (by kernel_rfl) h, qp ?_⟩)
    have hO : Owns G w6 B (zg4 b3 ls[i] :: rowR b S day (ei - ls[i].Need) ((ci + 2 ^ i : Nat) : Int) l0 l1 ui l3 l4 l5 :: Lq) := hO
    refine (zM qw (fun _ w => Owns G w B (zg4 b3 ls[i] :: rowR b S day (ei - ls[i].Need) ((ci + 2 ^ i : Nat) : Int) l0 l1 ui l3 l4 l5 :: Lq)) (.fl 0 (.fl 1 (.fl 2 (.fl 3 (.fl 4 (.fl 5 (.fl 6 (.fl 7 (.on 8 (.on 9 (.fl 10 (.fl 11 (.fl 12 (.on 13 .nil)))))))))))))) (by kernel_rfl) rfl (by kernel_rfl) (fun _ => hO.below (zj _)) ?_)
    have hS := hS.keep (zj _)
    have hO := hO.below (zj _)
    refine zh rfl (fun w hw => zc (v := pV b) rfl) rfl (zh rfl (fun w hw => zc (v := pV b) rfl) rfl (zh (v := pV b) rfl (fun w hw => by kernel_rfl) rfl (zh rfl (fun w hw => zk kH rfl) rfl (zh rfl (fun w hw => zk znX rfl) rfl (zh rfl (fun w hw => zo n3 rfl (zr hw (k := 1) rfl rfl)) rfl (zh rfl (fun w hw => zk zjW rfl) rfl (zh rfl (fun w hw => zo n3 rfl (zr hw (k := 0) rfl rfl)) rfl ?_)))))))
    refine zD rfl rfl (zP (v := fun b => .slice (some ⟨b, 0, none⟩) 2 2) (cs := [iV ui, iV ls[i].Need]) (e := 3) (by kernel_rfl) hS.sat rfl fun b9 G3 w8 hg3 hc3 => ⟨fun _ _ => (hO.grow hg3).le hg3.le, ?_⟩)
    have hS := hS.grow hg3
    have hO := hO.grow hg3
    have s4 : Calls Tryz.prog 174 [.slice (some ⟨b9, 0, none⟩) 2 2].toArray w8 (qW w8 (iV (ui + ls[i].Need))) := by
     have := zcH (xs := [ui, ls[i].Need]) hS.sat (zq3 hc3) (show 2 ≤ 1000 by decide) (zjD (by omega) (by omega))
     simpa using this
    refine zD rfl rfl (zy zi8 s4 rfl rfl fun w9 hb => ⟨fun _ _ => (hO.below hb).le hg3.le, ?_⟩)
    have hS := hS.keep hb
    have hO := hO.below hb
    refine zh (v := pV b) rfl (fun w hw => by kernel_rfl) rfl (zh rfl (fun w hw => zk kH rfl) rfl (zh rfl (fun w hw => zk znX rfl) rfl ?_))
    refine zD rfl rfl (zG (vs := [iV (ui + ls[i].Need)]) z3 hS hO (k := 1) rfl rfl rfl rfl rfl (zU rfl) (nQl rfl) fun w10 hS hO => ⟨fun _ h => zR (by kernel_rfl) h, qp ?_⟩)
    have hO : Owns G3 w10 B (zg4 b3 ls[i] :: rowR b S day (ei - ls[i].Need) ((ci + 2 ^ i : Nat) : Int) l0 l1 (ui + ls[i].Need) l3 l4 l5 :: Lq) := hO
    exact ⟨_, G3, zi _ _ ⟨rfl, rfl, rfl, rfl, trivial⟩, le.trans hg3.le, hS, by rw [hnx]; exact hO.drop 0⟩
  ·rintro F w ⟨Fb, G, rfl, le, hS, hO⟩
   refine zb (za (v := iV ((i + 1 : Nat) : Int)) (zX (m := i) (n := 1) rfl rfl (by omega)) rfl (za (zc (v := iV ((i + 1 : Nat) : Int)) rfl) rfl (ze ?_)))
   exact ⟨_, G, zi _ _ ⟨rfl, rfl, rfl, rfl, trivial⟩, le, hS, hO⟩
 ·rintro F w ⟨Fb, G, rfl, le, hS, hO⟩
  refine qg (zd (zb (za (zN rfl rfl) rfl (ze (zd (zH (decide ((ls.length : Int) < (ls.length : Int))) (decide_eq_false (by omega)) rfl (zW rfl ?_)))))))
  exact ⟨[], trivial, G, _, le, hS, hO, rfl⟩
end
abbrev zue (S : jQ) : Value := .agg #[iV S.sunny, iV S.cloudy, iV S.size, iV S.fade, iV S.start, .slice S.la S.ln S.lc, iV S.days, iV S.window, iV S.most, iV S.panel, iV S.battery]
theorem g49 : agB Tryz.prog 45 = some 11 := by kernel_rfl
theorem zxg : qx Tryz.prog 45 4 = some 4 := by kernel_rfl
theorem zup : qx Tryz.prog 67 0 = some 0 := by kernel_rfl
set_option maxHeartbeats 2000000 in
theorem zpz {B : Nat} {G0 Gc : Gm} {w0 wc : World} {L : List Row} {S : jQ} {h e0 : Int} (hS : Since B G0 w0 Gc wc) (hO : Owns Gc wc B L) (hh : h = S.size * S.q) (he : e0 = h * S.start / 1000) (hhb : 0 ≤ h ∧ h ≤ 1000000000) (hs : 0 ≤ S.start ∧ S.start ≤ 1000) :
  Calls Tryz.prog 39 [zue S, .agg #[iV S.p, iV S.q], iV S.off, .string ⟨S.wt.toArray⟩].toArray wc (jP B G0 w0 Gc wc (fun G' L' v => ∃ b, v = pV b ∧ L' = rowR b S 0 e0 0 e0 0 0 0 0 0 :: L)) := by
 have m0 : 0 ≤ h * S.start := Int.mul_nonneg hhb.1 hs.1
 have m1 : h * S.start ≤ 1000000000 * 1000 := Int.mul_le_mul hhb.2 hs.2 hs.1 (by decide)
 have q1 : IntKind.i64.wrap (h * S.start) = h * S.start := qt ⟨by omega, by omega⟩
 have q2 : (h * S.start).tdiv 1000 = e0 := by rw [he, Int.tdiv_eq_ediv_of_nonneg m0]
 have q3 : IntKind.i64.wrap e0 = e0 := qt ⟨by omega, by omega⟩
 refine yP (N := 34) (rs := [.tmp 8]) hO.base Tryz.func39 rfl rfl rfl rfl (zd (zb ?_))
 refine zm rfl (zP (v := fun b => pV b) (cs := [iV S.sunny, iV S.cloudy, iV S.size, iV S.fade, iV S.start, .slice S.la S.ln S.lc, iV S.days, iV S.window, iV S.most, iV S.panel, iV S.battery]) (e := 45) (qu rfl) hS.sat rfl fun b4 G1 w1 hg1 hc4 => ?_)
 have hS := hS.grow hg1
 have hO := hO.grow hg1
 refine zm rfl (zP (v := fun b => pV b) (cs := [iV S.p, iV S.q]) (e := 91) (qu rfl) hS.sat rfl fun b5 G2 w2 hg2 hc5 => ?_)
 have hS := hS.grow hg2
 have hO := hO.grow hg2
 have hc4 := hc4.mono hg2.le
 refine za (zf (v := .pointer none) rfl) rfl (ze (zd (zb ?_)))
 refine za (zu g49 (cs := [iV S.sunny, iV S.cloudy, iV S.size, iV S.fade, iV S.start, .slice S.la S.ln S.lc, iV S.days, iV S.window, iV S.most, iV S.panel, iV S.battery]) rfl rfl fun j v hj => hS.sat.cell (hc4 j v hj)) rfl (za (zu xH (cs := [iV S.p, iV S.q]) rfl rfl fun j v hj => hS.sat.cell (hc5 j v hj)) rfl (za (zc (v := iV S.off) rfl) rfl (za (zc (v := .string ⟨S.wt.toArray⟩) rfl) rfl (za (v := .agg #[iV S.sunny, iV S.cloudy, iV S.size, iV S.fade, iV S.start, .slice S.la S.ln S.lc, iV S.days, iV S.window, iV S.most, iV S.panel, iV S.battery, iV S.p, iV S.q, iV S.off, .string ⟨S.wt.toArray⟩, iV 0, iV 0, iV 0, iV 0, iV 0, iV 0, iV 0, iV 0, iV 0]) (by kernel_rfl) rfl ?_))))
 refine zm rfl (z7 (v := fun b => pV b) (cs := [iV S.sunny, iV S.cloudy, iV S.size, iV S.fade, iV S.start, .slice S.la S.ln S.lc, iV S.days, iV S.window, iV S.most, iV S.panel, iV S.battery, iV S.p, iV S.q, iV S.off, .string ⟨S.wt.toArray⟩, iV 0, iV 0, iV 0, iV 0, iV 0, iV 0, iV 0, iV 0, iV 0]) (e := 113) (qu rfl) hS.sat hO rfl 24 1 rfl (by decide) fun b w3 hb hO => ?_)
 have hS := hS.keep hb
 have hO : Owns G2 w3 B (rowR b S 0 0 0 0 0 0 0 0 0 :: L) := hO
 refine za (zf (v := pV b) rfl) rfl (ze (zd ?_))
 refine zM qw (fun _ w => Sat G2 w) (.fl 0 (.fl 1 (.fl 3 (.fl 4 (.on 2 (.fl 5 (.fl 6 (.fl 7 (.fl 8 (.on 9 .nil)))))))))) (by kernel_rfl) rfl (by kernel_rfl) (fun _ => (hS.keep (zj _)).sat) ?_
 have hS := hS.keep (zj w3)
 have hO := hO.below (zj w3)
 refine zh rfl (fun w hw => zc (v := pV b) rfl) rfl (zh rfl (fun w hw => zc (v := pV b) rfl) rfl (zh rfl (fun w hw => zk zxg rfl) rfl (zh rfl (fun w hw => zo n3 rfl (hw.cell (hc4 4 _ rfl))) rfl ?_)))
 have s2 : Calls Tryz.prog 91 [pV b].toArray (World.drew w3) (qW (World.drew w3) (iV h)) := by rw [hh]; exact zpn hO (by rw [← hh]; exact qt ⟨by omega, by omega⟩)
 refine zD rfl rfl (zy zym s2 rfl rfl fun w4 hb => ⟨fun _ _ => (hS.keep hb).sat, ?_⟩)
 have hS := hS.keep hb
 have hO := hO.below hb
 refine zh rfl (fun w hw => vH rfl rfl) rfl ?_
 rw [q1]
 refine zh rfl (fun w hw => zjQ rfl rfl (by decide)) rfl ?_
 rw [q2, q3]
 refine zh (v := pV b) rfl (fun w hw => by kernel_rfl) rfl (zh rfl (fun w hw => zk jA rfl) rfl ?_)
 refine zD rfl rfl (zG (vs := [iV e0]) z3 hS hO (k := 0) rfl rfl rfl rfl rfl (zU rfl) (nQl rfl) fun w5 hS hO => ⟨fun _ h => zR (by kernel_rfl) h, qp ?_⟩)
 have hO : Owns G2 w5 B (rowR b S 0 e0 0 0 0 0 0 0 0 :: L) := hO
 refine zd (zb (za (zc (v := pV b) rfl) rfl (za (zc (v := pV b) rfl) rfl (za (v := pV b) (by kernel_rfl) rfl (za (zk jA rfl) rfl (za (zo n3 rfl (zr hO (k := 0) rfl rfl)) rfl (za (v := pV b) (by kernel_rfl) rfl (za (zk kH rfl) rfl (za (zk zup rfl) rfl ?_)))))))))
 refine zm rfl (zG (vs := [iV e0]) z3 hS hO (k := 0) rfl rfl rfl rfl rfl (zU rfl) (nQl rfl) fun w6 hS hO => ze ?_)
 have hO : Owns G2 w6 B (rowR b S 0 e0 0 e0 0 0 0 0 0 :: L) := hO
 refine zd (zb (za (zc (v := pV b) rfl) rfl (za (zf (v := pV b) rfl) rfl (ze (zF ?_)))))
 exact ⟨[pV b], ⟨rfl, trivial⟩, G2, _, hg1.le.trans hg2.le, hS, hO, b, rfl, rfl⟩
end Go.Proofs.YtihedfkcccaonaaGreatDoor
