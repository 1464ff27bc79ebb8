/-
 The cooling system: the weathers that are allowed, yielded one after the other (weathers).
-/
import Derived.Test.YtihedfkcccaonaaGreatDoorXx
import Derived.Test.YtihedfkcccaonaaGreatDoorWx
import Derived.Laws.IdiomStrings
import Derived.Test.YtihedfkcccaonaaGreatDoorRy
import Derived.Test.YtihedfkcccaonaaGreatDoorRx
namespace Go.Proofs.YtihedfkcccaonaaGreatDoor
noncomputable section
open Go.RowKit
set_option maxRecDepth 20000
theorem zqC {P : Program} {N l B : Nat} {df : List Deferred} {c : Code} {Q Q' : Post} {F : Fr} {w : World} (h : WC ⟨none, none, B, true, df⟩ P N c Q' F w) (hq : ∀ e F' w', Keeps none w w' → Q'.at_ e F' w' → Q.at_ e F' w') : WC ⟨none, some l, B, true, df⟩ P N c Q F w := by
 intro a wI st hF
 have hd : a.defers = df := st.calm.none rfl
 refine wpIn_mono (h a w ⟨st.size, ⟨fun d hd' => .inl (by rw [hd] at hd'; exact hd'), st.calm.apart, fun _ => hd⟩, Keeps.refl _, st.base⟩ hF) ?_
 rintro e a' w' ⟨p1, p2⟩
 have hd' : a'.defers = df := p1.calm.none rfl
 exact ⟨⟨p1.size, ⟨fun d hd => .inl (by rw [hd'] at hd; exact hd), p1.calm.apart, fun _ => hd'⟩, st.keep.trans p1.keep.weak, p1.base⟩, hq _ _ _ p1.keep p2⟩
section
variable {P : Program} {F : Fr} {w w0 : World} {od : Option Nat} {X : Operand} {T T' : TypeId} {ty : TypeId} {pos : String} {af : Array Edge} {gd : Option (Nat × Bool)} {G G0 : Gm} {B : Nat} {L : List Row}
theorem zjT {k n c e e' : Nat} {a : Option Addr} {cells : List Value} {x : List UInt8} (hT : P.underlying T = some (.slice e')) (he : P.underlying e' = some (.int .u8)) (hT' : P.underlying T' = some .string) (hS : Since B G0 w0 G w) (hO : Owns G w B L) (hk : L[k]? = some ⟨e, 1, n, .slice a n c, cells⟩) (hr : Rd RU8 1 G cells x) (hn : n = x.length) (h0 : x ≠ []) (hx : ev F X = .slice a n c) :
  (execOp (ev F) ⟨od, .convert T T' X, ty, pos, af, gd⟩).run P w = .ok (.value (.string ⟨x.toArray⟩)) w := by
 subst hn
 obtain ⟨G', le, hS', _, hs⟩ := hO.freezeS hS zjr hk hr rfl
 obtain ⟨ad, rfl⟩ : ∃ ad, a = some ad := by
  cases x with
  | nil => exact absurd rfl h0
  | cons y ys => obtain ⟨b, off, cs, e2, _⟩ := hs.2.2 0 y rfl; exact ⟨_, e2⟩
 have hcs : ∀ j (hj : j < x.length), w.cell? (ad.add j) = some (.int .u8 (x[j].toNat : Int)) := fun j hj => by
  obtain ⟨b, off, cs, e2, hc, hl, hr⟩ := hs.2.2 j x[j] (List.getElem?_eq_getElem hj)
  cases e2
  have hr : cs = [.int .u8 (x[j].toNat : Int)] := hr
  subst hr
  have := hS'.sat.cell (hc 0 _ rfl)
  rw [xf]
  simpa using this
 simp only [execOp, hx, Sem.run_bind, run_convert_bytes_back w T T' e' ad c x hT he hT' hcs, Result.andThen_ok, Sem.run_pure]
end
def wOf : Nat → Nat → List UInt8
 | 0, _ => []
 | D + 1, s => (if s / 2 ^ D % 2 = 1 then 99 else 115) :: wOf D s
theorem vD : ∀ D s, (wOf D s).length = D
 | 0, _ => rfl
 | D + 1, s => by simp [wOf, vD D s]
theorem zkO : ∀ (D s d : Nat), d < D → (wOf D s)[d]? = some (if s / 2 ^ (D - 1 - d) % 2 = 1 then 99 else 115)
 | 0, _, _, h => by omega
 | D + 1, s, 0, _ => by simp [wOf]
 | D + 1, s, d + 1, h => by
  show (wOf D s)[d]? = _
  rw [zkO D s d (by omega), show D + 1 - 1 - (d + 1) = D - 1 - d by omega]
theorem zns {D s d : Nat} (h : d < D) : (wOf D s).take (d + 1) = (wOf D s).take d ++ [if s / 2 ^ (D - 1 - d) % 2 = 1 then 99 else 115] := by
 rw [List.take_add_one, zkO D s d h]; rfl
def zqv (x : zn) (w : List UInt8) : Bool := decide (zks x w = some true)
def jp (x : zn) (D : Nat) : Nat → Nat → List (List UInt8)
 | _, 0 => []
 | s, m + 1 => if zqv x (wOf D s) = true then wOf D s :: jp x D (s + 1) m else jp x D (s + 1) m
theorem zcQ {x : zn} {D : Nat} {w : List UInt8} : ∀ {m s : Nat}, w ∈ jp x D s m ↔ ∃ t, s ≤ t ∧ t < s + m ∧ w = wOf D t ∧ zqv x w = true
 | 0, s => by simp [jp]; intro t h1 h2; omega
 | m + 1, s => by
  unfold jp
  split
  ·rename_i hb
   rw [List.mem_cons, zcQ]
   constructor
   ·rintro (rfl | ⟨t, h1, h2, h3, h4⟩)
    ·exact ⟨s, Nat.le_refl _, by omega, rfl, hb⟩
    ·exact ⟨t, by omega, by omega, h3, h4⟩
   ·rintro ⟨t, h1, h2, h3, h4⟩
    by_cases e : t = s
    ·subst e; exact .inl h3
    ·exact .inr ⟨t, by omega, by omega, h3, h4⟩
  ·rename_i hb
   rw [zcQ]
   constructor
   ·rintro ⟨t, h1, h2, h3, h4⟩
    exact ⟨t, by omega, by omega, h3, h4⟩
   ·rintro ⟨t, h1, h2, h3, h4⟩
    by_cases e : t = s
    ·subst e; rw [h3] at h4; exact absurd h4 hb
    ·exact ⟨t, by omega, by omega, h3, h4⟩
abbrev xq (x : zn) (a : Option Addr) (n c : Nat) : List Value := [iV x.Sunny, iV x.Cloudy, iV x.Size, iV x.Fade, iV x.Start, .slice a n c, iV x.Days, iV x.Window, iV x.Most, iV x.Panel, iV x.Battery]
abbrev zx8 (w : List UInt8) : List Value := [.string ⟨w.toArray⟩]
abbrev rowU (a : Option Addr) (n c : Nat) (cells : List Value) : Row := ⟨5, 1, n, .slice a n c, cells⟩
theorem jZ : agB Tryz.prog 45 = some 11 := by kernel_rfl
theorem zzu : slB Tryz.prog 161 = some (5, 1, 1) := by kernel_rfl
theorem zw5 : Tryz.prog.underlying 161 = some (.slice 5) := by kernel_rfl
theorem un5 : Tryz.prog.underlying 5 = some (.int .u8) := by kernel_rfl
theorem zwJ : zJ Tryz.prog 164 = true := by kernel_rfl
theorem zwK : zJ Tryz.prog 163 = true := by kernel_rfl
set_option maxHeartbeats 4000000 in
theorem zsv {G : Gm} {bc D : Nat} {x : zn} {a : Option Addr} {n c : Nat} (hc : Cells G bc 0 (xq x a n c)) (h1 : RSl zO 3 G a n c x.Loads) (hD : x.Days = (D : Int)) (hD1 : 1 ≤ D) (hD4 : D ≤ 4) (hal : ∀ s, ∃ b, zks x (wOf D s) = some b) :
  IterOk Tryz.prog 163 [] [pV bc] G zx8 (jp x D 0 (2 ^ D)) := by
 intro l B G0 w0 J Jx G1 L1 w hle hS hO hmono hy h0
 have h16 : 2 ^ D ≤ 16 := by
  have : D = 1 ∨ D = 2 ∨ D = 3 ∨ D = 4 := by omega
  rcases this with rfl | rfl | rfl | rfl <;> decide
 refine zwv (l := l) (N := 45) Tryz.func163 rfl rfl rfl rfl ?_
 refine zd (zb (za (zk zf7 rfl) rfl (za (v := iV (D : Int)) (by rw [← hD]; exact zo n3 rfl (hS.sat.cell ((hc.mono hle) 6 _ rfl))) rfl (za (zg8 rfl rfl (zkX (by omega))) rfl (za (zc (v := iV 0) rfl) rfl (ze ?_))))))
 refine zp (qh (qN (2 ^ D) (fun i F w' => ∃ Fb G2 L k, F = qi Fb [(0, .func (.yield l) #[] #[]), (1, pV bc), (10, iV ((2 ^ D : Nat) : Int)), (11, iV (i : Int))] ∧ Gle G1 G2 ∧ Since B G0 w0 G2 w' ∧ Owns G2 w' B L ∧ J G2 L k w' ∧ k ≤ (jp x D 0 (2 ^ D)).length ∧ (jp x D 0 (2 ^ D)).drop k = jp x D i (2 ^ D - i)) ?_ ?_ (2 ^ D) 0 _ _ (by omega) ⟨_, G1, L1, 0, zi _ _ ⟨rfl, rfl, rfl, rfl, trivial⟩, Gle.refl _, hS, hO, h0, Nat.zero_le _, rfl⟩))
 ·rintro i F w' hi ⟨Fb, G2, L, k, rfl, le, hS, hO, hJ, hkl, hdrop⟩
  have hcG := hc.mono (hle.trans le)
  rw [show 2 ^ D - i = (2 ^ D - (i + 1)) + 1 by omega] at hdrop
  refine zd (zb (za (zN rfl rfl) rfl (ze (zd (zQ (decide ((i : Int) < ((2 ^ D : Nat) : Int))) (decide_eq_true (by omega)) rfl (zq ?_))))))
  refine zd (zZ (fun F w' => ∃ Fb G2 L k, F = qi Fb [(0, .func (.yield l) #[] #[]), (1, pV bc), (10, iV ((2 ^ D : Nat) : Int)), (11, iV (i : Int))] ∧ Gle G1 G2 ∧ Since B G0 w0 G2 w' ∧ Owns G2 w' B L ∧ J G2 L k w' ∧ k ≤ (jp x D 0 (2 ^ D)).length ∧ (jp x D 0 (2 ^ D)).drop k = jp x D (i + 1) (2 ^ D - (i + 1))) ?_ ?_)
  ·refine zp (zd (zb (za (zc (v := iV (i : Int)) rfl) rfl (za (zf (v := iV (i : Int)) rfl) rfl (ze ?_)))))
   refine zd (zb (za (zf (v := .slice none 0 0) rfl) rfl (ze ?_)))
   refine zd (zqC (Q' := ⟨fun F w2 => ∃ Fb G3 a3 c3 cells, F = qi Fb [(0, .func (.yield l) #[] #[]), (1, pV bc), (4, .slice a3 D c3), (10, iV ((2 ^ D : Nat) : Int)), (11, iV (i : Int))] ∧ Gle G2 G3 ∧ Since B G0 w0 G3 w2 ∧ Owns G3 w2 B (rowU a3 D c3 cells :: L) ∧ Rd RU8 1 G3 cells (wOf D i), fun _ _ => False, [], fun _ _ _ => False⟩) ?_ ?_)
   ·refine zd (zb (za (zk zf7 rfl) rfl (za (v := iV (D : Int)) (by rw [← hD]; exact zo n3 rfl (hS.sat.cell (hcG 6 _ rfl))) rfl (za (zc (v := iV 0) rfl) rfl (ze ?_)))))
    refine zp (qh (qN D (fun d F w2 => ∃ Fb G3 a3 c3 cells, F = qi Fb [(0, .func (.yield l) #[] #[]), (1, pV bc), (3, iV (i : Int)), (4, .slice a3 d c3), (10, iV ((2 ^ D : Nat) : Int)), (11, iV (i : Int)), (15, iV (D : Int)), (16, iV (d : Int))] ∧ Gle G2 G3 ∧ Since B G0 w0 G3 w2 ∧ Owns G3 w2 B (rowU a3 d c3 cells :: L) ∧ Rd RU8 1 G3 cells ((wOf D i).take d)) ?_ ?_ D 0 _ _ (by omega) ⟨_, G2, none, 0, [], zi _ _ ⟨rfl, rfl, rfl, rfl, rfl, rfl, rfl, rfl, trivial⟩, Gle.refl _, hS, hO.cons_nil 5 1, Rd.nil _ _ _⟩))
    ·rintro d F w3 hd ⟨Fb, G3, a3, c3, cells, rfl, le3, hS, hO, hr⟩
     have hlt : ((wOf D i).take d).length = d := by rw [List.length_take, vD]; omega
     refine zd (zb (za (zN rfl rfl) rfl (ze (zd (zQ (decide ((d : Int) < (D : Int))) (decide_eq_true (by omega)) rfl (zq ?_))))))
     refine zd (zZ (fun F w2 => ∃ Fb G3 a3 c3 cells, F = qi Fb [(0, .func (.yield l) #[] #[]), (1, pV bc), (3, iV (i : Int)), (4, .slice a3 (d + 1) c3), (10, iV ((2 ^ D : Nat) : Int)), (11, iV (i : Int)), (15, iV (D : Int)), (16, iV (d : Int))] ∧ Gle G2 G3 ∧ Since B G0 w0 G3 w2 ∧ Owns G3 w2 B (rowU a3 (d + 1) c3 cells :: L) ∧ Rd RU8 1 G3 cells ((wOf D i).take (d + 1))) ?_ ?_)
     ·refine zp (zd (zb (za (zc (v := iV (d : Int)) rfl) rfl (za (zf (v := iV (d : Int)) rfl) rfl (ze ?_)))))
      refine zd (zb (za (zf (v := .int .u8 115) rfl) rfl (ze ?_)))
      have hpw : i / 2 ^ (D - 1 - d) < 64 := Nat.lt_of_le_of_lt (Nat.div_le_self _ _) (by omega)
      refine zd (zZ (fun F w2 => ∃ Fb, w2 = w3 ∧ F = qi Fb [(0, .func (.yield l) #[] #[]), (1, pV bc), (3, iV (i : Int)), (4, .slice a3 d c3), (6, .int .u8 (((if i / 2 ^ (D - 1 - d) % 2 = 1 then 99 else 115 : UInt8).toNat : Nat) : Int)), (10, iV ((2 ^ D : Nat) : Int)), (11, iV (i : Int)), (15, iV (D : Int)), (16, iV (d : Int))]) ?_ ?_)
      ·refine zd (zb (za (zc (v := iV (i : Int)) rfl) rfl (za (zk zf7 rfl) rfl (za (v := iV (D : Int)) (by rw [← hD]; exact zo n3 rfl (hS.sat.cell ((hcG.mono le3) 6 _ rfl))) rfl (za (v := iV ((D - 1 : Nat) : Int)) (qH (m := D) (n := 1) rfl rfl hD1 (by omega)) rfl (za (zc (v := iV (d : Int)) rfl) rfl (za (v := iV ((D - 1 - d : Nat) : Int)) (qH (m := D - 1) (n := d) rfl rfl (by omega) (by omega)) rfl (za (zg7 rfl rfl (zgZ (by omega))) rfl (za (zjU rfl rfl) rfl ?_)))))))))
       rw [zhR hpw]
       refine za (xu (m := ((i / 2 ^ (D - 1 - d) % 2 : Nat) : Int)) (n := 1) rfl rfl) rfl (ze (zV rfl (fun hb => ?_) (fun hb => zq ?_)))
       ·have hb2 : ((i / 2 ^ (D - 1 - d) % 2 : Nat) : Int) = 1 := by simpa using hb
        have hb1 : i / 2 ^ (D - 1 - d) % 2 = 1 := by omega
        refine zb (za (zf (v := .int .u8 99) rfl) rfl (ze ?_))
        exact ⟨_, rfl, zi _ _ ⟨rfl, rfl, rfl, rfl, by rw [if_pos hb1]; rfl, rfl, rfl, rfl, rfl, trivial⟩⟩
       ·have hb1 : ¬ i / 2 ^ (D - 1 - d) % 2 = 1 := fun h => by rw [h] at hb; simp at hb
        exact ⟨_, rfl, zi _ _ ⟨rfl, rfl, rfl, rfl, by rw [if_neg hb1]; rfl, rfl, rfl, rfl, rfl, trivial⟩⟩
      ·rintro F w2 ⟨Fb, rfl, rfl⟩
       have htk := zns (s := i) hd
       generalize (if i / 2 ^ (D - 1 - d) % 2 = 1 then 99 else 115 : UInt8) = y at htk ⊢
       refine zb (za (zc (v := .slice a3 d c3) rfl) rfl (za (zc (v := .int .u8 (y.toNat : Int)) rfl) rfl ?_))
       refine zm rfl (zP (v := fun b => .slice (some ⟨b, 0, none⟩) 1 1) (cs := [.int .u8 (y.toNat : Int)]) (e := 5) (by kernel_rfl) hS.sat rfl fun bb G4 w4 hg hcb => ?_)
       have hS := hS.grow hg
       have hO := hO.grow hg
       have hr := hr.mono zjr hg.le
       refine zm rfl (yc (R := RU8) (k := 0) (xs := (wOf D i).take d) (ys := [y]) (zs := (wOf D i).take d ++ [y]) zzu zta hS hO rfl hlt.symm hr (RSl.of_rd hcb (zxd [y]) rfl (show 1 ≤ maxLen by decide)) (kX _ _ (by rw [hlt]; simp; omega)) rfl rfl rfl rfl rfl fun a5 c5 w5 cells5 hS hO hr => ?_)
       refine za (zf rfl) rfl (ze ?_)
       have e1 : ((wOf D i).take d ++ [y]).length = d + 1 := by rw [List.length_append, hlt]; rfl
       rw [e1] at hO
       exact ⟨_, G4, a5, c5, cells5, zi _ _ ⟨rfl, rfl, rfl, by rw [e1]; rfl, rfl, rfl, rfl, rfl, trivial⟩, le3.trans hg.le, hS, hO, by rw [htk]; exact hr⟩
     ·rintro F w4 ⟨Fb, G4, a5, c5, cells5, rfl, le4, hS, hO, hr⟩
      refine zb (za (v := iV ((d + 1 : Nat) : Int)) (zX (m := d) (n := 1) rfl rfl (by omega)) rfl (za (zc (v := iV ((d + 1 : Nat) : Int)) rfl) rfl (ze ?_)))
      exact ⟨_, G4, a5, c5, cells5, zi _ _ ⟨rfl, rfl, rfl, rfl, rfl, rfl, rfl, rfl, trivial⟩, le4, hS, hO, hr⟩
    ·rintro F w4 ⟨Fb, G4, a5, c5, cells5, rfl, le4, hS, hO, hr⟩
     refine qg (zd (zb (za (zN rfl rfl) rfl (ze (zd (zH (decide ((D : Int) < (D : Int))) (decide_eq_false (by omega)) rfl (zW rfl ?_)))))))
     exact ⟨_, G4, a5, c5, cells5, zi _ _ ⟨rfl, rfl, rfl, rfl, rfl, trivial⟩, le4, hS, hO, by rwa [List.take_of_length_le (by rw [vD]; exact Nat.le_refl _)] at hr⟩
   ·rintro e F w2 hk hq
    cases e with
    | normal =>
     obtain ⟨Fb, G3, a3, c3, cells, rfl, le3, hS, hO, hr⟩ := hq
     have hJ := hmono _ _ _ _ _ _ hJ le3 hk
     show WC _ _ _ _ _ _ _
     have hne : wOf D i ≠ [] := fun h => by have := vD D i; rw [h] at this; simp at this; omega
     refine zd (zb (za (zc (v := .slice a3 D c3) rfl) rfl (za (zjT zw5 un5 un9 hS hO (k := 0) rfl hr (vD D i).symm hne rfl) rfl (za (zf (v := .string ⟨(wOf D i).toArray⟩) rfl) rfl (ze ?_)))))
     have hO := hO.drop 0
     have hcG := hcG.mono le3
     obtain ⟨b, hb⟩ := hal i
     refine zd (zb (za (zu jZ (cs := xq x a n c) rfl rfl fun j v hj => hS.sat.cell (hcG j v hj)) rfl (za (zc (v := .string ⟨(wOf D i).toArray⟩) rfl) rfl ?_)))
     refine zm rfl (zy zwJ (zsu hS.sat (h1.mono zx ((hle.trans le).trans le3)) hb) rfl rfl fun w5 hbel => ?_)
     have hS := hS.keep hbel
     have hO := hO.below hbel
     have hJ := hmono _ _ _ _ _ _ hJ (Gle.refl _) (Keeps.below hbel)
     refine za (zc (v := .bool b) rfl) rfl ?_
     have hOk : zqv x (wOf D i) = b := by unfold zqv; rw [hb]; cases b <;> rfl
     by_cases hbt : b = true
     ·have hd1 : jp x D i ((2 ^ D - (i + 1)) + 1) = wOf D i :: jp x D (i + 1) (2 ^ D - (i + 1)) := by
       simp only [jp]; rw [if_pos (by rw [hOk]; exact hbt)]
      rw [hd1] at hdrop
      have hk1 : (jp x D 0 (2 ^ D))[k]? = some (wOf D i) := by
       have := congrArg (fun l => l[0]?) hdrop
       simpa using this
      have hdrop' : (jp x D 0 (2 ^ D)).drop (k + 1) = jp x D (i + 1) (2 ^ D - (i + 1)) := by
       have := congrArg List.tail hdrop
       simpa using this
      refine zl rfl hbt rfl rfl (za (zc (v := .func (.yield l) #[] #[]) rfl) rfl ?_)
      refine zl rfl hbt rfl rfl (za (zc (v := .string ⟨(wOf D i).toArray⟩) rfl) rfl ?_)
      refine zl rfl hbt rfl rfl (zqB (al := zx8 (wOf D i)) (hy G3 L [] k w5 (wOf D i) (le.trans le3) hJ hS hO hk1) rfl rfl rfl ?_)
      rintro e w10 ⟨hkeep, ⟨rfl, G10, L10, le10, hS, hO, hJ10⟩ | ⟨rfl, hjx⟩⟩
      ·refine ⟨_, rfl, hkeep, ?_⟩
       refine zl rfl hbt rfl rfl (za (qE (b := true) rfl) rfl ?_)
       refine za (yy (v := .bool false) rfl hbt rfl) rfl (ze (zH false rfl rfl (zq ?_)))
       exact ⟨_, G10, L10, k + 1, zi _ _ ⟨rfl, rfl, rfl, rfl, trivial⟩, (le.trans le3).trans le10, hS, hO, hJ10, (List.getElem?_eq_some_iff.1 hk1).1, hdrop'⟩
      ·refine ⟨_, rfl, hkeep, ?_⟩
       refine zl rfl hbt rfl rfl (za (qE (b := false) rfl) rfl ?_)
       refine za (yy (v := .bool true) rfl hbt rfl) rfl (ze (zQ true rfl rfl (zF ?_)))
       exact fun hkp => ⟨⟨_, rfl⟩, hkp, .inr hjx⟩
     ·have hbf : b = false := by simpa using hbt
      have hd1 : jp x D i ((2 ^ D - (i + 1)) + 1) = jp x D (i + 1) (2 ^ D - (i + 1)) := by
       simp only [jp]; rw [if_neg (by rw [hOk]; exact hbt)]
      rw [hd1] at hdrop
      refine qd rfl hbf rfl rfl rfl (qd rfl hbf rfl rfl rfl (qd rfl hbf rfl rfl rfl (qd rfl hbf rfl rfl rfl ?_)))
      refine za (xc (v := .bool false) rfl hbf rfl) rfl (ze (zH false rfl rfl (zq ?_)))
      exact ⟨_, G3, L, k, zi _ _ ⟨rfl, rfl, rfl, rfl, trivial⟩, le.trans le3, hS, hO, hJ, hkl, hdrop⟩
    | ret => exact hq.elim
    | exit id => obtain ⟨K, hK, _⟩ := hq; cases hK
    | goto l => exact hq.elim
    | panic c => exact hq.elim
    | outgrown => exact hq.elim
  ·rintro F w3 ⟨Fb, G3, L3, k3, rfl, le3, hS, hO, hJ, hkl, hdrop⟩
   refine zb (za (v := iV ((i + 1 : Nat) : Int)) (zX (m := i) (n := 1) rfl rfl (by omega)) rfl (za (zc (v := iV ((i + 1 : Nat) : Int)) rfl) rfl (ze ?_)))
   exact ⟨_, G3, L3, k3, zi _ _ ⟨rfl, rfl, rfl, rfl, trivial⟩, le3, hS, hO, hJ, hkl, hdrop⟩
 ·rintro F w3 ⟨Fb, G3, L3, k3, rfl, le3, hS, hO, hJ, hkl, hdrop⟩
  refine qg (zd (zb (za (zN rfl rfl) rfl (ze (zd (zH (decide (((2 ^ D : Nat) : Int) < ((2 ^ D : Nat) : Int))) (decide_eq_false (by omega)) rfl (zW rfl ?_)))))))
  intro hkp
  have hk0 : (jp x D 0 (2 ^ D)).drop k3 = [] := by rw [hdrop, Nat.sub_self]; rfl
  have hkn : k3 = (jp x D 0 (2 ^ D)).length := by
   have := List.drop_eq_nil_iff.1 hk0
   omega
  exact ⟨⟨_, rfl⟩, hkp, .inl ⟨G3, L3, le3, hS, hO, hkn ▸ hJ⟩⟩
theorem zyt : zJ Tryz.prog 80 = true := by kernel_rfl
theorem ztS : zJ Tryz.prog 39 = true := by kernel_rfl
theorem zys : zJ Tryz.prog 81 = true := by kernel_rfl
theorem ztW : zJ Tryz.prog 31 = true := by kernel_rfl
theorem zvV {G0 : Gm} {w0 : World} (hS0 : Sat G0 w0) {x : zn} {a : Option Addr} {n c : Nat} :
  Calls Tryz.prog 80 [.agg (xq x a n c).toArray].toArray w0 (yL G0 w0 fun G v => ∃ bc : Nat, v = .func (.func 163) #[] #[pV bc] ∧ Cells G bc 0 (xq x a n c)) := by
 have hS := Since.start hS0
 refine qb (N := 4) (xZ _ _ _) Tryz.func80 rfl rfl rfl rfl (zd (zb ?_))
 refine zm rfl (zP (v := fun b => pV b) (cs := xq x a n c) (e := 45) (qu rfl) hS.sat rfl fun bx G1 w1 hg hx => ?_)
 have hS := hS.grow hg
 refine za (zf (v := .nilFunc) rfl) rfl (ze (zd (zb (za (yu (vs := []) (us := [pV bx]) rfl rfl) rfl (za (zf (v := .func (.func 163) #[] #[pV bx]) rfl) rfl (ze (zF ?_)))))))
 exact ⟨_, _, rfl, hS.toGrow, bx, rfl, hx⟩
abbrev jf (x : zn) (a : Option Addr) (n c : Nat) (p q off : Int) (w : List UInt8) : jQ := ⟨x.Sunny, x.Cloudy, x.Size, x.Fade, x.Start, a, n, c, x.Days, x.Window, x.Most, x.Panel, x.Battery, p, q, off, w⟩
def vG (x : zn) (q : Int) : DSt := ⟨0, x.Size * q * x.Start / 1000, 0, x.Size * q * x.Start / 1000, 0, 0, 0, 0, 0⟩
theorem zer (x : zn) (a : Option Addr) (n c : Nat) (p q off : Int) (w : List UInt8) (ls : List zE) (o : Nat) (s0 : DSt) : ∀ k, stK (jf x a n c p q off w) ls o s0 k = stK (jf x none 0 0 p q off w) ls o s0 k
 | 0 => rfl
 | k + 1 => by
  have ih := zer x a n c p q off w ls o s0 k
  unfold stK
  rw [ih]
  rfl
def zbu (x : zn) (p q : Int) (w : List UInt8) : Bool := kQ (jf x none 0 0 p q 0 w) x.Loads 0 (vG x q) x.Days.toNat
theorem zs2 (x : zn) (a : Option Addr) (n c : Nat) (p q : Int) (w : List UInt8) : kQ (jf x a n c p q 0 w) x.Loads 0 (vG x q) x.Days.toNat = zbu x p q w := by
 unfold zbu kQ
 congr 1
 funext k
 unfold zhL
 rw [zer]
def qI (x : zn) (p q : Int) : Bool := (jp x x.Days.toNat 0 (2 ^ x.Days.toNat)).any (zbu x p q)
structure CellOk (x : zn) : Prop where
 cl : 0 ≤ x.Cloudy ∧ x.Cloudy ≤ x.Sunny
 su : x.Sunny ≤ 1000000
 sz : 0 ≤ x.Size ∧ x.Size ≤ 1000000
 fd : 0 ≤ x.Fade ∧ x.Fade ≤ 1000
 st : 0 ≤ x.Start ∧ x.Start ≤ 1000
 dy : x.Days = (x.Days.toNat : Int)
 d1 : 1 ≤ x.Days.toNat
 d4 : x.Days.toNat ≤ 4
 ls : zhV x.Loads
 al : ∀ s, ∃ b, zks x (wOf x.Days.toNat s) = some b
theorem CellOk.sys {x : zn} (h : CellOk x) {a : Option Addr} {n c : Nat} {p q : Int} (hp : 0 ≤ p ∧ p ≤ 12) (hq : 0 ≤ q ∧ q ≤ 8) (off : Int) (w : List UInt8) : SysOk (jf x a n c p q off w) := ⟨h.cl, h.su, h.sz, h.fd, h.st, hp, hq⟩
theorem CellOk.bd {x : zn} (h : CellOk x) {q : Int} (hq : 0 ≤ q ∧ q ≤ 8) : BdD (vG x q) 0 := by
 have h1 := (h.sys (a := none) (n := 0) (c := 0) (p := 0) (by omega) hq 0 []).hold
 have h2 := zlS h1.1 h.st
 have z : ∀ m : Int, (0 : Int) ≤ 0 ∧ (0 : Int) ≤ m * ((0 : Nat) : Int) := fun m => by simp
 exact ⟨⟨h2.1, Int.le_trans h2.2 h1.2⟩, z _, z _, z _, z _⟩
abbrev zaj (b : Nat) (u : List UInt8) (d i : Int) : Row := ⟨61, 3, 1, .slice (some ⟨b, 0, none⟩) 1 1, [.string ⟨u.toArray⟩, iV d, iV i]⟩
theorem zni : agB Tryz.prog 61 = some 3 := by kernel_rfl
theorem z61 : szB Tryz.prog 61 = some 3 := by kernel_rfl
theorem zus : qx Tryz.prog 179 0 = some 0 := by kernel_rfl
theorem zur : qx Tryz.prog 179 1 = some 1 := by kernel_rfl
theorem znP {D : Nat} {p : List UInt8 → Bool} : ∀ {l : List (List UInt8)}, (∀ w ∈ l, w.length = D) → rg (fun w (_ : Unit) => if w.length = D then (if p w = true then some (.inr ()) else some (.inl ())) else none) l () = some (if l.any p = true then .inr () else .inl ())
 | [], _ => rfl
 | x :: l, h => by
  have hx := h x (by simp)
  cases hp : p x with
  | true => simp [rg, hp, hx]
  | false =>
   simp only [rg, hp, hx, List.any_cons, Bool.false_or, Bool.false_eq_true, if_false, if_true]
   exact znP fun w hw => h w (by simp [hw])
set_option maxHeartbeats 4000000 in
theorem zpC {G0 : Gm} {w0 : World} (hS0 : Sat G0 w0) {x : zn} {a : Option Addr} {n c : Nat} (h1 : RSl zO 3 G0 a n c x.Loads) (hx : CellOk x) {p q : Int} (hp : 0 ≤ p ∧ p ≤ 12) (hq : 0 ≤ q ∧ q ≤ 8) :
  Calls Tryz.prog 31 [.agg (xq x a n c).toArray, .agg #[iV p, iV q], iV 0].toArray w0 (yL G0 w0 fun _ v => ∃ (u : List UInt8) (d i : Int), v = .tuple #[.agg #[.string ⟨u.toArray⟩, iV d, iV i], .bool (qI x p q)]) := by
 have hS := Since.start hS0
 have hO : Owns G0 w0 w0.heap.size [] := Owns.nil (Nat.le_refl _)
 refine zdo (N := 34) (xZ _ _ _) [.cell 6 61, .tmp 7] Tryz.func31 rfl rfl rfl rfl (zd (zb ?_))
 refine zm rfl (zP (v := fun b => pV b) (cs := xq x a n c) (e := 45) (qu rfl) hS.sat rfl fun b3 G1 w1 hg1 hc3 => ?_)
 have hS := hS.grow hg1
 have hO := hO.grow hg1
 refine zm rfl (zP (v := fun b => pV b) (cs := [iV p, iV q]) (e := 91) (qu rfl) hS.sat rfl fun b4 G2 w2 hg2 hc4 => ?_)
 have hS := hS.grow hg2
 have hO := hO.grow hg2
 have hc3 := hc3.mono hg2.le
 refine zm rfl (zP (v := fun b => pV b) (cs := [iV 0]) (e := 3) (zhb rfl rfl) hS.sat rfl fun b5 G3 w3 hg3 hc5 => ?_)
 have hS := hS.grow hg3
 have hO := hO.grow hg3
 have hc3 := hc3.mono hg3.le
 have hc4 := hc4.mono hg3.le
 have h1 := h1.mono zx ((hg1.le.trans hg2.le).trans hg3.le)
 refine zm rfl (z7 (v := fun b => pV b) (cs := [.string ⟨#[]⟩, iV 0, iV 0]) (e := 61) (by kernel_rfl) hS.sat hO rfl 3 1 rfl (by decide) fun b6 w4 hb hO => ?_)
 have hS := hS.keep hb
 refine za (zf (v := .bool false) rfl) rfl (ze (zqD (zd (zb ?_))))
 refine zm rfl (z7 (v := fun b => pV b) (cs := [.string ⟨#[]⟩, iV 0, iV 0]) (e := 61) (by kernel_rfl) hS.sat hO rfl 3 1 rfl (by decide) fun b8 w5 hb hO => ze (zd (zb ?_)))
 have hS := hS.keep hb
 refine zm rfl (z7 (v := fun b => pV b) (cs := [.bool false]) (e := 4) (by kernel_rfl) hS.sat hO rfl 1 1 rfl (by decide) fun b9 w6 hb hO => ?_)
 have hS := hS.keep hb
 refine zm rfl (zG (vs := [.bool false]) z4' hS hO (k := 0) rfl rfl rfl rfl rfl (zU rfl) (nQl rfl) fun w7 hS hO => ze (zd (zqF ?_)))
 have hO : Owns G3 w7 w0.heap.size [js b9 false, zaj b8 [] 0 0, zaj b6 [] 0 0] := hO
 refine zd (zZ (fun F w => ∃ Fb G u d i, F = qi Fb [(6, pV b6), (8, pV b8), (9, pV b9)] ∧ Gle G3 G ∧ Since w0.heap.size G0 w0 G w ∧ Owns G w w0.heap.size [js b9 (qI x p q), zaj b8 u d i, zaj b6 [] 0 0]) ?_ ?_)
 ·refine zd (zb (za (zu jZ (cs := xq x a n c) rfl rfl fun j v hj => hS.sat.cell (hc3 j v hj)) rfl ?_))
  refine zm rfl (zS zyt (zvV hS.sat) rfl rfl fun v G4 w8 hg hv => ze ?_)
  obtain ⟨bc, rfl, hcw⟩ := hv
  have hS := hS.grow hg
  have hO := hO.grow hg
  have h1 := h1.mono zx hg.le
  have hc3 := hc3.mono hg.le
  have hc4 := hc4.mono hg.le
  have hc5 := hc5.mono hg.le
  have hlen : ∀ w ∈ jp x x.Days.toNat 0 (2 ^ x.Days.toNat), w.length = x.Days.toNat := fun w hw => by
   obtain ⟨t, _, _, rfl, _⟩ := zcQ.1 hw
   exact vD _ _
  refine zp (zqE (fi := []) (ca := [pV bc]) (s := ()) (res := if (jp x x.Days.toNat 0 (2 ^ x.Days.toNat)).any (zbu x p q) = true then .inr () else .inl ()) (bd := fun w (_ : Unit) => if w.length = x.Days.toNat then (if zbu x p q w = true then some (.inr ()) else some (.inl ())) else none) zwK (zsv hcw h1 hx.dy hx.d1 hx.d4 hx.al) rfl (fun y => rfl) rfl (znP hlen)
   (fun _ _ L => L = [js b9 false, zaj b8 [] 0 0, zaj b6 [] 0 0]) (fun _ cd _ L => cd = .exit 0 ∧ ∃ u d i, L = [js b9 true, zaj b8 u d i, zaj b6 [] 0 0]) (fun _ _ _ _ _ h => h) hS hO rfl [0] ?_ ?_ ?_)
  ·rintro l y _ t G5 w9 L5 Lx le5 hS hO rfl hbd hres
   have hO : Owns G5 w9 w0.heap.size ([js b9 false, zaj b8 [] 0 0, zaj b6 [] 0 0] ++ Lx) := hO
   have hc3 := hc3.mono le5
   have hc4 := hc4.mono le5
   have hc5 := hc5.mono le5
   have h1 := h1.mono zx le5
   refine zb (za (zf (v := .string ⟨y.toArray⟩) rfl) rfl (ze ?_))
   intro w10 hfix
   have hS := hS.fix hfix
   have hO := hO.fix hfix
   have hyl : y.length = x.Days.toNat := by
    split at hbd
    ·assumption
    ·cases hbd
   rw [if_pos hyl] at hbd
   have hsys := hx.sys (a := a) (n := n) (c := c) hp hq 0 y
   refine zp (zd (zb (za (zu jZ (cs := xq x a n c) rfl rfl fun j v hj => hS.sat.cell (hc3 j v hj)) rfl (za (zu xH (cs := [iV p, iV q]) rfl rfl fun j v hj => hS.sat.cell (hc4 j v hj)) rfl (za (zo n3 rfl (hS.sat.cell (hc5 0 _ rfl))) rfl (za (zc (v := .string ⟨y.toArray⟩) rfl) rfl ?_))))))
   refine zm rfl (z9 (fi := []) (al := [zue (jf x a n c p q 0 y), .agg #[iV p, iV q], iV 0, .string ⟨y.toArray⟩]) (ca := []) ztS (zpz (S := jf x a n c p q 0 y) hS hO rfl rfl (by have := hsys.hold; omega) hx.st) rfl rfl rfl fun v G6 w11 L6 le6 hS hO hv => ?_)
   obtain ⟨br, rfl, rfl⟩ := hv
   have h1 := h1.mono zx le6
   refine zm rfl (z9 (fi := []) (al := [pV br]) (ca := []) zys (zvU (S := jf x a n c p q 0 y) (s0 := vG x q) (o := 0) hS hO h1 hsys hx.ls rfl (by decide) hx.dy (by have := hx.d4; omega) hyl (hx.bd hq)) rfl rfl rfl fun v G7 w12 L7 le7 hS hO hv => ?_)
   obtain ⟨rfl, dd, ii, rfl⟩ := hv
   rw [zs2]
   refine za (zc (v := .tuple #[.agg #[iV dd, iV ii], .bool (zbu x p q y)]) rfl) rfl (za (v := .agg #[iV dd, iV ii]) (zL (vs := #[.agg #[iV dd, iV ii], .bool (zbu x p q y)]) rfl rfl) rfl (za (v := .bool (zbu x p q y)) (zL (vs := #[.agg #[iV dd, iV ii], .bool (zbu x p q y)]) rfl rfl) rfl ?_))
   refine zm rfl (z7 (v := fun b => pV b) (cs := [iV 0, iV 0]) (e := 179) (by kernel_rfl) hS.sat hO rfl 2 1 rfl (by decide) fun b11 w13 hb hO => ?_)
   have hS := hS.keep hb
   refine zm rfl (zG (vs := [iV dd, iV ii]) zqP hS hO (k := 0) rfl rfl rfl rfl rfl (zU rfl) (nQl rfl) fun w14 hS hO => ?_)
   have hO : Owns G7 w14 w0.heap.size (rowAt b11 dd ii :: js b9 false :: zaj b8 [] 0 0 :: zaj b6 [] 0 0 :: Lx) := hO
   refine za (zf (v := .bool (zbu x p q y)) rfl) rfl (ze (zd (zb (za (zc (v := .bool (zbu x p q y)) rfl) rfl (ze (zV rfl (fun hb => ?_) (fun hb => zq ?_)))))))
   ·rw [if_pos hb] at hbd
    refine zd (zb (za (zc (v := .string ⟨y.toArray⟩) rfl) rfl (za (zk zus rfl) rfl (za (zo n3 rfl (zr hO (k := 0) rfl rfl)) rfl (za (zk zur rfl) rfl (za (zo n3 rfl (zr hO (k := 0) rfl rfl)) rfl (za (v := .agg #[.string ⟨y.toArray⟩, iV dd, iV ii]) (by kernel_rfl) rfl ?_)))))))
    refine zm rfl (zG (vs := [.string ⟨y.toArray⟩, iV dd, iV ii]) z61 hS hO (k := 2) rfl rfl rfl rfl rfl (zU rfl) (nQl rfl) fun w15 hS hO => ?_)
    refine zm rfl (zG (vs := [.bool true]) z4' hS hO (k := 1) rfl rfl rfl rfl rfl (zU rfl) (nQl rfl) fun w16 hS hO => ze (zW rfl ?_))
    exact ⟨(), (nQs hbd).symm, G7, _, le6.trans le7, hS, hO.drop 0, rfl, y, dd, ii, rfl⟩
   ·rw [if_neg (by rw [hb]; decide)] at hbd
    exact ⟨(), (nQs hbd).symm, G7, _, le6.trans le7, hS, hO.drop 0, rfl⟩
  ·rintro s' G5 w9 L5 hr le5 hS hO rfl
   have hff : qI x p q = false := by
    unfold qI
    cases hb : (jp x x.Days.toNat 0 (2 ^ x.Days.toNat)).any (zbu x p q) with
    | false => rfl
    | true => rw [hb] at hr; cases hr
   exact ⟨_, G5, [], 0, 0, zi _ _ ⟨rfl, rfl, rfl, trivial⟩, hg.le.trans le5, hS, by rw [hff]; exact hO⟩
  ·rintro qq cd G5 w9 L5 hr hcd le5 hS hO ⟨rfl, u, d, i, rfl⟩
   have hff : qI x p q = true := by
    unfold qI
    cases hb : (jp x x.Days.toNat 0 (2 ^ x.Days.toNat)).any (zbu x p q) with
    | true => rfl
    | false => rw [hb] at hr; cases hr
   refine zW rfl ?_
   exact ⟨_, G5, u, d, i, zi _ _ ⟨rfl, rfl, rfl, trivial⟩, hg.le.trans le5, hS, by rw [hff]; exact hO⟩
 rintro F w8 ⟨Fb, G4, u, d, i, rfl, le4, hS, hO⟩
 generalize qI x p q = fb at hO ⊢
 refine zd (zM qw (fun _ w => ∃ cs : List Value, Owns G4 w w0.heap.size [js b9 fb, zaj b8 u d i, ⟨61, 3, 1, .slice (some ⟨b6, 0, none⟩) 1 1, cs⟩]) (.fl 0 (.fl 1 (.on 2 (.on 3 .nil)))) (by kernel_rfl) rfl (by kernel_rfl) (fun _ => ⟨_, hO.below (zj _)⟩) ?_)
 have hS := hS.keep (zj w8)
 have hO := hO.below (zj w8)
 refine zh rfl (fun w ⟨cs, hw⟩ => zu zni (cs := [.string ⟨u.toArray⟩, iV d, iV i]) rfl rfl (qX hw (k := 1) rfl 0 3)) rfl (zh rfl (fun w ⟨cs, hw⟩ => zo n4 rfl (zr hw (k := 0) rfl rfl)) rfl ?_)
 refine zD rfl rfl (zG (vs := [.string ⟨u.toArray⟩, iV d, iV i]) z61 hS hO (k := 2) rfl rfl rfl rfl rfl (zU rfl) (nQl rfl) fun w9 hS hO => ⟨fun _ _ => ⟨_, hO⟩, ?_⟩)
 have hO : Owns G4 w9 w0.heap.size [js b9 fb, zaj b8 u d i, zaj b6 u d i] := hO
 refine zD rfl rfl (zY (zf (v := .bool fb) rfl) rfl ⟨fun _ h => zR (by kernel_rfl) h, qp (zF ?_)⟩)
 exact ⟨[.agg #[.string ⟨u.toArray⟩, iV d, iV i], .bool fb], ⟨⟨_, rfl, vi (cs := [.string ⟨u.toArray⟩, iV d, iV i]) zni rfl (qX hO (k := 2) rfl 0 3)⟩, rfl, trivial⟩, _, _, rfl, hS.toGrow, u, d, i, rfl⟩
theorem zyD : zJ Tryz.prog 26 = true := by kernel_rfl
theorem zyC : zJ Tryz.prog 27 = true := by kernel_rfl
theorem zyB : zJ Tryz.prog 29 = true := by kernel_rfl
theorem zyA : zJ Tryz.prog 30 = true := by kernel_rfl
theorem ztT : zJ Tryz.prog 37 = true := by kernel_rfl
theorem zy9 : szB Tryz.prog 88 = some 1 := by kernel_rfl
theorem zxt : naB Tryz.prog 88 = true := by kernel_rfl
theorem ztl : qx Tryz.prog 45 9 = some 9 := by kernel_rfl
theorem znS : qx Tryz.prog 45 10 = some 10 := by kernel_rfl
set_option maxHeartbeats 1000000 in
theorem zv8 {G0 : Gm} {w0 : World} (hS0 : Sat G0 w0) {bc : Nat} {x : zn} {a : Option Addr} {n c : Nat} (hc : Cells G0 bc 0 (xq x a n c)) (h1 : RSl zO 3 G0 a n c x.Loads) (hx : CellOk x) {p q : Int} (hp : 0 ≤ p ∧ p ≤ 12) (hq : 0 ≤ q ∧ q ≤ 8) :
  Calls Tryz.prog 30 ([] ++ [Value.agg #[iV p, iV q]] ++ [pV bc]).toArray w0 (qW w0 (.bool (!qI x p q))) := by
 have hS := Since.start hS0
 have hO : Owns G0 w0 w0.heap.size [] := Owns.nil (Nat.le_refl _)
 refine qb (N := 14) (yd _ _) Tryz.func30 rfl rfl rfl rfl (zd (zb ?_))
 refine zm rfl (zP (v := fun b => pV b) (cs := [iV p, iV q]) (e := 91) (qu rfl) hS.sat rfl fun b2 G1 w1 hg1 hc2 => ?_)
 have hS := hS.grow hg1
 have hO := hO.grow hg1
 refine za (zf (v := .bool false) rfl) rfl (ze (zd (zb ?_)))
 refine za (zu jZ (cs := xq x a n c) rfl rfl fun j v hj => hS.sat.cell ((hc.mono hg1.le) j v hj)) rfl (za (zu xH (cs := [iV p, iV q]) rfl rfl fun j v hj => hS.sat.cell (hc2 j v hj)) rfl ?_)
 refine zm rfl (zS ztW (zpC hS.sat (h1.mono zx hg1.le) hx hp hq) rfl rfl fun v G2 w2 hg2 hv => ?_)
 obtain ⟨u, d, i, rfl⟩ := hv
 have hS := hS.grow hg2
 have hO := hO.grow hg2
 refine za (zc (v := .tuple #[.agg #[.string ⟨u.toArray⟩, iV d, iV i], .bool (qI x p q)]) rfl) rfl (za (v := .agg #[.string ⟨u.toArray⟩, iV d, iV i]) (zL (vs := #[.agg #[.string ⟨u.toArray⟩, iV d, iV i], .bool (qI x p q)]) rfl rfl) rfl (za (v := .bool (qI x p q)) (zL (vs := #[.agg #[.string ⟨u.toArray⟩, iV d, iV i], .bool (qI x p q)]) rfl rfl) rfl ?_))
 refine zm rfl (z7 (v := fun b => pV b) (cs := [.string ⟨#[]⟩, iV 0, iV 0]) (e := 61) (by kernel_rfl) hS.sat hO rfl 3 1 rfl (by decide) fun b4 w4 hb hO => ?_)
 have hS := hS.keep hb
 refine zm rfl (zG (vs := [.string ⟨u.toArray⟩, iV d, iV i]) z61 hS hO (k := 0) rfl rfl rfl rfl rfl (zU rfl) (nQl rfl) fun w5 hS hO => ?_)
 refine za (zf (v := .bool (qI x p q)) rfl) rfl (ze (zd (zb (za (zc (v := .bool (qI x p q)) rfl) rfl (za (qE (b := qI x p q) rfl) rfl (za (zf (v := .bool (!qI x p q)) rfl) rfl (ze (zF ?_))))))))
 exact ⟨rfl, hS.below⟩
def keyC (x : zn) (s : Int × Int) : Int := s.1 * x.Panel + s.2 * x.Battery
def stN (i : Nat) : Int × Int := (((i / 9 : Nat) : Int), ((i % 9 : Nat) : Int))
def stL (m : Nat) : List (Int × Int) := (List.range m).map stN
theorem zce (m : Nat) : (stL m).length = m := by simp [stL]
theorem zh4 (m : Nat) : stL (m + 1) = stL m ++ [stN m] := by simp [stL, List.range_succ]
theorem zd3 {s : Int × Int} : s ∈ stL 117 ↔ 0 ≤ s.1 ∧ s.1 ≤ 12 ∧ 0 ≤ s.2 ∧ s.2 ≤ 8 := by
 simp only [stL, List.mem_map, List.mem_range]
 constructor
 ·rintro ⟨i, hi, rfl⟩
  unfold stN
  simp only
  omega
 ·rintro ⟨h1, h2, h3, h4⟩
  refine ⟨s.1.toNat * 9 + s.2.toNat, by omega, ?_⟩
  unfold stN
  ext <;> simp only <;> omega
theorem zir {K V : Type} [BEq K] [LawfulBEq K] (k : K) (v : V) : ∀ M : List (K × V), ju (updM M k v) k = some v
 | [] => by simp [updM, ju]
 | (k', v') :: l => by
  unfold updM
  split
  ·simp [ju]
  ·rename_i h; simp [ju, h, zir k v l]
theorem zeT {K V : Type} [BEq K] [LawfulBEq K] {k k2 : K} (v : V) (hne : k2 ≠ k) : ∀ M : List (K × V), ju (updM M k v) k2 = ju M k2
 | [] => by simp [updM, ju, hne]
 | (k', v') :: l => by
  unfold updM
  split
  ·rename_i h
   have : k = k' := by simpa using h
   subst this
   simp [ju, hne]
  ·simp only [ju]
   split
   ·rfl
   ·exact zeT v hne l
structure CostOk (x : zn) : Prop where
 pn : 0 ≤ x.Panel ∧ x.Panel ≤ 1000000
 bt : 0 ≤ x.Battery ∧ x.Battery ≤ 1000000
theorem CostOk.mul {x : zn} (h : CostOk x) {s : Int × Int} (h1 : 0 ≤ s.1 ∧ s.1 ≤ 12) (h2 : 0 ≤ s.2 ∧ s.2 ≤ 8) : (0 ≤ s.1 * x.Panel ∧ s.1 * x.Panel ≤ 12000000) ∧ 0 ≤ s.2 * x.Battery ∧ s.2 * x.Battery ≤ 8000000 := by
 have a1 := Int.mul_nonneg h1.1 h.pn.1
 have a2 := Int.mul_le_mul h1.2 h.pn.2 h.pn.1 (by decide)
 have b1 := Int.mul_nonneg h2.1 h.bt.1
 have b2 := Int.mul_le_mul h2.2 h.bt.2 h.bt.1 (by decide)
 exact ⟨⟨a1, by omega⟩, b1, by omega⟩
theorem zmh : One RSt := fun _ _ _ h u hu => by
 cases h
 rcases List.mem_cons.1 hu with rfl | hu
 ·rfl
 ·obtain rfl := List.mem_singleton.1 hu; rfl
abbrev zid (rm : Nat) (M : List ((Int × Int) × Int)) : Row := ⟨3, 2, M.length, .map (some rm), kvs zaG vIs M⟩
def MOk (x : zn) (M : List ((Int × Int) × Int)) (m : Nat) : Prop := ∀ s ∈ stL m, ju M s = some (keyC x s)
def zy8 (x : zn) (v : Value) : Prop :=
 (∃ s : Int × Int, s ∈ stL 117 ∧ v = .tuple #[iV s.1, iV s.2, iV (keyC x s), iV 0] ∧ qI x s.1 s.2 = false ∧ ∀ t ∈ stL 117, qI x t.1 t.2 = false → keyC x s ≤ keyC x t) ∨ (v = .tuple #[iV 0, iV 0, iV 0, iV 5] ∧ ∀ t ∈ stL 117, qI x t.1 t.2 = true)
set_option maxHeartbeats 4000000 in
theorem zx3 {G0 : Gm} {w0 : World} (hS0 : Sat G0 w0) {x : zn} {a : Option Addr} {n c : Nat} (h1 : RSl zO 3 G0 a n c x.Loads) (hx : CellOk x) (hcost : CostOk x) (h26 : f26 x = some true) :
  Calls Tryz.prog 7 [.agg (xq x a n c).toArray].toArray w0 (yL G0 w0 fun _ v => zy8 x v) := by
 have hS := Since.start hS0
 have hO : Owns G0 w0 w0.heap.size [] := Owns.nil (Nat.le_refl _)
 refine zdo (N := 61) (xZ _ _ _) [.tmp 2, .tmp 3, .tmp 4, .tmp 5] Tryz.func7 rfl rfl rfl rfl (zd (zb ?_))
 refine zm rfl (zP (v := fun b => pV b) (cs := xq x a n c) (e := 45) (qu rfl) hS.sat rfl fun b1 G1 w1 hg1 hc1 => ?_)
 have hS := hS.grow hg1
 have hO := hO.grow hg1
 have h1 := h1.mono zx hg1.le
 refine za (zf (v := iV 0) rfl) rfl (za (zf (v := iV 0) rfl) rfl (za (zf (v := iV 0) rfl) rfl (za (zf (v := iV 0) rfl) rfl (ze (zd (zd (zb ?_)))))))
 refine za (zu jZ (cs := xq x a n c) rfl rfl fun j v hj => hS.sat.cell (hc1 j v hj)) rfl ?_
 refine zm rfl (zy zyD (zkr hS.sat h1 h26) rfl rfl fun w2 hb => ?_)
 have hS := hS.keep hb
 have hO := hO.below hb
 refine za (qE (b := true) rfl) rfl (ze (zH false rfl rfl (zq (zd (zb ?_)))))
 refine zm rfl (zju (e := 3) hS hO rfl fun rm w3 hS hO => ?_)
 refine zm rfl (z7 (v := fun b => pV b) (cs := [.map none]) (e := 88) (by kernel_rfl) hS.sat hO rfl 1 1 rfl (by decide) fun b6 w4 hb hO => ?_)
 have hS := hS.keep hb
 refine zm rfl (zG (vs := [.map (some rm)]) zy9 hS hO (k := 0) rfl rfl rfl rfl rfl (zU rfl) (nQl rfl) fun w5 hS hO => ze ?_)
 have hO : Owns G1 w5 w0.heap.size [⟨88, 1, 1, .slice (some ⟨b6, 0, none⟩) 1 1, [.map (some rm)]⟩, zid rm []] := hO
 obtain ⟨G2, le2, hS, hO, hfz, _⟩ := hO.freeze hS (k := 0) rfl
 have hc6 : Cells G2 b6 0 [.map (some rm)] := hfz b6 0 1 1 rfl
 have hO : Owns G2 w5 w0.heap.size [zid rm []] := hO
 have h1 := h1.mono zx le2
 have hc1 := hc1.mono le2
 refine zd (zb (za (zf (v := .slice none 0 0) rfl) rfl (ze ?_)))
 let J : Nat → Nat → List (Nat × Value) → Fr → World → Prop := fun m e X F w => ∃ Fb G a c cells M, F = qi Fb ([(1, pV b1), (6, pV b6), (7, .slice a m c)] ++ X) ∧ Gle G2 G ∧ Since w0.heap.size G0 w0 G w ∧ Owns G w w0.heap.size [rowS a m c cells, zid rm M] ∧ Rd RSt 2 G cells (stL m) ∧ MOk x M m
 have hO := hO.cons_nil 91 2
 refine zd (zZ (J 117 0 []) ?_ ?_)
 ·refine zd (zb (za (zc (v := iV 0) rfl) rfl (ze ?_)))
  refine zp (qh (qN 13 (fun p => J (9 * p) 0 [(17, iV (p : Int))]) ?_ ?_ 13 0 _ _ (by omega) ⟨_, G2, none, 0, [], [], zi _ _ ⟨rfl, rfl, rfl, rfl, trivial⟩, Gle.refl _, hS, hO, Rd.nil _ _ _, fun s hs => by cases hs⟩))
  ·rintro p F w hp ⟨Fb, G, a2, c2, cells, M, rfl, le, hS, hO, hr, hM⟩
   refine zd (zb (za (zN rfl rfl) rfl (ze (zd (zQ (decide ((p : Int) < 13)) (decide_eq_true (by omega)) rfl (zq ?_))))))
   refine zd (zZ (J (9 * (p + 1)) 0 [(17, iV (p : Int))]) ?_ ?_)
   ·refine zp (zd (zb (za (zc (v := iV (p : Int)) rfl) rfl (za (zf (v := iV (p : Int)) rfl) rfl (ze ?_)))))
    refine zd (zb (za (zc (v := iV 0) rfl) rfl (ze ?_)))
    refine zp (qh (qN 9 (fun b => J (9 * p + b) 0 [(8, iV (p : Int)), (17, iV (p : Int)), (20, iV (b : Int))]) ?_ ?_ 9 0 _ _ (by omega) ⟨_, G, a2, c2, cells, M, zi _ _ ⟨rfl, rfl, rfl, rfl, rfl, rfl, trivial⟩, le, hS, hO, hr, hM⟩))
    ·rintro b F w hb ⟨Fb, G, a2, c2, cells, M, rfl, le, hS, hO, hr, hM⟩
     have hsp : stN (9 * p + b) = ((p : Int), (b : Int)) := by unfold stN; rw [show (9 * p + b) / 9 = p by omega, show (9 * p + b) % 9 = b by omega]
     obtain ⟨⟨m1, m2⟩, m3, m4⟩ := hcost.mul (s := ((p : Int), (b : Int))) (by simp only; omega) (by simp only; omega)
     simp only at m1 m2 m3 m4
     have w1 : IntKind.i64.wrap ((p : Int) * x.Panel) = (p : Int) * x.Panel := qt ⟨by omega, by omega⟩
     have w2 : IntKind.i64.wrap ((b : Int) * x.Battery) = (b : Int) * x.Battery := qt ⟨by omega, by omega⟩
     have w3 : IntKind.i64.wrap ((p : Int) * x.Panel + (b : Int) * x.Battery) = (p : Int) * x.Panel + (b : Int) * x.Battery := qt ⟨by omega, by omega⟩
     refine zd (zb (za (zN rfl rfl) rfl (ze (zd (zQ (decide ((b : Int) < 9)) (decide_eq_true (by omega)) rfl (zq ?_))))))
     refine zd (zZ (J (9 * p + (b + 1)) 0 [(8, iV (p : Int)), (17, iV (p : Int)), (20, iV (b : Int))]) ?_ ?_)
     ·refine zp (zd (zb (za (zc (v := iV (b : Int)) rfl) rfl (za (zf (v := iV (b : Int)) rfl) rfl (ze ?_)))))
      refine zd (zb (za (zc (v := iV (p : Int)) rfl) rfl (za (zc (v := iV (b : Int)) rfl) rfl (za (v := .agg #[iV (p : Int), iV (b : Int)]) (by kernel_rfl) rfl ?_))))
      refine zm rfl (z7 (v := fun b => pV b) (cs := [iV 0, iV 0]) (e := 91) (by kernel_rfl) hS.sat hO rfl 2 1 rfl (by decide) fun b10 w6 hb2 hO => ?_)
      have hS := hS.keep hb2
      refine zm rfl (zG (vs := [iV (p : Int), iV (b : Int)]) zbq hS hO (k := 0) rfl rfl rfl rfl rfl (yt rfl rfl) (nQl rfl) fun w7 hS hO => ze ?_)
      have hO : Owns G w7 w0.heap.size [jT b10 (p : Int) (b : Int), rowS a2 (9 * p + b) c2 cells, zid rm M] := hO
      have hc1 := hc1.mono le
      have hc6 := hc6.mono le
      refine zd (zb (za (zo zxt rfl (hS.sat.cell (hc6 0 _ rfl))) rfl (za (zu xH (cs := [iV (p : Int), iV (b : Int)]) rfl rfl (qX hO (k := 0) rfl 0 2)) rfl (za (zc (v := iV (p : Int)) rfl) rfl (za (zk ztl rfl) rfl (za (zo n3 rfl (hS.sat.cell (hc1 9 _ rfl))) rfl (za (vH rfl rfl) rfl ?_)))))))
      rw [w1]
      refine za (zc (v := iV (b : Int)) rfl) rfl (za (zk znS rfl) rfl (za (zo n3 rfl (hS.sat.cell (hc1 10 _ rfl))) rfl (za (vH rfl rfl) rfl ?_)))
      rw [w2]
      refine za (jz rfl rfl) rfl ?_
      rw [w3]
      refine zm rfl (zfW zqS zhs (vv := vIs) (a := ((p : Int), (b : Int))) (v := (p : Int) * x.Panel + (b : Int) * x.Battery) hS hO (k := 2) rfl rfl rfl rfl rfl fun w8 hS hO => ze ?_)
      have hO : Owns G w8 w0.heap.size [jT b10 (p : Int) (b : Int), rowS a2 (9 * p + b) c2 cells, zid rm (updM M ((p : Int), (b : Int)) ((p : Int) * x.Panel + (b : Int) * x.Battery))] := hO
      refine zb (za (zc (v := .slice a2 (9 * p + b) c2) rfl) rfl (za (zu xH (cs := [iV (p : Int), iV (b : Int)]) rfl rfl (qX hO (k := 0) rfl 0 2)) rfl ?_))
      refine zm rfl (zP (v := fun b => .slice (some ⟨b, 0, none⟩) 1 1) (cs := [iV (p : Int), iV (b : Int)]) (e := 91) (by kernel_rfl) hS.sat rfl fun bb G4 w9 hg hcb => ?_)
      have hS := hS.grow hg
      have hO := hO.grow hg
      have hr := hr.mono za0 hg.le
      have hsl : RSl RSt 2 G4 (some ⟨bb, 0, none⟩) 1 1 [((p : Int), (b : Int))] := RSl.of_rd hcb (Rd.cons (c := [iV (p : Int), iV (b : Int)]) rfl rfl (Rd.nil RSt 2 _)) rfl (show 1 ≤ maxLen by decide)
      refine zm rfl (yc (R := RSt) (k := 1) (xs := stL (9 * p + b)) (ys := [((p : Int), (b : Int))]) (zs := stL (9 * p + b) ++ [((p : Int), (b : Int))]) jr zmh hS hO rfl (zce _).symm hr hsl (kX _ _ (by rw [zce]; simp; omega)) rfl rfl rfl rfl rfl fun a5 c5 w10 cells5 hS hO hr => ?_)
      refine za (zf rfl) rfl (ze ?_)
      have e1 : stL (9 * p + b) ++ [((p : Int), (b : Int))] = stL (9 * p + (b + 1)) := by rw [← Nat.add_assoc, zh4, hsp]
      rw [e1] at hr hO
      have e2 := zce (9 * p + (b + 1))
      rw [e2] at hO
      refine ⟨_, G4, a5, c5, cells5, _, zi _ _ ⟨rfl, rfl, by show Value.slice _ _ _ = _; rw [e1, e2], rfl, rfl, rfl, trivial⟩, le.trans hg.le, hS, hO.drop 0, hr, fun s hs => ?_⟩
      by_cases hse : s = ((p : Int), (b : Int))
      ·subst hse; exact zir _ _ _
      ·rw [zeT _ hse]
       rw [← Nat.add_assoc, zh4, hsp, List.mem_append, List.mem_singleton] at hs
       exact hM s (hs.resolve_right hse)
     ·rintro F w ⟨Fb, G, a2, c2, cells, M, rfl, le, hS, hO, hr, hM⟩
      refine zb (za (v := iV ((b + 1 : Nat) : Int)) (zX (m := b) (n := 1) rfl rfl (by omega)) rfl (za (zc (v := iV ((b + 1 : Nat) : Int)) rfl) rfl (ze ?_)))
      exact ⟨_, G, a2, c2, cells, M, zi _ _ ⟨rfl, rfl, rfl, rfl, rfl, rfl, trivial⟩, le, hS, hO, hr, hM⟩
    ·rintro F w ⟨Fb, G, a2, c2, cells, M, rfl, le, hS, hO, hr, hM⟩
     refine qg (zd (zb (za (zN rfl rfl) rfl (ze (zd (zH (decide (((9 : Nat) : Int) < 9)) (decide_eq_false (by omega)) rfl (zW rfl ?_)))))))
     exact ⟨_, G, a2, c2, cells, M, zi _ _ ⟨rfl, rfl, rfl, rfl, trivial⟩, le, hS, hO, hr, hM⟩
   ·rintro F w ⟨Fb, G, a2, c2, cells, M, rfl, le, hS, hO, hr, hM⟩
    refine zb (za (v := iV ((p + 1 : Nat) : Int)) (zX (m := p) (n := 1) rfl rfl (by omega)) rfl (za (zc (v := iV ((p + 1 : Nat) : Int)) rfl) rfl (ze ?_)))
    exact ⟨_, G, a2, c2, cells, M, zi _ _ ⟨rfl, rfl, rfl, rfl, trivial⟩, le, hS, hO, hr, hM⟩
  ·rintro F w ⟨Fb, G, a2, c2, cells, M, rfl, le, hS, hO, hr, hM⟩
   refine qg (zd (zb (za (zN rfl rfl) rfl (ze (zd (zH (decide (((13 : Nat) : Int) < 13)) (decide_eq_false (by omega)) rfl (zW rfl ?_)))))))
   exact ⟨_, G, a2, c2, cells, M, zi _ _ ⟨rfl, rfl, rfl, trivial⟩, le, hS, hO, hr, hM⟩
 rintro F w ⟨Fb, G, a2, c2, cells, M, rfl, le, hS, hO, hr, hM⟩
 have hc1 := hc1.mono le
 have hc6 := hc6.mono le
 have h1 := h1.mono zx le
 have hkey : ∀ s ∈ stL 117, ju M s = some (keyC x s) ∧ 0 ≤ keyC x s ∧ keyC x s ≤ 1000000000 := fun s hs => by
  obtain ⟨k1, k2, k3, k4⟩ := zd3.1 hs
  obtain ⟨⟨m1, m2⟩, m3, m4⟩ := hcost.mul (s := s) ⟨k1, k2⟩ ⟨k3, k4⟩
  refine ⟨hM s hs, ?_, ?_⟩ <;> unfold keyC <;> omega
 refine zd (zb (za (zc (v := .slice a2 117 c2) rfl) rfl (za (v := .func (.func 28) #[] #[pV b6]) (yu (vs := []) (us := [pV b6]) rfl rfl) rfl ?_)))
 refine zm rfl (z9 (fi := []) (al := [.slice a2 117 c2, .func (.func 28) #[] #[pV b6]]) (ca := []) zyC (zwb (ca := [pV b6]) hS hO hr (zce 117).symm (zyg (k := 0) hc6 rfl hkey)) rfl rfl rfl fun v G3 w3 L3 le3 hS hO hv => ze ?_)
 obtain ⟨cells3, E, rfl, hr3, hsr, hperm⟩ := hv
 have hEl : 117 = E.length := by rw [hperm.length_eq]; exact (zce 117).symm
 obtain ⟨G4, le4, hS, hO, hsl⟩ := hO.freezeS hS za0 (k := 0) rfl hr3 hEl
 have hO : Owns G4 w3 w0.heap.size [zid rm M] := hO
 have hc1 := hc1.mono (le3.trans le4)
 have hc6 := hc6.mono (le3.trans le4)
 have h1 := h1.mono zx (le3.trans le4)
 refine zd (zb (za (zc (v := .slice a2 117 c2) rfl) rfl (za (v := .func (.func 30) #[] #[pV b1]) (yu (vs := []) (us := [pV b1]) rfl rfl) rfl ?_)))
 refine zm rfl (zy zyB (zv9 (ca := [pV b1]) (p := fun s => !qI x s.1 s.2) hS.sat hsl (by decide) zyA fun w hb s hs => by
  obtain ⟨k1, k2, k3, k4⟩ := zd3.1 (hperm.mem_iff.1 hs)
  exact zv8 (hS.keep hb).sat hc1 h1 hx ⟨k1, k2⟩ ⟨k3, k4⟩) rfl rfl fun w4 hb => ?_)
 have hS := hS.keep hb
 have hO := hO.below hb
 cases hf : E.find? (fun s => !qI x s.1 s.2) with
 | none =>
  have hV : vV (fun s => !qI x s.1 s.2) E = .tuple #[.agg #[iV 0, iV 0], .bool false] := by unfold vV; rw [hf]
  rw [hV]
  refine za (zc (v := .tuple #[.agg #[iV 0, iV 0], .bool false]) rfl) rfl (za (v := .agg #[iV 0, iV 0]) (zL (vs := #[.agg #[iV 0, iV 0], .bool false]) rfl rfl) rfl (za (v := .bool false) (zL (vs := #[.agg #[iV 0, iV 0], .bool false]) rfl rfl) rfl ?_))
  refine zm rfl (z7 (v := fun b => pV b) (cs := [iV 0, iV 0]) (e := 91) (by kernel_rfl) hS.sat hO rfl 2 1 rfl (by decide) fun b11 w6 hb2 hO => ?_)
  have hS := hS.keep hb2
  refine zm rfl (zG (vs := [iV 0, iV 0]) zbq hS hO (k := 0) rfl rfl rfl rfl rfl (yt rfl rfl) (nQl rfl) fun w7 hS hO => ?_)
  refine za (zf (v := .bool false) rfl) rfl (ze (zd (zd (zb (za (zc (v := .bool false) rfl) rfl (za (qE (b := false) rfl) rfl (ze (zQ true rfl rfl ?_))))))))
  refine zd (zb (za (zf (v := iV 0) rfl) rfl (za (zf (v := iV 0) rfl) rfl (za (zf (v := iV 0) rfl) rfl (za (zf (v := iV 5) rfl) rfl (ze (zF ?_)))))))
  refine ⟨[iV 0, iV 0, iV 0, iV 5], ⟨rfl, rfl, rfl, rfl, trivial⟩, _, G4, rfl, hS.toGrow, .inr ⟨rfl, fun t ht => ?_⟩⟩
  have := zng hperm hf t ht
  simpa using this
 | some s =>
  obtain ⟨q1, q2, q3⟩ := znf hsr hEl.symm hperm hf
  have hV : vV (fun s => !qI x s.1 s.2) E = .tuple #[.agg #[iV s.1, iV s.2], .bool true] := by unfold vV; rw [hf]
  rw [hV]
  refine za (zc (v := .tuple #[.agg #[iV s.1, iV s.2], .bool true]) rfl) rfl (za (v := .agg #[iV s.1, iV s.2]) (zL (vs := #[.agg #[iV s.1, iV s.2], .bool true]) rfl rfl) rfl (za (v := .bool true) (zL (vs := #[.agg #[iV s.1, iV s.2], .bool true]) rfl rfl) rfl ?_))
  refine zm rfl (z7 (v := fun b => pV b) (cs := [iV 0, iV 0]) (e := 91) (by kernel_rfl) hS.sat hO rfl 2 1 rfl (by decide) fun b11 w6 hb2 hO => ?_)
  have hS := hS.keep hb2
  refine zm rfl (zG (vs := [iV s.1, iV s.2]) zbq hS hO (k := 0) rfl rfl rfl rfl rfl (yt rfl rfl) (nQl rfl) fun w7 hS hO => ?_)
  have hO : Owns G4 w7 w0.heap.size [jT b11 s.1 s.2, zid rm M] := hO
  refine za (zf (v := .bool true) rfl) rfl (ze (zd (zd (zb (za (zc (v := .bool true) rfl) rfl (za (qE (b := true) rfl) rfl (ze (zH false rfl rfl (zq (zd ?_))))))))))
  refine zM qw (fun _ w => Sat G4 w ∧ Owns G4 w w0.heap.size [jT b11 s.1 s.2, zid rm M]) (.fl 0 (.fl 1 (.fl 2 (.fl 3 (.fl 4 (.fl 5 (.fl 6 (.fl 7 (.fl 8 (.fl 9 (.fl 10 .nil))))))))))) (by kernel_rfl) rfl (by kernel_rfl) (fun _ => ⟨(hS.keep (zj _)).sat, hO.below (zj _)⟩) ?_
  have hS := hS.keep (zj w7)
  refine zh rfl (fun w hw => zk zn0 rfl) rfl (zh rfl (fun w hw => zo n3 rfl (zr hw.2 (k := 0) rfl rfl)) rfl (zh rfl (fun w hw => zk znZ rfl) rfl (zh rfl (fun w hw => zo n3 rfl (zr hw.2 (k := 0) rfl rfl)) rfl ?_)))
  refine zh rfl (fun w hw => zo zxt rfl (hw.1.cell (hc6 0 _ rfl))) rfl (zh rfl (fun w hw => zu xH (cs := [iV s.1, iV s.2]) rfl rfl (qX hw.2 (k := 0) rfl 0 2)) rfl (zh (v := iV (keyC x s)) rfl (fun w hw => (zc3 (a := s) (z := (0 : Int)) (vv := vIs) zqS zhs zt7 hw.2 (k := 1) rfl rfl rfl).trans (by rw [hM s q1]; rfl)) rfl ?_))
  refine zh rfl (fun w hw => zf (v := iV s.1) rfl) rfl (zh rfl (fun w hw => zf (v := iV s.2) rfl) rfl (zh rfl (fun w hw => zf (v := iV (keyC x s)) rfl) rfl (zh rfl (fun w hw => zf (v := iV 0) rfl) rfl (qp (zF ?_)))))
  refine ⟨[iV s.1, iV s.2, iV (keyC x s), iV 0], ⟨rfl, rfl, rfl, rfl, trivial⟩, _, G4, rfl, hS.toGrow, .inl ⟨s, q1, rfl, by simpa using q2, fun t ht hft => q3 t ht (by rw [hft]; rfl)⟩⟩
theorem zsO {P : Program} {N : Nat} {w : World} {f : FuncId} {fn : Func} {c : Code} {al : List Value} {R : Ending → World → Prop} (hR : zdv w.heap.size R) (rs : List ResultVar) (hf : P.funcs[f]? = some fn) (hb : fn.body = some c) (hr : fn.results = rs.toArray) (hn : fn.ntmps = N) (hN : Nat.ble al.length N = true)
  (h : WCf f ⟨none, none, w.heap.size, false, []⟩ P N c ⟨fun F w' => ∃ vs, ResOk P F w' rs vs ∧ R (.returned (resOf vs)) w', fun F w' => ∃ vs, ResOk P F w' rs vs ∧ R (.returned (resOf vs)) w', [], fun ch _ w' => R (.panicked ch) w'⟩ (kJ al) w) : Calls P f al.toArray w R :=
 ziY _ _ hf hb hn hN (fun _ _ _ ⟨_, h1, h2⟩ hs _ => ⟨_, zaw hr (h1.shut hs), hR.out _ _ _ h2 hs⟩) (fun _ _ _ _ h1 h2 _ => hR.out _ _ _ h1 h2) h
theorem zyw : zJ Tryz.prog 38 = true := by kernel_rfl
theorem zmq : slB Tryz.prog 65 = some (71, 2, 16) := by kernel_rfl
theorem zxu : naB Tryz.prog 65 = true := by kernel_rfl
theorem zza : szB Tryz.prog 65 = some 1 := by kernel_rfl
theorem zwY : szB Tryz.prog 67 = some 6 := by kernel_rfl
theorem zt4 : agB Tryz.prog 67 = some 6 := by kernel_rfl
theorem zt3 : agB Tryz.prog 71 = some 2 := by kernel_rfl
theorem zxf : qx Tryz.prog 67 5 = some 5 := by kernel_rfl
abbrev zg3 (b : Nat) (v : Value) : Row := ⟨65, 1, 1, .slice (some ⟨b, 0, none⟩) 1 1, [v]⟩
abbrev zg2 (a : Option Addr) (n c : Nat) (cells : List Value) : Row := ⟨71, 2, n, .slice a n c, cells⟩
abbrev zg5 (b : Nat) (l0 l1 l2 l3 l4 l5 : Int) : Row := ⟨67, 6, 1, .slice (some ⟨b, 0, none⟩) 1 1, [iV l0, iV l1, iV l2, iV l3, iV l4, iV l5]⟩
def zfn (x : zn) (p q : Int) (w : List UInt8) (m : Nat) : List (Int × Int) := (List.range m).map fun k => ((stK (jf x none 0 0 p q 0 w) x.Loads 0 (vG x q) (k + 1)).en, (stK (jf x none 0 0 p q 0 w) x.Loads 0 (vG x q) (k + 1)).ca)
theorem zcK (x : zn) (p q : Int) (w : List UInt8) (m : Nat) : (zfn x p q w m).length = m := by simp [zfn]
theorem zm8 (x : zn) (p q : Int) (w : List UInt8) (m : Nat) : zfn x p q w (m + 1) = zfn x p q w m ++ [((stK (jf x none 0 0 p q 0 w) x.Loads 0 (vG x q) (m + 1)).en, (stK (jf x none 0 0 p q 0 w) x.Loads 0 (vG x q) (m + 1)).ca)] := by simp [zfn, List.range_succ]
def zy7 (x : zn) (p q : Int) (w : List UInt8) (G : Gm) (v : Value) : Prop := ∃ (a : Option Addr) (c : Nat) (l0 l1 l2 l3 l4 l5 : Int), v = .tuple #[.slice a x.Days.toNat c, .agg #[iV l0, iV l1, iV l2, iV l3, iV l4, iV l5], iV 0] ∧ RSl RSt 2 G a x.Days.toNat c (zfn x p q w x.Days.toNat)
set_option maxHeartbeats 4000000 in
theorem zwg {G0 : Gm} {w0 : World} (hS0 : Sat G0 w0) {x : zn} {a : Option Addr} {n c : Nat} {y : List UInt8} (h1 : RSl zO 3 G0 a n c x.Loads) (hx : CellOk x) {p q : Int} (hp : 0 ≤ p ∧ p ≤ 12) (hq : 0 ≤ q ∧ q ≤ 8) (H : f37 x ⟨p, q⟩ 0 = some true) (H2 : f38 y x.Days [115, 99] = some true) (hyl : y.length = x.Days.toNat) :
  Calls Tryz.prog 14 [.agg (xq x a n c).toArray, iV p, iV q, iV 0, .string ⟨y.toArray⟩].toArray w0 (yL G0 w0 fun G v => zy7 x p q y G v) := by
 have hS := Since.start hS0
 have hO : Owns G0 w0 w0.heap.size [] := Owns.nil (Nat.le_refl _)
 refine zsO (N := 60) (xZ _ _ _) [.tmp 10, .cell 11 67, .tmp 12] Tryz.func14 rfl rfl rfl rfl (kq (zae (zb ?_)))
 refine zm rfl (zP (v := fun b => pV b) (cs := xq x a n c) (e := 45) (qu rfl) hS.sat rfl fun b5 G1 w1 hg1 hc5 => ?_)
 have hS := hS.grow hg1
 have hO := hO.grow hg1
 have h1 := h1.mono zx hg1.le
 refine za (zf (v := .slice none 0 0) rfl) rfl ?_
 refine zm rfl (z7 (v := fun b => pV b) (cs := [iV 0, iV 0, iV 0, iV 0, iV 0, iV 0]) (e := 67) (by kernel_rfl) hS.sat hO rfl 6 1 rfl (by decide) fun b11 w2 hb hO => ?_)
 have hS := hS.keep hb
 refine za (zf (v := iV 0) rfl) rfl (ze (kq (zae (zb (za (zc (v := iV p) rfl) rfl (za (zc (v := iV q) rfl) rfl (za (v := .agg #[iV p, iV q]) (by kernel_rfl) rfl ?_)))))))
 refine zm rfl (z7 (v := fun b => pV b) (cs := [iV 0, iV 0]) (e := 91) (by kernel_rfl) hS.sat hO rfl 2 1 rfl (by decide) fun b13 w3 hb hO => ?_)
 have hS := hS.keep hb
 refine zm rfl (zG (vs := [iV p, iV q]) zbq hS hO (k := 0) rfl rfl rfl rfl rfl (yt rfl rfl) (nQl rfl) fun w4 hS hO => ze (kq (zae (zd (zb ?_)))))
 have hO : Owns G1 w4 w0.heap.size [jT b13 p q, zg5 b11 0 0 0 0 0 0] := hO
 refine za (zu jZ (cs := xq x a n c) rfl rfl fun j v hj => hS.sat.cell (hc5 j v hj)) rfl (za (zu xH (cs := [iV p, iV q]) rfl rfl (qX hO (k := 0) rfl 0 2)) rfl (za (zc (v := iV 0) rfl) rfl ?_))
 refine zm rfl (zy ztT (zpB (x1 := ⟨p, q⟩) hS.sat h1 H) rfl rfl fun w5 hb => ?_)
 have hS := hS.keep hb
 have hO := hO.below hb
 refine za (qE (b := true) rfl) rfl (za (zc (v := .bool false) rfl) rfl ?_)
 refine zl rfl rfl rfl rfl (za (zc (v := .string ⟨y.toArray⟩) rfl) rfl ?_)
 refine zl rfl rfl rfl rfl (za (zk zf7 rfl) rfl ?_)
 refine zl rfl rfl rfl rfl (za (zo n3 rfl (hS.sat.cell (hc5 6 _ rfl))) rfl ?_)
 refine zl rfl rfl rfl rfl (zm rfl (zy zyw (zv3 hS.sat H2) rfl rfl fun w6 hb => ?_))
 have hS := hS.keep hb
 have hO := hO.below hb
 refine zl rfl rfl rfl rfl (za (qE (b := true) rfl) rfl ?_)
 refine za (xc (v := .bool false) rfl rfl rfl) rfl (ze (zH false rfl rfl (zq (kq (zae (zb ?_))))))
 refine za (zu jZ (cs := xq x a n c) rfl rfl fun j v hj => hS.sat.cell (hc5 j v hj)) rfl (za (zu xH (cs := [iV p, iV q]) rfl rfl (qX hO (k := 0) rfl 0 2)) rfl (za (zc (v := iV 0) rfl) rfl (za (zc (v := .string ⟨y.toArray⟩) rfl) rfl ?_)))
 have hsys := hx.sys (a := a) (n := n) (c := c) hp hq 0 y
 refine zm rfl (z9 (fi := []) (al := [zue (jf x a n c p q 0 y), .agg #[iV p, iV q], iV 0, .string ⟨y.toArray⟩]) (ca := []) ztS (zpz (S := jf x a n c p q 0 y) hS hO rfl rfl (by have := hsys.hold; omega) hx.st) rfl rfl rfl fun v G6 w11 L6 le6 hS hO hv => ?_)
 obtain ⟨br, rfl, rfl⟩ := hv
 have h1 := h1.mono zx le6
 refine za (zf (v := pV br) rfl) rfl (ze (kq (zae (zb ?_))))
 refine zm rfl (z7 (v := fun b => pV b) (cs := [.slice none 0 0]) (e := 65) (by kernel_rfl) hS.sat hO rfl 1 1 rfl (by decide) fun b15 w12 hb hO => ze ?_)
 have hS := hS.keep hb
 have hO := (hO.cons_nil 71 2).perm (List.perm_middle (l₁ := [zg2 none 0 0 [], zg3 b15 (.slice none 0 0)]) (a := rowD br (jf x a n c p q 0 y) (vG x q)) (l₂ := [jT b13 p q, zg5 b11 0 0 0 0 0 0]))
 have hO : Owns G6 w12 w0.heap.size (rowD br (jf x a n c p q 0 y) (vG x q) :: zg2 none 0 0 [] :: zg3 b15 (.slice none 0 0) :: [jT b13 p q, zg5 b11 0 0 0 0 0 0]) := hO
 refine kq (kq (zae (zb (za (zc (v := pV br) rfl) rfl (za (v := .func (.func 40) #[pV br] #[]) (yu (vs := [pV br]) (us := []) rfl rfl) rfl (ze ?_))))))
 refine zgP (zgO (fi := [pV br]) (ca := []) Tryz.func14 ztR (zpy h1 hsys hx.ls rfl (by decide) hx.dy (by have := hx.d4; omega) hyl (hx.bd hq)) rfl (fun y => rfl) rfl (fun _ => false)
  (fun i G L => ∃ a3 c3 cells, L = zg2 a3 i c3 cells :: zg3 b15 (.slice a3 i c3) :: [jT b13 p q, zg5 b11 0 0 0 0 0 0] ∧ Rd RSt 2 G cells (zfn x p q y i)) (fun _ _ _ _ => False) (fun i G G' L le ⟨a3, c3, cells, h, hr⟩ => ⟨a3, c3, cells, h, hr.mono za0 le⟩) hS hO ⟨none, 0, [], rfl, Rd.nil _ _ _⟩ ?_ ?_ ?_)
 ·rintro l k z G2 w2 L2 hz le2 hS hO ⟨a3, c3, cells, rfl, hr⟩
  have hk : k < x.Days.toNat := by have := (List.getElem?_eq_some_iff.1 hz).1; rwa [List.length_range] at this
  obtain rfl : z = k := by rw [List.getElem?_range hk] at hz; exact (nQs hz).symm
  have hd4 := hx.d4
  have hsame := zer x a n c p q 0 y x.Loads 0 (vG x q) (z + 1)
  have hsucc := zm8 x p q y z
  show WC _ _ _ _ _ (params _ (#[41, 42].toList.zip [iV (z : Int), .agg #[iV (stK (jf x a n c p q 0 y) x.Loads 0 (vG x q) (z + 1)).en, iV (stK (jf x a n c p q 0 y) x.Loads 0 (vG x q) (z + 1)).ca]])) _
  rw [← hsame] at hsucc
  generalize hst : stK (jf x a n c p q 0 y) x.Loads 0 (vG x q) (z + 1) = s at hsucc hO ⊢
  refine zb ?_
  refine zm rfl (z7 (v := fun b => pV b) (cs := [iV 0, iV 0]) (e := 71) (by kernel_rfl) hS.sat hO rfl 2 1 rfl (by decide) fun b17 w3 hb hO => ?_)
  have hS := hS.keep hb
  refine zm rfl (zG (vs := [iV s.en, iV s.ca]) z71 hS hO (k := 0) rfl rfl rfl rfl rfl (yt rfl rfl) (nQl rfl) fun w4 hS hO => ze ?_)
  have hO : Owns G2 w4 w0.heap.size (zmr b17 s.en s.ca :: rowD br (jf x a n c p q 0 y) s :: zg2 a3 z c3 cells :: zg3 b15 (.slice a3 z c3) :: [jT b13 p q, zg5 b11 0 0 0 0 0 0]) := by
   rw [← hst]
   rw [← hst] at hO
   exact hO
  intro w5 hfix
  have hS := hS.fix hfix
  have hO := hO.fix hfix
  refine zp (zb (za (zo zxu rfl (zr hO (k := 3) rfl rfl)) rfl (za (zu zt3 (cs := [iV s.en, iV s.ca]) rfl rfl (qX hO (k := 0) rfl 0 2)) rfl ?_)))
  refine zm rfl (zP (v := fun b => .slice (some ⟨b, 0, none⟩) 1 1) (cs := [iV s.en, iV s.ca]) (e := 71) (by kernel_rfl) hS.sat rfl fun bb G4 w9 hg hcb => ?_)
  have hS := hS.grow hg
  have hO := hO.grow hg
  have hr := hr.mono za0 hg.le
  have hsl : RSl RSt 2 G4 (some ⟨bb, 0, none⟩) 1 1 [(s.en, s.ca)] := RSl.of_rd hcb (Rd.cons (c := [iV s.en, iV s.ca]) rfl rfl (Rd.nil RSt 2 _)) rfl (show 1 ≤ maxLen by decide)
  refine zm rfl (yc (R := RSt) (k := 2) (xs := zfn x p q y z) (ys := [(s.en, s.ca)]) (zs := zfn x p q y z ++ [(s.en, s.ca)]) zmq zmh hS hO rfl (zcK _ _ _ _ _).symm hr hsl (kX _ _ (by rw [zcK]; simp; omega)) rfl rfl rfl rfl rfl fun a5 c5 w10 cells5 hS hO hr => ?_)
  rw [← hsucc] at hr hO ⊢
  rw [zcK] at hO ⊢
  refine zm rfl (zG (vs := [.slice a5 (z + 1) c5]) zza hS hO (k := 3) rfl rfl rfl rfl rfl (zU rfl) (nQl rfl) fun w11 hS hO => ze ?_)
  have hO : Owns G4 w11 w0.heap.size (zmr b17 s.en s.ca :: rowD br (jf x a n c p q 0 y) s :: zg2 a5 (z + 1) c5 cells5 :: zg3 b15 (.slice a5 (z + 1) c5) :: [jT b13 p q, zg5 b11 0 0 0 0 0 0]) := hO
  exact ⟨rfl, G4, _, hg.le, hS, hO.drop 0, a5, c5, cells5, rfl, hr⟩
 ·rintro G2 w2 L2 _ le2 hS hO ⟨a3, c3, cells, rfl, hr⟩
  rw [List.length_range] at hr hO
  have hO : Owns G2 w2 w0.heap.size (rowD br (jf x a n c p q 0 y) (stK (jf x a n c p q 0 y) x.Loads 0 (vG x q) x.Days.toNat) :: zg2 a3 x.Days.toNat c3 cells :: zg3 b15 (.slice a3 x.Days.toNat c3) :: [jT b13 p q, zg5 b11 0 0 0 0 0 0]) := hO
  generalize stK (jf x a n c p q 0 y) x.Loads 0 (vG x q) x.Days.toNat = s at hO
  refine zae (zd (zb ?_))
  refine za (zc (v := pV br) rfl) rfl (za (zc (v := pV br) rfl) rfl (za (v := pV br) (by kernel_rfl) rfl (za (zk jA rfl) rfl (za (zo n3 rfl (zr hO (k := 0) rfl rfl)) rfl (za (v := pV br) (by kernel_rfl) rfl (za (zk kH rfl) rfl (za (zk zxf rfl) rfl ?_)))))))
  refine zm rfl (zG (vs := [iV s.en]) z3 hS hO (k := 0) rfl rfl rfl rfl rfl (zU rfl) (nQl rfl) fun w3 hS hO => ze ?_)
  have hO : Owns G2 w3 w0.heap.size (rowR br (jf x a n c p q 0 y) s.day s.en s.ca s.l0 s.l1 s.l2 s.l3 s.l4 s.en :: zg2 a3 x.Days.toNat c3 cells :: zg3 b15 (.slice a3 x.Days.toNat c3) :: [jT b13 p q, zg5 b11 0 0 0 0 0 0]) := hO
  refine zd (zM qw (fun _ w => ∃ cs : List Value, Owns G2 w w0.heap.size (rowR br (jf x a n c p q 0 y) s.day s.en s.ca s.l0 s.l1 s.l2 s.l3 s.l4 s.en :: zg2 a3 x.Days.toNat c3 cells :: zg3 b15 (.slice a3 x.Days.toNat c3) :: [jT b13 p q, ⟨67, 6, 1, .slice (some ⟨b11, 0, none⟩) 1 1, cs⟩])) (.fl 0 (.fl 1 (.fl 2 (.fl 3 (.fl 4 (.fl 5 (.on 6 (.on 7 .nil)))))))) (by kernel_rfl) rfl (by kernel_rfl) (fun _ => ⟨_, hO.below (zj _)⟩) ?_)
  have hS := hS.keep (zj w3)
  have hO := hO.below (zj w3)
  refine zh rfl (fun w ⟨cs, hw⟩ => zo zxu rfl (zr hw (k := 2) rfl rfl)) rfl (zh rfl (fun w hw => zc (v := pV br) rfl) rfl (zh (v := pV br) rfl (fun w hw => by kernel_rfl) rfl (zh rfl (fun w hw => zk kH rfl) rfl (zh rfl (fun w ⟨cs, hw⟩ => zu zt4 (cs := [iV s.l0, iV s.l1, iV s.l2, iV s.l3, iV s.l4, iV s.en]) rfl rfl (qX hw (k := 0) rfl 18 6)) rfl (zh rfl (fun w hw => zf (v := .slice a3 x.Days.toNat c3) rfl) rfl ?_)))))
  refine zD rfl rfl (zG (vs := [iV s.l0, iV s.l1, iV s.l2, iV s.l3, iV s.l4, iV s.en]) zwY hS hO (k := 4) rfl rfl rfl rfl rfl (zU rfl) (nQl rfl) fun w4 hS hO => ⟨fun _ _ => ⟨_, hO⟩, ?_⟩)
  have hO : Owns G2 w4 w0.heap.size (rowR br (jf x a n c p q 0 y) s.day s.en s.ca s.l0 s.l1 s.l2 s.l3 s.l4 s.en :: zg2 a3 x.Days.toNat c3 cells :: zg3 b15 (.slice a3 x.Days.toNat c3) :: [jT b13 p q, zg5 b11 s.l0 s.l1 s.l2 s.l3 s.l4 s.en]) := hO
  refine zD rfl rfl (zY (zf (v := iV 0) rfl) rfl ⟨fun _ h => zR (by kernel_rfl) h, qp (zF ?_)⟩)
  obtain ⟨G5, le5, hS, hO5, hsl⟩ := hO.freezeS hS za0 (k := 1) rfl hr (zcK _ _ _ _ _).symm
  exact ⟨[.slice a3 x.Days.toNat c3, .agg #[iV s.l0, iV s.l1, iV s.l2, iV s.l3, iV s.l4, iV s.en], iV 0], ⟨rfl, ⟨_, rfl, vi (cs := [iV s.l0, iV s.l1, iV s.l2, iV s.l3, iV s.l4, iV s.en]) zt4 rfl (qX hO (k := 4) rfl 0 6)⟩, rfl, trivial⟩, _, G5, rfl, hS.toGrow, a3, c3, s.l0, s.l1, s.l2, s.l3, s.l4, s.en, rfl, hsl⟩
 ·rintro i ch G2 w2 L2 hi hb
  cases hb
end
end Go.Proofs.YtihedfkcccaonaaGreatDoor
