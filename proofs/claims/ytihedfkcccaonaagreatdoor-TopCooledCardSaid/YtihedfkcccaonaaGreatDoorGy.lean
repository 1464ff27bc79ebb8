/-
 The council: an atoll is kept in new memory. (Printed by mkkept.py.)
-/
import Derived.Test.YtihedfkcccaonaaGreatDoorGx
import Derived.Test.YtihedfkcccaonaaGreatDoorOp
import Derived.Test.YtihedfkcccaonaaGreatDoorSf2
namespace Go.Proofs.YtihedfkcccaonaaGreatDoor
open Go.RowKit
set_option maxRecDepth 20000
def Sl {α : Type} (R : Gm → List Value → α → Prop) (sz : Nat) (l : List α) (G : Gm) (v : Value) : Prop := ∃ a n c, v = .slice a n c ∧ RSl R sz G a n c l
theorem Sl.one {α : Type} {R : Gm → List Value → α → Prop} {sz : Nat} {l : List α} {G : Gm} {v : Value} (h : Sl R sz l G v) : v.oneCell' = true ∧ v.cells.toList = [v] := by
 obtain ⟨a, n, c, rfl, _⟩ := h; exact ⟨rfl, rfl⟩
theorem Sl.mono {α : Type} {R : Gm → List Value → α → Prop} {sz : Nat} {l : List α} {G G' : Gm} {v : Value} (hR : zam R) (h : Sl R sz l G v) (hle : Gle G G') : Sl R sz l G' v := by
 obtain ⟨a, n, c, rfl, h⟩ := h; exact ⟨a, n, c, rfl, h.mono hR hle⟩
def KQ (x : zC) : Nat → Gm → Value → Prop
 | 12 => Sl yD 1 x.Islet.Wells
 | 13 => Sl qL 6 x.Islet.Months
 | 17 => Sl qB 2 x.Book.People
 | 18 => Sl qM 2 x.Book.Events
 | 19 => Sl qC 4 x.Book.Memories
 | 20 => Sl qK 12 x.Reef.Places
 | 24 => Sl yD 1 x.Sea.Infested
 | 25 => Sl yD 1 x.Sea.Clean
 | 26 => Sl yb 4 x.Sea.Trips
 | 28 => Sl yD 1 x.Store.Stock
 | 29 => Sl xY 2 x.Store.Use
 | 32 => Sl yF 3 x.Store.Lots
 | 39 => Sl zO 3 x.System.Loads
 | 46 => Sl yD 1 x.Fishing.Roads
 | 47 => Sl yD 1 x.Fishing.Zones
 | 48 => Sl yD 1 x.Fishing.Berths
 | 34 => fun _ v => v = iV x.System.Sunny
 | 35 => fun _ v => v = iV x.System.Cloudy
 | 36 => fun _ v => v = iV x.System.Size
 | 37 => fun _ v => v = iV x.System.Fade
 | 38 => fun _ v => v = iV x.System.Start
 | 40 => fun _ v => v = iV x.System.Days
 | 41 => fun _ v => v = iV x.System.Window
 | 42 => fun _ v => v = iV x.System.Most
 | 43 => fun _ v => v = iV x.System.Panel
 | 44 => fun _ v => v = iV x.System.Battery
 | 50 => fun _ v => v = iV x.Money
 | _ => fun _ _ => True
theorem zmj {x : zC} {G G' : Gm} {v : Value} (hle : Gle G G') : ∀ {j : Nat}, KQ x j G v → KQ x j G' v := by
 intro j
 unfold KQ
 split
 ·exact fun h => h.mono zT hle
 ·exact fun h => h.mono yQ hle
 ·exact fun h => h.mono yk hle
 ·exact fun h => h.mono yx hle
 ·exact fun h => h.mono yl hle
 ·exact fun h => h.mono xI hle
 ·exact fun h => h.mono zT hle
 ·exact fun h => h.mono zT hle
 ·exact fun h => h.mono yG hle
 ·exact fun h => h.mono zT hle
 ·exact fun h => h.mono xB hle
 ·exact fun h => h.mono ya hle
 ·exact fun h => h.mono zx hle
 ·exact fun h => h.mono zT hle
 ·exact fun h => h.mono zT hle
 ·exact fun h => h.mono zT hle
 ·exact fun h => h
 ·exact fun h => h
 ·exact fun h => h
 ·exact fun h => h
 ·exact fun h => h
 ·exact fun h => h
 ·exact fun h => h
 ·exact fun h => h
 ·exact fun h => h
 ·exact fun h => h
 ·exact fun h => h
 ·exact fun _ => trivial
structure KI (x : zC) (e : Nat) (G : Gm) (cc : List Value) : Prop where
 len : cc.length = 51
 at' : ∀ j v, cc[j]? = some v → v.oneCell' = true ∧ (j ≠ e → KQ x j G v)
theorem KI.mono {x : zC} {e : Nat} {G G' : Gm} {cc : List Value} (h : KI x e G cc) (hle : Gle G G') : KI x e G' cc := ⟨h.len, fun j v hj => ⟨(h.at' j v hj).1, fun hn => zmj hle ((h.at' j v hj).2 hn)⟩⟩
theorem KI.get {x : zC} {e : Nat} {G : Gm} {cc : List Value} (h : KI x e G cc) (j : Nat) (hj : Nat.blt j 51 = true) (he : Nat.beq j e = false) : ∃ v, cc[j]? = some v ∧ KQ x j G v := by
 have hj' : j < cc.length := by rw [h.len]; simpa [Nat.blt_eq] using hj
 exact ⟨cc[j], List.getElem?_eq_getElem hj', (h.at' j _ (List.getElem?_eq_getElem hj')).2 (Nat.ne_of_beq_eq_false he)⟩
theorem KI.set {x : zC} {e e' j : Nat} {G : Gm} {cc : List Value} {v : Value} (h : KI x e G cc) (hj : j < 51) (h1 : v.oneCell' = true) (hv : j ≠ e' → KQ x j G v) (he : ∀ i, i < 51 → i ≠ j → i ≠ e' → i ≠ e) : KI x e' G (qD cc j [v]) := by
 have hf : j + [v].length ≤ cc.length := by rw [h.len]; exact hj
 refine ⟨by rw [jE hf, h.len], fun i u hi => ?_⟩
 rw [ku hf] at hi
 by_cases hij : i = j
 ·subst hij
  rw [if_pos ⟨Nat.le_refl _, by simp⟩] at hi
  simp at hi; subst hi
  exact ⟨h1, hv⟩
 ·rw [if_neg (by simp; omega)] at hi
  have := h.at' i u hi
  exact ⟨this.1, fun hn => this.2 (he i (by rw [← h.len]; exact (List.getElem?_eq_some_iff.1 hi).1) hij hn)⟩
abbrev yj (b : Nat) (cc : List Value) : Row := ⟨49, 51, 1, .slice (some ⟨b, 0, none⟩) 1 1, cc⟩
section
variable {κ : Ctx} {p : List PanicEntry → Fr → World → Prop} {N : Nat} {F : Fr} {w : World} {K : Fr → World → Prop} {ty : TypeId} {pos : String} {af : Array Edge} {G0 G : Gm} {w0 : World} {B : Nat} {L : List Row} {gd : Option (Nat × Bool)}
theorem yM {x : zC} {e e' T j k b : Nat} {X Y : Operand} {cc : List Value} {v : Value} (hT : szB Tryz.prog T = some 1) (hS : Since B G0 w0 G w) (hO : Owns G w B L) (hk : L[k]? = some (yj b cc)) (hX : ev F X = .pointer (some ⟨b, j, none⟩)) (hY : ev F Y = v)
  (hj : Nat.blt j 51 = true) (h1 : v.oneCell' = true ∧ v.cells.toList = [v]) (hv : j ≠ e' → KQ x j G v) (hK : KI x e G cc) (he : ∀ i, i < 51 → i ≠ j → i ≠ e' → i ≠ e)
  (h : ∀ w' cc', Since B G0 w0 G w' → Owns G w' B (L.set k (yj b cc')) → KI x e' G cc' → cc'[j]? = some v → K F w') : OpP κ Tryz.prog N p ⟨none, .store T X Y, ty, pos, af, gd⟩ F w K := by
 have hj' : j < 51 := by simpa [Nat.blt_eq] using hj
 have hf : j + [v].length ≤ cc.length := by rw [hK.len]; exact hj'
 refine zG (vs := [v]) hT hS hO hk hX hY h1.2 rfl (zU (by simp [h1.1])) hf fun w' hS hO => ?_
 exact h w' _ hS hO (hK.set hj' h1.1 hv he) (by rw [ku hf, if_pos ⟨Nat.le_refl _, by simp⟩]; simp)
end
theorem zeZ : zJ Tryz.prog 119 = true := by kernel_rfl
theorem zeY {G : Gm} {w : World} {l : List Int} {v : Value} (hS : Sat G w) (h : Sl yD 1 l G v) (hl : l.length ≤ 1000) : Calls Tryz.prog 119 [v].toArray w (yL G w (Sl yD 1 l)) := by
 obtain ⟨a, n, cp, rfl, h⟩ := h
 exact zsG hS h (r := l) (by unfold zws; rw [kX [] l (by simp; omega)]; rfl)
theorem zxU : zJ Tryz.prog 120 = true := by kernel_rfl
theorem zxM {G : Gm} {w : World} {l : List xz} {v : Value} (hS : Sat G w) (h : Sl qL 6 l G v) (hl : l.length ≤ 1000) : Calls Tryz.prog 120 [v].toArray w (yL G w (Sl qL 6 l)) := by
 obtain ⟨a, n, cp, rfl, h⟩ := h
 exact zsF hS h (r := l) (by unfold zwr; rw [kX [] l (by simp; omega)]; rfl)
theorem zxT : zJ Tryz.prog 121 = true := by kernel_rfl
theorem zxL {G : Gm} {w : World} {l : List yT} {v : Value} (hS : Sat G w) (h : Sl qB 2 l G v) (hl : l.length ≤ 1000) : Calls Tryz.prog 121 [v].toArray w (yL G w (Sl qB 2 l)) := by
 obtain ⟨a, n, cp, rfl, h⟩ := h
 exact zsE hS h (r := l) (by unfold zwq; rw [kX [] l (by simp; omega)]; rfl)
theorem zxS : zJ Tryz.prog 122 = true := by kernel_rfl
theorem zxK {G : Gm} {w : World} {l : List xA} {v : Value} (hS : Sat G w) (h : Sl qM 2 l G v) (hl : l.length ≤ 1000) : Calls Tryz.prog 122 [v].toArray w (yL G w (Sl qM 2 l)) := by
 obtain ⟨a, n, cp, rfl, h⟩ := h
 exact zsD hS h (r := l) (by unfold zwp; rw [kX [] l (by simp; omega)]; rfl)
theorem zzX : zJ Tryz.prog 123 = true := by kernel_rfl
theorem zzV {G : Gm} {w : World} {l : List yU} {v : Value} (hS : Sat G w) (h : Sl qC 4 l G v) (hl : l.length ≤ 1000) : Calls Tryz.prog 123 [v].toArray w (yL G w (Sl qC 4 l)) := by
 obtain ⟨a, n, cp, rfl, h⟩ := h
 exact zsC hS h (r := l) (by unfold zwo; rw [kX [] l (by simp; omega)]; rfl)
theorem zxR : zJ Tryz.prog 124 = true := by kernel_rfl
theorem zxJ {G : Gm} {w : World} {l : List xy} {v : Value} (hS : Sat G w) (h : Sl qK 12 l G v) (hl : l.length ≤ 1000) : Calls Tryz.prog 124 [v].toArray w (yL G w (Sl qK 12 l)) := by
 obtain ⟨a, n, cp, rfl, h⟩ := h
 exact zsB hS h (r := l) (by unfold zwn; rw [kX [] l (by simp; omega)]; rfl)
theorem zxQ : zJ Tryz.prog 125 = true := by kernel_rfl
theorem zxI {G : Gm} {w : World} {l : List jc} {v : Value} (hS : Sat G w) (h : Sl yb 4 l G v) (hl : l.length ≤ 1000) : Calls Tryz.prog 125 [v].toArray w (yL G w (Sl yb 4 l)) := by
 obtain ⟨a, n, cp, rfl, h⟩ := h
 exact zsA hS h (r := l) (by unfold zwm; rw [kX [] l (by simp; omega)]; rfl)
theorem ztv : zJ Tryz.prog 126 = true := by kernel_rfl
theorem ztu {G : Gm} {w : World} {l : List jb} {v : Value} (hS : Sat G w) (h : Sl xY 2 l G v) (hl : l.length ≤ 1000) : Calls Tryz.prog 126 [v].toArray w (yL G w (Sl xY 2 l)) := by
 obtain ⟨a, n, cp, rfl, h⟩ := h
 exact zsz hS h (r := l) (by unfold zwl; rw [kX [] l (by simp; omega)]; rfl)
theorem zxO : zJ Tryz.prog 128 = true := by kernel_rfl
theorem zxG {G : Gm} {w : World} {l : List zE} {v : Value} (hS : Sat G w) (h : Sl zO 3 l G v) (hl : l.length ≤ 1000) : Calls Tryz.prog 128 [v].toArray w (yL G w (Sl zO 3 l)) := by
 obtain ⟨a, n, cp, rfl, h⟩ := h
 exact zsy hS h (r := l) (by unfold zwk; rw [kX [] l (by simp; omega)]; rfl)
theorem zkb : naB Tryz.prog 24 = true := by kernel_rfl
theorem zj9 : szB Tryz.prog 24 = some 1 := by kernel_rfl
theorem zzT : naB Tryz.prog 25 = true := by kernel_rfl
theorem zzM : szB Tryz.prog 25 = some 1 := by kernel_rfl
theorem zzS : naB Tryz.prog 28 = true := by kernel_rfl
theorem zzL : szB Tryz.prog 28 = some 1 := by kernel_rfl
theorem zzR : naB Tryz.prog 29 = true := by kernel_rfl
theorem zzK : szB Tryz.prog 29 = some 1 := by kernel_rfl
theorem zzQ : naB Tryz.prog 30 = true := by kernel_rfl
theorem zzJ : szB Tryz.prog 30 = some 1 := by kernel_rfl
theorem zzP : naB Tryz.prog 33 = true := by kernel_rfl
theorem zzI : szB Tryz.prog 33 = some 1 := by kernel_rfl
theorem zzO : naB Tryz.prog 36 = true := by kernel_rfl
theorem zzH : szB Tryz.prog 36 = some 1 := by kernel_rfl
theorem zxF : naB Tryz.prog 39 = true := by kernel_rfl
theorem zxE : szB Tryz.prog 39 = some 1 := by kernel_rfl
theorem zrq : naB Tryz.prog 40 = true := by kernel_rfl
theorem zzG : szB Tryz.prog 40 = some 1 := by kernel_rfl
theorem zzN : naB Tryz.prog 43 = true := by kernel_rfl
theorem zzF : szB Tryz.prog 43 = some 1 := by kernel_rfl
theorem zoS : qx Tryz.prog 27 9 = some 12 := by kernel_rfl
theorem zln : qx Tryz.prog 27 10 = some 13 := by kernel_rfl
theorem zoR : qx Tryz.prog 32 0 = some 0 := by kernel_rfl
theorem zoQ : qx Tryz.prog 32 1 = some 1 := by kernel_rfl
theorem zoP : qx Tryz.prog 32 2 = some 2 := by kernel_rfl
theorem zoO : qx Tryz.prog 35 0 = some 0 := by kernel_rfl
theorem zoN : qx Tryz.prog 38 1 = some 1 := by kernel_rfl
theorem zoM : qx Tryz.prog 38 2 = some 2 := by kernel_rfl
theorem zoL : qx Tryz.prog 38 3 = some 3 := by kernel_rfl
theorem zoK : qx Tryz.prog 42 0 = some 0 := by kernel_rfl
theorem zoJ : qx Tryz.prog 42 1 = some 1 := by kernel_rfl
theorem zeX : qx Tryz.prog 42 3 = some 4 := by kernel_rfl
theorem zoI : qx Tryz.prog 45 5 = some 5 := by kernel_rfl
theorem zoH : qx Tryz.prog 47 1 = some 1 := by kernel_rfl
theorem zoG : qx Tryz.prog 47 2 = some 2 := by kernel_rfl
theorem zoF : qx Tryz.prog 47 3 = some 3 := by kernel_rfl
theorem zhq : qx Tryz.prog 49 0 = some 0 := by kernel_rfl
theorem zdh : qx Tryz.prog 49 2 = some 17 := by kernel_rfl
theorem zkc : qx Tryz.prog 49 3 = some 20 := by kernel_rfl
theorem zdg : qx Tryz.prog 49 4 = some 23 := by kernel_rfl
theorem vR : qx Tryz.prog 49 5 = some 28 := by kernel_rfl
theorem zoE : qx Tryz.prog 49 6 = some 34 := by kernel_rfl
theorem zdf : qx Tryz.prog 49 7 = some 45 := by kernel_rfl
theorem ze0 : agB Tryz.prog 49 = some 51 := by kernel_rfl
theorem zzE : szB Tryz.prog 49 = some 51 := by kernel_rfl
theorem zoD : qx Tryz.prog 117 0 = some 0 := by kernel_rfl
theorem zxP : zJ Tryz.prog 127 = true := by kernel_rfl
theorem zrr : slB Tryz.prog 40 = some (117, 3, 40) := by kernel_rfl
theorem zxH {B : Nat} {G0 : Gm} {w0 : World} {Gc : Gm} {wc : World} {L : List Row} (hS : Since B G0 w0 Gc wc) (hO : Owns Gc wc B L) {xs : List zcV} {v : Value} (h1 : Sl yF 3 xs Gc v) (hl : xs.length ≤ 1000) :
  Calls Tryz.prog 127 [v].toArray wc (jP B G0 w0 Gc wc (fun G' L' v => ∃ a c cells, v = .slice a xs.length c ∧ L' = ⟨117, 3, xs.length, .slice a xs.length c, cells⟩ :: L ∧ Rd yF 3 G' cells xs)) := by
 obtain ⟨a1, n1, c1, rfl, h1⟩ := h1
 refine yP (N := 5) (rs := [.tmp 2]) hO.base Tryz.func127 rfl rfl rfl rfl (zd (zb (za (zf (v := .slice none 0 0) rfl) rfl (ze (zd (zb (za (zc (v := .slice a1 n1 c1) rfl) rfl ?_)))))))
 have hO := hO.cons_nil 117 3
 refine zm rfl (yc (k := 0) zrr zfV hS hO rfl rfl (Rd.nil yF 3 Gc) h1 (kX [] xs (by simp; omega)) rfl rfl rfl rfl rfl fun a c w1 cells hS hO hr => ?_)
 refine za (zf (v := .slice a xs.length c) rfl) rfl (ze (zF ?_))
 exact ⟨[.slice a xs.length c], ⟨rfl, trivial⟩, Gc, _, Gle.refl _, hS, hO, _, _, _, rfl, rfl, hr⟩
def z49 : List Value := [iV 0, iV 0, iV 0, iV 0, iV 0, iV 0, iV 0, iV 0, iV 0, iV 0, iV 0, iV 0, .slice none 0 0, .slice none 0 0, iV 0, iV 0, iV 0, .slice none 0 0, .slice none 0 0, .slice none 0 0, .slice none 0 0, iV 0, iV 0, iV 0, .slice none 0 0, .slice none 0 0, .slice none 0 0, iV 0, .slice none 0 0, .slice none 0 0, iV 0, iV 0, .slice none 0 0, iV 0, iV 0, iV 0, iV 0, iV 0, iV 0, .slice none 0 0, iV 0, iV 0, iV 0, iV 0, iV 0, iV 0, .slice none 0 0, .slice none 0 0, .slice none 0 0, iV 0, iV 0]
theorem zjN {α : Type} {xs : List α} {i : Nat} (hi : i < xs.length) : zet xs (i : Int) xs[i] = some xs := by
 unfold zet
 rw [if_pos ⟨by omega, by simpa using hi⟩]
 simp
theorem zt9 {i : Nat} (h : i < 1000) : IntKind.i64.wrap ((i : Int) + 1) = ((i + 1 : Nat) : Int) := by rw [IntKind.wrap_i64]; omega
def Kl (x : zC) : Prop := x.Islet.Wells.length ≤ 1000 ∧ x.Islet.Months.length ≤ 1000 ∧ x.Book.People.length ≤ 1000 ∧ x.Book.Events.length ≤ 1000 ∧ x.Book.Memories.length ≤ 1000 ∧ x.Reef.Places.length ≤ 1000 ∧ x.Sea.Infested.length ≤ 1000 ∧ x.Sea.Clean.length ≤ 1000 ∧ x.Sea.Trips.length ≤ 1000 ∧ x.Store.Stock.length ≤ 1000 ∧ x.Store.Use.length ≤ 1000 ∧ x.Store.Lots.length ≤ 1000 ∧ x.System.Loads.length ≤ 1000 ∧ x.Fishing.Roads.length ≤ 1000 ∧ x.Fishing.Zones.length ≤ 1000 ∧ x.Fishing.Berths.length ≤ 1000 ∧ ∀ y ∈ x.Store.Lots, y.Goods.length ≤ 1000
set_option maxHeartbeats 4000000 in
theorem zpv {G0 : Gm} {w0 : World} (hS0 : Sat G0 w0) {x : zC} {cc : List Value} (hK : KI x 99 G0 cc) (hk : Kl x) :
  Calls Tryz.prog 51 [.agg cc.toArray].toArray w0 (yL G0 w0 (fun G v => ∃ cc', v = .agg cc'.toArray ∧ KI x 99 G cc')) := by
 have hS := Since.start hS0
 have hO := je G0 w0
 obtain ⟨z12, z13, z17, z18, z19, z20, z24, z25, z26, z28, z29, z32, z39, z46, z47, z48, zg⟩ := hk
 refine zdo (N := 123) (xZ _ _ _) [.cell 2 49] Tryz.func51 rfl rfl rfl rfl (zd (zb ?_))
 refine zm rfl (z7 (v := fun b => pV b) (cs := cc) (e := 49) (qu rfl) hS.sat hO rfl 51 1 (by rw [hK.len]) (by decide) fun b w1 hb hO => ?_)
 have hS := hS.keep hb
 refine zm rfl (z7 (v := fun b => pV b) (cs := z49) (e := 49) (by kernel_rfl) hS.sat hO rfl 51 1 rfl (by decide) fun b2 w2 hb hO => ?_)
 have hS := hS.keep hb
 have hO : Owns G0 w2 w0.heap.size [yj b2 z49, yj b cc] := hO
 have LE := Gle.refl G0
 refine ze (zd ?_)
 obtain ⟨u12, q12, p12⟩ := hK.get 12 rfl rfl
 obtain ⟨u13, q13, p13⟩ := hK.get 13 rfl rfl
 have hS := hS.keep (zj _)
 have hO := hO.below (zj _)
 refine zM qw (fun _ w => Sat _ w ∧ Owns _ w w0.heap.size [yj b2 z49, yj b cc]) (.fl 0 (.fl 1 (.fl 2 (.fl 4 (.fl 5 (.fl 6 (.on 3 (.fl 8 (.fl 9 (.on 7 (.on 10 (.on 11 (.on 12 (.on 13 .nil)))))))))))))) (by kernel_rfl) rfl (by kernel_rfl) (fun _ => ⟨hS.sat, hO⟩) ?_
 refine zh rfl (fun w hw => zk zhq rfl) rfl (zh rfl (fun w hw => zk zoS rfl) rfl (zh rfl (fun w hw => zo zkb rfl (zr hw.2 (k := 1) rfl (j := 12) q12)) rfl (zh rfl (fun w hw => zk zhq rfl) rfl (zh rfl (fun w hw => zk zln rfl) rfl (zh rfl (fun w hw => zo zzT rfl (zr hw.2 (k := 1) rfl (j := 13) q13)) rfl (?_))))))
 have le := Gle.refl G0
 refine zD rfl rfl (zS zeZ (zeY hS.sat p12 z12) rfl rfl fun v12 G w hg p12 => ?_)
 have hS := hS.grow hg
 have hO := hO.grow hg
 have le := le.trans hg.le
 have LE := LE.trans hg.le
 have hK := hK.mono hg.le
 have p13 := p13.mono yQ hg.le
 refine ⟨fun _ _ => ⟨hS.sat.le le, hO.le le⟩, ?_⟩
 refine zh rfl (fun w hw => zk zhq rfl) rfl (zh rfl (fun w hw => zk zoS rfl) rfl ?_)
 refine zD rfl rfl (zS zxU (zxM hS.sat p13 z13) rfl rfl fun v13 G w hg p13 => ?_)
 have hS := hS.grow hg
 have hO := hO.grow hg
 have le := le.trans hg.le
 have LE := LE.trans hg.le
 have hK := hK.mono hg.le
 have p12 := p12.mono zT hg.le
 refine ⟨fun _ _ => ⟨hS.sat.le le, hO.le le⟩, ?_⟩
 refine zD rfl rfl (yM (x := x) (e := 99) (e' := 99) (j := 12) (k := 1) zj9 hS hO rfl rfl rfl rfl p12.one (fun _ => p12) hK (fun i h0 h1 h2 => by omega) fun w cc hS hO hK qq => ⟨fun _ h => zR (by kernel_rfl) h, ?_⟩)
 have hO : Owns _ w w0.heap.size [yj b2 z49, yj b cc] := hO
 refine zD rfl rfl (zY (zk zhq rfl) rfl ⟨fun _ h => zR (by kernel_rfl) h, zD rfl rfl (zY (zk zln rfl) rfl ⟨fun _ h => zR (by kernel_rfl) h, ?_⟩)⟩)
 refine zD rfl rfl (yM (x := x) (e := 99) (e' := 99) (j := 13) (k := 1) zzM hS hO rfl rfl rfl rfl p13.one (fun _ => p13) hK (fun i h0 h1 h2 => by omega) fun w cc hS hO hK qq => ⟨fun _ h => zR (by kernel_rfl) h, ?_⟩)
 have hO : Owns _ w w0.heap.size [yj b2 z49, yj b cc] := hO
 refine qp (zd ?_)
 obtain ⟨u17, q17, p17⟩ := hK.get 17 rfl rfl
 obtain ⟨u18, q18, p18⟩ := hK.get 18 rfl rfl
 obtain ⟨u19, q19, p19⟩ := hK.get 19 rfl rfl
 have hS := hS.keep (zj _)
 have hO := hO.below (zj _)
 refine zM qw (fun _ w => Sat _ w ∧ Owns _ w w0.heap.size [yj b2 z49, yj b cc]) (.fl 0 (.fl 1 (.fl 2 (.fl 4 (.fl 5 (.fl 6 (.fl 8 (.fl 9 (.fl 10 (.on 3 (.fl 12 (.fl 13 (.on 7 (.on 11 (.on 14 (.on 15 (.on 16 (.on 17 (.on 18 (.on 19 (.on 20 .nil))))))))))))))))))))) (by kernel_rfl) rfl (by kernel_rfl) (fun _ => ⟨hS.sat, hO⟩) ?_
 refine zh rfl (fun w hw => zk zdh rfl) rfl (zh rfl (fun w hw => zk zoR rfl) rfl (zh rfl (fun w hw => zo zzS rfl (zr hw.2 (k := 1) rfl (j := 17) q17)) rfl (zh rfl (fun w hw => zk zdh rfl) rfl (zh rfl (fun w hw => zk zoQ rfl) rfl (zh rfl (fun w hw => zo zzR rfl (zr hw.2 (k := 1) rfl (j := 18) q18)) rfl (zh rfl (fun w hw => zk zdh rfl) rfl (zh rfl (fun w hw => zk zoP rfl) rfl (zh rfl (fun w hw => zo zzQ rfl (zr hw.2 (k := 1) rfl (j := 19) q19)) rfl (?_)))))))))
 have le := Gle.refl G
 refine zD rfl rfl (zS zxT (zxL hS.sat p17 z17) rfl rfl fun v17 G w hg p17 => ?_)
 have hS := hS.grow hg
 have hO := hO.grow hg
 have le := le.trans hg.le
 have LE := LE.trans hg.le
 have hK := hK.mono hg.le
 have p18 := p18.mono yx hg.le
 have p19 := p19.mono yl hg.le
 refine ⟨fun _ _ => ⟨hS.sat.le le, hO.le le⟩, ?_⟩
 refine zh rfl (fun w hw => zk zdh rfl) rfl (zh rfl (fun w hw => zk zoR rfl) rfl ?_)
 refine zD rfl rfl (zS zxS (zxK hS.sat p18 z18) rfl rfl fun v18 G w hg p18 => ?_)
 have hS := hS.grow hg
 have hO := hO.grow hg
 have le := le.trans hg.le
 have LE := LE.trans hg.le
 have hK := hK.mono hg.le
 have p17 := p17.mono yk hg.le
 have p19 := p19.mono yl hg.le
 refine ⟨fun _ _ => ⟨hS.sat.le le, hO.le le⟩, ?_⟩
 refine zD rfl rfl (zS zzX (zzV hS.sat p19 z19) rfl rfl fun v19 G w hg p19 => ?_)
 have hS := hS.grow hg
 have hO := hO.grow hg
 have le := le.trans hg.le
 have LE := LE.trans hg.le
 have hK := hK.mono hg.le
 have p17 := p17.mono yk hg.le
 have p18 := p18.mono yx hg.le
 refine ⟨fun _ _ => ⟨hS.sat.le le, hO.le le⟩, ?_⟩
 refine zD rfl rfl (yM (x := x) (e := 99) (e' := 99) (j := 17) (k := 1) zzL hS hO rfl rfl rfl rfl p17.one (fun _ => p17) hK (fun i h0 h1 h2 => by omega) fun w cc hS hO hK qq => ⟨fun _ h => zR (by kernel_rfl) h, ?_⟩)
 have hO : Owns _ w w0.heap.size [yj b2 z49, yj b cc] := hO
 refine zD rfl rfl (zY (zk zdh rfl) rfl ⟨fun _ h => zR (by kernel_rfl) h, zD rfl rfl (zY (zk zoQ rfl) rfl ⟨fun _ h => zR (by kernel_rfl) h, ?_⟩)⟩)
 refine zD rfl rfl (yM (x := x) (e := 99) (e' := 99) (j := 18) (k := 1) zzK hS hO rfl rfl rfl rfl p18.one (fun _ => p18) hK (fun i h0 h1 h2 => by omega) fun w cc hS hO hK qq => ⟨fun _ h => zR (by kernel_rfl) h, ?_⟩)
 have hO : Owns _ w w0.heap.size [yj b2 z49, yj b cc] := hO
 refine zD rfl rfl (zY (zk zdh rfl) rfl ⟨fun _ h => zR (by kernel_rfl) h, zD rfl rfl (zY (zk zoP rfl) rfl ⟨fun _ h => zR (by kernel_rfl) h, ?_⟩)⟩)
 refine zD rfl rfl (yM (x := x) (e := 99) (e' := 99) (j := 19) (k := 1) zzJ hS hO rfl rfl rfl rfl p19.one (fun _ => p19) hK (fun i h0 h1 h2 => by omega) fun w cc hS hO hK qq => ⟨fun _ h => zR (by kernel_rfl) h, ?_⟩)
 have hO : Owns _ w w0.heap.size [yj b2 z49, yj b cc] := hO
 refine qp (zd ?_)
 obtain ⟨u20, q20, p20⟩ := hK.get 20 rfl rfl
 refine zb (za (zk zkc rfl) rfl (za (zk zoO rfl) rfl (za (zo zzP rfl (zr hO (k := 1) rfl (j := 20) q20)) rfl ?_)))
 refine zm rfl (zS zxR (zxJ hS.sat p20 z20) rfl rfl fun v20 G w hg p20 => ?_)
 have hS := hS.grow hg
 have hO := hO.grow hg
 have LE := LE.trans hg.le
 have hK := hK.mono hg.le
 refine za (zk zkc rfl) rfl (za (zk zoO rfl) rfl ?_)
 refine zm rfl (yM (x := x) (e := 99) (e' := 99) (j := 20) (k := 1) zzI hS hO rfl rfl rfl rfl p20.one (fun _ => p20) hK (fun i h0 h1 h2 => by omega) fun w cc hS hO hK qq => ze (zd ?_))
 have hO : Owns _ w w0.heap.size [yj b2 z49, yj b cc] := hO
 obtain ⟨u24, q24, p24⟩ := hK.get 24 rfl rfl
 obtain ⟨u25, q25, p25⟩ := hK.get 25 rfl rfl
 obtain ⟨u26, q26, p26⟩ := hK.get 26 rfl rfl
 have hS := hS.keep (zj _)
 have hO := hO.below (zj _)
 refine zM qw (fun _ w => Sat _ w ∧ Owns _ w w0.heap.size [yj b2 z49, yj b cc]) (.fl 0 (.fl 1 (.fl 2 (.fl 4 (.fl 5 (.fl 6 (.fl 8 (.fl 9 (.fl 10 (.on 3 (.fl 12 (.fl 13 (.on 7 (.on 11 (.on 14 (.on 15 (.on 16 (.on 17 (.on 18 (.on 19 (.on 20 .nil))))))))))))))))))))) (by kernel_rfl) rfl (by kernel_rfl) (fun _ => ⟨hS.sat, hO⟩) ?_
 refine zh rfl (fun w hw => zk zdg rfl) rfl (zh rfl (fun w hw => zk zoN rfl) rfl (zh rfl (fun w hw => zo zkb rfl (zr hw.2 (k := 1) rfl (j := 24) q24)) rfl (zh rfl (fun w hw => zk zdg rfl) rfl (zh rfl (fun w hw => zk zoM rfl) rfl (zh rfl (fun w hw => zo zkb rfl (zr hw.2 (k := 1) rfl (j := 25) q25)) rfl (zh rfl (fun w hw => zk zdg rfl) rfl (zh rfl (fun w hw => zk zoL rfl) rfl (zh rfl (fun w hw => zo zzO rfl (zr hw.2 (k := 1) rfl (j := 26) q26)) rfl (?_)))))))))
 have le := Gle.refl G
 refine zD rfl rfl (zS zeZ (zeY hS.sat p24 z24) rfl rfl fun v24 G w hg p24 => ?_)
 have hS := hS.grow hg
 have hO := hO.grow hg
 have le := le.trans hg.le
 have LE := LE.trans hg.le
 have hK := hK.mono hg.le
 have p25 := p25.mono zT hg.le
 have p26 := p26.mono yG hg.le
 refine ⟨fun _ _ => ⟨hS.sat.le le, hO.le le⟩, ?_⟩
 refine zh rfl (fun w hw => zk zdg rfl) rfl (zh rfl (fun w hw => zk zoN rfl) rfl ?_)
 refine zD rfl rfl (zS zeZ (zeY hS.sat p25 z25) rfl rfl fun v25 G w hg p25 => ?_)
 have hS := hS.grow hg
 have hO := hO.grow hg
 have le := le.trans hg.le
 have LE := LE.trans hg.le
 have hK := hK.mono hg.le
 have p24 := p24.mono zT hg.le
 have p26 := p26.mono yG hg.le
 refine ⟨fun _ _ => ⟨hS.sat.le le, hO.le le⟩, ?_⟩
 refine zD rfl rfl (zS zxQ (zxI hS.sat p26 z26) rfl rfl fun v26 G w hg p26 => ?_)
 have hS := hS.grow hg
 have hO := hO.grow hg
 have le := le.trans hg.le
 have LE := LE.trans hg.le
 have hK := hK.mono hg.le
 have p24 := p24.mono zT hg.le
 have p25 := p25.mono zT hg.le
 refine ⟨fun _ _ => ⟨hS.sat.le le, hO.le le⟩, ?_⟩
 refine zD rfl rfl (yM (x := x) (e := 99) (e' := 99) (j := 24) (k := 1) zj9 hS hO rfl rfl rfl rfl p24.one (fun _ => p24) hK (fun i h0 h1 h2 => by omega) fun w cc hS hO hK qq => ⟨fun _ h => zR (by kernel_rfl) h, ?_⟩)
 have hO : Owns _ w w0.heap.size [yj b2 z49, yj b cc] := hO
 refine zD rfl rfl (zY (zk zdg rfl) rfl ⟨fun _ h => zR (by kernel_rfl) h, zD rfl rfl (zY (zk zoM rfl) rfl ⟨fun _ h => zR (by kernel_rfl) h, ?_⟩)⟩)
 refine zD rfl rfl (yM (x := x) (e := 99) (e' := 99) (j := 25) (k := 1) zj9 hS hO rfl rfl rfl rfl p25.one (fun _ => p25) hK (fun i h0 h1 h2 => by omega) fun w cc hS hO hK qq => ⟨fun _ h => zR (by kernel_rfl) h, ?_⟩)
 have hO : Owns _ w w0.heap.size [yj b2 z49, yj b cc] := hO
 refine zD rfl rfl (zY (zk zdg rfl) rfl ⟨fun _ h => zR (by kernel_rfl) h, zD rfl rfl (zY (zk zoL rfl) rfl ⟨fun _ h => zR (by kernel_rfl) h, ?_⟩)⟩)
 refine zD rfl rfl (yM (x := x) (e := 99) (e' := 99) (j := 26) (k := 1) zzH hS hO rfl rfl rfl rfl p26.one (fun _ => p26) hK (fun i h0 h1 h2 => by omega) fun w cc hS hO hK qq => ⟨fun _ h => zR (by kernel_rfl) h, ?_⟩)
 have hO : Owns _ w w0.heap.size [yj b2 z49, yj b cc] := hO
 refine qp (zd ?_)
 obtain ⟨u28, q28, p28⟩ := hK.get 28 rfl rfl
 obtain ⟨u29, q29, p29⟩ := hK.get 29 rfl rfl
 obtain ⟨u32, q32, p32⟩ := hK.get 32 rfl rfl
 have hS := hS.keep (zj _)
 have hO := hO.below (zj _)
 refine zM qw (fun _ w => Sat _ w ∧ Owns _ w w0.heap.size [yj b2 z49, yj b cc]) (.fl 0 (.fl 1 (.fl 2 (.fl 4 (.fl 5 (.fl 6 (.fl 8 (.fl 9 (.fl 10 (.on 3 (.fl 12 (.fl 13 (.on 7 (.on 11 (.on 14 (.on 15 (.on 16 (.on 17 (.on 18 (.on 19 (.on 20 .nil))))))))))))))))))))) (by kernel_rfl) rfl (by kernel_rfl) (fun _ => ⟨hS.sat, hO⟩) ?_
 refine zh rfl (fun w hw => zk vR rfl) rfl (zh rfl (fun w hw => zk zoK rfl) rfl (zh rfl (fun w hw => zo zkb rfl (zr hw.2 (k := 1) rfl (j := 28) q28)) rfl (zh rfl (fun w hw => zk vR rfl) rfl (zh rfl (fun w hw => zk zoJ rfl) rfl (zh rfl (fun w hw => zo zxF rfl (zr hw.2 (k := 1) rfl (j := 29) q29)) rfl (zh rfl (fun w hw => zk vR rfl) rfl (zh rfl (fun w hw => zk zeX rfl) rfl (zh rfl (fun w hw => zo zrq rfl (zr hw.2 (k := 1) rfl (j := 32) q32)) rfl (?_)))))))))
 have le := Gle.refl G
 refine zD rfl rfl (zS zeZ (zeY hS.sat p28 z28) rfl rfl fun v28 G w hg p28 => ?_)
 have hS := hS.grow hg
 have hO := hO.grow hg
 have le := le.trans hg.le
 have LE := LE.trans hg.le
 have hK := hK.mono hg.le
 have p29 := p29.mono xB hg.le
 have p32 := p32.mono ya hg.le
 refine ⟨fun _ _ => ⟨hS.sat.le le, hO.le le⟩, ?_⟩
 refine zh rfl (fun w hw => zk vR rfl) rfl (zh rfl (fun w hw => zk zoK rfl) rfl ?_)
 refine zD rfl rfl (zS ztv (ztu hS.sat p29 z29) rfl rfl fun v29 G w hg p29 => ?_)
 have hS := hS.grow hg
 have hO := hO.grow hg
 have le := le.trans hg.le
 have LE := LE.trans hg.le
 have hK := hK.mono hg.le
 have p28 := p28.mono zT hg.le
 have p32 := p32.mono ya hg.le
 refine ⟨fun _ _ => ⟨hS.sat.le le, hO.le le⟩, ?_⟩
 refine zD rfl rfl (z9 (fi := []) (al := [_]) (ca := []) zxP (zxH hS hO p32 z32) rfl rfl rfl fun v32 G w L le1 hS hO hv => ?_)
 obtain ⟨aL, cL, lc, rfl, rfl, hrl⟩ := hv
 have le := le.trans le1
 have LE := LE.trans le1
 have hK := hK.mono le1
 have p28 := p28.mono zT le1
 have p29 := p29.mono xB le1
 refine ⟨fun _ _ => ⟨hS.sat.le le, (hO.drop 0).le le⟩, ?_⟩
 refine zD rfl rfl (yM (x := x) (e := 99) (e' := 99) (j := 28) (k := 2) zj9 hS hO rfl rfl rfl rfl p28.one (fun _ => p28) hK (fun i h0 h1 h2 => by omega) fun w cc hS hO hK qq => ⟨fun _ h => zR (by kernel_rfl) h, ?_⟩)
 have hO : Owns _ w w0.heap.size [⟨117, 3, x.Store.Lots.length, .slice aL x.Store.Lots.length cL, lc⟩, yj b2 z49, yj b cc] := hO
 refine zD rfl rfl (zY (zk vR rfl) rfl ⟨fun _ h => zR (by kernel_rfl) h, zD rfl rfl (zY (zk zoJ rfl) rfl ⟨fun _ h => zR (by kernel_rfl) h, ?_⟩)⟩)
 refine zD rfl rfl (yM (x := x) (e := 99) (e' := 99) (j := 29) (k := 2) zxE hS hO rfl rfl rfl rfl p29.one (fun _ => p29) hK (fun i h0 h1 h2 => by omega) fun w cc hS hO hK qq => ⟨fun _ h => zR (by kernel_rfl) h, ?_⟩)
 have hO : Owns _ w w0.heap.size [⟨117, 3, x.Store.Lots.length, .slice aL x.Store.Lots.length cL, lc⟩, yj b2 z49, yj b cc] := hO
 refine zD rfl rfl (zY (zk vR rfl) rfl ⟨fun _ h => zR (by kernel_rfl) h, zD rfl rfl (zY (zk zeX rfl) rfl ⟨fun _ h => zR (by kernel_rfl) h, ?_⟩)⟩)
 refine zD rfl rfl (yM (x := x) (e := 99) (e' := 32) (j := 32) (k := 2) zzG hS hO rfl rfl rfl rfl ⟨rfl, rfl⟩ (fun h => absurd rfl h) hK (fun i h0 h1 h2 => by omega) fun w cc hS hO hK qq => ⟨fun _ h => zR (by kernel_rfl) h, ?_⟩)
 have hO : Owns _ w w0.heap.size [⟨117, 3, x.Store.Lots.length, .slice aL x.Store.Lots.length cL, lc⟩, yj b2 z49, yj b cc] := hO
 refine qp (zd (zd (zb ?_)))
 refine za (zk vR rfl) rfl (za (zk zeX rfl) rfl (za (zo zrq rfl (zr hO (k := 2) rfl (j := 32) qq)) rfl (za (ji zrr rfl rfl rfl) rfl (za (zc (v := iV 0) rfl) rfl (ze ?_)))))
 refine zZ (fun F w => ∃ Fb G cc, F = qi Fb [(1, pV b), (2, pV b2)] ∧ Gle G0 G ∧ Since w0.heap.size G0 w0 G w ∧ Owns G w w0.heap.size [yj b2 z49, yj b cc] ∧ KI x 99 G cc) ?_ ?_
 ·refine zp (qh (qN x.Store.Lots.length (fun i F w => ∃ Fb G lc, F = qi Fb [(1, pV b), (2, pV b2), (79, iV (x.Store.Lots.length : Int)), (80, iV i)] ∧ Gle G0 G ∧ Since w0.heap.size G0 w0 G w ∧ Owns G w w0.heap.size [⟨117, 3, x.Store.Lots.length, .slice aL x.Store.Lots.length cL, lc⟩, yj b2 z49, yj b cc] ∧ KI x 32 G cc ∧ Rd yF 3 G lc x.Store.Lots) ?_ ?_ x.Store.Lots.length 0 _ _ (by omega) ⟨_, _, lc, zi _ _ ⟨rfl, rfl, rfl, rfl, trivial⟩, LE, hS, hO, hK, hrl⟩))
  ·rintro i F w hi ⟨Fb, G, lc, rfl, LE, hS, hO, hK, hrl⟩
   have hix : ix x.Store.Lots (i : Int) = some x.Store.Lots[i] := by simp [ix, List.getElem?_eq_getElem hi]
   refine zd (zb (za (zN rfl rfl) rfl (ze (zd (zQ (decide ((i : Int) < (x.Store.Lots.length : Int))) (by simpa using hi) rfl (zq ?_))))))
   refine zd (zp (zd (zb (za (zc (v := iV i) rfl) rfl (za (zf (v := iV i) rfl) rfl (ze ?_))))))
   have hS := hS.keep (zj _)
   have hO := hO.below (zj _)
   refine zM qw (fun _ w => Sat G w ∧ Owns G w w0.heap.size [⟨117, 3, x.Store.Lots.length, .slice aL x.Store.Lots.length cL, lc⟩, yj b2 z49, yj b cc]) (.fl 0 (.fl 1 (.fl 2 (.fl 3 (.fl 4 (.fl 5 (.fl 6 (.fl 7 (.fl 8 (.fl 9 (.fl 10 (.on 11 (.on 12 (.on 13 (.on 14 .nil))))))))))))))) (by kernel_rfl) rfl (by kernel_rfl) (fun _ => ⟨hS.sat, hO⟩) ?_
   refine zh rfl (fun w hw => zk vR rfl) rfl (zh rfl (fun w hw => zk zeX rfl) rfl (zh rfl (fun w hw => zo zrq rfl (zr hw.2 (k := 2) rfl (j := 32) qq)) rfl (zh rfl (fun w hw => zc rfl) rfl (zh rfl (fun w hw => zk vR rfl) rfl (zh rfl (fun w hw => zk zeX rfl) rfl (zh rfl (fun w hw => zo zrq rfl (zr hw.2 (k := 2) rfl (j := 32) qq)) rfl (zh rfl (fun w hw => zc rfl) rfl ?_)))))))
   refine q9 (k := 0) rfl zrr hO rfl rfl hrl hix rfl rfl rfl fun g o cs ha hcl hcc hR => ?_
   obtain ⟨ag, ng, cg, rfl, hgs⟩ := hR
   refine zh rfl (fun w hw => zk zoD rfl) rfl (zh rfl (fun w hw => zo zxF rfl (qR hw.2 (k := 0) rfl ha (i * 3) 0 (hcc 0 _ rfl))) rfl ?_)
   refine zD rfl rfl (zS ztv (ztu hS.sat ⟨ag, ng, cg, rfl, hgs⟩ (zg _ (List.getElem_mem hi))) rfl rfl fun v G1 w1 hg hv => ?_)
   have hS := hS.grow hg
   have hO := hO.grow hg
   have LE := LE.trans hg.le
   have hK := hK.mono hg.le
   have hrl := hrl.mono ya hg.le
   refine ⟨fun _ _ => ⟨hS.sat.le hg.le, hO.le hg.le⟩, ?_⟩
   refine zD rfl rfl (zqL (k := 0) zrr hO rfl rfl hrl hix rfl rfl rfl fun g2 o2 cs2 ha2 hcl2 hcc2 hR2 => ⟨fun _ h => zR (by kernel_rfl) h, ?_⟩)
   refine zD rfl rfl (zY (zk zoD rfl) rfl ⟨fun _ h => zR (by kernel_rfl) h, ?_⟩)
   obtain ⟨av, nv, cv, rfl, hvs⟩ := hv
   refine zD rfl rfl (yZ (vs := [.slice av nv cv]) (k := 0) (j := 0) (i := (i : Int)) (y := x.Store.Lots[i]) zxE hS hO rfl rfl rfl hrl ha2 hcl2 hcc2 (zjN hi) ?_ rfl rfl rfl rfl (zU rfl) (nQl rfl) fun w2 lc2 hS hO hrl2 => ⟨fun _ h => zR (by kernel_rfl) h, qp ?_⟩)
   ·obtain ⟨_, _, _, rfl, _⟩ := hR2
    exact ⟨av, nv, cv, rfl, hvs⟩
   ·refine zb (za (jz rfl rfl) rfl (za (zc (v := iV (IntKind.i64.wrap ((i : Int) + 1))) rfl) rfl (ze ?_)))
    exact ⟨_, G1, lc2, zi _ _ ⟨rfl, rfl, rfl, congrArg iV (zt9 (by omega)), trivial⟩, LE, hS, hO, hK, hrl2⟩
  ·rintro F w ⟨Fb, G, lc, rfl, LE, hS, hO, hK, hrl⟩
   refine qg (zd (zb (za (zN rfl rfl) rfl (ze (zd (zH _ (show decide ((x.Store.Lots.length : Int) < (x.Store.Lots.length : Int)) = false by simp) rfl (zW rfl ?_)))))))
   obtain ⟨G1, le1, hS, hO, hr⟩ := hO.freezeS hS ya (k := 0) rfl hrl rfl
   refine ⟨_, G1, cc, zi _ _ ⟨rfl, rfl, trivial⟩, LE.trans le1, hS, hO, hK.len, fun j v hj => ⟨(hK.at' j v hj).1, fun _ => ?_⟩⟩
   by_cases h32 : j = 32
   ·subst h32
    rw [qq] at hj
    cases hj
    exact ⟨_, _, _, rfl, hr⟩
   ·exact zmj le1 ((hK.at' j v hj).2 h32)
 rintro F w ⟨Fb, G, cc, rfl, LE, hS, hO, hK⟩
 refine zd ?_
 obtain ⟨u39, q39, p39⟩ := hK.get 39 rfl rfl
 refine zb (za (zk zoE rfl) rfl (za (zk zoI rfl) rfl (za (zo zzN rfl (zr hO (k := 1) rfl (j := 39) q39)) rfl ?_)))
 refine zm rfl (zS zxO (zxG hS.sat p39 z39) rfl rfl fun v39 G w hg p39 => ?_)
 have hS := hS.grow hg
 have hO := hO.grow hg
 have LE := LE.trans hg.le
 have hK := hK.mono hg.le
 refine za (zk zoE rfl) rfl (za (zk zoI rfl) rfl ?_)
 refine zm rfl (yM (x := x) (e := 99) (e' := 99) (j := 39) (k := 1) zzF hS hO rfl rfl rfl rfl p39.one (fun _ => p39) hK (fun i h0 h1 h2 => by omega) fun w cc hS hO hK qq => ze (zd ?_))
 have hO : Owns _ w w0.heap.size [yj b2 z49, yj b cc] := hO
 obtain ⟨u46, q46, p46⟩ := hK.get 46 rfl rfl
 obtain ⟨u47, q47, p47⟩ := hK.get 47 rfl rfl
 obtain ⟨u48, q48, p48⟩ := hK.get 48 rfl rfl
 have hS := hS.keep (zj _)
 have hO := hO.below (zj _)
 refine zM qw (fun _ w => Sat _ w ∧ Owns _ w w0.heap.size [yj b2 z49, yj b cc]) (.fl 0 (.fl 1 (.fl 2 (.fl 4 (.fl 5 (.fl 6 (.fl 8 (.fl 9 (.fl 10 (.on 3 (.fl 12 (.fl 13 (.on 7 (.on 11 (.on 14 (.on 15 (.on 16 (.on 17 (.on 18 (.on 19 (.on 20 .nil))))))))))))))))))))) (by kernel_rfl) rfl (by kernel_rfl) (fun _ => ⟨hS.sat, hO⟩) ?_
 refine zh rfl (fun w hw => zk zdf rfl) rfl (zh rfl (fun w hw => zk zoH rfl) rfl (zh rfl (fun w hw => zo zkb rfl (zr hw.2 (k := 1) rfl (j := 46) q46)) rfl (zh rfl (fun w hw => zk zdf rfl) rfl (zh rfl (fun w hw => zk zoG rfl) rfl (zh rfl (fun w hw => zo zkb rfl (zr hw.2 (k := 1) rfl (j := 47) q47)) rfl (zh rfl (fun w hw => zk zdf rfl) rfl (zh rfl (fun w hw => zk zoF rfl) rfl (zh rfl (fun w hw => zo zkb rfl (zr hw.2 (k := 1) rfl (j := 48) q48)) rfl (?_)))))))))
 have le := Gle.refl G
 refine zD rfl rfl (zS zeZ (zeY hS.sat p46 z46) rfl rfl fun v46 G w hg p46 => ?_)
 have hS := hS.grow hg
 have hO := hO.grow hg
 have le := le.trans hg.le
 have LE := LE.trans hg.le
 have hK := hK.mono hg.le
 have p47 := p47.mono zT hg.le
 have p48 := p48.mono zT hg.le
 refine ⟨fun _ _ => ⟨hS.sat.le le, hO.le le⟩, ?_⟩
 refine zh rfl (fun w hw => zk zdf rfl) rfl (zh rfl (fun w hw => zk zoH rfl) rfl ?_)
 refine zD rfl rfl (zS zeZ (zeY hS.sat p47 z47) rfl rfl fun v47 G w hg p47 => ?_)
 have hS := hS.grow hg
 have hO := hO.grow hg
 have le := le.trans hg.le
 have LE := LE.trans hg.le
 have hK := hK.mono hg.le
 have p46 := p46.mono zT hg.le
 have p48 := p48.mono zT hg.le
 refine ⟨fun _ _ => ⟨hS.sat.le le, hO.le le⟩, ?_⟩
 refine zD rfl rfl (zS zeZ (zeY hS.sat p48 z48) rfl rfl fun v48 G w hg p48 => ?_)
 have hS := hS.grow hg
 have hO := hO.grow hg
 have le := le.trans hg.le
 have LE := LE.trans hg.le
 have hK := hK.mono hg.le
 have p46 := p46.mono zT hg.le
 have p47 := p47.mono zT hg.le
 refine ⟨fun _ _ => ⟨hS.sat.le le, hO.le le⟩, ?_⟩
 refine zD rfl rfl (yM (x := x) (e := 99) (e' := 99) (j := 46) (k := 1) zj9 hS hO rfl rfl rfl rfl p46.one (fun _ => p46) hK (fun i h0 h1 h2 => by omega) fun w cc hS hO hK qq => ⟨fun _ h => zR (by kernel_rfl) h, ?_⟩)
 have hO : Owns _ w w0.heap.size [yj b2 z49, yj b cc] := hO
 refine zD rfl rfl (zY (zk zdf rfl) rfl ⟨fun _ h => zR (by kernel_rfl) h, zD rfl rfl (zY (zk zoG rfl) rfl ⟨fun _ h => zR (by kernel_rfl) h, ?_⟩)⟩)
 refine zD rfl rfl (yM (x := x) (e := 99) (e' := 99) (j := 47) (k := 1) zj9 hS hO rfl rfl rfl rfl p47.one (fun _ => p47) hK (fun i h0 h1 h2 => by omega) fun w cc hS hO hK qq => ⟨fun _ h => zR (by kernel_rfl) h, ?_⟩)
 have hO : Owns _ w w0.heap.size [yj b2 z49, yj b cc] := hO
 refine zD rfl rfl (zY (zk zdf rfl) rfl ⟨fun _ h => zR (by kernel_rfl) h, zD rfl rfl (zY (zk zoF rfl) rfl ⟨fun _ h => zR (by kernel_rfl) h, ?_⟩)⟩)
 refine zD rfl rfl (yM (x := x) (e := 99) (e' := 99) (j := 48) (k := 1) zj9 hS hO rfl rfl rfl rfl p48.one (fun _ => p48) hK (fun i h0 h1 h2 => by omega) fun w cc hS hO hK qq => ⟨fun _ h => zR (by kernel_rfl) h, ?_⟩)
 have hO : Owns _ w w0.heap.size [yj b2 z49, yj b cc] := hO
 refine qp (zd ?_)
 have cA : ∀ j v, cc[j]? = some v → w.cell? ⟨b, 0 + j, none⟩ = some v := fun j v hj => by rw [Nat.zero_add]; exact zr hO (k := 1) rfl hj
 refine zb (za (zu (cs := cc) ze0 rfl hK.len cA) rfl ?_)
 refine zm rfl (zG (vs := cc) zzE hS hO (k := 0) rfl rfl rfl rfl hK.len (fun u hu => ?_) (by rw [hK.len]; exact Nat.le_refl _) fun w hS hO => ze (zF ?_))
 ·obtain ⟨j, hj⟩ := List.getElem?_of_mem hu
  exact (hK.at' j u hj).1
 ·have e : qD z49 0 cc = cc := by
   unfold qD
   rw [List.take_zero, List.nil_append, List.drop_eq_nil_of_le (by rw [hK.len]; exact Nat.le_refl _), List.append_nil]
  rw [e] at hO
  have cB : ∀ j v, cc[j]? = some v → w.cell? ⟨b2, 0 + j, none⟩ = some v := fun j v hj => by rw [Nat.zero_add]; exact zr hO (k := 0) rfl hj
  exact ⟨[.agg cc.toArray], ⟨⟨_, rfl, vi (cs := cc) ze0 hK.len cB⟩, trivial⟩, _, _, rfl, hS.toGrow, cc, rfl, hK⟩
open Go.RowKit Sf
def ii (n : Nat) : List Ck := List.replicate n .i
def shT : List (Nat × List Ck) := [(3, ii 1), (192, ii 6), (195, ii 2), (197, ii 2), (200, ii 4), (202, ii 12), (156, ii 4), (23, ii 2), (117, [.s 23, .i, .i]), (115, [.i, .i, .b])]
noncomputable abbrev cT : Cx := ⟨Tryz.prog, shT⟩
def aty : List Ck := [.i, .i, .i, .i, .i, .i, .i, .i, .i, .i, .i, .i, .s 3, .s 192, .i, .i, .i, .s 195, .s 197, .s 200, .s 202, .i, .y 0, .i, .s 3, .s 3, .s 156, .i, .s 3, .s 23, .i, .i, .s 117, .i, .i, .i, .i, .i, .i, .s 115, .i, .i, .i, .i, .i, .i, .s 3, .s 3, .s 3, .i, .i]
section
variable {sh : Nat → Option (List Ck)} {ρ : Sf.Env} {G : Gm}
def Cks (d : Nat) : List Ck → List Value → Prop
 | [], [] => True
 | k :: l, v :: m => CkD sh G d k v ∧ Cks d l m
 | _, _ => False
theorem Cks.get {d : Nat} : ∀ {l : List Ck} {m : List Value}, Cks (sh := sh) (G := G) d l m → ∀ (j : Nat) k u, l[j]? = some k → m[j]? = some u → CkD sh G d k u
 | [], [], _, j, k, u, h, _ => by simp at h
 | k :: l, v :: m, h, 0, _, _, e1, e2 => by simp at e1 e2; subst e1; subst e2; exact h.1
 | k :: l, v :: m, h, j + 1, _, _, e1, e2 => h.2.get j _ _ (by simpa using e1) (by simpa using e2)
 | [], _ :: _, h, _, _, _, _, _ => h.elim
 | _ :: _, [], h, _, _, _, _, _ => h.elim
def Rks : List Ck → List Value → Prop
 | [], [] => True
 | k :: l, v :: m => CkR sh ρ G k v ∧ Rks l m
 | _, _ => False
theorem Rks.er : ∀ {l : List Ck} {m : List Value}, Rks (sh := sh) (ρ := ρ) (G := G) l m → ER sh ρ G l m
 | [], [], _ => ⟨rfl, fun j k u h _ => by simp at h⟩
 | k :: l, v :: m, h => by
  obtain ⟨h1, h2⟩ := h.2.er
  refine ⟨by simp [h1], fun j k u e1 e2 => ?_⟩
  cases j with
  | zero => simp at e1 e2; subst e1; subst e2; exact h.1
  | succ j => exact h2 j k u (by simpa using e1) (by simpa using e2)
 | [], _ :: _, h => h.elim
 | _ :: _, [], h => h.elim
theorem iI {n : Int} (h : okI n) : IsI (iV n) := ⟨n, rfl, h.1, by have := h.2; omega⟩
theorem zat {α : Type} {R : Gm → List Value → α → Prop} {ok : α → Prop} {sz e d : Nat} {l : List Ck} {a : Option Addr} {n c : Nat} {xs : List α} (hs : sh e = some l) (hl : l.length = sz) (hR : ∀ cs y, R G cs y → ok y → Cks (sh := sh) (G := G) d l cs) (h : RSl R sz G a n c xs) (hk : ∀ y ∈ xs, ok y) : CkD sh G (d + 1) (.s e) (.slice a n c) := by
 refine ⟨l, a, n, c, hs, rfl, h.2.1.1, fun i hi => ?_⟩
 obtain ⟨y, hy⟩ : ∃ y, xs[i]? = some y := ⟨xs[i]'(by have := h.1; omega), List.getElem?_eq_getElem _⟩
 obtain ⟨b, off, cs, h1, h2, h3, h4⟩ := h.2.2 i y hy
 subst hl
 exact ⟨b, off, cs, h1, h2, h3, (hR cs y h4 (hk y (List.mem_of_getElem? hy))).get⟩
theorem ER.part {l : List Ck} {m : List Value} (h : ER sh ρ G l m) (o k : Nat) : ER sh ρ G ((l.drop o).take k) ((m.drop o).take k) := by
 refine ⟨by simp [h.1], fun j q u e1 e2 => ?_⟩
 rw [List.getElem?_take] at e1 e2
 split at e1
 ·rename_i hj
  rw [if_pos hj, List.getElem?_drop] at e2
  rw [List.getElem?_drop] at e1
  exact h.2 _ q u e1 e2
 ·cases e1
theorem CkR.sl {e d : Nat} {v : Value} (h : CkD sh G d (.s e) v) : CkR sh ρ G (.s e) v := ⟨d, h⟩
theorem CkR.int {n : Int} (h : okI n) : CkR sh ρ G .i (iV n) := ⟨0, iI h⟩
end
section
variable {G : Gm}
theorem zeC {d : Nat} : ∀ cs y, yD G cs y → okI y → (Cks (sh := shp shT) (G := G)) d (ii 1) cs := by rintro cs y rfl h; exact ⟨by cases d <;> exact iI h, trivial⟩
theorem q_i {d : Nat} {n : Int} (h : okI n) : CkD (shp shT) G d .i (iV n) := by cases d <;> exact iI h
theorem zn1 {d : Nat} : ∀ cs y, xY G cs y → yX y → (Cks (sh := shp shT) (G := G)) d (ii 2) cs := by rintro cs y rfl ⟨h1, h2⟩; exact ⟨q_i h1, q_i h2, trivial⟩
theorem zq8 : ∀ cs y, qL G cs y → vN y → (Cks (sh := shp shT) (G := G)) 0 (ii 6) cs := by rintro cs y rfl ⟨⟨h1, h2⟩, ⟨h3, h4⟩, h5, h6⟩; exact ⟨q_i h1, q_i h2, q_i h3, q_i h4, q_i h5, q_i h6, trivial⟩
theorem zn2 : ∀ cs y, qB G cs y → vg y → (Cks (sh := shp shT) (G := G)) 0 (ii 2) cs := by rintro cs y rfl ⟨h1, h2⟩; exact ⟨q_i h1, q_i h2, trivial⟩
theorem zq9 : ∀ cs y, qM G cs y → vO y → (Cks (sh := shp shT) (G := G)) 0 (ii 2) cs := by rintro cs y rfl ⟨h1, h2⟩; exact ⟨q_i h1, q_i h2, trivial⟩
theorem zn3 : ∀ cs y, qC G cs y → vh y → (Cks (sh := shp shT) (G := G)) 0 (ii 4) cs := by rintro cs y rfl ⟨h1, h2, h3, h4⟩; exact ⟨q_i h1, q_i h2, q_i h3, q_i h4, trivial⟩
theorem zq7 : ∀ cs y, qK G cs y → vM y → (Cks (sh := shp shT) (G := G)) 0 (ii 12) cs := by
 rintro cs y rfl ⟨h1, h2, ⟨h3, h4⟩, h5, h6, ⟨h7, h8⟩, ⟨h9, h10⟩, h11, h12⟩
 exact ⟨q_i h1, q_i h2, q_i h3, q_i h4, q_i h5, q_i h6, q_i h7, q_i h8, q_i h9, q_i h10, q_i h11, q_i h12, trivial⟩
theorem zuu : ∀ cs y, yb G cs y → zaC y → (Cks (sh := shp shT) (G := G)) 0 (ii 4) cs := by rintro cs y rfl ⟨h1, h2, h3, h4⟩; exact ⟨q_i h1, q_i h2, q_i h3, q_i h4, trivial⟩
theorem zuv : ∀ cs y, zO G cs y → zaB y → (Cks (sh := shp shT) (G := G)) 0 [.i, .i, .b] cs := by rintro cs y rfl ⟨h1, h2, _⟩; exact ⟨q_i h1, q_i h2, ⟨_, rfl⟩, trivial⟩
theorem zxl : ∀ cs y, yF G cs y → zbM y → (Cks (sh := shp shT) (G := G)) 1 [.s 23, .i, .i] cs := by
 rintro cs y ⟨a, n, c, rfl, h⟩ ⟨h1, h2, h3⟩
 exact ⟨zat rfl rfl zn1 h h1, q_i h2, q_i h3, trivial⟩
theorem zqq {cc : List Value} {x : zC} (h : qc G cc x) (ok : qP x) : ER (shp shT) (fun _ => iV x.Reef.Seasons) G aty cc := by
 obtain ⟨b0, m0, d0, b1, m1, d1, b2, m2, d2, b3, m3, d3, b4, m4, d4, b5, m5, d5, b6, m6, d6, b7, m7, d7, b8, m8, d8, b9, m9, d9, b10, m10, d10, b11, m11, d11, b12, m12, d12, b13, m13, d13, b14, m14, d14, b15, m15, d15, rfl, h0, h1, h2, h3, h4, h5, h6, h7, h8, h9, h10, h11, h12, h13, h14, h15⟩ := h
 obtain ⟨⟨i1, ⟨i2, i3⟩, i4, i5, ⟨i6, i7⟩, ⟨i8, i9⟩, i10, i11, i12, l0, l1, i13, i14⟩, i15, ⟨l2, l3, l4⟩, ⟨l5, i16, i17⟩, ⟨i18, l6, l7, l8, i19⟩, ⟨l9, l10, ⟨i20, i21⟩, l11, i22⟩, ⟨i23, i24, i25, i26, i27, l12, i28, i29, i30, i31, i32⟩, ⟨i33, l13, l14, l15, i34⟩, i35⟩ := ok
 refine Rks.er (sh := shp shT) (G := G) ?_
 exact ⟨CkR.int i1, CkR.int i2, CkR.int i3, CkR.int i4, CkR.int i5, CkR.int i6, CkR.int i7, CkR.int i8, CkR.int i9, CkR.int i10, CkR.int i11, CkR.int i12, CkR.sl (zat rfl rfl (zeC (d := 0)) h0 l0), CkR.sl (zat rfl rfl zq8 h1 l1), CkR.int i13, CkR.int i14, CkR.int i15,
  CkR.sl (zat rfl rfl zn2 h2 l2), CkR.sl (zat rfl rfl zq9 h3 l3), CkR.sl (zat rfl rfl zn3 h4 l4), CkR.sl (zat rfl rfl zq7 h5 l5), CkR.int i16, ⟨rfl, iI i17⟩, CkR.int i18, CkR.sl (zat rfl rfl (zeC (d := 0)) h6 l6), CkR.sl (zat rfl rfl (zeC (d := 0)) h7 l7),
  CkR.sl (zat rfl rfl zuu h8 l8), CkR.int i19, CkR.sl (zat rfl rfl (zeC (d := 0)) h9 l9), CkR.sl (zat rfl rfl (zn1 (d := 0)) h10 l10), CkR.int i20, CkR.int i21, CkR.sl (zat rfl rfl zxl h11 l11), CkR.int i22, CkR.int i23, CkR.int i24, CkR.int i25, CkR.int i26, CkR.int i27,
  CkR.sl (zat rfl rfl zuv h12 l12), CkR.int i28, CkR.int i29, CkR.int i30, CkR.int i31, CkR.int i32, CkR.int i33, CkR.sl (zat rfl rfl (zeC (d := 0)) h13 l13), CkR.sl (zat rfl rfl (zeC (d := 0)) h14 l14), CkR.sl (zat rfl rfl (zeC (d := 0)) h15 l15), CkR.int i34, CkR.int i35, trivial⟩
end
theorem s13 : zg1 cT 200 17 1 [.agg aty] = some (.tst [.pos 0, .lt 0 (.lit 5)]) := by kernel_rfl
theorem zzA : zg1 cT 200 112 1 [.agg ((aty.drop 0).take 16)] = some .int := by kernel_rfl
theorem zzv : zg1 cT 200 113 1 [.agg ((aty.drop 17).take 3)] = some .int := by kernel_rfl
theorem zzy : zg1 cT 200 115 1 [.agg ((aty.drop 23).take 5)] = some .int := by kernel_rfl
theorem zzx : zg1 cT 200 116 1 [.agg ((aty.drop 28).take 6)] = some .int := by kernel_rfl
theorem zzz : zg1 cT 200 114 1 [.agg ((aty.drop 20).take 3)] = some .int := by kernel_rfl
theorem zzw : zg1 cT 200 118 1 [.agg ((aty.drop 45).take 5)] = some .int := by kernel_rfl
section
variable {G : Gm} {w : World} {cc : List Value} {x : zC}
theorem zt0 (hS : Sat G w) : Bd w.heap.size G := fun b o h => hS.lt h
theorem zbi {k o m : Nat} (hs : zg1 cT 200 k 1 [.agg ((aty.drop o).take m)] = some .int) (ho : zbv (fun a : Av => a.old 1 0 && !a.isGd) [Av.agg ((aty.drop o).take m)] = true) (hS : Sat G w) (h : qc G cc x) (ok : qP x) : ∃ n : Int, ∀ G1 w1, Gle G G1 → Sat G1 w1 → Calls Tryz.prog k [.agg ((cc.drop o).take m).toArray].toArray w1 (yL G1 w1 fun _ v => v = iV n) := by
 obtain ⟨v, ⟨n, hn, _⟩, h2⟩ := zkZ qw hs ho (ρ := fun _ => iV x.Reef.Seasons) (zt0 hS) (al := [.agg ((cc.drop o).take m).toArray]) (fun v hv => by obtain rfl := List.mem_singleton.1 hv; trivial) (.cons ⟨_, rfl, ER.part (zqq h ok) o m⟩ .nil)
 exact ⟨n, fun G1 w1 h3 h4 => by rw [← hn]; exact h2 G1 w1 h3 h4⟩
theorem zsq (hS : Sat G w) (h : qc G cc x) (ok : qP x) : ∃ b, (b = true → 0 < x.Reef.Seasons ∧ x.Reef.Seasons < 5) ∧ ∀ G1 w1, Gle G G1 → Sat G1 w1 → Calls Tryz.prog 17 [.agg cc.toArray].toArray w1 (yL G1 w1 fun _ v => v = .bool b) := by
 obtain ⟨v, ⟨b, hb, hf⟩, h2⟩ := zkZ qw s13 rfl (ρ := fun _ => iV x.Reef.Seasons) (zt0 hS) (al := [.agg cc.toArray]) (fun v hv => by obtain rfl := List.mem_singleton.1 hv; trivial) (.cons ⟨_, rfl, zqq h ok⟩ .nil)
 refine ⟨b, fun e => ?_, fun G1 w1 h3 h4 => by rw [← hb]; exact h2 G1 w1 h3 h4⟩
 have f1 := hf e (.pos 0) (by simp)
 have f2 := hf e (.lt 0 (.lit 5)) (by simp)
 exact ⟨f1, f2.1⟩
structure Det (G : Gm) (cc : List Value) (x : zC) (b : Bool) (e0 e1 e2 e3 e4 e6 : Int) : Prop where
 sn : b = true → 0 < x.Reef.Seasons ∧ x.Reef.Seasons < 5
 a : ∀ G1 w1, Gle G G1 → Sat G1 w1 → Calls Tryz.prog 17 [.agg cc.toArray].toArray w1 (yL G1 w1 fun _ v => v = .bool b)
 c0 : ∀ G1 w1, Gle G G1 → Sat G1 w1 → Calls Tryz.prog 112 [.agg ((cc.drop 0).take 16).toArray].toArray w1 (yL G1 w1 fun _ v => v = iV e0)
 c1 : ∀ G1 w1, Gle G G1 → Sat G1 w1 → Calls Tryz.prog 113 [.agg ((cc.drop 17).take 3).toArray].toArray w1 (yL G1 w1 fun _ v => v = iV e1)
 c2 : ∀ G1 w1, Gle G G1 → Sat G1 w1 → Calls Tryz.prog 114 [.agg ((cc.drop 20).take 3).toArray].toArray w1 (yL G1 w1 fun _ v => v = iV e2)
 c3 : ∀ G1 w1, Gle G G1 → Sat G1 w1 → Calls Tryz.prog 115 [.agg ((cc.drop 23).take 5).toArray].toArray w1 (yL G1 w1 fun _ v => v = iV e3)
 c4 : ∀ G1 w1, Gle G G1 → Sat G1 w1 → Calls Tryz.prog 116 [.agg ((cc.drop 28).take 6).toArray].toArray w1 (yL G1 w1 fun _ v => v = iV e4)
 c6 : ∀ G1 w1, Gle G G1 → Sat G1 w1 → Calls Tryz.prog 118 [.agg ((cc.drop 45).take 5).toArray].toArray w1 (yL G1 w1 fun _ v => v = iV e6)
theorem Det.mono {G' : Gm} {b : Bool} {e0 e1 e2 e3 e4 e6 : Int} (h : Det G cc x b e0 e1 e2 e3 e4 e6) (le : Gle G G') : Det G' cc x b e0 e1 e2 e3 e4 e6 :=
 ⟨h.sn, fun G1 w1 l => h.a G1 w1 (le.trans l), fun G1 w1 l => h.c0 G1 w1 (le.trans l), fun G1 w1 l => h.c1 G1 w1 (le.trans l), fun G1 w1 l => h.c2 G1 w1 (le.trans l), fun G1 w1 l => h.c3 G1 w1 (le.trans l), fun G1 w1 l => h.c4 G1 w1 (le.trans l), fun G1 w1 l => h.c6 G1 w1 (le.trans l)⟩
theorem zwy (hS : Sat G w) (h : qc G cc x) (ok : qP x) : ∃ b e0 e1 e2 e3 e4 e6, Det G cc x b e0 e1 e2 e3 e4 e6 := by
 obtain ⟨b, h0, h1⟩ := zsq hS h ok
 obtain ⟨e0, c0⟩ := zbi zzA rfl hS h ok
 obtain ⟨e1, c1⟩ := zbi zzv rfl hS h ok
 obtain ⟨e2, c2⟩ := zbi zzz rfl hS h ok
 obtain ⟨e3, c3⟩ := zbi zzy rfl hS h ok
 obtain ⟨e4, c4⟩ := zbi zzx rfl hS h ok
 obtain ⟨e6, c6⟩ := zbi zzw rfl hS h ok
 exact ⟨b, e0, e1, e2, e3, e4, e6, h0, h1, c0, c1, c2, c3, c4, c6⟩
end
def AllI (P : Nat → Value → Prop) : Nat → List Value → Prop
 | _, [] => True
 | i, v :: r => P i v ∧ AllI P (i + 1) r
theorem AllI.at' {P : Nat → Value → Prop} : ∀ {l : List Value} {i : Nat}, AllI P i l → ∀ j v, l[j]? = some v → P (i + j) v
 | [], _, _, _, _, h => by simp at h
 | x :: r, i, h, 0, v, hv => by simp at hv; subst hv; exact h.1
 | x :: r, i, h, j + 1, v, hv => by
  have := h.2.at' j v (by simpa using hv)
  rwa [show i + 1 + j = i + (j + 1) by omega] at this
theorem KI.of {G : Gm} {cc : List Value} {x : zC} (h : qc G cc x) : KI x 99 G cc ∧ cc[22]? = some (iV x.Reef.Seasons) ∧ cc[18]? = cc[18]? := by
 obtain ⟨b0, m0, d0, b1, m1, d1, b2, m2, d2, b3, m3, d3, b4, m4, d4, b5, m5, d5, b6, m6, d6, b7, m7, d7, b8, m8, d8, b9, m9, d9, b10, m10, d10, b11, m11, d11, b12, m12, d12, b13, m13, d13, b14, m14, d14, b15, m15, d15, rfl, h0, h1, h2, h3, h4, h5, h6, h7, h8, h9, h10, h11, h12, h13, h14, h15⟩ := h
 refine ⟨⟨rfl, fun j v hj => ?_⟩, rfl, rfl⟩
 have key : ∀ l, AllI (fun j v => v.oneCell' = true ∧ (j ≠ 99 → KQ x j G v)) 0 l → l[j]? = some v → v.oneCell' = true ∧ (j ≠ 99 → KQ x j G v) := fun l h hj => by have := h.at' j v hj; rwa [Nat.zero_add] at this
 exact key _ (by exact ⟨⟨rfl, fun _ => trivial⟩, ⟨rfl, fun _ => trivial⟩, ⟨rfl, fun _ => trivial⟩, ⟨rfl, fun _ => trivial⟩, ⟨rfl, fun _ => trivial⟩, ⟨rfl, fun _ => trivial⟩, ⟨rfl, fun _ => trivial⟩, ⟨rfl, fun _ => trivial⟩, ⟨rfl, fun _ => trivial⟩, ⟨rfl, fun _ => trivial⟩, ⟨rfl, fun _ => trivial⟩, ⟨rfl, fun _ => trivial⟩, ⟨rfl, fun _ => ⟨_, _, _, rfl, h0⟩⟩, ⟨rfl, fun _ => ⟨_, _, _, rfl, h1⟩⟩, ⟨rfl, fun _ => trivial⟩, ⟨rfl, fun _ => trivial⟩, ⟨rfl, fun _ => trivial⟩, ⟨rfl, fun _ => ⟨_, _, _, rfl, h2⟩⟩, ⟨rfl, fun _ => ⟨_, _, _, rfl, h3⟩⟩, ⟨rfl, fun _ => ⟨_, _, _, rfl, h4⟩⟩, ⟨rfl, fun _ => ⟨_, _, _, rfl, h5⟩⟩, ⟨rfl, fun _ => trivial⟩, ⟨rfl, fun _ => trivial⟩, ⟨rfl, fun _ => trivial⟩, ⟨rfl, fun _ => ⟨_, _, _, rfl, h6⟩⟩, ⟨rfl, fun _ => ⟨_, _, _, rfl, h7⟩⟩, ⟨rfl, fun _ => ⟨_, _, _, rfl, h8⟩⟩, ⟨rfl, fun _ => trivial⟩, ⟨rfl, fun _ => ⟨_, _, _, rfl, h9⟩⟩, ⟨rfl, fun _ => ⟨_, _, _, rfl, h10⟩⟩, ⟨rfl, fun _ => trivial⟩, ⟨rfl, fun _ => trivial⟩, ⟨rfl, fun _ => ⟨_, _, _, rfl, h11⟩⟩, ⟨rfl, fun _ => trivial⟩, ⟨rfl, fun _ => rfl⟩, ⟨rfl, fun _ => rfl⟩, ⟨rfl, fun _ => rfl⟩, ⟨rfl, fun _ => rfl⟩, ⟨rfl, fun _ => rfl⟩, ⟨rfl, fun _ => ⟨_, _, _, rfl, h12⟩⟩, ⟨rfl, fun _ => rfl⟩, ⟨rfl, fun _ => rfl⟩, ⟨rfl, fun _ => rfl⟩, ⟨rfl, fun _ => rfl⟩, ⟨rfl, fun _ => rfl⟩, ⟨rfl, fun _ => trivial⟩, ⟨rfl, fun _ => ⟨_, _, _, rfl, h13⟩⟩, ⟨rfl, fun _ => ⟨_, _, _, rfl, h14⟩⟩, ⟨rfl, fun _ => ⟨_, _, _, rfl, h15⟩⟩, ⟨rfl, fun _ => trivial⟩, ⟨rfl, fun _ => rfl⟩, trivial⟩) hj
theorem zvO : qx Tryz.prog 49 2 = some 17 := by kernel_rfl
theorem zAO : agB Tryz.prog 32 = some 3 := by kernel_rfl
theorem kn3 : naB Tryz.prog 3 = true := by kernel_rfl
theorem zsm : qx Tryz.prog 49 0 = some 0 := by kernel_rfl
theorem zsl : qx Tryz.prog 49 1 = some 16 := by kernel_rfl
theorem zsk : qx Tryz.prog 49 3 = some 20 := by kernel_rfl
theorem zsj : qx Tryz.prog 49 4 = some 23 := by kernel_rfl
theorem zsi : qx Tryz.prog 49 5 = some 28 := by kernel_rfl
theorem zsh : qx Tryz.prog 49 6 = some 34 := by kernel_rfl
theorem zsg : qx Tryz.prog 49 7 = some 45 := by kernel_rfl
theorem zsf : qx Tryz.prog 49 8 = some 50 := by kernel_rfl
theorem zyW : agB Tryz.prog 27 = some 16 := by kernel_rfl
theorem zyV : agB Tryz.prog 35 = some 3 := by kernel_rfl
theorem zyU : agB Tryz.prog 38 = some 5 := by kernel_rfl
theorem zyT : agB Tryz.prog 42 = some 6 := by kernel_rfl
theorem zyR : agB Tryz.prog 45 = some 11 := by kernel_rfl
theorem zyQ : agB Tryz.prog 47 = some 5 := by kernel_rfl
theorem zp3 : zJ Tryz.prog 111 = true := by kernel_rfl
theorem zwE : zJ Tryz.prog 112 = true := by kernel_rfl
theorem zwD : zJ Tryz.prog 114 = true := by kernel_rfl
theorem zwC : zJ Tryz.prog 115 = true := by kernel_rfl
theorem zwB : zJ Tryz.prog 116 = true := by kernel_rfl
theorem zwA : zJ Tryz.prog 117 = true := by kernel_rfl
theorem zwz : zJ Tryz.prog 118 = true := by kernel_rfl
theorem zwL : zJ Tryz.prog 113 = true := by kernel_rfl
theorem zm5 {G : Gm} {w : World} {cc : List Value} {x : zC} {r : Int} (hS : Sat G w) (h : qc G cc x) (H : zhF x.System = some r) : Calls Tryz.prog 117 [.agg ((cc.drop 34).take 11).toArray].toArray w (qW w (iV r)) := by
 obtain ⟨b0, m0, d0, b1, m1, d1, b2, m2, d2, b3, m3, d3, b4, m4, d4, b5, m5, d5, b6, m6, d6, b7, m7, d7, b8, m8, d8, b9, m9, d9, b10, m10, d10, b11, m11, d11, b12, m12, d12, b13, m13, d13, b14, m14, d14, b15, m15, d15, rfl, h0, h1, h2, h3, h4, h5, h6, h7, h8, h9, h10, h11, h12, h13, h14, h15⟩ := h
 exact zsH hS h12 H
theorem zmb {G : Gm} {cc : List Value} {x : zC} (h : qc G cc x) : cc.length = 51 := (KI.of h).1.len
theorem zjl {G : Gm} {cc : List Value} {x : zC} (h : qc G cc x) : cc[16]? = some (iV x.Tank) ∧ cc[50]? = some (iV x.Money) := by
 obtain ⟨b0, m0, d0, b1, m1, d1, b2, m2, d2, b3, m3, d3, b4, m4, d4, b5, m5, d5, b6, m6, d6, b7, m7, d7, b8, m8, d8, b9, m9, d9, b10, m10, d10, b11, m11, d11, b12, m12, d12, b13, m13, d13, b14, m14, d14, b15, m15, d15, rfl, _⟩ := h
 exact ⟨rfl, rfl⟩
theorem zlX (a b c : Int) : zsJ a b c = some (decide (b ≤ a ∧ a ≤ c)) := by
 unfold zsJ
 by_cases h : b ≤ a
 ·rw [if_pos (decide_eq_true h)]; simp [h]
 ·rw [if_neg (by simp [h])]; simp [h]
def tmB (x : zC) : Bool := decide (0 ≤ x.Tank ∧ x.Tank ≤ 1000000) && decide (0 ≤ x.Money ∧ x.Money ≤ 1000000000)
def zdr (x : zC) (e0 e1 e2 e3 e4 e5 e6 : Int) : Int := cond (tmB x && ([e0, e1, e2, e3, e4, e5, e6].all fun e => decide (e = 0))) 0 2
theorem znc {x : zC} {e0 e1 e2 e3 e4 e5 e6 : Int} (h : zdr x e0 e1 e2 e3 e4 e5 e6 = 0) : e5 = 0 := by
 unfold zdr at h
 cases h1 : (tmB x && ([e0, e1, e2, e3, e4, e5, e6].all fun e => decide (e = 0))) with
 | false => rw [h1] at h; cases h
 | true =>
  have := (Bool.and_eq_true_iff.1 h1).2
  exact of_decide_eq_true (List.all_eq_true.1 this e5 (by simp))
theorem zp8 {x : zC} {e0 e1 e2 e3 e4 e5 e6 y : Int} (h : y ∈ [e0, e1, e2, e3, e4, e5, e6]) (hy : y ≠ 0) : zdr x e0 e1 e2 e3 e4 e5 e6 = 2 := by
 unfold zdr
 have : ([e0, e1, e2, e3, e4, e5, e6].all fun e => decide (e = 0)) = false := by
  rw [Bool.eq_false_iff]
  intro hh
  exact hy (of_decide_eq_true (List.all_eq_true.1 hh y h))
 rw [this, Bool.and_false]; rfl
set_option maxHeartbeats 1000000 in
theorem zv1 {G0 : Gm} {w0 : World} (hS0 : Sat G0 w0) {cc : List Value} {x : zC} (hA : qc G0 cc x) (ok : qP x) {r : Int} (H : zhF x.System = some r) {b : Bool} {e0 e1 e2 e3 e4 e6 : Int} (hD : Det G0 cc x b e0 e1 e2 e3 e4 e6) :
  Calls Tryz.prog 50 [.agg cc.toArray].toArray w0 (yL G0 w0 fun _ v => v = iV (zdr x e0 e1 e2 e3 e4 r e6)) := by
 have hS := Since.start hS0
 have hl := zmb hA
 obtain ⟨t16, t50⟩ := zjl hA
 have okT := ok.2.1
 have okM : okI x.Money := ok.2.2.2.2.2.2.2.2
 refine qb (N := 43) (xZ _ _ _) Tryz.func50 rfl rfl rfl rfl (zd (zb (zm rfl (zP (v := fun b => pV b) (cs := cc) (e := 49) (qu rfl) hS.sat rfl fun b1 G1 w1 hg1 hc1 => ?_))))
 have hS := hS.grow hg1
 have hA := qv _ _ _ _ hg1.le hA
 refine za (zf (v := iV 0) rfl) rfl (ze (zd (zd ?_)))
 refine zZ (fun F w => ∃ Fb G, F = qi Fb [(1, pV b1), (14, .bool (!tmB x))] ∧ Gle G1 G ∧ Since w0.heap.size G0 w0 G w) ?_ ?_
 ·refine zb (za (zk zsl rfl) rfl (za (zo kn3 rfl (hS.sat.cell (hc1 16 _ t16))) rfl ?_))
  refine zm rfl (zy zp3 (zlW hS.sat (zlX _ _ _)) rfl rfl fun w hb => ?_)
  have hS := hS.keep hb
  refine za (qE rfl) rfl (za (zc (v := .bool (!decide (0 ≤ x.Tank ∧ x.Tank ≤ 1000000))) rfl) rfl ?_)
  cases hq : decide (0 ≤ x.Tank ∧ x.Tank ≤ 1000000) with
  | false =>
   refine qd rfl rfl rfl rfl rfl (qd rfl rfl rfl rfl rfl (qd rfl rfl rfl rfl rfl (qd rfl rfl rfl rfl rfl (za (v := .bool true) (by kernel_rfl) rfl (ze ?_)))))
   exact ⟨_, G1, zi _ _ ⟨rfl, by unfold tmB; rw [hq]; rfl, trivial⟩, Gle.refl _, hS⟩
  | true =>
   refine zl rfl rfl rfl rfl (za (zk zsf rfl) rfl (zl rfl rfl rfl rfl (za (zo kn3 rfl (hS.sat.cell (hc1 50 _ t50))) rfl (zl rfl rfl rfl rfl ?_))))
   refine zm rfl (zy zp3 (zlW hS.sat (zlX _ _ _)) rfl rfl fun w hb => ?_)
   have hS := hS.keep hb
   refine zl rfl rfl rfl rfl (za (qE rfl) rfl (za (v := .bool (!decide (0 ≤ x.Money ∧ x.Money ≤ 1000000000))) (by kernel_rfl) rfl (ze ?_)))
   exact ⟨_, G1, zi _ _ ⟨rfl, by unfold tmB; rw [hq]; rfl, trivial⟩, Gle.refl _, hS⟩
 ·rintro F w ⟨Fb, G2, rfl, le2, hS⟩
  have hD := (hD.mono hg1.le).mono le2
  refine zV rfl (fun hq => ?_) (fun hq => ?_)
  ·refine zd (zb (za (zf (v := iV 2) rfl) rfl (ze (zF ?_))))
   exact ⟨_, _, rfl, hS.toGrow, congrArg iV (by unfold zdr; rw [show tmB x = false by simpa using hq]; rfl)⟩
  ·have htm : tmB x = true := by simpa using hq
   have hS := hS.keep (zj w)
   have hc1 := hc1.mono le2
   have hA := qv _ _ _ _ le2 hA
   have prt : ∀ {w : World} (o m : Nat), Sat G2 w → ∀ (j : Nat) v, ((cc.drop o).take m)[j]? = some v → w.cell? ⟨b1, 0 + o + j, none⟩ = some v := fun o m hw j v hj => hw.cell (hc1.drop_take o m j v hj)
   have pl : ∀ o m, o + m ≤ 51 → ((cc.drop o).take m).length = m := fun o m h => by simp [hl]; omega
   refine zq (zd (zd (zM qw (fun _ w => Sat G2 w) (.fl 0 (.fl 1 (.fl 3 (.fl 4 (.fl 6 (.fl 7 (.fl 9 (.fl 10 (.fl 12 (.fl 13 (.fl 15 (.fl 16 (.fl 18 (.fl 19 (.fl 22 (.on 2 (.on 5 (.on 8 (.on 11 (.on 14 (.on 17 (.on 20 (.on 21 .nil))))))))))))))))))))))) (by kernel_rfl) rfl (by kernel_rfl) (fun _ => hS.sat) ?_)))
   refine zh rfl (fun w hw => zk zsm rfl) rfl (zh rfl (fun w hw => zu (cs := (cc.drop 0).take 16) zyW rfl (pl 0 16 (by decide)) (prt 0 16 hw)) rfl (zh rfl (fun w hw => zk zvO rfl) rfl (zh rfl (fun w hw => zu (cs := (cc.drop 17).take 3) zAO rfl (pl 17 3 (by decide)) (prt 17 3 hw)) rfl
    (zh rfl (fun w hw => zk zsk rfl) rfl (zh rfl (fun w hw => zu (cs := (cc.drop 20).take 3) zyV rfl (pl 20 3 (by decide)) (prt 20 3 hw)) rfl (zh rfl (fun w hw => zk zsj rfl) rfl (zh rfl (fun w hw => zu (cs := (cc.drop 23).take 5) zyU rfl (pl 23 5 (by decide)) (prt 23 5 hw)) rfl
    (zh rfl (fun w hw => zk zsi rfl) rfl (zh rfl (fun w hw => zu (cs := (cc.drop 28).take 6) zyT rfl (pl 28 6 (by decide)) (prt 28 6 hw)) rfl (zh rfl (fun w hw => zk zsh rfl) rfl (zh rfl (fun w hw => zu (cs := (cc.drop 34).take 11) zyR rfl (pl 34 11 (by decide)) (prt 34 11 hw)) rfl
    (zh rfl (fun w hw => zk zsg rfl) rfl (zh rfl (fun w hw => zu (cs := (cc.drop 45).take 5) zyQ rfl (pl 45 5 (by decide)) (prt 45 5 hw)) rfl (zh rfl (fun w hw => zc (v := iV 0) rfl) rfl ?_))))))))))))))
   have le3 := Gle.refl G2
   refine zD rfl rfl (zS zwE (hD.c0 _ _ le3 hS.sat) rfl rfl fun v G w hg hv => ?_)
   obtain rfl := hv
   have hS := hS.grow hg
   have le3 := le3.trans hg.le
   refine ⟨fun _ _ => hS.sat.le le3, ?_⟩
   refine zD rfl rfl (zS zwL (hD.c1 _ _ le3 hS.sat) rfl rfl fun v G w hg hv => ?_)
   obtain rfl := hv
   have hS := hS.grow hg
   have le3 := le3.trans hg.le
   refine ⟨fun _ _ => hS.sat.le le3, ?_⟩
   refine zD rfl rfl (zS zwD (hD.c2 _ _ le3 hS.sat) rfl rfl fun v G w hg hv => ?_)
   obtain rfl := hv
   have hS := hS.grow hg
   have le3 := le3.trans hg.le
   refine ⟨fun _ _ => hS.sat.le le3, ?_⟩
   refine zD rfl rfl (zS zwC (hD.c3 _ _ le3 hS.sat) rfl rfl fun v G w hg hv => ?_)
   obtain rfl := hv
   have hS := hS.grow hg
   have le3 := le3.trans hg.le
   refine ⟨fun _ _ => hS.sat.le le3, ?_⟩
   refine zD rfl rfl (zS zwB (hD.c4 _ _ le3 hS.sat) rfl rfl fun v G w hg hv => ?_)
   obtain rfl := hv
   have hS := hS.grow hg
   have le3 := le3.trans hg.le
   refine ⟨fun _ _ => hS.sat.le le3, ?_⟩
   refine zD rfl rfl (zy zwA (zm5 hS.sat (qv _ _ _ _ le3 hA) H) rfl rfl fun w hb => ?_)
   have hS := hS.keep hb
   refine ⟨fun _ _ => hS.sat.le le3, ?_⟩
   refine zD rfl rfl (zS zwz (hD.c6 _ _ le3 hS.sat) rfl rfl fun v G w hg hv => ?_)
   obtain rfl := hv
   have hS := hS.grow hg
   have le3 := le3.trans hg.le
   refine ⟨fun _ _ => hS.sat.le le3, ?_⟩
   refine zD rfl rfl (zY (v := .agg #[iV e0, iV e1, iV e2, iV e3, iV e4, iV r, iV e6]) (by kernel_rfl) rfl ⟨fun _ _ => hS.sat.le le3, qp ?_⟩)
   refine zp (qh (qN 7 (fun i F w => ∃ Fb, F = qi Fb [(36, .agg #[iV e0, iV e1, iV e2, iV e3, iV e4, iV r, iV e6]), (37, iV i)] ∧ Since w0.heap.size G0 w0 G w ∧ ∀ (j : Nat) y, j < i → [e0, e1, e2, e3, e4, r, e6][j]? = some y → y = 0) ?_ ?_ 7 0 _ _ rfl ⟨_, zi _ _ ⟨rfl, rfl, trivial⟩, hS, fun j y h => absurd h (Nat.not_lt_zero j)⟩))
   ·rintro i F w hi ⟨Fb, rfl, hS, hr⟩
    refine zd (zb (za (zN rfl rfl) rfl (ze (zd (zQ (decide ((i : Int) < 7)) (by simp; omega) rfl (zq ?_))))))
    have at_i : ∃ y, [e0, e1, e2, e3, e4, r, e6][i]? = some y ∧ ∀ (F' : Fr) (q : Value) (d : Option Nat) (ty : TypeId) (pos : String) (af : Array Edge) (gd : Option (Nat × Bool)) (w : World), (execOp (ev (upd (qi F' [(36, (.agg #[iV e0, iV e1, iV e2, iV e3, iV e4, iV r, iV e6])), (37, iV i)]) 38 q)) ⟨d, .index 215 (.tmp 36) (.tmp 37), ty, pos, af, gd⟩).run Tryz.prog w = .ok (.value (iV y)) w := by
     match i, hi with
     | 0, _ => exact ⟨e0, rfl, fun F' q d ty pos af gd w => by kernel_rfl⟩
     | 1, _ => exact ⟨e1, rfl, fun F' q d ty pos af gd w => by kernel_rfl⟩
     | 2, _ => exact ⟨e2, rfl, fun F' q d ty pos af gd w => by kernel_rfl⟩
     | 3, _ => exact ⟨e3, rfl, fun F' q d ty pos af gd w => by kernel_rfl⟩
     | 4, _ => exact ⟨e4, rfl, fun F' q d ty pos af gd w => by kernel_rfl⟩
     | 5, _ => exact ⟨r, rfl, fun F' q d ty pos af gd w => by kernel_rfl⟩
     | 6, _ => exact ⟨e6, rfl, fun F' q d ty pos af gd w => by kernel_rfl⟩
    obtain ⟨y, hy, run⟩ := at_i
    refine zd (zp (zd (zb (za (run _ _ _ _ _ _ _ _) rfl (za (zf (v := iV y) rfl) rfl (ze (zd (zb (za (zc (v := iV y) rfl) rfl (za (jy rfl rfl) rfl (ze (zV rfl (fun hb => ?_) (fun hb => ?_)))))))))))))
    ·refine zd (zb (za (zf (v := iV 2) rfl) rfl (ze (zF ?_))))
     exact ⟨_, _, rfl, hS.toGrow, congrArg iV (zp8 (List.mem_of_getElem? hy) (by simpa using hb)).symm⟩
    ·have hy0 : y = 0 := by simpa using hb
     refine zq (zb (za (jz rfl rfl) rfl (za (zc (v := iV (IntKind.i64.wrap ((i : Int) + 1))) rfl) rfl (ze ?_))))
     refine ⟨_, zi _ _ ⟨rfl, congrArg iV (xS (by omega)), trivial⟩, hS, fun j z hj hz => ?_⟩
     by_cases e : j = i
     ·subst e; rw [hy] at hz; cases hz; exact hy0
     ·exact hr j z (by omega) hz
   ·rintro F w ⟨Fb, rfl, hS, hr⟩
    refine qg (zd (zb (za (zN rfl rfl) rfl (ze (zd (zH _ (show decide (((7 : Nat) : Int) < 7) = false by decide) rfl (zW rfl ?_)))))))
    refine zd (zb (za (zf (v := iV 0) rfl) rfl (ze (zF ?_))))
    refine ⟨_, _, rfl, hS.toGrow, congrArg iV ?_⟩
    unfold zdr
    rw [htm, Bool.true_and, List.all_eq_true.2 fun y hy => decide_eq_true (by obtain ⟨j, hj⟩ := List.getElem?_of_mem hy; exact hr j y (List.getElem?_eq_some_iff.1 hj).1 hj)]
    rfl
theorem zAo {G : Gm} {w : World} {cc : List Value} {x : zC} {r : Bool} (hS : Sat G w) (h : qc G cc x) (H : f16 x = some r) : Calls Tryz.prog 16 [.agg cc.toArray].toArray w (qW w (.bool r)) := by
 obtain ⟨b0, m0, d0, b1, m1, d1, b2, m2, d2, b3, m3, d3, b4, m4, d4, b5, m5, d5, b6, m6, d6, b7, m7, d7, b8, m8, d8, b9, m9, d9, b10, m10, d10, b11, m11, d11, b12, m12, d12, b13, m13, d13, b14, m14, d14, b15, m15, d15, rfl, h0, h1, h2, h3, h4, h5, h6, h7, h8, h9, h10, h11, h12, h13, h14, h15⟩ := h
 exact zwe hS h0 h1 h2 h3 h4 h5 h6 h7 h8 h9 h10 h11 h12 h13 h14 h15 H
theorem zz0 : zJ Tryz.prog 16 = true := by kernel_rfl
theorem zzZ : zJ Tryz.prog 17 = true := by kernel_rfl
theorem zzW : zJ Tryz.prog 50 = true := by kernel_rfl
theorem zxN : zJ Tryz.prog 51 = true := by kernel_rfl
theorem zzY : zJ Tryz.prog 18 = true := by kernel_rfl
theorem zuM : qx Tryz.prog 35 2 = some 2 := by kernel_rfl
theorem zzU : ∃ by', slB Tryz.prog 24 = some (3, 1, by') ∧ Nat.ble by' 65536 = true := ⟨8, by kernel_rfl, rfl⟩
theorem zxD : ((Tryz.prog.info? 3).bind fun i => i.zero.map fun v => v.cells.toList) = some [iV 0] := by kernel_rfl
theorem zti {cc : List Value} (h : cc.length = 51) : ∃ f : Nat → Value, cc = (List.range 51).map f := by
 refine ⟨fun i => (cc[i]?).getD undef, List.ext_getElem? fun i => ?_⟩
 by_cases hi : i < 51
 ·have e := List.getElem?_eq_getElem (l := cc) (i := i) (by omega)
  rw [List.getElem?_map, List.getElem?_range hi, Option.map_some, e]; rfl
 ·rw [List.getElem?_eq_none (by omega), List.getElem?_eq_none (by simp; omega)]
abbrev t87 (v : Value) : List Value := [iV 0, iV 0, iV 0, v, .slice none 0 0, .slice none 0 0, .slice none 0 0, .bool false, .slice none 0 0, .slice none 0 0, .bool true]
theorem zl0 {G : Gm} {x : zC} {f : Nat → Value} {v : Value} (hK : KI x 99 G ((List.range 51).map f)) : CoP G ((List.range 51).map f ++ t87 v) (.slice none 0 0) x.System 0 0 x.Money := by
 have h50 : ((List.range 51).map f)[50]? = some (iV x.Money) := by obtain ⟨_, h50, rfl⟩ := hK.get 50 rfl rfl; exact h50
 have h34 : ((List.range 51).map f)[34]? = some (iV x.System.Sunny) := by obtain ⟨_, h, rfl⟩ := hK.get 34 rfl rfl; exact h
 have h35 : ((List.range 51).map f)[35]? = some (iV x.System.Cloudy) := by obtain ⟨_, h, rfl⟩ := hK.get 35 rfl rfl; exact h
 have h36 : ((List.range 51).map f)[36]? = some (iV x.System.Size) := by obtain ⟨_, h, rfl⟩ := hK.get 36 rfl rfl; exact h
 have h37 : ((List.range 51).map f)[37]? = some (iV x.System.Fade) := by obtain ⟨_, h, rfl⟩ := hK.get 37 rfl rfl; exact h
 have h38 : ((List.range 51).map f)[38]? = some (iV x.System.Start) := by obtain ⟨_, h, rfl⟩ := hK.get 38 rfl rfl; exact h
 have h40 : ((List.range 51).map f)[40]? = some (iV x.System.Days) := by obtain ⟨_, h, rfl⟩ := hK.get 40 rfl rfl; exact h
 have h41 : ((List.range 51).map f)[41]? = some (iV x.System.Window) := by obtain ⟨_, h, rfl⟩ := hK.get 41 rfl rfl; exact h
 have h42 : ((List.range 51).map f)[42]? = some (iV x.System.Most) := by obtain ⟨_, h, rfl⟩ := hK.get 42 rfl rfl; exact h
 have h43 : ((List.range 51).map f)[43]? = some (iV x.System.Panel) := by obtain ⟨_, h, rfl⟩ := hK.get 43 rfl rfl; exact h
 have h44 : ((List.range 51).map f)[44]? = some (iV x.System.Battery) := by obtain ⟨_, h, rfl⟩ := hK.get 44 rfl rfl; exact h
 obtain ⟨_, q1, a1, n1, c1, rfl, h1⟩ := hK.get 39 rfl rfl
 refine ⟨rfl, rfl, rfl, (List.getElem?_append_left (by simp)).trans h50, rfl, rfl, a1, n1, c1, fun j v hj => ?_, h1⟩
 match j, hj with
 | 0, hj => obtain rfl := nQs hj; exact (List.getElem?_append_left (by simp)).trans h34
 | 1, hj => obtain rfl := nQs hj; exact (List.getElem?_append_left (by simp)).trans h35
 | 2, hj => obtain rfl := nQs hj; exact (List.getElem?_append_left (by simp)).trans h36
 | 3, hj => obtain rfl := nQs hj; exact (List.getElem?_append_left (by simp)).trans h37
 | 4, hj => obtain rfl := nQs hj; exact (List.getElem?_append_left (by simp)).trans h38
 | 5, hj => obtain rfl := nQs hj; exact (List.getElem?_append_left (by simp)).trans q1
 | 6, hj => obtain rfl := nQs hj; exact (List.getElem?_append_left (by simp)).trans h40
 | 7, hj => obtain rfl := nQs hj; exact (List.getElem?_append_left (by simp)).trans h41
 | 8, hj => obtain rfl := nQs hj; exact (List.getElem?_append_left (by simp)).trans h42
 | 9, hj => obtain rfl := nQs hj; exact (List.getElem?_append_left (by simp)).trans h43
 | 10, hj => obtain rfl := nQs hj; exact (List.getElem?_append_left (by simp)).trans h44
 | j + 11, hj => simp at hj
set_option maxHeartbeats 2000000 in
theorem zwd {B : Nat} {G0 : Gm} {w0 : World} {Gc : Gm} {wc : World} {L : List Row} {cc : List Value} {x : zC} {r : Int} (hS : Since B G0 w0 Gc wc) (hO : Owns Gc wc B L) (hA : qc Gc cc x) (ok : qP x) (hk : Kl x) (H : zhF x.System = some r) (hs : 0 ≤ x.Reef.Seasons ∧ x.Reef.Seasons ≤ 1000) {b : Bool} {e0 e1 e2 e3 e4 e6 : Int} (hD : Det Gc cc x b e0 e1 e2 e3 e4 e6) :
  Calls Tryz.prog 18 [.agg cc.toArray].toArray wc (jP B G0 w0 Gc wc (fun G' L' v => (∃ e, e ≠ 0 ∧ zdr x e0 e1 e2 e3 e4 r e6 ≠ 0 ∧ v = .tuple #[.pointer none, iV e] ∧ L' = L) ∨ (zdr x e0 e1 e2 e3 e4 r e6 = 0 ∧ ∃ b cc', v = .tuple #[pV b, iV 0] ∧ L' = rowC b cc' :: rowA 0 (.slice none 0 0) [] :: L ∧ CoP G' cc' (.slice none 0 0) x.System 0 0 x.Money))) := by
 have hK := (KI.of hA).1
 have h22 := (KI.of hA).2.1
 refine yP (N := 18) (rs := [.tmp 2, .tmp 3]) hO.base Tryz.func18 rfl rfl rfl rfl (zd (zb ?_))
 refine zm rfl (zP (v := fun b => pV b) (cs := cc) (e := 49) (qu rfl) hS.sat rfl fun b1 G1 w1 hg1 hc1 => ?_)
 have hS := hS.grow hg1
 have hO := hO.grow hg1
 have hA := qv _ _ _ _ hg1.le hA
 have hK := hK.mono hg1.le
 refine za (zf (v := .pointer none) rfl) rfl (za (zf (v := iV 0) rfl) rfl (ze (zd (zd (zb (za (zu (cs := cc) ze0 rfl hK.len fun j v hj => hS.sat.cell (hc1 j v hj)) rfl ?_))))))
 have hL1 := hg1.le
 refine zm rfl (zS zzW (zv1 hS.sat hA ok H (hD.mono hg1.le)) rfl rfl fun v G1 w2 hgE hv => ?_)
 obtain ⟨e, he0⟩ : ∃ e, zdr x e0 e1 e2 e3 e4 r e6 = e := ⟨_, rfl⟩
 rw [he0] at hv ⊢
 subst hv
 have hS := hS.grow hgE
 have hO := hO.grow hgE
 have hL1 := hL1.trans hgE.le
 have hc1 := hc1.mono hgE.le
 have hK := hK.mono hgE.le
 refine za (zf (v := iV e) rfl) rfl (ze (zd (zb (za (zc (v := iV e) rfl) rfl (za (jy rfl rfl) rfl (ze (zV rfl (fun hb => ?_) (fun hb => ?_))))))))
 ·refine zd (zb (za (zc (v := iV e) rfl) rfl (za (zf (v := .pointer none) rfl) rfl (za (zf (v := iV e) rfl) rfl (ze (zF ?_))))))
  exact ⟨[.pointer none, iV e], ⟨rfl, rfl, trivial⟩, G1, _, hL1, hS, hO, .inl ⟨e, by simpa using hb, by simpa using hb, rfl, rfl⟩⟩
 ·have he : e = 0 := by simpa using hb
  subst he
  obtain ⟨s1, s2⟩ := hs
  obtain ⟨by24, l24, hby⟩ := zzU
  have hS := hS.keep (zj w2)
  have hO := hO.below (zj w2)
  have hmk : mkS x.Reef.Seasons (0 : Int) = some (List.replicate x.Reef.Seasons.toNat 0) := by unfold mkS; rw [if_pos ⟨s1, by omega⟩]
  refine zq (zd (zM qw (fun _ w => Sat G1 w) (.fl 0 (.fl 2 (.fl 3 (.fl 4 (.two 1 (.on 5 (.on 6 (.on 7 (.on 8 (.on 9 .nil))))) 5 (.on 1 (.on 6 (.on 7 (.on 8 (.on 9 .nil)))))))))) (by kernel_rfl) rfl (by kernel_rfl) (fun _ => hS.sat) ?_))
  refine zh rfl (fun w hw => zu (cs := cc) ze0 rfl hK.len fun j v hj => hw.cell (hc1 j v hj)) rfl (zh rfl (fun w hw => zk zkc rfl) rfl (zh rfl (fun w hw => zk zuM rfl) rfl (zh rfl (fun w hw => zo kn3 rfl (hw.cell (hc1 22 _ h22))) rfl (zwS ?_ ?_))))
  ·refine zD rfl rfl (zS zxN (zpv hS.sat hK hk) rfl rfl fun v G2 w3 hg2 hv => ?_)
   obtain ⟨c2, rfl, hK2⟩ := hv
   have hS := hS.grow hg2
   have hO := hO.grow hg2
   refine ⟨fun _ _ => hS.sat.le hg2.le, ?_⟩
   refine zD rfl rfl (zjv (R := yD) (x := (0 : Int)) (z := [iV 0]) l24 zxD hS hO hmk (rfl : yD G2 [iV 0] 0) rfl rfl rfl hby fun bP w4 cP hS hO hr => ?_)
   have hO := hO.drop 0
   refine ⟨fun _ _ => hS.sat.le hg2.le, ?_⟩
   obtain ⟨f, rfl⟩ := zti hK2.len
   refine zD rfl rfl (zY (v := .agg ((List.range 51).map f ++ t87 (.slice (some ⟨bP, 0, none⟩) (List.replicate x.Reef.Seasons.toNat (0 : Int)).length (List.replicate x.Reef.Seasons.toNat (0 : Int)).length)).toArray) (by kernel_rfl) rfl ⟨fun _ h => zR (by kernel_rfl) h, ?_⟩)
   have hO := hO.cons_nil 266 1
   refine zD rfl rfl (z7 (v := fun b => pV b) (e := 106) (qu rfl) hS.sat hO rfl 62 1 rfl (by decide) fun b w5 hb hO => ⟨fun _ h => zR (by kernel_rfl) h, ?_⟩)
   have hS := hS.keep hb
   refine zD rfl rfl (zY (zf (v := pV b) rfl) rfl ⟨fun _ h => zR (by kernel_rfl) h, zD rfl rfl (zY (zf (v := iV 0) rfl) rfl ⟨fun _ h => zR (by kernel_rfl) h, qp (zF ?_)⟩)⟩)
   exact ⟨[pV b, iV 0], ⟨rfl, rfl, trivial⟩, G2, _, hL1.trans hg2.le, hS, hO, .inr ⟨rfl, b, _, rfl, rfl, zl0 hK2⟩⟩
  ·refine zD rfl rfl (zjv (R := yD) (x := (0 : Int)) (z := [iV 0]) l24 zxD hS hO hmk (rfl : yD G1 [iV 0] 0) rfl rfl rfl hby fun bP w4 cP hS hO hr => ?_)
   have hO := hO.drop 0
   refine ⟨fun _ _ => hS.sat, ?_⟩
   refine zD rfl rfl (zS zxN (zpv hS.sat hK hk) rfl rfl fun v G2 w3 hg2 hv => ?_)
   obtain ⟨c2, rfl, hK2⟩ := hv
   have hS := hS.grow hg2
   have hO := hO.grow hg2
   refine ⟨fun _ _ => hS.sat.le hg2.le, ?_⟩
   obtain ⟨f, rfl⟩ := zti hK2.len
   refine zD rfl rfl (zY (v := .agg ((List.range 51).map f ++ t87 (.slice (some ⟨bP, 0, none⟩) (List.replicate x.Reef.Seasons.toNat (0 : Int)).length (List.replicate x.Reef.Seasons.toNat (0 : Int)).length)).toArray) (by kernel_rfl) rfl ⟨fun _ h => zR (by kernel_rfl) h, ?_⟩)
   have hO := hO.cons_nil 266 1
   refine zD rfl rfl (z7 (v := fun b => pV b) (e := 106) (qu rfl) hS.sat hO rfl 62 1 rfl (by decide) fun b w5 hb hO => ⟨fun _ h => zR (by kernel_rfl) h, ?_⟩)
   have hS := hS.keep hb
   refine zD rfl rfl (zY (zf (v := pV b) rfl) rfl ⟨fun _ h => zR (by kernel_rfl) h, zD rfl rfl (zY (zf (v := iV 0) rfl) rfl ⟨fun _ h => zR (by kernel_rfl) h, qp (zF ?_)⟩)⟩)
   exact ⟨[pV b, iV 0], ⟨rfl, rfl, trivial⟩, G2, _, hL1.trans hg2.le, hS, hO, .inr ⟨rfl, b, _, rfl, rfl, zl0 hK2⟩⟩
def opE (x : zC) (b1 b : Bool) (r e0 e1 e2 e3 e4 e6 : Int) : Bool := b1 && (b && decide (zdr x e0 e1 e2 e3 e4 r e6 = 0))
set_option maxHeartbeats 1000000 in
theorem zpw {B : Nat} {G0 : Gm} {w0 : World} {Gc : Gm} {wc : World} {L : List Row} {cc : List Value} {x : zC} {b1 : Bool} {r : Int} (hS : Since B G0 w0 Gc wc) (hO : Owns Gc wc B L) (hA : qc Gc cc x) (ok : qP x)
  (H12 : f16 x = some b1) (H26 : b1 = true → zhF x.System = some r) (hk : b1 = true → Kl x) {b : Bool} {e0 e1 e2 e3 e4 e6 : Int} (hD : Det Gc cc x b e0 e1 e2 e3 e4 e6) :
  Calls Tryz.prog 4 [.agg cc.toArray].toArray wc (jP B G0 w0 Gc wc (fun G' L' v => (v = .pointer none ∧ L' = L ∧ opE x b1 b r e0 e1 e2 e3 e4 e6 = false) ∨ (opE x b1 b r e0 e1 e2 e3 e4 e6 = true ∧ ∃ b cc', v = pV b ∧ L' = rowC b cc' :: rowA 0 (.slice none 0 0) [] :: L ∧ CoP G' cc' (.slice none 0 0) x.System 0 0 x.Money))) := by
 have hl := (KI.of hA).1.len
 refine yP (N := 21) (rs := [.tmp 2]) hO.base Tryz.func4 rfl rfl rfl rfl (zd (zb ?_))
 refine zm rfl (zP (v := fun b => pV b) (cs := cc) (e := 49) (qu rfl) hS.sat rfl fun b0 G1 w1 hg1 hc1 => ?_)
 have hS := hS.grow hg1
 have hO := hO.grow hg1
 have hA := qv _ _ _ _ hg1.le hA
 refine za (zf (v := .pointer none) rfl) rfl (ze (zd (zd (zb (za (zu (cs := cc) ze0 rfl hl fun j v hj => hS.sat.cell (hc1 j v hj)) rfl ?_)))))
 refine zm rfl (zy zz0 (zAo hS.sat hA H12) rfl rfl fun w2 hb => ?_)
 have hS := hS.keep hb
 have hO := hO.below hb
 refine za (v := .bool (!b1)) (qE rfl) rfl (za (zc (v := .bool (!b1)) rfl) rfl ?_)
 cases b1
 ·refine qd rfl rfl rfl rfl rfl (qd rfl rfl rfl rfl rfl (qd rfl rfl rfl rfl rfl (za (v := .bool true) (by kernel_rfl) rfl (ze (zQ true rfl rfl ?_)))))
  refine zd (zb (za (zf (v := .pointer none) rfl) rfl (ze (zF ?_))))
  exact ⟨[.pointer none], ⟨rfl, trivial⟩, G1, _, hg1.le, hS, hO, .inl ⟨rfl, rfl, rfl⟩⟩
 ·have hk := hk rfl
  refine zl rfl rfl rfl rfl (za (zu (cs := cc) ze0 rfl hl fun j v hj => hS.sat.cell (hc1 j v hj)) rfl (zl rfl rfl rfl rfl ?_))
  have hL1 := hg1.le
  refine zm rfl (zS zzZ (hD.a _ _ hg1.le hS.sat) rfl rfl fun v G1 w3 hgE hv => ?_)
  obtain rfl := hv
  have hS := hS.grow hgE
  have hO := hO.grow hgE
  have hL1 := hL1.trans hgE.le
  have hc1 := hc1.mono hgE.le
  have hA := qv _ _ _ _ hgE.le hA
  refine zl rfl rfl rfl rfl (za (v := .bool (!b)) (qE rfl) rfl (za (v := .bool (!b)) (by kernel_rfl) rfl (ze ?_)))
  cases b
  ·refine zQ true rfl rfl (zd (zb (za (zf (v := .pointer none) rfl) rfl (ze (zF ?_)))))
   exact ⟨[.pointer none], ⟨rfl, trivial⟩, G1, _, hL1, hS, hO, .inl ⟨rfl, rfl, rfl⟩⟩
  ·refine zH false rfl rfl (zq (zd (zb (za (zu (cs := cc) ze0 rfl hl fun j v hj => hS.sat.cell (hc1 j v hj)) rfl ?_))))
   refine zm rfl (z9 (fi := []) (al := [.agg cc.toArray]) (ca := []) zzY (zwd hS hO hA ok hk (H26 rfl) (by have := hD.sn rfl; omega) (hD.mono hL1)) rfl rfl rfl fun v G2 w4 L2 le2 hS hO hv => ?_)
   rcases hv with ⟨e, he, he2, rfl, e2⟩ | ⟨he2, b, cc', rfl, rfl, hc⟩
   ·have e2 := e2.symm
    subst e2
    refine za (zc (v := .tuple #[.pointer none, iV e]) rfl) rfl (za (zL rfl rfl) rfl (za (zL rfl rfl) rfl (za (zf (v := .pointer none) rfl) rfl (za (zf (v := iV e) rfl) rfl (ze ?_)))))
    refine zd (zd (zb (za (zc (v := iV e) rfl) rfl (za (jy rfl rfl) rfl (ze (zQ (e != 0) (by simpa using he) rfl ?_))))))
    refine zd (zb (za (zf (v := .pointer none) rfl) rfl (ze (zF ?_))))
    exact ⟨[.pointer none], ⟨rfl, trivial⟩, G2, _, hL1.trans le2, hS, hO, .inl ⟨rfl, rfl, (by show (true && (true && decide (_ = (0 : Int)))) = false; rw [decide_eq_false he2]; rfl)⟩⟩
   ·refine za (zc (v := .tuple #[pV b, iV 0]) rfl) rfl (za (zL rfl rfl) rfl (za (zL rfl rfl) rfl (za (zf (v := pV b) rfl) rfl (za (zf (v := iV 0) rfl) rfl (ze ?_)))))
    refine zd (zd (zb (za (zc (v := iV 0) rfl) rfl (za (jy rfl rfl) rfl (ze (zH false rfl rfl (zq ?_)))))))
    refine zd (zb (za (zc (v := pV b) rfl) rfl (za (zf (v := pV b) rfl) rfl (ze (zF ?_)))))
    exact ⟨[pV b], ⟨rfl, trivial⟩, G2, _, hL1.trans le2, hS, hO, .inr ⟨(by show (true && (true && decide (_ = (0 : Int)))) = true; rw [he2]; rfl), b, cc', rfl, rfl, hc⟩⟩
end Go.Proofs.YtihedfkcccaonaaGreatDoor
