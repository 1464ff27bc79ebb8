/-
 The council: what looks at an atoll answers.
-/
import Derived.Test.YtcapocmenjcnhaaGreatDoorOp
import Derived.Test.YtcapocmenjcnhaaGreatDoorSf2
import Derived.Test.YtcapocmenjcnhaaGreatDoorGy
set_option linter.unusedVariables false
set_option linter.unusedSimpArgs false
namespace Go.Proofs.YtcapocmenjcnhaaGreatDoor
open Go.RowKit Sf
set_option maxRecDepth 20000
def ii (n : Nat) : List Ck := List.replicate n .i
def shT : List (Nat × List Ck) := [(3, ii 1), (193, ii 6), (196, ii 2), (198, ii 2), (201, ii 4), (70, ii 12), (142, ii 4), (23, ii 2), (108, [.s 23, .i, .i]), (207, [.i, .i, .b])]
noncomputable abbrev cT : Cx := ⟨Tryz.prog, shT⟩
def aty : List Ck := [.i, .i, .i, .i, .i, .i, .i, .i, .i, .i, .i, .i, .s 3, .s 193, .i, .i, .i, .s 196, .s 198, .s 201, .s 70, .i, .y 0, .i, .s 3, .s 3, .s 142, .i, .s 3, .s 23, .i, .i, .s 108, .i, .i, .i, .i, .i, .i, .s 207, .i, .i, .i, .i, .i, .i, .s 3, .s 3, .s 3, .i, .i]
section
variable {sh : Nat → Option (List Ck)} {ρ : Sf.Env} {G : Gm}
def Cks (d : Nat) : List Ck → List Value → Prop
 | [], [] => True
 | k :: l, v :: m => CkD sh G d k v ∧ Cks d l m
 | _, _ => False
theorem Cks.get {d : Nat} : ∀ {l : List Ck} {m : List Value}, Cks (sh := sh) (G := G) d l m → ∀ (j : Nat) k u, l[j]? = some k → m[j]? = some u → CkD sh G d k u
 | [], [], _, j, k, u, h, _ => by simp at h
 | k :: l, v :: m, h, 0, _, _, e1, e2 => by simp at e1 e2; subst e1; subst e2; exact h.1
 | k :: l, v :: m, h, j + 1, _, _, e1, e2 => h.2.get j _ _ (by simpa using e1) (by simpa using e2)
 | [], _ :: _, h, _, _, _, _, _ => h.elim
 | _ :: _, [], h, _, _, _, _, _ => h.elim
def Rks : List Ck → List Value → Prop
 | [], [] => True
 | k :: l, v :: m => CkR sh ρ G k v ∧ Rks l m
 | _, _ => False
theorem Rks.er : ∀ {l : List Ck} {m : List Value}, Rks (sh := sh) (ρ := ρ) (G := G) l m → ER sh ρ G l m
 | [], [], _ => ⟨rfl, fun j k u h _ => by simp at h⟩
 | k :: l, v :: m, h => by
  obtain ⟨h1, h2⟩ := h.2.er
  refine ⟨by simp [h1], fun j k u e1 e2 => ?_⟩
  cases j with
  | zero => simp at e1 e2; subst e1; subst e2; exact h.1
  | succ j => exact h2 j k u (by simpa using e1) (by simpa using e2)
 | [], _ :: _, h => h.elim
 | _ :: _, [], h => h.elim
theorem iI {n : Int} (h : okI n) : IsI (iV n) := ⟨n, rfl, h.1, by have := h.2; omega⟩
theorem zaL {α : Type} {R : Gm → List Value → α → Prop} {ok : α → Prop} {sz e d : Nat} {l : List Ck} {a : Option Addr} {n c : Nat} {xs : List α} (hs : sh e = some l) (hl : l.length = sz) (hR : ∀ cs y, R G cs y → ok y → Cks (sh := sh) (G := G) d l cs) (h : RSl R sz G a n c xs) (hk : ∀ y ∈ xs, ok y) : CkD sh G (d + 1) (.s e) (.slice a n c) := by
 refine ⟨l, a, n, c, hs, rfl, h.2.1.1, fun i hi => ?_⟩
 obtain ⟨y, hy⟩ : ∃ y, xs[i]? = some y := ⟨xs[i]'(by have := h.1; omega), List.getElem?_eq_getElem _⟩
 obtain ⟨b, off, cs, h1, h2, h3, h4⟩ := h.2.2 i y hy
 subst hl
 exact ⟨b, off, cs, h1, h2, h3, (hR cs y h4 (hk y (List.mem_of_getElem? hy))).get⟩
theorem ER.part {l : List Ck} {m : List Value} (h : ER sh ρ G l m) (o k : Nat) : ER sh ρ G ((l.drop o).take k) ((m.drop o).take k) := by
 refine ⟨by simp [h.1], fun j q u e1 e2 => ?_⟩
 rw [List.getElem?_take] at e1 e2
 split at e1
 ·rename_i hj
  rw [if_pos hj, List.getElem?_drop] at e2
  rw [List.getElem?_drop] at e1
  exact h.2 _ q u e1 e2
 ·cases e1
theorem CkR.sl {e d : Nat} {v : Value} (h : CkD sh G d (.s e) v) : CkR sh ρ G (.s e) v := ⟨d, h⟩
theorem CkR.int {n : Int} (h : okI n) : CkR sh ρ G .i (iV n) := ⟨0, iI h⟩
end
section
variable {G : Gm}
theorem zeU {d : Nat} : ∀ cs y, zW G cs y → okI y → (Cks (sh := shp shT) (G := G)) d (ii 1) cs := by rintro cs y rfl h; exact ⟨by cases d <;> exact iI h, trivial⟩
theorem q_i {d : Nat} {n : Int} (h : okI n) : CkD (shp shT) G d .i (iV n) := by cases d <;> exact iI h
theorem zlU {d : Nat} : ∀ cs y, yM G cs y → xp y → (Cks (sh := shp shT) (G := G)) d (ii 2) cs := by rintro cs y rfl ⟨h1, h2⟩; exact ⟨q_i h1, q_i h2, trivial⟩
theorem ztX : ∀ cs y, qV G cs y → zaj y → (Cks (sh := shp shT) (G := G)) 0 (ii 6) cs := by rintro cs y rfl ⟨⟨h1, h2⟩, ⟨h3, h4⟩, h5, h6⟩; exact ⟨q_i h1, q_i h2, q_i h3, q_i h4, q_i h5, q_i h6, trivial⟩
theorem zsW : ∀ cs y, qG G cs y → vB y → (Cks (sh := shp shT) (G := G)) 0 (ii 2) cs := by rintro cs y rfl ⟨h1, h2⟩; exact ⟨q_i h1, q_i h2, trivial⟩
theorem ztY : ∀ cs y, qW G cs y → zak y → (Cks (sh := shp shT) (G := G)) 0 (ii 2) cs := by rintro cs y rfl ⟨h1, h2⟩; exact ⟨q_i h1, q_i h2, trivial⟩
theorem zsX : ∀ cs y, qH G cs y → vC y → (Cks (sh := shp shT) (G := G)) 0 (ii 4) cs := by rintro cs y rfl ⟨h1, h2, h3, h4⟩; exact ⟨q_i h1, q_i h2, q_i h3, q_i h4, trivial⟩
theorem ztW : ∀ cs y, zE G cs y → zai y → (Cks (sh := shp shT) (G := G)) 0 (ii 12) cs := by
 rintro cs y rfl ⟨h1, h2, ⟨h3, h4⟩, h5, h6, ⟨h7, h8⟩, ⟨h9, h10⟩, h11, h12⟩
 exact ⟨q_i h1, q_i h2, q_i h3, q_i h4, q_i h5, q_i h6, q_i h7, q_i h8, q_i h9, q_i h10, q_i h11, q_i h12, trivial⟩
theorem zvO : ∀ cs y, yo G cs y → zaV y → (Cks (sh := shp shT) (G := G)) 0 (ii 4) cs := by rintro cs y rfl ⟨h1, h2, h3, h4⟩; exact ⟨q_i h1, q_i h2, q_i h3, q_i h4, trivial⟩
theorem zvP : ∀ cs y, yn G cs y → zaU y → (Cks (sh := shp shT) (G := G)) 0 [.i, .i, .b] cs := by rintro cs y rfl ⟨h1, h2, _⟩; exact ⟨q_i h1, q_i h2, ⟨_, rfl⟩, trivial⟩
theorem zyd : ∀ cs y, yR G cs y → zb8 y → (Cks (sh := shp shT) (G := G)) 1 [.s 23, .i, .i] cs := by
 rintro cs y ⟨a, n, c, rfl, h⟩ ⟨h1, h2, h3⟩
 exact ⟨zaL rfl rfl zlU h h1, q_i h2, q_i h3, trivial⟩
theorem znp {cc : List Value} {x : zJ} (h : qh G cc x) (ok : q9 x) : ER (shp shT) (fun _ => iV x.Reef.Seasons) G aty cc := by
 obtain ⟨b0, m0, d0, b1, m1, d1, b2, m2, d2, b3, m3, d3, b4, m4, d4, b5, m5, d5, b6, m6, d6, b7, m7, d7, b8, m8, d8, b9, m9, d9, b10, m10, d10, b11, m11, d11, b12, m12, d12, b13, m13, d13, b14, m14, d14, b15, m15, d15, rfl, h0, h1, h2, h3, h4, h5, h6, h7, h8, h9, h10, h11, h12, h13, h14, h15⟩ := h
 obtain ⟨⟨i1, ⟨i2, i3⟩, i4, i5, ⟨i6, i7⟩, ⟨i8, i9⟩, i10, i11, i12, l0, l1, i13, i14⟩, i15, ⟨l2, l3, l4⟩, ⟨l5, i16, i17⟩, ⟨i18, l6, l7, l8, i19⟩, ⟨l9, l10, ⟨i20, i21⟩, l11, i22⟩, ⟨i23, i24, i25, i26, i27, l12, i28, i29, i30, i31, i32⟩, ⟨i33, l13, l14, l15, i34⟩, i35⟩ := ok
 refine Rks.er (sh := shp shT) (G := G) ?_
 exact ⟨CkR.int i1, CkR.int i2, CkR.int i3, CkR.int i4, CkR.int i5, CkR.int i6, CkR.int i7, CkR.int i8, CkR.int i9, CkR.int i10, CkR.int i11, CkR.int i12, CkR.sl (zaL rfl rfl (zeU (d := 0)) h0 l0), CkR.sl (zaL rfl rfl ztX h1 l1), CkR.int i13, CkR.int i14, CkR.int i15,
  CkR.sl (zaL rfl rfl zsW h2 l2), CkR.sl (zaL rfl rfl ztY h3 l3), CkR.sl (zaL rfl rfl zsX h4 l4), CkR.sl (zaL rfl rfl ztW h5 l5), CkR.int i16, ⟨rfl, iI i17⟩, CkR.int i18, CkR.sl (zaL rfl rfl (zeU (d := 0)) h6 l6), CkR.sl (zaL rfl rfl (zeU (d := 0)) h7 l7),
  CkR.sl (zaL rfl rfl zvO h8 l8), CkR.int i19, CkR.sl (zaL rfl rfl (zeU (d := 0)) h9 l9), CkR.sl (zaL rfl rfl (zlU (d := 0)) h10 l10), CkR.int i20, CkR.int i21, CkR.sl (zaL rfl rfl zyd h11 l11), CkR.int i22, CkR.int i23, CkR.int i24, CkR.int i25, CkR.int i26, CkR.int i27,
  CkR.sl (zaL rfl rfl zvP h12 l12), CkR.int i28, CkR.int i29, CkR.int i30, CkR.int i31, CkR.int i32, CkR.int i33, CkR.sl (zaL rfl rfl (zeU (d := 0)) h13 l13), CkR.sl (zaL rfl rfl (zeU (d := 0)) h14 l14), CkR.sl (zaL rfl rfl (zeU (d := 0)) h15 l15), CkR.int i34, CkR.int i35, trivial⟩
end
theorem s13 : zhf cT 200 14 1 [.agg aty] = some (.tst [.pos 0, .lt 0 (.lit 5)]) := by kernel_rfl
theorem zzH : zhf cT 200 115 1 [.agg ((aty.drop 0).take 16)] = some .int := by kernel_rfl
theorem zzC : zhf cT 200 116 1 [.agg ((aty.drop 17).take 3)] = some .int := by kernel_rfl
theorem zzG : zhf cT 200 118 1 [.agg ((aty.drop 23).take 5)] = some .int := by kernel_rfl
theorem zzF : zhf cT 200 119 1 [.agg ((aty.drop 28).take 6)] = some .int := by kernel_rfl
theorem zzE : zhf cT 200 120 1 [.agg ((aty.drop 34).take 11)] = some .int := by kernel_rfl
theorem zzD : zhf cT 200 121 1 [.agg ((aty.drop 45).take 5)] = some .int := by kernel_rfl
section
variable {G : Gm} {w : World} {cc : List Value} {x : zJ}
theorem zoK (hS : Sat G w) : Bd w.heap.size G := fun b o h => hS.lt h
theorem zbD {k o m : Nat} (hs : zhf cT 200 k 1 [.agg ((aty.drop o).take m)] = some .int) (ho : zbN (fun a : Av => a.old 1 0 && !a.isGd) [Av.agg ((aty.drop o).take m)] = true) (hS : Sat G w) (h : qh G cc x) (ok : q9 x) : ∃ n : Int, ∀ G1 w1, Gle G G1 → Sat G1 w1 → Calls Tryz.prog k [.agg ((cc.drop o).take m).toArray].toArray w1 (yP G1 w1 fun _ v => v = iV n) := by
 obtain ⟨v, ⟨n, hn, _⟩, h2⟩ := zke qA hs ho (ρ := fun _ => iV x.Reef.Seasons) (zoK hS) (al := [.agg ((cc.drop o).take m).toArray]) (fun v hv => by obtain rfl := List.mem_singleton.1 hv; trivial) (.cons ⟨_, rfl, ER.part (znp h ok) o m⟩ .nil)
 exact ⟨n, fun G1 w1 h3 h4 => by rw [← hn]; exact h2 G1 w1 h3 h4⟩
theorem zu9 (hS : Sat G w) (h : qh G cc x) (ok : q9 x) : ∃ b, (b = true → 0 < x.Reef.Seasons ∧ x.Reef.Seasons < 5) ∧ ∀ G1 w1, Gle G G1 → Sat G1 w1 → Calls Tryz.prog 14 [.agg cc.toArray].toArray w1 (yP G1 w1 fun _ v => v = .bool b) := by
 obtain ⟨v, ⟨b, hb, hf⟩, h2⟩ := zke qA s13 rfl (ρ := fun _ => iV x.Reef.Seasons) (zoK hS) (al := [.agg cc.toArray]) (fun v hv => by obtain rfl := List.mem_singleton.1 hv; trivial) (.cons ⟨_, rfl, znp h ok⟩ .nil)
 refine ⟨b, fun e => ?_, fun G1 w1 h3 h4 => by rw [← hb]; exact h2 G1 w1 h3 h4⟩
 have f1 := hf e (.pos 0) (by simp)
 have f2 := hf e (.lt 0 (.lit 5)) (by simp)
 exact ⟨f1, f2.1⟩
structure Det (G : Gm) (cc : List Value) (x : zJ) (b : Bool) (e0 e1 e3 e4 e5 e6 : Int) : Prop where
 sn : b = true → 0 < x.Reef.Seasons ∧ x.Reef.Seasons < 5
 a : ∀ G1 w1, Gle G G1 → Sat G1 w1 → Calls Tryz.prog 14 [.agg cc.toArray].toArray w1 (yP G1 w1 fun _ v => v = .bool b)
 c0 : ∀ G1 w1, Gle G G1 → Sat G1 w1 → Calls Tryz.prog 115 [.agg ((cc.drop 0).take 16).toArray].toArray w1 (yP G1 w1 fun _ v => v = iV e0)
 c1 : ∀ G1 w1, Gle G G1 → Sat G1 w1 → Calls Tryz.prog 116 [.agg ((cc.drop 17).take 3).toArray].toArray w1 (yP G1 w1 fun _ v => v = iV e1)
 c3 : ∀ G1 w1, Gle G G1 → Sat G1 w1 → Calls Tryz.prog 118 [.agg ((cc.drop 23).take 5).toArray].toArray w1 (yP G1 w1 fun _ v => v = iV e3)
 c4 : ∀ G1 w1, Gle G G1 → Sat G1 w1 → Calls Tryz.prog 119 [.agg ((cc.drop 28).take 6).toArray].toArray w1 (yP G1 w1 fun _ v => v = iV e4)
 c5 : ∀ G1 w1, Gle G G1 → Sat G1 w1 → Calls Tryz.prog 120 [.agg ((cc.drop 34).take 11).toArray].toArray w1 (yP G1 w1 fun _ v => v = iV e5)
 c6 : ∀ G1 w1, Gle G G1 → Sat G1 w1 → Calls Tryz.prog 121 [.agg ((cc.drop 45).take 5).toArray].toArray w1 (yP G1 w1 fun _ v => v = iV e6)
theorem Det.mono {G' : Gm} {b : Bool} {e0 e1 e3 e4 e5 e6 : Int} (h : Det G cc x b e0 e1 e3 e4 e5 e6) (le : Gle G G') : Det G' cc x b e0 e1 e3 e4 e5 e6 :=
 ⟨h.sn, fun G1 w1 l => h.a G1 w1 (le.trans l), fun G1 w1 l => h.c0 G1 w1 (le.trans l), fun G1 w1 l => h.c1 G1 w1 (le.trans l), fun G1 w1 l => h.c3 G1 w1 (le.trans l), fun G1 w1 l => h.c4 G1 w1 (le.trans l), fun G1 w1 l => h.c5 G1 w1 (le.trans l), fun G1 w1 l => h.c6 G1 w1 (le.trans l)⟩
theorem zxL (hS : Sat G w) (h : qh G cc x) (ok : q9 x) : ∃ b e0 e1 e3 e4 e5 e6, Det G cc x b e0 e1 e3 e4 e5 e6 := by
 obtain ⟨b, h0, h1⟩ := zu9 hS h ok
 obtain ⟨e0, c0⟩ := zbD zzH rfl hS h ok
 obtain ⟨e1, c1⟩ := zbD zzC rfl hS h ok
 obtain ⟨e3, c3⟩ := zbD zzG rfl hS h ok
 obtain ⟨e4, c4⟩ := zbD zzF rfl hS h ok
 obtain ⟨e5, c5⟩ := zbD zzE rfl hS h ok
 obtain ⟨e6, c6⟩ := zbD zzD rfl hS h ok
 exact ⟨b, e0, e1, e3, e4, e5, e6, h0, h1, c0, c1, c3, c4, c5, c6⟩
end
end Go.Proofs.YtcapocmenjcnhaaGreatDoor
/-
 The council: an atoll is looked at.
-/
namespace Go.Proofs.YtcapocmenjcnhaaGreatDoor
open Go.RowKit Sf
set_option maxRecDepth 20000
def AllI (P : Nat → Value → Prop) : Nat → List Value → Prop
 | _, [] => True
 | i, v :: r => P i v ∧ AllI P (i + 1) r
theorem AllI.at' {P : Nat → Value → Prop} : ∀ {l : List Value} {i : Nat}, AllI P i l → ∀ j v, l[j]? = some v → P (i + j) v
 | [], _, _, _, _, h => by simp at h
 | x :: r, i, h, 0, v, hv => by simp at hv; subst hv; exact h.1
 | x :: r, i, h, j + 1, v, hv => by
  have := h.2.at' j v (by simpa using hv)
  rwa [show i + 1 + j = i + (j + 1) by omega] at this
theorem KI.of {G : Gm} {cc : List Value} {x : zJ} (h : qh G cc x) : KI x 99 G cc ∧ cc[22]? = some (iV x.Reef.Seasons) ∧ cc[18]? = cc[18]? := by
 obtain ⟨b0, m0, d0, b1, m1, d1, b2, m2, d2, b3, m3, d3, b4, m4, d4, b5, m5, d5, b6, m6, d6, b7, m7, d7, b8, m8, d8, b9, m9, d9, b10, m10, d10, b11, m11, d11, b12, m12, d12, b13, m13, d13, b14, m14, d14, b15, m15, d15, rfl, h0, h1, h2, h3, h4, h5, h6, h7, h8, h9, h10, h11, h12, h13, h14, h15⟩ := h
 refine ⟨⟨rfl, fun j v hj => ?_⟩, rfl, rfl⟩
 have key : ∀ l, AllI (fun j v => v.oneCell' = true ∧ (j ≠ 99 → KQ x j G v)) 0 l → l[j]? = some v → v.oneCell' = true ∧ (j ≠ 99 → KQ x j G v) := fun l h hj => by have := h.at' j v hj; rwa [Nat.zero_add] at this
 exact key _ (by exact ⟨⟨rfl, fun _ => trivial⟩, ⟨rfl, fun _ => trivial⟩, ⟨rfl, fun _ => trivial⟩, ⟨rfl, fun _ => trivial⟩, ⟨rfl, fun _ => trivial⟩, ⟨rfl, fun _ => trivial⟩, ⟨rfl, fun _ => trivial⟩, ⟨rfl, fun _ => trivial⟩, ⟨rfl, fun _ => trivial⟩, ⟨rfl, fun _ => trivial⟩, ⟨rfl, fun _ => trivial⟩, ⟨rfl, fun _ => trivial⟩, ⟨rfl, fun _ => ⟨_, _, _, rfl, h0⟩⟩, ⟨rfl, fun _ => ⟨_, _, _, rfl, h1⟩⟩, ⟨rfl, fun _ => trivial⟩, ⟨rfl, fun _ => trivial⟩, ⟨rfl, fun _ => trivial⟩, ⟨rfl, fun _ => ⟨_, _, _, rfl, h2⟩⟩, ⟨rfl, fun _ => ⟨_, _, _, rfl, h3⟩⟩, ⟨rfl, fun _ => ⟨_, _, _, rfl, h4⟩⟩, ⟨rfl, fun _ => ⟨_, _, _, rfl, h5⟩⟩, ⟨rfl, fun _ => rfl⟩, ⟨rfl, fun _ => rfl⟩, ⟨rfl, fun _ => trivial⟩, ⟨rfl, fun _ => ⟨_, _, _, rfl, h6⟩⟩, ⟨rfl, fun _ => ⟨_, _, _, rfl, h7⟩⟩, ⟨rfl, fun _ => ⟨_, _, _, rfl, h8⟩⟩, ⟨rfl, fun _ => trivial⟩, ⟨rfl, fun _ => ⟨_, _, _, rfl, h9⟩⟩, ⟨rfl, fun _ => ⟨_, _, _, rfl, h10⟩⟩, ⟨rfl, fun _ => trivial⟩, ⟨rfl, fun _ => trivial⟩, ⟨rfl, fun _ => ⟨_, _, _, rfl, h11⟩⟩, ⟨rfl, fun _ => trivial⟩, ⟨rfl, fun _ => trivial⟩, ⟨rfl, fun _ => trivial⟩, ⟨rfl, fun _ => trivial⟩, ⟨rfl, fun _ => trivial⟩, ⟨rfl, fun _ => trivial⟩, ⟨rfl, fun _ => ⟨_, _, _, rfl, h12⟩⟩, ⟨rfl, fun _ => trivial⟩, ⟨rfl, fun _ => trivial⟩, ⟨rfl, fun _ => trivial⟩, ⟨rfl, fun _ => trivial⟩, ⟨rfl, fun _ => trivial⟩, ⟨rfl, fun _ => trivial⟩, ⟨rfl, fun _ => ⟨_, _, _, rfl, h13⟩⟩, ⟨rfl, fun _ => ⟨_, _, _, rfl, h14⟩⟩, ⟨rfl, fun _ => ⟨_, _, _, rfl, h15⟩⟩, ⟨rfl, fun _ => trivial⟩, ⟨rfl, fun _ => rfl⟩, trivial⟩) hj
theorem zw8 : qB Tryz.prog 49 2 = some 17 := by kernel_rfl
theorem zA2 : agB Tryz.prog 32 = some 3 := by kernel_rfl
theorem kn3 : naB Tryz.prog 3 = true := by kernel_rfl
theorem zuU : qB Tryz.prog 49 0 = some 0 := by kernel_rfl
theorem zuT : qB Tryz.prog 49 1 = some 16 := by kernel_rfl
theorem zuS : qB Tryz.prog 49 3 = some 20 := by kernel_rfl
theorem zuR : qB Tryz.prog 49 4 = some 23 := by kernel_rfl
theorem zuQ : qB Tryz.prog 49 5 = some 28 := by kernel_rfl
theorem zuP : qB Tryz.prog 49 6 = some 34 := by kernel_rfl
theorem zuO : qB Tryz.prog 49 7 = some 45 := by kernel_rfl
theorem zuN : qB Tryz.prog 49 8 = some 50 := by kernel_rfl
theorem zy9 : agB Tryz.prog 27 = some 16 := by kernel_rfl
theorem zy8 : agB Tryz.prog 35 = some 3 := by kernel_rfl
theorem zy7 : agB Tryz.prog 38 = some 5 := by kernel_rfl
theorem zy6 : agB Tryz.prog 42 = some 6 := by kernel_rfl
theorem zy5 : agB Tryz.prog 45 = some 11 := by kernel_rfl
theorem zy4 : agB Tryz.prog 47 = some 5 := by kernel_rfl
theorem zna : zN Tryz.prog 114 = true := by kernel_rfl
theorem zxR : zN Tryz.prog 115 = true := by kernel_rfl
theorem zxQ : zN Tryz.prog 117 = true := by kernel_rfl
theorem zxP : zN Tryz.prog 118 = true := by kernel_rfl
theorem zxO : zN Tryz.prog 119 = true := by kernel_rfl
theorem zxN : zN Tryz.prog 120 = true := by kernel_rfl
theorem zxM : zN Tryz.prog 121 = true := by kernel_rfl
theorem zxU : zN Tryz.prog 116 = true := by kernel_rfl
theorem zsx {G : Gm} {w : World} {cc : List Value} {x : zJ} {r : Int} (hS : Sat G w) (h : qh G cc x) (H : zhK x.Reef = some r) : Calls Tryz.prog 117 [.agg ((cc.drop 20).take 3).toArray].toArray w (qQ w (iV r)) := by
 obtain ⟨b0, m0, d0, b1, m1, d1, b2, m2, d2, b3, m3, d3, b4, m4, d4, b5, m5, d5, b6, m6, d6, b7, m7, d7, b8, m8, d8, b9, m9, d9, b10, m10, d10, b11, m11, d11, b12, m12, d12, b13, m13, d13, b14, m14, d14, b15, m15, d15, rfl, h0, h1, h2, h3, h4, h5, h6, h7, h8, h9, h10, h11, h12, h13, h14, h15⟩ := h
 exact zvj hS h5 H
theorem zlo {G : Gm} {cc : List Value} {x : zJ} (h : qh G cc x) : cc.length = 51 := (KI.of h).1.len
theorem zi4 {G : Gm} {cc : List Value} {x : zJ} (h : qh G cc x) : cc[16]? = some (iV x.Tank) ∧ cc[50]? = some (iV x.Money) := by
 obtain ⟨b0, m0, d0, b1, m1, d1, b2, m2, d2, b3, m3, d3, b4, m4, d4, b5, m5, d5, b6, m6, d6, b7, m7, d7, b8, m8, d8, b9, m9, d9, b10, m10, d10, b11, m11, d11, b12, m12, d12, b13, m13, d13, b14, m14, d14, b15, m15, d15, rfl, _⟩ := h
 exact ⟨rfl, rfl⟩
theorem zla (a b c : Int) : ziM a b c = some (decide (b ≤ a ∧ a ≤ c)) := by
 unfold ziM
 by_cases h : b ≤ a
 ·rw [if_pos (decide_eq_true h)]; simp [h]
 ·rw [if_neg (by simp [h])]; simp [h]
def tmB (x : zJ) : Bool := decide (0 ≤ x.Tank ∧ x.Tank ≤ 1000000) && decide (0 ≤ x.Money ∧ x.Money ≤ 1000000000)
def zfP (x : zJ) (e0 e1 e2 e3 e4 e5 e6 : Int) : Int := cond (tmB x && ([e0, e1, e2, e3, e4, e5, e6].all fun e => decide (e = 0))) 0 2
theorem zsD {x : zJ} {e0 e1 e2 e3 e4 e5 e6 : Int} (h : zfP x e0 e1 e2 e3 e4 e5 e6 = 0) : e2 = 0 := by
 unfold zfP at h
 cases h1 : (tmB x && ([e0, e1, e2, e3, e4, e5, e6].all fun e => decide (e = 0))) with
 | false => rw [h1] at h; cases h
 | true =>
  have := (Bool.and_eq_true_iff.1 h1).2
  exact of_decide_eq_true (List.all_eq_true.1 this e2 (by simp))
theorem ztz {x : zJ} {e0 e1 e2 e3 e4 e5 e6 y : Int} (h : y ∈ [e0, e1, e2, e3, e4, e5, e6]) (hy : y ≠ 0) : zfP x e0 e1 e2 e3 e4 e5 e6 = 2 := by
 unfold zfP
 have : ([e0, e1, e2, e3, e4, e5, e6].all fun e => decide (e = 0)) = false := by
  rw [Bool.eq_false_iff]
  intro hh
  exact hy (of_decide_eq_true (List.all_eq_true.1 hh y h))
 rw [this, Bool.and_false]; rfl
set_option maxHeartbeats 1000000 in
theorem zxp {G0 : Gm} {w0 : World} (hS0 : Sat G0 w0) {cc : List Value} {x : zJ} (hA : qh G0 cc x) (ok : q9 x) {r : Int} (H : zhK x.Reef = some r) {b : Bool} {e0 e1 e3 e4 e5 e6 : Int} (hD : Det G0 cc x b e0 e1 e3 e4 e5 e6) :
  Calls Tryz.prog 46 [.agg cc.toArray].toArray w0 (yP G0 w0 fun _ v => v = iV (zfP x e0 e1 r e3 e4 e5 e6)) := by
 have hS := Since.start hS0
 have hl := zlo hA
 obtain ⟨t16, t50⟩ := zi4 hA
 have okT := ok.2.1
 have okM : okI x.Money := ok.2.2.2.2.2.2.2.2
 refine z8 (N := 43) (xN _ _ _) Tryz.func46 rfl rfl rfl rfl (zc (zb (zp rfl (zI (v := fun b => pV b) (cs := cc) (e := 49) (z6 rfl) hS.sat rfl fun b1 G1 w1 hg1 hc1 => ?_))))
 have hS := hS.grow hg1
 have hA := qD _ _ _ _ hg1.le hA
 refine za (ze (v := iV 0) rfl) rfl (zd (zc (zc ?_)))
 refine qx (fun F w => ∃ Fb G, F = qC Fb [(1, pV b1), (14, .bool (!tmB x))] ∧ Gle G1 G ∧ Since w0.heap.size G0 w0 G w) ?_ ?_
 ·refine zb (za (zj zuT rfl) rfl (za (zk kn3 rfl (hS.sat.cell (hc1 16 _ t16))) rfl ?_))
  refine zp rfl (zu zna (zes hS.sat (zla _ _ _)) rfl rfl fun w hb => ?_)
  have hS := hS.keep hb
  refine za (qI rfl) rfl (za (zf (v := .bool (!decide (0 ≤ x.Tank ∧ x.Tank ≤ 1000000))) rfl) rfl ?_)
  cases hq : decide (0 ≤ x.Tank ∧ x.Tank ≤ 1000000) with
  | false =>
   refine qE rfl rfl rfl rfl rfl (qE rfl rfl rfl rfl rfl (qE rfl rfl rfl rfl rfl (qE rfl rfl rfl rfl rfl (za (v := .bool true) (by kernel_rfl) rfl (zd ?_)))))
   exact ⟨_, G1, zi _ _ ⟨rfl, by unfold tmB; rw [hq]; rfl, trivial⟩, Gle.refl _, hS⟩
  | true =>
   refine zo rfl rfl rfl rfl (za (zj zuN rfl) rfl (zo rfl rfl rfl rfl (za (zk kn3 rfl (hS.sat.cell (hc1 50 _ t50))) rfl (zo rfl rfl rfl rfl ?_))))
   refine zp rfl (zu zna (zes hS.sat (zla _ _ _)) rfl rfl fun w hb => ?_)
   have hS := hS.keep hb
   refine zo rfl rfl rfl rfl (za (qI rfl) rfl (za (v := .bool (!decide (0 ≤ x.Money ∧ x.Money ≤ 1000000000))) (by kernel_rfl) rfl (zd ?_)))
   exact ⟨_, G1, zi _ _ ⟨rfl, by unfold tmB; rw [hq]; rfl, trivial⟩, Gle.refl _, hS⟩
 ·rintro F w ⟨Fb, G2, rfl, le2, hS⟩
  have hD := (hD.mono hg1.le).mono le2
  refine z7 rfl (fun hq => ?_) (fun hq => ?_)
  ·refine zc (zb (za (ze (v := iV 2) rfl) rfl (zd (zH ?_))))
   exact ⟨_, _, rfl, hS.toGrow, congrArg iV (by unfold zfP; rw [show tmB x = false by simpa using hq]; rfl)⟩
  ·have htm : tmB x = true := by simpa using hq
   have hS := hS.keep (zn w)
   have hc1 := hc1.mono le2
   have hA := qD _ _ _ _ le2 hA
   have prt : ∀ {w : World} (o m : Nat), Sat G2 w → ∀ (j : Nat) v, ((cc.drop o).take m)[j]? = some v → w.cell? ⟨b1, 0 + o + j, none⟩ = some v := fun o m hw j v hj => hw.cell (hc1.drop_take o m j v hj)
   have pl : ∀ o m, o + m ≤ 51 → ((cc.drop o).take m).length = m := fun o m h => by simp [hl]; omega
   refine zD (zc (zc (zQ qA (fun _ w => Sat G2 w) (.fl 0 (.fl 1 (.fl 3 (.fl 4 (.fl 6 (.fl 7 (.fl 9 (.fl 10 (.fl 12 (.fl 13 (.fl 15 (.fl 16 (.fl 18 (.fl 19 (.fl 22 (.on 2 (.on 5 (.on 8 (.on 11 (.on 14 (.on 17 (.on 20 (.on 21 .nil))))))))))))))))))))))) (by kernel_rfl) rfl (by kernel_rfl) (fun _ => hS.sat) ?_)))
   refine zh rfl (fun w hw => zj zuU rfl) rfl (zh rfl (fun w hw => zw (cs := (cc.drop 0).take 16) zy9 rfl (pl 0 16 (by decide)) (prt 0 16 hw)) rfl (zh rfl (fun w hw => zj zw8 rfl) rfl (zh rfl (fun w hw => zw (cs := (cc.drop 17).take 3) zA2 rfl (pl 17 3 (by decide)) (prt 17 3 hw)) rfl
    (zh rfl (fun w hw => zj zuS rfl) rfl (zh rfl (fun w hw => zw (cs := (cc.drop 20).take 3) zy8 rfl (pl 20 3 (by decide)) (prt 20 3 hw)) rfl (zh rfl (fun w hw => zj zuR rfl) rfl (zh rfl (fun w hw => zw (cs := (cc.drop 23).take 5) zy7 rfl (pl 23 5 (by decide)) (prt 23 5 hw)) rfl
    (zh rfl (fun w hw => zj zuQ rfl) rfl (zh rfl (fun w hw => zw (cs := (cc.drop 28).take 6) zy6 rfl (pl 28 6 (by decide)) (prt 28 6 hw)) rfl (zh rfl (fun w hw => zj zuP rfl) rfl (zh rfl (fun w hw => zw (cs := (cc.drop 34).take 11) zy5 rfl (pl 34 11 (by decide)) (prt 34 11 hw)) rfl
    (zh rfl (fun w hw => zj zuO rfl) rfl (zh rfl (fun w hw => zw (cs := (cc.drop 45).take 5) zy4 rfl (pl 45 5 (by decide)) (prt 45 5 hw)) rfl (zh rfl (fun w hw => zf (v := iV 0) rfl) rfl ?_))))))))))))))
   have le3 := Gle.refl G2
   refine zt rfl rfl (zS zxR (hD.c0 _ _ le3 hS.sat) rfl rfl fun v G w hg hv => ?_)
   obtain rfl := hv
   have hS := hS.grow hg
   have le3 := le3.trans hg.le
   refine ⟨fun _ _ => hS.sat.le le3, ?_⟩
   refine zt rfl rfl (zS zxU (hD.c1 _ _ le3 hS.sat) rfl rfl fun v G w hg hv => ?_)
   obtain rfl := hv
   have hS := hS.grow hg
   have le3 := le3.trans hg.le
   refine ⟨fun _ _ => hS.sat.le le3, ?_⟩
   refine zt rfl rfl (zu zxQ (zsx hS.sat (qD _ _ _ _ le3 hA) H) rfl rfl fun w hb => ?_)
   have hS := hS.keep hb
   refine ⟨fun _ _ => hS.sat.le le3, ?_⟩
   refine zt rfl rfl (zS zxP (hD.c3 _ _ le3 hS.sat) rfl rfl fun v G w hg hv => ?_)
   obtain rfl := hv
   have hS := hS.grow hg
   have le3 := le3.trans hg.le
   refine ⟨fun _ _ => hS.sat.le le3, ?_⟩
   refine zt rfl rfl (zS zxO (hD.c4 _ _ le3 hS.sat) rfl rfl fun v G w hg hv => ?_)
   obtain rfl := hv
   have hS := hS.grow hg
   have le3 := le3.trans hg.le
   refine ⟨fun _ _ => hS.sat.le le3, ?_⟩
   refine zt rfl rfl (zS zxN (hD.c5 _ _ le3 hS.sat) rfl rfl fun v G w hg hv => ?_)
   obtain rfl := hv
   have hS := hS.grow hg
   have le3 := le3.trans hg.le
   refine ⟨fun _ _ => hS.sat.le le3, ?_⟩
   refine zt rfl rfl (zS zxM (hD.c6 _ _ le3 hS.sat) rfl rfl fun v G w hg hv => ?_)
   obtain rfl := hv
   have hS := hS.grow hg
   have le3 := le3.trans hg.le
   refine ⟨fun _ _ => hS.sat.le le3, ?_⟩
   refine zt rfl rfl (zA (v := .agg #[iV e0, iV e1, iV r, iV e3, iV e4, iV e5, iV e6]) (by kernel_rfl) rfl ⟨fun _ _ => hS.sat.le le3, qk ?_⟩)
   refine zB (qZ (qJ 7 (fun i F w => ∃ Fb, F = qC Fb [(36, .agg #[iV e0, iV e1, iV r, iV e3, iV e4, iV e5, iV e6]), (37, iV i)] ∧ Since w0.heap.size G0 w0 G w ∧ ∀ (j : Nat) y, j < i → [e0, e1, r, e3, e4, e5, e6][j]? = some y → y = 0) ?_ ?_ 7 0 _ _ rfl ⟨_, zi _ _ ⟨rfl, rfl, trivial⟩, hS, fun j y h => absurd h (Nat.not_lt_zero j)⟩))
   ·rintro i F w hi ⟨Fb, rfl, hS, hr⟩
    refine zc (zb (za (qa rfl rfl) rfl (zd (zc (qf (decide ((i : Int) < 7)) (by simp; omega) rfl (zD ?_))))))
    have at_i : ∃ y, [e0, e1, r, e3, e4, e5, e6][i]? = some y ∧ ∀ (F' : Fr) (q : Value) (d : Option Nat) (ty : TypeId) (pos : String) (af : Array Edge) (gd : Option (Nat × Bool)) (w : World), (execOp (ev (upd (qC F' [(36, (.agg #[iV e0, iV e1, iV r, iV e3, iV e4, iV e5, iV e6])), (37, iV i)]) 38 q)) ⟨d, .index 216 (.tmp 36) (.tmp 37), ty, pos, af, gd⟩).run Tryz.prog w = .ok (.value (iV y)) w := by
     match i, hi with
     | 0, _ => exact ⟨e0, rfl, fun F' q d ty pos af gd w => by kernel_rfl⟩
     | 1, _ => exact ⟨e1, rfl, fun F' q d ty pos af gd w => by kernel_rfl⟩
     | 2, _ => exact ⟨r, rfl, fun F' q d ty pos af gd w => by kernel_rfl⟩
     | 3, _ => exact ⟨e3, rfl, fun F' q d ty pos af gd w => by kernel_rfl⟩
     | 4, _ => exact ⟨e4, rfl, fun F' q d ty pos af gd w => by kernel_rfl⟩
     | 5, _ => exact ⟨e5, rfl, fun F' q d ty pos af gd w => by kernel_rfl⟩
     | 6, _ => exact ⟨e6, rfl, fun F' q d ty pos af gd w => by kernel_rfl⟩
    obtain ⟨y, hy, run⟩ := at_i
    refine zc (zB (zc (zb (za (run _ _ _ _ _ _ _ _) rfl (za (ze (v := iV y) rfl) rfl (zd (zc (zb (za (zf (v := iV y) rfl) rfl (za (kw rfl rfl) rfl (zd (z7 rfl (fun hb => ?_) (fun hb => ?_)))))))))))))
    ·refine zc (zb (za (ze (v := iV 2) rfl) rfl (zd (zH ?_))))
     exact ⟨_, _, rfl, hS.toGrow, congrArg iV (ztz (List.mem_of_getElem? hy) (by simpa using hb)).symm⟩
    ·have hy0 : y = 0 := by simpa using hb
     refine zD (zb (za (qO rfl rfl) rfl (za (zf (v := iV (IntKind.i64.wrap ((i : Int) + 1))) rfl) rfl (zd ?_))))
     refine ⟨_, zi _ _ ⟨rfl, congrArg iV (yQ (by omega)), trivial⟩, hS, fun j z hj hz => ?_⟩
     by_cases e : j = i
     ·subst e; rw [hy] at hz; cases hz; exact hy0
     ·exact hr j z (by omega) hz
   ·rintro F w ⟨Fb, rfl, hS, hr⟩
    refine qP (zc (zb (za (qa rfl rfl) rfl (zd (zc (zV _ (show decide (((7 : Nat) : Int) < 7) = false by decide) rfl (ql rfl ?_)))))))
    refine zc (zb (za (ze (v := iV 0) rfl) rfl (zd (zH ?_))))
    refine ⟨_, _, rfl, hS.toGrow, congrArg iV ?_⟩
    unfold zfP
    rw [htm, Bool.true_and, List.all_eq_true.2 fun y hy => decide_eq_true (by obtain ⟨j, hj⟩ := List.getElem?_of_mem hy; exact hr j y (List.getElem?_eq_some_iff.1 hj).1 hj)]
    rfl
end Go.Proofs.YtcapocmenjcnhaaGreatDoor
/-
 The council: an atoll is opened. (Printed by mkopen.py.)
-/
namespace Go.Proofs.YtcapocmenjcnhaaGreatDoor
open Go.RowKit
set_option maxRecDepth 20000
theorem zAv {G : Gm} {w : World} {cc : List Value} {x : zJ} {r : Bool} (hS : Sat G w) (h : qh G cc x) (H : f13 x = some r) : Calls Tryz.prog 13 [.agg cc.toArray].toArray w (qQ w (.bool r)) := by
 obtain ⟨b0, m0, d0, b1, m1, d1, b2, m2, d2, b3, m3, d3, b4, m4, d4, b5, m5, d5, b6, m6, d6, b7, m7, d7, b8, m8, d8, b9, m9, d9, b10, m10, d10, b11, m11, d11, b12, m12, d12, b13, m13, d13, b14, m14, d14, b15, m15, d15, rfl, h0, h1, h2, h3, h4, h5, h6, h7, h8, h9, h10, h11, h12, h13, h14, h15⟩ := h
 exact zxC hS h0 h1 h2 h3 h4 h5 h6 h7 h8 h9 h10 h11 h12 h13 h14 h15 H
theorem zz7 : zN Tryz.prog 13 = true := by kernel_rfl
theorem zz6 : zN Tryz.prog 14 = true := by kernel_rfl
theorem zz2 : zN Tryz.prog 46 = true := by kernel_rfl
theorem zpF : zN Tryz.prog 47 = true := by kernel_rfl
theorem zz5 : zN Tryz.prog 15 = true := by kernel_rfl
theorem zv1 : qB Tryz.prog 35 2 = some 2 := by kernel_rfl
theorem zz0 : ∃ by', slB Tryz.prog 24 = some (3, 1, by') ∧ Nat.ble by' 65536 = true := ⟨8, by kernel_rfl, rfl⟩
theorem zpC : ((Tryz.prog.info? 3).bind fun i => i.zero.map fun v => v.cells.toList) = some [iV 0] := by kernel_rfl
theorem zoa {cc : List Value} (h : cc.length = 51) : ∃ f : Nat → Value, cc = (List.range 51).map f := by
 refine ⟨fun i => (cc[i]?).getD undef, List.ext_getElem? fun i => ?_⟩
 by_cases hi : i < 51
 ·have e := List.getElem?_eq_getElem (l := cc) (i := i) (by omega)
  rw [List.getElem?_map, List.getElem?_range hi, Option.map_some, e]; rfl
 ·rw [List.getElem?_eq_none (by omega), List.getElem?_eq_none (by simp; omega)]
abbrev t87 (v : Value) : List Value := [iV 0, iV 0, iV 0, v, .slice none 0 0, .slice none 0 0, .slice none 0 0, .bool false, .slice none 0 0, .slice none 0 0, .bool true]
theorem zld {G : Gm} {x : zJ} {f : Nat → Value} {v : Value} (hK : KI x 99 G ((List.range 51).map f)) : CoR G ((List.range 51).map f ++ t87 v) (.slice none 0 0) v x.Reef x.Money := by
 obtain ⟨_, h21, rfl⟩ := hK.get 21 rfl rfl
 obtain ⟨_, h22, rfl⟩ := hK.get 22 rfl rfl
 obtain ⟨_, h50, rfl⟩ := hK.get 50 rfl rfl
 obtain ⟨_, q1, a1, n1, c1, rfl, h1⟩ := hK.get 20 rfl rfl
 exact ⟨rfl, rfl, rfl, (List.getElem?_append_left (by simp)).trans h50, rfl, a1, n1, c1, (List.getElem?_append_left (by simp)).trans q1, (List.getElem?_append_left (by simp)).trans h21, (List.getElem?_append_left (by simp)).trans h22, h1⟩
set_option maxHeartbeats 2000000 in
theorem zxB {B : Nat} {G0 : Gm} {w0 : World} {Gc : Gm} {wc : World} {L : List Row} {cc : List Value} {x : zJ} {r : Int} (hS : Since B G0 w0 Gc wc) (hO : Owns Gc wc B L) (hA : qh Gc cc x) (ok : q9 x) (hk : Kl x) (H : zhK x.Reef = some r) (hs : 0 ≤ x.Reef.Seasons ∧ x.Reef.Seasons ≤ 1000) {b : Bool} {e0 e1 e3 e4 e5 e6 : Int} (hD : Det Gc cc x b e0 e1 e3 e4 e5 e6) :
  Calls Tryz.prog 15 [.agg cc.toArray].toArray wc (zdX B G0 w0 Gc wc (fun G' L' v => (∃ e, e ≠ 0 ∧ zfP x e0 e1 r e3 e4 e5 e6 ≠ 0 ∧ v = .tuple #[.pointer none, iV e] ∧ L' = L) ∨ (zfP x e0 e1 r e3 e4 e5 e6 = 0 ∧ ∃ b cc' ap np cpp pc, v = .tuple #[pV b, iV 0] ∧ L' = rowC b cc' :: jG 0 (.slice none 0 0) [] :: yt ap np cpp pc :: L ∧ np = x.Reef.Seasons.toNat ∧ CoR G' cc' (.slice none 0 0) (.slice ap np cpp) x.Reef x.Money ∧ Rd zW 1 G' pc (List.replicate np 0)))) := by
 have hK := (KI.of hA).1
 have h22 := (KI.of hA).2.1
 refine ve (N := 18) (rs := [.tmp 2, .tmp 3]) hO.base Tryz.func15 rfl rfl rfl rfl (zc (zb ?_))
 refine zp rfl (zI (v := fun b => pV b) (cs := cc) (e := 49) (z6 rfl) hS.sat rfl fun b1 G1 w1 hg1 hc1 => ?_)
 have hS := hS.grow hg1
 have hO := hO.grow hg1
 have hA := qD _ _ _ _ hg1.le hA
 have hK := hK.mono hg1.le
 refine za (ze (v := .pointer none) rfl) rfl (za (ze (v := iV 0) rfl) rfl (zd (zc (zc (zb (za (zw (cs := cc) zcU rfl hK.len fun j v hj => hS.sat.cell (hc1 j v hj)) rfl ?_))))))
 have hL1 := hg1.le
 refine zp rfl (zS zz2 (zxp hS.sat hA ok H (hD.mono hg1.le)) rfl rfl fun v G1 w2 hgE hv => ?_)
 obtain ⟨e, he0⟩ : ∃ e, zfP x e0 e1 r e3 e4 e5 e6 = e := ⟨_, rfl⟩
 rw [he0] at hv ⊢
 subst hv
 have hS := hS.grow hgE
 have hO := hO.grow hgE
 have hL1 := hL1.trans hgE.le
 have hc1 := hc1.mono hgE.le
 have hK := hK.mono hgE.le
 refine za (ze (v := iV e) rfl) rfl (zd (zc (zb (za (zf (v := iV e) rfl) rfl (za (kw rfl rfl) rfl (zd (z7 rfl (fun hb => ?_) (fun hb => ?_))))))))
 ·refine zc (zb (za (zf (v := iV e) rfl) rfl (za (ze (v := .pointer none) rfl) rfl (za (ze (v := iV e) rfl) rfl (zd (zH ?_))))))
  exact ⟨[.pointer none, iV e], ⟨rfl, rfl, trivial⟩, G1, _, hL1, hS, hO, .inl ⟨e, by simpa using hb, by simpa using hb, rfl, rfl⟩⟩
 ·have he : e = 0 := by simpa using hb
  subst he
  obtain ⟨s1, s2⟩ := hs
  obtain ⟨by24, l24, hby⟩ := zz0
  have hS := hS.keep (zn w2)
  have hO := hO.below (zn w2)
  have hmk : mkS x.Reef.Seasons (0 : Int) = some (List.replicate x.Reef.Seasons.toNat 0) := by unfold mkS; rw [if_pos ⟨s1, by omega⟩]
  refine zD (zc (zQ qA (fun _ w => Sat G1 w) (.fl 0 (.fl 2 (.fl 3 (.fl 4 (.two 1 (.on 5 (.on 6 (.on 7 (.on 8 (.on 9 .nil))))) 5 (.on 1 (.on 6 (.on 7 (.on 8 (.on 9 .nil)))))))))) (by kernel_rfl) rfl (by kernel_rfl) (fun _ => hS.sat) ?_))
  refine zh rfl (fun w hw => zw (cs := cc) zcU rfl hK.len fun j v hj => hw.cell (hc1 j v hj)) rfl (zh rfl (fun w hw => zj zjx rfl) rfl (zh rfl (fun w hw => zj zv1 rfl) rfl (zh rfl (fun w hw => zk kn3 rfl (hw.cell (hc1 22 _ h22))) rfl (zhU ?_ ?_))))
  ·refine zt rfl rfl (zS zpF (zm0 hS.sat hK hk) rfl rfl fun v G2 w3 hg2 hv => ?_)
   obtain ⟨c2, rfl, hK2⟩ := hv
   have hS := hS.grow hg2
   have hO := hO.grow hg2
   refine ⟨fun _ _ => hS.sat.le hg2.le, ?_⟩
   refine zt rfl rfl (zi9 (R := zW) (x := (0 : Int)) (z := [iV 0]) l24 zpC hS hO hmk (rfl : zW G2 [iV 0] 0) rfl rfl rfl hby fun bP w4 cP hS hO hr => ?_)
   refine ⟨fun _ _ => hS.sat.le hg2.le, ?_⟩
   obtain ⟨f, rfl⟩ := zoa hK2.len
   refine zt rfl rfl (zA (v := .agg ((List.range 51).map f ++ t87 (.slice (some ⟨bP, 0, none⟩) (List.replicate x.Reef.Seasons.toNat (0 : Int)).length (List.replicate x.Reef.Seasons.toNat (0 : Int)).length)).toArray) (by kernel_rfl) rfl ⟨fun _ h => zK (by kernel_rfl) h, ?_⟩)
   have hO := hO.cons_nil 271 1
   refine zt rfl rfl (zY (v := fun b => pV b) (e := 121) (z6 rfl) hS.sat hO rfl 62 1 rfl (by decide) fun b w5 hb hO => ⟨fun _ h => zK (by kernel_rfl) h, ?_⟩)
   have hS := hS.keep hb
   refine zt rfl rfl (zA (ze (v := pV b) rfl) rfl ⟨fun _ h => zK (by kernel_rfl) h, zt rfl rfl (zA (ze (v := iV 0) rfl) rfl ⟨fun _ h => zK (by kernel_rfl) h, qk (zH ?_)⟩)⟩)
   exact ⟨[pV b, iV 0], ⟨rfl, rfl, trivial⟩, G2, _, hL1.trans hg2.le, hS, hO, .inr ⟨rfl, b, _, _, _, _, _, rfl, rfl, List.length_replicate, zld hK2, by rw [List.length_replicate]; exact hr⟩⟩
  ·refine zt rfl rfl (zi9 (R := zW) (x := (0 : Int)) (z := [iV 0]) l24 zpC hS hO hmk (rfl : zW G1 [iV 0] 0) rfl rfl rfl hby fun bP w4 cP hS hO hr => ?_)
   refine ⟨fun _ _ => hS.sat, ?_⟩
   refine zt rfl rfl (zS zpF (zm0 hS.sat hK hk) rfl rfl fun v G2 w3 hg2 hv => ?_)
   obtain ⟨c2, rfl, hK2⟩ := hv
   have hS := hS.grow hg2
   have hO := hO.grow hg2
   refine ⟨fun _ _ => hS.sat.le hg2.le, ?_⟩
   obtain ⟨f, rfl⟩ := zoa hK2.len
   refine zt rfl rfl (zA (v := .agg ((List.range 51).map f ++ t87 (.slice (some ⟨bP, 0, none⟩) (List.replicate x.Reef.Seasons.toNat (0 : Int)).length (List.replicate x.Reef.Seasons.toNat (0 : Int)).length)).toArray) (by kernel_rfl) rfl ⟨fun _ h => zK (by kernel_rfl) h, ?_⟩)
   have hO := hO.cons_nil 271 1
   refine zt rfl rfl (zY (v := fun b => pV b) (e := 121) (z6 rfl) hS.sat hO rfl 62 1 rfl (by decide) fun b w5 hb hO => ⟨fun _ h => zK (by kernel_rfl) h, ?_⟩)
   have hS := hS.keep hb
   refine zt rfl rfl (zA (ze (v := pV b) rfl) rfl ⟨fun _ h => zK (by kernel_rfl) h, zt rfl rfl (zA (ze (v := iV 0) rfl) rfl ⟨fun _ h => zK (by kernel_rfl) h, qk (zH ?_)⟩)⟩)
   exact ⟨[pV b, iV 0], ⟨rfl, rfl, trivial⟩, G2, _, hL1.trans hg2.le, hS, hO, .inr ⟨rfl, b, _, _, _, _, _, rfl, rfl, List.length_replicate, zld hK2, by rw [List.length_replicate]; exact hr.mono zm hg2.le⟩⟩
def opE (x : zJ) (b1 b : Bool) (r e0 e1 e3 e4 e5 e6 : Int) : Bool := b1 && (b && decide (zfP x e0 e1 r e3 e4 e5 e6 = 0))
set_option maxHeartbeats 1000000 in
theorem zox {B : Nat} {G0 : Gm} {w0 : World} {Gc : Gm} {wc : World} {L : List Row} {cc : List Value} {x : zJ} {b1 : Bool} {r : Int} (hS : Since B G0 w0 Gc wc) (hO : Owns Gc wc B L) (hA : qh Gc cc x) (ok : q9 x)
  (H12 : f13 x = some b1) (H26 : b1 = true → zhK x.Reef = some r) (hk : b1 = true → Kl x) {b : Bool} {e0 e1 e3 e4 e5 e6 : Int} (hD : Det Gc cc x b e0 e1 e3 e4 e5 e6) :
  Calls Tryz.prog 4 [.agg cc.toArray].toArray wc (zdX B G0 w0 Gc wc (fun G' L' v => (v = .pointer none ∧ L' = L ∧ opE x b1 b r e0 e1 e3 e4 e5 e6 = false) ∨ (opE x b1 b r e0 e1 e3 e4 e5 e6 = true ∧ ∃ b cc' ap np cpp pc, v = pV b ∧ L' = rowC b cc' :: jG 0 (.slice none 0 0) [] :: yt ap np cpp pc :: L ∧ np = x.Reef.Seasons.toNat ∧ CoR G' cc' (.slice none 0 0) (.slice ap np cpp) x.Reef x.Money ∧ Rd zW 1 G' pc (List.replicate np 0)))) := by
 have hl := (KI.of hA).1.len
 refine ve (N := 21) (rs := [.tmp 2]) hO.base Tryz.func4 rfl rfl rfl rfl (zc (zb ?_))
 refine zp rfl (zI (v := fun b => pV b) (cs := cc) (e := 49) (z6 rfl) hS.sat rfl fun b0 G1 w1 hg1 hc1 => ?_)
 have hS := hS.grow hg1
 have hO := hO.grow hg1
 have hA := qD _ _ _ _ hg1.le hA
 refine za (ze (v := .pointer none) rfl) rfl (zd (zc (zc (zb (za (zw (cs := cc) zcU rfl hl fun j v hj => hS.sat.cell (hc1 j v hj)) rfl ?_)))))
 refine zp rfl (zu zz7 (zAv hS.sat hA H12) rfl rfl fun w2 hb => ?_)
 have hS := hS.keep hb
 have hO := hO.below hb
 refine za (v := .bool (!b1)) (qI rfl) rfl (za (zf (v := .bool (!b1)) rfl) rfl ?_)
 cases b1
 ·refine qE rfl rfl rfl rfl rfl (qE rfl rfl rfl rfl rfl (qE rfl rfl rfl rfl rfl (za (v := .bool true) (by kernel_rfl) rfl (zd (qf true rfl rfl ?_)))))
  refine zc (zb (za (ze (v := .pointer none) rfl) rfl (zd (zH ?_))))
  exact ⟨[.pointer none], ⟨rfl, trivial⟩, G1, _, hg1.le, hS, hO, .inl ⟨rfl, rfl, rfl⟩⟩
 ·have hk := hk rfl
  refine zo rfl rfl rfl rfl (za (zw (cs := cc) zcU rfl hl fun j v hj => hS.sat.cell (hc1 j v hj)) rfl (zo rfl rfl rfl rfl ?_))
  have hL1 := hg1.le
  refine zp rfl (zS zz6 (hD.a _ _ hg1.le hS.sat) rfl rfl fun v G1 w3 hgE hv => ?_)
  obtain rfl := hv
  have hS := hS.grow hgE
  have hO := hO.grow hgE
  have hL1 := hL1.trans hgE.le
  have hc1 := hc1.mono hgE.le
  have hA := qD _ _ _ _ hgE.le hA
  refine zo rfl rfl rfl rfl (za (v := .bool (!b)) (qI rfl) rfl (za (v := .bool (!b)) (by kernel_rfl) rfl (zd ?_)))
  cases b
  ·refine qf true rfl rfl (zc (zb (za (ze (v := .pointer none) rfl) rfl (zd (zH ?_)))))
   exact ⟨[.pointer none], ⟨rfl, trivial⟩, G1, _, hL1, hS, hO, .inl ⟨rfl, rfl, rfl⟩⟩
  ·refine zV false rfl rfl (zD (zc (zb (za (zw (cs := cc) zcU rfl hl fun j v hj => hS.sat.cell (hc1 j v hj)) rfl ?_))))
   refine zp rfl (yq (fi := []) (al := [.agg cc.toArray]) (ca := []) zz5 (zxB hS hO hA ok hk (H26 rfl) (by have := hD.sn rfl; omega) (hD.mono hL1)) rfl rfl rfl fun v G2 w4 L2 le2 hS hO hv => ?_)
   rcases hv with ⟨e, he, he2, rfl, e2⟩ | ⟨he2, b, cc', ap, np, cpp, pc, rfl, rfl, hc⟩
   ·have e2 := e2.symm
    subst e2
    refine za (zf (v := .tuple #[.pointer none, iV e]) rfl) rfl (za (zT rfl rfl) rfl (za (zT rfl rfl) rfl (za (ze (v := .pointer none) rfl) rfl (za (ze (v := iV e) rfl) rfl (zd ?_)))))
    refine zc (zc (zb (za (zf (v := iV e) rfl) rfl (za (kw rfl rfl) rfl (zd (qf (e != 0) (by simpa using he) rfl ?_))))))
    refine zc (zb (za (ze (v := .pointer none) rfl) rfl (zd (zH ?_))))
    exact ⟨[.pointer none], ⟨rfl, trivial⟩, G2, _, hL1.trans le2, hS, hO, .inl ⟨rfl, rfl, (by show (true && (true && decide (_ = (0 : Int)))) = false; rw [decide_eq_false he2]; rfl)⟩⟩
   ·refine za (zf (v := .tuple #[pV b, iV 0]) rfl) rfl (za (zT rfl rfl) rfl (za (zT rfl rfl) rfl (za (ze (v := pV b) rfl) rfl (za (ze (v := iV 0) rfl) rfl (zd ?_)))))
    refine zc (zc (zb (za (zf (v := iV 0) rfl) rfl (za (kw rfl rfl) rfl (zd (zV false rfl rfl (zD ?_)))))))
    refine zc (zb (za (zf (v := pV b) rfl) rfl (za (ze (v := pV b) rfl) rfl (zd (zH ?_)))))
    exact ⟨[pV b], ⟨rfl, trivial⟩, G2, _, hL1.trans le2, hS, hO, .inr ⟨(by show (true && (true && decide (_ = (0 : Int)))) = true; rw [he2]; rfl), b, cc', ap, np, cpp, pc, rfl, rfl, hc⟩⟩
end Go.Proofs.YtcapocmenjcnhaaGreatDoor
