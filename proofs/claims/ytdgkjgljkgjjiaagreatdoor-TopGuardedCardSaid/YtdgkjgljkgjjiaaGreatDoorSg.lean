/-
  The council: what looks at an atoll answers.
-/
import Derived.Test.YtdgkjgljkgjjiaaGreatDoorOp
import Derived.Test.YtdgkjgljkgjjiaaGreatDoorSf2
import Derived.Test.YtdgkjgljkgjjiaaGreatDoorCh
namespace Go.Proofs.YtdgkjgljkgjjiaaGreatDoor
open Go.RowKit Sf
set_option linter.unusedVariables false
set_option maxRecDepth 20000

def ii (n : Nat) : List Ck := List.replicate n .i
def shT : List (Nat × List Ck) := [(3, ii 1), (189, ii 6), (192, ii 2), (194, ii 2), (197, ii 4), (199, ii 12), (82, ii 4), (23, ii 2), (110, [.s 23, .i, .i]), (204, [.i, .i, .b])]
noncomputable abbrev cT : Cx := ⟨Tryz.prog, shT⟩
/-- the cells of an atoll; the number of seasons is known by name -/
def aty : List Ck := [.i, .i, .i, .i, .i, .i, .i, .i, .i, .i, .i, .i, .s 3, .s 189, .i, .i, .i, .s 192, .s 194, .s 197, .s 199, .i, .y 0, .i, .s 3, .s 3, .s 82, .i, .s 3, .s 23, .i, .i, .s 110, .i, .i, .i, .i, .i, .i, .s 204, .i, .i, .i, .i, .i, .i, .s 3, .s 3, .s 3, .i, .i]
section
variable {sh : Nat → Option (List Ck)} {ρ : Sf.Env} {G : Gm}
def Cks (d : Nat) : List Ck → List Value → Prop
  | [], [] => True
  | k :: l, v :: m => CkD sh G d k v ∧ Cks d l m
  | _, _ => False
theorem Cks.get {d : Nat} : ∀ {l : List Ck} {m : List Value}, Cks (sh := sh) (G := G) d l m → ∀ (j : Nat) k u, l[j]? = some k → m[j]? = some u → CkD sh G d k u
  | [], [], _, j, k, u, h, _ => by simp at h
  | k :: l, v :: m, h, 0, _, _, e1, e2 => by simp at e1 e2; subst e1; subst e2; exact h.1
  | k :: l, v :: m, h, j + 1, _, _, e1, e2 => h.2.get j _ _ (by simpa using e1) (by simpa using e2)
  | [], _ :: _, h, _, _, _, _, _ => h.elim
  | _ :: _, [], h, _, _, _, _, _ => h.elim
def Rks : List Ck → List Value → Prop
  | [], [] => True
  | k :: l, v :: m => CkR sh ρ G k v ∧ Rks l m
  | _, _ => False
theorem Rks.er : ∀ {l : List Ck} {m : List Value}, Rks (sh := sh) (ρ := ρ) (G := G) l m → ER sh ρ G l m
  | [], [], _ => ⟨rfl, fun j k u h _ => by simp at h⟩
  | k :: l, v :: m, h => by
    obtain ⟨h1, h2⟩ := h.2.er
    refine ⟨by simp [h1], fun j k u e1 e2 => ?_⟩
    cases j with
    | zero => simp at e1 e2; subst e1; subst e2; exact h.1
    | succ j => exact h2 j k u (by simpa using e1) (by simpa using e2)
  | [], _ :: _, h => h.elim
  | _ :: _, [], h => h.elim
theorem iI {n : Int} (h : okI n) : IsI (iV n) := ⟨n, rfl, h.1, by have := h.2; omega⟩
theorem slCk {α : Type} {R : Gm → List Value → α → Prop} {ok : α → Prop} {sz e d : Nat} {l : List Ck} {a : Option Addr} {n c : Nat} {xs : List α} (hs : sh e = some l) (hl : l.length = sz) (hR : ∀ cs y, R G cs y → ok y → Cks (sh := sh) (G := G) d l cs) (h : RSl R sz G a n c xs) (hk : ∀ y ∈ xs, ok y) : CkD sh G (d + 1) (.s e) (.slice a n c) := by
  refine ⟨l, a, n, c, hs, rfl, h.2.1.1, fun i hi => ?_⟩
  obtain ⟨y, hy⟩ : ∃ y, xs[i]? = some y := ⟨xs[i]'(by have := h.1; omega), List.getElem?_eq_getElem _⟩
  obtain ⟨b, off, cs, h1, h2, h3, h4⟩ := h.2.2 i y hy
  subst hl
  exact ⟨b, off, cs, h1, h2, h3, (hR cs y h4 (hk y (List.mem_of_getElem? hy))).get⟩
theorem ER.part {l : List Ck} {m : List Value} (h : ER sh ρ G l m) (o k : Nat) : ER sh ρ G ((l.drop o).take k) ((m.drop o).take k) := by
  refine ⟨by simp [h.1], fun j q u e1 e2 => ?_⟩
  rw [List.getElem?_take] at e1 e2
  split at e1
  · rename_i hj
    rw [if_pos hj, List.getElem?_drop] at e2
    rw [List.getElem?_drop] at e1
    exact h.2 _ q u e1 e2
  · cases e1
theorem CkR.sl {e d : Nat} {v : Value} (h : CkD sh G d (.s e) v) : CkR sh ρ G (.s e) v := ⟨d, h⟩
theorem CkR.int {n : Int} (h : okI n) : CkR sh ρ G .i (iV n) := ⟨0, iI h⟩
end
section
variable {G : Gm}
theorem q_int {d : Nat} : ∀ cs y, RInt G cs y → okI y → (Cks (sh := shp shT) (G := G)) d (ii 1) cs := by rintro cs y rfl h; exact ⟨by cases d <;> exact iI h, trivial⟩
theorem q_i {d : Nat} {n : Int} (h : okI n) : CkD (shp shT) G d .i (iV n) := by cases d <;> exact iI h
theorem q_span {d : Nat} : ∀ cs y, RTSpan G cs y → okTSpan y → (Cks (sh := shp shT) (G := G)) d (ii 2) cs := by rintro cs y rfl ⟨h1, h2⟩; exact ⟨q_i h1, q_i h2, trivial⟩
theorem q_month : ∀ cs y, RTLensMonth G cs y → okTLensMonth y → (Cks (sh := shp shT) (G := G)) 0 (ii 6) cs := by rintro cs y rfl ⟨⟨h1, h2⟩, ⟨h3, h4⟩, h5, h6⟩; exact ⟨q_i h1, q_i h2, q_i h3, q_i h4, q_i h5, q_i h6, trivial⟩
theorem q_person : ∀ cs y, RTLandPerson G cs y → okTLandPerson y → (Cks (sh := shp shT) (G := G)) 0 (ii 2) cs := by rintro cs y rfl ⟨h1, h2⟩; exact ⟨q_i h1, q_i h2, trivial⟩
theorem q_event : ∀ cs y, RTLandEvent G cs y → okTLandEvent y → (Cks (sh := shp shT) (G := G)) 0 (ii 2) cs := by rintro cs y rfl ⟨h1, h2⟩; exact ⟨q_i h1, q_i h2, trivial⟩
theorem q_memory : ∀ cs y, RTLandMemory G cs y → okTLandMemory y → (Cks (sh := shp shT) (G := G)) 0 (ii 4) cs := by rintro cs y rfl ⟨h1, h2, h3, h4⟩; exact ⟨q_i h1, q_i h2, q_i h3, q_i h4, trivial⟩
theorem q_place : ∀ cs y, RTReefPlace G cs y → okTReefPlace y → (Cks (sh := shp shT) (G := G)) 0 (ii 12) cs := by
  rintro cs y rfl ⟨h1, h2, ⟨h3, h4⟩, h5, h6, ⟨h7, h8⟩, ⟨h9, h10⟩, h11, h12⟩
  exact ⟨q_i h1, q_i h2, q_i h3, q_i h4, q_i h5, q_i h6, q_i h7, q_i h8, q_i h9, q_i h10, q_i h11, q_i h12, trivial⟩
theorem q_trip : ∀ cs y, RTBaneTrip G cs y → okTBaneTrip y → (Cks (sh := shp shT) (G := G)) 0 (ii 4) cs := by rintro cs y rfl ⟨h1, h2, h3, h4⟩; exact ⟨q_i h1, q_i h2, q_i h3, q_i h4, trivial⟩
theorem q_load : ∀ cs y, RTCellLoad G cs y → okTCellLoad y → (Cks (sh := shp shT) (G := G)) 0 [.i, .i, .b] cs := by rintro cs y rfl ⟨h1, h2, _⟩; exact ⟨q_i h1, q_i h2, ⟨_, rfl⟩, trivial⟩
theorem q_lot : ∀ cs y, RTShipLot G cs y → okTShipLot y → (Cks (sh := shp shT) (G := G)) 1 [.s 23, .i, .i] cs := by
  rintro cs y ⟨a, n, c, rfl, h⟩ ⟨h1, h2, h3⟩
  exact ⟨slCk rfl rfl q_span h h1, q_i h2, q_i h3, trivial⟩
/-- an atoll's cells -/
theorem atl_ok {cc : List Value} {x : TCouncilAtoll} (h : RTCouncilAtoll G cc x) (ok : okTCouncilAtoll x) : ER (shp shT) (fun _ => iV x.Reef.Seasons) G aty cc := by
  obtain ⟨b0, m0, d0, b1, m1, d1, b2, m2, d2, b3, m3, d3, b4, m4, d4, b5, m5, d5, b6, m6, d6, b7, m7, d7, b8, m8, d8, b9, m9, d9, b10, m10, d10, b11, m11, d11, b12, m12, d12, b13, m13, d13, b14, m14, d14, b15, m15, d15, rfl, h0, h1, h2, h3, h4, h5, h6, h7, h8, h9, h10, h11, h12, h13, h14, h15⟩ := h
  obtain ⟨⟨i1, ⟨i2, i3⟩, i4, i5, ⟨i6, i7⟩, ⟨i8, i9⟩, i10, i11, i12, l0, l1, i13, i14⟩, i15, ⟨l2, l3, l4⟩, ⟨l5, i16, i17⟩, ⟨i18, l6, l7, l8, i19⟩, ⟨l9, l10, ⟨i20, i21⟩, l11, i22⟩, ⟨i23, i24, i25, i26, i27, l12, i28, i29, i30, i31, i32⟩, ⟨i33, l13, l14, l15, i34⟩, i35⟩ := ok
  refine Rks.er (sh := shp shT) (G := G) ?_
  exact ⟨CkR.int i1, CkR.int i2, CkR.int i3, CkR.int i4, CkR.int i5, CkR.int i6, CkR.int i7, CkR.int i8, CkR.int i9, CkR.int i10, CkR.int i11, CkR.int i12, CkR.sl (slCk rfl rfl (q_int (d := 0)) h0 l0), CkR.sl (slCk rfl rfl q_month h1 l1), CkR.int i13, CkR.int i14, CkR.int i15,
    CkR.sl (slCk rfl rfl q_person h2 l2), CkR.sl (slCk rfl rfl q_event h3 l3), CkR.sl (slCk rfl rfl q_memory h4 l4), CkR.sl (slCk rfl rfl q_place h5 l5), CkR.int i16, ⟨rfl, iI i17⟩, CkR.int i18, CkR.sl (slCk rfl rfl (q_int (d := 0)) h6 l6), CkR.sl (slCk rfl rfl (q_int (d := 0)) h7 l7),
    CkR.sl (slCk rfl rfl q_trip h8 l8), CkR.int i19, CkR.sl (slCk rfl rfl (q_int (d := 0)) h9 l9), CkR.sl (slCk rfl rfl (q_span (d := 0)) h10 l10), CkR.int i20, CkR.int i21, CkR.sl (slCk rfl rfl q_lot h11 l11), CkR.int i22, CkR.int i23, CkR.int i24, CkR.int i25, CkR.int i26, CkR.int i27,
    CkR.sl (slCk rfl rfl q_load h12 l12), CkR.int i28, CkR.int i29, CkR.int i30, CkR.int i31, CkR.int i32, CkR.int i33, CkR.sl (slCk rfl rfl (q_int (d := 0)) h13 l13), CkR.sl (slCk rfl rfl (q_int (d := 0)) h14 l14), CkR.sl (slCk rfl rfl (q_int (d := 0)) h15 l15), CkR.int i34, CkR.int i35, trivial⟩
end
theorem s13 : safe cT 200 14 1 [.agg aty] = some (.tst [.pos 0, .lt 0 (.lit 5)]) := by kernel_rfl
theorem s101 : safe cT 200 93 0 [.int, .int, .int] = some (.tst []) := by kernel_rfl
theorem s102 : safe cT 200 120 1 [.agg ((aty.drop 0).take 16)] = some .int := by kernel_rfl
theorem s103 : safe cT 200 122 1 [.agg ((aty.drop 20).take 3)] = some .int := by kernel_rfl
theorem s121 : safe cT 200 121 1 [.agg ((aty.drop 17).take 3)] = some .int := by kernel_rfl
theorem s105 : safe cT 200 124 1 [.agg ((aty.drop 28).take 6)] = some .int := by kernel_rfl
theorem s106 : safe cT 200 125 1 [.agg ((aty.drop 34).take 11)] = some .int := by kernel_rfl
theorem s107 : safe cT 200 126 1 [.agg ((aty.drop 45).take 5)] = some .int := by kernel_rfl
section
variable {G : Gm} {w : World} {cc : List Value} {x : TCouncilAtoll}
theorem chk_ok {k o m : Nat} (hs : safe cT 200 k 1 [.agg ((aty.drop o).take m)] = some .int) (ho : allB (fun a : Av => a.old 1 0 && !a.isGd) [Av.agg ((aty.drop o).take m)] = true) (hS : Sat G w) (h : RTCouncilAtoll G cc x) (ok : okTCouncilAtoll x) : Calls Tryz.prog k [.agg ((cc.drop o).take m).toArray].toArray w (RetG G w fun _ v => ∃ n, v = iV n) :=
  (safe_ok mixedO hs ho (ρ := fun _ => iV x.Reef.Seasons) hS (.cons ⟨_, rfl, ER.part (atl_ok h ok) o m⟩ .nil)).mono fun e w' ⟨v, G', h1, h2, h3⟩ => ⟨v, G', h1, h2, let ⟨n, hn, _⟩ := h3; ⟨n, hn⟩⟩
theorem in_ok {a b d : Int} (ha : okI a) (hb : okI b) (hd : okI d) (hS : Sat G w) : Calls Tryz.prog 93 [iV a, iV b, iV d].toArray w (RetG G w fun _ v => ∃ n, v = .bool n) :=
  (safe_ok mixedO s101 rfl (ρ := fun _ => iV 0) hS (.cons (iI ha) (.cons (iI hb) (.cons (iI hd) .nil)))).mono fun e w' ⟨v, G', h1, h2, h3⟩ => ⟨v, G', h1, h2, let ⟨n, hn, _⟩ := h3; ⟨n, hn⟩⟩
theorem f14_safe (hS : Sat G w) (h : RTCouncilAtoll G cc x) (ok : okTCouncilAtoll x) : Calls Tryz.prog 14 [.agg cc.toArray].toArray w (RetG G w fun _ v => ∃ b, v = .bool b ∧ (b = true → 0 < x.Reef.Seasons ∧ x.Reef.Seasons < 5)) :=
  (safe_ok mixedO s13 rfl (ρ := fun _ => iV x.Reef.Seasons) hS (.cons ⟨_, rfl, atl_ok h ok⟩ .nil)).mono fun e w' ⟨v, G', h1, h2, h3⟩ => ⟨v, G', h1, h2, by
    obtain ⟨b, hb, hf⟩ := h3
    refine ⟨b, hb, fun e => ?_⟩
    have f1 := hf e (.pos 0) (by simp)
    have f2 := hf e (.lt 0 (.lit 5)) (by simp)
    exact ⟨f1, f2.1⟩⟩
end
end Go.Proofs.YtdgkjgljkgjjiaaGreatDoor
