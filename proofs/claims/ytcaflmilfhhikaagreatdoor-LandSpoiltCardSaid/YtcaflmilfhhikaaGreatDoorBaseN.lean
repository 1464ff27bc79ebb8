/-
  Rows of rows of numbers of the call's own: a slice of slices into whose elements is stored.
-/
import Derived.Test.YtcaflmilfhhikaaGreatDoorBaseM
namespace Go.Proofs.YtcaflmilfhhikaaGreatDoor
open Go.RowKit
set_option linter.unusedVariables false

/-- A row among rows: where it lies, its capacity, its numbers. -/
abbrev NI := Option Addr × Nat × List Int
def nsv (q : NI) : Value := .slice q.1 q.2.2.length q.2.1
def nrow (ei : Nat) (q : NI) : Row := ⟨ei, 1, q.2.2.length, .slice q.1 q.2.2.length q.2.1, cellsI q.2.2⟩
def nest (eo ei : Nat) (ad : Option Addr) (n cap : Nat) (I : List NI) : List Row :=
  ⟨eo, 1, n, .slice ad n cap, I.map nsv⟩ :: I.map (nrow ei)
def nums (I : List NI) : List (List Int) := I.map fun q => q.2.2
theorem nums_len {I : List NI} {x : List (List Int)} (h : nums I = x) : I.length = x.length := by subst h; simp [nums]
def RRaw : Gm → List Value → Value → Prop := fun _ cs v => cs = [v] ∧ v.oneCell' = true
theorem RRaw_mono : Mono RRaw := fun _ _ _ _ _ h => h
theorem RRaw_one : One RRaw := fun _ _ _ h u hu => by obtain ⟨rfl, h⟩ := h; simp at hu; subst hu; exact h
theorem rd_raw {G : Gm} {cells xs : List Value} (h : Rd RRaw 1 G cells xs) : cells = xs := by
  refine List.ext_getElem? fun i => ?_
  cases hx : xs[i]? with
  | none =>
    have : xs.length ≤ i := List.getElem?_eq_none_iff.1 hx
    exact List.getElem?_eq_none (by rw [h.1]; omega)
  | some x =>
    obtain ⟨cs, h1, h2, h3, _⟩ := h.2 i x hx
    subst h3
    have := h2 0 x rfl
    simpa using this
theorem nest_rd {G : Gm} (I : List NI) : Rd RRaw 1 G (I.map nsv) (I.map nsv) := by
  refine ⟨by simp, fun i x hx => ⟨[x], rfl, fun j u hj => ?_, rfl, ?_⟩⟩
  · cases j with
    | zero => simp at hj; subst hj; simpa using hx
    | succ j => simp at hj
  · obtain ⟨q, hq, rfl⟩ := List.mem_map.1 (List.mem_of_getElem? hx)
    rfl
theorem rd_int {G : Gm} {cells : List Value} {ys : List Int} (h : Rd RInt 1 G cells ys) : cells = cellsI ys := by
  refine List.ext_getElem? fun i => ?_
  cases hx : ys[i]? with
  | none =>
    have : ys.length ≤ i := List.getElem?_eq_none_iff.1 hx
    rw [List.getElem?_eq_none (by rw [h.1]; omega), List.getElem?_eq_none (by rw [cellsI_len]; omega)]
  | some x =>
    obtain ⟨cs, h1, h2, h3⟩ := h.2 i x hx
    have h3 : cs = [.int .i64 x] := h3
    subst h3
    have := h2 0 _ rfl
    simp only [Nat.mul_one, Nat.add_zero] at this
    rw [this]
    simp [cellsI, hx]
theorem int_rd {G : Gm} (ys : List Int) : Rd RInt 1 G (cellsI ys) ys := by
  refine ⟨by simp [cellsI_len], fun i x hx => ⟨[.int .i64 x], rfl, fun j u hj => ?_, rfl⟩⟩
  cases j with
  | zero => simp at hj; subst hj; simp [cellsI, hx]
  | succ j => simp at hj
theorem Owns.nest_nil {G : Gm} {w : World} {B : Nat} {L : List Row} (h : Owns G w B L) (eo ei : Nat) : Owns G w B (L ++ nest eo ei none 0 0 []) :=
  (h.cons_nil eo 1).perm (by
    show (_ :: L).Perm (L ++ [_])
    exact (List.perm_append_singleton _ _).symm)
theorem nest_ix {I : List NI} {x : List (List Int)} {i : Int} {y : List Int} (hI : nums I = x) (hy : ix x i = some y) : ∃ a c, I[i.toNat]? = some (a, c, y) ∧ ix (I.map nsv) i = some (nsv (a, c, y)) := by
  subst hI
  obtain ⟨h0, h1, h2⟩ := ix_some hy
  unfold nums at h2
  rw [List.getElem?_map] at h2
  obtain ⟨⟨a, c, y'⟩, h3, h4⟩ := Option.map_eq_some_iff.1 h2
  have h4 : y' = y := h4
  subst h4
  refine ⟨a, c, h3, ?_⟩
  unfold ix
  rw [if_pos h0, List.getElem?_map, h3]
  rfl
section
variable {G G0 : Gm} {w w0 : World} {B : Nat} {L1 : List Row} {eo ei m cap : Nat} {ad : Option Addr} {I : List NI}
theorem nest_row {k : Nat} {q : NI} (hq : I[k]? = some q) : (L1 ++ nest eo ei ad m cap I)[L1.length + 1 + k]? = some (nrow ei q) := by
  rw [List.getElem?_append_right (by omega), show L1.length + 1 + k - L1.length = k + 1 by omega]
  simp [nest, hq]
theorem nest_at (hO : Owns G w B (L1 ++ nest eo ei ad m cap I)) {k c : Nat} {a : Option Addr} {y : List Int} (hq : I[k]? = some (a, c, y)) {j z : Int} (hz : ix y j = some z) : ∃ g o, a = some ⟨g, o, none⟩ := by
  have hc := hO.each _ (List.mem_of_getElem? (nest_row (L1 := L1) (eo := eo) (ei := ei) (ad := ad) (m := m) (cap := cap) hq))
  obtain ⟨h0, h1, h2⟩ := ix_some hz
  rcases hc.1.2 with ⟨hv, hn⟩ | ⟨g, o, cap', cur, hv, _⟩ | ⟨r, hv, _⟩
  · have : y.length = 0 := hn
    omega
  · have hv : Value.slice a y.length c = _ := hv
    cases hv
    exact ⟨g, o, rfl⟩
  · have hv : Value.slice a y.length c = _ := hv
    cases hv
theorem nest_cell (hO : Owns G w B (L1 ++ nest eo ei ad m cap I)) {k c g o : Nat} {a : Option Addr} {y : List Int} (hq : I[k]? = some (a, c, y)) (ha : a = some ⟨g, o, none⟩) {j z : Int} (hz : ix y j = some z) : w.cell? ⟨g, o + j.toNat, none⟩ = some (.int .i64 z) := by
  subst ha
  have hc := hO.each _ (List.mem_of_getElem? (nest_row (L1 := L1) (eo := eo) (ei := ei) (ad := ad) (m := m) (cap := cap) hq))
  obtain ⟨h0, h1, h2⟩ := ix_some hz
  have h3 : ORow w B ei 1 (.slice (some ⟨g, o, none⟩) y.length c) y.length (cellsI y) := hc.1
  refine h3.cells (j := j.toNat) ?_
  simp [cellsI, h2]
variable {κ : Ctx} {p : List PanicEntry → Fr → World → Prop} {P : Program} {N : Nat} {F : Fr} {K : Fr → World → Prop} {d : Nat} {ty : TypeId} {pos : String} {af : Array Edge} {gd : Option (Nat × Bool)}
theorem rn_idxR {T e bytes n c g o : Nat} {od : Option Nat} {X J : Operand} {a : Option Addr} {kd : IntKind} {j z : Int} {y : List Int} (hT : slB P T = some (e, 1, bytes)) (ha : a = some ⟨g, o, none⟩) (hz : ix y j = some z) (hx : ev F X = .slice a n c) (hn : n = y.length) (hj : ev F J = .int kd j) :
    (execOp (ev F) ⟨od, .indexAddr T X J, ty, pos, af, gd⟩).run P w = .ok (.value (.pointer (some ⟨g, o + j.toNat, none⟩))) w := by
  subst ha
  subst hn
  obtain ⟨hu, inf, zz, h1, h2, h3, h4, h5, h6⟩ := slB_spec hT
  obtain ⟨p1, p2, p3⟩ := ix_some hz
  have hlt : j < (y.length : Int) := by omega
  simp [execOp, hx, hj, Instr.indexAt, asIntOf, run_underlying hu, p1, hlt, sizeOf, typeInfo, h1, h3, add_addr]
/-- A row of the call's own is appended to rows of rows: it goes over to them. -/
theorem OpP_nestApp {n n' c c0 T bytes : Nat} {ad2 a : Option Addr} {X Y : Operand} {ats : Array TypeId} {cells : List Value} {ys : List Int} {x zs : List (List Int)}
    (hT : slB P T = some (eo, 1, bytes)) (hS : Since B G0 w0 G w) (hO : Owns G w B (⟨ei, 1, n', .slice a n c, cells⟩ :: (L1 ++ nest eo ei ad m cap I))) (hI : nums I = x) (hm : m = I.length) (hn : n' = ys.length) (hrd : Rd RInt 1 G cells ys)
    (hs : RSl RRaw 1 G ad2 1 c0 [.slice a n c]) (hz : app x [ys] = some zs) (hat : ats = #[T, T]) (hX : ev F X = .slice ad m cap) (hY : ev F Y = .slice ad2 1 c0) (hd : Nat.blt d N = true) (hby : Nat.ble bytes 65536 = true)
    (h : ∀ ad' m' cap' w' I', Since B G0 w0 G w' → Owns G w' B (L1 ++ nest eo ei ad' m' cap' I') → nums I' = zs → m' = I'.length → K (upd F d (.slice ad' m' cap')) w') :
    OpP κ P N p ⟨some d, .call { callee := .builtin .append, args := #[X, Y], argTypes := ats }, ty, pos, af, gd⟩ F w K := by
  subst hI
  subst hm
  have hcells := rd_int hrd
  subst hcells
  subst hn
  have hc := hO.each _ (List.mem_cons_self ..)
  have hnn : n = ys.length := by
    rcases hc.1.2 with ⟨hv, hn⟩ | ⟨g, o, cap', cur, hv, _⟩ | ⟨r, hv, _⟩
    · have hv : Value.slice a n c = _ := hv
      have hn : ys.length = 0 := hn
      cases hv
      omega
    · have hv : Value.slice a n c = .slice (some ⟨g, o, none⟩) ys.length cap' := hv
      cases hv
      rfl
    · have hv : Value.slice a n c = _ := hv
      cases hv
  subst hnn
  obtain ⟨hl, rfl⟩ := app_some hz
  have hk : (⟨ei, 1, ys.length, .slice a ys.length c, cellsI ys⟩ :: (L1 ++ nest eo ei ad I.length cap I) : List Row)[L1.length + 1]? = some ⟨eo, 1, I.length, .slice ad I.length cap, I.map nsv⟩ := by
    rw [List.getElem?_cons_succ, List.getElem?_append_right (Nat.le_refl _), Nat.sub_self]
    rfl
  have hz2 : app (I.map nsv) [Value.slice a ys.length c] = some (I.map nsv ++ [Value.slice a ys.length c]) := by
    unfold app
    rw [if_pos]
    simpa [nums] using hl
  refine OpP_append (k := L1.length + 1) hT RRaw_one hS hO hk (by simp) (nest_rd I) hs hz2 hat hX hY hd hby fun ad' cap' w' cells' hS' hO' hr' => ?_
  have hcl := rd_raw hr'
  subst hcl
  have e1 : (I.map nsv ++ [Value.slice a ys.length c]).length = (I ++ [(a, c, ys)]).length := by simp
  rw [e1] at hO' ⊢
  refine h ad' _ cap' w' (I ++ [(a, c, ys)]) hS' (hO'.perm ?_) (by simp [nums]) rfl
  rw [List.set_cons_succ, List.set_append_right _ _ (Nat.le_refl _), Nat.sub_self]
  have e2 : (nest eo ei ad I.length cap I).set 0 ⟨eo, 1, (I ++ [(a, c, ys)]).length, .slice ad' (I ++ [(a, c, ys)]).length cap', I.map nsv ++ [Value.slice a ys.length c]⟩ = ⟨eo, 1, (I ++ [(a, c, ys)]).length, .slice ad' (I ++ [(a, c, ys)]).length cap', (I ++ [(a, c, ys)]).map nsv⟩ :: I.map (nrow ei) := by
    simp [nest, nsv]
  rw [e2]
  have e3 : nest eo ei ad' (I ++ [(a, c, ys)]).length cap' (I ++ [(a, c, ys)]) = (⟨eo, 1, (I ++ [(a, c, ys)]).length, .slice ad' (I ++ [(a, c, ys)]).length cap', (I ++ [(a, c, ys)]).map nsv⟩ :: I.map (nrow ei)) ++ [nrow ei (a, c, ys)] := by
    simp [nest]
  rw [e3, ← List.append_assoc]
  exact (List.perm_append_singleton _ _).symm
/-- A store into an element of a row among rows. -/
theorem OpP_storeN {T c g o : Nat} {a : Option Addr} {X Y : Operand} {y y' : List Int} {x x' : List (List Int)} {i j v : Int}
    (hT : szB P T = some 1) (hS : Since B G0 w0 G w) (hO : Owns G w B (L1 ++ nest eo ei ad m cap I)) (hI : nums I = x) (hq : I[i.toNat]? = some (a, c, y)) (ha : a = some ⟨g, o, none⟩) (hy : setIx y j v = some y') (hx : setIx x i y' = some x')
    (hX : ev F X = .pointer (some ⟨g, o + j.toNat, none⟩)) (hY : ev F Y = .int .i64 v)
    (h : ∀ w' I', Since B G0 w0 G w' → Owns G w' B (L1 ++ nest eo ei ad m cap I') → nums I' = x' → I'.length = I.length → K F w') :
    OpP κ P N p ⟨none, .store T X Y, ty, pos, af, gd⟩ F w K := by
  subst ha
  subst hI
  obtain ⟨p1, p2, rfl⟩ := setIx_some hy
  obtain ⟨q1, q2, rfl⟩ := setIx_some hx
  have hk := nest_row (L1 := L1) (eo := eo) (ei := ei) (ad := ad) (m := m) (cap := cap) hq
  refine OpP_storeO (vs := [.int .i64 v]) (off := j.toNat) hT hS hO hk hX hY rfl rfl (one_all rfl) (by rw [cellsI_len]; simp; omega) fun w' hS' hO' => ?_
  rw [splice_one p2] at hO'
  refine h w' (I.set i.toNat (some ⟨g, o, none⟩, c, y.set j.toNat v)) hS' ?_ (by unfold nums; rw [List.map_set]) (by simp)
  have hil : i.toNat < I.length := (List.getElem?_eq_some_iff.1 hq).1
  have hge : I[i.toNat] = (some ⟨g, o, none⟩, c, y) := (List.getElem?_eq_some_iff.1 hq).2
  have e : (L1 ++ nest eo ei ad m cap I).set (L1.length + 1 + i.toNat) ⟨ei, 1, y.length, .slice (some ⟨g, o, none⟩) y.length c, cellsI (y.set j.toNat v)⟩ = L1 ++ nest eo ei ad m cap (I.set i.toNat (some ⟨g, o, none⟩, c, y.set j.toNat v)) := by
    rw [List.set_append_right _ _ (by omega), show L1.length + 1 + i.toNat - L1.length = i.toNat + 1 by omega]
    unfold nest
    rw [List.set_cons_succ]
    have e1 : (I.set i.toNat (some ⟨g, o, none⟩, c, y.set j.toNat v)).map nsv = I.map nsv := by
      rw [List.map_set]
      have : nsv (some ⟨g, o, none⟩, c, y.set j.toNat v) = (I.map nsv)[i.toNat]'(by simpa using hil) := by
        rw [List.getElem_map, hge]
        simp [nsv]
      rw [this]
      exact List.set_getElem_self _
    rw [e1, List.map_set]
    simp [nrow]
  rw [← e]
  exact hO'
/-- Rows of rows that are written no more. -/
theorem nest_freeze (hS : Since B G0 w0 G w) (hO : Owns G w B (L1 ++ nest eo ei ad m cap I)) {x : List (List Int)} (hI : nums I = x) (hm : m = I.length) :
    ∃ G', Gle G G' ∧ Since B G0 w0 G' w ∧ Owns G' w B L1 ∧ RSl (RSlice RInt 1) 1 G' ad m cap x := by
  subst hI
  have key : ∀ (J : List NI) (G : Gm) (L2 : List Row), Since B G0 w0 G w → Owns G w B (L2 ++ J.map (nrow ei)) → ∃ G', Gle G G' ∧ Since B G0 w0 G' w ∧ Owns G' w B L2 ∧ ∀ (k : Nat) (q : NI), J[k]? = some q → RSl RInt 1 G' q.1 q.2.2.length q.2.1 q.2.2 := by
    intro J
    induction J with
    | nil => intro G L2 hS hO; exact ⟨G, Gle.refl G, hS, by simpa using hO, fun k q hq => by simp at hq⟩
    | cons q J ih =>
      intro G L2 hS hO
      have hk : (L2 ++ (q :: J).map (nrow ei))[L2.length]? = some (nrow ei q) := by
        rw [List.getElem?_append_right (Nat.le_refl _), Nat.sub_self]; rfl
      obtain ⟨G1, h1, h2, h3, h4⟩ := hO.freezeS hS RInt_mono (k := L2.length) hk (int_rd q.2.2) rfl
      have e : (L2 ++ (q :: J).map (nrow ei)).eraseIdx L2.length = L2 ++ J.map (nrow ei) := by
        rw [List.eraseIdx_append_of_length_le (Nat.le_refl _), Nat.sub_self]; rfl
      rw [e] at h3
      obtain ⟨G2, g1, g2, g3, g4⟩ := ih G1 L2 h2 h3
      refine ⟨G2, h1.trans g1, g2, g3, fun k r hr => ?_⟩
      cases k with
      | zero => simp at hr; subst hr; exact h4.mono RInt_mono g1
      | succ k => exact g4 k r (by simpa using hr)
  have hO1 : Owns G w B ((L1 ++ [⟨eo, 1, m, .slice ad m cap, I.map nsv⟩]) ++ I.map (nrow ei)) := by
    have : L1 ++ nest eo ei ad m cap I = (L1 ++ [⟨eo, 1, m, .slice ad m cap, I.map nsv⟩]) ++ I.map (nrow ei) := by simp [nest]
    rw [← this]; exact hO
  obtain ⟨G1, h1, h2, h3, h4⟩ := key I G _ hS hO1
  have hk : (L1 ++ [(⟨eo, 1, m, .slice ad m cap, I.map nsv⟩ : Row)])[L1.length]? = some ⟨eo, 1, m, .slice ad m cap, I.map nsv⟩ := by
    rw [List.getElem?_append_right (Nat.le_refl _), Nat.sub_self]; rfl
  have hrd : Rd (RSlice RInt 1) 1 G1 (I.map nsv) (nums I) := by
    refine ⟨by simp [nums], fun i y hy => ?_⟩
    unfold nums at hy
    rw [List.getElem?_map] at hy
    obtain ⟨q, hq, rfl⟩ := Option.map_eq_some_iff.1 hy
    refine ⟨[nsv q], rfl, fun j u hj => ?_, _, _, _, rfl, h4 i q hq⟩
    cases j with
    | zero => simp at hj; subst hj; simp [hq]
    | succ j => simp at hj
  obtain ⟨G2, g1, g2, g3, g4⟩ := h3.freezeS h2 (RSlice_mono RInt_mono) (k := L1.length) hk hrd (by simp [nums, hm])
  have e : (L1 ++ [(⟨eo, 1, m, .slice ad m cap, I.map nsv⟩ : Row)]).eraseIdx L1.length = L1 := by
    rw [List.eraseIdx_append_of_length_le (Nat.le_refl _), Nat.sub_self]; simp
  rw [e] at g3
  exact ⟨G2, h1.trans g1, g2, g3, g4⟩
end
end Go.Proofs.YtcaflmilfhhikaaGreatDoor
