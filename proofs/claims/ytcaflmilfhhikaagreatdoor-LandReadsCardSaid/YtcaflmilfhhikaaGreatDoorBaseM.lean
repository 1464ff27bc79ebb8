/-
  Arrays of numbers that are taken whole: their cells are a list.
-/
import Derived.Test.YtcaflmilfhhikaaGreatDoorBaseL
namespace Go.Proofs.YtcaflmilfhhikaaGreatDoor
open Go.RowKit
set_option linter.unusedVariables false

/-- The cells of numbers. -/
def cellsI (t : List Int) : List Value := t.map (Value.int .i64)
theorem cellsI_len (t : List Int) : (cellsI t).length = t.length := by simp [cellsI]
theorem cellsI_get {t : List Int} {j : Nat} (h : j < t.length) : (cellsI t)[j]? = some (.int .i64 (t.getD j 0)) := by
  simp [cellsI, List.getElem?_eq_getElem h]
theorem cellsI_one (t : List Int) : ∀ u ∈ cellsI t, u.oneCell' = true := by
  intro u hu
  obtain ⟨x, _, rfl⟩ := List.mem_map.1 hu
  rfl
theorem splice_one {t : List Int} {j : Nat} (h : j < t.length) (x : Int) : splice (cellsI t) j [.int .i64 x] = cellsI (t.set j x) := by
  unfold splice cellsI
  refine List.ext_getElem ?_ fun i h1 h2 => ?_
  · simp only [List.length_append, List.length_take, List.length_drop, List.length_map, List.length_set, List.length_singleton]; omega
  · simp only [List.length_append, List.length_take, List.length_drop, List.length_map, List.length_singleton] at h1
    simp only [List.getElem_map, List.getElem_set]
    rcases Nat.lt_trichotomy i j with q | q | q
    · rw [List.getElem_append_left (by simp; omega), List.getElem_append_left (by simp; omega), List.getElem_take, List.getElem_map, if_neg (by omega)]
    · subst q
      rw [List.getElem_append_left (by simp; omega), List.getElem_append_right (by simp; omega)]
      simp [Nat.min_eq_left (Nat.le_of_lt h)]
    · rw [List.getElem_append_right (by simp; omega), List.getElem_drop, List.getElem_map, if_neg (by omega)]
      congr 2
      simp only [List.length_append, List.length_take, List.length_map, List.length_singleton]
      omega
/-- So many numbers. -/
def Tb (n : Nat) : Type := { l : List Int // l.length = n }
def Tb.zero (n : Nat) : Tb n := ⟨List.replicate n 0, by simp⟩
def tget {n : Nat} (t : Tb n) (j : Nat) : Int := t.1.getD j 0
def tset {n : Nat} (t : Tb n) (j : Nat) (v : Int) : Tb n := ⟨t.1.set j v, by simp [t.2]⟩
def cellsT {n : Nat} (t : Tb n) : List Value := cellsI t.1
theorem cellsT_len {n : Nat} (t : Tb n) : (cellsT t).length = n := by unfold cellsT; rw [cellsI_len, t.2]
/-- An index that must be below a number. -/
def ckI (i : Int) (n : Nat) : Option Nat := if 0 ≤ i ∧ i.toNat < n then some i.toNat else none
theorem ckI_some {i : Int} {n k : Nat} (h : ckI i n = some k) : i = (k : Int) ∧ k < n := by
  unfold ckI at h
  split at h
  · cases h; omega
  · cases h
theorem ckI_nat {k n : Nat} (h : k < n) : ckI (k : Int) n = some k := by
  unfold ckI; rw [if_pos (by omega)]; simp
/-- How many elements an array has, and of how many cells each. -/
def arB (P : Program) (T : Nat) : Option (Nat × Nat) :=
  match P.underlying T with
  | some (.array n e) => (P.info? e).map fun i => (n, i.size)
  | _ => none
section
variable {κ : Ctx} {P : Program} {N : Nat} {p : List PanicEntry → Fr → World → Prop} {F : Fr} {w : World} {d : Option Nat} {ty : TypeId} {pos : String} {af : Array Edge} {gd : Option (Nat × Bool)}
theorem rn_idxA {T n sz b off : Nat} {X I : Operand} {k : IntKind} {i : Int} {j : Nat} (hT : arB P T = some (n, sz)) (hx : ev F X = .pointer (some ⟨b, off, none⟩)) (hi : ev F I = .int k i) (hj : ckI i n = some j) :
    (execOp (ev F) ⟨d, .indexAddr T X I, ty, pos, af, gd⟩).run P w = .ok (.value (.pointer (some ⟨b, off + j * sz, none⟩))) w := by
  unfold arB at hT
  split at hT
  · rename_i n' e hu
    obtain ⟨inf, h1, h2⟩ := Option.map_eq_some_iff.1 hT
    cases h2
    obtain ⟨rfl, h3⟩ := ckI_some hj
    simp [execOp, hx, hi, Instr.indexAt, Instr.sureAddr, asIntOf, run_underlying hu, sizeOf, typeInfo, h1, add_addr, h3]
  · cases hT
variable {G0 : Gm} {w0 : World} {G : Gm} {B : Nat} {L : List Row} {K : Fr → World → Prop} {ops : Array Oper}
/-- A load of one number. -/
theorem tab_cell {k e sz n cap g m : Nat} {t : Tb m} (hO : Owns G w B L) (hk : L[k]? = some ⟨e, sz, n, .slice (some ⟨g, 0, none⟩) n cap, cellsT t⟩) {j : Nat} (hj : j < m) : w.cell? ⟨g, j, none⟩ = some (.int .i64 (tget t j)) :=
  own_cell hO hk (cellsI_get (by rw [t.2]; exact hj))
/-- .. of memory that stays. -/
theorem tab_cellG {b m : Nat} {t : Tb m} (hS : Sat G w) (hc : Cells G b 0 (cellsT t)) {j : Nat} (hj : j < m) : w.cell? ⟨b, j, none⟩ = some (.int .i64 (tget t j)) := by
  have := hS.cell (hc j _ (cellsI_get (t := t.1) (by rw [t.2]; exact hj)))
  rwa [Nat.zero_add] at this
/-- A store of one number. -/
theorem OpP_storeT {T k e sz n cap g j m : Nat} {X Y : Operand} {t : Tb m} {x : Int}
    (hT : szB P T = some 1) (hS : Since B G0 w0 G w) (hO : Owns G w B L) (hk : L[k]? = some ⟨e, sz, n, .slice (some ⟨g, 0, none⟩) n cap, cellsT t⟩)
    (hX : ev F X = .pointer (some ⟨g, j, none⟩)) (hY : ev F Y = .int .i64 x) (hj : j < m)
    (h : ∀ w', Since B G0 w0 G w' → Owns G w' B (L.set k ⟨e, sz, n, .slice (some ⟨g, 0, none⟩) n cap, cellsT (tset t j x)⟩) → K F w') :
    OpP κ P N p ⟨none, .store T X Y, ty, pos, af, gd⟩ F w K :=
  OpP_store (vs := [.int .i64 x]) hT hS hO hk hX hY rfl rfl (one_all rfl) (by rw [cellsT_len]; exact hj) fun w' h1 h2 => h w' h1 (by
    have e : cellsT (tset t j x) = splice (cellsT t) j [.int .i64 x] := (splice_one (by rw [t.2]; exact hj) x).symm
    rw [e]; exact h2)
/-- A store of the whole. -/
theorem OpP_storeTT {T k e sz n cap g m : Nat} {X Y : Operand} {t u : Tb m}
    (hT : szB P T = some m) (hS : Since B G0 w0 G w) (hO : Owns G w B L) (hk : L[k]? = some ⟨e, sz, n, .slice (some ⟨g, 0, none⟩) n cap, cellsT t⟩)
    (hX : ev F X = .pointer (some ⟨g, 0, none⟩)) (hY : ev F Y = .agg (cellsT u).toArray)
    (h : ∀ w', Since B G0 w0 G w' → Owns G w' B (L.set k ⟨e, sz, n, .slice (some ⟨g, 0, none⟩) n cap, cellsT u⟩) → K F w') :
    OpP κ P N p ⟨none, .store T X Y, ty, pos, af, gd⟩ F w K :=
  OpP_store (vs := cellsT u) hT hS hO hk hX hY rfl (cellsT_len u) (cellsI_one _) (by rw [cellsT_len, cellsT_len]; omega) fun w' h1 h2 => h w' h1 (by
    have e : splice (cellsT t) 0 (cellsT u) = cellsT u := by
      unfold splice
      rw [List.take_zero, List.nil_append, Nat.zero_add, cellsT_len, List.drop_eq_nil_of_le (by rw [cellsT_len]; omega), List.append_nil]
    rw [e] at h2; exact h2)
/-- A load of the whole. -/
theorem rn_loadT {T n k e sz n' cap g : Nat} {X : Operand} {t : Tb n} (hT : agB P T = some n) (hO : Owns G w B L) (hk : L[k]? = some ⟨e, sz, n', .slice (some ⟨g, 0, none⟩) n' cap, cellsT t⟩) (hX : ev F X = .pointer (some ⟨g, 0, none⟩)) :
    (execOp (ev F) ⟨d, .load T X, ty, pos, af, gd⟩).run P w = .ok (.value (.agg (cellsT t).toArray)) w :=
  rn_loadA hT hX (cellsT_len t) fun j v hj => by
    rw [Nat.zero_add]; exact own_cell hO hk hj
end
/-! ### Closures that are walked into -/
section
variable {κ : Ctx} {p : List PanicEntry → Fr → World → Prop} {P : Program} {N N' : Nat} {F : Fr} {w : World} {K : Fr → World → Prop} {d : Nat} {ty : TypeId} {pos : String} {af : Array Edge} {gd : Option (Nat × Bool)}
theorem OpP_inC {k : Nat} {X : Operand} {args : Array Operand} {ats : Array TypeId} {al fi ca : List Value} (hk : callB P k = true) (hx : ev F X = .func (.func k) fi.toArray ca.toArray) (ha : args.toList.map (ev F) = al) (hd : Nat.blt d N = true)
    (hc : Calls P k (fi ++ al ++ ca).toArray w fun e w' => ∃ v, e = .returned v ∧ Keeps none w w' ∧ K (upd F d v) w') : OpP κ P N p ⟨some d, .call { callee := .value X, args := args, argTypes := ats }, ty, pos, af, gd⟩ F w K :=
  OpP_enter (rn_callV hk hx ha) hd hc fun _ _ ⟨v, h1, h2, h3⟩ => ⟨v, h1, h2.weak, h3⟩
variable {f : FuncId} {fn : Func} {c : Code} {X : Operand} {args : Array Operand} {ats : Array TypeId} {al fi ca : List Value}
theorem OpP_inC1 {t : Nat} (hk : callB P f = true) (hf : P.funcs[f]? = some fn) (hb : fn.body = some c) (hr : fn.results = #[.tmp t]) (hn : fn.ntmps = N') (hN : Nat.ble (fi ++ al ++ ca).length N' = true) (hx : ev F X = .func (.func f) fi.toArray ca.toArray) (ha : args.toList.map (ev F) = al) (hd : Nat.blt d N = true)
    (h : WC ⟨none, none, w.heap.size, true, []⟩ P N' c ⟨fun F' w' => ∃ v, F' t = v ∧ K (upd F d v) w', fun F' w' => ∃ v, F' t = v ∧ K (upd F d v) w', [], fun _ _ _ => False⟩ (nthD (fi ++ al ++ ca)) w) : OpP κ P N p ⟨some d, .call { callee := .value X, args := args, argTypes := ats }, ty, pos, af, gd⟩ F w K :=
  OpP_inC hk hx ha hd (enterN (S := fun v w' => K (upd F d v) w') hf hb hn hN (fun tmps w' ⟨v, h1, h2⟩ => ⟨_, results_tmp hr _ _ _, by
    have e : tmps.getD t undef = v := h1
    show K (upd F d (tmps.getD t undef)) w'
    rw [e]; exact h2⟩) h)
end
/-! ### A slice of no elements, with room for some -/
def mk0 (m : Int) : Option Unit := if 0 ≤ m ∧ m ≤ 1073741824 then some () else none
theorem mk0_some {m : Int} {u : Unit} (h : mk0 m = some u) : 0 ≤ m ∧ m ≤ 1073741824 := by
  unfold mk0 at h
  split at h
  · assumption
  · cases h
theorem Owns.newCap {G : Gm} {w : World} {B : Nat} {L : List Row} (h : Owns G w B L) (hS : Sat G w) (e sz m : Nat) (cs : List Value) (hl : cs.length = m * sz) (hm : m ≤ maxLen) : Owns G (w.alloc (.cells cs.toArray e)) B (⟨e, sz, 0, .slice (some ⟨w.heap.size, 0, none⟩) 0 m, []⟩ :: L) := by
  have hk : Owns G (w.alloc (.cells cs.toArray e)) B L := h.keep (fun b hb => Below.heap_alloc w _ b hb) (by simp) fun _ _ => rfl
  refine ⟨fun c hc => ?_, .cons (fun d hd g hg => ?_) h.apart, hk.base⟩
  · rcases List.mem_cons.1 hc with rfl | hc
    · refine ⟨⟨by simp, .inr (.inl ⟨w.heap.size, 0, m, cs.toArray, rfl, h.base, Go.heap_alloc_new w _, Nat.zero_le _, hm, by simp [hl], by simp⟩)⟩, fun g hg => ?_⟩
      simp [blkOf] at hg
      subst hg
      cases hG : G w.heap.size with
      | none => rfl
      | some o => exact absurd (hS.lt hG) (Nat.lt_irrefl _)
    · exact hk.each c hc
  · simp [blkOf] at hg
    subst hg
    intro hd'
    have := (h.each d hd).lt hd'
    omega
section
variable {κ : Ctx} {P : Program} {N : Nat} {p : List PanicEntry → Fr → World → Prop} {F : Fr} {w w0 : World} {d : Nat} {ty : TypeId} {pos : String} {af : Array Edge} {gd : Option (Nat × Bool)} {G0 G : Gm} {B : Nat} {L : List Row} {K : Fr → World → Prop}
theorem OpP_make0 {T e sz bytes : Nat} {X Y : Operand} {m : Int} {k1 k2 : IntKind} {u : Unit}
    (hT : slB P T = some (e, sz, bytes)) (hS : Since B G0 w0 G w) (hO : Owns G w B L) (hm : mk0 m = some u)
    (hX : ev F X = .int k1 0) (hY : ev F Y = .int k2 m) (hd : Nat.blt d N = true) (hby : Nat.ble bytes 65536 = true)
    (h : ∀ b w', Since B G0 w0 G w' → Owns G w' B (⟨e, sz, 0, .slice (some ⟨b, 0, none⟩) 0 m.toNat, []⟩ :: L) → K (upd F d (.slice (some ⟨b, 0, none⟩) 0 m.toNat)) w') :
    OpP κ P N p ⟨some d, .makeSlice T X Y, ty, pos, af, gd⟩ F w K := by
  obtain ⟨p1, p2⟩ := mk0_some hm
  obtain ⟨ht, i, zv, hi, hzv, rfl, rfl, hzs, hsz⟩ := slB_spec hT
  have hby' := Nat.le_of_ble_eq_true hby
  obtain ⟨n, rfl⟩ := Int.eq_ofNat_of_zero_le p1
  simp only [Int.toNat_natCast] at *
  have hn : n ≤ 1073741824 := by omega
  have hb2 : i.bytes * n ≤ 281474976710656 := by
    have h1 : i.bytes * n ≤ 65536 * 1073741824 := Nat.mul_le_mul hby' hn
    omega
  have hbi : (i.bytes : Int) * (n : Int) ≤ 281474976710656 := by
    have h : ((i.bytes * n : Nat) : Int) ≤ 281474976710656 := by omega
    rwa [Int.natCast_mul] at h
  have hr := run_make (P := P) w T e i zv ht hi hzv k1 k2 0 n (Int.le_refl _) (by omega) hbi (by omega)
  have hlen : (madeCells zv.cells (n * i.size)).toList.length = n * i.size := by simp [madeCells]
  have hnew := hO.newCap hS.sat e i.size n (madeCells zv.cells (n * i.size)).toList hlen (by simp only [maxLen]; omega)
  refine OpP_eff (v := .slice (some ⟨w.heap.size, 0, none⟩) 0 n) (w' := w.alloc (.cells (madeCells zv.cells (n * i.size)).toList.toArray e)) ?_ hd (.alloc _ _) (h _ _ (hS.keep ((Below.refl _ w).alloc (Nat.le_refl _) _)) hnew)
  simp only [execOp, hX, hY, Sem.run_bind, hr, Result.andThen_ok, Sem.run_pure]
  simp
end
/-! ### Bits that are taken away -/
def anI (k : IntKind) (m n : Int) : Int := k.wrap (BitVec.ofInt k.bits m &&& ~~~ BitVec.ofInt k.bits n).toNat
section
variable {P : Program} {F : Fr} {w : World} {od : Option Nat} {ty t u : TypeId} {pos : String} {af : Array Edge} {gd : Option (Nat × Bool)} {x y : Operand} {k : IntKind} {m n : Int}
theorem rn_an (hx : ev F x = .int k m) (hy : ev F y = .int k n) : (execOp (ev F) ⟨od, .binOp .andNot t x y u, ty, pos, af, gd⟩).run P w = .ok (.value (.int k (anI k m n))) w := by simp [execOp, hx, hy, eqGuard, binOp, Op.intBits, anI]
end
/-! ### Calls that are walked into, with results in memory -/
section
variable {κ : Ctx} {p : List PanicEntry → Fr → World → Prop} {P : Program} {N N' : Nat} {F : Fr} {w : World} {K : Fr → World → Prop} {d : Nat} {ty : TypeId} {pos : String} {af : Array Edge} {gd : Option (Nat × Bool)} {f : FuncId} {fn : Func} {c : Code} {args : Array Operand} {ats : Array TypeId}
theorem OpP_inR {rs : List ResultVar} (al : List Value) (hk : callB P f = true) (hf : P.funcs[f]? = some fn) (hb : fn.body = some c) (hr : fn.results = rs.toArray) (hn : fn.ntmps = N') (hN : Nat.ble al.length N' = true) (ha : args.toList.map (ev F) = al) (hd : Nat.blt d N = true)
    (h : WC ⟨none, none, w.heap.size, true, []⟩ P N' c ⟨fun F' w' => ∃ vs, ResOk P F' w' rs vs ∧ K (upd F d (resOf vs)) w', fun F' w' => ∃ vs, ResOk P F' w' rs vs ∧ K (upd F d (resOf vs)) w', [], fun _ _ _ => False⟩ (nthD al) w) : OpP κ P N p ⟨some d, .call { callee := .value (.func f), args := args, argTypes := ats }, ty, pos, af, gd⟩ F w K :=
  OpP_in hk ha hd (enterN (S := fun v w' => K (upd F d v) w') hf hb hn hN (fun tmps w' ⟨vs, h1, h2⟩ => ⟨resOf vs, run_resG hr h1, h2⟩) h)
end
end Go.Proofs.YtcaflmilfhhikaaGreatDoor
