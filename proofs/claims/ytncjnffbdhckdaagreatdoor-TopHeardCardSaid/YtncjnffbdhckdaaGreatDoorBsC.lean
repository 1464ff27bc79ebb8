/-
 What is handed to a law, read as data of Lean's; and a law's row.
-/
import Derived.Test.YtncjnffbdhckdaaGreatDoorBsB
import Derived.ProofKit
import Derived.Below
import Derived.ChangeSame
import Derived.Tactics
import Derived.Tactics2
import Derived.Defers
import Derived.Recover
import Derived.TacticsInMore
import Derived.RegionIn
import Derived.RecoverIn
import Derived.Laws.Concat
import Derived.Laws.Strings
import Derived.Laws.Strings2
import Derived.Lib.ItoaNum
import Derived.Lib.LaidTab
import Derived.Lib.Builder
import Derived.Lib.UnsafeStr
import Derived.Shelf.Spec.SlicesInsertGrow
namespace Go.Proofs.YtncjnffbdhckdaaGreatDoor
open Go.ChangeShapes Go.WideShapes Go.ChangeAt Go.RowKit
def Gof (W : World) : Gm := fun b => W.heap[b]?
theorem sat_of (W : World) : Sat (Gof W) W := fun _ _ h => h
theorem cell_of {W : World} {a : Addr} {v : Value} (h : W.cell? a = some v) : (Gof W).cell a = some v := by
 unfold World.cell? at h
 unfold Gm.cell Gof
 exact h
def Opens {α : Type} (P : Program) (W : World) (T : Nat) (R : Gm → List Value → α → Prop) (ok : α → Prop) : Prop :=
 ∀ {H : Type} (enc : TypeId × Value → H) (base fuel : Nat) (spare : Nat → Bool) (held : Bool) (cs : List Value) (x : DataW H × List MemPlace), DataW.trod enc P W base spare held fuel T cs = some x → ∃ y, R (Gof W) cs y ∧ ok y
def okI (x : Int) : Prop := -9223372036854775808 ≤ x ∧ x < 9223372036854775808
section
variable {P : Program} {W : World} {T e : Nat}
theorem opens_int (hu : P.underlying T = some (.int .i64)) : Opens P W T RInt okI := by
 intro H enc base fuel spare held cs x h
 obtain ⟨n, h1, _, h2⟩ := DataW.trod_int hu h
 refine ⟨n, h1, ?_⟩
 simp [Lit.wf] at h2
 have e1 : IntKind.i64.min = -9223372036854775808 := by decide
 have e2 : IntKind.i64.max = 9223372036854775807 := by decide
 unfold okI
 omega
theorem opens_bool (hu : P.underlying T = some .bool) : Opens P W T RBool (fun _ => True) := by
 intro H enc base fuel spare held cs x h
 obtain ⟨n, h1, _⟩ := DataW.trod_bool hu h
 exact ⟨n, h1, trivial⟩
theorem opens_slice {α : Type} {R : Gm → List Value → α → Prop} {ok : α → Prop} {sz : Nat} (hu : P.underlying T = some (.slice e)) (hsz : P.cellsOf e = sz) (hpos : 0 < sz) (h : Opens P W e R ok) : Opens P W T (RSlice R sz) (fun xs => ∀ y ∈ xs, ok y) := by
 intro H enc base fuel spare held cs x ht
 rcases DataW.trod_slice hu ht with ⟨rfl, _⟩ | ⟨a, len, cap, elems, rest, n, _, rfl, _, hb, hlc, hcm, hel, helem, _, _⟩
 ·exact ⟨[], ⟨none, 0, 0, rfl, RSl.nil R sz _ none⟩, fun y hy => by cases hy⟩
 ·rw [hsz] at helem
  have one : ∀ i, i < len → ∃ y cs, R (Gof W) cs y ∧ ok y ∧ cs.length = sz ∧ (∀ j, j < sz → W.cell? ((a.add (i * sz)).add j) = cs[j]?) := by
   intro i hi
   have h1 := helem i hi
   have h2 : elems[i]? = some (elems[i]'(by omega)) := List.getElem?_eq_getElem (by omega)
   rw [h2] at h1
   obtain ⟨cs, h3, h4⟩ := Option.bind_eq_some_iff.1 h1
   obtain ⟨_, q1, q2⟩ := World.cells?_some h3
   obtain ⟨y, r1, r2⟩ := h enc _ _ _ _ _ _ h4
   exact ⟨y, cs, r1, r2, q1, q2⟩
  have all : ∀ m, m ≤ len → ∃ xs : List _, xs.length = m ∧ (∀ y ∈ xs, ok y) ∧ ∀ i y, xs[i]? = some y → ∃ cs, R (Gof W) cs y ∧ cs.length = sz ∧ ∀ j, j < sz → W.cell? ((a.add (i * sz)).add j) = cs[j]? := by
   intro m
   induction m with
   | zero => intro _; exact ⟨[], rfl, (fun y hy => by cases hy), (fun i y hy => by simp at hy)⟩
   | succ m ih =>
    intro hm
    obtain ⟨xs, h1, h2, h3⟩ := ih (by omega)
    obtain ⟨y, cs, q1, q2, q3, q4⟩ := one m (by omega)
    refine ⟨xs ++ [y], by simp [h1], fun z hz => ?_, fun i z hz => ?_⟩
    ·rcases List.mem_append.1 hz with hz | hz
     ·exact h2 z hz
     ·simp at hz; subst hz; exact q2
    ·by_cases hi : i < xs.length
     ·rw [List.getElem?_append_left hi] at hz
      exact h3 i z hz
     ·rw [List.getElem?_append_right (by omega)] at hz
      have hi0 : i - xs.length = 0 := by
       rcases Nat.eq_zero_or_pos (i - xs.length) with h | h
       ·exact h
       ·rw [List.getElem?_eq_none (by simp; omega)] at hz; cases hz
      rw [hi0] at hz
      simp at hz
      subst hz
      have : i = m := by omega
      subst this
      exact ⟨cs, q1, q3, q4⟩
  obtain ⟨xs, h1, h2, h3⟩ := all len (Nat.le_refl _)
  refine ⟨xs, ⟨some a, len, cap, rfl, h1.symm, ⟨Nat.le_trans hlc hcm, hlc⟩, fun i y hy => ?_⟩, h2⟩
  obtain ⟨cs, q1, q2, q3⟩ := h3 i y hy
  have hil := (List.getElem?_eq_some_iff.1 hy).1
  obtain ⟨cs0, _, z2, z3⟩ := h3 0 _ (List.getElem?_eq_getElem (by omega))
  have h0 : (W.cell? a).isSome = true := by
   have := z3 0 hpos
   rw [List.getElem?_eq_getElem (by omega)] at this
   simp [Addr.add] at this
   rw [this]; rfl
  obtain ⟨u, hu'⟩ := Option.isSome_iff_exists.1 h0
  have hspot : a.spot = none := World.cell?_spot hu'
  obtain ⟨b, off, sp⟩ := a
  simp only at hspot
  subst hspot
  refine ⟨b, off, cs, rfl, fun j v hj => ?_, q2, q1⟩
  have hjl := (List.getElem?_eq_some_iff.1 hj).1
  have := q3 j (by omega)
  rw [add_addr, add_addr, hj] at this
  exact cell_of this
theorem fields_of {H : Type} {enc : TypeId × Value → H} {base fuel : Nat} {spare : Nat → Bool} {held : Bool} {cs : List Value} {x : DataW H × List MemPlace} {fs : Array Field} (hu : P.underlying T = some (.struct fs)) (h : DataW.trod enc P W base spare held fuel T cs = some x) :
  cs.length = P.cellsOf T ∧ ∀ (i : Nat) (f : Field), fs[i]? = some f → ∃ n y, DataW.trod enc P W base spare held n f.type ((cs.drop f.offset).take (P.cellsOf f.type)) = some y := by
 obtain ⟨xs, n, _, _, h1, h2, h3⟩ := DataW.trod_struct hu h
 refine ⟨h1, fun i f hf => ?_⟩
 have hi : i < xs.length := by
  rw [h2]
  exact (Array.getElem?_eq_some_iff.1 hf).1
 exact ⟨n, xs[i], by rw [h3 i f hf, List.getElem?_eq_getElem hi]⟩
def fieldB (P : Program) (T i : Nat) : Option (Nat × Nat × Nat) :=
 match P.underlying T with
 | some (.struct fs) => (fs[i]?).map fun f => (f.type, f.offset, P.cellsOf f.type)
 | _ => none
theorem field_of {H : Type} {enc : TypeId × Value → H} {base fuel : Nat} {spare : Nat → Bool} {held : Bool} {cs : List Value} {x : DataW H × List MemPlace} {i t o m : Nat} (hf : fieldB P T i = some (t, o, m)) (h : DataW.trod enc P W base spare held fuel T cs = some x) :
  cs.length = P.cellsOf T ∧ ∃ n y, DataW.trod enc P W base spare held n t ((cs.drop o).take m) = some y := by
 unfold fieldB at hf
 split at hf
 ·rename_i fs hu
  obtain ⟨f, h1, h2⟩ := Option.map_eq_some_iff.1 hf
  simp only [Prod.mk.injEq] at h2
  obtain ⟨rfl, rfl, rfl⟩ := h2
  obtain ⟨q1, q2⟩ := fields_of hu h
  exact ⟨q1, q2 i f h1⟩
 ·cases hf
end
section
variable {H : Type} {enc : TypeId × Value → H} {P : Program}
theorem post_of_below {f : Func} {s : ChangeSpec} {apart fresh handsOn again : Bool} {W W' : World} {args : Array Value} {v : Value} {ds gs : List (DataW H)} {before pa pv : List MemPlace}
  (hW : DataW.Whole enc P f.params.toList s.vars apart W args.toList ds gs before)
  (hres : ∀ (b : Nat) (sp : Nat → Bool) (hd : Bool), DataW.TrodAll enc P W' b sp hd f.resultTypes.toList (v.resultList f.resultTypes.size) (s.fn H (ds ++ gs)).results [])
  (hargs : ∀ sp : Nat → Bool, (∀ p ∈ before, sp p.block = true) → DataW.TrodAll enc P W' 0 sp true f.params.toList args.toList (s.fn H (ds ++ gs)).args pa)
  (hvars : ∀ sp : Nat → Bool, (∀ p ∈ before, sp p.block = true) → DataW.TrodVars enc P W' sp s.vars (s.fn H (ds ++ gs)).vars pv)
  (hps : before = pa ++ pv) (hb : Below W.heap.size W W')
  (hok : ∀ (j : Nat) (t : TypeId) (r : Value), f.resultTypes[j]? = some t → (v.resultList f.resultTypes.size)[j]? = some r → Value.okWide P W' .any 0 t r) :
  s.post enc P f apart fresh handsOn again W args v W' := by
 have hlt : ∀ p ∈ before, p.block < W.heap.size := fun p hp => hW.lt p hp
 have hold : ∀ p ∈ before, (fun b => decide (b < W.heap.size)) p.block = true := fun p hp => by simpa using hlt p hp
 refine ⟨ds, gs, before, [], pa, pv, hW, hres _ _ _, hargs _ hold, hvars _ hold, World.keptBut_mono (fun p hp => ⟨hp, ?_⟩) (hb.frame (· ∈ before)), fun _ => ?_⟩
 ·rw [hps, List.mem_append] at hp
  exact Or.inr hp
 ·obtain ⟨_, _, _, _, _, hz, hn⟩ := hW
  refine ⟨hok, _, _, ([] ++ pa) ++ pv, ⟨[] ++ pa, pv, trodAll_append (hargs _ (fun _ _ => rfl)) (hres _ _ _), hvars _ (fun _ _ => rfl), rfl, ?_, ?_⟩, ?_⟩
  ·intro b off hp
   have hin : MemPlace.cell b off ∈ before := by rw [hps]; simpa using hp
   rw [hb.frozen (hlt _ hin)]
   exact hz b off hin
  ·intro ha
   have := hn ha
   rw [hps] at this
   simpa using this
  ·intro p hp _
   rw [hps]
   simpa using hp
theorem stay_all {T : List TypeId} (hl : laidOutB P = true) {W W' : World} (hb : Below W.heap.size W W') (sp : Nat → Bool) :
  ∀ (ts : List TypeId) (vs : List Value) (ds : List (DataW H)) (ps : List MemPlace), (∀ t ∈ ts, P.readableRec t = true ∧ t < P.types.size) → DataW.TrodAll enc P W 0 (fun _ => true) true ts vs ds ps → (∀ p ∈ ps, p.block < W.heap.size) → (∀ p ∈ ps, sp p.block = true) →
  DataW.TrodAll enc P W' 0 sp true ts vs ds ps
 | [], [], [], ps, _, h, _, _ => h
 | t :: ts, v :: vs, d :: ds, ps, ht, h, hlt, hsp => by
  obtain ⟨p, q, h1, h2, rfl⟩ := h
  have htt := ht t (by simp)
  refine ⟨p, q, WideElems.Trod_stays hl htt.1 htt.2 h1 (fun x hx => hb.same (hlt x (by simp [hx]))) (fun x hx => hsp x (by simp [hx])), stay_all (T := T) hl hb sp ts vs ds q (fun t' h' => ht t' (by simp [h'])) h2 (fun x hx => hlt x (by simp [hx])) (fun x hx => hsp x (by simp [hx])), rfl⟩
 | [], [], _ :: _, _, _, h, _, _ => h.elim
 | [], _ :: _, _, _, _, h, _, _ => by cases h
 | _ :: _, [], _, _, _, h, _, _ => by cases h
 | _ :: _, _ :: _, [], _, _, h, _, _ => by cases h
end
end Go.Proofs.YtncjnffbdhckdaaGreatDoor
/-
 Functions that may leave by a panic.
-/
namespace Go.Proofs.YtncjnffbdhckdaaGreatDoor
open Go.RowKit
set_option linter.unusedVariables false
section
variable {P : Program} {w : World}
/-! ### Deferred calls -/
section
variable {B N : Nat} {ops : Array Oper} {M : Deferred → Fr → World → Prop} {l : List Oper} {F : Fr}
end
end
end Go.Proofs.YtncjnffbdhckdaaGreatDoor
/-
 Arrays of numbers that are taken whole: their cells are a list.
-/
namespace Go.Proofs.YtncjnffbdhckdaaGreatDoor
open Go.RowKit
set_option linter.unusedVariables false
def cellsI (t : List Int) : List Value := t.map (Value.int .i64)
theorem cellsI_len (t : List Int) : (cellsI t).length = t.length := by simp [cellsI]
theorem cellsI_get {t : List Int} {j : Nat} (h : j < t.length) : (cellsI t)[j]? = some (.int .i64 (t.getD j 0)) := by
 simp [cellsI, List.getElem?_eq_getElem h]
theorem cellsI_one (t : List Int) : ∀ u ∈ cellsI t, u.oneCell' = true := by
 intro u hu
 obtain ⟨x, _, rfl⟩ := List.mem_map.1 hu
 rfl
theorem splice_one {t : List Int} {j : Nat} (h : j < t.length) (x : Int) : splice (cellsI t) j [.int .i64 x] = cellsI (t.set j x) := by
 unfold splice cellsI
 refine List.ext_getElem ?_ fun i h1 h2 => ?_
 ·simp only [List.length_append, List.length_take, List.length_drop, List.length_map, List.length_set, List.length_singleton]; omega
 ·simp only [List.length_append, List.length_take, List.length_drop, List.length_map, List.length_singleton] at h1
  simp only [List.getElem_map, List.getElem_set]
  rcases Nat.lt_trichotomy i j with q | q | q
  ·rw [List.getElem_append_left (by simp; omega), List.getElem_append_left (by simp; omega), List.getElem_take, List.getElem_map, if_neg (by omega)]
  ·subst q
   rw [List.getElem_append_left (by simp; omega), List.getElem_append_right (by simp; omega)]
   simp [Nat.min_eq_left (Nat.le_of_lt h)]
  ·rw [List.getElem_append_right (by simp; omega), List.getElem_drop, List.getElem_map, if_neg (by omega)]
   congr 2
   simp only [List.length_append, List.length_take, List.length_map, List.length_singleton]
   omega
def Tb (n : Nat) : Type := { l : List Int // l.length = n }
def Tb.zero (n : Nat) : Tb n := ⟨List.replicate n 0, by simp⟩
def tget {n : Nat} (t : Tb n) (j : Nat) : Int := t.1.getD j 0
def tset {n : Nat} (t : Tb n) (j : Nat) (v : Int) : Tb n := ⟨t.1.set j v, by simp [t.2]⟩
def cellsT {n : Nat} (t : Tb n) : List Value := cellsI t.1
theorem cellsT_len {n : Nat} (t : Tb n) : (cellsT t).length = n := by unfold cellsT; rw [cellsI_len, t.2]
def ckI (i : Int) (n : Nat) : Option Nat := if 0 ≤ i ∧ i.toNat < n then some i.toNat else none
theorem ckI_some {i : Int} {n k : Nat} (h : ckI i n = some k) : i = (k : Int) ∧ k < n := by
 unfold ckI at h
 split at h
 ·cases h; omega
 ·cases h
theorem ckI_nat {k n : Nat} (h : k < n) : ckI (k : Int) n = some k := by
 unfold ckI; rw [if_pos (by omega)]; simp
def arB (P : Program) (T : Nat) : Option (Nat × Nat) :=
 match P.underlying T with
 | some (.array n e) => (P.info? e).map fun i => (n, i.size)
 | _ => none
section
variable {κ : Ctx} {P : Program} {N : Nat} {p : List PanicEntry → Fr → World → Prop} {F : Fr} {w : World} {d : Option Nat} {ty : TypeId} {pos : String} {af : Array Edge} {gd : Option (Nat × Bool)}
theorem rn_idxA {T n sz b off : Nat} {X I : Operand} {k : IntKind} {i : Int} {j : Nat} (hT : arB P T = some (n, sz)) (hx : ev F X = .pointer (some ⟨b, off, none⟩)) (hi : ev F I = .int k i) (hj : ckI i n = some j) :
  (execOp (ev F) ⟨d, .indexAddr T X I, ty, pos, af, gd⟩).run P w = .ok (.value (.pointer (some ⟨b, off + j * sz, none⟩))) w := by
 unfold arB at hT
 split at hT
 ·rename_i n' e hu
  obtain ⟨inf, h1, h2⟩ := Option.map_eq_some_iff.1 hT
  cases h2
  obtain ⟨rfl, h3⟩ := ckI_some hj
  simp [execOp, hx, hi, Instr.indexAt, Instr.sureAddr, asIntOf, run_underlying hu, sizeOf, typeInfo, h1, add_addr, h3]
 ·cases hT
variable {G0 : Gm} {w0 : World} {G : Gm} {B : Nat} {L : List Row} {K : Fr → World → Prop} {ops : Array Oper}
theorem tab_cell {k e sz n cap g m : Nat} {t : Tb m} (hO : Owns G w B L) (hk : L[k]? = some ⟨e, sz, n, .slice (some ⟨g, 0, none⟩) n cap, cellsT t⟩) {j : Nat} (hj : j < m) : w.cell? ⟨g, j, none⟩ = some (.int .i64 (tget t j)) :=
 own_cell hO hk (cellsI_get (by rw [t.2]; exact hj))
theorem tab_cellG {b m : Nat} {t : Tb m} (hS : Sat G w) (hc : Cells G b 0 (cellsT t)) {j : Nat} (hj : j < m) : w.cell? ⟨b, j, none⟩ = some (.int .i64 (tget t j)) := by
 have := hS.cell (hc j _ (cellsI_get (t := t.1) (by rw [t.2]; exact hj)))
 rwa [Nat.zero_add] at this
theorem OpP_storeT {T k e sz n cap g j m : Nat} {X Y : Operand} {t : Tb m} {x : Int}
  (hT : szB P T = some 1) (hS : Since B G0 w0 G w) (hO : Owns G w B L) (hk : L[k]? = some ⟨e, sz, n, .slice (some ⟨g, 0, none⟩) n cap, cellsT t⟩)
  (hX : ev F X = .pointer (some ⟨g, j, none⟩)) (hY : ev F Y = .int .i64 x) (hj : j < m)
  (h : ∀ w', Since B G0 w0 G w' → Owns G w' B (L.set k ⟨e, sz, n, .slice (some ⟨g, 0, none⟩) n cap, cellsT (tset t j x)⟩) → K F w') :
  OpP κ P N p ⟨none, .store T X Y, ty, pos, af, gd⟩ F w K :=
 OpP_store (vs := [.int .i64 x]) hT hS hO hk hX hY rfl rfl (one_all rfl) (by rw [cellsT_len]; exact hj) fun w' h1 h2 => h w' h1 (by
  have e : cellsT (tset t j x) = splice (cellsT t) j [.int .i64 x] := (splice_one (by rw [t.2]; exact hj) x).symm
  rw [e]; exact h2)
theorem OpP_storeTT {T k e sz n cap g m : Nat} {X Y : Operand} {t u : Tb m}
  (hT : szB P T = some m) (hS : Since B G0 w0 G w) (hO : Owns G w B L) (hk : L[k]? = some ⟨e, sz, n, .slice (some ⟨g, 0, none⟩) n cap, cellsT t⟩)
  (hX : ev F X = .pointer (some ⟨g, 0, none⟩)) (hY : ev F Y = .agg (cellsT u).toArray)
  (h : ∀ w', Since B G0 w0 G w' → Owns G w' B (L.set k ⟨e, sz, n, .slice (some ⟨g, 0, none⟩) n cap, cellsT u⟩) → K F w') :
  OpP κ P N p ⟨none, .store T X Y, ty, pos, af, gd⟩ F w K :=
 OpP_store (vs := cellsT u) hT hS hO hk hX hY rfl (cellsT_len u) (cellsI_one _) (by rw [cellsT_len, cellsT_len]; omega) fun w' h1 h2 => h w' h1 (by
  have e : splice (cellsT t) 0 (cellsT u) = cellsT u := by
   unfold splice
   rw [List.take_zero, List.nil_append, Nat.zero_add, cellsT_len, List.drop_eq_nil_of_le (by rw [cellsT_len]; omega), List.append_nil]
  rw [e] at h2; exact h2)
theorem rn_loadT {T n k e sz n' cap g : Nat} {X : Operand} {t : Tb n} (hT : agB P T = some n) (hO : Owns G w B L) (hk : L[k]? = some ⟨e, sz, n', .slice (some ⟨g, 0, none⟩) n' cap, cellsT t⟩) (hX : ev F X = .pointer (some ⟨g, 0, none⟩)) :
  (execOp (ev F) ⟨d, .load T X, ty, pos, af, gd⟩).run P w = .ok (.value (.agg (cellsT t).toArray)) w :=
 rn_loadA hT hX (cellsT_len t) fun j v hj => by
  rw [Nat.zero_add]; exact own_cell hO hk hj
end
/-! ### Closures that are walked into -/
section
variable {κ : Ctx} {p : List PanicEntry → Fr → World → Prop} {P : Program} {N N' : Nat} {F : Fr} {w : World} {K : Fr → World → Prop} {d : Nat} {ty : TypeId} {pos : String} {af : Array Edge} {gd : Option (Nat × Bool)}
theorem OpP_inC {k : Nat} {X : Operand} {args : Array Operand} {ats : Array TypeId} {al fi ca : List Value} (hk : callB P k = true) (hx : ev F X = .func (.func k) fi.toArray ca.toArray) (ha : args.toList.map (ev F) = al) (hd : Nat.blt d N = true)
  (hc : Calls P k (fi ++ al ++ ca).toArray w fun e w' => ∃ v, e = .returned v ∧ Keeps none w w' ∧ K (upd F d v) w') : OpP κ P N p ⟨some d, .call { callee := .value X, args := args, argTypes := ats }, ty, pos, af, gd⟩ F w K :=
 OpP_enter (rn_callV hk hx ha) hd hc fun _ _ ⟨v, h1, h2, h3⟩ => ⟨v, h1, h2.weak, h3⟩
variable {f : FuncId} {fn : Func} {c : Code} {X : Operand} {args : Array Operand} {ats : Array TypeId} {al fi ca : List Value}
theorem OpP_inC1 {t : Nat} (hk : callB P f = true) (hf : P.funcs[f]? = some fn) (hb : fn.body = some c) (hr : fn.results = #[.tmp t]) (hn : fn.ntmps = N') (hN : Nat.ble (fi ++ al ++ ca).length N' = true) (hx : ev F X = .func (.func f) fi.toArray ca.toArray) (ha : args.toList.map (ev F) = al) (hd : Nat.blt d N = true)
  (h : WC ⟨none, none, w.heap.size, true, []⟩ P N' c ⟨fun F' w' => ∃ v, F' t = v ∧ K (upd F d v) w', fun F' w' => ∃ v, F' t = v ∧ K (upd F d v) w', [], fun _ _ _ => False⟩ (nthD (fi ++ al ++ ca)) w) : OpP κ P N p ⟨some d, .call { callee := .value X, args := args, argTypes := ats }, ty, pos, af, gd⟩ F w K :=
 OpP_inC hk hx ha hd (enterN (S := fun v w' => K (upd F d v) w') hf hb hn hN (fun tmps w' ⟨v, h1, h2⟩ => ⟨_, results_tmp hr _ _ _, by
  have e : tmps.getD t undef = v := h1
  show K (upd F d (tmps.getD t undef)) w'
  rw [e]; exact h2⟩) h)
end
/-! ### A slice of no elements, with room for some -/
def mk0 (m : Int) : Option Unit := if 0 ≤ m ∧ m ≤ 1073741824 then some () else none
theorem mk0_some {m : Int} {u : Unit} (h : mk0 m = some u) : 0 ≤ m ∧ m ≤ 1073741824 := by
 unfold mk0 at h
 split at h
 ·assumption
 ·cases h
theorem Owns.newCap {G : Gm} {w : World} {B : Nat} {L : List Row} (h : Owns G w B L) (hS : Sat G w) (e sz m : Nat) (cs : List Value) (hl : cs.length = m * sz) (hm : m ≤ maxLen) : Owns G (w.alloc (.cells cs.toArray e)) B (⟨e, sz, 0, .slice (some ⟨w.heap.size, 0, none⟩) 0 m, []⟩ :: L) := by
 have hk : Owns G (w.alloc (.cells cs.toArray e)) B L := h.keep (fun b hb => Below.heap_alloc w _ b hb) (by simp) fun _ _ => rfl
 refine ⟨fun c hc => ?_, .cons (fun d hd g hg => ?_) h.apart, hk.base⟩
 ·rcases List.mem_cons.1 hc with rfl | hc
  ·refine ⟨⟨by simp, .inr (.inl ⟨w.heap.size, 0, m, cs.toArray, rfl, h.base, Go.heap_alloc_new w _, Nat.zero_le _, hm, by simp [hl], by simp⟩)⟩, fun g hg => ?_⟩
   simp [blkOf] at hg
   subst hg
   cases hG : G w.heap.size with
   | none => rfl
   | some o => exact absurd (hS.lt hG) (Nat.lt_irrefl _)
  ·exact hk.each c hc
 ·simp [blkOf] at hg
  subst hg
  intro hd'
  have := (h.each d hd).lt hd'
  omega
section
variable {κ : Ctx} {P : Program} {N : Nat} {p : List PanicEntry → Fr → World → Prop} {F : Fr} {w w0 : World} {d : Nat} {ty : TypeId} {pos : String} {af : Array Edge} {gd : Option (Nat × Bool)} {G0 G : Gm} {B : Nat} {L : List Row} {K : Fr → World → Prop}
theorem OpP_make0 {T e sz bytes : Nat} {X Y : Operand} {m : Int} {k1 k2 : IntKind} {u : Unit}
  (hT : slB P T = some (e, sz, bytes)) (hS : Since B G0 w0 G w) (hO : Owns G w B L) (hm : mk0 m = some u)
  (hX : ev F X = .int k1 0) (hY : ev F Y = .int k2 m) (hd : Nat.blt d N = true) (hby : Nat.ble bytes 65536 = true)
  (h : ∀ b w', Since B G0 w0 G w' → Owns G w' B (⟨e, sz, 0, .slice (some ⟨b, 0, none⟩) 0 m.toNat, []⟩ :: L) → K (upd F d (.slice (some ⟨b, 0, none⟩) 0 m.toNat)) w') :
  OpP κ P N p ⟨some d, .makeSlice T X Y, ty, pos, af, gd⟩ F w K := by
 obtain ⟨p1, p2⟩ := mk0_some hm
 obtain ⟨ht, i, zv, hi, hzv, rfl, rfl, hzs, hsz⟩ := slB_spec hT
 have hby' := Nat.le_of_ble_eq_true hby
 obtain ⟨n, rfl⟩ := Int.eq_ofNat_of_zero_le p1
 simp only [Int.toNat_natCast] at *
 have hn : n ≤ 1073741824 := by omega
 have hb2 : i.bytes * n ≤ 281474976710656 := by
  have h1 : i.bytes * n ≤ 65536 * 1073741824 := Nat.mul_le_mul hby' hn
  omega
 have hbi : (i.bytes : Int) * (n : Int) ≤ 281474976710656 := by
  have h : ((i.bytes * n : Nat) : Int) ≤ 281474976710656 := by omega
  rwa [Int.natCast_mul] at h
 have hr := run_make (P := P) w T e i zv ht hi hzv k1 k2 0 n (Int.le_refl _) (by omega) hbi (by omega)
 have hlen : (madeCells zv.cells (n * i.size)).toList.length = n * i.size := by simp [madeCells]
 have hnew := hO.newCap hS.sat e i.size n (madeCells zv.cells (n * i.size)).toList hlen (by simp only [maxLen]; omega)
 refine OpP_eff (v := .slice (some ⟨w.heap.size, 0, none⟩) 0 n) (w' := w.alloc (.cells (madeCells zv.cells (n * i.size)).toList.toArray e)) ?_ hd (.alloc _ _) (h _ _ (hS.keep ((Below.refl _ w).alloc (Nat.le_refl _) _)) hnew)
 simp only [execOp, hX, hY, Sem.run_bind, hr, Result.andThen_ok, Sem.run_pure]
 simp
end
/-! ### Bits that are taken away -/
section
variable {P : Program} {F : Fr} {w : World} {od : Option Nat} {ty t u : TypeId} {pos : String} {af : Array Edge} {gd : Option (Nat × Bool)} {x y : Operand} {k : IntKind} {m n : Int}
end
/-! ### Calls that are walked into, with results in memory -/
section
variable {κ : Ctx} {p : List PanicEntry → Fr → World → Prop} {P : Program} {N N' : Nat} {F : Fr} {w : World} {K : Fr → World → Prop} {d : Nat} {ty : TypeId} {pos : String} {af : Array Edge} {gd : Option (Nat × Bool)} {f : FuncId} {fn : Func} {c : Code} {args : Array Operand} {ats : Array TypeId}
end
end Go.Proofs.YtncjnffbdhckdaaGreatDoor
/-
 Rows of rows of numbers of the call's own: a slice of slices into whose elements is stored.
-/
namespace Go.Proofs.YtncjnffbdhckdaaGreatDoor
open Go.RowKit
set_option linter.unusedVariables false
abbrev NI := Option Addr × Nat × List Int
theorem rd_int {G : Gm} {cells : List Value} {ys : List Int} (h : Rd RInt 1 G cells ys) : cells = cellsI ys := by
 refine List.ext_getElem? fun i => ?_
 cases hx : ys[i]? with
 | none =>
  have : ys.length ≤ i := List.getElem?_eq_none_iff.1 hx
  rw [List.getElem?_eq_none (by rw [h.1]; omega), List.getElem?_eq_none (by rw [cellsI_len]; omega)]
 | some x =>
  obtain ⟨cs, h1, h2, h3⟩ := h.2 i x hx
  have h3 : cs = [.int .i64 x] := h3
  subst h3
  have := h2 0 _ rfl
  simp only [Nat.mul_one, Nat.add_zero] at this
  rw [this]
  simp [cellsI, hx]
theorem int_rd {G : Gm} (ys : List Int) : Rd RInt 1 G (cellsI ys) ys := by
 refine ⟨by simp [cellsI_len], fun i x hx => ⟨[.int .i64 x], rfl, fun j u hj => ?_, rfl⟩⟩
 cases j with
 | zero => simp at hj; subst hj; simp [cellsI, hx]
 | succ j => simp at hj
section
variable {G G0 : Gm} {w w0 : World} {B : Nat} {L1 : List Row} {eo ei m cap : Nat} {ad : Option Addr} {I : List NI}
variable {κ : Ctx} {p : List PanicEntry → Fr → World → Prop} {P : Program} {N : Nat} {F : Fr} {K : Fr → World → Prop} {d : Nat} {ty : TypeId} {pos : String} {af : Array Edge} {gd : Option (Nat × Bool)}
end
end Go.Proofs.YtncjnffbdhckdaaGreatDoor
/-
 Texts: they are put together, compared, measured, gone through; numbers of another kind.
-/
namespace Go.Proofs.YtncjnffbdhckdaaGreatDoor
open Go.RowKit
set_option linter.unusedVariables false
section
variable {κ : Ctx} {p : List PanicEntry → Fr → World → Prop} {P : Program} {N : Nat} {F : Fr} {w : World} {K : Fr → World → Prop} {d od : Option Nat} {ty t u : TypeId} {pos : String} {af : Array Edge} {gd : Option (Nat × Bool)} {X Y : Operand} {a b c : List UInt8}
theorem rn_idxS {T : Nat} {k : IntKind} {i : Int} {x : UInt8} (hT : P.underlying T = some .string) (hx : ev F X = .string ⟨a.toArray⟩) (hi : ev F Y = .int k i) (hix : ix a i = some x) :
  (execOp (ev F) ⟨od, .index T X Y, ty, pos, af, gd⟩).run P w = .ok (.value (.int .u8 (x.toNat : Int))) w := by
 obtain ⟨h0, h1, h2⟩ := ix_some hix
 have e : (⟨a.toArray⟩ : ByteArray)[i.toNat]? = some x := by
  rw [ByteArray.getElem?_lt' _ _ (show i.toNat < (⟨a.toArray⟩ : ByteArray).size from h1)]
  have : a[i.toNat] = x := (List.getElem?_eq_some_iff.1 h2).2
  exact congrArg some this
 simp [execOp, hx, hi, Instr.index, asIntOf, run_underlying hT, h0, e]
end
/-! ### Going through a text -/
section
variable {κ : Ctx} {p : List PanicEntry → Fr → World → Prop} {P : Program} {N : Nat} {F : Fr} {w w0 : World} {K : Fr → World → Prop} {d : Nat} {ty : TypeId} {pos : String} {af : Array Edge} {gd : Option (Nat × Bool)} {G G0 : Gm} {B : Nat} {L : List Row} {s : List UInt8} {X : Operand}
theorem Owns.newObj (h : Owns G w B L) (hS : Sat G w) (e sz n : Nat) (xs : List Value) (hl : xs.length = n * sz) : Owns G (w.alloc (mobj e sz n xs)) B (⟨e, sz, n, .map (some w.heap.size), xs⟩ :: L) := by
 have hk : Owns G (w.alloc (mobj e sz n xs)) B L := h.keep (fun b hb => Below.heap_alloc w _ b hb) (by simp) fun _ _ => rfl
 refine ⟨fun c hc => ?_, .cons (fun d hd g hg => ?_) h.apart, hk.base⟩
 ·rcases List.mem_cons.1 hc with rfl | hc
  ·refine ⟨⟨hl, .inr (.inr ⟨w.heap.size, rfl, h.base, Go.heap_alloc_new w _⟩)⟩, fun g hg => ?_⟩
   simp [blkOf] at hg
   subst hg
   cases hG : G w.heap.size with
   | none => rfl
   | some o => exact absurd (hS.lt hG) (Nat.lt_irrefl _)
  ·exact hk.each c hc
 ·simp [blkOf] at hg
  subst hg
  intro hd'
  exact absurd ((h.each d hd).lt hd').2 (Nat.lt_irrefl _)
end
end Go.Proofs.YtncjnffbdhckdaaGreatDoor
/-
 Bytes of a text are appended; pointers compared; a block of a known size.
-/
namespace Go.Proofs.YtncjnffbdhckdaaGreatDoor
open Go.RowKit
set_option linter.unusedVariables false
section
variable {κ : Ctx} {p : List PanicEntry → Fr → World → Prop} {P : Program} {w : World}
end
section
variable {κ : Ctx} {p : List PanicEntry → Fr → World → Prop} {P : Program} {N : Nat} {F : Fr} {w : World} {K : Fr → World → Prop} {d : Nat} {ty : TypeId} {pos : String} {af : Array Edge} {gd : Option (Nat × Bool)} {G G0 : Gm} {w0 : World} {B : Nat} {L : List Row}
/-! ### A struct of two cells, of which the size is known -/
def bx (T b : Nat) (p v : Value) : Row := ⟨T, 3, 1, .map (some b), [p, v, .bool false]⟩
end
end Go.Proofs.YtncjnffbdhckdaaGreatDoor
/-
 Going through a text with its place as a count; the library's table in the memory that stays.
-/
namespace Go.Proofs.YtncjnffbdhckdaaGreatDoor
open Go.RowKit
set_option linter.unusedVariables false
section
variable {κ : Ctx} {p : List PanicEntry → Fr → World → Prop} {P : Program} {N : Nat} {F : Fr} {w w0 : World} {K : Fr → World → Prop} {d : Nat} {ty : TypeId} {pos : String} {af : Array Edge} {gd : Option (Nat × Bool)} {G G0 : Gm} {B : Nat} {L : List Row} {s : List UInt8} {X : Operand}
end
def TabG (P : Program) (G : Gm) : Prop := ∃ g e fz, P.globalNamed "internal/strconv.uint64pow10" = some g ∧ G g = some (.cells (Lib.pow10Tab.map fun z => Value.int .u64 z).toArray e fz)
theorem TabG.mono {P : Program} {G G' : Gm} (h : TabG P G) (hle : Gle G G') : TabG P G' := let ⟨g, e, fz, h1, h2⟩ := h; ⟨g, e, fz, h1, hle _ _ h2⟩
theorem TabG.is {P : Program} {G : Gm} {w : World} (h : TabG P G) (hS : Sat G w) : Lib.TabIs P w "internal/strconv.uint64pow10" .u64 Lib.pow10Tab := by
 obtain ⟨g, e, fz, h1, h2⟩ := h
 unfold Lib.TabIs World.var?
 rw [h1]
 simp [hS _ _ h2]
end Go.Proofs.YtncjnffbdhckdaaGreatDoor
/-
 slices.Insert of one number into a row of numbers of the call's own.
-/
namespace Go.Proofs.YtncjnffbdhckdaaGreatDoor
open Go.RowKit Go.Shelf
set_option linter.unusedVariables false
theorem row_turn {G G0 : Gm} {w w0 : World} {B : Nat} {L : List Row} {X : Option Nat} {k e sz n : Nat} {v : Value} {cells : List Value} (hS : Since B G0 w0 G w) (hO : Owns G w B L) (hk : L[k]? = some ⟨e, sz, n, v, cells⟩) {w' : World} {v' : Value} {n' : Nat} {cells' : List Value}
  (q1 : ORow w' B e sz v' n' cells') (q2 : w.grownBy w' (blkOf v)) (q3 : ∀ g, blkOf v' = some g → blkOf v = some g ∨ w.heap.size ≤ g) : Since B G0 w0 G w' ∧ Owns G w' B (L.set k ⟨e, sz, n', v', cells'⟩) ∧ Keeps X w w' := by
 have hc := hO.each _ (List.mem_of_getElem? hk)
 have hdiff : ∀ b, b < w.heap.size → blkOf v ≠ some b → w'.heap[b]? = w.heap[b]? := fun b hb hne => q2.block b hb (fun e => hne e.symm)
 have hsat : Sat G w' := sat_write hS.sat hc hdiff
 have hbel : Below B w w' := ⟨q2.os, q2.tape, q2.output, q2.size, fun b hb => hdiff b (Nat.lt_of_lt_of_le hb hO.base) (fun e => by have := (hc.lt e).1; omega)⟩
 refine ⟨hS.write hsat hbel, hO.write hk q2.size hdiff ⟨q1, fun g hg => ?_⟩ q3, keeps_row hc q2.size hdiff⟩
 rcases q3 g hg with h' | h'
 ·exact hc.2 g h'
 ·cases hG : G g with
  | none => rfl
  | some o => exact absurd (hS.sat.lt hG) (by omega)
theorem setCells_row {w : World} {g : Nat} {t : TypeId} {fz : Nat × Nat} : ∀ (vs : List Value) (o : Nat) (cur : Array Value) (w : World), w.heap[g]? = some (.cells cur t fz) → o + vs.length ≤ cur.size →
  w.setCells g o vs = w.setRow g (cur.toList.take o ++ vs ++ cur.toList.drop (o + vs.length)).toArray
 | [], o, cur, w, hg, _ => by
  simp only [World.setCells, List.append_nil, List.length_nil, Nat.add_zero, List.take_append_drop, Array.toArray_toList]
  rw [setRow_self w g cur t fz hg]
 | v :: rest, o, cur, w, hg, hl => by
  have ih := setCells_row (w := w) (g := g) (t := t) (fz := fz) rest (o + 1) (cur.setIfInBounds o v) (w.setRow g (cur.setIfInBounds o v)) (setRow_heap w g cur _ t _ hg) (by simp at hl ⊢; omega)
  rw [World.setCells, setCell_eq_setRow w g o cur t fz v hg, ih, setRow_setRow]
  congr 2
  have e := list_seg_step cur.toList o v rest (by simp at hl ⊢; omega)
  simpa [Array.toList_setIfInBounds, Nat.add_assoc] using e
def insL (xs : List Int) (i x : Int) : Option (List Int) := if 0 ≤ i ∧ i.toNat ≤ xs.length ∧ xs.length < 1073741824 then some (xs.take i.toNat ++ x :: xs.drop i.toNat) else none
theorem insL_some {xs zs : List Int} {i x : Int} (h : insL xs i x = some zs) : (0 ≤ i ∧ i.toNat ≤ xs.length ∧ xs.length < 1073741824) ∧ zs = xs.take i.toNat ++ x :: xs.drop i.toNat := by
 unfold insL at h
 split at h
 ·exact ⟨‹_›, (Option.some.inj h).symm⟩
 ·cases h
theorem seg_mid (cur : List Value) (o n i : Nat) (x : Value) (cs : List Value) (hc : (cur.drop o).take n = cs) (hcl : cs.length = n) (hi : i ≤ n) (hs : o + n + 1 ≤ cur.length) :
  (((((cur.take (o + (i + 1)) ++ cs.drop i ++ cur.drop (o + (i + 1) + (cs.drop i).length)).take (o + i) ++ [x] ++ (cur.take (o + (i + 1)) ++ cs.drop i ++ cur.drop (o + (i + 1) + (cs.drop i).length)).drop (o + i + 1))).drop o).take (n + 1)) = cs.take i ++ x :: cs.drop i := by
 have hdl : (cs.drop i).length = n - i := by simp [hcl]
 refine List.ext_getElem? fun j => ?_
 have hcj : ∀ q, q < n → cs[q]? = cur[o + q]? := fun q hq => by rw [← hc, List.getElem?_take, if_pos hq, List.getElem?_drop]
 have hL : (cs.take i).length = i := by simp [hcl, hi]
 rw [List.getElem?_take, List.getElem?_drop]
 have h1 : (cur.take (o + (i + 1))).length = o + (i + 1) := by simp; omega
 have hA : ((cur.take (o + (i + 1)) ++ cs.drop i ++ cur.drop (o + (i + 1) + (cs.drop i).length)).take (o + i)).length = o + i := by simp [hdl]; omega
 by_cases hj : j < n + 1
 ·rw [if_pos hj]
  by_cases h2 : j < i
  ·rw [List.getElem?_append_left (by rw [List.length_append, hA]; omega), List.getElem?_append_left (by rw [hA]; omega), List.getElem?_take, if_pos (by omega), List.getElem?_append_left (by simp [h1]; omega), List.getElem?_append_left (by rw [h1]; omega), List.getElem?_take, if_pos (by omega)]
   rw [List.getElem?_append_left (by omega), List.getElem?_take, if_pos h2, hcj j (by omega)]
  ·rw [List.getElem?_append_right (l₁ := cs.take i) (by omega), hL]
   by_cases h3 : j = i
   ·subst h3
    rw [List.getElem?_append_left (by rw [List.length_append, hA]; simp), List.getElem?_append_right (by rw [hA]; omega), hA]
    simp
   ·rw [List.getElem?_append_right (by rw [List.length_append, hA]; simp; omega)]
    simp only [List.length_append, hA, List.length_cons, List.length_nil]
    rw [List.getElem?_drop, List.getElem?_append_left (by simp [h1, hdl]; omega), List.getElem?_append_right (by rw [h1]; omega), h1]
    have e : j - i = (j - i - 1) + 1 := by omega
    rw [e, List.getElem?_cons_succ]
    congr 1
    omega
 ·rw [if_neg hj]
  refine (List.getElem?_eq_none ?_).symm
  simp [hcl]
  omega
set_option maxHeartbeats 2000000 in
theorem ins_ok {P : Program} {ρ : Ren} (hP : Lays2.n21 P ρ) {B : Nat} {G0 : Gm} {w0 : World} {Gc : Gm} {wc : World} {Lq : List Row} {a : Option Addr} {n c e' vb : Nat} {cells : List Value} {xs zs : List Int} {i x : Int}
  (hS : Since B G0 w0 Gc wc) (hO : Owns Gc wc B (⟨ρ.t 3, 1, n, .slice a n c, cells⟩ :: ⟨e', 1, 1, .slice (some ⟨vb, 0, none⟩) 1 1, [.int .i64 x]⟩ :: Lq)) (hn : n = xs.length) (hrd : Rd RInt 1 Gc cells xs) (H : insL xs i x = some zs) :
  Calls P (ρ.f 21) #[.slice a n c, .int .i64 i, .slice (some ⟨vb, 0, none⟩) 1 1] wc (RetO B G0 w0 Gc wc (fun G L r => ∃ a' c' cells', r = .slice a' zs.length c' ∧ L = ⟨ρ.t 3, 1, zs.length, .slice a' zs.length c', cells'⟩ :: ⟨e', 1, 1, .slice (some ⟨vb, 0, none⟩) 1 1, [.int .i64 x]⟩ :: Lq ∧ Rd RInt 1 G cells' zs)) := by
 obtain ⟨⟨h0, h1, h2⟩, rfl⟩ := insL_some H
 obtain ⟨i, rfl⟩ := Int.eq_ofNat_of_zero_le h0
 simp only [Int.toNat_natCast] at h1 ⊢
 subst hn
 have hcells := rd_int hrd
 subst hcells
 have hc := (hO.each _ (List.mem_cons_self ..)).1
 have hv := (hO.each _ (List.mem_cons_of_mem _ (List.mem_cons_self ..))).1
 have hc : ORow wc B (ρ.t 3) 1 (.slice a xs.length c) xs.length (cellsI xs) := hc
 have hv : ORow wc B e' 1 (.slice (some ⟨vb, 0, none⟩) 1 1) 1 [.int .i64 x] := hv
 have hcl : (cellsI xs).length = xs.length := cellsI_len xs
 have hlz : (xs.take i ++ x :: xs.drop i).length = xs.length + 1 := by simp; omega
 have hzc : cellsI (xs.take i ++ x :: xs.drop i) = (cellsI xs).take i ++ Value.int .i64 x :: (cellsI xs).drop i := by simp [cellsI]
 have hvs : ∀ j v, ([Value.int .i64 x] : List Value)[j]? = some v → wc.cell? ⟨vb, 0 + j, none⟩ = some v := fun j v hj => hv.cells hj
 obtain ⟨vcur, hvheap, hvsz⟩ : ∃ vcur, wc.heap[vb]? = some (.cells vcur e' (0, 0)) ∧ 1 ≤ vcur.size := by
  rcases hv.2 with ⟨h, _⟩ | ⟨g, o, cap, cur, h, _, hg, hnc, _, hsz, _⟩ | ⟨_, h, _⟩
  ·cases h
  ·cases h; exact ⟨cur, hg, by omega⟩
  ·cases h
 have hvlt : vb < wc.heap.size := (Array.getElem?_eq_some_iff.1 hvheap).1
 have fin : ∀ (a' : Option Addr) (c' : Nat) (w' : World), ORow w' B (ρ.t 3) 1 (.slice a' (xs.length + 1) c') (xs.length + 1) (cellsI (xs.take i ++ x :: xs.drop i)) → wc.grownBy w' (blkOf (.slice a xs.length c)) → (∀ g, blkOf (.slice a' (xs.length + 1) c') = some g → blkOf (Value.slice a xs.length c) = some g ∨ wc.heap.size ≤ g) →
   RetO B G0 w0 Gc wc (fun G L r => ∃ a' c' cells', r = .slice a' (xs.take i ++ x :: xs.drop i).length c' ∧ L = ⟨ρ.t 3, 1, (xs.take i ++ x :: xs.drop i).length, .slice a' (xs.take i ++ x :: xs.drop i).length c', cells'⟩ :: ⟨e', 1, 1, .slice (some ⟨vb, 0, none⟩) 1 1, [.int .i64 x]⟩ :: Lq ∧ Rd RInt 1 G cells' (xs.take i ++ x :: xs.drop i)) (.returned (.slice a' (xs.length + 1) c')) w' := fun a' c' w' q1 q2 q3 => by
  obtain ⟨r1, r2, r3⟩ := row_turn (X := none) (k := 0) hS hO rfl q1 q2 q3
  rw [hlz]
  exact ⟨_, rfl, r3, Gc, _, Gle.refl _, r1, r2, a', c', _, rfl, rfl, int_rd _⟩
 rcases hc.2 with ⟨hv0, hz⟩ | ⟨g, o, cap, cur, hv0, hBg, hg, hnc, hcm, hsz, htake⟩ | ⟨r, hv0, _⟩
 ·
  have hx : xs = [] := List.eq_nil_of_length_eq_zero hz
  subst hx
  cases hv0
  have hi0 : i = 0 := by simpa using h1
  subst hi0
  refine (Any2.slices_Insert_int_end_grow hP none 0 0 vb 0 1 1 [] [.int .i64 x] wc (by omega) (by omega) (by omega) (by omega) rfl rfl (fun _ => rfl) (fun a ha => by cases ha) hvs (fun v hv => by simp at hv; subst hv; rfl)).mono ?_
  rintro e w' ⟨rfl, rfl⟩
  have hge := grownCap_ge wc 1 0 (ρ.t 3)
  refine fin _ _ _ ⟨rfl, .inr (.inl ⟨_, 0, _, _, rfl, hO.base, Go.heap_alloc_new wc.drew _, hge, grownCap_le_maxLen wc 1 0 _ (by decide), ?_, ?_⟩)⟩ ⟨rfl, rfl, rfl, by simp, fun k hk _ => Below.heap_alloc wc.drew _ k hk⟩ (fun g hg => .inr (by simp [blkOf] at hg; omega))
  ·simp [size_zeroCells, Value.cells]; omega
  ·simp [cellsI]
 ·cases hv0
  have hct : cur.toList.length = cur.size := Array.length_toList
  have hcs : ∀ j v, (cellsI xs)[j]? = some v → wc.cell? ⟨g, o + j, none⟩ = some v := fun j v hj => hc.cells hj
  rcases Nat.lt_or_ge i xs.length with hlt | hge
  ·by_cases hroom : xs.length + 1 ≤ c
   ·
    have hne : vb ≠ g := fun e => by
     have hap := pw_at apart_symm hO.apart (k := 0) rfl
     subst e
     exact hap _ (List.mem_cons_self ..) vb rfl rfl
    refine (Any2.slices_Insert_int_shift hP g o xs.length c i vb 0 1 1 (cellsI xs) [.int .i64 x] wc hlt (by omega) hroom (by simp only [maxLen] at hcm; omega) hne hcl rfl hcs (fun j hj => ?_) (fun j hj => ?_) hvs (cellsI_one xs) (fun v hv => by simp at hv; subst hv; rfl)
     e' (ρ.t 3) vcur.size cur.size (by simp [World.shape?, hvheap]) (by simp [World.shape?, hg]) (by omega) (by simp [World.frozen?, hvheap]) (by simp [World.frozen?, hvheap])).mono ?_
    ·simp [World.cell?, hg]; omega
    ·simp [World.frozen?, hg]
    rintro e w' ⟨rfl, hw⟩
    have hgd : wc.drew.heap[g]? = some (.cells cur (ρ.t 3) (0, 0)) := hg
    have hdl : ((cellsI xs).drop i).length = xs.length - i := by simp [hcl]
    have e1 := setCells_row (w := wc.drew) (g := g) ((cellsI xs).drop i) (o + (i + 1)) cur wc.drew hgd (by rw [hdl]; omega)
    rw [e1] at hw
    have hg1 := setRow_heap wc.drew g cur (cur.toList.take (o + (i + 1)) ++ (cellsI xs).drop i ++ cur.toList.drop (o + (i + 1) + ((cellsI xs).drop i).length)).toArray (ρ.t 3) _ hgd
    have hs1 : (cur.toList.take (o + (i + 1)) ++ (cellsI xs).drop i ++ cur.toList.drop (o + (i + 1) + ((cellsI xs).drop i).length)).toArray.size = cur.size := by
     simp only [List.size_toArray, List.length_append, List.length_take, List.length_drop, hcl, hct]
     omega
    have e2 := setCells_row (w := wc.drew) (g := g) [Value.int .i64 x] (o + i) _ _ hg1 (by rw [hs1]; simp; omega)
    rw [e2, setRow_setRow] at hw
    subst hw
    refine fin _ _ _ ⟨by simp [cellsI_len]; omega, .inr (.inl ⟨g, o, c, _, rfl, hBg, setRow_heap wc.drew g cur _ (ρ.t 3) _ hgd, hroom, hcm, ?_, ?_⟩)⟩ ⟨rfl, rfl, rfl, by simp [World.setRow], fun k _ hk => setRow_other wc.drew g k _ (fun e => hk (by simp [blkOf, e]))⟩ (fun g' hg' => .inl hg')
    ·simp only [List.size_toArray, List.length_append, List.length_take, List.length_drop, hcl, hct, List.length_cons, List.length_nil]
     omega
    ·rw [hzc, Nat.mul_one]
     exact seg_mid cur.toList o xs.length i (.int .i64 x) (cellsI xs) (by simpa using htake) hcl (by omega) (by rw [hct]; omega)
   ·
    refine (Any2.slices_Insert_int_grow hP g o xs.length c i vb 0 1 1 (cellsI xs) [.int .i64 x] wc hlt (by omega) hnc (by omega) (by omega) hcl rfl hcs hvs (cellsI_one xs) (fun v hv => by simp at hv; subst hv; rfl)).mono ?_
    rintro e w' ⟨rfl, hw⟩
    have hge' := grownCap_ge wc (xs.length + 1) c (ρ.t 3)
    obtain ⟨cur0, hcur0⟩ : ∃ z, z = (((cellsI xs).take i).toArray ++ Builtin.zeroCells (Value.int .i64 0).cells (xs.length + 1 - i) ++ Builtin.zeroCells (Value.int .i64 0).cells (grownCap wc (xs.length + 1) c (ρ.t 3) - (xs.length + 1))) := ⟨_, rfl⟩
    rw [← hcur0] at hw
    have hzs : (Value.int .i64 0).cells.size = 1 := rfl
    have hsz0 : cur0.size = grownCap wc (xs.length + 1) c (ρ.t 3) := by rw [hcur0]; simp [size_zeroCells, hzs, hcl]; omega
    have htk : cur0.toList.take i = (cellsI xs).take i := by
     rw [hcur0]
     simp only [Array.toList_append, List.append_assoc]
     rw [List.take_append_of_le_length (by simp [hcl]; omega)]
     show ((cellsI xs).take i).take i = _
     rw [List.take_take, Nat.min_self]
    have hg0 : (wc.alloc (.cells cur0 (ρ.t 3))).drew.heap[wc.heap.size]? = some (.cells cur0 (ρ.t 3) (0, 0)) := Go.heap_alloc_new wc _
    have e1 := setCells_row (w := wc.drew) (g := wc.heap.size) [Value.int .i64 x] i cur0 _ hg0 (by simp [hsz0]; omega)
    rw [e1] at hw
    have hg1 := setRow_heap _ wc.heap.size cur0 (cur0.toList.take i ++ [Value.int .i64 x] ++ cur0.toList.drop (i + [Value.int .i64 x].length)).toArray (ρ.t 3) _ hg0
    have hg1' : (((wc.alloc (.cells cur0 (ρ.t 3))).drew.setRow wc.heap.size (cur0.toList.take i ++ [Value.int .i64 x] ++ cur0.toList.drop (i + [Value.int .i64 x].length)).toArray).drew).heap[wc.heap.size]? = some (.cells (cur0.toList.take i ++ [Value.int .i64 x] ++ cur0.toList.drop (i + [Value.int .i64 x].length)).toArray (ρ.t 3) (0, 0)) := hg1
    have hdl : ((cellsI xs).drop i).length = xs.length - i := by simp [hcl]
    have e2 := setCells_row (w := wc.drew) (g := wc.heap.size) ((cellsI xs).drop i) (i + 1) _ _ hg1' (by simp [hsz0, hcl]; omega)
    rw [e2] at hw
    subst hw
    refine fin _ _ _ ⟨by simp [cellsI_len]; omega, .inr (.inl ⟨wc.heap.size, 0, _, _, rfl, hO.base, setRow_heap _ wc.heap.size _ _ (ρ.t 3) _ hg1', hge', grownCap_le_maxLen wc _ c _ (by simp only [maxLen]; omega), ?_, ?_⟩)⟩ ⟨rfl, rfl, rfl, by simp [World.setRow], fun k hk _ => ?_⟩ (fun g' hg' => .inr (by simp [blkOf] at hg'; omega))
    ·simp [hsz0, hcl]; omega
    ·rw [hzc, Nat.mul_one, List.drop_zero]
     simp only [List.length_cons, List.length_nil, Nat.zero_add, htk, hdl]
     have hti : ((cellsI xs).take i).length = i := by simp [hcl]; omega
     have e5 : ((cellsI xs).take i ++ [Value.int .i64 x] ++ cur0.toList.drop (i + 1)).take (i + 1) = (cellsI xs).take i ++ [Value.int .i64 x] := by
      rw [List.take_append_of_le_length (by simp [hti])]
      exact List.take_of_length_le (by simp [hti])
     rw [e5]
     rw [List.take_append_of_le_length (by simp [hti, hdl]; omega), List.take_of_length_le (by simp [hti, hdl]; omega)]
     simp
    ·rw [setRow_other _ _ _ _ (by omega)]
     show (((wc.alloc (.cells cur0 (ρ.t 3))).drew.setRow wc.heap.size _)).heap[k]? = _
     rw [setRow_other _ _ _ _ (by omega)]
     exact Below.heap_alloc wc _ k hk
  ·have hi : i = xs.length := by omega
   subst hi
   have hzc : cellsI (xs.take xs.length ++ x :: xs.drop xs.length) = cellsI xs ++ [Value.int .i64 x] := by simp [cellsI]
   by_cases hroom : xs.length + 1 ≤ c
   ·
    refine (Any2.slices_Insert_int_end_room hP g o xs.length c vb 0 1 1 [.int .i64 x] wc (by omega) hroom (by simp only [maxLen] at hcm; omega) rfl (fun j hj => ?_) (fun j hj => ?_) hvs (fun v hv => by simp at hv; subst hv; rfl)).mono ?_
    ·simp [World.cell?, hg]; omega
    ·simp [World.frozen?, hg]
    rintro e w' ⟨rfl, hw⟩
    have e2 := setCells_row (w := wc) (g := g) [Value.int .i64 x] (o + xs.length) _ _ hg (by simp; omega)
    rw [e2] at hw
    subst hw
    refine fin _ _ _ ⟨by simp [cellsI_len], .inr (.inl ⟨g, o, c, _, rfl, hBg, setRow_heap wc g cur _ (ρ.t 3) _ hg, hroom, hcm, ?_, ?_⟩)⟩ ⟨rfl, rfl, rfl, by simp [World.setRow], fun k _ hk => setRow_other wc g k _ (fun e => hk (by simp [blkOf, e]))⟩ (fun g' hg' => .inl hg')
    ·simp; omega
    ·rw [hzc]
     have := take_drop_app cur.toList (cellsI xs) [Value.int .i64 x] o (by rw [hcl]; simpa using htake) (by rw [hct, hcl]; simp; omega)
     rw [List.length_append, hcl] at this
     simpa using this
   ·
    refine (Any2.slices_Insert_int_end_grow hP (some ⟨g, o, none⟩) xs.length c vb 0 1 1 (cellsI xs) [.int .i64 x] wc (by omega) hnc (by omega) (by omega) hcl rfl (fun h => by cases h) (fun a ha j v hj => by cases ha; rw [add_addr]; exact hcs j v hj) hvs (fun v hv => by simp at hv; subst hv; rfl)).mono ?_
    rintro e w' ⟨rfl, rfl⟩
    have hge' := grownCap_ge wc (xs.length + 1) c (ρ.t 3)
    refine fin _ _ _ ⟨by simp [cellsI_len], .inr (.inl ⟨_, 0, _, _, rfl, hO.base, Go.heap_alloc_new wc.drew _, hge', grownCap_le_maxLen wc _ c _ (by simp only [maxLen]; omega), ?_, ?_⟩)⟩ ⟨rfl, rfl, rfl, by simp, fun k hk _ => Below.heap_alloc wc.drew _ k hk⟩ (fun g hg => .inr (by simp [blkOf] at hg; omega))
    ·have hzs : (Value.int .i64 0).cells.size = 1 := rfl
     simp [size_zeroCells, hzs, hcl]; omega
    ·rw [hzc]
     simp only [Array.toList_append, List.drop_zero, Nat.mul_one]
     rw [List.take_append_of_le_length (by simp [hcl])]
     exact List.take_of_length_le (by simp [hcl])
 ·cases hv0
end Go.Proofs.YtncjnffbdhckdaaGreatDoor
