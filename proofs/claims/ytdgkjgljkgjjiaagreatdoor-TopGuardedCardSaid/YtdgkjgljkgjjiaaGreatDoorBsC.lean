/-
 What is handed to a law, read as data of Lean's; and a law's row.
-/
import Derived.Test.YtdgkjgljkgjjiaaGreatDoorBsB
import Derived.ProofKit
import Derived.Below
import Derived.ChangeSame
import Derived.Tactics
import Derived.Tactics2
import Derived.Defers
import Derived.Recover
import Derived.TacticsInMore
import Derived.RegionIn
import Derived.RecoverIn
import Derived.Laws.Concat
import Derived.Laws.Strings
import Derived.Laws.Strings2
import Derived.Lib.ItoaNum
import Derived.Lib.LaidTab
import Derived.Lib.Builder
import Derived.Lib.UnsafeStr
import Derived.Shelf.Spec.SlicesInsertGrow
namespace Go.Proofs.YtdgkjgljkgjjiaaGreatDoor
open Go.ChangeShapes Go.WideShapes Go.ChangeAt Go.RowKit
def Gof (W : World) : Gm := fun b => W.heap[b]?
theorem sat_of (W : World) : Sat (Gof W) W := fun _ _ h => h
theorem cell_of {W : World} {a : Addr} {v : Value} (h : W.cell? a = some v) : (Gof W).cell a = some v := by
 unfold World.cell? at h
 unfold Gm.cell Gof
 exact h
def Opens {α : Type} (P : Program) (W : World) (T : Nat) (R : Gm → List Value → α → Prop) (ok : α → Prop) : Prop :=
 ∀ {H : Type} (enc : TypeId × Value → H) (base fuel : Nat) (spare : Nat → Bool) (held : Bool) (cs : List Value) (x : DataW H × List MemPlace), DataW.trod enc P W base spare held fuel T cs = some x → ∃ y, R (Gof W) cs y ∧ ok y
def okI (x : Int) : Prop := -9223372036854775808 ≤ x ∧ x < 9223372036854775808
section
variable {P : Program} {W : World} {T e : Nat}
theorem opens_int (hu : P.underlying T = some (.int .i64)) : Opens P W T RInt okI := by
 intro H enc base fuel spare held cs x h
 obtain ⟨n, h1, _, h2⟩ := DataW.trod_int hu h
 refine ⟨n, h1, ?_⟩
 simp [Lit.wf] at h2
 have e1 : IntKind.i64.min = -9223372036854775808 := by decide
 have e2 : IntKind.i64.max = 9223372036854775807 := by decide
 unfold okI
 omega
theorem opens_bool (hu : P.underlying T = some .bool) : Opens P W T RBool (fun _ => True) := by
 intro H enc base fuel spare held cs x h
 obtain ⟨n, h1, _⟩ := DataW.trod_bool hu h
 exact ⟨n, h1, trivial⟩
theorem opens_slice {α : Type} {R : Gm → List Value → α → Prop} {ok : α → Prop} {sz : Nat} (hu : P.underlying T = some (.slice e)) (hsz : P.cellsOf e = sz) (hpos : 0 < sz) (h : Opens P W e R ok) : Opens P W T (RSlice R sz) (fun xs => ∀ y ∈ xs, ok y) := by
 intro H enc base fuel spare held cs x ht
 rcases DataW.trod_slice hu ht with ⟨rfl, _⟩ | ⟨a, len, cap, elems, rest, n, _, rfl, _, hb, hlc, hcm, hel, helem, _, _⟩
 ·exact ⟨[], ⟨none, 0, 0, rfl, RSl.nil R sz _ none⟩, fun y hy => by cases hy⟩
 ·rw [hsz] at helem
  have one : ∀ i, i < len → ∃ y cs, R (Gof W) cs y ∧ ok y ∧ cs.length = sz ∧ (∀ j, j < sz → W.cell? ((a.add (i * sz)).add j) = cs[j]?) := by
   intro i hi
   have h1 := helem i hi
   have h2 : elems[i]? = some (elems[i]'(by omega)) := List.getElem?_eq_getElem (by omega)
   rw [h2] at h1
   obtain ⟨cs, h3, h4⟩ := Option.bind_eq_some_iff.1 h1
   obtain ⟨_, q1, q2⟩ := World.cells?_some h3
   obtain ⟨y, r1, r2⟩ := h enc _ _ _ _ _ _ h4
   exact ⟨y, cs, r1, r2, q1, q2⟩
  have all : ∀ m, m ≤ len → ∃ xs : List _, xs.length = m ∧ (∀ y ∈ xs, ok y) ∧ ∀ i y, xs[i]? = some y → ∃ cs, R (Gof W) cs y ∧ cs.length = sz ∧ ∀ j, j < sz → W.cell? ((a.add (i * sz)).add j) = cs[j]? := by
   intro m
   induction m with
   | zero => intro _; exact ⟨[], rfl, (fun y hy => by cases hy), (fun i y hy => by simp at hy)⟩
   | succ m ih =>
    intro hm
    obtain ⟨xs, h1, h2, h3⟩ := ih (by omega)
    obtain ⟨y, cs, q1, q2, q3, q4⟩ := one m (by omega)
    refine ⟨xs ++ [y], by simp [h1], fun z hz => ?_, fun i z hz => ?_⟩
    ·rcases List.mem_append.1 hz with hz | hz
     ·exact h2 z hz
     ·simp at hz; subst hz; exact q2
    ·by_cases hi : i < xs.length
     ·rw [List.getElem?_append_left hi] at hz
      exact h3 i z hz
     ·rw [List.getElem?_append_right (by omega)] at hz
      have hi0 : i - xs.length = 0 := by
       rcases Nat.eq_zero_or_pos (i - xs.length) with h | h
       ·exact h
       ·rw [List.getElem?_eq_none (by simp; omega)] at hz; cases hz
      rw [hi0] at hz
      simp at hz
      subst hz
      have : i = m := by omega
      subst this
      exact ⟨cs, q1, q3, q4⟩
  obtain ⟨xs, h1, h2, h3⟩ := all len (Nat.le_refl _)
  refine ⟨xs, ⟨some a, len, cap, rfl, h1.symm, ⟨Nat.le_trans hlc hcm, hlc⟩, fun i y hy => ?_⟩, h2⟩
  obtain ⟨cs, q1, q2, q3⟩ := h3 i y hy
  have hil := (List.getElem?_eq_some_iff.1 hy).1
  obtain ⟨cs0, _, z2, z3⟩ := h3 0 _ (List.getElem?_eq_getElem (by omega))
  have h0 : (W.cell? a).isSome = true := by
   have := z3 0 hpos
   rw [List.getElem?_eq_getElem (by omega)] at this
   simp [Addr.add] at this
   rw [this]; rfl
  obtain ⟨u, hu'⟩ := Option.isSome_iff_exists.1 h0
  have hspot : a.spot = none := World.cell?_spot hu'
  obtain ⟨b, off, sp⟩ := a
  simp only at hspot
  subst hspot
  refine ⟨b, off, cs, rfl, fun j v hj => ?_, q2, q1⟩
  have hjl := (List.getElem?_eq_some_iff.1 hj).1
  have := q3 j (by omega)
  rw [add_addr, add_addr, hj] at this
  exact cell_of this
theorem fields_of {H : Type} {enc : TypeId × Value → H} {base fuel : Nat} {spare : Nat → Bool} {held : Bool} {cs : List Value} {x : DataW H × List MemPlace} {fs : Array Field} (hu : P.underlying T = some (.struct fs)) (h : DataW.trod enc P W base spare held fuel T cs = some x) :
  cs.length = P.cellsOf T ∧ ∀ (i : Nat) (f : Field), fs[i]? = some f → ∃ n y, DataW.trod enc P W base spare held n f.type ((cs.drop f.offset).take (P.cellsOf f.type)) = some y := by
 obtain ⟨xs, n, _, _, h1, h2, h3⟩ := DataW.trod_struct hu h
 refine ⟨h1, fun i f hf => ?_⟩
 have hi : i < xs.length := by
  rw [h2]
  exact (Array.getElem?_eq_some_iff.1 hf).1
 exact ⟨n, xs[i], by rw [h3 i f hf, List.getElem?_eq_getElem hi]⟩
/-- A field's place and type, as a closed fact. -/
def fieldB (P : Program) (T i : Nat) : Option (Nat × Nat × Nat) :=
 match P.underlying T with
 | some (.struct fs) => (fs[i]?).map fun f => (f.type, f.offset, P.cellsOf f.type)
 | _ => none
theorem field_of {H : Type} {enc : TypeId × Value → H} {base fuel : Nat} {spare : Nat → Bool} {held : Bool} {cs : List Value} {x : DataW H × List MemPlace} {i t o m : Nat} (hf : fieldB P T i = some (t, o, m)) (h : DataW.trod enc P W base spare held fuel T cs = some x) :
  cs.length = P.cellsOf T ∧ ∃ n y, DataW.trod enc P W base spare held n t ((cs.drop o).take m) = some y := by
 unfold fieldB at hf
 split at hf
 ·rename_i fs hu
  obtain ⟨f, h1, h2⟩ := Option.map_eq_some_iff.1 hf
  simp only [Prod.mk.injEq] at h2
  obtain ⟨rfl, rfl, rfl⟩ := h2
  obtain ⟨q1, q2⟩ := fields_of hu h
  exact ⟨q1, q2 i f h1⟩
 ·cases hf
end
section
variable {H : Type} {enc : TypeId × Value → H} {P : Program}
/-- A function that changes nothing that was there, and answers a bool. -/
theorem post_of_below {f : Func} {s : ChangeSpec} {apart fresh handsOn again : Bool} {W W' : World} {args : Array Value} {v : Value} {ds gs : List (DataW H)} {before pa pv : List MemPlace}
  (hW : DataW.Whole enc P f.params.toList s.vars apart W args.toList ds gs before)
  (hres : ∀ (b : Nat) (sp : Nat → Bool) (hd : Bool), DataW.TrodAll enc P W' b sp hd f.resultTypes.toList (v.resultList f.resultTypes.size) (s.fn H (ds ++ gs)).results [])
  (hargs : ∀ sp : Nat → Bool, (∀ p ∈ before, sp p.block = true) → DataW.TrodAll enc P W' 0 sp true f.params.toList args.toList (s.fn H (ds ++ gs)).args pa)
  (hvars : ∀ sp : Nat → Bool, (∀ p ∈ before, sp p.block = true) → DataW.TrodVars enc P W' sp s.vars (s.fn H (ds ++ gs)).vars pv)
  (hps : before = pa ++ pv) (hb : Below W.heap.size W W')
  (hok : ∀ (j : Nat) (t : TypeId) (r : Value), f.resultTypes[j]? = some t → (v.resultList f.resultTypes.size)[j]? = some r → Value.okWide P W' .any 0 t r) :
  s.post enc P f apart fresh handsOn again W args v W' := by
 have hlt : ∀ p ∈ before, p.block < W.heap.size := fun p hp => hW.lt p hp
 have hold : ∀ p ∈ before, (fun b => decide (b < W.heap.size)) p.block = true := fun p hp => by simpa using hlt p hp
 refine ⟨ds, gs, before, [], pa, pv, hW, hres _ _ _, hargs _ hold, hvars _ hold, World.keptBut_mono (fun p hp => ⟨hp, ?_⟩) (hb.frame (· ∈ before)), fun _ => ?_⟩
 ·rw [hps, List.mem_append] at hp
  exact Or.inr hp
 ·obtain ⟨_, _, _, _, _, hz, hn⟩ := hW
  refine ⟨hok, _, _, ([] ++ pa) ++ pv, ⟨[] ++ pa, pv, trodAll_append (hargs _ (fun _ _ => rfl)) (hres _ _ _), hvars _ (fun _ _ => rfl), rfl, ?_, ?_⟩, ?_⟩
  ·intro b off hp
   have hin : MemPlace.cell b off ∈ before := by rw [hps]; simpa using hp
   rw [hb.frozen (hlt _ hin)]
   exact hz b off hin
  ·intro ha
   have := hn ha
   rw [hps] at this
   simpa using this
  ·intro p hp _
   rw [hps]
   simpa using hp
/-- Arguments stay what they were, all of them. -/
theorem stay_all {T : List TypeId} (hl : laidOutB P = true) {W W' : World} (hb : Below W.heap.size W W') (sp : Nat → Bool) :
  ∀ (ts : List TypeId) (vs : List Value) (ds : List (DataW H)) (ps : List MemPlace), (∀ t ∈ ts, P.readableRec t = true ∧ t < P.types.size) → DataW.TrodAll enc P W 0 (fun _ => true) true ts vs ds ps → (∀ p ∈ ps, p.block < W.heap.size) → (∀ p ∈ ps, sp p.block = true) →
  DataW.TrodAll enc P W' 0 sp true ts vs ds ps
 | [], [], [], ps, _, h, _, _ => h
 | t :: ts, v :: vs, d :: ds, ps, ht, h, hlt, hsp => by
  obtain ⟨p, q, h1, h2, rfl⟩ := h
  have htt := ht t (by simp)
  refine ⟨p, q, WideElems.Trod_stays hl htt.1 htt.2 h1 (fun x hx => hb.same (hlt x (by simp [hx]))) (fun x hx => hsp x (by simp [hx])), stay_all (T := T) hl hb sp ts vs ds q (fun t' h' => ht t' (by simp [h'])) h2 (fun x hx => hlt x (by simp [hx])) (fun x hx => hsp x (by simp [hx])), rfl⟩
 | [], [], _ :: _, _, _, h, _, _ => h.elim
 | [], _ :: _, _, _, _, h, _, _ => by cases h
 | _ :: _, [], _, _, _, h, _, _ => by cases h
 | _ :: _, _ :: _, [], _, _, h, _, _ => by cases h
end
end Go.Proofs.YtdgkjgljkgjjiaaGreatDoor
/-
 Functions that may leave by a panic.
-/
namespace Go.Proofs.YtdgkjgljkgjjiaaGreatDoor
open Go.RowKit
set_option linter.unusedVariables false
section
variable {P : Program} {w : World}
/-! ### Deferred calls -/
section
variable {B N : Nat} {ops : Array Oper} {M : Deferred → Fr → World → Prop} {l : List Oper} {F : Fr}
end
end
end Go.Proofs.YtdgkjgljkgjjiaaGreatDoor
/-
 Arrays of numbers that are taken whole: their cells are a list.
-/
namespace Go.Proofs.YtdgkjgljkgjjiaaGreatDoor
open Go.RowKit
set_option linter.unusedVariables false
/-- So many numbers. -/
def Tb (n : Nat) : Type := { l : List Int // l.length = n }
def Tb.zero (n : Nat) : Tb n := ⟨List.replicate n 0, by simp⟩
def tget {n : Nat} (t : Tb n) (j : Nat) : Int := t.1.getD j 0
def tset {n : Nat} (t : Tb n) (j : Nat) (v : Int) : Tb n := ⟨t.1.set j v, by simp [t.2]⟩
section
variable {κ : Ctx} {P : Program} {N : Nat} {p : List PanicEntry → Fr → World → Prop} {F : Fr} {w : World} {d : Option Nat} {ty : TypeId} {pos : String} {af : Array Edge} {gd : Option (Nat × Bool)}
variable {G0 : Gm} {w0 : World} {G : Gm} {B : Nat} {L : List Row} {K : Fr → World → Prop} {ops : Array Oper}
end
/-! ### Closures that are walked into -/
section
variable {κ : Ctx} {p : List PanicEntry → Fr → World → Prop} {P : Program} {N N' : Nat} {F : Fr} {w : World} {K : Fr → World → Prop} {d : Nat} {ty : TypeId} {pos : String} {af : Array Edge} {gd : Option (Nat × Bool)}
variable {f : FuncId} {fn : Func} {c : Code} {X : Operand} {args : Array Operand} {ats : Array TypeId} {al fi ca : List Value}
end
/-! ### A slice of no elements, with room for some -/
section
variable {κ : Ctx} {P : Program} {N : Nat} {p : List PanicEntry → Fr → World → Prop} {F : Fr} {w w0 : World} {d : Nat} {ty : TypeId} {pos : String} {af : Array Edge} {gd : Option (Nat × Bool)} {G0 G : Gm} {B : Nat} {L : List Row} {K : Fr → World → Prop}
end
/-! ### Bits that are taken away -/
section
variable {P : Program} {F : Fr} {w : World} {od : Option Nat} {ty t u : TypeId} {pos : String} {af : Array Edge} {gd : Option (Nat × Bool)} {x y : Operand} {k : IntKind} {m n : Int}
end
/-! ### Calls that are walked into, with results in memory -/
section
variable {κ : Ctx} {p : List PanicEntry → Fr → World → Prop} {P : Program} {N N' : Nat} {F : Fr} {w : World} {K : Fr → World → Prop} {d : Nat} {ty : TypeId} {pos : String} {af : Array Edge} {gd : Option (Nat × Bool)} {f : FuncId} {fn : Func} {c : Code} {args : Array Operand} {ats : Array TypeId}
end
end Go.Proofs.YtdgkjgljkgjjiaaGreatDoor
/-
 Rows of rows of numbers of the call's own: a slice of slices into whose elements is stored.
-/
namespace Go.Proofs.YtdgkjgljkgjjiaaGreatDoor
open Go.RowKit
set_option linter.unusedVariables false
/-- A row among rows: where it lies, its capacity, its numbers. -/
abbrev NI := Option Addr × Nat × List Int
section
variable {G G0 : Gm} {w w0 : World} {B : Nat} {L1 : List Row} {eo ei m cap : Nat} {ad : Option Addr} {I : List NI}
variable {κ : Ctx} {p : List PanicEntry → Fr → World → Prop} {P : Program} {N : Nat} {F : Fr} {K : Fr → World → Prop} {d : Nat} {ty : TypeId} {pos : String} {af : Array Edge} {gd : Option (Nat × Bool)}
end
end Go.Proofs.YtdgkjgljkgjjiaaGreatDoor
/-
 Texts: they are put together, compared, measured, gone through; numbers of another kind.
-/
namespace Go.Proofs.YtdgkjgljkgjjiaaGreatDoor
open Go.RowKit
set_option linter.unusedVariables false
section
variable {κ : Ctx} {p : List PanicEntry → Fr → World → Prop} {P : Program} {N : Nat} {F : Fr} {w : World} {K : Fr → World → Prop} {d od : Option Nat} {ty t u : TypeId} {pos : String} {af : Array Edge} {gd : Option (Nat × Bool)} {X Y : Operand} {a b c : List UInt8}
theorem rn_idxS {T : Nat} {k : IntKind} {i : Int} {x : UInt8} (hT : P.underlying T = some .string) (hx : ev F X = .string ⟨a.toArray⟩) (hi : ev F Y = .int k i) (hix : ix a i = some x) :
  (execOp (ev F) ⟨od, .index T X Y, ty, pos, af, gd⟩).run P w = .ok (.value (.int .u8 (x.toNat : Int))) w := by
 obtain ⟨h0, h1, h2⟩ := ix_some hix
 have e : (⟨a.toArray⟩ : ByteArray)[i.toNat]? = some x := by
  rw [ByteArray.getElem?_lt' _ _ (show i.toNat < (⟨a.toArray⟩ : ByteArray).size from h1)]
  have : a[i.toNat] = x := (List.getElem?_eq_some_iff.1 h2).2
  exact congrArg some this
 simp [execOp, hx, hi, Instr.index, asIntOf, run_underlying hT, h0, e]
theorem rn_conv {T T' : Nat} {dd : TypeDesc} {k k' : IntKind} {n : Int} (hT : P.underlying T = some dd) (hT' : P.underlying T' = some (.int k)) (hx : ev F X = .int k' n) :
  (execOp (ev F) ⟨od, .convert T T' X, ty, pos, af, gd⟩).run P w = .ok (.value (.int k (k.wrap n))) w := by
 simp [execOp, hx, convert, run_underlying hT, run_underlying hT', Conv.intToInt]
end
/-! ### Going through a text -/
section
variable {κ : Ctx} {p : List PanicEntry → Fr → World → Prop} {P : Program} {N : Nat} {F : Fr} {w w0 : World} {K : Fr → World → Prop} {d : Nat} {ty : TypeId} {pos : String} {af : Array Edge} {gd : Option (Nat × Bool)} {G G0 : Gm} {B : Nat} {L : List Row} {s : List UInt8} {X : Operand}
theorem Owns.newObj (h : Owns G w B L) (hS : Sat G w) (e sz n : Nat) (xs : List Value) (hl : xs.length = n * sz) : Owns G (w.alloc (mobj e sz n xs)) B (⟨e, sz, n, .map (some w.heap.size), xs⟩ :: L) := by
 have hk : Owns G (w.alloc (mobj e sz n xs)) B L := h.keep (fun b hb => Below.heap_alloc w _ b hb) (by simp) fun _ _ => rfl
 refine ⟨fun c hc => ?_, .cons (fun d hd g hg => ?_) h.apart, hk.base⟩
 ·rcases List.mem_cons.1 hc with rfl | hc
  ·refine ⟨⟨hl, .inr (.inr ⟨w.heap.size, rfl, h.base, Go.heap_alloc_new w _⟩)⟩, fun g hg => ?_⟩
   simp [blkOf] at hg
   subst hg
   cases hG : G w.heap.size with
   | none => rfl
   | some o => exact absurd (hS.lt hG) (Nat.lt_irrefl _)
  ·exact hk.each c hc
 ·simp [blkOf] at hg
  subst hg
  intro hd'
  exact absurd ((h.each d hd).lt hd').2 (Nat.lt_irrefl _)
end
end Go.Proofs.YtdgkjgljkgjjiaaGreatDoor
/-
 Bytes of a text are appended; pointers compared; a block of a known size.
-/
namespace Go.Proofs.YtdgkjgljkgjjiaaGreatDoor
open Go.RowKit
set_option linter.unusedVariables false
section
variable {κ : Ctx} {p : List PanicEntry → Fr → World → Prop} {P : Program} {w : World}
end
section
variable {κ : Ctx} {p : List PanicEntry → Fr → World → Prop} {P : Program} {N : Nat} {F : Fr} {w : World} {K : Fr → World → Prop} {d : Nat} {ty : TypeId} {pos : String} {af : Array Edge} {gd : Option (Nat × Bool)} {G G0 : Gm} {w0 : World} {B : Nat} {L : List Row}
/-! ### A struct of two cells, of which the size is known -/
def bx (T b : Nat) (p v : Value) : Row := ⟨T, 3, 1, .map (some b), [p, v, .bool false]⟩
end
end Go.Proofs.YtdgkjgljkgjjiaaGreatDoor
/-
 Going through a text with its place as a count; the library's table in the memory that stays.
-/
namespace Go.Proofs.YtdgkjgljkgjjiaaGreatDoor
open Go.RowKit
set_option linter.unusedVariables false
section
variable {κ : Ctx} {p : List PanicEntry → Fr → World → Prop} {P : Program} {N : Nat} {F : Fr} {w w0 : World} {K : Fr → World → Prop} {d : Nat} {ty : TypeId} {pos : String} {af : Array Edge} {gd : Option (Nat × Bool)} {G G0 : Gm} {B : Nat} {L : List Row} {s : List UInt8} {X : Operand}
end
/-- The library's table of powers of ten is in the memory that stays. -/
def TabG (P : Program) (G : Gm) : Prop := ∃ g e fz, P.globalNamed "internal/strconv.uint64pow10" = some g ∧ G g = some (.cells (Lib.pow10Tab.map fun z => Value.int .u64 z).toArray e fz)
theorem TabG.mono {P : Program} {G G' : Gm} (h : TabG P G) (hle : Gle G G') : TabG P G' := let ⟨g, e, fz, h1, h2⟩ := h; ⟨g, e, fz, h1, hle _ _ h2⟩
theorem TabG.is {P : Program} {G : Gm} {w : World} (h : TabG P G) (hS : Sat G w) : Lib.TabIs P w "internal/strconv.uint64pow10" .u64 Lib.pow10Tab := by
 obtain ⟨g, e, fz, h1, h2⟩ := h
 unfold Lib.TabIs World.var?
 rw [h1]
 simp [hS _ _ h2]
end Go.Proofs.YtdgkjgljkgjjiaaGreatDoor
/-
  slices.Insert of one number into a row of numbers of the call's own.
-/
namespace Go.Proofs.YtdgkjgljkgjjiaaGreatDoor
open Go.RowKit Go.Shelf
set_option linter.unusedVariables false

end Go.Proofs.YtdgkjgljkgjjiaaGreatDoor
