/-
 What is handed to a law, read as data of Lean's; and a law's row.
-/
import Derived.Test.YtihedfkcccaonaaGreatDoorBsB
import Derived.ProofKit
import Derived.Below
import Derived.ChangeSame
import Derived.Tactics
import Derived.Tactics2
import Derived.Defers
import Derived.Recover
import Derived.TacticsInMore
import Derived.RegionIn
import Derived.RecoverIn
import Derived.Laws.Concat
import Derived.Laws.Strings
import Derived.Laws.Strings2
import Derived.Lib.ItoaNum
import Derived.Lib.LaidTab
import Derived.Lib.Builder
import Derived.Lib.UnsafeStr
import Derived.Shelf.Spec.SlicesInsertGrow
import Derived.Laws.BytesArg
import Derived.Laws.Strings3
namespace Go.Proofs.YtihedfkcccaonaaGreatDoor
open Go.ChangeShapes Go.WideShapes Go.ChangeAt Go.RowKit
def Gof (W : World) : Gm := fun b => W.heap[b]?
theorem zui (W : World) : Sat (Gof W) W := fun _ _ h => h
theorem zsW {W : World} {a : Addr} {v : Value} (h : W.cell? a = some v) : (Gof W).cell a = some v := by
 unfold World.cell? at h
 unfold Gm.cell Gof
 exact h
def xR {α : Type} (P : Program) (W : World) (T : Nat) (R : Gm → List Value → α → Prop) (ok : α → Prop) : Prop :=
 ∀ {H : Type} (enc : TypeId × Value → H) (base fuel : Nat) (spare : Nat → Bool) (held : Bool) (cs : List Value) (x : DataW H × List MemPlace), DataW.trod enc P W base spare held fuel T cs = some x → ∃ y, R (Gof W) cs y ∧ ok y
def okI (x : Int) : Prop := -9223372036854775808 ≤ x ∧ x < 9223372036854775808
section
variable {P : Program} {W : World} {T e : Nat}
theorem zB (hu : P.underlying T = some (.int .i64)) : xR P W T yD okI := by
 intro H enc base fuel spare held cs x h
 obtain ⟨n, h1, _, h2⟩ := DataW.trod_int hu h
 refine ⟨n, h1, ?_⟩
 simp [Lit.wf] at h2
 have e1 : IntKind.i64.min = -9223372036854775808 := by decide
 have e2 : IntKind.i64.max = 9223372036854775807 := by decide
 unfold okI
 omega
theorem zjZ (hu : P.underlying T = some .bool) : xR P W T zy6 (fun _ => True) := by
 intro H enc base fuel spare held cs x h
 obtain ⟨n, h1, _⟩ := DataW.trod_bool hu h
 exact ⟨n, h1, trivial⟩
theorem qy {α : Type} {R : Gm → List Value → α → Prop} {ok : α → Prop} {sz : Nat} (hu : P.underlying T = some (.slice e)) (hsz : P.cellsOf e = sz) (hpos : 0 < sz) (h : xR P W e R ok) : xR P W T (zwV R sz) (fun xs => ∀ y ∈ xs, ok y) := by
 intro H enc base fuel spare held cs x ht
 rcases DataW.trod_slice hu ht with ⟨rfl, _⟩ | ⟨a, len, cap, elems, rest, n, _, rfl, _, hb, hlc, hcm, hel, helem, _, _⟩
 ·exact ⟨[], ⟨none, 0, 0, rfl, RSl.nil R sz _ none⟩, fun y hy => by cases hy⟩
 ·rw [hsz] at helem
  have one : ∀ i, i < len → ∃ y cs, R (Gof W) cs y ∧ ok y ∧ cs.length = sz ∧ (∀ j, j < sz → W.cell? ((a.add (i * sz)).add j) = cs[j]?) := by
   intro i hi
   have h1 := helem i hi
   have h2 : elems[i]? = some (elems[i]'(by omega)) := List.getElem?_eq_getElem (by omega)
   rw [h2] at h1
   obtain ⟨cs, h3, h4⟩ := Option.bind_eq_some_iff.1 h1
   obtain ⟨_, q1, q2⟩ := World.cells?_some h3
   obtain ⟨y, r1, r2⟩ := h enc _ _ _ _ _ _ h4
   exact ⟨y, cs, r1, r2, q1, q2⟩
  have all : ∀ m, m ≤ len → ∃ xs : List _, xs.length = m ∧ (∀ y ∈ xs, ok y) ∧ ∀ i y, xs[i]? = some y → ∃ cs, R (Gof W) cs y ∧ cs.length = sz ∧ ∀ j, j < sz → W.cell? ((a.add (i * sz)).add j) = cs[j]? := by
   intro m
   induction m with
   | zero => intro _; exact ⟨[], rfl, (fun y hy => by cases hy), (fun i y hy => by simp at hy)⟩
   | succ m ih =>
    intro hm
    obtain ⟨xs, h1, h2, h3⟩ := ih (by omega)
    obtain ⟨y, cs, q1, q2, q3, q4⟩ := one m (by omega)
    refine ⟨xs ++ [y], by simp [h1], fun z hz => ?_, fun i z hz => ?_⟩
    ·rcases List.mem_append.1 hz with hz | hz
     ·exact h2 z hz
     ·simp at hz; subst hz; exact q2
    ·by_cases hi : i < xs.length
     ·rw [List.getElem?_append_left hi] at hz
      exact h3 i z hz
     ·rw [List.getElem?_append_right (by omega)] at hz
      have hi0 : i - xs.length = 0 := by
       rcases Nat.eq_zero_or_pos (i - xs.length) with h | h
       ·exact h
       ·rw [List.getElem?_eq_none (by simp; omega)] at hz; cases hz
      rw [hi0] at hz
      simp at hz
      subst hz
      have : i = m := by omega
      subst this
      exact ⟨cs, q1, q3, q4⟩
  obtain ⟨xs, h1, h2, h3⟩ := all len (Nat.le_refl _)
  refine ⟨xs, ⟨some a, len, cap, rfl, h1.symm, ⟨Nat.le_trans hlc hcm, hlc⟩, fun i y hy => ?_⟩, h2⟩
  obtain ⟨cs, q1, q2, q3⟩ := h3 i y hy
  have hil := (List.getElem?_eq_some_iff.1 hy).1
  obtain ⟨cs0, _, z2, z3⟩ := h3 0 _ (List.getElem?_eq_getElem (by omega))
  have h0 : (W.cell? a).isSome = true := by
   have := z3 0 hpos
   rw [List.getElem?_eq_getElem (by omega)] at this
   simp [Addr.add] at this
   rw [this]; rfl
  obtain ⟨u, hu'⟩ := Option.isSome_iff_exists.1 h0
  have hspot : a.spot = none := World.cell?_spot hu'
  obtain ⟨b, off, sp⟩ := a
  simp only at hspot
  subst hspot
  refine ⟨b, off, cs, rfl, fun j v hj => ?_, q2, q1⟩
  have hjl := (List.getElem?_eq_some_iff.1 hj).1
  have := q3 j (by omega)
  rw [xf, xf, hj] at this
  exact zsW this
theorem zmO {H : Type} {enc : TypeId × Value → H} {base fuel : Nat} {spare : Nat → Bool} {held : Bool} {cs : List Value} {x : DataW H × List MemPlace} {fs : Array Field} (hu : P.underlying T = some (.struct fs)) (h : DataW.trod enc P W base spare held fuel T cs = some x) :
  cs.length = P.cellsOf T ∧ ∀ (i : Nat) (f : Field), fs[i]? = some f → ∃ n y, DataW.trod enc P W base spare held n f.type ((cs.drop f.offset).take (P.cellsOf f.type)) = some y := by
 obtain ⟨xs, n, _, _, h1, h2, h3⟩ := DataW.trod_struct hu h
 refine ⟨h1, fun i f hf => ?_⟩
 have hi : i < xs.length := by
  rw [h2]
  exact (Array.getElem?_eq_some_iff.1 hf).1
 exact ⟨n, xs[i], by rw [h3 i f hf, List.getElem?_eq_getElem hi]⟩
def zI (P : Program) (T i : Nat) : Option (Nat × Nat × Nat) :=
 match P.underlying T with
 | some (.struct fs) => (fs[i]?).map fun f => (f.type, f.offset, P.cellsOf f.type)
 | _ => none
theorem zt {H : Type} {enc : TypeId × Value → H} {base fuel : Nat} {spare : Nat → Bool} {held : Bool} {cs : List Value} {x : DataW H × List MemPlace} {i t o m : Nat} (hf : zI P T i = some (t, o, m)) (h : DataW.trod enc P W base spare held fuel T cs = some x) :
  cs.length = P.cellsOf T ∧ ∃ n y, DataW.trod enc P W base spare held n t ((cs.drop o).take m) = some y := by
 unfold zI at hf
 split at hf
 ·rename_i fs hu
  obtain ⟨f, h1, h2⟩ := Option.map_eq_some_iff.1 hf
  simp only [Prod.mk.injEq] at h2
  obtain ⟨rfl, rfl, rfl⟩ := h2
  obtain ⟨q1, q2⟩ := zmO hu h
  exact ⟨q1, q2 i f h1⟩
 ·cases hf
end
section
variable {H : Type} {enc : TypeId × Value → H} {P : Program}
theorem zfQ {f : Func} {s : ChangeSpec} {apart fresh handsOn again : Bool} {W W' : World} {args : Array Value} {v : Value} {ds gs : List (DataW H)} {before pa pv : List MemPlace}
  (hW : DataW.Whole enc P f.params.toList s.vars apart W args.toList ds gs before)
  (hres : ∀ (b : Nat) (sp : Nat → Bool) (hd : Bool), DataW.TrodAll enc P W' b sp hd f.resultTypes.toList (v.resultList f.resultTypes.size) (s.fn H (ds ++ gs)).results [])
  (hargs : ∀ sp : Nat → Bool, (∀ p ∈ before, sp p.block = true) → DataW.TrodAll enc P W' 0 sp true f.params.toList args.toList (s.fn H (ds ++ gs)).args pa)
  (hvars : ∀ sp : Nat → Bool, (∀ p ∈ before, sp p.block = true) → DataW.TrodVars enc P W' sp s.vars (s.fn H (ds ++ gs)).vars pv)
  (hps : before = pa ++ pv) (hb : Below W.heap.size W W')
  (hok : ∀ (j : Nat) (t : TypeId) (r : Value), f.resultTypes[j]? = some t → (v.resultList f.resultTypes.size)[j]? = some r → Value.okWide P W' .any 0 t r) :
  s.post enc P f apart fresh handsOn again W args v W' := by
 have hlt : ∀ p ∈ before, p.block < W.heap.size := fun p hp => hW.lt p hp
 have hold : ∀ p ∈ before, (fun b => decide (b < W.heap.size)) p.block = true := fun p hp => by simpa using hlt p hp
 refine ⟨ds, gs, before, [], pa, pv, hW, hres _ _ _, hargs _ hold, hvars _ hold, World.keptBut_mono (fun p hp => ⟨hp, ?_⟩) (hb.frame (· ∈ before)), fun _ => ?_⟩
 ·rw [hps, List.mem_append] at hp
  exact Or.inr hp
 ·obtain ⟨_, _, _, _, _, hz, hn⟩ := hW
  refine ⟨hok, _, _, ([] ++ pa) ++ pv, ⟨[] ++ pa, pv, trodAll_append (hargs _ (fun _ _ => rfl)) (hres _ _ _), hvars _ (fun _ _ => rfl), rfl, ?_, ?_⟩, ?_⟩
  ·intro b off hp
   have hin : MemPlace.cell b off ∈ before := by rw [hps]; simpa using hp
   rw [hb.frozen (hlt _ hin)]
   exact hz b off hin
  ·intro ha
   have := hn ha
   rw [hps] at this
   simpa using this
  ·intro p hp _
   rw [hps]
   simpa using hp
theorem zh3 {T : List TypeId} (hl : laidOutB P = true) {W W' : World} (hb : Below W.heap.size W W') (sp : Nat → Bool) :
  ∀ (ts : List TypeId) (vs : List Value) (ds : List (DataW H)) (ps : List MemPlace), (∀ t ∈ ts, P.readableRec t = true ∧ t < P.types.size) → DataW.TrodAll enc P W 0 (fun _ => true) true ts vs ds ps → (∀ p ∈ ps, p.block < W.heap.size) → (∀ p ∈ ps, sp p.block = true) →
  DataW.TrodAll enc P W' 0 sp true ts vs ds ps
 | [], [], [], ps, _, h, _, _ => h
 | t :: ts, v :: vs, d :: ds, ps, ht, h, hlt, hsp => by
  obtain ⟨p, q, h1, h2, rfl⟩ := h
  have htt := ht t (by simp)
  refine ⟨p, q, WideElems.Trod_stays hl htt.1 htt.2 h1 (fun x hx => hb.same (hlt x (by simp [hx]))) (fun x hx => hsp x (by simp [hx])), zh3 (T := T) hl hb sp ts vs ds q (fun t' h' => ht t' (by simp [h'])) h2 (fun x hx => hlt x (by simp [hx])) (fun x hx => hsp x (by simp [hx])), rfl⟩
 | [], [], _ :: _, _, _, h, _, _ => h.elim
 | [], _ :: _, _, _, _, h, _, _ => by cases h
 | _ :: _, [], _, _, _, h, _, _ => by cases h
 | _ :: _, _ :: _, [], _, _, h, _, _ => by cases h
end
open Go.RowKit
theorem zbB {P : Program} {fn : Func} {tmps : Array Value} {R : Ending → World → Prop} {κ : Ctx} (hdf : κ.df = []) {ch : List PanicEntry} : ∀ (ds : List Deferred) (w : World), Calm κ ds w → (∀ w', Shut κ.ba w w' → R (.panicked ch) w') → LeavesInM Fence.wide 0 P fn tmps R ds (.panicking ch) w
 | [], w, _, h => h w (Shut.refl _ _)
 | d :: ds, w, hc, h => by
  obtain ⟨D, hd, hD, _, hB⟩ := (hc.each d (by simp)).resolve_left (by rw [hdf]; simp)
  refine ⟨by simp, .inl ⟨D, w.putObj D (.deferred none), by rw [hd], run_takeDeferred hD, ?_⟩⟩
  have hp := List.pairwise_cons.1 hc.apart
  refine zbB hdf ds _ ⟨fun e he => .inr ?_, hp.2, fun h => absurd (hc.none h) (by rw [hdf]; simp)⟩ fun w' hw' => h w' ((Shut.one hB hD none).trans hw')
  obtain ⟨E, h1, h2, h3, h4⟩ := (hc.each e (by simp [he])).resolve_left (by rw [hdf]; simp)
  have hne : E ≠ D := by intro e'; subst e'; exact hp.1 e he (by rw [hd, h1])
  exact ⟨E, h1, (World.putObj_heap_other hne).trans h2, h3, h4⟩
section
variable {P : Program} {w : World}
def WLd (B : Nat) (P : Program) (N : Nat) (ops : Array Oper) (M : Deferred → Fr → World → Prop) (l : List Oper) (F : Fr) (w : World) : Prop :=
 ∀ (a : Act) (wI : World), St ⟨none, none, B, true, []⟩ N wI a w → yO a = F → wpListIn Fence.wide 0 P ops (fun e a' w' => e = .normal ∧ ∃ d, St ⟨none, none, B, true, [d]⟩ N wI a' w' ∧ M d (yO a') w') l a w
section
variable {B N : Nat} {ops : Array Oper} {M : Deferred → Fr → World → Prop} {l : List Oper} {F : Fr}
theorem zs7 {d : Nat} {op : Op} {ty : TypeId} {pos : String} {af : Array Edge} {v : Value}
  (hrun : (execOp (ev F) ⟨some d, op, ty, pos, af, none⟩).run P w = .ok (.value v) w) (hd : Nat.blt d N = true) (h : WLd B P N ops M l (upd F d v) w) : WLd B P N ops M (⟨some d, op, ty, pos, af, none⟩ :: l) F w := by
 intro a wI h1 h3
 refine wpListIn_plain rfl fun K' hK' => ⟨fun _ _ => trivial, ?_⟩
 rw [zf3 (ρ := Fence.wide.round) (w' := w) (nx := .value v) (fun _ h => by cases h) (by rw [qT, h3]; exact hrun)]
 refine hK' _ _ (h _ wI (h1.puts _ _) ?_)
 rw [← h3]; exact qY a d v (h1.lt hd)
theorem znj {op : Op} {ty : TypeId} {pos : String} {af : Array Edge} {d : Deferred} (hd : ∀ D, d.target ≠ .collected D) (hrun : (execOp (ev F) ⟨none, op, ty, pos, af, none⟩).run P w = .ok (.defer d) w) (h : M d F w) : WLd B P N ops M [⟨none, op, ty, pos, af, none⟩] F w := by
 intro a wI h1 h3
 refine wpListIn_plain rfl fun K' hK' => ⟨fun _ _ => trivial, ?_⟩
 have e : (Oper.semAt Fence.wide.round a.eval ⟨none, op, ty, pos, af, none⟩).run P w = .ok (.defer d) w := by
  show (Oper.semAt none a.eval _).run P w = _
  rw [Oper.semAt_none, qT, h3]; exact hrun
 rw [e]
 have hnil : a.defers = [] := h1.calm.none rfl
 refine hK' _ _ ⟨rfl, d, ⟨h1.size, ⟨fun x hx => .inl ?_, ?_, fun _ => ?_⟩, h1.keep, h1.base⟩, ?_⟩
 ·simpa [Act.put, hnil] using hx
 ·show List.Pairwise _ (d :: a.defers)
  rw [hnil]; exact List.pairwise_singleton _ _
 ·show d :: a.defers = [d]
  rw [hnil]
 ·show M d (yO a) w
  rw [h3]; exact h
end
theorem zpW {f : FuncId} {fn : Func} {c0 c1 : Code} {id : Nat} {l : List Oper} {al : List Value} {R : Ending → World → Prop} {N : Nat} (S : Deferred → Fr → World → Prop) (Q : Deferred → List PanicEntry → Fr → World → Prop)
  (hf : P.funcs[f]? = some fn) (hb : fn.body = some (.seq c0 (.seq (.region id l.toArray false) c1))) (hn : fn.ntmps = N) (hN : Nat.ble al.length N = true)
  (hS : ∀ (d : Deferred) (tmps : Array Value) w', Keeps none w w' → S d (fun t => tmps.getD t undef) w' → LeavesInM Fence.wide 0 P fn tmps R [d] .returning w')
  (hQ : ∀ (d : Deferred) ch (tmps : Array Value) w', Keeps none w w' → Q d ch (fun t => tmps.getD t undef) w' → LeavesInM Fence.wide 0 P fn tmps R [d] (.panicking ch) w')
  (h : WC ⟨none, none, w.heap.size, true, []⟩ P N c0 ⟨WLd w.heap.size P N l.toArray (fun d => WC ⟨none, none, w.heap.size, true, [d]⟩ P N c1 ⟨S d, S d, [], Q d⟩) l, fun _ _ => False, [], fun _ _ _ => False⟩ (kJ al) w) : Calls P f al.toArray w R := by
 have hle := nQl hN
 have h0 : CallsIn Fence.wide 0 P f al.toArray w R := by
  refine callsIn_of_wp_marks hf hb trivial (wpIn_seq (wpIn_mono (h _ w ⟨?_, Calm.nil _ _, Keeps.refl _, Nat.le_refl _⟩ ?_) ?_))
  ·simp [hn]; omega
  ·exact jC al _ _
  ·rintro e a' w' ⟨p1, p3⟩
   cases e with
   | normal =>
    refine wpIn_seq (wpIn_mono (wpIn_region_lit (p3 a' w p1 rfl)) ?_)
    rintro e a2 w2 ⟨rfl, d, q1, q2⟩
    refine wpIn_mono (q2 a2 w q1 rfl) ?_
    rintro e a3 w3 ⟨s1, s2⟩
    have hds := s1.calm.none rfl
    cases e with
    | normal => show LeavesInM _ _ _ _ _ _ a3.defers _ _; rw [hds]; exact hS _ _ _ s1.keep s2
    | ret => show LeavesInM _ _ _ _ _ _ a3.defers _ _; rw [hds]; exact hS _ _ _ s1.keep s2
    | panic c => show LeavesInM _ _ _ _ _ _ a3.defers _ _; rw [hds]; exact hQ _ _ _ _ s1.keep s2
    | exit k => obtain ⟨K, hK, _⟩ := s2; cases hK
    | goto l => exact s2.elim
    | outgrown => exact s2.elim
   | ret => exact p3.elim
   | exit k => obtain ⟨K, hK, _⟩ := p3; cases hK
   | goto l => exact p3.elim
   | panic c => exact p3.elim
   | outgrown => exact p3.elim
 exact callsIn_wide.1 h0
end
def Tb (n : Nat) : Type := { l : List Int // l.length = n }
def Tb.zero (n : Nat) : Tb n := ⟨List.replicate n 0, by simp⟩
def tget {n : Nat} (t : Tb n) (j : Nat) : Int := t.1.getD j 0
def tset {n : Nat} (t : Tb n) (j : Nat) (v : Int) : Tb n := ⟨t.1.set j v, by simp [t.2]⟩
section
variable {κ : Ctx} {P : Program} {N : Nat} {p : List PanicEntry → Fr → World → Prop} {F : Fr} {w : World} {d : Option Nat} {ty : TypeId} {pos : String} {af : Array Edge} {gd : Option (Nat × Bool)}
variable {G0 : Gm} {w0 : World} {G : Gm} {B : Nat} {L : List Row} {K : Fr → World → Prop} {ops : Array Oper}
end
section
variable {κ : Ctx} {p : List PanicEntry → Fr → World → Prop} {P : Program} {N N' : Nat} {F : Fr} {w : World} {K : Fr → World → Prop} {d : Nat} {ty : TypeId} {pos : String} {af : Array Edge} {gd : Option (Nat × Bool)}
variable {f : FuncId} {fn : Func} {c : Code} {X : Operand} {args : Array Operand} {ats : Array TypeId} {al fi ca : List Value}
end
section
variable {κ : Ctx} {P : Program} {N : Nat} {p : List PanicEntry → Fr → World → Prop} {F : Fr} {w w0 : World} {d : Nat} {ty : TypeId} {pos : String} {af : Array Edge} {gd : Option (Nat × Bool)} {G0 G : Gm} {B : Nat} {L : List Row} {K : Fr → World → Prop}
end
section
variable {P : Program} {F : Fr} {w : World} {od : Option Nat} {ty t u : TypeId} {pos : String} {af : Array Edge} {gd : Option (Nat × Bool)} {x y : Operand} {k : IntKind} {m n : Int}
end
section
variable {κ : Ctx} {p : List PanicEntry → Fr → World → Prop} {P : Program} {N N' : Nat} {F : Fr} {w : World} {K : Fr → World → Prop} {d : Nat} {ty : TypeId} {pos : String} {af : Array Edge} {gd : Option (Nat × Bool)} {f : FuncId} {fn : Func} {c : Code} {args : Array Operand} {ats : Array TypeId}
end
abbrev NI := Option Addr × Nat × List Int
section
variable {G G0 : Gm} {w w0 : World} {B : Nat} {L1 : List Row} {eo ei m cap : Nat} {ad : Option Addr} {I : List NI}
variable {κ : Ctx} {p : List PanicEntry → Fr → World → Prop} {P : Program} {N : Nat} {F : Fr} {K : Fr → World → Prop} {d : Nat} {ty : TypeId} {pos : String} {af : Array Edge} {gd : Option (Nat × Bool)}
end
def RU8 : Gm → List Value → UInt8 → Prop := fun _ cs x => cs = [.int .u8 (x.toNat : Int)]
theorem zjr : zam RU8 := fun _ _ _ _ _ h => h
theorem zta : One RU8 := fun _ _ _ h u hu => by cases h; simp at hu; subst hu; rfl
section
variable {κ : Ctx} {p : List PanicEntry → Fr → World → Prop} {P : Program} {N : Nat} {F : Fr} {w : World} {K : Fr → World → Prop} {d od : Option Nat} {ty t u : TypeId} {pos : String} {af : Array Edge} {gd : Option (Nat × Bool)} {X Y : Operand} {a b c : List UInt8}
theorem zch {T : Nat} {ats : Array TypeId} (hT : P.underlying T = some .string) (ha : ats.toList[0]? = some T) (hx : ev F X = .string ⟨a.toArray⟩) :
  (execOp (ev F) ⟨od, .call { callee := .builtin .len, args := #[X], argTypes := ats }, ty, pos, af, gd⟩).run P w = .ok (.value (.int .i64 (a.length : Int))) w := by
 have h2 : ats[0]? = some T := by simpa using ha
 have e1 : (⟨a.toArray⟩ : ByteArray).size = a.length := rfl
 simp [execOp, hx, resolve, invoke, builtin, Builtin.len_, h2, run_underlying hT, goInt, e1]
theorem rn_idxS {T : Nat} {k : IntKind} {i : Int} {x : UInt8} (hT : P.underlying T = some .string) (hx : ev F X = .string ⟨a.toArray⟩) (hi : ev F Y = .int k i) (hix : ix a i = some x) :
  (execOp (ev F) ⟨od, .index T X Y, ty, pos, af, gd⟩).run P w = .ok (.value (.int .u8 (x.toNat : Int))) w := by
 obtain ⟨h0, h1, h2⟩ := zhv hix
 have e : (⟨a.toArray⟩ : ByteArray)[i.toNat]? = some x := by
  rw [ByteArray.getElem?_lt' _ _ (show i.toNat < (⟨a.toArray⟩ : ByteArray).size from h1)]
  have : a[i.toNat] = x := (List.getElem?_eq_some_iff.1 h2).2
  exact congrArg some this
 simp [execOp, hx, hi, Instr.index, asIntOf, run_underlying hT, h0, e]
theorem zk3 {T T' : Nat} {dd : TypeDesc} {k k' : IntKind} {n : Int} (hT : P.underlying T = some dd) (hT' : P.underlying T' = some (.int k)) (hx : ev F X = .int k' n) :
  (execOp (ev F) ⟨od, .convert T T' X, ty, pos, af, gd⟩).run P w = .ok (.value (.int k (k.wrap n))) w := by
 simp [execOp, hx, convert, run_underlying hT, run_underlying hT', Conv.intToInt]
end
def zkv (s : List UInt8) (p : Int) : Int × Int := let q := Utf8.decode ⟨s.toArray⟩ p.toNat; (q.1, (q.2 : Int))
section
variable {κ : Ctx} {p : List PanicEntry → Fr → World → Prop} {P : Program} {N : Nat} {F : Fr} {w w0 : World} {K : Fr → World → Prop} {d : Nat} {ty : TypeId} {pos : String} {af : Array Edge} {gd : Option (Nat × Bool)} {G G0 : Gm} {B : Nat} {L : List Row} {s : List UInt8} {X : Operand}
theorem Owns.newObj (h : Owns G w B L) (hS : Sat G w) (e sz n : Nat) (xs : List Value) (hl : xs.length = n * sz) : Owns G (w.alloc (zbs e sz n xs)) B (⟨e, sz, n, .map (some w.heap.size), xs⟩ :: L) := by
 have hk : Owns G (w.alloc (zbs e sz n xs)) B L := h.keep (fun b hb => Below.heap_alloc w _ b hb) (by simp) fun _ _ => rfl
 refine ⟨fun c hc => ?_, .cons (fun d hd g hg => ?_) h.apart, hk.base⟩
 ·rcases List.mem_cons.1 hc with rfl | hc
  ·refine ⟨⟨hl, .inr (.inr ⟨w.heap.size, rfl, h.base, Go.heap_alloc_new w _⟩)⟩, fun g hg => ?_⟩
   simp [qO] at hg
   subst hg
   cases hG : G w.heap.size with
   | none => rfl
   | some o => exact absurd (hS.lt hG) (Nat.lt_irrefl _)
  ·exact hk.each c hc
 ·simp [qO] at hg
  subst hg
  intro hd'
  exact absurd ((h.each d hd).lt hd').2 (Nat.lt_irrefl _)
theorem zhg {k e sz n r : Nat} {cells : List Value} (hO : Owns G w B L) (hk : L[k]? = some ⟨e, sz, n, .map (some r), cells⟩) : w.heap[r]? = some (zbs e sz n cells) := by
 have hc := hO.each _ (List.mem_of_getElem? hk)
 rcases hc.1.2 with ⟨hv, _⟩ | ⟨_, _, _, _, hv, _⟩ | ⟨r', hv, _, hr⟩
 ·cases hv
 ·cases hv
 ·cases hv; exact hr
theorem zoe {X' : Option Nat} {k e sz n n' r : Nat} {cells xs : List Value} {w' : World} (hS : Since B G0 w0 G w) (hO : Owns G w B L) (hk : L[k]? = some ⟨e, sz, n, .map (some r), cells⟩) (hl : xs.length = n' * sz)
  (hos : w'.os = w.os) (htp : w'.tape = w.tape) (hou : w'.output = w.output) (hsize : w'.heap.size = w.heap.size) (hoth : ∀ b, b ≠ r → w'.heap[b]? = w.heap[b]?) (hself : w'.heap[r]? = some (zbs e sz n' xs)) :
  Since B G0 w0 G w' ∧ Owns G w' B (L.set k ⟨e, sz, n', .map (some r), xs⟩) ∧ Keeps X' w w' := by
 have hc := hO.each _ (List.mem_of_getElem? hk)
 have hBr : B ≤ r := (hc.1.lt (g := r) rfl).1
 have hdiff : ∀ b, b < w.heap.size → qO (Value.map (some r)) ≠ some b → w'.heap[b]? = w.heap[b]? := fun b _ hne => hoth b (fun e => hne (by subst e; rfl))
 have hsat : Sat G w' := vk hS.sat hc hdiff
 have hbel : Below B w w' := ⟨hos, htp, hou, Nat.le_of_eq hsize.symm, fun b hb => hoth b (by omega)⟩
 exact ⟨hS.write hsat hbel, hO.write (c' := ⟨e, sz, n', _, _⟩) hk (Nat.le_of_eq hsize.symm) hdiff ⟨⟨hl, .inr (.inr ⟨r, rfl, hBr, hself⟩)⟩, hc.2⟩ fun g hg => .inl hg, ky hc (Nat.le_of_eq hsize.symm) hdiff⟩
theorem zrc {X' : Option Nat} {k e sz n n' r : Nat} {cells xs : List Value} (hS : Since B G0 w0 G w) (hO : Owns G w B L) (hk : L[k]? = some ⟨e, sz, n, .map (some r), cells⟩) (hl : xs.length = n' * sz) :
  Since B G0 w0 G { w with heap := w.heap.setIfInBounds r (zbs e sz n' xs) } ∧ Owns G { w with heap := w.heap.setIfInBounds r (zbs e sz n' xs) } B (L.set k ⟨e, sz, n', .map (some r), xs⟩) ∧ Keeps X' w { w with heap := w.heap.setIfInBounds r (zbs e sz n' xs) } := by
 have hlt : r < w.heap.size := (Array.getElem?_eq_some_iff.1 (zhg hO hk)).1
 refine zoe hS hO hk hl rfl rfl rfl (by simp) (fun b hb => by simp [Array.getElem?_setIfInBounds_ne (Ne.symm hb)]) (by simp [hlt])
theorem zb3 {T : Nat} (hT : P.underlying T = some .string) (hS : Since B G0 w0 G w) (hO : Owns G w B L) (hX : ev F X = .string ⟨s.toArray⟩) (hd : Nat.blt d N = true)
  (h : ∀ r w', Since B G0 w0 G w' → Owns G w' B (⟨0, 1, 2, .map (some r), [.string ⟨s.toArray⟩, .int .i64 0]⟩ :: L) → K (upd F d (.pointer (some ⟨r, 0, none⟩))) w') : OpP κ P N p ⟨some d, .range T X, ty, pos, af, gd⟩ F w K := by
 refine ks (v := .pointer (some ⟨w.heap.size, 0, none⟩)) (w' := w.alloc (zbs 0 1 2 [.string ⟨s.toArray⟩, .int .i64 0])) ?_ hd (.alloc _ _) (h _ _ (hS.keep ((Below.refl _ w).alloc (Nat.le_refl _) _)) (hO.newObj hS.sat 0 1 2 [.string ⟨s.toArray⟩, .int .i64 0] rfl))
 simp only [execOp, hX, Instr.range, Sem.run_bind, run_underlying hT, Result.andThen_ok, Sem.run_pure]
 rfl
theorem znp {k r : Nat} {q : Int} (hS : Since B G0 w0 G w) (hO : Owns G w B L) (hk : L[k]? = some ⟨0, 1, 2, .map (some r), [.string ⟨s.toArray⟩, .int .i64 q]⟩) (hX : ev F X = .pointer (some ⟨r, 0, none⟩)) (hd : Nat.blt d N = true) (h0 : 0 ≤ q) (hlt : decide (q < (s.length : Int)) = true)
  (h : ∀ w', Since B G0 w0 G w' → Owns G w' B (L.set k ⟨0, 1, 2, .map (some r), [.string ⟨s.toArray⟩, .int .i64 (q + (zkv s q).2)]⟩) → K (upd F d (.tuple #[.bool true, .int .i64 q, .int .i32 (zkv s q).1])) w') : OpP κ P N p ⟨some d, .next X true, ty, pos, af, gd⟩ F w K := by
 have hm := zhg hO hk
 have hlt' : q < (s.length : Int) := of_decide_eq_true hlt
 obtain ⟨m, rfl⟩ := Int.eq_ofNat_of_zero_le h0
 have hm' : m < s.length := by omega
 obtain ⟨q1, q2, q3⟩ := zrc (X' := κ.ex) (n' := 2) (xs := [.string ⟨s.toArray⟩, .int .i64 ((m : Int) + (zkv s (m : Int)).2)]) hS hO hk rfl
 refine ks (v := .tuple #[.bool true, .int .i64 (m : Int), .int .i32 (zkv s (m : Int)).1]) (w' := { w with heap := w.heap.setIfInBounds r (zbs 0 1 2 [.string ⟨s.toArray⟩, .int .i64 ((m : Int) + (zkv s (m : Int)).2)]) }) ?_ hd q3 (h _ q1 q2)
 have hg : (getObj r).run P w = .ok (.stringIter ⟨s.toArray⟩ m) w := by
  have e : zbs 0 1 2 [Value.string ⟨s.toArray⟩, .int .i64 (m : Int)] = .stringIter ⟨s.toArray⟩ m := rfl
  rw [e] at hm
  simp [getObj, Sem.run, hm]
 have hp : (setObj r (.stringIter ⟨s.toArray⟩ (m + (Utf8.decode ⟨s.toArray⟩ m).2))).run P w = .ok () { w with heap := w.heap.setIfInBounds r (zbs 0 1 2 [.string ⟨s.toArray⟩, .int .i64 ((m : Int) + (zkv s (m : Int)).2)]) } := by
  have e : zbs 0 1 2 [Value.string ⟨s.toArray⟩, .int .i64 ((m : Int) + (zkv s (m : Int)).2)] = .stringIter ⟨s.toArray⟩ (m + (Utf8.decode ⟨s.toArray⟩ m).2) := by
   show Obj.stringIter _ ((m : Int) + ((Utf8.decode ⟨s.toArray⟩ ((m : Int).toNat)).2 : Int)).toNat = _
   rw [Int.toNat_natCast]
   congr 1
  rw [e]
  simp [setObj, Sem.run, hm]
  rfl
 have hsz : (⟨s.toArray⟩ : ByteArray).size = s.length := rfl
 simp only [execOp, hX, Instr.next, Sem.run_bind, hg, Result.andThen_ok, hsz, hm', if_true]
 rw [show (Utf8.decode ⟨s.toArray⟩ m) = ((Utf8.decode ⟨s.toArray⟩ m).1, (Utf8.decode ⟨s.toArray⟩ m).2) from rfl]
 simp only [hp, Result.andThen_ok, Sem.run_pure]
 rfl
theorem zno {k r : Nat} {q : Int} (hO : Owns G w B L) (hk : L[k]? = some ⟨0, 1, 2, .map (some r), [.string ⟨s.toArray⟩, .int .i64 q]⟩) (hX : ev F X = .pointer (some ⟨r, 0, none⟩)) (hd : Nat.blt d N = true) (h0 : 0 ≤ q) (hlt : decide (q < (s.length : Int)) = false)
  (h : K (upd F d (.tuple #[.bool false])) w) : OpP κ P N p ⟨some d, .next X true, ty, pos, af, gd⟩ F w K := by
 have hm := zhg hO hk
 have hlt' : ¬ q < (s.length : Int) := of_decide_eq_false hlt
 obtain ⟨m, rfl⟩ := Int.eq_ofNat_of_zero_le h0
 have hm' : ¬ m < s.length := by omega
 refine ks (v := .tuple #[.bool false]) (w' := w) ?_ hd (.refl _) h
 have hg : (getObj r).run P w = .ok (.stringIter ⟨s.toArray⟩ m) w := by
  have e : zbs 0 1 2 [Value.string ⟨s.toArray⟩, .int .i64 (m : Int)] = .stringIter ⟨s.toArray⟩ m := rfl
  rw [e] at hm
  simp [getObj, Sem.run, hm]
 have hsz : (⟨s.toArray⟩ : ByteArray).size = s.length := rfl
 simp only [execOp, hX, Instr.next, Sem.run_bind, hg, Result.andThen_ok, hsz, hm', if_false, Sem.run_pure]
end
section
variable {κ : Ctx} {p : List PanicEntry → Fr → World → Prop} {P : Program} {w : World}
end
theorem zxd {G : Gm} (s : List UInt8) : Rd RU8 1 G (s.map fun b => Value.int .u8 (b.toNat : Int)) s := by
 refine ⟨by simp, fun i x hx => ⟨[.int .u8 (x.toNat : Int)], rfl, fun j u hj => ?_, rfl⟩⟩
 cases j with
 | zero => simp at hj; subst hj; simp [hx]
 | succ j => simp at hj
section
variable {κ : Ctx} {p : List PanicEntry → Fr → World → Prop} {P : Program} {N : Nat} {F : Fr} {w : World} {K : Fr → World → Prop} {d : Nat} {ty : TypeId} {pos : String} {af : Array Edge} {gd : Option (Nat × Bool)} {G G0 : Gm} {w0 : World} {B : Nat} {L : List Row}
def bx (T b : Nat) (p v : Value) : Row := ⟨T, 3, 1, .map (some b), [p, v, .bool false]⟩
end
def xV (s : List UInt8) (q : Nat) : Int × Nat := (((Utf8.decode ⟨s.toArray⟩ q).1 : Int), (Utf8.decode ⟨s.toArray⟩ q).2)
section
variable {κ : Ctx} {p : List PanicEntry → Fr → World → Prop} {P : Program} {N : Nat} {F : Fr} {w w0 : World} {K : Fr → World → Prop} {d : Nat} {ty : TypeId} {pos : String} {af : Array Edge} {gd : Option (Nat × Bool)} {G G0 : Gm} {B : Nat} {L : List Row} {s : List UInt8} {X : Operand}
theorem zdz {k r : Nat} {q : Nat} (hS : Since B G0 w0 G w) (hO : Owns G w B L) (hk : L[k]? = some ⟨0, 1, 2, .map (some r), [.string ⟨s.toArray⟩, .int .i64 ((q : Nat) : Int)]⟩) (hX : ev F X = .pointer (some ⟨r, 0, none⟩)) (hd : Nat.blt d N = true) (hlt : decide (q < s.length) = true)
  (h : ∀ w', Since B G0 w0 G w' → Owns G w' B (L.set k ⟨0, 1, 2, .map (some r), [.string ⟨s.toArray⟩, .int .i64 ((q + (xV s q).2 : Nat) : Int)]⟩) → K (upd F d (.tuple #[.bool true, .int .i64 (q : Int), .int .i32 (xV s q).1])) w') : OpP κ P N p ⟨some d, .next X true, ty, pos, af, gd⟩ F w K :=
 znp hS hO hk hX hd (Int.natCast_nonneg q) (decide_eq_true (Int.ofNat_lt.2 (of_decide_eq_true hlt))) fun w' hS' hO' => h w' hS' hO'
theorem zdy {k r : Nat} {q : Nat} (hO : Owns G w B L) (hk : L[k]? = some ⟨0, 1, 2, .map (some r), [.string ⟨s.toArray⟩, .int .i64 ((q : Nat) : Int)]⟩) (hX : ev F X = .pointer (some ⟨r, 0, none⟩)) (hd : Nat.blt d N = true) (hlt : decide (q < s.length) = false)
  (h : K (upd F d (.tuple #[.bool false])) w) : OpP κ P N p ⟨some d, .next X true, ty, pos, af, gd⟩ F w K :=
 zno hO hk hX hd (Int.natCast_nonneg q) (decide_eq_false fun e => of_decide_eq_false hlt (Int.ofNat_lt.1 e)) h
end
def TabG (P : Program) (G : Gm) : Prop := ∃ g e fz, P.globalNamed "internal/strconv.uint64pow10" = some g ∧ G g = some (.cells (Lib.pow10Tab.map fun z => Value.int .u64 z).toArray e fz)
theorem TabG.mono {P : Program} {G G' : Gm} (h : TabG P G) (hle : Gle G G') : TabG P G' := let ⟨g, e, fz, h1, h2⟩ := h; ⟨g, e, fz, h1, hle _ _ h2⟩
theorem TabG.is {P : Program} {G : Gm} {w : World} (h : TabG P G) (hS : Sat G w) : Lib.TabIs P w "internal/strconv.uint64pow10" .u64 Lib.pow10Tab := by
 obtain ⟨g, e, fz, h1, h2⟩ := h
 unfold Lib.TabIs World.var?
 rw [h1]
 simp [hS _ _ h2]
open Go.RowKit Go.Shelf
structure Tab where
 fld : List (Nat × Nat × Nat)
 na : List Nat
 sl : List Nat
def zin : List Nat → Nat → Bool
 | [], _ => false
 | a :: l, t => cond (Nat.beq a t) true (zin l t)
def zcx : List (Nat × Nat × Nat) → Nat → Nat → Option Nat
 | [], _, _ => none
 | (a, b, o) :: l, s, k => cond (Nat.beq a s) (cond (Nat.beq b k) (some o) (zcx l s k)) (zcx l s k)
def zaq (P : Program) (T : Tab) : Bool := T.fld.all (fun e => qx P e.1 e.2.1 == some e.2.2) && (T.na.all (fun t => naB P t) && T.sl.all (fun t => (slB P t).isSome))
theorem zeO : ∀ {l : List Nat} {t : Nat}, zin l t = true → t ∈ l
 | [], _, h => by cases h
 | a :: l, t, h => by
  cases hb : Nat.beq a t with
  | true => rw [nQe hb]; exact List.mem_cons_self
  | false =>
   have h' : zin l t = true := by simpa [zin, hb] using h
   exact List.mem_cons_of_mem _ (zeO h')
theorem zgj : ∀ {l : List (Nat × Nat × Nat)} {s k o : Nat}, zcx l s k = some o → (s, k, o) ∈ l
 | [], _, _, _, h => by cases h
 | (a, b, o') :: l, s, k, o, h => by
  have rest : zcx l s k = some o → (s, k, o) ∈ (a, b, o') :: l := fun h => List.mem_cons_of_mem _ (zgj h)
  cases ha : Nat.beq a s with
  | false => exact rest (by simpa [zcx, ha] using h)
  | true =>
   cases hb : Nat.beq b k with
   | false => exact rest (by simpa [zcx, ha, hb] using h)
   | true =>
    have : o' = o := by simpa [zcx, ha, hb] using h
    rw [← nQe ha, ← nQe hb, ← this]
    exact List.mem_cons_self
def zbx : List Prop → Prop
 | [] => True
 | p :: l => p ∧ zbx l
theorem an : zbx [] := trivial
theorem ao {p : Prop} {l : List Prop} (h : p) (t : zbx l) : zbx (p :: l) := ⟨h, t⟩
theorem kb {b v : Bool} (h : b = v) : Value.bool b = .bool v := by rw [h]
def ziI {α : Type} (v : Value) (k : Value → α) : α := match v with
 | .bool b => k (.bool b)
 | .int q n => k (.int q n)
 | .pointer a => k (.pointer a)
 | .slice a n c => k (.slice a n c)
 | .func f a b => k (.func f a b)
 | .tuple vs => k (.tuple vs)
 | .agg vs => k (.agg vs)
 | v => k v
theorem zcE {α : Type} (v : Value) (k : Value → α) : ziI v k = k v := by cases v <;> rfl
def arP {α : Type} (o : BinOp) (q : IntKind) (m n : Int) (k : Value → Option α) : Option α := match o with
 | .add => k (.int q (q.wrap (m + n)))
 | .sub => k (.int q (q.wrap (m - n)))
 | .mul => k (.int q (q.wrap (m * n)))
 | .lss => k (.bool (decide (m < n)))
 | .leq => k (.bool (decide (m ≤ n)))
 | .gtr => k (.bool (decide (n < m)))
 | .geq => k (.bool (decide (n ≤ m)))
 | .eql => k (.bool (m == n))
 | .neq => k (.bool (m != n))
 | _ => none
def zrw {α : Type} (v : Value) (k : IntKind → Int → Option α) : Option α := match v with
 | .int .i64 n => k .i64 n
 | .int q n => k q n
 | _ => none
def zsY {α : Type} (v : Value) (k : Bool → Option α) : Option α := match v with
 | .bool b => k b
 | _ => none
def zrb {α : Type} (v : Value) (k : Nat → Nat → Option α) : Option α := match v with
 | .pointer (some ⟨b, off, none⟩) => k b off
 | _ => none
def zuf {α : Type} (v : Value) (k : Nat → Option α) : Option α := match v with
 | .slice _ n _ => k n
 | _ => none
def zrd {α β : Type} (v : Option β) (k : β → Option α) : Option α := match v with
 | some x => k x
 | none => none
def zxB {α : Type} (T : Tab) (F : Fr) (ms : List Nat) (args : List Operand) (ats : List TypeId) (k : List Nat → List Prop → Value → Option α) : Option α := match args, ats, ms with
 | [x], [t], m :: ms => cond (zin T.sl t) (zuf (ev F x) fun n => k ms [n = m] (.int .i64 (m : Int))) none
 | _, _, _ => none
def zs4 {α : Type} (u : Option (Value × Bool)) (x : Value) (k : List (Value × Value) → Bool → Option α) : Option α := match u with
 | some (y, v) => k [(x, y)] v
 | none => zsY x fun b => match b with
  | true => k [] true
  | false => k [] false
abbrev KP (α : Type) := List Nat → List (Value × Value) → List Prop → Value → Option α
def opP {α : Type} (T : Tab) (cb : Nat) (C : List Value) (u : Option (Value × Bool)) (F : Fr) (ms : List Nat) (op : Op) (k : KP α) : Option α := match op with
 | .move x => ziI (ev F x) (k ms [] [])
 | .assign x => ziI (ev F x) (k ms [] [])
 | .pick c a b => zs4 u (ev F c) fun qs t => ziI (cond t (ev F a) (ev F b)) (k ms qs [])
 | .unOp .not _ x => zsY (ev F x) fun b => k ms [] [] (.bool (!b))
 | .binOp o _ x y _ => zrw (ev F x) fun q m => zrw (ev F y) fun q' n => cond (decide (q = q')) (arP o q m n (k ms [] [])) none
 | .fieldAddr S x i => zrd (zcx T.fld S i) fun o => zrb (ev F x) fun b off => k ms [] [] (.pointer (some ⟨b, off + o, none⟩))
 | .load t x => cond (zin T.na t) (zrb (ev F x) fun b off => zrd C[off]? fun v => ziI v (k ms [(.pointer (some ⟨b, 0, none⟩), .pointer (some ⟨cb, 0, none⟩))] [])) none
 | .call { callee := .builtin .len, args, argTypes } => zxB T F ms args.toList argTypes.toList fun ms => k ms []
 | _ => none
def zex (T : Tab) (cb : Nat) (C : List Value) (u : Option (Value × Bool)) (ops : Array Oper) (N : Nat) : Nat → List Nat → List Oper → Fr → List (Value × Value) → List Prop → Option (List Oper × Fr × List (Value × Value) × List Prop)
 | 0, [], l, F, es, ps => some (l, F, es, ps)
 | n + 1, ms, ⟨some d, op, _, _, _, g⟩ :: l, F, es, ps => cond (Nat.blt d N) (match g with
  | none => opP T cb C u F ms op fun ms q1 q2 v => zex T cb C u ops N n ms l (upd F d v) (q1 ++ es) (q2 ++ ps)
  | some (j, want) => zrd ((ops[j]?).bind (·.dst)) fun g => cond (Nat.blt g N) (zs4 u (F g) fun q0 b => match b, want with
   | true, true => opP T cb C u F ms op fun ms q1 q2 v => zex T cb C u ops N n ms l (upd F d v) (q1 ++ (q0 ++ es)) (q2 ++ ps)
   | false, false => opP T cb C u F ms op fun ms q1 q2 v => zex T cb C u ops N n ms l (upd F d v) (q1 ++ (q0 ++ es)) (q2 ++ ps)
   | _, _ => zex T cb C u ops N n ms l (upd F d undef) (q0 ++ es) ps) none) none
 | _, _, _, _, _, _ => none
section
variable {κ : Ctx} {p : List PanicEntry → Fr → World → Prop} {P : Program} {N : Nat} {F : Fr} {w : World} {K : Fr → World → Prop} {ops : Array Oper} {α : Type} {T : Tab} {cb : Nat} {C : List Value}
theorem zgw {v : Value} {k : IntKind → Int → Option α} {r : α} (h : zrw v k = some r) : ∃ q n, v = .int q n ∧ k q n = some r := by
 unfold zrw at h
 split at h
 ·exact ⟨_, _, rfl, h⟩
 ·exact ⟨_, _, rfl, h⟩
 ·cases h
theorem zgM {v : Value} {k : Bool → Option α} {r : α} (h : zsY v k = some r) : ∃ n, v = .bool n ∧ k n = some r := by
 unfold zsY at h
 split at h
 ·exact ⟨_, rfl, h⟩
 ·cases h
theorem zf8 {v : Value} {k : Nat → Nat → Option α} {r : α} (h : zrb v k = some r) : ∃ b off, v = .pointer (some ⟨b, off, none⟩) ∧ k b off = some r := by
 unfold zrb at h
 split at h
 ·exact ⟨_, _, rfl, h⟩
 ·cases h
theorem zmo {v : Value} {k : Nat → Option α} {r : α} (h : zuf v k = some r) : ∃ a n c, v = .slice a n c ∧ k n = some r := by
 unfold zuf at h
 split at h
 ·exact ⟨_, _, _, rfl, h⟩
 ·cases h
theorem zc7 {β : Type} {v : Option β} {k : β → Option α} {r : α} (h : zrd v k = some r) : ∃ x, v = some x ∧ k x = some r := by
 cases v with
 | none => cases h
 | some x => exact ⟨x, rfl, h⟩
theorem jD {b : Bool} {x : Option α} {r : α} (h : cond b x none = some r) : b = true ∧ x = some r := by
 cases b with
 | true => exact ⟨rfl, h⟩
 | false => cases h
theorem zqU (hT : zaq P T = true) {s k o : Nat} (h : zcx T.fld s k = some o) : qx P s k = some o := by
 simp only [zaq, Bool.and_eq_true, List.all_eq_true] at hT
 simpa using hT.1 _ (zgj h)
theorem zuc (hT : zaq P T = true) {t : Nat} (h : zin T.na t = true) : naB P t = true := by
 simp only [zaq, Bool.and_eq_true, List.all_eq_true] at hT
 exact hT.2.1 _ (zeO h)
theorem zub (hT : zaq P T = true) {t : Nat} (h : zin T.sl t = true) : ∃ e, slB P t = some e := by
 simp only [zaq, Bool.and_eq_true, List.all_eq_true] at hT
 exact Option.isSome_iff_exists.1 (hT.2.2 _ (zeO h))
def zdB (w : World) (cb : Nat) (C : List Value) : Prop := ∀ j v, C[j]? = some v → w.cell? ⟨cb, j, none⟩ = some v
theorem qf {G : Gm} (hS : Sat G w) (h : Cells G cb 0 C) : zdB w cb C := fun j v hj => by
 have := hS.cell (h j v hj); rwa [Nat.zero_add] at this
def EqE (es : List (Value × Value)) : Prop := es.map (·.1) = es.map (·.2)
theorem zei {l m : List (Value × Value)} (h : EqE (l ++ m)) : EqE l ∧ EqE m := by
 unfold EqE at h ⊢
 rw [List.map_append, List.map_append] at h
 exact List.append_inj h (by simp)
def zqM (u : Option (Value × Bool)) : Prop := ∀ y v, u = some (y, v) → y = .bool v
theorem zgN {u : Option (Value × Bool)} {x : Value} {k : List (Value × Value) → Bool → Option α} {r : α} (hu : zqM u) (h : zs4 u x k = some r) : ∃ qs b, k qs b = some r ∧ (EqE qs → x = .bool b) := by
 unfold zs4 at h
 split at h
 ·rename_i y v
  refine ⟨_, _, h, fun he => ?_⟩
  have : x = y := by simpa [EqE] using he
  rw [this]; exact hu _ _ rfl
 ·obtain ⟨b, h1, h⟩ := zgM h
  cases b with
  | true => exact ⟨_, _, h, fun _ => h1⟩
  | false => exact ⟨_, _, h, fun _ => h1⟩
theorem zoi (hT : zaq P T = true) (hC : zdB w cb C) {u : Option (Value × Bool)} (hu : zqM u) {ms : List Nat} {op : Op} {k : KP α} {r : α} (h : opP T cb C u F ms op k = some r) :
  ∃ ms' q1 q2 v, k ms' q1 q2 v = some r ∧ (EqE q1 → zbx q2 → ∀ d ty pos af gd, (execOp (ev F) ⟨d, op, ty, pos, af, gd⟩).run P w = .ok (.value v) w) := by
 unfold opP at h
 split at h
 ·rw [zcE] at h; exact ⟨_, _, _, _, h, fun _ _ d ty pos af gd => zc rfl⟩
 ·rw [zcE] at h; exact ⟨_, _, _, _, h, fun _ _ d ty pos af gd => zf rfl⟩
 ·obtain ⟨qs, b, h, h1⟩ := zgN hu h
  rw [zcE] at h
  refine ⟨_, _, _, _, h, fun he _ d ty pos af gd => ?_⟩
  cases b with
  | true => exact yy (h1 he) rfl rfl
  | false => exact xc (h1 he) rfl rfl
 ·obtain ⟨b, h1, h⟩ := zgM h
  exact ⟨_, _, _, _, h, fun _ _ d ty pos af gd => qE h1⟩
 ·rename_i o t x y u
  obtain ⟨q, m, h1, h⟩ := zgw h
  obtain ⟨q', n, h2, h⟩ := zgw h
  obtain ⟨hq, hz⟩ := jD h
  obtain rfl := of_decide_eq_true hq
  clear h
  cases o <;> first | (have h' : (none : Option α) = some r := hz; cases h'; done) | skip
  ·exact ⟨_, _, _, _, hz, fun _ _ d ty pos af gd => jz h1 h2⟩
  ·exact ⟨_, _, _, _, hz, fun _ _ d ty pos af gd => vd h1 h2⟩
  ·exact ⟨_, _, _, _, hz, fun _ _ d ty pos af gd => vH h1 h2⟩
  ·exact ⟨_, _, _, _, hz, fun _ _ d ty pos af gd => xu h1 h2⟩
  ·exact ⟨_, _, _, _, hz, fun _ _ d ty pos af gd => jy h1 h2⟩
  ·exact ⟨_, _, _, _, hz, fun _ _ d ty pos af gd => zN h1 h2⟩
  ·exact ⟨_, _, _, _, hz, fun _ _ d ty pos af gd => yW h1 h2⟩
  ·exact ⟨_, _, _, _, hz, fun _ _ d ty pos af gd => ve h1 h2⟩
  ·exact ⟨_, _, _, _, hz, fun _ _ d ty pos af gd => zha h1 h2⟩
 ·obtain ⟨o, h1, h⟩ := zc7 h
  obtain ⟨b, off, h2, h⟩ := zf8 h
  exact ⟨_, _, _, _, h, fun _ _ d ty pos af gd => zk (zqU hT h1) h2⟩
 ·obtain ⟨h0, h⟩ := jD h
  obtain ⟨b, off, h2, h⟩ := zf8 h
  obtain ⟨v, h3, h⟩ := zc7 h
  rw [zcE] at h
  refine ⟨_, _, _, _, h, fun he _ d ty pos af gd => zo (zuc hT h0) h2 ?_⟩
  have : b = cb := by simpa [EqE] using he
  rw [this]; exact hC _ _ h3
 ·rename_i args ats
  unfold zxB at h
  split at h
  ·rename_i x t m ms' ha hat
   obtain ⟨h0, h⟩ := jD h
   obtain ⟨a, n, c, h2, h⟩ := zmo h
   obtain ⟨⟨e, sz, bytes⟩, h3⟩ := zub hT h0
   have ea : args = #[x] := Array.ext' ha
   subst ea
   exact ⟨_, _, _, _, h, fun _ hp d ty pos af gd => ji h3 (by rw [hat]; rfl) h2 hp.1⟩
  ·cases h
 ·cases h
theorem zjw {l m : List Prop} : zbx (l ++ m) ↔ zbx l ∧ zbx m := by
 induction l with
 | nil => simp [zbx]
 | cons a l ih => simp [zbx, ih, and_assoc]
theorem zcU {u : Option (Value × Bool)} (hT : zaq P T = true) (hC : zdB w cb C) (hu : zqM u) : ∀ (n : Nat) (ms : List Nat) {l l' : List Oper} {F F' : Fr} {ea es : List (Value × Value)} {a9 ps : List Prop}, zex T cb C u ops N n ms l F ea a9 = some (l', F', es, ps) → EqE es → zbx ps →
  EqE ea ∧ zbx a9 ∧ (WL κ P N ops p K l' F' w → WL κ P N ops p K l F w)
 | 0, [], l, l', F, F', ea, es, a9, ps, h, he, hp => by
  cases h; exact ⟨he, hp, id⟩
 | 0, _ :: _, l, l', F, F', ea, es, a9, ps, h, he, hp => by cases h
 | n + 1, ms, [], l', F, F', ea, es, a9, ps, h, he, hp => by cases h
 | n + 1, ms, ⟨none, op, ty, pos, af, g⟩ :: l, l', F, F', ea, es, a9, ps, h, he, hp => by cases h
 | n + 1, ms, ⟨some d, op, ty, pos, af, none⟩ :: l, l', F, F', ea, es, a9, ps, h, he, hp => by
  obtain ⟨hd, h⟩ := jD h
  obtain ⟨ms', q1, q2, v, h1, h2⟩ := zoi hT hC hu h
  obtain ⟨h3, h4, h5⟩ := zcU hT hC hu n ms' h1 he hp
  obtain ⟨e1, e2⟩ := zei h3
  obtain ⟨a1, a2⟩ := zjw.1 h4
  exact ⟨e2, a2, fun hw => za (h2 e1 a1 _ _ _ _ _) hd (h5 hw)⟩
 | n + 1, ms, ⟨some d, op, ty, pos, af, some (j, want)⟩ :: l, l', F, F', ea, es, a9, ps, h, he, hp => by
  obtain ⟨hd, h⟩ := jD h
  obtain ⟨g, hj, h⟩ := zc7 h
  obtain ⟨hg, h⟩ := jD h
  obtain ⟨q0, b, h, hb⟩ := zgN hu h
  have yes : (opP T cb C u F ms op fun ms q1 q2 v => zex T cb C u ops N n ms l (upd F d v) (q1 ++ (q0 ++ ea)) (q2 ++ a9)) = some (l', F', es, ps) → b = want → EqE ea ∧ zbx a9 ∧ (WL κ P N ops p K l' F' w → WL κ P N ops p K (⟨some d, op, ty, pos, af, some (j, want)⟩ :: l) F w) := fun h hbw => by
   obtain ⟨ms', q1, q2, v, h1, h2⟩ := zoi hT hC hu h
   obtain ⟨h3, h4, h5⟩ := zcU hT hC hu n ms' h1 he hp
   obtain ⟨e1, e2⟩ := zei h3
   obtain ⟨e3, e4⟩ := zei e2
   obtain ⟨a1, a2⟩ := zjw.1 h4
   exact ⟨e4, a2, fun hw => zl hj hbw (hb e3) hg (za (h2 e1 a1 _ _ _ _ _) hd (h5 hw))⟩
  have no : zex T cb C u ops N n ms l (upd F d undef) (q0 ++ ea) a9 = some (l', F', es, ps) → b = !want → EqE ea ∧ zbx a9 ∧ (WL κ P N ops p K l' F' w → WL κ P N ops p K (⟨some d, op, ty, pos, af, some (j, want)⟩ :: l) F w) := fun h hbw => by
   obtain ⟨h3, h4, h5⟩ := zcU hT hC hu n ms h he hp
   obtain ⟨e3, e4⟩ := zei h3
   exact ⟨e4, h4, fun hw => qd hj hbw (hb e3) hd hg (h5 hw)⟩
  cases b <;> cases want
  ·exact yes h rfl
  ·exact no h rfl
  ·exact no h rfl
  ·exact yes h rfl
theorem qr (hT : zaq P T = true) (hC : zdB w cb C) {y : Value} {v : Bool} (hy : y = .bool v) (n : Nat) (ms : List Nat) {l l' : List Oper} {F' : Fr} {es : List (Value × Value)} {ps : List Prop} (hr : zex T cb C (some (y, v)) ops N n ms l F [] [] = some (l', F', es, ps)) (he : es.map (·.1) = es.map (·.2)) (hp : zbx ps) (h : WL κ P N ops p K l' F' w) : WL κ P N ops p K l F w :=
 (zcU hT hC (fun _ _ e => by cases e; exact hy) n ms hr he hp).2.2 h
theorem xl (hT : zaq P T = true) (hC : zdB w cb C) (n : Nat) (ms : List Nat) {l l' : List Oper} {F' : Fr} {es : List (Value × Value)} {ps : List Prop} (hr : zex T cb C none ops N n ms l F [] [] = some (l', F', es, ps)) (he : es.map (·.1) = es.map (·.2)) (hp : zbx ps) (h : WL κ P N ops p K l' F' w) : WL κ P N ops p K l F w :=
 (zcU hT hC (fun _ _ e => by cases e) n ms hr he hp).2.2 h
theorem zhI (w : World) : zdB w 0 [] := fun j v h => by simp at h
end
abbrev SO (G0 : Gm) (w0 : World) (G : Gm) (w : World) (L : List Row) : Prop := Since w0.heap.size G0 w0 G w ∧ Owns G w w0.heap.size L
abbrev iV (n : Int) : Value := .int .i64 n
abbrev pV (b : Nat) : Value := .pointer (some ⟨b, 0, none⟩)
theorem je (G0 : Gm) (w0 : World) : Owns G0 w0 w0.heap.size [] := Owns.nil (Nat.le_refl _)
section
variable {κ : Ctx} {p : List PanicEntry → Fr → World → Prop} {P : Program} {N : Nat} {F : Fr} {w : World} {K : Fr → World → Prop} {d : Nat} {ty : TypeId} {pos : String} {af : Array Edge} {gd : Option (Nat × Bool)} {G G0 : Gm} {w0 : World} {B : Nat} {L : List Row}
end
section
variable {κ : Ctx} {P : Program} {N N' : Nat} {F : Fr} {w : World} {K : Fr → World → Prop} {d : Nat} {od : Option Nat} {ty : TypeId} {pos : String} {af : Array Edge} {gd : Option (Nat × Bool)} {p : List PanicEntry → Fr → World → Prop}
section
variable {f : FuncId} {fn : Func} {c : Code} {args : Array Operand} {ats : Array TypeId} {X : Operand} {fi al ca : List Value}
end
end
section
variable {P : Program}
end
section
variable {κ : Ctx} {p : List PanicEntry → Fr → World → Prop} {P : Program} {N : Nat} {F : Fr} {w : World} {K : Fr → World → Prop} {d od : Option Nat} {ty : TypeId} {pos : String} {af : Array Edge} {gd : Option (Nat × Bool)} {G G0 : Gm} {w0 : World} {B : Nat} {L : List Row}
variable {X Lo Hi : Operand} {T T' e : Nat} {a b : List UInt8} {l h : Int} {k k' : IntKind}
theorem ziV {a : List UInt8} {l h : Nat} (h1 : l ≤ h) : (⟨a.toArray⟩ : ByteArray).extract l h = ⟨((a.drop l).take (h - l)).toArray⟩ := by
 apply ByteArray.ext
 rw [ByteArray.data_extract]
 apply Array.ext'
 simp
theorem zms {a b : List UInt8} (hT : P.underlying T = some .string) (hx : ev F X = .string ⟨a.toArray⟩) (hl : ev F Lo = .int k l) (hh : ev F Hi = .int k' h) (e : zjE a l h = some b) :
  (execOp (ev F) ⟨od, .slice T X (some Lo) (some Hi) none, ty, pos, af, gd⟩).run P w = .ok (.value (.string ⟨b.toArray⟩)) w := by
 obtain ⟨h0, h1, h2, rfl⟩ := zf2 e
 have e1 : (⟨a.toArray⟩ : ByteArray).size = a.length := rfl
 simp only [execOp, hx, hl, hh, Option.map_some, Option.map_none, Sem.run_bind, run_sliceAt_string _ _ _ _ _ _ hT, run_slice_string w T _ k k' l h hT h0 h1 (by rw [e1]; exact h2), Result.andThen_ok, Sem.run_pure, ziV (show l.toNat ≤ h.toNat by omega)]
end
end Go.Proofs.YtihedfkcccaonaaGreatDoor
