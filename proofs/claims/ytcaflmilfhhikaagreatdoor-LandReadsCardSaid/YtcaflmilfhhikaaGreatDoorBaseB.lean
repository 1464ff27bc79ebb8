/-
  Memory that is not written any more (G), slices that read as lists, and the rules for the operations.
-/
import Derived.Test.YtcaflmilfhhikaaGreatDoorBaseA
namespace Go.Proofs.YtcaflmilfhhikaaGreatDoor
open Go.RowKit

/-! ### Memory that stays -/
abbrev Gm := Nat → Option Obj
def Gm.cell (G : Gm) (a : Addr) : Option Value :=
  match G a.block with
  | some (.cells c _ _) => if a.spot.isSome then none else c[a.off]?
  | _ => none
def Sat (G : Gm) (w : World) : Prop := ∀ b o, G b = some o → w.heap[b]? = some o
def Gle (G G' : Gm) : Prop := ∀ b o, G b = some o → G' b = some o
theorem Gle.refl (G : Gm) : Gle G G := fun _ _ h => h
theorem Gle.trans {G G' G'' : Gm} (h : Gle G G') (h' : Gle G' G'') : Gle G G'' := fun b o hb => h' b o (h b o hb)
theorem Gle.cell {G G' : Gm} (h : Gle G G') {a : Addr} {v : Value} (hc : G.cell a = some v) : G'.cell a = some v := by
  unfold Gm.cell at *
  cases hG : G a.block with
  | none => rw [hG] at hc; cases hc
  | some o => rw [hG] at hc; rw [h _ _ hG]; exact hc
theorem Sat.le {G G' : Gm} {w : World} (hs : Sat G' w) (h : Gle G G') : Sat G w := fun b o hb => hs b o (h b o hb)
theorem Sat.cell {G : Gm} {w : World} (hs : Sat G w) {a : Addr} {v : Value} (hc : G.cell a = some v) : w.cell? a = some v := by
  unfold Gm.cell at hc
  unfold World.cell?
  cases hG : G a.block with
  | none => rw [hG] at hc; cases hc
  | some o => rw [hG] at hc; rw [hs _ _ hG]; exact hc
theorem Sat.lt {G : Gm} {w : World} (hs : Sat G w) {b : Nat} {o : Obj} (h : G b = some o) : b < w.heap.size := (Array.getElem?_eq_some_iff.1 (hs b o h)).1
theorem Sat.below {G : Gm} {w w' : World} (hs : Sat G w) (hb : Below w.heap.size w w') : Sat G w' := fun b o h => by rw [hb.block b (hs.lt h)]; exact hs b o h
def ins (G : Gm) (b : Nat) (o : Obj) : Gm := fun i => if i = b then some o else G i
/-- G has grown, and so has the world; of what was there nothing has turned. -/
structure Grow (G : Gm) (w : World) (G' : Gm) (w' : World) : Prop where
  le : Gle G G'
  sat : Sat G' w'
  below : Below w.heap.size w w'
  old : ∀ b, b < w.heap.size → G' b = G b
  cells : ∀ b o, G' b = some o → w.heap.size ≤ b → isFix o = false
theorem Sat.new {G : Gm} {w : World} (h : Sat G w) : ∀ b o, G b = some o → w.heap.size ≤ b → isFix o = false := fun _ _ hb hl => absurd (h.lt hb) (Nat.not_lt.2 hl)
theorem Grow.refl {G : Gm} {w : World} (h : Sat G w) : Grow G w G w := ⟨Gle.refl G, h, Below.refl _ _, fun _ _ => rfl, h.new⟩
theorem Grow.trans {G G' G'' : Gm} {w w' w'' : World} (h : Grow G w G' w') (k : Grow G' w' G'' w'') : Grow G w G'' w'' :=
  ⟨h.le.trans k.le, k.sat, h.below.trans (k.below.mono h.below.size), fun b hb => (k.old b (Nat.lt_of_lt_of_le hb h.below.size)).trans (h.old b hb), fun b o hb hl => by
    rcases Nat.lt_or_ge b w'.heap.size with h' | h'
    · exact h.cells b o ((k.old b h').symm.trans hb) hl
    · exact k.cells b o hb h'⟩
theorem Grow.of_below {G : Gm} {w w' : World} (hs : Sat G w) (hb : Below w.heap.size w w') : Grow G w G w' := ⟨Gle.refl G, hs.below hb, hb, fun _ _ => rfl, hs.new⟩
theorem Grow.alloc {G : Gm} {w : World} (hs : Sat G w) (o : Obj) (ho : isFix o = false) : Grow G w (ins G w.heap.size o) (w.alloc o) := by
  refine ⟨?_, ?_, (Below.refl _ w).alloc (Nat.le_refl _) o, ?_, ?_⟩
  · intro b o' hb
    unfold ins
    rw [if_neg (Nat.ne_of_lt (hs.lt hb))]
    exact hb
  · intro b o' hb
    unfold ins at hb
    by_cases h : b = w.heap.size
    · rw [if_pos h] at hb
      cases hb
      subst h
      exact Go.heap_alloc_new w o
    · rw [if_neg h] at hb
      rw [Below.heap_alloc w o b (hs.lt hb)]
      exact hs _ _ hb
  · intro b hb
    unfold ins
    rw [if_neg (Nat.ne_of_lt hb)]
  · intro b o' hb hl
    unfold ins at hb
    split at hb
    · cases hb; exact ho
    · exact absurd (hs.lt hb) (Nat.not_lt.2 hl)

/-- A row of cells. -/
def Cells (G : Gm) (b off : Nat) (cs : List Value) : Prop := ∀ j v, cs[j]? = some v → G.cell ⟨b, off + j, none⟩ = some v
theorem Cells.mono {G G' : Gm} {b off : Nat} {cs : List Value} (h : Cells G b off cs) (hle : Gle G G') : Cells G' b off cs := fun j v hj => hle.cell (h j v hj)
theorem Cells.sub {G : Gm} {b off : Nat} {cs : List Value} (h : Cells G b off cs) (k : Nat) {cs' : List Value} (hc : ∀ j v, cs'[j]? = some v → cs[k + j]? = some v) : Cells G b (off + k) cs' := fun j v hj => by
  have := h (k + j) v (hc j v hj)
  rwa [← Nat.add_assoc] at this
theorem Cells.drop_take {G : Gm} {b off : Nat} {cs : List Value} (h : Cells G b off cs) (k m : Nat) : Cells G b (off + k) ((cs.drop k).take m) := h.sub k fun j v hj => by
  rw [List.getElem?_take] at hj
  split at hj
  · rw [List.getElem?_drop] at hj; exact hj
  · cases hj
theorem Cells.of_block {G : Gm} {b : Nat} {cs : List Value} {e : TypeId} {fz : Nat × Nat} (h : G b = some (.cells cs.toArray e fz)) : Cells G b 0 cs := fun j v hj => by
  unfold Gm.cell
  simp only [h]
  simpa using hj

def ix {α : Type} (xs : List α) (i : Int) : Option α := if 0 ≤ i then xs[i.toNat]? else none
theorem ix_some {α : Type} {xs : List α} {i : Int} {y : α} (h : ix xs i = some y) : 0 ≤ i ∧ i.toNat < xs.length ∧ xs[i.toNat]? = some y := by
  unfold ix at h
  split at h
  · rename_i h0
    exact ⟨h0, (List.getElem?_eq_some_iff.1 h).1, h⟩
  · cases h
/-- A slice's elements, sz cells each: they read as xs. -/
def RSl {α : Type} (R : Gm → List Value → α → Prop) (sz : Nat) (G : Gm) (ad : Option Addr) (len cap : Nat) (xs : List α) : Prop :=
  len = xs.length ∧ (len ≤ maxLen ∧ len ≤ cap) ∧ ∀ i x, xs[i]? = some x → ∃ b off cs, ad = some ⟨b, off, none⟩ ∧ Cells G b (off + i * sz) cs ∧ cs.length = sz ∧ R G cs x
def Mono {α : Type} (R : Gm → List Value → α → Prop) : Prop := ∀ G G' cs x, Gle G G' → R G cs x → R G' cs x
theorem RSl.mono {α : Type} {R : Gm → List Value → α → Prop} {sz : Nat} {G G' : Gm} {ad : Option Addr} {len cap : Nat} {xs : List α} (hR : Mono R) (h : RSl R sz G ad len cap xs) (hle : Gle G G') : RSl R sz G' ad len cap xs :=
  ⟨h.1, h.2.1, fun i x hx => let ⟨b, off, cs, h1, h2, h3, h4⟩ := h.2.2 i x hx; ⟨b, off, cs, h1, h2.mono hle, h3, hR _ _ _ _ hle h4⟩⟩
theorem RSl.nil {α : Type} (R : Gm → List Value → α → Prop) (sz : Nat) (G : Gm) (ad : Option Addr) {cap : Nat} : RSl R sz G ad 0 cap [] := ⟨rfl, ⟨Nat.zero_le _, Nat.zero_le _⟩, fun i x h => by simp at h⟩
def RInt : Gm → List Value → Int → Prop := fun _ cs x => cs = [.int .i64 x]
theorem RInt_mono : Mono RInt := fun _ _ _ _ _ h => h
/-! ### What the program's tables say, as closed facts -/
def fldB (P : Program) (S k : Nat) : Option Nat :=
  match P.underlying S with
  | some (.struct fs) => match fs[k]? with
    | some f => match P.info? f.type with
      | some i => if i.size = 0 then none else some f.offset
      | none => none
    | none => none
  | _ => none
def naB (P : Program) (T : Nat) : Bool :=
  match P.underlying T with
  | some (.struct _) | some (.array _ _) | none => false
  | _ => true
def agB (P : Program) (T : Nat) : Option Nat :=
  match P.underlying T with
  | some (.struct _) | some (.array _ _) => (P.info? T).map (·.size)
  | _ => none
def slB (P : Program) (T : Nat) : Option (Nat × Nat × Nat) :=
  match P.underlying T with
  | some (.slice e) => match P.info? e with
    | some i => match i.zero with
      | some z => if z.cells.size = i.size ∧ 0 < i.size then some (e, i.size, i.bytes) else none
      | none => none
    | none => none
  | _ => none
def callB (P : Program) (k : Nat) : Bool :=
  match P.funcs[k]? with
  | some fn => !(fn.name == "runtime.NumGoroutine") && fn.body.isSome
  | none => false
theorem slB_spec {P : Program} {T e sz bytes : Nat} (h : slB P T = some (e, sz, bytes)) : P.underlying T = some (.slice e) ∧ ∃ i z, P.info? e = some i ∧ i.zero = some z ∧ i.size = sz ∧ i.bytes = bytes ∧ z.cells.size = sz ∧ 0 < sz := by
  unfold slB at h
  split at h
  · rename_i e' hu
    split at h
    · rename_i i hi
      split at h
      · rename_i z hz
        split at h
        · rename_i hc
          simp only [Option.some.injEq, Prod.mk.injEq] at h
          obtain ⟨rfl, rfl, rfl⟩ := h
          exact ⟨hu, i, z, hi, hz, rfl, rfl, hc.1, hc.2⟩
        · cases h
      · cases h
    · cases h
  · cases h

/-! ### Results -/
def RetV (w : World) (v : Value) : Ending → World → Prop := fun e w' => e = .returned v ∧ Below w.heap.size w w'
def RetG (G : Gm) (w : World) (Φ : Gm → Value → Prop) : Ending → World → Prop := fun e w' => ∃ v G', e = .returned v ∧ Grow G w G' w' ∧ Φ G' v
def nthD : List Value → Nat → Value
  | [], _ => undef
  | v :: _, 0 => v
  | _ :: l, i + 1 => nthD l i
theorem frOf_enter (al : List Value) (m : Nat) (ds : List Deferred) : frOf ⟨al.toArray ++ Array.replicate m undef, ds⟩ = nthD al := by
  funext i
  show (al.toArray ++ Array.replicate m undef).getD i undef = nthD al i
  rw [Array.getD_eq_getD_getElem?, ← Array.getElem?_toList]
  simp only [Array.toList_append, Array.toList_replicate]
  induction al generalizing i with
  | nil =>
    simp only [List.nil_append, nthD, List.getElem?_replicate]
    split <;> rfl
  | cons v al ih =>
    cases i with
    | zero => simp [nthD]
    | succ i => simpa [nthD] using ih i
/-! ### The marks of ended loops are taken at a function's end -/
/-- Blocks of deferred calls, laid since B, have been shut. -/
structure Shut (B : Nat) (w w' : World) : Prop where
  os : w'.os = w.os
  tape : w'.tape = w.tape
  output : w'.output = w.output
  size : w'.heap.size = w.heap.size
  low : ∀ (k : Nat), k < B → w'.heap[k]? = w.heap[k]?
  block : ∀ (k : Nat) (o : Obj), w.heap[k]? = some o → isFix o = false → w'.heap[k]? = some o
theorem Shut.refl (B : Nat) (w : World) : Shut B w w := ⟨rfl, rfl, rfl, rfl, fun _ _ => rfl, fun _ _ h _ => h⟩
theorem Shut.trans {B : Nat} {a b c : World} (h : Shut B a b) (k : Shut B b c) : Shut B a c :=
  ⟨k.os.trans h.os, k.tape.trans h.tape, k.output.trans h.output, k.size.trans h.size, fun i hi => (k.low i hi).trans (h.low i hi), fun i o h1 h2 => k.block i o (h.block i o h1 h2) h2⟩
theorem Shut.one {B D : Nat} {w : World} {x : Option (List Deferred)} (hB : B ≤ D) (hD : w.heap[D]? = some (.deferred x)) (y : Option (List Deferred)) : Shut B w (w.putObj D (.deferred y)) :=
  ⟨rfl, rfl, rfl, by simp [World.putObj], fun k hk => World.putObj_heap_other (by omega), fun k o hk ho => by
    have hne : k ≠ D := by intro e; subst e; rw [hD] at hk; cases hk; cases ho
    rw [World.putObj_heap_other hne]; exact hk⟩
theorem Shut.cell {B : Nat} {w w' : World} (h : Shut B w w') {a : Addr} {v : Value} (hc : w.cell? a = some v) : w'.cell? a = some v := by
  unfold World.cell? at hc ⊢
  cases ho : w.heap[a.block]? with
  | none => rw [ho] at hc; cases hc
  | some o =>
    rw [ho] at hc
    have hf : isFix o = false := by cases o <;> first | rfl | cases hc
    rw [h.block _ _ ho hf]
    exact hc
structure ShutOk (B : Nat) (R : Ending → World → Prop) : Prop where
  out : ∀ e w w', R e w → Shut B w w' → R e w'
theorem shutV (w0 : World) (v : Value) : ShutOk w0.heap.size (RetV w0 v) :=
  ⟨fun _ _ _ h hs => ⟨h.1, ⟨hs.os.trans h.2.os, hs.tape.trans h.2.tape, hs.output.trans h.2.output, by rw [hs.size]; exact h.2.size, fun k hk => (hs.low k hk).trans (h.2.block k hk)⟩⟩⟩
theorem shutG (G0 : Gm) (w0 : World) (Φ : Gm → Value → Prop) : ShutOk w0.heap.size (RetG G0 w0 Φ) :=
  ⟨fun _ w w' ⟨v, G', h1, h2, h3⟩ hs => ⟨v, G', h1, ⟨h2.le, fun b o hb => by
      have h := h2.sat b o hb
      rcases Nat.lt_or_ge b w0.heap.size with h' | h'
      · exact (hs.low b h').trans h
      · exact hs.block b o h (h2.cells b o hb h'), ⟨hs.os.trans h2.below.os, hs.tape.trans h2.below.tape, hs.output.trans h2.below.output, by rw [hs.size]; exact h2.below.size, fun k hk => (hs.low k hk).trans (h2.below.block k hk)⟩, h2.old, h2.cells⟩, h3⟩⟩
theorem leavesM_calm {P : Program} {fn : Func} {tmps : Array Value} {R : Ending → World → Prop} {κ : Ctx} (hdf : κ.df = []) : ∀ (ds : List Deferred) (w : World), Calm κ ds w → (∀ w', Shut κ.ba w w' → ∃ v, (results fn tmps).run P w' = .ok v w' ∧ R (.returned v) w') → LeavesInM Fence.wide 0 P fn tmps R ds .returning w
  | [], w, _, h => h w (Shut.refl _ _)
  | d :: ds, w, hc, h => by
    obtain ⟨D, hd, hD, _, hB⟩ := (hc.each d (by simp)).resolve_left (by rw [hdf]; simp)
    refine ⟨by simp, .inl ⟨D, w.putObj D (.deferred none), by rw [hd], run_takeDeferred hD, ?_⟩⟩
    have hp := List.pairwise_cons.1 hc.apart
    refine leavesM_calm hdf ds _ ⟨fun e he => .inr ?_, hp.2, fun h => absurd (hc.none h) (by rw [hdf]; simp)⟩ fun w' hw' => h w' ((Shut.one hB hD none).trans hw')
    obtain ⟨E, h1, h2, h3, h4⟩ := (hc.each e (by simp [he])).resolve_left (by rw [hdf]; simp)
    have hne : E ≠ D := by intro e'; subst e'; exact hp.1 e he (by rw [hd, h1])
    exact ⟨E, h1, (World.putObj_heap_other hne).trans h2, h3, h4⟩
section
variable {κ : Ctx} {p : List PanicEntry → Fr → World → Prop} {P : Program} {N : Nat} {F : Fr} {w : World}
theorem enterR {f : FuncId} {fn : Func} {c : Code} {al : List Value} {R : Ending → World → Prop} {N : Nat} (S : Fr → World → Prop) (hf : P.funcs[f]? = some fn) (hb : fn.body = some c) (hn : fn.ntmps = N) (hN : Nat.ble al.length N = true)
    (hS : ∀ (tmps : Array Value) w' w'', S (fun t => tmps.getD t undef) w' → Shut w.heap.size w' w'' → ∃ v, (results fn tmps).run P w'' = .ok v w'' ∧ R (.returned v) w'')
    (h : WC ⟨none, none, w.heap.size, false, []⟩ P N c ⟨S, S, [], fun _ _ _ => False⟩ (nthD al) w) : Calls P f al.toArray w R := by
  have hle := Nat.le_of_ble_eq_true hN
  have h0 : CallsIn Fence.wide 0 P f al.toArray w R := by
    refine callsIn_of_wp_marks hf hb trivial (wpIn_mono (h _ w ⟨?_, Calm.nil _ _, Keeps.refl _, Nat.le_refl _⟩ ?_) ?_)
    · simp [hn]; omega
    · exact frOf_enter al _ _
    · rintro e a' w' ⟨p1, p3⟩
      cases e with
      | normal => exact leavesM_calm rfl _ _ p1.calm fun w'' hw => hS _ _ _ p3 hw
      | ret => exact leavesM_calm rfl _ _ p1.calm fun w'' hw => hS _ _ _ p3 hw
      | exit k => obtain ⟨K, hK, _⟩ := p3; cases hK
      | goto l => exact p3.elim
      | panic c => exact p3.elim
      | outgrown => exact p3.elim
  exact callsIn_wide.1 h0
variable {f : FuncId} {fn : Func} {c : Code} {al : List Value} {R : Ending → World → Prop}
theorem enter1 {t N : Nat} (hR : ShutOk w.heap.size R) (hf : P.funcs[f]? = some fn) (hb : fn.body = some c) (hr : fn.results = #[.tmp t]) (hn : fn.ntmps = N) (hN : Nat.ble al.length N = true)
    (h : WC ⟨none, none, w.heap.size, false, []⟩ P N c ⟨fun F w' => R (.returned (F t)) w', fun F w' => R (.returned (F t)) w', [], fun _ _ _ => False⟩ (nthD al) w) : Calls P f al.toArray w R :=
  enterR _ hf hb hn hN (fun _ _ _ h1 h2 => ⟨_, results_tmp hr _ _ _, hR.out _ _ _ h1 h2⟩) h
theorem enter2 {t u N : Nat} (hR : ShutOk w.heap.size R) (hf : P.funcs[f]? = some fn) (hb : fn.body = some c) (hr : fn.results = #[.tmp t, .tmp u]) (hn : fn.ntmps = N) (hN : Nat.ble al.length N = true)
    (h : WC ⟨none, none, w.heap.size, false, []⟩ P N c ⟨fun F w' => R (.returned (.tuple #[F t, F u])) w', fun F w' => R (.returned (.tuple #[F t, F u])) w', [], fun _ _ _ => False⟩ (nthD al) w) : Calls P f al.toArray w R :=
  enterR _ hf hb hn hN (fun _ _ _ h1 h2 => ⟨_, results_tmp2 hr _ _ _, hR.out _ _ _ h1 h2⟩) h
theorem enter3 {t u s N : Nat} (hR : ShutOk w.heap.size R) (hf : P.funcs[f]? = some fn) (hb : fn.body = some c) (hr : fn.results = #[.tmp t, .tmp u, .tmp s]) (hn : fn.ntmps = N) (hN : Nat.ble al.length N = true)
    (h : WC ⟨none, none, w.heap.size, false, []⟩ P N c ⟨fun F w' => R (.returned (.tuple #[F t, F u, F s])) w', fun F w' => R (.returned (.tuple #[F t, F u, F s])) w', [], fun _ _ _ => False⟩ (nthD al) w) : Calls P f al.toArray w R :=
  enterR _ hf hb hn hN (fun _ _ _ h1 h2 => ⟨_, results_tmp3 hr _ _ _, hR.out _ _ _ h1 h2⟩) h

/-! ### The operations' runs -/
variable {d : Option Nat} {ty : TypeId} {pos : String} {af : Array Edge} {gd : Option (Nat × Bool)}
theorem rn_move {x : Operand} {v : Value} (hx : ev F x = v) : (execOp (ev F) ⟨d, .move x, ty, pos, af, gd⟩).run P w = .ok (.value v) w := by simp [execOp, hx]
theorem rn_assign {x : Operand} {v : Value} (hx : ev F x = v) : (execOp (ev F) ⟨d, .assign x, ty, pos, af, gd⟩).run P w = .ok (.value v) w := by simp [execOp, hx]
theorem rn_pickT {c a b : Operand} {t : Bool} {v : Value} (hc : ev F c = .bool t) (ht : t = true) (ha : ev F a = v) : (execOp (ev F) ⟨d, .pick c a b, ty, pos, af, gd⟩).run P w = .ok (.value v) w := by simp [execOp, hc, ht, ha, asBool]
theorem rn_pickF {c a b : Operand} {t : Bool} {v : Value} (hc : ev F c = .bool t) (ht : t = false) (hb : ev F b = v) : (execOp (ev F) ⟨d, .pick c a b, ty, pos, af, gd⟩).run P w = .ok (.value v) w := by simp [execOp, hc, ht, hb, asBool]
theorem rn_not {t : TypeId} {x : Operand} {b : Bool} (hx : ev F x = .bool b) : (execOp (ev F) ⟨d, .unOp .not t x, ty, pos, af, gd⟩).run P w = .ok (.value (.bool (!b))) w := by simp [execOp, hx, Op.unary]
theorem rn_neg {t : TypeId} {x : Operand} {k : IntKind} {n : Int} (hx : ev F x = .int k n) : (execOp (ev F) ⟨d, .unOp .neg t x, ty, pos, af, gd⟩).run P w = .ok (.value (.int k (k.wrap (0 - n)))) w := by simp [execOp, hx, Op.unary, Op.intArith]
section
variable {t u : TypeId} {x y : Operand} {k : IntKind} {m n : Int}
theorem rn_add (hx : ev F x = .int k m) (hy : ev F y = .int k n) : (execOp (ev F) ⟨d, .binOp .add t x y u, ty, pos, af, gd⟩).run P w = .ok (.value (.int k (k.wrap (m + n)))) w := by simp [execOp, hx, hy, eqGuard, binOp, Op.intArith]
theorem rn_sub (hx : ev F x = .int k m) (hy : ev F y = .int k n) : (execOp (ev F) ⟨d, .binOp .sub t x y u, ty, pos, af, gd⟩).run P w = .ok (.value (.int k (k.wrap (m - n)))) w := by simp [execOp, hx, hy, eqGuard, binOp, Op.intArith]
theorem rn_mul (hx : ev F x = .int k m) (hy : ev F y = .int k n) : (execOp (ev F) ⟨d, .binOp .mul t x y u, ty, pos, af, gd⟩).run P w = .ok (.value (.int k (k.wrap (m * n)))) w := by simp [execOp, hx, hy, eqGuard, binOp, Op.intArith]
theorem rn_quo (hx : ev F x = .int k m) (hy : ev F y = .int k n) (hn : n ≠ 0) : (execOp (ev F) ⟨d, .binOp .quo t x y u, ty, pos, af, gd⟩).run P w = .ok (.value (.int k (k.wrap (m.tdiv n)))) w := by simp [execOp, hx, hy, eqGuard, binOp, Op.intDiv, hn]
theorem rn_rem (hx : ev F x = .int k m) (hy : ev F y = .int k n) (hn : n ≠ 0) : (execOp (ev F) ⟨d, .binOp .rem t x y u, ty, pos, af, gd⟩).run P w = .ok (.value (.int k (m.tmod n))) w := by simp [execOp, hx, hy, eqGuard, binOp, Op.intDiv, hn]
theorem rn_lss (hx : ev F x = .int k m) (hy : ev F y = .int k n) : (execOp (ev F) ⟨d, .binOp .lss t x y u, ty, pos, af, gd⟩).run P w = .ok (.value (.bool (decide (m < n)))) w := by simp [execOp, hx, hy, eqGuard, binOp, Op.intCmp]
theorem rn_leq (hx : ev F x = .int k m) (hy : ev F y = .int k n) : (execOp (ev F) ⟨d, .binOp .leq t x y u, ty, pos, af, gd⟩).run P w = .ok (.value (.bool (decide (m ≤ n)))) w := by simp [execOp, hx, hy, eqGuard, binOp, Op.intCmp]
theorem rn_gtr (hx : ev F x = .int k m) (hy : ev F y = .int k n) : (execOp (ev F) ⟨d, .binOp .gtr t x y u, ty, pos, af, gd⟩).run P w = .ok (.value (.bool (decide (n < m)))) w := by simp [execOp, hx, hy, eqGuard, binOp, Op.intCmp]
theorem rn_geq (hx : ev F x = .int k m) (hy : ev F y = .int k n) : (execOp (ev F) ⟨d, .binOp .geq t x y u, ty, pos, af, gd⟩).run P w = .ok (.value (.bool (decide (n ≤ m)))) w := by simp [execOp, hx, hy, eqGuard, binOp, Op.intCmp]
theorem rn_eql (hx : ev F x = .int k m) (hy : ev F y = .int k n) : (execOp (ev F) ⟨d, .binOp .eql t x y u, ty, pos, af, gd⟩).run P w = .ok (.value (.bool (m == n))) w := by simp [execOp, hx, hy, eqGuard, binOp, Op.intCmp]
theorem rn_neq (hx : ev F x = .int k m) (hy : ev F y = .int k n) : (execOp (ev F) ⟨d, .binOp .neq t x y u, ty, pos, af, gd⟩).run P w = .ok (.value (.bool (m != n))) w := by simp [execOp, hx, hy, eqGuard, binOp, Op.intCmp]
end
theorem rn_extract {x : Operand} {i : Nat} {vs : Array Value} {v : Value} (hx : ev F x = .tuple vs) (hv : vs.toList[i]? = some v) : (execOp (ev F) ⟨d, .extract x i, ty, pos, af, gd⟩).run P w = .ok (.value v) w := by
  have : vs[i]? = some v := by simpa using hv
  simp [execOp, hx, Instr.extract, this]
theorem rn_len {T e : TypeId} {sz bytes : Nat} {x : Operand} {ats : Array TypeId} {ad : Option Addr} {n m cap : Nat} (hT : slB P T = some (e, sz, bytes)) (ha : ats.toList[0]? = some T) (hx : ev F x = .slice ad n cap) (hm : n = m) :
    (execOp (ev F) ⟨d, .call { callee := .builtin .len, args := #[x], argTypes := ats }, ty, pos, af, gd⟩).run P w = .ok (.value (.int .i64 (m : Int))) w := by
  subst hm
  have h1 := (slB_spec hT).1
  have h2 : ats[0]? = some T := by simpa using ha
  simp [execOp, hx, resolve, invoke, builtin, Builtin.len_, h2, run_underlying h1, goInt]
theorem fldB_spec {S k o : Nat} (h : fldB P S k = some o) : ∃ fs f i, P.underlying S = some (.struct fs) ∧ fs[k]? = some f ∧ f.offset = o ∧ P.info? f.type = some i ∧ i.size ≠ 0 := by
  unfold fldB at h
  split at h
  · rename_i fs hu
    split at h
    · rename_i f hf
      split at h
      · rename_i i hi
        split at h
        · cases h
        · rename_i hz
          exact ⟨fs, f, i, hu, hf, Option.some.inj h, hi, hz⟩
      · cases h
    · cases h
  · cases h
theorem add_addr (b off k : Nat) : (⟨b, off, none⟩ : Addr).add k = ⟨b, off + k, none⟩ := by
  unfold Addr.add
  split
  · rename_i h; subst h; rfl
  · rfl
theorem rn_fld {S k o : Nat} {x : Operand} {b off : Nat} (hS : fldB P S k = some o) (hx : ev F x = .pointer (some ⟨b, off, none⟩)) :
    (execOp (ev F) ⟨d, .fieldAddr S x k, ty, pos, af, gd⟩).run P w = .ok (.value (.pointer (some ⟨b, off + o, none⟩))) w := by
  obtain ⟨fs, f, i, h1, h2, h3, h4, h5⟩ := fldB_spec hS
  simp [execOp, hx, Instr.fieldAt, run_underlying h1, h2, Instr.sureAddr, fieldPlace, sizeOf, typeInfo, h4, h5, h3, add_addr]
theorem naB_spec {T : Nat} (h : naB P T = true) : (isAgg T).run P w = .ok false w := by
  unfold naB at h
  cases ho : P.underlying T with
  | none => rw [ho] at h; cases h
  | some dsc =>
    rw [ho] at h
    unfold isAgg
    rw [Sem.run_bind, run_underlying ho]
    cases dsc <;> first | rfl | cases h
theorem rn_load {T : Nat} {x : Operand} {a : Addr} {v : Value} (hT : naB P T = true) (hx : ev F x = .pointer (some a)) (hc : w.cell? a = some v) :
    (execOp (ev F) ⟨d, .load T x, ty, pos, af, gd⟩).run P w = .ok (.value v) w := by
  simp [execOp, hx, Instr.loadAt, Instr.sureAddr, loadVar, naB_spec hT, load, Sem.run, hc]
theorem agB_spec {T n : Nat} (h : agB P T = some n) : (isAgg T).run P w = .ok true w ∧ (sizeOf T).run P w = .ok n w := by
  unfold agB at h
  split at h
  · rename_i hu
    obtain ⟨i, hi, rfl⟩ := Option.map_eq_some_iff.1 h
    exact ⟨by simp [isAgg, run_underlying hu], by simp [sizeOf, typeInfo, hi]⟩
  · rename_i hu
    obtain ⟨i, hi, rfl⟩ := Option.map_eq_some_iff.1 h
    exact ⟨by simp [isAgg, run_underlying hu], by simp [sizeOf, typeInfo, hi]⟩
  · cases h
theorem rn_loadA {T n : Nat} {x : Operand} {b off : Nat} {cs : List Value} (hT : agB P T = some n) (hx : ev F x = .pointer (some ⟨b, off, none⟩)) (hl : cs.length = n) (hc : ∀ j v, cs[j]? = some v → w.cell? ⟨b, off + j, none⟩ = some v) :
    (execOp (ev F) ⟨d, .load T x, ty, pos, af, gd⟩).run P w = .ok (.value (.agg cs.toArray)) w := by
  have h2 : (loadCells ⟨b, off, none⟩ n).run P w = .ok cs.toArray w := by
    subst hl
    exact run_loadCells_list (P := P) w ⟨b, off, none⟩ cs (fun j v hj => by rw [add_addr]; exact hc j v hj)
  simp [execOp, hx, Instr.loadAt, Instr.sureAddr, loadVar, (agB_spec (P := P) (w := w) hT).1, (agB_spec (P := P) (w := w) hT).2, h2]
theorem rn_idx {α : Type} {R : Gm → List Value → α → Prop} {G : Gm} {T e sz bytes : Nat} {X I : Operand} {ad : Option Addr} {len cap : Nat} {xs : List α} {k : IntKind} {i : Int} {y : α}
    (hT : slB P T = some (e, sz, bytes)) (hs : RSl R sz G ad len cap xs) (hx : ev F X = .slice ad len cap) (hi : ev F I = .int k i) (hix : ix xs i = some y) :
    ∃ b off cs, (∀ w, (execOp (ev F) ⟨d, .indexAddr T X I, ty, pos, af, gd⟩).run P w = .ok (.value (.pointer (some ⟨b, off, none⟩))) w) ∧ Cells G b off cs ∧ cs.length = sz ∧ R G cs y := by
  obtain ⟨hu, inf, z, h1, h2, h3, h4, h5, h6⟩ := slB_spec hT
  obtain ⟨p1, p2, p3⟩ := ix_some hix
  obtain ⟨b, off, cs, q1, q2, q3, q4⟩ := hs.2.2 _ _ p3
  refine ⟨b, off + i.toNat * sz, cs, fun w => ?_, q2, q3, q4⟩
  have hlt : i < (len : Int) := by rw [hs.1]; omega
  simp [execOp, hx, hi, Instr.indexAt, asIntOf, run_underlying hu, q1, p1, hlt, sizeOf, typeInfo, h1, h3, add_addr]
variable {ops : Array Oper} {K : Fr → World → Prop} {l : List Oper}
theorem WL_idx {α : Type} {R : Gm → List Value → α → Prop} {G : Gm} {T e sz bytes t : Nat} {X I : Operand} {ad : Option Addr} {len cap : Nat} {xs : List α} {k : IntKind} {i : Int} {y : α}
    (hT : slB P T = some (e, sz, bytes)) (hs : RSl R sz G ad len cap xs) (hix : ix xs i = some y) (hx : ev F X = .slice ad len cap) (hi : ev F I = .int k i) (hd : Nat.blt t N = true)
    (h : ∀ b off cs, Cells G b off cs → cs.length = sz → R G cs y → WL κ P N ops p K l (upd F t (.pointer (some ⟨b, off, none⟩))) w) : WL κ P N ops p K (⟨some t, .indexAddr T X I, ty, pos, af, none⟩ :: l) F w := by
  obtain ⟨b, off, cs, hrun, h1, h2, h3⟩ := rn_idx (P := P) (F := F) (d := some t) (ty := ty) (pos := pos) (af := af) (gd := none) hT hs hx hi hix
  exact WL_val (hrun w) hd (h b off cs h1 h2 h3)
theorem rn_call {k : Nat} {args : Array Operand} {ats : Array TypeId} {al : List Value} (hk : callB P k = true) (ha : args.toList.map (ev F) = al) :
    (execOp (ev F) ⟨d, .call { callee := .value (.func k), args := args, argTypes := ats }, ty, pos, af, gd⟩).run P w = .ok (.enter k al.toArray) w := by
  have h0 : Array.map (ev F) args = al.toArray := by rw [← ha]; exact Array.ext' (by rw [Array.toList_map])
  unfold callB at hk
  split at hk
  · rename_i fn hf
    simp only [Bool.and_eq_true, Bool.not_eq_true'] at hk
    obtain ⟨c, hb⟩ := Option.isSome_iff_exists.1 hk.2
    have hn : ¬ fn.name = "runtime.NumGoroutine" := by simpa using hk.1
    simp [execOp, resolve, ev, Deferred.ofValue, h0, invoke, callFunc, hf, hn, hb]
  · cases hk
end
end Go.Proofs.YtcaflmilfhhikaaGreatDoor
