/-
  Ranges over functions: iterators and the rounds of their loops.
-/
import Derived.Test.YtcaflmilfhhikaaGreatDoorBaseG
namespace Go.Proofs.YtcaflmilfhhikaaGreatDoor
open Go.RowKit

/-- Loops' records and deferred calls' blocks, laid since B, have turned. -/
structure FixStep (B : Nat) (w w' : World) : Prop where
  os : w'.os = w.os
  tape : w'.tape = w.tape
  output : w'.output = w.output
  size : w'.heap.size = w.heap.size
  low : ∀ (k : Nat), k < B → w'.heap[k]? = w.heap[k]?
  block : ∀ (k : Nat) (o : Obj), w.heap[k]? = some o → isFix o = false → w'.heap[k]? = some o
theorem FixStep.put {B D : Nat} {w : World} {o : Obj} (hB : B ≤ D) (hD : w.heap[D]? = some o) (ho : isFix o = true) (o' : Obj) : FixStep B w (w.putObj D o') :=
  ⟨rfl, rfl, rfl, by simp [World.putObj], fun k hk => World.putObj_heap_other (by omega), fun k o1 hk h1 => by
    have hne : k ≠ D := by intro e; subst e; rw [hD] at hk; cases hk; rw [ho] at h1; cases h1
    rw [World.putObj_heap_other hne]; exact hk⟩
section
variable {G G' G0 : Gm} {w w' w0 : World} {B : Nat} {L : List Row}
theorem Since.fix (h : Since B G0 w0 G w) (k : FixStep B w w') : Since B G0 w0 G w' :=
  ⟨h.le, fun b o hb => by
    have h1 := h.sat b o hb
    rcases Nat.lt_or_ge b B with h' | h'
    · exact (k.low b h').trans h1
    · exact k.block b o h1 (h.cells b o hb h'), ⟨k.os.trans h.below.os, k.tape.trans h.below.tape, k.output.trans h.below.output, by rw [k.size]; exact h.below.size, fun i hi => (k.low i hi).trans (h.below.block i hi)⟩, h.old, by rw [k.size]; exact h.base, h.cells⟩
theorem Owns.fix (h : Owns G w B L) (k : FixStep B w w') : Owns G w' B L :=
  ⟨fun c hc => ⟨ownsRow_same (h.each c hc).1 fun g hg => by
      rcases (h.each c hc).1.2 with ⟨hv, _⟩ | ⟨g', o₀, cap, cur, hv, _, hg', _⟩ | ⟨g', hv, _, hg'⟩
      · rw [hv] at hg; cases hg
      · rw [hv] at hg
        have e : g' = g := by simpa [blkOf] using hg
        subst e
        rw [hg']
        exact k.block _ _ hg' rfl
      · rw [hv] at hg
        have e : g' = g := by simpa [blkOf] using hg
        subst e
        rw [hg']
        exact k.block _ _ hg' (isFix_mobj _ _ _ _), (h.each c hc).2⟩, h.apart, by rw [k.size]; exact h.base⟩
theorem Since.alloc (h : Since B G0 w0 G w) (o : Obj) : Since B G0 w0 G (w.alloc o) := h.keep ((Below.refl _ w).alloc (Nat.le_refl _) _)
theorem Owns.alloc (h : Owns G w B L) (o : Obj) : Owns G (w.alloc o) B L := h.below ((Below.refl _ w).alloc (Nat.le_refl _) _)
end
theorem Keeps.put {X : Option Nat} {w : World} {l : Nat} {o : Obj} (hX : X = some l) : Keeps X w (w.putObj l o) :=
  ⟨by simp [World.putObj], fun D o' hD h _ => by
    have hne : D ≠ l := by intro e; subst e; exact hD hX
    rw [World.putObj_heap_other hne]; exact h⟩
theorem Keeps.weak {X : Option Nat} {w w' : World} (h : Keeps none w w') : Keeps X w w' := ⟨h.size, fun D o _ hD ho => h.same D o (by simp) hD ho⟩

/-- A loop over a list, with ways out. -/
def rg {α σ ρ : Type} (body : α → σ → Option (σ ⊕ ρ)) : List α → σ → Option (σ ⊕ ρ)
  | [], s => some (.inl s)
  | x :: l, s => match body x s with
    | none => none
    | some (.inl s') => rg body l s'
    | some (.inr q) => some (.inr q)
section
variable {G : Gm} {w : World} {B : Nat} {L L' : List Row}
theorem Owns.perm (h : Owns G w B L) (hp : L.Perm L') : Owns G w B L' :=
  ⟨fun c hc => h.each c (hp.mem_iff.2 hc), (hp.pairwise_iff fun {x y} => apart_symm x y).1 h.apart, h.base⟩
theorem Owns.comm (h : Owns G w B (L ++ L')) : Owns G w B (L' ++ L) := h.perm List.perm_append_comm
theorem Owns.left (h : Owns G w B (L ++ L')) : Owns G w B L :=
  ⟨fun c hc => h.each c (List.mem_append_left _ hc), (List.pairwise_append.1 h.apart).1, h.base⟩
end
/-- An iterator: to whatever loop it yields, it yields these, in this order, and goes on as long as it is told to; Lx are rows of its own, of which the loop knows nothing. -/
def IterOk (P : Program) (k : Nat) (fi ca : List Value) (G : Gm) {α : Type} (enc : α → List Value) (xs : List α) : Prop :=
  ∀ (l B : Nat) (G0 : Gm) (w0 : World) (J : Gm → List Row → Nat → World → Prop) (Jx : World → Prop) (G1 : Gm) (L1 : List Row) (w : World), Gle G G1 → Since B G0 w0 G1 w → Owns G1 w B L1 →
    (∀ G L k w G' w', J G L k w → Gle G G' → Keeps none w w' → J G' L k w') →
    (∀ G L Lx k w x, Gle G1 G → J G L k w → Since B G0 w0 G w → Owns G w B (Lx ++ L) → xs[k]? = some x → YieldAt Fence.wide 0 P l (enc x).toArray w fun e w' =>
      Keeps (some l) w w' ∧ ((e = .returned (.bool true) ∧ ∃ G' L', Gle G G' ∧ Since B G0 w0 G' w' ∧ Owns G' w' B (Lx ++ L') ∧ J G' L' (k + 1) w') ∨ (e = .returned (.bool false) ∧ Jx w'))) →
    J G1 L1 0 w → Calls P k (fi ++ [Value.func (.yield l) #[] #[]] ++ ca).toArray w fun e w' => (∃ v, e = .returned v) ∧ Keeps (some l) w w' ∧ ((∃ G' L', Gle G1 G' ∧ Since B G0 w0 G' w' ∧ Owns G' w' B L' ∧ J G' L' xs.length w') ∨ Jx w')
theorem IterOk.mono {P : Program} {k : Nat} {fi ca : List Value} {G G' : Gm} {α : Type} {enc : α → List Value} {xs : List α} (h : IterOk P k fi ca G enc xs) (hle : Gle G G') : IterOk P k fi ca G' enc xs :=
  fun l B G0 w0 J Jx G1 L1 w hl => h l B G0 w0 J Jx G1 L1 w (hle.trans hl)
section
variable {κ : Ctx} {p : List PanicEntry → Fr → World → Prop} {P : Program} {N : Nat} {F : Fr} {w : World} {K : Fr → World → Prop} {ty : TypeId} {pos : String} {af : Array Edge} {ops : Array Oper} {l : List Oper}
/-- A call of yield. -/
theorem WL_yield {d j : Nat} {X : Operand} {args : Array Operand} {ats : Array TypeId} {al : List Value} {R : Ending → World → Prop} (hy : YieldAt Fence.wide 0 P j al.toArray w R) (hx : ev F X = .func (.yield j) #[] #[]) (ha : args.toList.map (ev F) = al) (hd : Nat.blt d N = true)
    (h : ∀ e w', R e w' → ∃ v, e = .returned v ∧ Keeps κ.ex w w' ∧ WL κ P N ops p K l (upd F d v) w') : WL κ P N ops p K (⟨some d, .call { callee := .value X, args := args, argTypes := ats }, ty, pos, af, none⟩ :: l) F w := by
  obtain ⟨fn, tmps, assign, body, hrun, hround⟩ := hy
  intro a wI h1 h3
  refine wpListIn_plain rfl fun K' hK' => ⟨fun _ _ => trivial, ?_⟩
  have h0 : Array.map (ev F) args = al.toArray := by rw [← ha]; exact Array.ext' (by rw [Array.toList_map])
  rw [semFW (ρ := (FW κ.ro).round) (w' := w) (nx := .round j fn tmps assign body) (fun _ h => by cases h) (by
    rw [eval_frOf, h3]
    simp [execOp, resolve, hx, Deferred.ofValue, h0, invoke, hrun])]
  refine ⟨fun h => (by cases h), RoundIn.mono (R := R) hround fun e w' hR => ?_⟩
  obtain ⟨v, rfl, hk, hW⟩ := h e w' hR
  refine hK' _ _ (hW _ wI (h1.put hk _ _) ?_)
  rw [← h3]; exact frOf_put a d v (h1.lt hd)
/-- A function that may yield to loop l. -/
theorem enterI {f : FuncId} {fn : Func} {c : Code} {al : List Value} {R : Ending → World → Prop} {l : Nat} (hf : P.funcs[f]? = some fn) (hb : fn.body = some c) (hr : fn.results = #[]) (hn : fn.ntmps = N) (hN : Nat.ble al.length N = true)
    (h : WC ⟨none, some l, w.heap.size, true, []⟩ P N c ⟨fun _ w' => Keeps (some l) w w' → R (.returned (.tuple #[])) w', fun _ w' => Keeps (some l) w w' → R (.returned (.tuple #[])) w', [], fun _ _ _ => False⟩ (nthD al) w) : Calls P f al.toArray w R := by
  have hle := Nat.le_of_ble_eq_true hN
  have hres : ∀ (tmps : Array Value) w', (results fn tmps).run P w' = .ok (.tuple #[]) w' := by
    intro tmps w'
    simp [results, hr]
  have h0 : CallsIn Fence.wide 0 P f al.toArray w R := by
    refine callsIn_of_wp hf hb trivial (wpIn_mono (h _ w ⟨?_, Calm.nil _ _, Keeps.refl _, Nat.le_refl _⟩ ?_) ?_)
    · simp [hn]; omega
    · exact frOf_enter al _ _
    · rintro e a' w' ⟨p1, p3⟩
      cases e with
      | normal => exact ⟨p1.calm.none rfl, _, hres _ _, p3 p1.keep⟩
      | ret => exact ⟨p1.calm.none rfl, _, hres _ _, p3 p1.keep⟩
      | exit k => obtain ⟨K, hK, _⟩ := p3; cases hK
      | goto l => exact p3.elim
      | panic c => exact p3.elim
      | outgrown => exact p3.elim
  exact callsIn_wide.1 h0
theorem look_map {f : Nat → Fr → World → Prop} {id : Nat} {K : Fr → World → Prop} : ∀ {ids : List Nat}, look (ids.map fun i => (i, f i)) id = some K → id ∈ ids ∧ K = f id
  | [], h => by cases h
  | i :: ids, h => by
    simp only [List.map_cons, look] at h
    cases hb : Nat.beq i id with
    | true =>
      rw [hb] at h
      have e := Nat.eq_of_beq_eq_true hb
      subst e
      exact ⟨by simp, (Option.some.inj h).symm⟩
    | false =>
      rw [hb] at h
      have := look_map h
      exact ⟨by simp [this.1], this.2⟩
theorem size_params (l : List (Tmp × Value)) (tmps : Array Value) : (l.foldl (fun t (q : Tmp × Value) => t.setIfInBounds q.1 q.2) tmps).size = tmps.size := by
  induction l generalizing tmps with
  | nil => rfl
  | cons q l ih => rw [List.foldl_cons, ih, Array.size_setIfInBounds]
def params (F : Fr) (l : List (Tmp × Value)) : Fr := l.foldl (fun F q => upd F q.1 q.2) F
theorem frOf_params (l : List (Tmp × Value)) (tmps : Array Value) (ds ds' : List Deferred) (h : ∀ q ∈ l, q.1 < tmps.size) : frOf ⟨l.foldl (fun t (q : Tmp × Value) => t.setIfInBounds q.1 q.2) tmps, ds⟩ = params (frOf ⟨tmps, ds'⟩) l := by
  induction l generalizing tmps with
  | nil => rfl
  | cons q l ih =>
    rw [List.foldl_cons, ih _ (fun q' hq' => by rw [Array.size_setIfInBounds]; exact h q' (by simp [hq']))]
    unfold params
    rw [List.foldl_cons]
    congr 1
    exact frOf_put ⟨tmps, ds'⟩ q.1 q.2 (h q (by simp))
theorem rg_step {α σ ρ : Type} {bd : α → σ → Option (σ ⊕ ρ)} {xs : List α} {s : σ} {res : σ ⊕ ρ} {k : Nat} {y : α} (h : rg bd (xs.drop k) s = some res) (hy : xs[k]? = some y) :
    ∃ t, bd y s = some t ∧ (∀ s', t = .inl s' → rg bd (xs.drop (k + 1)) s' = some res) ∧ (∀ q, t = .inr q → res = .inr q) := by
  obtain ⟨hlt, hy'⟩ := List.getElem?_eq_some_iff.1 hy
  rw [List.drop_eq_getElem_cons hlt, hy'] at h
  simp only [rg] at h
  cases hb : bd y s with
  | none => rw [hb] at h; cases h
  | some t =>
    rw [hb] at h
    refine ⟨t, rfl, fun s' e => ?_, fun q e => ?_⟩
    · subst e; exact h
    · subst e; exact (Option.some.inj h).symm
/-- **'for .. := range it { .. }'**, at an outermost loop. -/
theorem WC_range {α σ ρ : Type} {g : Operand} {ps : Array Tmp} {assign body : Code} {n r : Fr → World → Prop} {x : List (Nat × (Fr → World → Prop))} {G0 G : Gm} {w0 : World} {B : Nat} {L : List Row} {k : Nat} {fi ca : List Value}
    {enc : α → List Value} {xs : List α} {bd : α → σ → Option (σ ⊕ ρ)} {s : σ} {res : σ ⊕ ρ}
    (hk : callB P k = true) (it : IterOk P k fi ca G enc xs) (hg : ev F g = .func (.func k) fi.toArray ca.toArray) (hps : ∀ y, (enc y).length = ps.size) (hpN : (ps.toList.all fun q => Nat.blt q N) = true)
    (hrg : rg bd xs s = some res) (Ψ : σ → Gm → List Row → Prop) (Ix : ρ → Code → Gm → List Row → Prop) (hΨ : ∀ s G G' L, Gle G G' → Ψ s G L → Ψ s G' L)
    (hS : Since B G0 w0 G w) (hO : Owns G w B L) (h0 : Ψ s G L) (ids : List Nat)
    (round : ∀ (l : Nat) (y : α) (s : σ) (t : σ ⊕ ρ) (G' : Gm) (w' : World) (L' Lx : List Row), Gle G G' → Since B G0 w0 G' w' → Owns G' w' B (L' ++ Lx) → Ψ s G' L' → bd y s = some t → (∀ q, t = .inr q → res = .inr q) →
      WC ⟨some l, none, 0, true, []⟩ P N assign ⟨fun F1 w1 => ∀ w2, FixStep B w1 w2 → WC ⟨some l, none, 0, true, []⟩ P N body
        ⟨fun _ w3 => ∃ s', t = .inl s' ∧ ∃ G3 L3, Gle G' G3 ∧ Since B G0 w0 G3 w3 ∧ Owns G3 w3 B (L3 ++ Lx) ∧ Ψ s' G3 L3,
         fun _ w3 => ∃ q, t = .inr q ∧ ∃ G3 L3, Gle G' G3 ∧ Since B G0 w0 G3 w3 ∧ Owns G3 w3 B (L3 ++ Lx) ∧ Ix q .ret G3 L3,
         ids.map fun id => (id, fun _ w3 => ∃ q, t = .inr q ∧ ∃ G3 L3, Gle G' G3 ∧ Since B G0 w0 G3 w3 ∧ Owns G3 w3 B (L3 ++ Lx) ∧ Ix q (.exit id) G3 L3), fun _ _ _ => False⟩ F1 w2,
        fun _ _ => False, [], fun _ _ _ => False⟩ (params F (ps.toList.zip (enc y))) w')
    (done : ∀ s' G' w' L', res = .inl s' → Gle G G' → Since B G0 w0 G' w' → Owns G' w' B L' → Ψ s' G' L' → n F w')
    (stop : ∀ q c G' w' L', res = .inr q → (c = .ret ∨ ∃ id ∈ ids, c = .exit id) → Gle G G' → Since B G0 w0 G' w' → Owns G' w' B L' → Ix q c G' L' → WC κ P N c ⟨n, r, x, p⟩ F w')
    (hκ : κ.ro = none := by rfl) (hex : κ.ex = none := by rfl) (hnm : κ.nm = false := by rfl) (hdf : κ.df = [] := by rfl) : WC κ P N (.rangeFunc g ps assign body) ⟨n, r, x, p⟩ F w := by
  intro a wI st hF
  refine wpIn_rangeFunc ?_
  intro fn hfn
  have hro : (FW κ.ro).round = none := hκ
  rw [hro]
  have hev : a.eval g = .func (.func k) fi.toArray ca.toArray := by rw [eval_frOf, hF]; exact hg
  obtain ⟨rec, hrec⟩ : ∃ rec : LoopState → Option Code → Loop, rec = fun st pe => { state := st, pending := pe, fn, tmps := a.tmps, params := ps, assign, body, defers := w.heap.size } := ⟨_, rfl⟩
  obtain ⟨W1, hW1⟩ : ∃ W1, (w.alloc (.deferred (some []))).alloc (.loop (rec .ready none)) = W1 := ⟨_, rfl⟩
  have hL1 : W1.heap[w.heap.size + 1]? = some (.loop (rec .ready none)) := by
    rw [← hW1]; have := World.alloc_heap_new (w.alloc (.deferred (some []))) (.loop (rec .ready none)); rwa [World.size_alloc] at this
  have hK1 : W1.heap[w.heap.size]? = some (.deferred (some [])) := by
    rw [← hW1]; exact (Below.heap_alloc _ _ _ (by simp)).trans (World.alloc_heap_new w _)
  have hb1 : Below w.heap.size w W1 := by
    rw [← hW1]; exact ((Below.refl _ w).alloc (Nat.le_refl _) _).alloc (by simp) _
  have hBl : B ≤ w.heap.size + 1 := Nat.le_succ_of_le hS.base
  -- what stands of the loop's end
  have kept : ∀ (w' : World), Keeps (some (w.heap.size + 1)) W1 w' → Keeps none w w' := fun w' hk' => ⟨Nat.le_trans hb1.size hk'.size, fun D o _ hD ho => by
    have hlt := (Array.getElem?_eq_some_iff.1 hD).1
    exact hk'.same D o (by simp; omega) ((hb1.block D hlt).trans hD) ho⟩
  have putK : ∀ (w' : World) (o : Obj), Keeps none w w' → Keeps none w (w'.putObj (w.heap.size + 1) o) := fun w' o hk' => ⟨by simpa using hk'.size, fun D o' h hD ho => by
    have hlt := (Array.getElem?_eq_some_iff.1 hD).1
    exact (World.putObj_heap_other (by omega)).trans (hk'.same D o' h hD ho)⟩
  have hst : ∀ (w' : World) (o : Obj), Keeps (some (w.heap.size + 1)) W1 w' → St κ N wI { a with defers := { target := .collected w.heap.size, args := #[] } :: a.defers } (w'.putObj (w.heap.size + 1) o) := fun w' o hk' => by
    have h1 := putK w' o (kept w' hk')
    have h2 : Keeps κ.ex w (w'.putObj (w.heap.size + 1) o) := by rw [hex]; exact h1
    have hc := st.calm.keep h2
    refine ⟨st.size, ⟨fun d hd => ?_, List.pairwise_cons.2 ⟨fun e he => ?_, hc.apart⟩, fun h => by rw [hnm] at h; cases h⟩, st.keep.trans h2, Nat.le_trans st.base h2.size⟩
    · rcases List.mem_cons.1 hd with rfl | hd
      · exact .inr ⟨_, rfl, (World.putObj_heap_other (by omega)).trans (hk'.same _ _ (by simp) hK1 rfl), by rw [hex]; simp, st.base⟩
      · exact hc.each d hd
    · obtain ⟨D, hD, hD2, _, _⟩ := (st.calm.each e he).resolve_left (by rw [hdf]; simp)
      have hlt := (Array.getElem?_eq_some_iff.1 hD2).1
      rw [hD]
      intro h
      injection h with h
      omega
  refine ⟨w.heap.size + 1, [{ target := .collected w.heap.size, args := #[] }], W1, { target := .fn (.func k) ca.toArray, args := fi.toArray ++ #[.func (.yield (w.heap.size + 1)) #[] #[]] }, W1, k,
    (fi ++ [Value.func (.yield (w.heap.size + 1)) #[] #[]] ++ ca).toArray, W1, ?_, ?_, ?_, ?_, fun h => (by cases h), callsFW ?_⟩
  · rw [← hW1, hrec]; exact run_enterLoop_outer _ _ _ _ _
  · simp only [resolve, hev]
    simp [go_sem, Deferred.ofValue]
  · intro f' _; trivial
  · unfold callB at hk
    split at hk
    · rename_i fn' hf
      simp only [Bool.and_eq_true, Bool.not_eq_true'] at hk
      obtain ⟨c, hb⟩ := Option.isSome_iff_exists.1 hk.2
      have hn : ¬ fn'.name = "runtime.NumGoroutine" := by simpa using hk.1
      simp [invoke, callFunc, hf, hn, hb]
    · cases hk
  · have hS1 : Since B G0 w0 G W1 := by rw [← hW1]; exact (hS.alloc _).alloc _
    have hO1 : Owns G W1 B L := by rw [← hW1]; exact (hO.alloc _).alloc _
    refine (it (w.heap.size + 1) B G0 w0
      (fun G' L' i w' => ∃ s', rg bd (xs.drop i) s' = some res ∧ Gle G G' ∧ Ψ s' G' L' ∧ Keeps (some (w.heap.size + 1)) W1 w' ∧ w'.heap[w.heap.size + 1]? = some (.loop (rec .ready none)))
      (fun w' => ∃ q c G' L', res = .inr q ∧ (c = .ret ∨ ∃ id ∈ ids, c = .exit id) ∧ Gle G G' ∧ Since B G0 w0 G' w' ∧ Owns G' w' B L' ∧ Ix q c G' L' ∧ Keeps (some (w.heap.size + 1)) W1 w' ∧ w'.heap[w.heap.size + 1]? = some (.loop (rec .done (some c))))
      G L W1 (Gle.refl G) hS1 hO1 ?_ ?_ ⟨s, hrg, Gle.refl G, h0, .refl _, hL1⟩).mono ?_
    · rintro G1 L' i w1 G2 w2 ⟨s', h1, h2, h5, h6, h7⟩ hle hkp
      exact ⟨s', h1, h2.trans hle, hΨ _ _ _ _ hle h5, h6.trans hkp.weak, hkp.same _ _ (by simp) h7 rfl⟩
    · rintro G1 L' Lx i w1 y _ ⟨s', h1, h2, h5, h6, h7⟩ h3 h4 hy
      have hsz : (enc y).toArray.size = (rec .ready none).params.size := by rw [hrec]; simpa using hps y
      have hyr := run_yield (P := P) (args := (enc y).toArray) h7 hsz
      rw [hrec] at hyr
      obtain ⟨t, ht1, ht2, ht3⟩ := rg_step h1 hy
      have hfold : (ps.zip (enc y).toArray).foldl (fun tmps (t, a) => tmps.setIfInBounds t a) a.tmps = (ps.toList.zip (enc y)).foldl (fun t (q : Tmp × Value) => t.setIfInBounds q.1 q.2) a.tmps := by
        rw [← Array.foldl_toList, Array.toList_zip]
      refine ⟨fn, _, assign, body, hyr, roundIn_of_wpIn hfn ?_⟩
      simp only []
      rw [hfold]
      have hall : ∀ q ∈ ps.toList.zip (enc y), q.1 < a.tmps.size := fun q hq => by
        have h8 := List.all_eq_true.1 hpN q.1 (List.of_mem_zip hq).1
        rw [st.size]; exact lt_of_blt h8
      have hround := round (w.heap.size + 1) y s' t G1 w1 L' Lx h2 h3 h4.comm h5 ht1 ht3 ⟨(ps.toList.zip (enc y)).foldl (fun t (q : Tmp × Value) => t.setIfInBounds q.1 q.2) a.tmps, []⟩ w1
        ⟨(size_params _ _).trans st.size, Calm.nil _ _, .refl _, Nat.zero_le _⟩ ((frOf_params _ _ _ a.defers hall).trans (by rw [← hF]))
      refine wpIn_mono hround ?_
      rintro e a1 w2 ⟨st1, post⟩
      cases e with
      | normal =>
        have hl2 := st1.keep.same _ _ (by simp) h7 rfl
        refine ⟨_, run_beginRound hl2 (by rw [hrec]), ?_⟩
        have hfix : FixStep B w2 (w2.putObj (w.heap.size + 1) (.loop { rec .ready none with state := .busy })) := .put hBl hl2 rfl _
        have hd1 := st1.calm.none rfl
        have hcalm : Calm ⟨some (w.heap.size + 1), none, 0, true, []⟩ a1.defers (w2.putObj (w.heap.size + 1) (.loop { rec .ready none with state := .busy })) := by rw [hd1]; exact Calm.nil _ _
        refine wpIn_mono (post _ hfix a1 _ ⟨st1.size, hcalm, .refl _, Nat.zero_le _⟩ rfl) ?_
        rintro e a3 w3 ⟨st3, post3⟩
        have hl2' : (w2.putObj (w.heap.size + 1) (.loop { rec .ready none with state := .busy })).heap[w.heap.size + 1]? = some (.loop { rec .ready none with state := .busy }) := World.putObj_heap_same (Array.getElem?_eq_some_iff.1 hl2).1
        have hl3 := st3.keep.same _ _ (by simp) hl2' rfl
        have fin : ∀ jump : Option Code, (Instr.endRound (w.heap.size + 1) jump).run P w3 = .ok (.bool jump.isNone) (w3.putObj (w.heap.size + 1) (.loop (rec (if jump.isNone then .ready else .done) jump))) ∧
            Keeps (some (w.heap.size + 1)) w1 (w3.putObj (w.heap.size + 1) (.loop (rec (if jump.isNone then .ready else .done) jump))) ∧
            FixStep B w3 (w3.putObj (w.heap.size + 1) (.loop (rec (if jump.isNone then .ready else .done) jump))) ∧
            (w3.putObj (w.heap.size + 1) (.loop (rec (if jump.isNone then .ready else .done) jump))).heap[w.heap.size + 1]? = some (.loop (rec (if jump.isNone then .ready else .done) jump)) := fun jump => by
          have := run_endRound (P := P) jump hl3
          rw [hrec] at this ⊢
          exact ⟨this, (((st1.keep.weak.trans (.put rfl)).trans st3.keep.weak).trans (.put rfl)), .put hBl hl3 rfl _, World.putObj_heap_same (Array.getElem?_eq_some_iff.1 hl3).1⟩
        cases e with
        | normal =>
          obtain ⟨s3, ht, G3, L3, q1, q2, q3, q4⟩ := post3
          obtain ⟨f1, f2, f3, f4⟩ := fin none
          exact ⟨_, _, f1, f2, .inl ⟨rfl, G3, L3, q1, q2.fix f3, (q3.fix f3).comm, s3, ht2 s3 ht, h2.trans q1, q4, h6.trans f2, f4⟩⟩
        | ret =>
          obtain ⟨q, ht, G3, L3, q1, q2, q3, q4⟩ := post3
          obtain ⟨f1, f2, f3, f4⟩ := fin (some .ret)
          exact ⟨_, _, f1, f2, .inr ⟨rfl, q, .ret, G3, L3, ht3 q ht, .inl rfl, h2.trans q1, q2.fix f3, (q3.fix f3).left, q4, h6.trans f2, f4⟩⟩
        | exit id =>
          obtain ⟨K, hK, post3⟩ := post3
          obtain ⟨hid, rfl⟩ := look_map (f := fun id _ w3 => ∃ q, t = .inr q ∧ ∃ G3 L3, Gle G1 G3 ∧ Since B G0 w0 G3 w3 ∧ Owns G3 w3 B (L3 ++ Lx) ∧ Ix q (.exit id) G3 L3) hK
          obtain ⟨q, ht, G3, L3, q1, q2, q3, q4⟩ := post3
          obtain ⟨f1, f2, f3, f4⟩ := fin (some (.exit id))
          exact ⟨_, _, f1, f2, .inr ⟨rfl, q, .exit id, G3, L3, ht3 q ht, .inr ⟨id, hid, rfl⟩, h2.trans q1, q2.fix f3, (q3.fix f3).left, q4, h6.trans f2, f4⟩⟩
        | goto l => exact post3.elim
        | panic c => exact post3.elim
        | outgrown => exact post3.elim
      | ret => exact post.elim
      | exit id => obtain ⟨K, hK, _⟩ := post; cases hK
      | goto l => exact post.elim
      | panic c => exact post.elim
      | outgrown => exact post.elim
    · rintro e w2 ⟨⟨v, rfl⟩, hkeep, hJ⟩
      rcases hJ with ⟨G2, L', hle2, h3, h4, s', h1, h2, h5, h6, h7⟩ | ⟨q, c, G2, L', h1, hc, h2, h3, h4, h5, h6, h7⟩
      · rw [List.drop_length] at h1
        have hres : res = .inl s' := (Option.some.inj h1).symm
        refine ⟨none, w2.putObj (w.heap.size + 1) (.loop { rec .ready none with state := .exhausted }), ?_, hst w2 _ h6, ?_⟩
        · have := run_endLoop (P := P) h7 (by rw [hrec]; simp)
          rw [hrec] at this ⊢
          exact this
        · have hfix : FixStep B w2 (w2.putObj (w.heap.size + 1) (.loop { rec .ready none with state := .exhausted })) := .put hBl h7 rfl _
          show n (frOf a) _
          rw [hF]
          exact done s' G2 _ L' hres h2 (h3.fix hfix) (h4.fix hfix) h5
      · refine ⟨some c, w2.putObj (w.heap.size + 1) (.loop { rec .done (some c) with state := .exhausted }), ?_, ?_⟩
        · have := run_endLoop (P := P) h7 (by rw [hrec]; simp)
          rw [hrec] at this ⊢
          exact this
        · have hfix : FixStep B w2 (w2.putObj (w.heap.size + 1) (.loop { rec .done (some c) with state := .exhausted })) := .put hBl h7 rfl _
          exact stop q c G2 _ L' h1 hc h2 (h3.fix hfix) (h4.fix hfix) h5 _ wI (hst w2 _ h6) hF
end
end Go.Proofs.YtcaflmilfhhikaaGreatDoor
