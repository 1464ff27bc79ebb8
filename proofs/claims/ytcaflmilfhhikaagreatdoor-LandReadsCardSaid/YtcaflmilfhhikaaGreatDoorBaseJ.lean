/-
  Maps of the call's own; rows in another order; functions that are lent rows; panics.
-/
import Derived.Test.YtcaflmilfhhikaaGreatDoorBaseI
import Derived.WideLaws
namespace Go.Proofs.YtcaflmilfhhikaaGreatDoor
open Go.RowKit

/-! ### Rows in another order -/
theorem Owns.front {G : Gm} {w : World} {B : Nat} {L : List Row} {k : Nat} {c : Row} (h : Owns G w B L) (hk : L[k]? = some c) : Owns G w B (c :: L.eraseIdx k) :=
  ⟨fun d hd => by
    rcases List.mem_cons.1 hd with rfl | hd
    · exact h.each _ (List.mem_of_getElem? hk)
    · exact h.each d (mem_erase hd), .cons (fun d hd => pw_at apart_symm h.apart hk d hd) (pw_erase h.apart), h.base⟩

/-! ### Maps -/
def kvs {K V : Type} (kv : K → Value) (vv : V → Value) : List (K × V) → List Value
  | [] => []
  | (k, v) :: l => kv k :: vv v :: kvs kv vv l
theorem kvs_len {K V : Type} (kv : K → Value) (vv : V → Value) : ∀ (M : List (K × V)), (kvs kv vv M).length = M.length * 2
  | [] => rfl
  | (k, v) :: l => by simp only [kvs, List.length_cons, kvs_len kv vv l, Nat.add_mul]
def lookM {K V : Type} [BEq K] (M : List (K × V)) (k : K) : Option V := match M with
  | [] => none
  | (k', v) :: l => if k == k' then some v else lookM l k
def updM {K V : Type} [BEq K] (M : List (K × V)) (k : K) (v : V) : List (K × V) := match M with
  | [] => [(k, v)]
  | (k', v') :: l => if k == k' then (k, v) :: l else (k', v') :: updM l k v
def fndL {K V : Type} [BEq K] (a : K) : List (K × V) → Nat → Option (Nat × V)
  | [], _ => none
  | (k, v) :: l, i => if a == k then some (i, v) else fndL a l (i + 1)
structure KeyOk (P : Program) (kt : Nat) {K : Type} [BEq K] (kv : K → Value) : Prop where
  chk : ∀ em a w, (Instr.checkKey em 10000 kt (kv a)).run P w = .ok () w
  fnd : ∀ {V : Type} (vv : V → Value) (a : K) (M : List (K × V)) w, (Instr.findKey kt (kv a) (mkE (kvs kv vv M) 0)).run P w = .ok ((fndL a M 0).map fun q => (q.1, vv q.2)) w
  same : ∀ a, Instr.sameBits 10000 (kv a) (kv a) = true
theorem fndL_look {K V : Type} [BEq K] (a : K) : ∀ (M : List (K × V)) (i : Nat), (fndL a M i).map (·.2) = lookM M a
  | [], _ => rfl
  | (k, v) :: l, i => by
    simp only [fndL, lookM]
    split
    · rfl
    · exact fndL_look a l (i + 1)
def kvI (x : Int) : Value := .int .i64 x
def vvB (b : Bool) : Value := .bool b
section
variable {P : Program}
theorem run_chkInt {kt : Nat} {k : IntKind} (hT : P.underlying kt = some (.int k)) (em : Bool) (n : Nat) (a : Int) (w : World) : (Instr.checkKey em (n + 1) kt (kvI a)).run P w = .ok () w := by simp [Instr.checkKey, kvI, run_underlying hT]
theorem findNow_I {V : Type} (vv : V → Value) (kd : TypeDesc) (hk : ∃ k, kd = .int k) (a : Int) : ∀ (M : List (Int × V)) (i : Nat),
    Instr.findNow kd (kvI a) (mkE (kvs kvI vv M) i) i = some ((fndL a M i).map fun q => (q.1, vv q.2))
  | [], i => by simp [kvs, mkE, Instr.findNow, fndL]
  | (k, v) :: l, i => by
    obtain ⟨kk, rfl⟩ := hk
    have ih := findNow_I vv _ ⟨kk, rfl⟩ a l (i + 1)
    have hs : Instr.sameNow (.int kk) (kvI a) (kvI k) = some (a == k) := by simp [Instr.sameNow, kvI]
    simp only [kvs, mkE, Instr.findNow, hs, fndL]
    cases hb : (a == k) with
    | true => simp
    | false => simpa using ih
theorem keyOk_I {kt : Nat} {k : IntKind} (hT : P.underlying kt = some (.int k)) : KeyOk P kt kvI :=
  ⟨fun em a w => run_chkInt hT em 9999 a w, fun vv a M w => by
    simp [Instr.findKey, run_underlying hT, findNow_I vv (.int k) ⟨k, rfl⟩ a M 0], fun a => by simp [kvI, Instr.sameBits]⟩
end
theorem updM_found {K V : Type} [BEq K] [LawfulBEq K] (kv : K → Value) (vv : V → Value) (a : K) (v v0 : V) (j : Nat) : ∀ (M : List (K × V)) (i : Nat), fndL a M i = some (j, v0) →
    i ≤ j ∧ (mkE (kvs kv vv M) i)[j - i]?.map (·.key) = some (kv a) ∧ mkE (kvs kv vv (updM M a v)) i = (mkE (kvs kv vv M) i).modify (j - i) (fun e => { e with key := kv a, val := vv v }) ∧ (updM M a v).length = M.length
  | [], _, h => by simp [fndL] at h
  | (k, u) :: l, i, h => by
    simp only [fndL] at h
    cases hb : (a == k) with
    | true =>
      rw [hb] at h
      simp only [if_true, Option.some.injEq, Prod.mk.injEq] at h
      obtain ⟨rfl, _⟩ := h
      have := eq_of_beq hb
      subst this
      refine ⟨Nat.le_refl _, ?_, ?_, ?_⟩
      · simp [kvs, mkE]
      · simp [updM, kvs, mkE]
      · simp [updM]
    | false =>
      rw [hb] at h
      simp only [Bool.false_eq_true, if_false] at h
      obtain ⟨h1, h2, h3, h4⟩ := updM_found kv vv a v v0 j l (i + 1) h
      have e : j - i = (j - (i + 1)) + 1 := by omega
      refine ⟨by omega, ?_, ?_, ?_⟩
      · rw [e]; simpa [kvs, mkE] using h2
      · rw [e]; simp [updM, hb, kvs, mkE, h3]
      · simp [updM, hb, h4]
theorem updM_none {K V : Type} [BEq K] (kv : K → Value) (vv : V → Value) (a : K) (v : V) : ∀ (M : List (K × V)) (i : Nat), fndL a M i = none →
    mkE (kvs kv vv (updM M a v)) i = mkE (kvs kv vv M) i ++ [⟨kv a, vv v, i + M.length⟩] ∧ (updM M a v).length = M.length + 1
  | [], i, _ => by simp [updM, kvs, mkE]
  | (k, u) :: l, i, h => by
    simp only [fndL] at h
    cases hb : (a == k) with
    | true => rw [hb] at h; simp at h
    | false =>
      rw [hb] at h
      simp only [Bool.false_eq_true, if_false] at h
      obtain ⟨h3, h4⟩ := updM_none kv vv a v l (i + 1) h
      refine ⟨?_, by simp [updM, hb, h4]⟩
      simp [updM, hb, kvs, mkE, h3]
      omega
section
variable {κ : Ctx} {p : List PanicEntry → Fr → World → Prop} {P : Program} {N : Nat} {F : Fr} {w : World} {K : Fr → World → Prop} {d : Nat} {ty : TypeId} {pos : String} {af : Array Edge} {gd : Option (Nat × Bool)} {G G0 : Gm} {w0 : World} {B : Nat} {L : List Row}
theorem Owns.newMap (h : Owns G w B L) (hS : Sat G w) (e : Nat) : Owns G (w.alloc (.map #[] 0)) B (⟨e, 2, 0, .map (some w.heap.size), []⟩ :: L) := by
  have hk : Owns G (w.alloc (.map #[] 0)) B L := h.keep (fun b hb => Below.heap_alloc w _ b hb) (by simp) fun _ _ => rfl
  refine ⟨fun c hc => ?_, .cons (fun d hd g hg => ?_) h.apart, hk.base⟩
  · rcases List.mem_cons.1 hc with rfl | hc
    · refine ⟨⟨rfl, .inr (.inr ⟨w.heap.size, rfl, h.base, Go.heap_alloc_new w _⟩)⟩, fun g hg => ?_⟩
      simp [blkOf] at hg
      subst hg
      cases hG : G w.heap.size with
      | none => rfl
      | some o => exact absurd (hS.lt hG) (Nat.lt_irrefl _)
    · exact hk.each c hc
  · simp [blkOf] at hg
    subst hg
    intro hd'
    exact absurd ((h.each d hd).lt hd').2 (Nat.lt_irrefl _)
theorem OpP_makeMap {T e : Nat} (hS : Since B G0 w0 G w) (hO : Owns G w B L) (hd : Nat.blt d N = true)
    (h : ∀ r w', Since B G0 w0 G w' → Owns G w' B (⟨e, 2, 0, .map (some r), []⟩ :: L) → K (upd F d (.map (some r))) w') : OpP κ P N p ⟨some d, .makeMap T none, ty, pos, af, gd⟩ F w K := by
  refine OpP_eff (v := .map (some w.heap.size)) (w' := w.alloc (.map #[] 0)) ?_ hd (.alloc _ _) (h _ _ (hS.keep ((Below.refl _ w).alloc (Nat.le_refl _) _)) (hO.newMap hS.sat e))
  rfl
theorem own_map {k e n r : Nat} {cells : List Value} (hO : Owns G w B L) (hk : L[k]? = some ⟨e, 2, n, .map (some r), cells⟩) : w.heap[r]? = some (.map (mkE cells 0).toArray n) := by
  have hc := hO.each _ (List.mem_of_getElem? hk)
  rcases hc.1.2 with ⟨hv, _⟩ | ⟨_, _, _, _, hv, _⟩ | ⟨r', hv, _, hr⟩
  · cases hv
  · cases hv
  · cases hv; exact hr
variable {Q V : Type} [BEq Q] {kv : Q → Value} {vv : V → Value} {M : List (Q × V)} {T kt et k e n r : Nat} {X I Y : Operand} {a : Q} {od : Option Nat}
theorem rn_lookup2 {z : V} (hT : P.underlying T = some (.map kt et)) (hk : KeyOk P kt kv) (hz : (P.info? et).bind (·.zero) = some (vv z)) (hO : Owns G w B L) (hr : L[k]? = some ⟨e, 2, n, .map (some r), kvs kv vv M⟩) (hx : ev F X = .map (some r)) (hi : ev F I = kv a) :
    (execOp (ev F) ⟨od, .lookup T X I true, ty, pos, af, gd⟩).run P w = .ok (.value (.tuple #[vv ((lookM M a).getD z), .bool (lookM M a).isSome])) w := by
  have hm := own_map hO hr
  have hfind := hk.fnd vv a M w
  obtain ⟨i, hi1, hi2⟩ := Option.bind_eq_some_iff.1 hz
  rw [← fndL_look a M 0]
  simp only [execOp, hx, hi, Instr.lookup, Sem.run_bind, run_underlying hT, Result.andThen_ok, run_getObj_map _ _ _ _ hm, Sem.run_pure, hk.chk, hfind]
  cases hf : fndL a M 0 with
  | none => simp [zeroValue, typeInfo, hi1, hi2]
  | some q => simp
theorem OpP_mapUpdate [LawfulBEq Q] {v : V} (hT : P.underlying T = some (.map kt et)) (hk : KeyOk P kt kv) (hS : Since B G0 w0 G w) (hO : Owns G w B L) (hr : L[k]? = some ⟨e, 2, n, .map (some r), kvs kv vv M⟩) (hn : n = M.length) (hx : ev F X = .map (some r)) (hi : ev F I = kv a) (hy : ev F Y = vv v)
    (h : ∀ w', Since B G0 w0 G w' → Owns G w' B (L.set k ⟨e, 2, (updM M a v).length, .map (some r), kvs kv vv (updM M a v)⟩) → K F w') : OpP κ P N p ⟨none, .mapUpdate T X I Y, ty, pos, af, gd⟩ F w K := by
  subst hn
  have hm := own_map hO hr
  have hc := hO.each _ (List.mem_of_getElem? hr)
  have hlt : r < w.heap.size := (Array.getElem?_eq_some_iff.1 hm).1
  have hBr : B ≤ r := (hc.1.lt (g := r) rfl).1
  have hfind := hk.fnd vv a M w
  obtain ⟨w', hw'⟩ : ∃ w' : World, w' = { w with heap := w.heap.setIfInBounds r (.map (mkE (kvs kv vv (updM M a v)) 0).toArray (updM M a v).length) } := ⟨_, rfl⟩
  have hsize : w'.heap.size = w.heap.size := by rw [hw']; simp
  have hoth : ∀ b, b ≠ r → w'.heap[b]? = w.heap[b]? := fun b hb => by rw [hw']; simp [Array.getElem?_setIfInBounds_ne (Ne.symm hb)]
  have hdiff : ∀ b, b < w.heap.size → blkOf (Value.map (some r)) ≠ some b → w'.heap[b]? = w.heap[b]? := fun b _ hne => hoth b (fun e => hne (by subst e; rfl))
  have hself : w'.heap[r]? = some (.map (mkE (kvs kv vv (updM M a v)) 0).toArray (updM M a v).length) := by rw [hw']; simp [hlt]
  have hsat : Sat G w' := sat_write hS.sat hc hdiff
  have hbel : Below B w w' := ⟨by rw [hw'], by rw [hw'], by rw [hw'], Nat.le_of_eq hsize.symm, fun b hb => hoth b (by omega)⟩
  refine OpP_unit (w' := w') ?_ (keeps_row hc (Nat.le_of_eq hsize.symm) hdiff) (h w' (hS.write hsat hbel) (hO.write (c' := ⟨e, 2, _, _, _⟩) hr (Nat.le_of_eq hsize.symm) hdiff ⟨⟨kvs_len kv vv _, .inr (.inr ⟨r, rfl, hBr, hself⟩)⟩, hc.2⟩ fun g hg => .inl hg))
  simp only [execOp, hx, hi, hy, Instr.mapUpdate, Sem.run_bind, run_underlying hT, Result.andThen_ok, run_getObj_map _ _ _ _ hm, hk.chk, hfind]
  cases hf : fndL a M 0 with
  | none =>
    obtain ⟨q1, q2⟩ := updM_none kv vv a v M 0 hf
    have hso : ∀ o, (setObj r o).run P w = .ok () { w with heap := w.heap.setIfInBounds r o } := fun o => by simp [setObj, Sem.run, hm]
    simp [hso, hw', q1, q2]
  | some q =>
    obtain ⟨j, v0⟩ := q
    obtain ⟨q0, q1, q2, q3⟩ := updM_found kv vv a v v0 j M 0 hf
    have hso : ∀ o, (setObj r o).run P w = .ok () { w with heap := w.heap.setIfInBounds r o } := fun o => by simp [setObj, Sem.run, hm]
    rw [Nat.sub_zero] at q1 q2
    have hkey : Option.getD (Option.map (fun x => x.key) (mkE (kvs kv vv M) 0).toArray[j]?) (kv a) = kv a := by
      rw [show (mkE (kvs kv vv M) 0).toArray[j]? = (mkE (kvs kv vv M) 0)[j]? by simp, q1]; rfl
    simp only [Option.map_some, hkey, Instr.keyThatStays, hk.same, if_true, Sem.run_bind, Sem.run_pure, Result.andThen_ok, hso, hw', q2, q3]
    simp
end
/-! ### Scopes; functions that are lent rows; panics -/
section
variable {κ : Ctx} {P : Program} {N : Nat} {n r : Fr → World → Prop} {x : List (Nat × (Fr → World → Prop))} {p : List PanicEntry → Fr → World → Prop} {F : Fr} {w : World}
theorem WC_scope {c : Code} (h : WC κ P N c ⟨n, r, x, p⟩ F w) (hro : κ.ro = none := by rfl) : WC κ P N (.scope c) ⟨n, r, x, p⟩ F w := by
  intro a wI h1 h3
  have h0 := h a wI h1 h3
  rw [hro] at h0 ⊢
  refine wpIn_wide.2 (wp_scope_straight (wp_mono (wpIn_wide.1 h0) ?_))
  rintro e a' w' ⟨p1, p3⟩
  cases e <;> first | exact p3.elim | exact ⟨p1, p3⟩
end
theorem Shut.fix {B B' : Nat} {w w' : World} (h : Shut B w w') (hB : B' ≤ B) : FixStep B' w w' :=
  ⟨h.os, h.tape, h.output, h.size, fun k hk => h.low k (Nat.lt_of_lt_of_le hk hB), h.block⟩
section
variable {κ : Ctx} {P : Program} {N : Nat} {F : Fr} {w : World} {K : Fr → World → Prop} {d : Nat} {ty : TypeId} {pos : String} {af : Array Edge} {gd : Option (Nat × Bool)} {p : List PanicEntry → Fr → World → Prop}
/-- A function that is lent rows: what it promises (S) must not mind that blocks of deferred calls are shut. -/
theorem enterO {f : FuncId} {fn : Func} {c : Code} {al : List Value} {rs : List ResultVar} {S : Value → World → Prop} (hf : P.funcs[f]? = some fn) (hb : fn.body = some c) (hr : fn.results = rs.toArray) (hn : fn.ntmps = N) (hN : Nat.ble al.length N = true)
    (hS : ∀ v w' w'', S v w' → Shut w.heap.size w' w'' → S v w'')
    (h : WC ⟨none, none, w.heap.size, false, []⟩ P N c ⟨fun F w' => ∃ vs, ResOk P F w' rs vs ∧ S (resOf vs) w', fun F w' => ∃ vs, ResOk P F w' rs vs ∧ S (resOf vs) w', [], fun _ _ _ => False⟩ (nthD al) w) :
    Calls P f al.toArray w fun e w' => ∃ v, e = .returned v ∧ Keeps none w w' ∧ S v w' := by
  have hle := Nat.le_of_ble_eq_true hN
  have h0 : CallsIn Fence.wide 0 P f al.toArray w fun e w' => ∃ v, e = .returned v ∧ Keeps none w w' ∧ S v w' := by
    refine callsIn_of_wp_marks hf hb trivial (wpIn_mono (h _ w ⟨?_, Calm.nil _ _, Keeps.refl _, Nat.le_refl _⟩ ?_) ?_)
    · simp [hn]; omega
    · exact frOf_enter al _ _
    · have key : ∀ (a' : Act) (w' : World), St ⟨none, none, w.heap.size, false, []⟩ N w a' w' → (∃ vs, ResOk P (frOf a') w' rs vs ∧ S (resOf vs) w') → LeavesInM Fence.wide 0 P fn a'.tmps (fun e w' => ∃ v, e = .returned v ∧ Keeps none w w' ∧ S v w') a'.defers .returning w' := by
        rintro a' w' p1 ⟨vs, h1, h2⟩
        refine leavesM_calm rfl _ _ p1.calm fun w'' hw => ⟨_, run_resG hr (h1.shut hw), _, rfl, ⟨Nat.le_trans p1.keep.size (Nat.le_of_eq hw.size.symm), fun D o hD hDo ho => ?_⟩, hS _ _ _ h2 hw⟩
        have hlt := (Array.getElem?_eq_some_iff.1 hDo).1
        exact (hw.low D hlt).trans (p1.keep.same D o hD hDo ho)
      rintro e a' w' ⟨p1, p3⟩
      cases e with
      | normal => exact key _ _ p1 p3
      | ret => exact key _ _ p1 p3
      | exit k => obtain ⟨K, hK, _⟩ := p3; cases hK
      | goto l => exact p3.elim
      | panic c => exact p3.elim
      | outgrown => exact p3.elim
  exact callsIn_wide.1 h0
/-- What a function that is lent rows hands back. -/
def RetO (B : Nat) (G0 : Gm) (w0 : World) (Gc : Gm) (wc : World) (Φ : Gm → List Row → Value → Prop) : Ending → World → Prop := fun e w' => ∃ v, e = .returned v ∧ Keeps none wc w' ∧ ∃ G' L', Gle Gc G' ∧ Since B G0 w0 G' w' ∧ Owns G' w' B L' ∧ Φ G' L' v
theorem enterL {f : FuncId} {fn : Func} {c : Code} {al : List Value} {rs : List ResultVar} {B : Nat} {G0 : Gm} {w0 : World} {Gc : Gm} {Φ : Gm → List Row → Value → Prop} (hB : B ≤ w.heap.size) (hf : P.funcs[f]? = some fn) (hb : fn.body = some c) (hr : fn.results = rs.toArray) (hn : fn.ntmps = N) (hN : Nat.ble al.length N = true)
    (h : WC ⟨none, none, w.heap.size, false, []⟩ P N c ⟨fun F w' => ∃ vs, ResOk P F w' rs vs ∧ ∃ G' L', Gle Gc G' ∧ Since B G0 w0 G' w' ∧ Owns G' w' B L' ∧ Φ G' L' (resOf vs), fun F w' => ∃ vs, ResOk P F w' rs vs ∧ ∃ G' L', Gle Gc G' ∧ Since B G0 w0 G' w' ∧ Owns G' w' B L' ∧ Φ G' L' (resOf vs), [], fun _ _ _ => False⟩ (nthD al) w) :
    Calls P f al.toArray w (RetO B G0 w0 Gc w Φ) :=
  enterO (S := fun v w' => ∃ G' L', Gle Gc G' ∧ Since B G0 w0 G' w' ∧ Owns G' w' B L' ∧ Φ G' L' v) hf hb hr hn hN (fun _ _ _ ⟨G', L', h1, h2, h3, h4⟩ hs => ⟨G', L', h1, h2.fix (hs.fix hB), h3.fix (hs.fix hB), h4⟩) h
theorem OpP_lent {k : Nat} {X : Operand} {args : Array Operand} {ats : Array TypeId} {al fi ca : List Value} {B : Nat} {G0 : Gm} {w0 : World} {Gc : Gm} {Φ : Gm → List Row → Value → Prop} (hk : callB P k = true) (hc : Calls P k (fi ++ al ++ ca).toArray w (RetO B G0 w0 Gc w Φ)) (hx : ev F X = .func (.func k) fi.toArray ca.toArray) (ha : args.toList.map (ev F) = al) (hd : Nat.blt d N = true)
    (h : ∀ v G' w' L', Gle Gc G' → Since B G0 w0 G' w' → Owns G' w' B L' → Φ G' L' v → K (upd F d v) w') : OpP κ P N p ⟨some d, .call { callee := .value X, args := args, argTypes := ats }, ty, pos, af, gd⟩ F w K :=
  OpP_enter (rn_callV hk hx ha) hd hc fun _ _ ⟨v, h1, h2, G', L', q1, q2, q3, q4⟩ => ⟨v, h1, h2.weak, h v G' _ L' q1 q2 q3 q4⟩
/-- A call that may panic. -/
theorem OpP_enterP {op : Op} {f : FuncId} {args : Array Value} {R : Ending → World → Prop} {w' : World} (hrun : (execOp (ev F) ⟨some d, op, ty, pos, af, gd⟩).run P w = .ok (.enter f args) w') (hd : Nat.blt d N = true) (hc : Calls P f args w' R)
    (h : ∀ e w'', R e w'' → (∃ v, e = .returned v ∧ Keeps κ.ex w w'' ∧ K (upd F d v) w'') ∨ (∃ c, e = .panicked c ∧ Keeps κ.ex w w'' ∧ p c F w'')) : OpP κ P N p ⟨some d, op, ty, pos, af, gd⟩ F w K := by
  refine ⟨notDefer (fun _ h => by cases h) hrun, fun a wI h1 h3 => ?_⟩
  unfold Oper.wp
  rw [eval_frOf, h3, hrun]
  refine hc.mono fun e w'' hR => ?_
  rcases h e w'' hR with ⟨v, rfl, hk, hW⟩ | ⟨c, rfl, hk, hp⟩
  · refine ⟨h1.put hk _ _, ?_⟩
    rw [frOf_put a d v (h1.lt hd), h3]; exact hW
  · exact ⟨⟨h1.size, h1.calm.keep hk, h1.keep.trans hk, Nat.le_trans h1.base hk.size⟩, by rw [h3]; exact hp⟩
/-- 'panic(v)'. -/
theorem OpP_panic {od : Option Nat} {X : Operand} {v : Value} (hx : ev F X = v) (hv : ∃ t u, v = .iface t u) (h : p [{ v, recovered := false }] F w) : OpP κ P N p ⟨od, .panic X, ty, pos, af, gd⟩ F w K := by
  refine ⟨by simp, fun a wI h1 h3 => ?_⟩
  obtain ⟨t, u, rfl⟩ := hv
  have hr : (execOp (ev F) ⟨od, .panic X, ty, pos, af, gd⟩).run P w = .halt (.panic (.iface t u)) w := by
    simp only [execOp, hx, Instr.panic]
    simp
  unfold Oper.wp
  rw [eval_frOf, h3, hr]
  exact ⟨h1, by rw [h3]; exact h⟩
end
end Go.Proofs.YtcaflmilfhhikaaGreatDoor
