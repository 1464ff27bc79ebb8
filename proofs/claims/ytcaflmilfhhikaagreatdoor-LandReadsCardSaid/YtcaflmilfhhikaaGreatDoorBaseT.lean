/-
  Functions that give up with a text; maps from texts to functions; texts, parts of them, and their bytes.
-/
import Derived.Test.YtcaflmilfhhikaaGreatDoorBaseR
import Derived.Test.YtcaflmilfhhikaaGreatDoorBaseL
import Derived.Laws.BytesArg
import Derived.Laws.Strings3
namespace Go.Proofs.YtcaflmilfhhikaaGreatDoor
open Go.RowKit
set_option linter.unusedVariables false

section
variable {κ : Ctx} {P : Program} {N N' : Nat} {F : Fr} {w : World} {K : Fr → World → Prop} {d : Nat} {od : Option Nat} {ty : TypeId} {pos : String} {af : Array Edge} {gd : Option (Nat × Bool)} {p : List PanicEntry → Fr → World → Prop}
/-! ### Calls that are walked into, and may panic -/
theorem enterNP {f : FuncId} {fn : Func} {c : Code} {al : List Value} {S : Value → World → Prop} {Z : List PanicEntry → World → Prop} (hf : P.funcs[f]? = some fn) (hb : fn.body = some c) (hn : fn.ntmps = N) (hN : Nat.ble al.length N = true)
    {T : Fr → World → Prop} (hT : ∀ (tmps : Array Value) w', T (fun t => tmps.getD t undef) w' → ∃ v, (results fn tmps).run P w' = .ok v w' ∧ S v w')
    (h : WC ⟨none, none, w.heap.size, true, []⟩ P N c ⟨T, T, [], fun ch _ w' => Z ch w'⟩ (nthD al) w) : Calls P f al.toArray w fun e w' => (∃ v, e = .returned v ∧ Keeps none w w' ∧ S v w') ∨ (∃ ch, e = .panicked ch ∧ Keeps none w w' ∧ Z ch w') := by
  have hle := Nat.le_of_ble_eq_true hN
  have h0 : CallsIn Fence.wide 0 P f al.toArray w fun e w' => (∃ v, e = .returned v ∧ Keeps none w w' ∧ S v w') ∨ (∃ ch, e = .panicked ch ∧ Keeps none w w' ∧ Z ch w') := by
    refine callsIn_of_wp_marks hf hb trivial (wpIn_mono (h _ w ⟨?_, Calm.nil _ _, Keeps.refl _, Nat.le_refl _⟩ ?_) ?_)
    · simp [hn]; omega
    · exact frOf_enter al _ _
    · rintro e a' w' ⟨p1, p3⟩
      have hds := p1.calm.none rfl
      have key : ∀ {T' : Fr → World → Prop}, T' = T → T' (frOf a') w' → LeavesInM Fence.wide 0 P fn a'.tmps (fun e w' => (∃ v, e = .returned v ∧ Keeps none w w' ∧ S v w') ∨ (∃ ch, e = .panicked ch ∧ Keeps none w w' ∧ Z ch w')) a'.defers .returning w' := by
        rintro _ rfl hh
        obtain ⟨v, h1, h2⟩ := hT a'.tmps w' hh
        rw [hds]
        exact ⟨v, h1, .inl ⟨v, rfl, p1.keep, h2⟩⟩
      cases e with
      | normal => exact key rfl p3
      | ret => exact key rfl p3
      | exit k => obtain ⟨K, hK, _⟩ := p3; cases hK
      | goto l => exact p3.elim
      | panic c =>
        show LeavesInM _ _ _ _ _ _ a'.defers _ _
        rw [hds]
        exact .inr ⟨_, rfl, p1.keep, p3⟩
      | outgrown => exact p3.elim
  exact callsIn_wide.1 h0
section
variable {f : FuncId} {fn : Func} {c : Code} {args : Array Operand} {ats : Array TypeId} {X : Operand} {fi al ca : List Value}
theorem OpP_inCP (hk : callB P f = true) (hx : ev F X = .func (.func f) fi.toArray ca.toArray) (ha : args.toList.map (ev F) = al) (hd : Nat.blt d N = true)
    (hc : Calls P f (fi ++ al ++ ca).toArray w fun e w' => (∃ v, e = .returned v ∧ Keeps none w w' ∧ K (upd F d v) w') ∨ (∃ ch, e = .panicked ch ∧ Keeps none w w' ∧ p ch F w')) : OpP κ P N p ⟨some d, .call { callee := .value X, args := args, argTypes := ats }, ty, pos, af, gd⟩ F w K :=
  OpP_enterP (rn_callV hk hx ha) hd hc fun _ _ h => h.imp (fun ⟨v, h1, h2, h3⟩ => ⟨v, h1, h2.weak, h3⟩) fun ⟨v, h1, h2, h3⟩ => ⟨v, h1, h2.weak, h3⟩
theorem OpP_inCP0 (hk : callB P f = true) (hf : P.funcs[f]? = some fn) (hb : fn.body = some c) (hr : fn.results = #[]) (hn : fn.ntmps = N') (hN : Nat.ble (fi ++ al ++ ca).length N' = true) (hx : ev F X = .func (.func f) fi.toArray ca.toArray) (ha : args.toList.map (ev F) = al) (hd : Nat.blt d N = true)
    (h : WC ⟨none, none, w.heap.size, true, []⟩ P N' c ⟨fun _ w' => K (upd F d (.tuple #[])) w', fun _ w' => K (upd F d (.tuple #[])) w', [], fun ch _ w' => p ch F w'⟩ (nthD (fi ++ al ++ ca)) w) : OpP κ P N p ⟨some d, .call { callee := .value X, args := args, argTypes := ats }, ty, pos, af, gd⟩ F w K :=
  OpP_inCP hk hx ha hd (enterNP (S := fun v w' => K (upd F d v) w') (Z := fun ch w' => p ch F w') hf hb hn hN (fun tmps w' h => ⟨.tuple #[], by simp [results, hr], h⟩) h)
end
/-! ### What a function hands back that gives memory, or panics -/
def RetX (G0 : Gm) (w0 : World) (Φ : Gm → Value → Prop) (Z : Value → Prop) : Ending → World → Prop := fun e w' =>
  (∃ v G', e = .returned v ∧ Grow G0 w0 G' w' ∧ Φ G' v) ∨ (∃ v, e = .panicked [{ v := v, recovered := false }] ∧ Z v ∧ Below w0.heap.size w0 w')
theorem shutX (G0 : Gm) (w0 : World) (Φ : Gm → Value → Prop) (Z : Value → Prop) : ShutOk w0.heap.size (RetX G0 w0 Φ Z) :=
  ⟨fun e w' w'' h hs => h.imp (fun h => (shutG G0 w0 Φ).out e w' w'' h hs) fun ⟨v, h1, h2, h3⟩ => ⟨v, h1, h2, ((shutE w0 (.returned v)).out (.returned v) w' w'' ⟨rfl, h3⟩ hs).2⟩⟩
theorem enterGX {f : FuncId} {fn : Func} {c : Code} {al : List Value} {R : Ending → World → Prop} {N : Nat} (hR : ShutOk w.heap.size R) (rs : List ResultVar) (hf : P.funcs[f]? = some fn) (hb : fn.body = some c) (hr : fn.results = rs.toArray) (hn : fn.ntmps = N) (hN : Nat.ble al.length N = true)
    (h : WC ⟨none, none, w.heap.size, false, []⟩ P N c ⟨fun F w' => ∃ vs, ResOk P F w' rs vs ∧ R (.returned (resOf vs)) w', fun F w' => ∃ vs, ResOk P F w' rs vs ∧ R (.returned (resOf vs)) w', [], fun ch _ w' => R (.panicked ch) w'⟩ (nthD al) w) : Calls P f al.toArray w R :=
  enterRP _ _ hf hb hn hN (fun _ _ _ ⟨_, h1, h2⟩ hs => ⟨_, run_resG hr (h1.shut hs), hR.out _ _ _ h2 hs⟩) (fun _ _ _ _ h1 h2 => hR.out _ _ _ h1 h2) h
end
/-! ### Maps from texts to functions -/
def kvS (s : List UInt8) : Value := .string ⟨s.toArray⟩
def vvF (k : Nat) : Value := .func (.func k) #[] #[]
section
variable {P : Program}
theorem kvS_beq (a b : List UInt8) : ((⟨a.toArray⟩ : ByteArray) == ⟨b.toArray⟩) = (a == b) := by
  show (a.toArray == b.toArray) = (a == b)
  simp
theorem findNow_S {V : Type} (vv : V → Value) (a : List UInt8) : ∀ (M : List (List UInt8 × V)) (i : Nat),
    Instr.findNow .string (kvS a) (mkE (kvs kvS vv M) i) i = some ((fndL a M i).map fun q => (q.1, vv q.2))
  | [], i => by simp [kvs, mkE, Instr.findNow, fndL]
  | (k, v) :: l, i => by
    have ih := findNow_S vv a l (i + 1)
    have hs : Instr.sameNow .string (kvS a) (kvS k) = some (a == k) := by simp [Instr.sameNow, kvS, kvS_beq]
    simp only [kvs, mkE, Instr.findNow, hs, fndL]
    cases hb : (a == k) with
    | true => simp
    | false => simpa using ih
theorem run_chkStr {kt : Nat} (hT : P.underlying kt = some .string) (em : Bool) (n : Nat) (a : List UInt8) (w : World) : (Instr.checkKey em (n + 1) kt (kvS a)).run P w = .ok () w := by simp [Instr.checkKey, kvS, run_underlying hT]
theorem keyOk_S {kt : Nat} (hT : P.underlying kt = some .string) : KeyOk P kt kvS :=
  ⟨fun em a w => run_chkStr hT em 9999 a w, fun vv a M w => by
    simp only [Instr.findKey, Sem.run_bind, run_underlying hT, Result.andThen_ok, findNow_S vv a M 0, Sem.run_pure], fun a => by simp [kvS, Instr.sameBits, kvS_beq]⟩
end
section
variable {κ : Ctx} {p : List PanicEntry → Fr → World → Prop} {P : Program} {N : Nat} {F : Fr} {w : World} {K : Fr → World → Prop} {d od : Option Nat} {ty : TypeId} {pos : String} {af : Array Edge} {gd : Option (Nat × Bool)} {G G0 : Gm} {w0 : World} {B : Nat} {L : List Row}
theorem rn_lookupF {Q V : Type} [BEq Q] {kv : Q → Value} {vv : V → Value} {M : List (Q × V)} {T kt et k e n r : Nat} {X I : Operand} {a : Q} {v : V} (hT : P.underlying T = some (.map kt et)) (hk : KeyOk P kt kv) (hO : Owns G w B L) (hr : L[k]? = some ⟨e, 2, n, .map (some r), kvs kv vv M⟩) (hx : ev F X = .map (some r)) (hi : ev F I = kv a) (hv : lookM M a = some v) :
    (execOp (ev F) ⟨od, .lookup T X I false, ty, pos, af, gd⟩).run P w = .ok (.value (vv v)) w := by
  have hm := own_map hO hr
  have hfind := hk.fnd vv a M w
  rw [← fndL_look a M 0] at hv
  obtain ⟨q, hq1, hq2⟩ := Option.map_eq_some_iff.1 hv
  simp only [execOp, hx, hi, Instr.lookup, Sem.run_bind, run_underlying hT, Result.andThen_ok, run_getObj_map _ _ _ _ hm, Sem.run_pure, hk.chk, hfind, hq1, ← hq2]
  simp
theorem OpP_insert {Q V : Type} [BEq Q] [LawfulBEq Q] {kv : Q → Value} {vv : V → Value} {M : List (Q × V)} {T kt et k e n r : Nat} {X I Y : Operand} {a : Q} {v : V} (hT : P.underlying T = some (.map kt et)) (hk : KeyOk P kt kv) (hS : Since B G0 w0 G w) (hO : Owns G w B L) (hr : L[k]? = some ⟨e, 2, n, .map (some r), kvs kv vv M⟩) (hn : n = M.length) (hx : ev F X = .map (some r)) (hi : ev F I = kv a) (hy : ev F Y = vv v)
    (h : ∀ w', Since B G0 w0 G w' → Owns G w' B (L.set k ⟨e, 2, (updM M a v).length, .map (some r), kvs kv vv (updM M a v)⟩) → K F w') : OpP κ P N p ⟨none, .insert T X I Y, ty, pos, af, gd⟩ F w K := by
  subst hn
  have hm := own_map hO hr
  have hc := hO.each _ (List.mem_of_getElem? hr)
  have hlt : r < w.heap.size := (Array.getElem?_eq_some_iff.1 hm).1
  have hBr : B ≤ r := (hc.1.lt (g := r) rfl).1
  have hfind := hk.fnd vv a M w
  obtain ⟨w', hw'⟩ : ∃ w' : World, w' = { w with heap := w.heap.setIfInBounds r (.map (mkE (kvs kv vv (updM M a v)) 0).toArray (updM M a v).length) } := ⟨_, rfl⟩
  have hsize : w'.heap.size = w.heap.size := by rw [hw']; simp
  have hoth : ∀ b, b ≠ r → w'.heap[b]? = w.heap[b]? := fun b hb => by rw [hw']; simp [Array.getElem?_setIfInBounds_ne (Ne.symm hb)]
  have hdiff : ∀ b, b < w.heap.size → blkOf (Value.map (some r)) ≠ some b → w'.heap[b]? = w.heap[b]? := fun b _ hne => hoth b (fun e => hne (by subst e; rfl))
  have hself : w'.heap[r]? = some (.map (mkE (kvs kv vv (updM M a v)) 0).toArray (updM M a v).length) := by rw [hw']; simp [hlt]
  have hsat : Sat G w' := sat_write hS.sat hc hdiff
  have hbel : Below B w w' := ⟨by rw [hw'], by rw [hw'], by rw [hw'], Nat.le_of_eq hsize.symm, fun b hb => hoth b (by omega)⟩
  refine OpP_unit (w' := w') ?_ (keeps_row hc (Nat.le_of_eq hsize.symm) hdiff) (h w' (hS.write hsat hbel) (hO.write (c' := ⟨e, 2, _, _, _⟩) hr (Nat.le_of_eq hsize.symm) hdiff ⟨⟨kvs_len kv vv _, .inr (.inr ⟨r, rfl, hBr, hself⟩)⟩, hc.2⟩ fun g hg => .inl hg))
  simp only [execOp, hx, hi, hy, Instr.mapUpdate, Sem.run_bind, run_underlying hT, Result.andThen_ok, run_getObj_map _ _ _ _ hm, hk.chk, hfind]
  cases hf : fndL a M 0 with
  | none =>
    obtain ⟨q1, q2⟩ := updM_none kv vv a v M 0 hf
    have hso : ∀ o, (setObj r o).run P w = .ok () { w with heap := w.heap.setIfInBounds r o } := fun o => by simp [setObj, Sem.run, hm]
    simp [hso, hw', q1, q2]
  | some q =>
    obtain ⟨j, v0⟩ := q
    obtain ⟨q0, q1, q2, q3⟩ := updM_found kv vv a v v0 j M 0 hf
    have hso : ∀ o, (setObj r o).run P w = .ok () { w with heap := w.heap.setIfInBounds r o } := fun o => by simp [setObj, Sem.run, hm]
    rw [Nat.sub_zero] at q1 q2
    have hkey : Option.getD (Option.map (fun x => x.key) (mkE (kvs kv vv M) 0).toArray[j]?) (kv a) = kv a := by
      rw [show (mkE (kvs kv vv M) 0).toArray[j]? = (mkE (kvs kv vv M) 0)[j]? by simp, q1]; rfl
    simp only [Option.map_some, hkey, Instr.keyThatStays, hk.same, if_true, Sem.run_bind, Sem.run_pure, Result.andThen_ok, hso, hw', q2, q3]
    simp
/-- An error, or none. -/
def ErrV (b : Bool) (u : Value) : Prop := if b = true then u = .nilIface else ∃ t p, u = .iface t p
theorem rn_eqlE {b : Bool} {u : Value} {X : Operand} {t t' : Nat} (he : ErrV b u) (hx : ev F X = u) (hu : ∃ ms, P.underlying t = some (.interface ms)) :
    (execOp (ev F) ⟨od, .binOp .eql t X (.const .nilIface) t', ty, pos, af, gd⟩).run P w = .ok (.value (.bool b)) w := by
  unfold ErrV at he
  have hn : ev F (.const .nilIface) = .nilIface := rfl
  obtain ⟨ms, hu⟩ := hu
  cases b with
  | true =>
    rw [if_pos rfl] at he
    subst he
    have h : ∀ d : Nat, (Op.equalIn (d + 2) t .nilIface .nilIface).run P w = .ok true w := fun d => by simp [Op.equalIn, run_underlying hu]
    simp only [execOp, hx, hn, eqGuard, binOp]
    simp [Op.equal, Op.maxDepth, h 9998]
  | false =>
    rw [if_neg (by simp)] at he
    obtain ⟨t1, p1, rfl⟩ := he
    have h : ∀ d : Nat, (Op.equalIn (d + 2) t (.iface t1 p1) .nilIface).run P w = .ok false w := fun d => by simp [Op.equalIn, run_underlying hu]
    simp only [execOp, hx, hn, eqGuard, binOp]
    simp [Op.equal, Op.maxDepth, h 9998]
/-! ### A struct of two numbers and a struct of two numbers, compared -/
def isIntB (P : Program) (t : Nat) : Bool := match P.underlying t with | some (.int _) => true | _ => false
def ints22B (P : Program) (t : Nat) : Bool :=
  (match P.underlying t with
    | some (.struct fs) => (match fs.toList with
      | [f, g, h] => !(f.name == "_") && decide (f.offset = 0) && isIntB P f.type && !(g.name == "_") && decide (g.offset = 1) && isIntB P g.type && !(h.name == "_") && decide (h.offset = 2) && intsB P h.type && decide ((P.fieldsOf h.type).toList.length = 2) && decide ((P.info? h.type).map (·.size) = some 2)
      | _ => false)
    | _ => false) && !P.stoodInHeld t && !P.eqGuardType P.depth t
theorem isIntB_spec {t : Nat} (h : isIntB P t = true) : ∃ k, P.underlying t = some (.int k) := by
  unfold isIntB at h
  split at h
  · exact ⟨_, ‹_›⟩
  · cases h
theorem eqFields_cons {dd : Nat} {xs ys : Array Value} {f : Field} {fs : List Field} {x y : Value} {b b' : Bool} {w : World} (hn : ¬ f.name = "_") (px : (part f.type xs f.offset).run P w = .ok x w) (py : (part f.type ys f.offset).run P w = .ok y w)
    (e : (Op.equalIn dd f.type x y).run P w = .ok b w) (ih : (Op.eqFields dd xs ys fs).run P w = .ok b' w) : (Op.eqFields dd xs ys (f :: fs)).run P w = .ok (b && b') w := by
  rw [Op.eqFields]
  simp only [hn, ne_eq, not_false_eq_true, if_true, Sem.run_bind, px, py, Result.andThen_ok, e]
  cases b with
  | true => simpa using ih
  | false => simp
theorem run_eq22 {t : Nat} (hT : ints22B P t = true) (a b c d a' b' c' d' : Int) (w : World) : (Op.equalIn 10000 t (.agg (ivals .i64 [a, b, c, d]).toArray) (.agg (ivals .i64 [a', b', c', d']).toArray)).run P w = .ok ([a, b, c, d] == [a', b', c', d']) w ∧ P.eqGuardType P.depth t = false := by
  unfold ints22B at hT
  simp only [Bool.and_eq_true, Bool.not_eq_true'] at hT
  obtain ⟨⟨h1, h2⟩, h3⟩ := hT
  refine ⟨?_, h3⟩
  split at h1
  · rename_i fs hu
    have hf : P.fieldsOf t = fs := by simp [Program.fieldsOf, hu]
    split at h1
    · rename_i f g h hl
      simp only [Bool.and_eq_true, Bool.not_eq_true', decide_eq_true_eq] at h1
      obtain ⟨⟨⟨⟨⟨⟨⟨⟨⟨⟨q1, q2⟩, q3⟩, q4⟩, q5⟩, q6⟩, q7⟩, q8⟩, q9⟩, q10⟩, q11⟩ := h1
      obtain ⟨kf, uf⟩ := isIntB_spec q3
      obtain ⟨kg, ug⟩ := isIntB_spec q6
      obtain ⟨s1, s2, s3, s4⟩ := intsB_spec q9
      have n1 : ¬ f.name = "_" := by simpa using q1
      have n2 : ¬ g.name = "_" := by simpa using q4
      have n3 : ¬ h.name = "_" := by simpa using q7
      have pf : ∀ x y z u : Int, (part f.type (ivals .i64 [x, y, z, u]).toArray f.offset).run P w = .ok (.int .i64 x) w := fun x y z u => by simp [part, isAgg, run_underlying uf, q2, ivals]
      have pg : ∀ x y z u : Int, (part g.type (ivals .i64 [x, y, z, u]).toArray g.offset).run P w = .ok (.int .i64 y) w := fun x y z u => by simp [part, isAgg, run_underlying ug, q5, ivals]
      obtain ⟨ih, hi, hsz⟩ := Option.map_eq_some_iff.1 q11
      have ph : ∀ x y z u : Int, (part h.type (ivals .i64 [x, y, z, u]).toArray h.offset).run P w = .ok (.agg (ivals .i64 [z, u]).toArray) w := fun x y z u => by
        simp [part, isAgg, run_underlying s1, q8, ivals, sizeOf, typeInfo, hi, hsz]
      have e1 : (Op.equalIn 9999 f.type (.int .i64 a) (.int .i64 a')).run P w = .ok (a == a') w := run_equalIn_int w 9998 f.type .i64 kf _ _ uf
      have e2 : (Op.equalIn 9999 g.type (.int .i64 b) (.int .i64 b')).run P w = .ok (b == b') w := run_equalIn_int w 9998 g.type .i64 kg _ _ ug
      have e3 : (Op.equalIn 9999 h.type (.agg (ivals .i64 [c, d]).toArray) (.agg (ivals .i64 [c', d']).toArray)).run P w = .ok ([c, d] == [c', d']) w :=
        (run_equalIn_agg w 9998 h.type _ _ s1 s3).trans (run_eqInts (P := P) (w := w) (k := .i64) 9997 [c, d] [c', d'] _ 0 s2 (by simp [q10]) (by simp [q10]))
      refine (run_equalIn_agg w 9999 t _ _ (by rw [hu, hf]) h2).trans ?_
      rw [hf, hl]
      have h0 : (Op.eqFields 9999 (ivals .i64 [a, b, c, d]).toArray (ivals .i64 [a', b', c', d']).toArray []).run P w = .ok true w := by simp [Op.eqFields]
      refine (eqFields_cons n1 (pf _ _ _ _) (pf _ _ _ _) e1 (eqFields_cons n2 (pg _ _ _ _) (pg _ _ _ _) e2 (eqFields_cons n3 (ph _ _ _ _) (ph _ _ _ _) e3 h0))).trans ?_
      congr 1
      simp only [List.cons_beq_cons, Bool.and_true]
    · cases h1
  · cases h1
theorem rn_neqA22 {t u : Nat} {X Y : Operand} {a b c d a' b' c' d' : Int} (hT : ints22B P t = true) (hx : ev F X = .agg (ivals .i64 [a, b, c, d]).toArray) (hy : ev F Y = .agg (ivals .i64 [a', b', c', d']).toArray) :
    (execOp (ev F) ⟨od, .binOp .neq t X Y u, ty, pos, af, gd⟩).run P w = .ok (.value (.bool (!([a, b, c, d] == [a', b', c', d'])))) w := by
  obtain ⟨h1, h4⟩ := run_eq22 hT a b c d a' b' c' d' w
  simp only [execOp, hx, hy, Sem.run_bind, run_eqGuard_agg w .neq t X Y _ _ h4, Result.andThen_ok, run_neq_struct, h1]
  simp
/-! ### Parts of a text; bytes -/
variable {X Lo Hi : Operand} {T T' e : Nat} {a b : List UInt8} {l h : Int} {k k' : IntKind}
theorem extract_sub {a : List UInt8} {l h : Nat} (h1 : l ≤ h) : (⟨a.toArray⟩ : ByteArray).extract l h = ⟨((a.drop l).take (h - l)).toArray⟩ := by
  apply ByteArray.ext
  rw [ByteArray.data_extract]
  apply Array.ext'
  simp
theorem rn_sliceS {a b : List UInt8} (hT : P.underlying T = some .string) (hx : ev F X = .string ⟨a.toArray⟩) (hl : ev F Lo = .int k l) (hh : ev F Hi = .int k' h) (e : subL a l h = some b) :
    (execOp (ev F) ⟨od, .slice T X (some Lo) (some Hi) none, ty, pos, af, gd⟩).run P w = .ok (.value (.string ⟨b.toArray⟩)) w := by
  obtain ⟨h0, h1, h2, rfl⟩ := subL_some e
  have e1 : (⟨a.toArray⟩ : ByteArray).size = a.length := rfl
  simp only [execOp, hx, hl, hh, Option.map_some, Option.map_none, Sem.run_bind, run_sliceAt_string _ _ _ _ _ _ hT, run_slice_string w T _ k k' l h hT h0 h1 (by rw [e1]; exact h2), Result.andThen_ok, Sem.run_pure, extract_sub (show l.toNat ≤ h.toNat by omega)]
theorem rn_sliceSL {a b : List UInt8} (hT : P.underlying T = some .string) (hx : ev F X = .string ⟨a.toArray⟩) (hl : ev F Lo = .int k l) (e : subL a l (a.length : Int) = some b) :
    (execOp (ev F) ⟨od, .slice T X (some Lo) none none, ty, pos, af, gd⟩).run P w = .ok (.value (.string ⟨b.toArray⟩)) w := by
  obtain ⟨h0, h1, h2, rfl⟩ := subL_some e
  have e1 : (⟨a.toArray⟩ : ByteArray).size = a.length := rfl
  simp only [execOp, hx, hl, Option.map_some, Option.map_none, Sem.run_bind, run_sliceAt_string _ _ _ _ _ _ hT, run_slice_string_l w T _ hT k l h0 (by rw [e1]; exact h1), Result.andThen_ok, Sem.run_pure, e1, extract_sub (show l.toNat ≤ a.length by omega)]
  simp
/-- 'string(l)': bytes that stay. -/
def strN (xs : List Int) : List UInt8 := xs.map fun n => UInt8.ofNat n.toNat
theorem rn_convNS {ad : Option Addr} {n c : Nat} {xs : List Int} (hT : P.underlying T = some (.slice e)) (he : P.underlying e = some (.int .u8)) (hT' : P.underlying T' = some .string) (hS : Sat G w) (hx : ev F X = .slice ad n c) (hr : RSl (RIntK .u8) 1 G ad n c xs) (hne : xs ≠ []) :
    (execOp (ev F) ⟨od, .convert T T' X, ty, pos, af, gd⟩).run P w = .ok (.value (.string ⟨(strN xs).toArray⟩)) w := by
  obtain ⟨h1, h2, h3⟩ := hr
  have hlen : 0 < xs.length := List.length_pos_iff.2 hne
  obtain ⟨b0, off0, cs0, q1, _⟩ := h3 0 xs[0] (List.getElem?_eq_getElem hlen)
  subst q1
  have hc : ∀ j, j < n → w.cell? ⟨b0, off0 + j, none⟩ = some (.int .u8 (xs.getD j 0)) := by
    intro j hj
    have hj' : j < xs.length := by omega
    obtain ⟨b1, off1, cs1, r1, r2, r3, r4⟩ := h3 j xs[j] (List.getElem?_eq_getElem hj')
    cases r1
    have e4 : cs1 = [.int .u8 xs[j]] := r4
    subst e4
    have := hS.cell (r2 0 _ rfl)
    simpa [List.getD, List.getElem?_eq_getElem hj'] using this
  have := run_convert_bytes_arg w T e hT he b0 off0 n c xs h1.symm hc T' hT'
  simp only [execOp, hx, Sem.run_bind, this, Result.andThen_ok, Sem.run_pure]
  rfl
end
end Go.Proofs.YtcaflmilfhhikaaGreatDoor
