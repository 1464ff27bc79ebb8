/-
  More operations: function values, results in memory, structs of integers compared, divisions, shifts, bits.
-/
import Derived.Test.YtcaflmilfhhikaaGreatDoorBaseE
import Derived.Laws.StructEq
namespace Go.Proofs.YtcaflmilfhhikaaGreatDoor
open Go.RowKit

section
variable {κ : Ctx} {p : List PanicEntry → Fr → World → Prop} {P : Program} {N : Nat} {F : Fr} {w : World} {K : Fr → World → Prop} {d : Nat} {ty : TypeId} {pos : String} {af : Array Edge} {gd : Option (Nat × Bool)} {G : Gm} {od : Option Nat}
/-! ### Function values -/
theorem rn_func {fn : Fn} {fi ca : Array Operand} {vs us : List Value} (h1 : fi.toList.map (ev F) = vs) (h2 : ca.toList.map (ev F) = us) : (execOp (ev F) ⟨od, .makeFunc fn fi ca, ty, pos, af, gd⟩).run P w = .ok (.value (.func fn vs.toArray us.toArray)) w := by
  have e1 : Array.map (ev F) fi = vs.toArray := by rw [← h1]; exact Array.ext' (by rw [Array.toList_map])
  have e2 : Array.map (ev F) ca = us.toArray := by rw [← h2]; exact Array.ext' (by rw [Array.toList_map])
  simp [execOp, Instr.makeFunc, e1, e2]
theorem rn_callV {k : Nat} {X : Operand} {args : Array Operand} {ats : Array TypeId} {al fi ca : List Value} (hk : callB P k = true) (hx : ev F X = .func (.func k) fi.toArray ca.toArray) (ha : args.toList.map (ev F) = al) :
    (execOp (ev F) ⟨od, .call { callee := .value X, args := args, argTypes := ats }, ty, pos, af, gd⟩).run P w = .ok (.enter k (fi ++ al ++ ca).toArray) w := by
  have h0 : Array.map (ev F) args = al.toArray := by rw [← ha]; exact Array.ext' (by rw [Array.toList_map])
  unfold callB at hk
  split at hk
  · rename_i fn hf
    simp only [Bool.and_eq_true, Bool.not_eq_true'] at hk
    obtain ⟨c, hb⟩ := Option.isSome_iff_exists.1 hk.2
    have hn : ¬ fn.name = "runtime.NumGoroutine" := by simpa using hk.1
    simp [execOp, resolve, hx, Deferred.ofValue, h0, invoke, callFunc, hf, hn, hb]
  · cases hk
theorem OpP_callVF {k : Nat} {X : Operand} {args : Array Operand} {ats : Array TypeId} {al fi ca : List Value} {v : Value} (hk : callB P k = true) (hc : Calls P k (fi ++ al ++ ca).toArray w (RetV w v)) (hx : ev F X = .func (.func k) fi.toArray ca.toArray) (ha : args.toList.map (ev F) = al) (hd : Nat.blt d N = true)
    (h : ∀ w', Below w.heap.size w w' → K (upd F d v) w') : OpP κ P N p ⟨some d, .call { callee := .value X, args := args, argTypes := ats }, ty, pos, af, gd⟩ F w K :=
  OpP_enter (rn_callV hk hx ha) hd hc fun _ w'' hR => ⟨v, hR.1, .below hR.2, h w'' hR.2⟩
/-! ### Arithmetic -/
section
variable {t u : TypeId} {x y : Operand} {k k' : IntKind} {m n : Int}
def shlI (k : IntKind) (m n : Int) : Option Int := if n < 0 then none else some (k.wrap (m * 2 ^ min n.toNat k.bits))
def shrI (k : IntKind) (m n : Int) : Option Int := if n < 0 then none else some (m.fdiv (2 ^ min n.toNat k.bits))
def andI (k : IntKind) (m n : Int) : Int := k.wrap (BitVec.ofInt k.bits m &&& BitVec.ofInt k.bits n).toNat
def orI (k : IntKind) (m n : Int) : Int := k.wrap (BitVec.ofInt k.bits m ||| BitVec.ofInt k.bits n).toNat
theorem rn_shl {r : Int} (hx : ev F x = .int k m) (hy : ev F y = .int k' n) (hr : shlI k m n = some r) : (execOp (ev F) ⟨od, .binOp .shl t x y u, ty, pos, af, gd⟩).run P w = .ok (.value (.int k r)) w := by
  unfold shlI at hr
  split at hr
  · cases hr
  · rename_i h0; cases hr; simp [execOp, hx, hy, eqGuard, binOp, Op.shift, h0]
theorem rn_shr {r : Int} (hx : ev F x = .int k m) (hy : ev F y = .int k' n) (hr : shrI k m n = some r) : (execOp (ev F) ⟨od, .binOp .shr t x y u, ty, pos, af, gd⟩).run P w = .ok (.value (.int k r)) w := by
  unfold shrI at hr
  split at hr
  · cases hr
  · rename_i h0; cases hr; simp [execOp, hx, hy, eqGuard, binOp, Op.shift, h0]
theorem rn_and (hx : ev F x = .int k m) (hy : ev F y = .int k n) : (execOp (ev F) ⟨od, .binOp .and t x y u, ty, pos, af, gd⟩).run P w = .ok (.value (.int k (andI k m n))) w := by simp [execOp, hx, hy, eqGuard, binOp, Op.intBits, andI]
theorem rn_or (hx : ev F x = .int k m) (hy : ev F y = .int k n) : (execOp (ev F) ⟨od, .binOp .or t x y u, ty, pos, af, gd⟩).run P w = .ok (.value (.int k (orI k m n))) w := by simp [execOp, hx, hy, eqGuard, binOp, Op.intBits, orI]
end
/-! ### Structs of integers, compared -/
def fieldsInts (P : Program) : List Field → Nat → Bool
  | [], _ => true
  | f :: fs, o => !(f.name == "_") && decide (f.offset = o) && (match P.underlying f.type with | some (.int _) => true | _ => false) && fieldsInts P fs (o + 1)
def intsB (P : Program) (t : Nat) : Bool :=
  (match P.underlying t with | some (.struct fs) => fieldsInts P fs.toList 0 | _ => false) && !P.stoodInHeld t && !P.eqGuardType P.depth t
def ivals (k : IntKind) (l : List Int) : List Value := l.map (Value.int k)
theorem run_eqInts {k : IntKind} (dd : Nat) (xs ys : List Int) : ∀ (fs : List Field) (o : Nat), fieldsInts P fs o = true → xs.length = o + fs.length → ys.length = o + fs.length →
    (Op.eqFields (dd + 1) (ivals k xs).toArray (ivals k ys).toArray fs).run P w = .ok (xs.drop o == ys.drop o) w
  | [], o, _, hx, hy => by
    rw [List.drop_of_length_le (by simpa using Nat.le_of_eq hx), List.drop_of_length_le (by simpa using Nat.le_of_eq hy)]
    simp [Op.eqFields]
  | f :: fs, o, h, hx, hy => by
    simp only [fieldsInts, Bool.and_eq_true, decide_eq_true_eq] at h
    obtain ⟨⟨⟨h1, h2⟩, h3⟩, h4⟩ := h
    simp only [List.length_cons] at hx hy
    have ih := run_eqInts (k := k) dd xs ys fs (o + 1) h4 (by omega) (by omega)
    have hn : ¬ f.name = "_" := by simpa using h1
    split at h3
    · rename_i k' hu
      have ex : xs.drop o = xs[o]'(by omega) :: xs.drop (o + 1) := List.drop_eq_getElem_cons (by omega)
      have ey : ys.drop o = ys[o]'(by omega) :: ys.drop (o + 1) := List.drop_eq_getElem_cons (by omega)
      have hpart : ∀ (zs : List Int) (hz : o < zs.length), (part f.type (ivals k zs).toArray f.offset).run P w = .ok (.int k zs[o]) w := by
        intro zs hz
        have hg : (ivals k zs).toArray[o]? = some (.int k zs[o]) := by simp [ivals, hz]
        simp [part, isAgg, run_underlying hu, h2, ivals, hz]
      have hE : (Op.equalIn (dd + 1) f.type (.int k (xs[o]'(by omega))) (.int k (ys[o]'(by omega)))).run P w = .ok (xs[o]'(by omega) == ys[o]'(by omega)) w := run_equalIn_int w dd f.type k k' _ _ hu
      unfold Op.eqFields
      simp only [hn, ne_eq, not_false_eq_true, if_true, Sem.run_bind, hpart xs (by omega), hpart ys (by omega), Result.andThen_ok, hE]
      rw [ex, ey]
      by_cases he : xs[o]'(by omega) = ys[o]'(by omega)
      · have hb : (xs[o]'(by omega) == ys[o]'(by omega)) = true := by simpa using he
        rw [List.cons_beq_cons, hb, Bool.true_and]
        simpa using ih
      · have hb : (xs[o]'(by omega) == ys[o]'(by omega)) = false := by simpa using he
        rw [List.cons_beq_cons, hb, Bool.false_and]
        simp
    · cases h3
theorem intsB_spec {t : Nat} (h : intsB P t = true) : P.underlying t = some (.struct (P.fieldsOf t)) ∧ fieldsInts P (P.fieldsOf t).toList 0 = true ∧ P.stoodInHeld t = false ∧ P.eqGuardType P.depth t = false := by
  unfold intsB at h
  simp only [Bool.and_eq_true, Bool.not_eq_true'] at h
  obtain ⟨⟨h1, h2⟩, h3⟩ := h
  split at h1
  · rename_i fs hu
    have : P.fieldsOf t = fs := by simp [Program.fieldsOf, hu]
    rw [this]
    exact ⟨hu, h1, h2, h3⟩
  · cases h1
theorem rn_eqlA {t u : Nat} {X Y : Operand} {k : IntKind} {xs ys : List Int} (hT : intsB P t = true) (hl : (P.fieldsOf t).toList.length = xs.length) (hl' : (P.fieldsOf t).toList.length = ys.length) (hx : ev F X = .agg (ivals k xs).toArray) (hy : ev F Y = .agg (ivals k ys).toArray) :
    (execOp (ev F) ⟨od, .binOp .eql t X Y u, ty, pos, af, gd⟩).run P w = .ok (.value (.bool (xs == ys))) w := by
  obtain ⟨h1, h2, h3, h4⟩ := intsB_spec hT
  have hE := run_eqInts (P := P) (w := w) (k := k) 9998 xs ys _ 0 h2 (by omega) (by omega)
  have hQ := run_equalIn_agg w 9999 t (ivals k xs).toArray (ivals k ys).toArray h1 h3
  simp only [execOp, hx, hy, Sem.run_bind, run_eqGuard_agg w .eql t X Y _ _ h4, Result.andThen_ok, run_eql_struct, hQ, hE]
  simp
theorem rn_neqA {t u : Nat} {X Y : Operand} {k : IntKind} {xs ys : List Int} (hT : intsB P t = true) (hl : (P.fieldsOf t).toList.length = xs.length) (hl' : (P.fieldsOf t).toList.length = ys.length) (hx : ev F X = .agg (ivals k xs).toArray) (hy : ev F Y = .agg (ivals k ys).toArray) :
    (execOp (ev F) ⟨od, .binOp .neq t X Y u, ty, pos, af, gd⟩).run P w = .ok (.value (.bool (!(xs == ys)))) w := by
  obtain ⟨h1, h2, h3, h4⟩ := intsB_spec hT
  have hE := run_eqInts (P := P) (w := w) (k := k) 9998 xs ys _ 0 h2 (by omega) (by omega)
  have hQ := run_equalIn_agg w 9999 t (ivals k xs).toArray (ivals k ys).toArray h1 h3
  simp only [execOp, hx, hy, Sem.run_bind, run_eqGuard_agg w .neq t X Y _ _ h4, Result.andThen_ok, run_neq_struct, hQ, hE]
  simp

/-! ### Results in memory -/
def LdOk (P : Program) (t : TypeId) (ad : Addr) (v : Value) (w : World) : Prop := ∀ w', (∀ a u, w.cell? a = some u → w'.cell? a = some u) → (loadVar t ad).run P w' = .ok v w'
def ResOk (P : Program) (F : Fr) (w : World) : List ResultVar → List Value → Prop
  | [], [] => True
  | .tmp t :: rs, v :: vs => F t = v ∧ ResOk P F w rs vs
  | .cell a t :: rs, v :: vs => (∃ ad, F a = .pointer (some ad) ∧ LdOk P t ad v w) ∧ ResOk P F w rs vs
  | _, _ => False
def resOf : List Value → Value
  | [v] => v
  | vs => .tuple vs.toArray
def resStep (tmps : Array Value) : ResultVar → Sem Value
  | .tmp t => pure (tmps.getD t undef)
  | .cell a t => do loadVar t (← asAddr (tmps.getD a undef))
theorem run_resList {tmps : Array Value} : ∀ (rs : List ResultVar) (vs : List Value), ResOk P (fun t => tmps.getD t undef) w rs vs → (rs.mapM (resStep tmps)).run P w = .ok vs w
  | [], [], _ => by simp
  | .tmp t :: rs, v :: vs, h => by
    have ih := run_resList rs vs h.2
    have h1 : tmps.getD t undef = v := h.1
    have hs : (resStep tmps (.tmp t)).run P w = .ok v w := by simp only [resStep, Sem.run_pure, h1]
    simp only [List.mapM_cons, Sem.run_bind, hs, Result.andThen_ok, ih, Sem.run_pure]
  | .cell a t :: rs, v :: vs, h => by
    obtain ⟨⟨ad, h1, h2⟩, h3⟩ := h
    have ih := run_resList rs vs h3
    have h1' : tmps.getD a undef = .pointer (some ad) := h1
    have hs : (resStep tmps (.cell a t)).run P w = .ok v w := by
      simp only [resStep, Sem.run_bind, h1', asAddr, Sem.run_pure, Result.andThen_ok, h2 w fun _ _ h => h]
    simp only [List.mapM_cons, Sem.run_bind, hs, Result.andThen_ok, ih, Sem.run_pure]
  | [], _ :: _, h => h.elim
  | .tmp _ :: _, [], h => h.elim
  | .cell _ _ :: _, [], h => h.elim
theorem results_step (fn : Func) (tmps : Array Value) : results fn tmps = (do
    let vs ← fn.results.mapM (resStep tmps)
    pure (if h : vs.size = 1 then vs[0] else .tuple vs)) := by
  unfold results
  congr 1
theorem run_resG {fn : Func} {tmps : Array Value} {rs : List ResultVar} {vs : List Value} (hr : fn.results = rs.toArray) (h : ResOk P (fun t => tmps.getD t undef) w rs vs) : (results fn tmps).run P w = .ok (resOf vs) w := by
  have h0 := run_resList rs vs h
  rw [results_step, hr, List.mapM_toArray]
  simp only [Sem.run_bind, Sem.run_map, h0, Result.andThen_ok, Sem.run_pure]
  clear h0 h
  rcases vs with _ | ⟨v, _ | ⟨u, vs⟩⟩
  · rfl
  · rfl
  · simp [resOf]
theorem ResOk.shut {B : Nat} {F : Fr} {w w' : World} (hs : Shut B w w') : ∀ (rs : List ResultVar) (vs : List Value), ResOk P F w rs vs → ResOk P F w' rs vs
  | [], [], _ => trivial
  | .tmp _ :: rs, _ :: vs, h => ⟨h.1, ResOk.shut hs rs vs h.2⟩
  | .cell _ _ :: rs, _ :: vs, ⟨⟨ad, h1, h2⟩, h3⟩ => ⟨⟨ad, h1, fun w2 hw => h2 w2 fun a u h => hw a u (hs.cell h)⟩, ResOk.shut hs rs vs h3⟩
  | [], _ :: _, h => h.elim
  | .tmp _ :: _, [], h => h.elim
  | .cell _ _ :: _, [], h => h.elim
theorem enterG {f : FuncId} {fn : Func} {c : Code} {al : List Value} {R : Ending → World → Prop} {N : Nat} (hR : ShutOk w.heap.size R) (rs : List ResultVar) (hf : P.funcs[f]? = some fn) (hb : fn.body = some c) (hr : fn.results = rs.toArray) (hn : fn.ntmps = N) (hN : Nat.ble al.length N = true)
    (h : WC ⟨none, none, w.heap.size, false, []⟩ P N c ⟨fun F w' => ∃ vs, ResOk P F w' rs vs ∧ R (.returned (resOf vs)) w', fun F w' => ∃ vs, ResOk P F w' rs vs ∧ R (.returned (resOf vs)) w', [], fun _ _ _ => False⟩ (nthD al) w) : Calls P f al.toArray w R :=
  enterR _ hf hb hn hN (fun _ _ _ ⟨_, h1, h2⟩ hs => ⟨_, run_resG hr (h1.shut hs), hR.out _ _ _ h2 hs⟩) h
theorem ld_one {T : Nat} {a : Addr} {v : Value} (hT : naB P T = true) (hc : w.cell? a = some v) : LdOk P T a v w := fun w' hw => by
  simp [loadVar, naB_spec hT, load, Sem.run, hw _ _ hc]
theorem ld_agg {T n b off : Nat} {cs : List Value} (hT : agB P T = some n) (hl : cs.length = n) (hc : ∀ j v, cs[j]? = some v → w.cell? ⟨b, off + j, none⟩ = some v) : LdOk P T ⟨b, off, none⟩ (.agg cs.toArray) w := fun w' hw => by
  have h2 : (loadCells ⟨b, off, none⟩ n).run P w' = .ok cs.toArray w' := by
    subst hl
    exact run_loadCells_list (P := P) w' ⟨b, off, none⟩ cs (fun j v hj => by rw [add_addr]; exact hw _ _ (hc j v hj))
  simp [loadVar, (agB_spec (P := P) (w := w') hT).1, (agB_spec (P := P) (w := w') hT).2, h2]
end
end Go.Proofs.YtcaflmilfhhikaaGreatDoor
