/-
 Runs of operations at once: what a stretch of a region computes, by one reduction.
-/
import Derived.Test.YtdgkjgljkgjjiaaGreatDoorBsB
namespace Go.Proofs.YtdgkjgljkgjjiaaGreatDoor
open Go.RowKit
set_option linter.unusedVariables false
/-- places of fields, types of one cell, types of slices -/
structure Tab where
 fld : List (Nat × Nat × Nat)
 na : List Nat
 sl : List Nat
def memT : List Nat → Nat → Bool
 | [], _ => false
 | a :: l, t => cond (Nat.beq a t) true (memT l t)
def lookF : List (Nat × Nat × Nat) → Nat → Nat → Option Nat
 | [], _, _ => none
 | (a, b, o) :: l, s, k => cond (Nat.beq a s) (cond (Nat.beq b k) (some o) (lookF l s k)) (lookF l s k)
def tabOk (P : Program) (T : Tab) : Bool := T.fld.all (fun e => fldB P e.1 e.2.1 == some e.2.2) && (T.na.all (fun t => naB P t) && T.sl.all (fun t => (slB P t).isSome))
theorem memT_mem : ∀ {l : List Nat} {t : Nat}, memT l t = true → t ∈ l
 | [], _, h => by cases h
 | a :: l, t, h => by
  cases hb : Nat.beq a t with
  | true => rw [Nat.eq_of_beq_eq_true hb]; exact List.mem_cons_self
  | false =>
   have h' : memT l t = true := by simpa [memT, hb] using h
   exact List.mem_cons_of_mem _ (memT_mem h')
theorem lookF_mem : ∀ {l : List (Nat × Nat × Nat)} {s k o : Nat}, lookF l s k = some o → (s, k, o) ∈ l
 | [], _, _, _, h => by cases h
 | (a, b, o') :: l, s, k, o, h => by
  have rest : lookF l s k = some o → (s, k, o) ∈ (a, b, o') :: l := fun h => List.mem_cons_of_mem _ (lookF_mem h)
  cases ha : Nat.beq a s with
  | false => exact rest (by simpa [lookF, ha] using h)
  | true =>
   cases hb : Nat.beq b k with
   | false => exact rest (by simpa [lookF, ha, hb] using h)
   | true =>
    have : o' = o := by simpa [lookF, ha, hb] using h
    rw [← Nat.eq_of_beq_eq_true ha, ← Nat.eq_of_beq_eq_true hb, ← this]
    exact List.mem_cons_self
def AllP : List Prop → Prop
 | [] => True
 | p :: l => p ∧ AllP l
theorem an : AllP [] := trivial
theorem ao {p : Prop} {l : List Prop} (h : p) (t : AllP l) : AllP (p :: l) := ⟨h, t⟩
theorem kb {b v : Bool} (h : b = v) : Value.bool b = .bool v := by rw [h]
/-- a value by its head -/
def force {α : Type} (v : Value) (k : Value → α) : α := match v with
 | .bool b => k (.bool b)
 | .int q n => k (.int q n)
 | .pointer a => k (.pointer a)
 | .slice a n c => k (.slice a n c)
 | .func f a b => k (.func f a b)
 | .tuple vs => k (.tuple vs)
 | .agg vs => k (.agg vs)
 | v => k v
theorem force_eq {α : Type} (v : Value) (k : Value → α) : force v k = k v := by cases v <;> rfl
def arP {α : Type} (o : BinOp) (q : IntKind) (m n : Int) (k : Value → Option α) : Option α := match o with
 | .add => k (.int q (q.wrap (m + n)))
 | .sub => k (.int q (q.wrap (m - n)))
 | .mul => k (.int q (q.wrap (m * n)))
 | .lss => k (.bool (decide (m < n)))
 | .leq => k (.bool (decide (m ≤ n)))
 | .gtr => k (.bool (decide (n < m)))
 | .geq => k (.bool (decide (n ≤ m)))
 | .eql => k (.bool (m == n))
 | .neq => k (.bool (m != n))
 | _ => none
def intP {α : Type} (v : Value) (k : IntKind → Int → Option α) : Option α := match v with
 | .int .i64 n => k .i64 n
 | .int q n => k q n
 | _ => none
def bolP {α : Type} (v : Value) (k : Bool → Option α) : Option α := match v with
 | .bool b => k b
 | _ => none
def ptrP {α : Type} (v : Value) (k : Nat → Nat → Option α) : Option α := match v with
 | .pointer (some ⟨b, off, none⟩) => k b off
 | _ => none
def sliP {α : Type} (v : Value) (k : Nat → Option α) : Option α := match v with
 | .slice _ n _ => k n
 | _ => none
def optP {α β : Type} (v : Option β) (k : β → Option α) : Option α := match v with
 | some x => k x
 | none => none
def lenP {α : Type} (T : Tab) (F : Fr) (ms : List Nat) (args : List Operand) (ats : List TypeId) (k : List Nat → List Prop → Value → Option α) : Option α := match args, ats, ms with
 | [x], [t], m :: ms => cond (memT T.sl t) (sliP (ev F x) fun n => k ms [n = m] (.int .i64 (m : Int))) none
 | _, _, _ => none
/-- what a test says: known beforehand, or to be read off -/
def askP {α : Type} (u : Option (Value × Bool)) (x : Value) (k : List (Value × Value) → Bool → Option α) : Option α := match u with
 | some (y, v) => k [(x, y)] v
 | none => bolP x fun b => match b with
  | true => k [] true
  | false => k [] false
abbrev KP (α : Type) := List Nat → List (Value × Value) → List Prop → Value → Option α
def opP {α : Type} (T : Tab) (cb : Nat) (C : List Value) (u : Option (Value × Bool)) (F : Fr) (ms : List Nat) (op : Op) (k : KP α) : Option α := match op with
 | .move x => force (ev F x) (k ms [] [])
 | .assign x => force (ev F x) (k ms [] [])
 | .pick c a b => askP u (ev F c) fun qs t => force (cond t (ev F a) (ev F b)) (k ms qs [])
 | .unOp .not _ x => bolP (ev F x) fun b => k ms [] [] (.bool (!b))
 | .binOp o _ x y _ => intP (ev F x) fun q m => intP (ev F y) fun q' n => cond (decide (q = q')) (arP o q m n (k ms [] [])) none
 | .fieldAddr S x i => optP (lookF T.fld S i) fun o => ptrP (ev F x) fun b off => k ms [] [] (.pointer (some ⟨b, off + o, none⟩))
 | .load t x => cond (memT T.na t) (ptrP (ev F x) fun b off => optP C[off]? fun v => force v (k ms [(.pointer (some ⟨b, 0, none⟩), .pointer (some ⟨cb, 0, none⟩))] [])) none
 | .call { callee := .builtin .len, args, argTypes } => lenP T F ms args.toList argTypes.toList fun ms => k ms []
 | _ => none
def runP (T : Tab) (cb : Nat) (C : List Value) (u : Option (Value × Bool)) (ops : Array Oper) (N : Nat) : Nat → List Nat → List Oper → Fr → List (Value × Value) → List Prop → Option (List Oper × Fr × List (Value × Value) × List Prop)
 | 0, [], l, F, es, ps => some (l, F, es, ps)
 | n + 1, ms, ⟨some d, op, _, _, _, g⟩ :: l, F, es, ps => cond (Nat.blt d N) (match g with
  | none => opP T cb C u F ms op fun ms q1 q2 v => runP T cb C u ops N n ms l (upd F d v) (q1 ++ es) (q2 ++ ps)
  | some (j, want) => optP ((ops[j]?).bind (·.dst)) fun g => cond (Nat.blt g N) (askP u (F g) fun q0 b => match b, want with
   | true, true => opP T cb C u F ms op fun ms q1 q2 v => runP T cb C u ops N n ms l (upd F d v) (q1 ++ (q0 ++ es)) (q2 ++ ps)
   | false, false => opP T cb C u F ms op fun ms q1 q2 v => runP T cb C u ops N n ms l (upd F d v) (q1 ++ (q0 ++ es)) (q2 ++ ps)
   | _, _ => runP T cb C u ops N n ms l (upd F d undef) (q0 ++ es) ps) none) none
 | _, _, _, _, _, _ => none
section
variable {κ : Ctx} {p : List PanicEntry → Fr → World → Prop} {P : Program} {N : Nat} {F : Fr} {w : World} {K : Fr → World → Prop} {ops : Array Oper} {α : Type} {T : Tab} {cb : Nat} {C : List Value}
theorem intP_some {v : Value} {k : IntKind → Int → Option α} {r : α} (h : intP v k = some r) : ∃ q n, v = .int q n ∧ k q n = some r := by
 unfold intP at h
 split at h
 ·exact ⟨_, _, rfl, h⟩
 ·exact ⟨_, _, rfl, h⟩
 ·cases h
theorem bolP_some {v : Value} {k : Bool → Option α} {r : α} (h : bolP v k = some r) : ∃ n, v = .bool n ∧ k n = some r := by
 unfold bolP at h
 split at h
 ·exact ⟨_, rfl, h⟩
 ·cases h
theorem ptrP_some {v : Value} {k : Nat → Nat → Option α} {r : α} (h : ptrP v k = some r) : ∃ b off, v = .pointer (some ⟨b, off, none⟩) ∧ k b off = some r := by
 unfold ptrP at h
 split at h
 ·exact ⟨_, _, rfl, h⟩
 ·cases h
theorem sliP_some {v : Value} {k : Nat → Option α} {r : α} (h : sliP v k = some r) : ∃ a n c, v = .slice a n c ∧ k n = some r := by
 unfold sliP at h
 split at h
 ·exact ⟨_, _, _, rfl, h⟩
 ·cases h
theorem optP_some {β : Type} {v : Option β} {k : β → Option α} {r : α} (h : optP v k = some r) : ∃ x, v = some x ∧ k x = some r := by
 cases v with
 | none => cases h
 | some x => exact ⟨x, rfl, h⟩
theorem condP_some {b : Bool} {x : Option α} {r : α} (h : cond b x none = some r) : b = true ∧ x = some r := by
 cases b with
 | true => exact ⟨rfl, h⟩
 | false => cases h
theorem tab_fld (hT : tabOk P T = true) {s k o : Nat} (h : lookF T.fld s k = some o) : fldB P s k = some o := by
 simp only [tabOk, Bool.and_eq_true, List.all_eq_true] at hT
 simpa using hT.1 _ (lookF_mem h)
theorem tab_na (hT : tabOk P T = true) {t : Nat} (h : memT T.na t = true) : naB P t = true := by
 simp only [tabOk, Bool.and_eq_true, List.all_eq_true] at hT
 exact hT.2.1 _ (memT_mem h)
theorem tab_sl (hT : tabOk P T = true) {t : Nat} (h : memT T.sl t = true) : ∃ e, slB P t = some e := by
 simp only [tabOk, Bool.and_eq_true, List.all_eq_true] at hT
 exact Option.isSome_iff_exists.1 (hT.2.2 _ (memT_mem h))
def CellsW (w : World) (cb : Nat) (C : List Value) : Prop := ∀ j v, C[j]? = some v → w.cell? ⟨cb, j, none⟩ = some v
theorem cellsW {G : Gm} (hS : Sat G w) (h : Cells G cb 0 C) : CellsW w cb C := fun j v hj => by
 have := hS.cell (h j v hj); rwa [Nat.zero_add] at this
def EqE (es : List (Value × Value)) : Prop := es.map (·.1) = es.map (·.2)
theorem EqE_app {l m : List (Value × Value)} (h : EqE (l ++ m)) : EqE l ∧ EqE m := by
 unfold EqE at h ⊢
 rw [List.map_append, List.map_append] at h
 exact List.append_inj h (by simp)
def Known (u : Option (Value × Bool)) : Prop := ∀ y v, u = some (y, v) → y = .bool v
theorem askP_some {u : Option (Value × Bool)} {x : Value} {k : List (Value × Value) → Bool → Option α} {r : α} (hu : Known u) (h : askP u x k = some r) : ∃ qs b, k qs b = some r ∧ (EqE qs → x = .bool b) := by
 unfold askP at h
 split at h
 ·rename_i y v
  refine ⟨_, _, h, fun he => ?_⟩
  have : x = y := by simpa [EqE] using he
  rw [this]; exact hu _ _ rfl
 ·obtain ⟨b, h1, h⟩ := bolP_some h
  cases b with
  | true => exact ⟨_, _, h, fun _ => h1⟩
  | false => exact ⟨_, _, h, fun _ => h1⟩
theorem opP_ok (hT : tabOk P T = true) (hC : CellsW w cb C) {u : Option (Value × Bool)} (hu : Known u) {ms : List Nat} {op : Op} {k : KP α} {r : α} (h : opP T cb C u F ms op k = some r) :
  ∃ ms' q1 q2 v, k ms' q1 q2 v = some r ∧ (EqE q1 → AllP q2 → ∀ d ty pos af gd, (execOp (ev F) ⟨d, op, ty, pos, af, gd⟩).run P w = .ok (.value v) w) := by
 unfold opP at h
 split at h
 ·rw [force_eq] at h; exact ⟨_, _, _, _, h, fun _ _ d ty pos af gd => rn_move rfl⟩
 ·rw [force_eq] at h; exact ⟨_, _, _, _, h, fun _ _ d ty pos af gd => rn_assign rfl⟩
 ·obtain ⟨qs, b, h, h1⟩ := askP_some hu h
  rw [force_eq] at h
  refine ⟨_, _, _, _, h, fun he _ d ty pos af gd => ?_⟩
  cases b with
  | true => exact rn_pickT (h1 he) rfl rfl
  | false => exact rn_pickF (h1 he) rfl rfl
 ·obtain ⟨b, h1, h⟩ := bolP_some h
  exact ⟨_, _, _, _, h, fun _ _ d ty pos af gd => rn_not h1⟩
 ·rename_i o t x y u
  obtain ⟨q, m, h1, h⟩ := intP_some h
  obtain ⟨q', n, h2, h⟩ := intP_some h
  obtain ⟨hq, hz⟩ := condP_some h
  obtain rfl := of_decide_eq_true hq
  clear h
  cases o <;> first | (have h' : (none : Option α) = some r := hz; cases h'; done) | skip
  ·exact ⟨_, _, _, _, hz, fun _ _ d ty pos af gd => rn_add h1 h2⟩
  ·exact ⟨_, _, _, _, hz, fun _ _ d ty pos af gd => rn_sub h1 h2⟩
  ·exact ⟨_, _, _, _, hz, fun _ _ d ty pos af gd => rn_mul h1 h2⟩
  ·exact ⟨_, _, _, _, hz, fun _ _ d ty pos af gd => rn_eql h1 h2⟩
  ·exact ⟨_, _, _, _, hz, fun _ _ d ty pos af gd => rn_neq h1 h2⟩
  ·exact ⟨_, _, _, _, hz, fun _ _ d ty pos af gd => rn_lss h1 h2⟩
  ·exact ⟨_, _, _, _, hz, fun _ _ d ty pos af gd => rn_leq h1 h2⟩
  ·exact ⟨_, _, _, _, hz, fun _ _ d ty pos af gd => rn_gtr h1 h2⟩
  ·exact ⟨_, _, _, _, hz, fun _ _ d ty pos af gd => rn_geq h1 h2⟩
 ·obtain ⟨o, h1, h⟩ := optP_some h
  obtain ⟨b, off, h2, h⟩ := ptrP_some h
  exact ⟨_, _, _, _, h, fun _ _ d ty pos af gd => rn_fld (tab_fld hT h1) h2⟩
 ·obtain ⟨h0, h⟩ := condP_some h
  obtain ⟨b, off, h2, h⟩ := ptrP_some h
  obtain ⟨v, h3, h⟩ := optP_some h
  rw [force_eq] at h
  refine ⟨_, _, _, _, h, fun he _ d ty pos af gd => rn_load (tab_na hT h0) h2 ?_⟩
  have : b = cb := by simpa [EqE] using he
  rw [this]; exact hC _ _ h3
 ·rename_i args ats
  unfold lenP at h
  split at h
  ·rename_i x t m ms' ha hat
   obtain ⟨h0, h⟩ := condP_some h
   obtain ⟨a, n, c, h2, h⟩ := sliP_some h
   obtain ⟨⟨e, sz, bytes⟩, h3⟩ := tab_sl hT h0
   have ea : args = #[x] := Array.ext' ha
   subst ea
   exact ⟨_, _, _, _, h, fun _ hp d ty pos af gd => rn_len h3 (by rw [hat]; rfl) h2 hp.1⟩
  ·cases h
 ·cases h
theorem AllP_app {l m : List Prop} : AllP (l ++ m) ↔ AllP l ∧ AllP m := by
 induction l with
 | nil => simp [AllP]
 | cons a l ih => simp [AllP, ih, and_assoc]
theorem WL_runA {u : Option (Value × Bool)} (hT : tabOk P T = true) (hC : CellsW w cb C) (hu : Known u) : ∀ (n : Nat) (ms : List Nat) {l l' : List Oper} {F F' : Fr} {ea es : List (Value × Value)} {as ps : List Prop}, runP T cb C u ops N n ms l F ea as = some (l', F', es, ps) → EqE es → AllP ps →
  EqE ea ∧ AllP as ∧ (WL κ P N ops p K l' F' w → WL κ P N ops p K l F w)
 | 0, [], l, l', F, F', ea, es, as, ps, h, he, hp => by
  cases h; exact ⟨he, hp, id⟩
 | 0, _ :: _, l, l', F, F', ea, es, as, ps, h, he, hp => by cases h
 | n + 1, ms, [], l', F, F', ea, es, as, ps, h, he, hp => by cases h
 | n + 1, ms, ⟨none, op, ty, pos, af, g⟩ :: l, l', F, F', ea, es, as, ps, h, he, hp => by cases h
 | n + 1, ms, ⟨some d, op, ty, pos, af, none⟩ :: l, l', F, F', ea, es, as, ps, h, he, hp => by
  obtain ⟨hd, h⟩ := condP_some h
  obtain ⟨ms', q1, q2, v, h1, h2⟩ := opP_ok hT hC hu h
  obtain ⟨h3, h4, h5⟩ := WL_runA hT hC hu n ms' h1 he hp
  obtain ⟨e1, e2⟩ := EqE_app h3
  obtain ⟨a1, a2⟩ := AllP_app.1 h4
  exact ⟨e2, a2, fun hw => WL_val (h2 e1 a1 _ _ _ _ _) hd (h5 hw)⟩
 | n + 1, ms, ⟨some d, op, ty, pos, af, some (j, want)⟩ :: l, l', F, F', ea, es, as, ps, h, he, hp => by
  obtain ⟨hd, h⟩ := condP_some h
  obtain ⟨g, hj, h⟩ := optP_some h
  obtain ⟨hg, h⟩ := condP_some h
  obtain ⟨q0, b, h, hb⟩ := askP_some hu h
  have yes : (opP T cb C u F ms op fun ms q1 q2 v => runP T cb C u ops N n ms l (upd F d v) (q1 ++ (q0 ++ ea)) (q2 ++ as)) = some (l', F', es, ps) → b = want → EqE ea ∧ AllP as ∧ (WL κ P N ops p K l' F' w → WL κ P N ops p K (⟨some d, op, ty, pos, af, some (j, want)⟩ :: l) F w) := fun h hbw => by
   obtain ⟨ms', q1, q2, v, h1, h2⟩ := opP_ok hT hC hu h
   obtain ⟨h3, h4, h5⟩ := WL_runA hT hC hu n ms' h1 he hp
   obtain ⟨e1, e2⟩ := EqE_app h3
   obtain ⟨e3, e4⟩ := EqE_app e2
   obtain ⟨a1, a2⟩ := AllP_app.1 h4
   exact ⟨e4, a2, fun hw => WL_guardY hj hbw (hb e3) hg (WL_val (h2 e1 a1 _ _ _ _ _) hd (h5 hw))⟩
  have no : runP T cb C u ops N n ms l (upd F d undef) (q0 ++ ea) as = some (l', F', es, ps) → b = !want → EqE ea ∧ AllP as ∧ (WL κ P N ops p K l' F' w → WL κ P N ops p K (⟨some d, op, ty, pos, af, some (j, want)⟩ :: l) F w) := fun h hbw => by
   obtain ⟨h3, h4, h5⟩ := WL_runA hT hC hu n ms h he hp
   obtain ⟨e3, e4⟩ := EqE_app h3
   exact ⟨e4, h4, fun hw => WL_guardN hj hbw (hb e3) hd hg (h5 hw)⟩
  cases b <;> cases want
  ·exact yes h rfl
  ·exact no h rfl
  ·exact no h rfl
  ·exact yes h rfl
theorem WL_runK (hT : tabOk P T = true) (hC : CellsW w cb C) {y : Value} {v : Bool} (hy : y = .bool v) (n : Nat) (ms : List Nat) {l l' : List Oper} {F' : Fr} {es : List (Value × Value)} {ps : List Prop} (hr : runP T cb C (some (y, v)) ops N n ms l F [] [] = some (l', F', es, ps)) (he : es.map (·.1) = es.map (·.2)) (hp : AllP ps) (h : WL κ P N ops p K l' F' w) : WL κ P N ops p K l F w :=
 (WL_runA hT hC (fun _ _ e => by cases e; exact hy) n ms hr he hp).2.2 h
theorem WL_run (hT : tabOk P T = true) (hC : CellsW w cb C) (n : Nat) (ms : List Nat) {l l' : List Oper} {F' : Fr} {es : List (Value × Value)} {ps : List Prop} (hr : runP T cb C none ops N n ms l F [] [] = some (l', F', es, ps)) (he : es.map (·.1) = es.map (·.2)) (hp : AllP ps) (h : WL κ P N ops p K l' F' w) : WL κ P N ops p K l F w :=
 (WL_runA hT hC (fun _ _ e => by cases e) n ms hr he hp).2.2 h
theorem cells0 (w : World) : CellsW w 0 [] := fun j v h => by simp at h
end
/-! ### Short names for the walks -/
abbrev SO (G0 : Gm) (w0 : World) (G : Gm) (w : World) (L : List Row) : Prop := Since w0.heap.size G0 w0 G w ∧ Owns G w w0.heap.size L
abbrev iV (n : Int) : Value := .int .i64 n
abbrev pV (b : Nat) : Value := .pointer (some ⟨b, 0, none⟩)
theorem own0 (G0 : Gm) (w0 : World) : Owns G0 w0 w0.heap.size [] := Owns.nil (Nat.le_refl _)
end Go.Proofs.YtdgkjgljkgjjiaaGreatDoor
