/-
  Texts: they are put together, compared, measured, gone through; numbers of another kind.
-/
import Derived.Test.YtcaflmilfhhikaaGreatDoorBaseN
import Derived.Laws.Concat
import Derived.Laws.Strings
import Derived.Laws.Strings2
import Derived.Lib.ItoaNum
import Derived.Lib.LaidTab
namespace Go.Proofs.YtcaflmilfhhikaaGreatDoor
open Go.RowKit
set_option linter.unusedVariables false

def catS (x y : List UInt8) : Option (List UInt8) := if x.length + y.length ≤ 1073741824 then some (x ++ y) else none
theorem catS_some {x y z : List UInt8} (h : catS x y = some z) : x.length + y.length ≤ 1073741824 ∧ z = x ++ y := by
  unfold catS at h
  split at h
  · exact ⟨‹_›, (Option.some.inj h).symm⟩
  · cases h
def RStr : Gm → List Value → List UInt8 → Prop := fun _ cs x => cs = [.string ⟨x.toArray⟩]
theorem RStr_mono : Mono RStr := fun _ _ _ _ _ h => h
theorem RStr_one : One RStr := fun _ _ _ h u hu => by cases h; simp at hu; subst hu; rfl
def RU8 : Gm → List Value → UInt8 → Prop := fun _ cs x => cs = [.int .u8 (x.toNat : Int)]
theorem RU8_mono : Mono RU8 := fun _ _ _ _ _ h => h
def RIntK (k : IntKind) : Gm → List Value → Int → Prop := fun _ cs x => cs = [.int k x]
section
variable {κ : Ctx} {p : List PanicEntry → Fr → World → Prop} {P : Program} {N : Nat} {F : Fr} {w : World} {K : Fr → World → Prop} {d od : Option Nat} {ty t u : TypeId} {pos : String} {af : Array Edge} {gd : Option (Nat × Bool)} {X Y : Operand} {a b c : List UInt8}
theorem rn_catS (hx : ev F X = .string ⟨a.toArray⟩) (hy : ev F Y = .string ⟨b.toArray⟩) (h : catS a b = some c) : (execOp (ev F) ⟨od, .binOp .add t X Y u, ty, pos, af, gd⟩).run P w = .ok (.value (.string ⟨c.toArray⟩)) w := by
  obtain ⟨h1, rfl⟩ := catS_some h
  have h2 : ¬ (((⟨a.toArray⟩ : ByteArray).size + (⟨b.toArray⟩ : ByteArray).size : Nat) : Int) > IntKind.i64.max := by
    have e1 : (⟨a.toArray⟩ : ByteArray).size = a.length := rfl
    have e2 : (⟨b.toArray⟩ : ByteArray).size = b.length := rfl
    have e3 : IntKind.i64.max = 9223372036854775807 := by decide
    rw [e1, e2, e3]
    omega
  simp only [execOp, hx, hy, eqGuard, binOp, Op.stringOp, h2, ByteArray.mk_append_mk]
  simp
theorem rn_eqlS (hx : ev F X = .string ⟨a.toArray⟩) (hy : ev F Y = .string ⟨b.toArray⟩) : (execOp (ev F) ⟨od, .binOp .eql t X Y u, ty, pos, af, gd⟩).run P w = .ok (.value (.bool (a == b))) w := by
  simp [execOp, hx, hy, eqGuard, binOp, Op.stringOp]
theorem rn_neqS (hx : ev F X = .string ⟨a.toArray⟩) (hy : ev F Y = .string ⟨b.toArray⟩) : (execOp (ev F) ⟨od, .binOp .neq t X Y u, ty, pos, af, gd⟩).run P w = .ok (.value (.bool (!(a == b)))) w := by
  simp [execOp, hx, hy, eqGuard, binOp, Op.stringOp]
theorem rn_lenS {T : Nat} {ats : Array TypeId} (hT : P.underlying T = some .string) (ha : ats.toList[0]? = some T) (hx : ev F X = .string ⟨a.toArray⟩) :
    (execOp (ev F) ⟨od, .call { callee := .builtin .len, args := #[X], argTypes := ats }, ty, pos, af, gd⟩).run P w = .ok (.value (.int .i64 (a.length : Int))) w := by
  have h2 : ats[0]? = some T := by simpa using ha
  have e1 : (⟨a.toArray⟩ : ByteArray).size = a.length := rfl
  simp [execOp, hx, resolve, invoke, builtin, Builtin.len_, h2, run_underlying hT, goInt, e1]
theorem rn_idxS {T : Nat} {k : IntKind} {i : Int} {x : UInt8} (hT : P.underlying T = some .string) (hx : ev F X = .string ⟨a.toArray⟩) (hi : ev F Y = .int k i) (hix : ix a i = some x) :
    (execOp (ev F) ⟨od, .index T X Y, ty, pos, af, gd⟩).run P w = .ok (.value (.int .u8 (x.toNat : Int))) w := by
  obtain ⟨h0, h1, h2⟩ := ix_some hix
  have e : (⟨a.toArray⟩ : ByteArray)[i.toNat]? = some x := by
    rw [ByteArray.getElem?_lt' _ _ (show i.toNat < (⟨a.toArray⟩ : ByteArray).size from h1)]
    have : a[i.toNat] = x := (List.getElem?_eq_some_iff.1 h2).2
    exact congrArg some this
  simp [execOp, hx, hi, Instr.index, asIntOf, run_underlying hT, h0, e]
theorem rn_conv {T T' : Nat} {dd : TypeDesc} {k k' : IntKind} {n : Int} (hT : P.underlying T = some dd) (hT' : P.underlying T' = some (.int k)) (hx : ev F X = .int k' n) :
    (execOp (ev F) ⟨od, .convert T T' X, ty, pos, af, gd⟩).run P w = .ok (.value (.int k (k.wrap n))) w := by
  simp [execOp, hx, convert, run_underlying hT, run_underlying hT', Conv.intToInt]
end
/-! ### Going through a text -/
/-- The letter at a place of a text, and how many bytes it takes. -/
def decS (s : List UInt8) (p : Int) : Int × Int := let q := Utf8.decode ⟨s.toArray⟩ p.toNat; (q.1, (q.2 : Int))
section
variable {κ : Ctx} {p : List PanicEntry → Fr → World → Prop} {P : Program} {N : Nat} {F : Fr} {w w0 : World} {K : Fr → World → Prop} {d : Nat} {ty : TypeId} {pos : String} {af : Array Edge} {gd : Option (Nat × Bool)} {G G0 : Gm} {B : Nat} {L : List Row} {s : List UInt8} {X : Operand}
theorem Owns.newObj (h : Owns G w B L) (hS : Sat G w) (e sz n : Nat) (xs : List Value) (hl : xs.length = n * sz) : Owns G (w.alloc (mobj e sz n xs)) B (⟨e, sz, n, .map (some w.heap.size), xs⟩ :: L) := by
  have hk : Owns G (w.alloc (mobj e sz n xs)) B L := h.keep (fun b hb => Below.heap_alloc w _ b hb) (by simp) fun _ _ => rfl
  refine ⟨fun c hc => ?_, .cons (fun d hd g hg => ?_) h.apart, hk.base⟩
  · rcases List.mem_cons.1 hc with rfl | hc
    · refine ⟨⟨hl, .inr (.inr ⟨w.heap.size, rfl, h.base, Go.heap_alloc_new w _⟩)⟩, fun g hg => ?_⟩
      simp [blkOf] at hg
      subst hg
      cases hG : G w.heap.size with
      | none => rfl
      | some o => exact absurd (hS.lt hG) (Nat.lt_irrefl _)
    · exact hk.each c hc
  · simp [blkOf] at hg
    subst hg
    intro hd'
    exact absurd ((h.each d hd).lt hd').2 (Nat.lt_irrefl _)
theorem own_obj {k e sz n r : Nat} {cells : List Value} (hO : Owns G w B L) (hk : L[k]? = some ⟨e, sz, n, .map (some r), cells⟩) : w.heap[r]? = some (mobj e sz n cells) := by
  have hc := hO.each _ (List.mem_of_getElem? hk)
  rcases hc.1.2 with ⟨hv, _⟩ | ⟨_, _, _, _, hv, _⟩ | ⟨r', hv, _, hr⟩
  · cases hv
  · cases hv
  · cases hv; exact hr
/-- An object of the call's own turns into another one. -/
theorem own_turn {X' : Option Nat} {k e sz n n' r : Nat} {cells xs : List Value} {w' : World} (hS : Since B G0 w0 G w) (hO : Owns G w B L) (hk : L[k]? = some ⟨e, sz, n, .map (some r), cells⟩) (hl : xs.length = n' * sz)
    (hos : w'.os = w.os) (htp : w'.tape = w.tape) (hou : w'.output = w.output) (hsize : w'.heap.size = w.heap.size) (hoth : ∀ b, b ≠ r → w'.heap[b]? = w.heap[b]?) (hself : w'.heap[r]? = some (mobj e sz n' xs)) :
    Since B G0 w0 G w' ∧ Owns G w' B (L.set k ⟨e, sz, n', .map (some r), xs⟩) ∧ Keeps X' w w' := by
  have hc := hO.each _ (List.mem_of_getElem? hk)
  have hBr : B ≤ r := (hc.1.lt (g := r) rfl).1
  have hdiff : ∀ b, b < w.heap.size → blkOf (Value.map (some r)) ≠ some b → w'.heap[b]? = w.heap[b]? := fun b _ hne => hoth b (fun e => hne (by subst e; rfl))
  have hsat : Sat G w' := sat_write hS.sat hc hdiff
  have hbel : Below B w w' := ⟨hos, htp, hou, Nat.le_of_eq hsize.symm, fun b hb => hoth b (by omega)⟩
  exact ⟨hS.write hsat hbel, hO.write (c' := ⟨e, sz, n', _, _⟩) hk (Nat.le_of_eq hsize.symm) hdiff ⟨⟨hl, .inr (.inr ⟨r, rfl, hBr, hself⟩)⟩, hc.2⟩ fun g hg => .inl hg, keeps_row hc (Nat.le_of_eq hsize.symm) hdiff⟩
theorem own_put {X' : Option Nat} {k e sz n n' r : Nat} {cells xs : List Value} (hS : Since B G0 w0 G w) (hO : Owns G w B L) (hk : L[k]? = some ⟨e, sz, n, .map (some r), cells⟩) (hl : xs.length = n' * sz) :
    Since B G0 w0 G { w with heap := w.heap.setIfInBounds r (mobj e sz n' xs) } ∧ Owns G { w with heap := w.heap.setIfInBounds r (mobj e sz n' xs) } B (L.set k ⟨e, sz, n', .map (some r), xs⟩) ∧ Keeps X' w { w with heap := w.heap.setIfInBounds r (mobj e sz n' xs) } := by
  have hlt : r < w.heap.size := (Array.getElem?_eq_some_iff.1 (own_obj hO hk)).1
  refine own_turn hS hO hk hl rfl rfl rfl (by simp) (fun b hb => by simp [Array.getElem?_setIfInBounds_ne (Ne.symm hb)]) (by simp [hlt])
theorem OpP_rangeS {T : Nat} (hT : P.underlying T = some .string) (hS : Since B G0 w0 G w) (hO : Owns G w B L) (hX : ev F X = .string ⟨s.toArray⟩) (hd : Nat.blt d N = true)
    (h : ∀ r w', Since B G0 w0 G w' → Owns G w' B (⟨0, 1, 2, .map (some r), [.string ⟨s.toArray⟩, .int .i64 0]⟩ :: L) → K (upd F d (.pointer (some ⟨r, 0, none⟩))) w') : OpP κ P N p ⟨some d, .range T X, ty, pos, af, gd⟩ F w K := by
  refine OpP_eff (v := .pointer (some ⟨w.heap.size, 0, none⟩)) (w' := w.alloc (mobj 0 1 2 [.string ⟨s.toArray⟩, .int .i64 0])) ?_ hd (.alloc _ _) (h _ _ (hS.keep ((Below.refl _ w).alloc (Nat.le_refl _) _)) (hO.newObj hS.sat 0 1 2 [.string ⟨s.toArray⟩, .int .i64 0] rfl))
  simp only [execOp, hX, Instr.range, Sem.run_bind, run_underlying hT, Result.andThen_ok, Sem.run_pure]
  rfl
/-- The next letter. -/
theorem OpP_nextS {k r : Nat} {q : Int} (hS : Since B G0 w0 G w) (hO : Owns G w B L) (hk : L[k]? = some ⟨0, 1, 2, .map (some r), [.string ⟨s.toArray⟩, .int .i64 q]⟩) (hX : ev F X = .pointer (some ⟨r, 0, none⟩)) (hd : Nat.blt d N = true) (h0 : 0 ≤ q) (hlt : decide (q < (s.length : Int)) = true)
    (h : ∀ w', Since B G0 w0 G w' → Owns G w' B (L.set k ⟨0, 1, 2, .map (some r), [.string ⟨s.toArray⟩, .int .i64 (q + (decS s q).2)]⟩) → K (upd F d (.tuple #[.bool true, .int .i64 q, .int .i32 (decS s q).1])) w') : OpP κ P N p ⟨some d, .next X true, ty, pos, af, gd⟩ F w K := by
  have hm := own_obj hO hk
  have hlt' : q < (s.length : Int) := of_decide_eq_true hlt
  obtain ⟨m, rfl⟩ := Int.eq_ofNat_of_zero_le h0
  have hm' : m < s.length := by omega
  obtain ⟨q1, q2, q3⟩ := own_put (X' := κ.ex) (n' := 2) (xs := [.string ⟨s.toArray⟩, .int .i64 ((m : Int) + (decS s (m : Int)).2)]) hS hO hk rfl
  refine OpP_eff (v := .tuple #[.bool true, .int .i64 (m : Int), .int .i32 (decS s (m : Int)).1]) (w' := { w with heap := w.heap.setIfInBounds r (mobj 0 1 2 [.string ⟨s.toArray⟩, .int .i64 ((m : Int) + (decS s (m : Int)).2)]) }) ?_ hd q3 (h _ q1 q2)
  have hg : (getObj r).run P w = .ok (.stringIter ⟨s.toArray⟩ m) w := by
    have e : mobj 0 1 2 [Value.string ⟨s.toArray⟩, .int .i64 (m : Int)] = .stringIter ⟨s.toArray⟩ m := rfl
    rw [e] at hm
    simp [getObj, Sem.run, hm]
  have hp : (setObj r (.stringIter ⟨s.toArray⟩ (m + (Utf8.decode ⟨s.toArray⟩ m).2))).run P w = .ok () { w with heap := w.heap.setIfInBounds r (mobj 0 1 2 [.string ⟨s.toArray⟩, .int .i64 ((m : Int) + (decS s (m : Int)).2)]) } := by
    have e : mobj 0 1 2 [Value.string ⟨s.toArray⟩, .int .i64 ((m : Int) + (decS s (m : Int)).2)] = .stringIter ⟨s.toArray⟩ (m + (Utf8.decode ⟨s.toArray⟩ m).2) := by
      show Obj.stringIter _ ((m : Int) + ((Utf8.decode ⟨s.toArray⟩ ((m : Int).toNat)).2 : Int)).toNat = _
      rw [Int.toNat_natCast]
      congr 1
    rw [e]
    simp [setObj, Sem.run, hm]
    rfl
  have hsz : (⟨s.toArray⟩ : ByteArray).size = s.length := rfl
  simp only [execOp, hX, Instr.next, Sem.run_bind, hg, Result.andThen_ok, hsz, hm', if_true]
  rw [show (Utf8.decode ⟨s.toArray⟩ m) = ((Utf8.decode ⟨s.toArray⟩ m).1, (Utf8.decode ⟨s.toArray⟩ m).2) from rfl]
  simp only [hp, Result.andThen_ok, Sem.run_pure]
  rfl
theorem OpP_overS {k r : Nat} {q : Int} (hO : Owns G w B L) (hk : L[k]? = some ⟨0, 1, 2, .map (some r), [.string ⟨s.toArray⟩, .int .i64 q]⟩) (hX : ev F X = .pointer (some ⟨r, 0, none⟩)) (hd : Nat.blt d N = true) (h0 : 0 ≤ q) (hlt : decide (q < (s.length : Int)) = false)
    (h : K (upd F d (.tuple #[.bool false])) w) : OpP κ P N p ⟨some d, .next X true, ty, pos, af, gd⟩ F w K := by
  have hm := own_obj hO hk
  have hlt' : ¬ q < (s.length : Int) := of_decide_eq_false hlt
  obtain ⟨m, rfl⟩ := Int.eq_ofNat_of_zero_le h0
  have hm' : ¬ m < s.length := by omega
  refine OpP_eff (v := .tuple #[.bool false]) (w' := w) ?_ hd (.refl _) h
  have hg : (getObj r).run P w = .ok (.stringIter ⟨s.toArray⟩ m) w := by
    have e : mobj 0 1 2 [Value.string ⟨s.toArray⟩, .int .i64 (m : Int)] = .stringIter ⟨s.toArray⟩ m := rfl
    rw [e] at hm
    simp [getObj, Sem.run, hm]
  have hsz : (⟨s.toArray⟩ : ByteArray).size = s.length := rfl
  simp only [execOp, hX, Instr.next, Sem.run_bind, hg, Result.andThen_ok, hsz, hm', if_false, Sem.run_pure]
end
end Go.Proofs.YtcaflmilfhhikaaGreatDoor
