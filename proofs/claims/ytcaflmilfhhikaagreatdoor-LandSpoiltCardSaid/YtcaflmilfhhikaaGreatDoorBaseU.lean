/-
  Bytes of a text that are written; parts of a text; functions that may return ahead of what they defer.
-/
import Derived.Test.YtcaflmilfhhikaaGreatDoorBaseT
import Derived.Lib.AtoiErrMem
import Derived.Laws.BitsLemmas
import Derived.Laws.IdiomCopy
import Derived.Laws.IdiomStrings
namespace Go.Proofs.YtcaflmilfhhikaaGreatDoor
open Go.RowKit
set_option linter.unusedVariables false

section
variable {κ : Ctx} {p : List PanicEntry → Fr → World → Prop} {P : Program} {N : Nat} {F : Fr} {w : World} {K : Fr → World → Prop} {d : Nat} {od : Option Nat} {ty : TypeId} {pos : String} {af : Array Edge} {gd : Option (Nat × Bool)} {G G0 : Gm} {w0 : World} {B : Nat} {L : List Row} {X Y J Hi : Operand} {T T' e : Nat} {a b : List UInt8} {h : Int} {k' : IntKind}
theorem rn_sliceSH {a b : List UInt8} (hT : P.underlying T = some .string) (hx : ev F X = .string ⟨a.toArray⟩) (hh : ev F Hi = .int k' h) (e : subL a 0 h = some b) :
    (execOp (ev F) ⟨od, .slice T X none (some Hi) none, ty, pos, af, gd⟩).run P w = .ok (.value (.string ⟨b.toArray⟩)) w := by
  obtain ⟨h0, h1, h2, rfl⟩ := subL_some e
  have e1 : (⟨a.toArray⟩ : ByteArray).size = a.length := rfl
  simp only [execOp, hx, hh, Option.map_some, Option.map_none, Sem.run_bind, run_sliceAt_string _ _ _ _ _ _ hT, run_slice_string_h w T _ hT k' h h1 (by rw [e1]; exact h2), Result.andThen_ok, Sem.run_pure, extract_sub (Nat.zero_le h.toNat)]
  rfl
def inL (x : List UInt8) (i : Int) : Option Unit := if 0 ≤ i ∧ i.toNat < x.length then some () else none
theorem inL_some {x : List UInt8} {i : Int} {u : Unit} (h : inL x i = some u) : 0 ≤ i ∧ i.toNat < x.length := by
  unfold inL at h
  split at h
  · assumption
  · cases h
/-- A block of bytes that the call has laid and nobody else knows. -/
structure ByB (G : Gm) (w : World) (B g : Nat) (L : List Row) (s : List UInt8) : Prop where
  lo : B ≤ g
  gn : G g = none
  ap : ∀ c ∈ L, blkOf c.v ≠ some g
  at_ : ∃ (cur : Array Value) (l u : Nat) (e : TypeId), w.heap[g]? = some (Obj.cells cur e (l, u)) ∧ s.length ≤ l ∧ ∀ (j : Nat) (x : UInt8), s[j]? = some x → cur[j]? = some (Value.int .u8 (x.toNat : Int))
theorem OpP_convSB {x : List UInt8} {src : TypeDesc} (hs : P.underlying T = some src) (hd' : P.underlying T' = some (.slice e)) (he : P.underlying e = some (.int .u8)) (hS : Since B G0 w0 G w) (hO : Owns G w B L) (hx : ev F X = .string ⟨x.toArray⟩) (hd : Nat.blt d N = true)
    (h : ∀ g c w', Since B G0 w0 G w' → Owns G w' B L → ByB G w' B g L x → K (upd F d (.slice (some ⟨g, 0, none⟩) x.length c)) w') : OpP κ P N p ⟨some d, .convert T T' X, ty, pos, af, gd⟩ F w K := by
  have hb := Lib.bytesWorld_below w e ⟨x.toArray⟩
  have hsz : (⟨x.toArray⟩ : ByteArray).size = x.length := rfl
  refine OpP_eff (v := .slice (some ⟨w.heap.size, 0, none⟩) x.length (grownCap w x.length 0 e)) (w' := Lib.bytesWorld w e ⟨x.toArray⟩) ?_ hd (.below hb) (h _ _ _ (hS.keep hb) (hO.below hb) ⟨hO.base, ?_, fun c hc hg => ?_, _, _, _, _, Lib.bytesWorld_at_new w e ⟨x.toArray⟩, ?_, fun j y hj => ?_⟩)
  · simp only [execOp, hx, Sem.run_bind, Lib.run_convert_string_bytes w T T' e ⟨x.toArray⟩ hs hd' he, Result.andThen_ok, Sem.run_pure, hsz]
  · cases hG : G w.heap.size with
    | none => rfl
    | some o => exact absurd (hS.sat.lt hG) (Nat.lt_irrefl _)
  · exact absurd ((hO.each c hc).lt hg).2 (Nat.lt_irrefl _)
  · simp [Lib.bytesCells]
  · have hjl := (List.getElem?_eq_some_iff.1 hj).1
    have hjv := (List.getElem?_eq_some_iff.1 hj).2
    unfold Lib.bytesCells
    rw [Array.getElem?_append_left (by simpa using hjl)]
    simp [hj]
theorem rn_idxB {x : List UInt8} {g c bytes : Nat} {kd : IntKind} {j : Int} (hT : slB P T = some (e, 1, bytes)) (hx : ev F X = .slice (some ⟨g, 0, none⟩) x.length c) (hj : ev F J = .int kd j) (hr : 0 ≤ j ∧ j.toNat < x.length) :
    (execOp (ev F) ⟨od, .indexAddr T X J, ty, pos, af, gd⟩).run P w = .ok (.value (.pointer (some ⟨g, j.toNat, none⟩))) w := by
  obtain ⟨hu, inf, zz, h1, h2, h3, h4, h5, h6⟩ := slB_spec hT
  have p1 := hr.1
  have hlt : j < (x.length : Int) := by omega
  simp [execOp, hx, hj, Instr.indexAt, asIntOf, run_underlying hu, p1, hlt, sizeOf, typeInfo, h1, h3, add_addr]
theorem OpP_storeB {x y : List UInt8} {g : Nat} {j z : Int} (hT : szB P T = some 1) (hS : Since B G0 w0 G w) (hO : Owns G w B L) (hB : ByB G w B g L x) (hX : ev F X = .pointer (some ⟨g, j.toNat, none⟩)) (hY : ev F Y = .int .u8 (IntKind.u8.wrap z)) (hy : setIx x j (UInt8.ofNat (IntKind.u8.wrap z).toNat) = some y)
    (h : ∀ w', Since B G0 w0 G w' → Owns G w' B L → ByB G w' B g L y → K F w') : OpP κ P N p ⟨none, .store T X Y, ty, pos, af, gd⟩ F w K := by
  obtain ⟨h0, h1, rfl⟩ := setIx_some hy
  obtain ⟨hlo, hgn, hap, cur, l, u, e, hg, hl, hc⟩ := hB
  have hcj := hc j.toNat x[j.toNat] (List.getElem?_eq_getElem h1)
  have hcell : w.cell? ⟨g, j.toNat, none⟩ = some (.int .u8 (x[j.toNat].toNat : Int)) := by unfold World.cell?; rw [hg]; simpa using hcj
  have hfz : w.frozen? ⟨g, j.toNat, none⟩ = false := by
    unfold World.frozen?
    rw [hg]
    simp
    omega
  have hoth : ∀ b, b ≠ g → (w.setCell ⟨g, j.toNat, none⟩ (.int .u8 (IntKind.u8.wrap z))).heap[b]? = w.heap[b]? := fun b hb => Below.heap_setCell w ⟨g, j.toNat, none⟩ _ b hb
  have hsz : (w.setCell ⟨g, j.toNat, none⟩ (.int .u8 (IntKind.u8.wrap z))).heap.size = w.heap.size := by simp [World.setCell]
  have hsat : Sat G (w.setCell ⟨g, j.toNat, none⟩ (.int .u8 (IntKind.u8.wrap z))) := fun b o hG => by
    rw [hoth b (fun e' => by rw [e', hgn] at hG; cases hG)]
    exact hS.sat b o hG
  have hbel : Below B w (w.setCell ⟨g, j.toNat, none⟩ (.int .u8 (IntKind.u8.wrap z))) := ⟨rfl, rfl, rfl, Nat.le_of_eq hsz.symm, fun b hb => hoth b (by omega)⟩
  have hO' : Owns G (w.setCell ⟨g, j.toNat, none⟩ (.int .u8 (IntKind.u8.wrap z))) B L :=
    ⟨fun c hc => ⟨ownsRow_same (hO.each c hc).1 fun g' hg' => hoth g' (fun e' => hap c hc (e' ▸ hg')), (hO.each c hc).2⟩, hO.apart, by rw [hsz]; exact hO.base⟩
  obtain ⟨i, hi, hi1⟩ := Option.map_eq_some_iff.1 hT
  refine OpP_unit (w' := w.setCell ⟨g, j.toNat, none⟩ (.int .u8 (IntKind.u8.wrap z))) ?_ (.setCell _ _ _) (h _ (hS.write hsat hbel) hO' ⟨hlo, hgn, hap, cur.setIfInBounds j.toNat (.int .u8 (IntKind.u8.wrap z)), l, u, e, ?_, by simpa using hl, fun q y hq => ?_⟩)
  · have hst := run_store P w ⟨g, j.toNat, none⟩ (.int .u8 (IntKind.u8.wrap z)) .plain rfl
    rw [hcell] at hst
    simp only [hfz] at hst
    simp [execOp, hX, hY, Instr.storeAt, Instr.sureAddr, storeVar, sizeOf, typeInfo, hi, hi1, storeCells, Value.cells, add_addr, hst]
  · obtain ⟨hlt, hg'⟩ := Array.getElem?_eq_some_iff.1 hg
    show (w.heap.modify g _)[g]? = _
    rw [Array.getElem?_eq_getElem (by rw [Array.size_modify]; exact hlt), Array.getElem_modify_self, hg']
    rfl
  · rw [List.getElem?_set] at hq
    split at hq
    · rename_i e'
      subst e'
      have hjc := (Array.getElem?_eq_some_iff.1 hcj).1
      simp only [h1, if_true, Option.some.injEq] at hq
      subst hq
      rw [Array.getElem?_setIfInBounds_self_of_lt hjc]
      have w1 := IntKind.wrap_u8 z
      congr 2
      rw [UInt8.toNat_ofNat']
      omega
    · rename_i hne
      rw [Array.getElem?_setIfInBounds_ne hne]
      exact hc q y hq
theorem rn_convBS {x : List UInt8} {g c n : Nat} (hn : n = x.length) (hT : P.underlying T = some (.slice e)) (he : P.underlying e = some (.int .u8)) (hT' : P.underlying T' = some .string) (hB : ByB G w B g L x) (hx : ev F X = .slice (some ⟨g, 0, none⟩) n c) :
    (execOp (ev F) ⟨od, .convert T T' X, ty, pos, af, gd⟩).run P w = .ok (.value (.string ⟨x.toArray⟩)) w := by
  subst hn
  obtain ⟨_, _, _, cur, l, u, e', hg, hl, hc⟩ := hB
  have hcs : ∀ j (hj : j < x.length), w.cell? ((⟨g, 0, none⟩ : Addr).add j) = some (.int .u8 (x[j].toNat : Int)) := fun j hj => by
    rw [add_addr]
    unfold World.cell?
    simp only [hg]
    simpa using hc j x[j] (List.getElem?_eq_getElem hj)
  simp only [execOp, hx, Sem.run_bind, run_convert_bytes_back w T T' e ⟨g, 0, none⟩ c x hT he hT' hcs, Result.andThen_ok, Sem.run_pure]
end
/-! ### A function that may return ahead of what it defers -/
section
variable {P : Program} {w : World}
def WB (B : Nat) (P : Program) (N : Nat) (fn : Func) (R : Ending → World → Prop) (c : Code) (F : Fr) (w : World) : Prop :=
  ∀ (a : Act) (wI : World), St ⟨none, none, B, true, []⟩ N wI a w → frOf a = F → c.wpIn Fence.wide 0 P (bodyPostM Fence.wide 0 P fn R) a w
theorem WB_seq {B N : Nat} {fn : Func} {R : Ending → World → Prop} {c d : Code} {F : Fr} (Lv : Fr → World → Prop) (hL : ∀ (tmps : Array Value) w', Lv (fun t => tmps.getD t undef) w' → LeavesInM Fence.wide 0 P fn tmps R [] .returning w')
    (h : WC ⟨none, none, B, true, []⟩ P N c ⟨WB B P N fn R d, Lv, [], fun _ _ _ => False⟩ F w) : WB B P N fn R (.seq c d) F w := by
  intro a wI h1 h3
  refine wpIn_seq (wpIn_mono (h a wI h1 h3) ?_)
  rintro e a' w' ⟨p1, p3⟩
  have hds := p1.calm.none rfl
  cases e with
  | normal => exact p3 a' wI p1 rfl
  | ret => show LeavesInM _ _ _ _ _ _ a'.defers _ _; rw [hds]; exact hL _ _ p3
  | exit k => obtain ⟨K, hK, _⟩ := p3; cases hK
  | goto l => exact p3.elim
  | panic c => exact p3.elim
  | outgrown => exact p3.elim
theorem WB_defer {B N : Nat} {fn : Func} {R : Ending → World → Prop} {id : Nat} {l : List Oper} {c1 : Code} {F : Fr} (S : Deferred → Fr → World → Prop) (Q : Deferred → List PanicEntry → Fr → World → Prop)
    (hS : ∀ (d : Deferred) (tmps : Array Value) w', S d (fun t => tmps.getD t undef) w' → LeavesInM Fence.wide 0 P fn tmps R [d] .returning w')
    (hQ : ∀ (d : Deferred) ch (tmps : Array Value) w', Q d ch (fun t => tmps.getD t undef) w' → LeavesInM Fence.wide 0 P fn tmps R [d] (.panicking ch) w')
    (h : WLd B P N l.toArray (fun d => WC ⟨none, none, B, true, [d]⟩ P N c1 ⟨S d, S d, [], Q d⟩) l F w) : WB B P N fn R (.seq (.region id l.toArray false) c1) F w := by
  intro a wI h1 h3
  refine wpIn_seq (wpIn_mono (wpIn_region_lit (h a wI h1 h3)) ?_)
  rintro e a2 w2 ⟨rfl, d, q1, q2⟩
  refine wpIn_mono (q2 a2 wI q1 rfl) ?_
  rintro e a3 w3 ⟨s1, s2⟩
  have hds := s1.calm.none rfl
  cases e with
  | normal => show LeavesInM _ _ _ _ _ _ a3.defers _ _; rw [hds]; exact hS _ _ _ s2
  | ret => show LeavesInM _ _ _ _ _ _ a3.defers _ _; rw [hds]; exact hS _ _ _ s2
  | panic c => show LeavesInM _ _ _ _ _ _ a3.defers _ _; rw [hds]; exact hQ _ _ _ _ s2
  | exit k => obtain ⟨K, hK, _⟩ := s2; cases hK
  | goto l => exact s2.elim
  | outgrown => exact s2.elim
theorem enterB {f : FuncId} {fn : Func} {c : Code} {al : List Value} {R : Ending → World → Prop} {N : Nat} (hf : P.funcs[f]? = some fn) (hb : fn.body = some c) (hn : fn.ntmps = N) (hN : Nat.ble al.length N = true)
    (h : WB w.heap.size P N fn R c (nthD al) w) : Calls P f al.toArray w R := by
  have hle := Nat.le_of_ble_eq_true hN
  have h0 : CallsIn Fence.wide 0 P f al.toArray w R := by
    refine callsIn_of_wp_marks hf hb trivial (h _ w ⟨?_, Calm.nil _ _, Keeps.refl _, Nat.le_refl _⟩ ?_)
    · simp [hn]; omega
    · exact frOf_enter al _ _
  exact callsIn_wide.1 h0
end
end Go.Proofs.YtcaflmilfhhikaaGreatDoor
