/-
  strings.Builder: what is written is put behind what was; the text is what was written.
-/
import Derived.Test.YtcaflmilfhhikaaGreatDoorBaseP
import Derived.Test.YtcaflmilfhhikaaGreatDoorProg
namespace Go.Proofs.YtcaflmilfhhikaaGreatDoor
open Go.RowKit
set_option linter.unusedVariables false
set_option maxRecDepth 20000

theorem bu_fd0 : fldB Tryz.prog 93 0 = some 0 := by kernel_rfl
theorem bu_fd1 : fldB Tryz.prog 93 1 = some 1 := by kernel_rfl
theorem bu_na115 : naB Tryz.prog 91 = true := by kernel_rfl
theorem bu_na116 : naB Tryz.prog 39 = true := by kernel_rfl
theorem bu_sz115 : szB Tryz.prog 91 = some 1 := by kernel_rfl
theorem bu_sz116 : szB Tryz.prog 39 = some 1 := by kernel_rfl
theorem bu_cb97 : callB Tryz.prog 73 = true := by kernel_rfl
theorem bu_sl116 : slB Tryz.prog 39 = some (5, 1, 1) := by kernel_rfl
theorem bu_mixed : Tryz.prog.follows .mixedOrders = true := by kernel_rfl
theorem bu_info : Tryz.prog.info? 93 = some Tryz.t93 := by kernel_rfl
theorem bu_lies : liesAt Tryz.prog Tryz.prog.depth 93 (2 / Tryz.prog.cellsOf 93) 0 93 1 = true := by kernel_rfl
theorem bu_c5 : Tryz.prog.cellsOf 5 = 1 := by kernel_rfl
section
variable {P : Program} {F : Fr} {w : World} {od : Option Nat} {ty t u e : TypeId} {pos : String} {af : Array Edge} {gd : Option (Nat × Bool)} {X Y : Operand} {a : Addr}
theorem rn_eqlNN (hT : P.underlying t = some (.pointer e)) (hx : ev F X = .pointer none) (hy : ev F Y = .pointer none) : (execOp (ev F) ⟨od, .binOp .eql t X Y u, ty, pos, af, gd⟩).run P w = .ok (.value (.bool true)) w := by
  have h : ∀ d : Nat, (Op.equalIn (d + 1) t (.pointer none) (.pointer none)).run P w = .ok true w := fun d => by simp [Op.equalIn, run_underlying hT]
  simp [execOp, hx, hy, eqGuard, binOp, Op.equal, Op.maxDepth, h 9999]
theorem rn_eqlSN (hT : P.underlying t = some (.pointer e)) (hx : ev F X = .pointer (some a)) (hy : ev F Y = .pointer none) : (execOp (ev F) ⟨od, .binOp .eql t X Y u, ty, pos, af, gd⟩).run P w = .ok (.value (.bool false)) w := by
  have h : ∀ d : Nat, (Op.equalIn (d + 1) t (.pointer (some a)) (.pointer none)).run P w = .ok false w := fun d => by simp [Op.equalIn, run_underlying hT]
  simp [execOp, hx, hy, eqGuard, binOp, Op.equal, Op.maxDepth, h 9999]
theorem rn_neqPP {j : TypeInfo} (hT : P.underlying t = some (.pointer e)) (hj : P.info? e = some j) (hx : ev F X = .pointer (some a)) (hy : ev F Y = .pointer (some a)) : (execOp (ev F) ⟨od, .binOp .neq t X Y u, ty, pos, af, gd⟩).run P w = .ok (.value (.bool false)) w := by
  have h := Lib.run_neq_ptr_same w a hT hj
  simp only [execOp, hx, hy, eqGuard, Sem.run_bind]
  simp [h]
theorem rn_toU {d' : TypeId} {j : TypeInfo} {cells : Nat} (hs : P.underlying t = some (.pointer e)) (hd : P.underlying d' = some .unsafePointer) (ht : P.info? e = some j) (hj : j.size ≠ 0) {b : Nat} {e2 : TypeId} (hsh : w.shape? b = some (e2, cells)) (hoff : 0 < cells) (hx : ev F X = .pointer (some ⟨b, 0, none⟩)) :
    (execOp (ev F) ⟨od, .convert t d' X, ty, pos, af, gd⟩).run P w = .ok (.value (.pointer (some ⟨b, 0, none⟩))) w := by
  simp [execOp, hx, Lib.run_to_unsafe w ⟨b, 0, none⟩ hs hd ht hj hsh hoff]
theorem rn_fromU {d' : TypeId} {j : TypeInfo} {cells : Nat} (hs : P.underlying t = some .unsafePointer) (hd : P.underlying d' = some (.pointer e)) (ht : P.info? e = some j) {b : Nat} {e2 : TypeId} (hsh : w.shape? b = some (e2, cells)) (hl : liesAt P P.depth e2 (cells / P.cellsOf e2) 0 e 1 = true) (hx : ev F X = .pointer (some ⟨b, 0, none⟩)) :
    (execOp (ev F) ⟨od, .convert t d' X, ty, pos, af, gd⟩).run P w = .ok (.value (.pointer (some ⟨b, 0, none⟩))) w := by
  simp [execOp, hx, Lib.run_from_unsafe w ⟨b, 0, none⟩ hs hd ht hsh hl]
theorem rn_noE {v : Value} {ats : Array TypeId} (hx : ev F X = v) : (execOp (ev F) ⟨od, .call { callee := .value (.func 84), args := #[X], argTypes := ats }, ty, pos, af, gd⟩).run Tryz.prog w = .ok (.value v) w := by
  have h := run_callFunc_extern Tryz.func84 (by kernel_rfl) (by kernel_rfl) (by kernel_rfl) (e := Extern.AbiNoEscape.same) (by kernel_rfl) #[v] w
  rw [Lib.run_noEscape] at h
  have he : ev F (.func 84) = .func (.func 84) #[] #[] := rfl
  simp only [execOp, resolve, he, hx, Deferred.ofValue, invoke, List.map_toArray, List.map_cons, List.map_nil, Sem.run_bind, Sem.run_pure, Result.andThen_ok]
  simpa using h
theorem rn_usd {T : TypeId} {n c : Nat} (hc : c ≠ 0) (hx : ev F X = .slice (some a) n c) : (execOp (ev F) ⟨od, .call { callee := .builtin .unsafeSliceData, args := #[X], argTypes := #[T] }, ty, pos, af, gd⟩).run P w = .ok (.value (.pointer (some a))) w := by
  have := Lib.run_unsafeSliceData_row (P := P) w #[T] ty a n c hc
  simp [execOp, resolve, invoke, builtin, hx, this]
theorem rn_uss {T T' : TypeId} {w1 : World} {v x y : Value} (hu : (Builtin.unsafeString_ #[T, T'] ty #[x, y]).run P w = .ok v w1) (hx : ev F X = x) (hy : ev F Y = y) : (execOp (ev F) ⟨od, .call { callee := .builtin .unsafeString, args := #[X, Y], argTypes := #[T, T'] }, ty, pos, af, gd⟩).run P w = .ok (.value v) w1 := by
  simp [execOp, resolve, invoke, builtin, hx, hy, hu]
end
set_option maxHeartbeats 1000000 in
theorem f73_ok {B : Nat} {G0 : Gm} {w0 : World} {Gc : Gm} {wc : World} {Lq : List Row} {b : Nat} {p v : Value} (hS : Since B G0 w0 Gc wc) (hO : Owns Gc wc B (bx 93 b p v :: Lq)) (hp : p = .pointer none ∨ p = .pointer (some ⟨b, 0, none⟩)) :
    Calls Tryz.prog 73 [.pointer (some ⟨b, 0, none⟩)].toArray wc (RetO B G0 w0 Gc wc (fun G L r => r = .tuple #[] ∧ L = bx 93 b (.pointer (some ⟨b, 0, none⟩)) v :: Lq ∧ Gc = G)) := by
  have hsh : wc.shape? b = some (93, 2) := by simp [World.shape?, bx_heap hO (k := 0) rfl]
  rcases hp with rfl | rfl
  · refine enterL (N := 20) (rs := []) hO.base Tryz.func73 rfl rfl rfl rfl ?_
    refine WC_seq ?_
    refine WC_region ?_
    refine WL_val (rn_move (v := (.pointer (some ⟨b, 0, none⟩))) rfl) rfl ?_
    refine WL_val (v := (.pointer (some ⟨b, 0, none⟩))) (by kernel_rfl) rfl ?_
    refine WL_val (rn_fld bu_fd0 rfl) rfl ?_
    refine WL_val (rn_load bu_na115 rfl (bx_cell0 hO (k := 0) rfl)) rfl ?_
    refine WL_val (rn_eqlNN Tryz.underlying91 rfl rfl) rfl ?_
    refine WL_nil ?_
    refine WC_condT _ rfl rfl ?_
    refine WC_region ?_
    refine WL_val (rn_move (v := (.pointer (some ⟨b, 0, none⟩))) rfl) rfl ?_
    refine WL_val (rn_move (v := (.pointer (some ⟨b, 0, none⟩))) rfl) rfl ?_
    refine WL_val (rn_toU Tryz.underlying91 Tryz.underlying131 bu_info (by decide) hsh (by decide) rfl) rfl ?_
    refine WL_val (rn_noE (v := (.pointer (some ⟨b, 0, none⟩))) rfl) rfl ?_
    refine WL_val (rn_fromU Tryz.underlying131 Tryz.underlying91 bu_info hsh bu_lies rfl) rfl ?_
    refine WL_val (v := (.pointer (some ⟨b, 0, none⟩))) (by kernel_rfl) rfl ?_
    refine WL_val (rn_fld bu_fd0 rfl) rfl ?_
    refine WL_op rfl (OpP_bx0 (k := 0) bu_sz115 hS hO rfl rfl rfl rfl rfl (fun w1 hS hO => ?_))
    refine WL_nil ?_
    exact ⟨[], trivial, Gc, _, Gle.refl _, hS, hO, rfl, rfl, rfl⟩
  · refine enterL (N := 20) (rs := []) hO.base Tryz.func73 rfl rfl rfl rfl ?_
    refine WC_seq ?_
    refine WC_region ?_
    refine WL_val (rn_move (v := (.pointer (some ⟨b, 0, none⟩))) rfl) rfl ?_
    refine WL_val (v := (.pointer (some ⟨b, 0, none⟩))) (by kernel_rfl) rfl ?_
    refine WL_val (rn_fld bu_fd0 rfl) rfl ?_
    refine WL_val (rn_load bu_na115 rfl (bx_cell0 hO (k := 0) rfl)) rfl ?_
    refine WL_val (rn_eqlSN Tryz.underlying91 rfl rfl) rfl ?_
    refine WL_nil ?_
    refine WC_condF _ rfl rfl ?_
    refine WC_seq ?_
    refine WC_region ?_
    refine WL_val (rn_move (v := (.pointer (some ⟨b, 0, none⟩))) rfl) rfl ?_
    refine WL_val (v := (.pointer (some ⟨b, 0, none⟩))) (by kernel_rfl) rfl ?_
    refine WL_val (rn_fld bu_fd0 rfl) rfl ?_
    refine WL_val (rn_load bu_na115 rfl (bx_cell0 hO (k := 0) rfl)) rfl ?_
    refine WL_val (rn_move (v := (.pointer (some ⟨b, 0, none⟩))) rfl) rfl ?_
    refine WL_val (rn_neqPP Tryz.underlying91 bu_info rfl rfl) rfl ?_
    refine WL_nil ?_
    refine WC_condF _ rfl rfl ?_
    refine WC_skip ?_
    exact ⟨[], trivial, Gc, _, Gle.refl _, hS, hO, rfl, rfl, rfl⟩
set_option maxHeartbeats 1000000 in
theorem f52_ok {B : Nat} {G0 : Gm} {w0 : World} {Gc : Gm} {wc : World} {Lq : List Row} {b : Nat} {p : Value} {a : Option Addr} {n c : Nat} {cells : List Value} {xs s zs : List UInt8} (hS : Since B G0 w0 Gc wc) (hO : Owns Gc wc B (bx 93 b p (.slice a n c) :: ⟨5, 1, n, .slice a n c, cells⟩ :: Lq)) (hp : p = .pointer none ∨ p = .pointer (some ⟨b, 0, none⟩)) (hn : n = xs.length) (hrd : Rd RU8 1 Gc cells xs) (H : catS xs s = some zs) :
    Calls Tryz.prog 52 [.pointer (some ⟨b, 0, none⟩), .string ⟨s.toArray⟩].toArray wc (RetO B G0 w0 Gc wc (fun G L r => ∃ a' n' c' cells', r = .tuple #[.int .i64 (s.length : Int), .nilIface] ∧ L = bx 93 b (.pointer (some ⟨b, 0, none⟩)) (.slice a' n' c') :: ⟨5, 1, n', .slice a' n' c', cells'⟩ :: Lq ∧ n' = zs.length ∧ Rd RU8 1 G cells' zs)) := by
  refine enterL (N := 19) (rs := [.tmp 4, .tmp 5]) hO.base Tryz.func52 rfl rfl rfl rfl ?_
  refine WC_seq ?_
  refine WC_region ?_
  refine WL_val (rn_assign (v := (.int .i64 0)) rfl) rfl ?_
  refine WL_val (rn_assign (v := .nilIface) rfl) rfl ?_
  refine WL_nil ?_
  refine WC_seq ?_
  refine WC_region ?_
  refine WL_val (rn_move (v := (.pointer (some ⟨b, 0, none⟩))) rfl) rfl ?_
  refine WL_op rfl (OpP_lent (fi := []) (al := [.pointer (some ⟨b, 0, none⟩)]) (ca := []) bu_cb97 (f73_ok hS hO hp) rfl rfl rfl (fun v1 G1 w1 L1 le1 hS hO hv => ?_))
  obtain ⟨rfl, rfl, rfl⟩ := hv
  have hO : Owns Gc w1 B (bx 93 b (.pointer (some ⟨b, 0, none⟩)) (.slice a n c) :: ⟨5, 1, n, .slice a n c, cells⟩ :: Lq) := hO
  refine WL_nil ?_
  refine WC_seq ?_
  refine WC_region ?_
  refine WL_val (rn_move (v := (.pointer (some ⟨b, 0, none⟩))) rfl) rfl ?_
  refine WL_val (rn_move (v := (.pointer (some ⟨b, 0, none⟩))) rfl) rfl ?_
  refine WL_val (v := (.pointer (some ⟨b, 0, none⟩))) (by kernel_rfl) rfl ?_
  refine WL_val (rn_fld bu_fd1 rfl) rfl ?_
  refine WL_val (rn_load bu_na116 rfl (bx_cell1 hO (k := 0) rfl)) rfl ?_
  refine WL_val (rn_move (v := (.string ⟨s.toArray⟩)) rfl) rfl ?_
  refine WL_op rfl (OpP_appendS (k := 1) bu_sl116 Tryz.underlying9 hS hO rfl hn hrd H rfl rfl rfl rfl rfl (fun a1 c1 w2 cells1 hS hO hr => ?_))
  refine WL_val (v := (.pointer (some ⟨b, 0, none⟩))) (by kernel_rfl) rfl ?_
  refine WL_val (rn_fld bu_fd1 rfl) rfl ?_
  refine WL_op rfl (OpP_bx1 (k := 0) bu_sz116 hS hO rfl rfl rfl rfl rfl (fun w3 hS hO => ?_))
  refine WL_nil ?_
  refine WC_seq ?_
  refine WC_region ?_
  refine WL_val (rn_move (v := (.string ⟨s.toArray⟩)) rfl) rfl ?_
  refine WL_val (rn_lenS Tryz.underlying9 rfl rfl) rfl ?_
  refine WL_val (rn_assign (v := (.int .i64 (s.length : Int))) rfl) rfl ?_
  refine WL_val (rn_assign (v := .nilIface) rfl) rfl ?_
  refine WL_nil ?_
  refine WC_ret ?_
  exact ⟨[.int .i64 (s.length : Int), .nilIface], ⟨rfl, rfl, trivial⟩, Gc, _, le1, hS, hO, _, _, _, _, rfl, rfl, rfl, hr⟩
/-! ### The text -/
theorem liesAt_bytesO {P : Program} {e : TypeId} (hc : P.cellsOf e = 1) (count off n : Nat) (hn : off + n ≤ count) : liesAt P P.depth e count off e n = true := by
  have hd : P.depth = (2 * (P.types.size + Made.depth) + 1) + 1 := rfl
  rw [hd]
  simp only [liesAt, Bool.or_eq_true]
  left
  rw [hd]
  simp [rowAt, hc, hn, sameLayout, Nat.mod_one]
theorem run_unsafeStringO {P : Program} (w : World) (pt it ty e : TypeId) (hp : P.underlying pt = some (.pointer e)) (hc : P.cellsOf e = 1) (g o cells : Nat) (hsh : w.shape? g = some (e, cells)) (l : List UInt8) (h0 : l ≠ []) (hn : o + l.length ≤ cells) (h63 : l.length ≤ 9223372036854775807)
    (hcell : ∀ j x, l[j]? = some x → w.cell? ((⟨g, o, none⟩ : Addr).add j) = some (.int .u8 x.toNat)) :
    (Builtin.unsafeString_ #[pt, it] ty #[.pointer (some ⟨g, o, none⟩), .int .i64 l.length]).run P w = .ok (.string ⟨l.toArray⟩) (w.freeze ⟨g, o, none⟩ l.length) := by
  have hl : l.length ≠ 0 := by simpa using h0
  have hlb := Lib.run_loadBytes (P := P) w l ⟨g, o, none⟩ .empty hcell
  have hlies := liesAt_bytesO (P := P) hc (cells / P.cellsOf e) o l.length (by rw [hc]; simpa using hn)
  have h63' : ¬ (9223372036854775807 : Int) < (l.length : Int) := by omega
  have hdef : Builtin.unsafeString_ #[pt, it] ty #[.pointer (some ⟨g, o, none⟩), .int .i64 l.length] =
      (do
        let n ← asInt (.int .i64 l.length)
        if n < 0 then runtimePanic (.error "unsafe.String: len out of range")
        if n > IntKind.i64.max then unsupported (.unsafePointer "String: a length above the largest int")
        if n = 0 then pure (.string .empty)
        else if ← variablesAt ⟨g, o, none⟩ (← elemOf pt) n.toNat then do
          let s ← loadBytes ⟨g, o, none⟩ .empty n.toNat
          freeze ⟨g, o, none⟩ n.toNat
          pure (.string s)
        else unsupported (.unsafePointer "String: not so many bytes at ptr")) := rfl
  rw [hdef]
  have hmax : IntKind.i64.max = 9223372036854775807 := rfl
  have hneg : ¬ (l.length : Int) < 0 := by omega
  simp [asInt, asIntOf, hmax, h63', hneg, hl, variablesAt, hsh, elemOf, run_underlying hp, hlies, hlb]
theorem Keeps.freeze {X : Option Nat} (w : World) (a : Addr) (n : Nat) : Keeps X w (w.freeze a n) := by
  unfold World.freeze
  split
  · exact .refl w
  · refine ⟨by simp, fun D o hX hD ho => ?_⟩
    obtain ⟨hlt, hD'⟩ := Array.getElem?_eq_some_iff.1 hD
    by_cases e : D = a.block
    · subst e
      show (w.heap.modify a.block _)[a.block]? = some o
      rw [Array.getElem?_eq_getElem (by rw [Array.size_modify]; exact hlt), Array.getElem_modify_self, hD']
      cases o <;> first | rfl | (simp [isFix] at ho)
    · show (w.heap.modify a.block _)[D]? = some o
      rw [Array.getElem?_modify, if_neg (Ne.symm e)]
      exact hD
/-- Bytes that are read as a text: they are written no more. -/
def FzB (G : Gm) (a : Option Addr) (n : Nat) : Prop := ∃ g o cur, a = some ⟨g, o, none⟩ ∧ G g = some (.cells cur 5 (o, o + n)) ∧ o + n ≤ cur.size
theorem FzB.mono {G G' : Gm} {a : Option Addr} {n : Nat} (h : FzB G a n) (hle : Gle G G') : FzB G' a n := let ⟨g, o, cur, h1, h2, h3⟩ := h; ⟨g, o, cur, h1, hle _ _ h2, h3⟩
set_option maxHeartbeats 1000000 in
theorem walk55 {wc w1 : World} {b g o n c : Nat} {xs : List UInt8} (hcell : wc.cell? ⟨b, 1, none⟩ = some (.slice (some ⟨g, o, none⟩) n c)) (hc0 : c ≠ 0) (hn : n = xs.length) (hu : (Builtin.unsafeString_ #[127, 3] 9 #[.pointer (some ⟨g, o, none⟩), .int .i64 xs.length]).run Tryz.prog wc.drew = .ok (.string ⟨xs.toArray⟩) w1) (hk : Keeps none wc.drew w1) :
    Calls Tryz.prog 55 [.pointer (some ⟨b, 0, none⟩)].toArray wc fun e w' => ∃ v, e = .returned v ∧ Keeps none wc w' ∧ v = .string ⟨xs.toArray⟩ ∧ w' = w1 := by
  refine enterN (S := fun v w' => v = .string ⟨xs.toArray⟩ ∧ w' = w1) Tryz.func55 rfl rfl rfl (T := fun F w' => F 2 = .string ⟨xs.toArray⟩ ∧ w' = w1) (fun tmps w' h => ⟨_, results_tmp rfl _ _ _, h⟩) ?_
  refine WC_seq ?_
  refine WC_region ?_
  refine WL_val (rn_assign (v := (.string ⟨([] : List UInt8).toArray⟩)) rfl) rfl ?_
  refine WL_nil ?_
  refine WC_seq ?_
  refine WC_regionD bu_mixed (fun _ w => w.cell? ⟨b, 1, none⟩ = some (.slice (some ⟨g, o, none⟩) n c)) (.fl 0 (.fl 1 (.fl 2 (.fl 3 (.fl 4 (.fl 5 (.fl 6 (.fl 7 (.fl 8 (.fl 9 (.on 10 (.on 11 .nil)))))))))))) (by kernel_rfl) rfl (by kernel_rfl) (fun _ => hcell) ?_
  refine WD_val rfl (fun w hw => rn_move (v := (.pointer (some ⟨b, 0, none⟩))) rfl) rfl ?_
  refine WD_val (v := (.pointer (some ⟨b, 0, none⟩))) rfl (fun w hw => by kernel_rfl) rfl ?_
  refine WD_val rfl (fun w hw => rn_fld bu_fd1 rfl) rfl ?_
  refine WD_val rfl (fun w hw => rn_load bu_na116 rfl hw) rfl ?_
  refine WD_val rfl (fun w hw => rn_usd hc0 rfl) rfl ?_
  refine WD_val rfl (fun w hw => rn_move (v := (.pointer (some ⟨b, 0, none⟩))) rfl) rfl ?_
  refine WD_val (v := (.pointer (some ⟨b, 0, none⟩))) rfl (fun w hw => by kernel_rfl) rfl ?_
  refine WD_val rfl (fun w hw => rn_fld bu_fd1 rfl) rfl ?_
  refine WD_val rfl (fun w hw => rn_load bu_na116 rfl hw) rfl ?_
  refine WD_val rfl (fun w hw => rn_len bu_sl116 rfl rfl hn) rfl ?_
  refine WD_op rfl rfl (OpP_eff (v := .string ⟨xs.toArray⟩) (w' := w1) (rn_uss hu rfl rfl) rfl hk ?_)
  refine ⟨fun _ h => noneed (by kernel_rfl) h, ?_⟩
  refine WD_op rfl rfl (OpP_val (rn_assign (v := (.string ⟨xs.toArray⟩)) rfl) rfl ?_)
  refine ⟨fun _ h => noneed (by kernel_rfl) h, ?_⟩
  refine WD_nil ?_
  refine WC_ret ?_
  exact ⟨rfl, rfl⟩
theorem freeze_heap {w : World} {g o n : Nat} {cur : Array Value} {e : TypeId} {fz : Nat × Nat} (hn : n ≠ 0) (hg : w.heap[g]? = some (.cells cur e fz)) (hfz : fz = (0, 0) ∨ fz = (o, o + n)) :
    (w.freeze ⟨g, o, none⟩ n).heap[g]? = some (.cells cur e (o, o + n)) ∧ (∀ k, k ≠ g → (w.freeze ⟨g, o, none⟩ n).heap[k]? = w.heap[k]?) ∧ (w.freeze ⟨g, o, none⟩ n).heap.size = w.heap.size ∧ (w.freeze ⟨g, o, none⟩ n).os = w.os ∧ (w.freeze ⟨g, o, none⟩ n).tape = w.tape ∧ (w.freeze ⟨g, o, none⟩ n).output = w.output := by
  obtain ⟨hlt, hg'⟩ := Array.getElem?_eq_some_iff.1 hg
  unfold World.freeze
  rw [if_neg hn]
  refine ⟨?_, fun k hk => ?_, by simp, rfl, rfl, rfl⟩
  · show (w.heap.modify g _)[g]? = _
    rw [Array.getElem?_eq_getElem (by rw [Array.size_modify]; exact hlt), Array.getElem_modify_self, hg']
    rcases hfz with rfl | rfl
    · rfl
    · simp only [Option.some.injEq, Obj.cells.injEq, true_and]
      rw [if_neg (by simp; omega)]
      simp
  · show (w.heap.modify g _)[k]? = _
    rw [Array.getElem?_modify, if_neg (Ne.symm hk)]
/-- The text of what was written: the bytes join what stays. -/
theorem f55_own {B : Nat} {G0 : Gm} {w0 : World} {Gc : Gm} {wc : World} {Lq : List Row} {b : Nat} {p : Value} {a : Option Addr} {n c : Nat} {cells : List Value} {xs : List UInt8} (hS : Since B G0 w0 Gc wc) (hO : Owns Gc wc B (bx 93 b p (.slice a n c) :: ⟨5, 1, n, .slice a n c, cells⟩ :: Lq)) (hn : n = xs.length) (hrd : Rd RU8 1 Gc cells xs) (h0 : xs ≠ []) :
    Calls Tryz.prog 55 [.pointer (some ⟨b, 0, none⟩)].toArray wc (RetO B G0 w0 Gc wc (fun G L r => r = .string ⟨xs.toArray⟩ ∧ L = bx 93 b p (.slice a n c) :: Lq ∧ RSl RU8 1 G a n c xs ∧ FzB G a n)) := by
  have hk : (bx 93 b p (.slice a n c) :: ⟨5, 1, n, .slice a n c, cells⟩ :: Lq : List Row)[1]? = some ⟨5, 1, n, .slice a n c, cells⟩ := rfl
  have hc := hO.each _ (List.mem_of_getElem? hk)
  have hl0 : xs.length ≠ 0 := by simpa using h0
  obtain ⟨g, o, cap, cur, hv, hBg, hg, hnc, hcm, hcs, htake⟩ : ∃ g o cap cur, Value.slice a n c = .slice (some ⟨g, o, none⟩) n cap ∧ B ≤ g ∧ wc.heap[g]? = some (.cells cur 5 (0, 0)) ∧ n ≤ cap ∧ cap ≤ maxLen ∧ o + cap * 1 ≤ cur.size ∧ (cur.toList.drop o).take (n * 1) = cells := by
    rcases hc.1.2 with ⟨_, hz⟩ | h | ⟨r, hv, _⟩
    · have hz : n = 0 := hz
      omega
    · exact h
    · have hv : Value.slice a n c = _ := hv
      cases hv
  cases hv
  have hcell := bx_cell1 hO (k := 0) rfl
  have hcl := u8_rd hrd
  have hu := run_unsafeStringO (P := Tryz.prog) wc.drew 127 3 9 5 Tryz.underlying127 bu_c5 g o cur.size (by have : wc.drew.heap[g]? = some (.cells cur 5 (0, 0)) := hg; simp [World.shape?, this]) xs h0 (by omega) (by simp only [maxLen] at hcm; omega) (fun j x hx => by
    have h1 : ORow wc B 5 1 (.slice (some ⟨g, o, none⟩) n c) n cells := hc.1
    have h2 : cells[j]? = some (.int .u8 (x.toNat : Int)) := by rw [hcl]; simp [hx]
    have := h1.cells h2
    rw [add_addr]
    exact this)
  obtain ⟨f1, f2, f3, f4, f5, f6⟩ := freeze_heap (w := wc.drew) (g := g) (o := o) (n := xs.length) (cur := cur) (e := 5) (fz := (0, 0)) hl0 hg (.inl rfl)
  obtain ⟨w1, hw1⟩ : ∃ w1, w1 = wc.drew.freeze ⟨g, o, none⟩ xs.length := ⟨_, rfl⟩
  rw [← hw1] at f1 f2 f3 f4 f5 f6 hu
  have hkp : Keeps none wc.drew w1 := by rw [hw1]; exact Keeps.freeze _ _ _
  refine (walk55 hcell (by omega) hn hu hkp).mono fun e w' ⟨v, he, hK, hv, hw⟩ => ?_
  subst hw
  have hoth : ∀ k, k ≠ g → w'.heap[k]? = wc.heap[k]? := f2
  have hGg : Gc g = none := hc.2 g rfl
  have hdiff : ∀ k, k < wc.heap.size → blkOf (Value.slice (some ⟨g, o, none⟩) n c) ≠ some k → w'.heap[k]? = wc.heap[k]? := fun k _ hne => hoth k (fun e => hne (by subst e; rfl))
  have hsat : Sat Gc w' := sat_write hS.sat hc hdiff
  have hS1 : Since B G0 w0 Gc w' := hS.write hsat ⟨f4, f5, f6, Nat.le_of_eq f3.symm, fun k hk => hoth k (by omega)⟩
  have hap := pw_at apart_symm hO.apart hk
  have hle : Gle Gc (ins Gc g (.cells cur 5 (o, o + xs.length))) := fun k x hx => by
    unfold ins
    split
    · rename_i e; subst e; rw [hGg] at hx; cases hx
    · exact hx
  refine ⟨v, he, hK, ins Gc g (.cells cur 5 (o, o + xs.length)), _, hle, ⟨hS1.le.trans hle, fun k x hx => ?_, hS1.below, fun k hk => ?_, hS1.base, fun k x hx hl => ?_⟩, ⟨fun d hd => ?_, (hO.drop 1).apart, by rw [f3]; exact hO.base⟩, hv, rfl, ⟨hn, ⟨by omega, hnc⟩, fun i x hx => ?_⟩, g, o, cur, rfl, by unfold ins; simp [hn], by omega⟩
  · unfold ins at hx
    split at hx
    · rename_i e; subst e; cases hx; exact f1
    · exact hsat k x hx
  · unfold ins
    rw [if_neg (by omega)]
    exact hS1.old k hk
  · unfold ins at hx
    split at hx
    · cases hx; rfl
    · exact hS1.cells k x hx hl
  · have hm := hO.each d (mem_erase (k := 1) hd)
    have hne : ∀ q, blkOf d.v = some q → q ≠ g := fun q hq e => hap d hd g rfl (by rw [hq, e])
    refine ⟨ownsRow_same hm.1 fun q hq => hoth q (hne q hq), fun q hq => ?_⟩
    unfold ins
    rw [if_neg (hne q hq)]
    exact hm.2 q hq
  · refine ⟨g, o, [.int .u8 (x.toNat : Int)], rfl, fun j u hj => ?_, rfl, rfl⟩
    have hj0 : j = 0 := by
      rcases Nat.eq_zero_or_pos j with h | h
      · exact h
      · rw [List.getElem?_eq_none (by simp; omega)] at hj; cases hj
    subst hj0
    simp at hj
    subst hj
    unfold Gm.cell ins
    simp only [if_true]
    have h2 : cells[i]? = some (.int .u8 (x.toNat : Int)) := by rw [hcl]; simp [hx]
    rw [← htake, List.getElem?_take] at h2
    split at h2
    · rw [List.getElem?_drop] at h2
      simpa using h2
    · cases h2
/-- The text once more. -/
theorem f55_fz {G : Gm} {wc : World} {b : Nat} {a : Option Addr} {n c : Nat} {xs : List UInt8} (hS : Sat G wc) (hcell : wc.cell? ⟨b, 1, none⟩ = some (.slice a n c)) (hs : RSl RU8 1 G a n c xs) (hF : FzB G a n) (h0 : xs ≠ []) :
    Calls Tryz.prog 55 [.pointer (some ⟨b, 0, none⟩)].toArray wc (RetV wc (.string ⟨xs.toArray⟩)) := by
  obtain ⟨g, o, cur, rfl, hG, hsz⟩ := hF
  obtain ⟨hn, ⟨hm, hnc⟩, hel⟩ := hs
  have hl0 : xs.length ≠ 0 := by simpa using h0
  have hg := hS _ _ hG
  have hu := run_unsafeStringO (P := Tryz.prog) wc.drew 127 3 9 5 Tryz.underlying127 bu_c5 g o cur.size (by have : wc.drew.heap[g]? = some (.cells cur 5 (o, o + n)) := hg; simp [World.shape?, this]) xs h0 (by omega) (by simp only [maxLen] at hm; omega) (fun j x hx => by
    obtain ⟨b', off, cs, e1, e2, e3, e4⟩ := hel j x hx
    cases e1
    have e4 : cs = [.int .u8 (x.toNat : Int)] := e4
    subst e4
    have := hS.cell (e2 0 _ rfl)
    rw [add_addr]
    simpa using this)
  subst hn
  obtain ⟨f1, f2, f3, f4, f5, f6⟩ := freeze_heap (w := wc.drew) (g := g) (o := o) (n := xs.length) (cur := cur) (e := 5) hl0 hg (.inr rfl)
  refine (walk55 hcell (by omega) rfl hu (Keeps.freeze _ _ _)).mono fun e w' ⟨v, he, hK, hv, hw⟩ => ?_
  subst hv
  refine ⟨he, ?_⟩
  subst hw
  refine ⟨f4, f5, f6, Nat.le_of_eq f3.symm, fun k hk => ?_⟩
  by_cases h : k = g
  · subst h; exact f1.trans hg.symm
  · exact f2 k h
end Go.Proofs.YtcaflmilfhhikaaGreatDoor
