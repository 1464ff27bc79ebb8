/-
  The evaluator's operations beside the model's: append.
-/
import Derived.Test.YtoklmemeanmfdaaGreatEvG2
import Derived.Laws.BytesString
namespace Go.Proofs.YtoklmemeanmfdaaGreat.Ev
open Go.RowKit
set_option linter.unusedVariables false
set_option linter.unusedSimpArgs false

section
variable {O : Ow} {σ : Sg} {P : Program} {fr : Fra} {m : Mem} {ρ : Operand → Value} {r : OR} {d : Option Tmp} {ty : Nat} {pos : String} {af : Array Edge} {gd : Option (Nat × Bool)} {w : World}
theorem growC_get {c c' : CS} {n : Nat} {xs : List AV} (h : growC c n xs = some c') (j : Nat) : cget c' j = if n ≤ j ∧ j < n + xs.length then xs[j - n]? else cget c j := by
  cases c with
  | l l =>
    have h' : (Bool.rec none (mkC (l.take n ++ (xs ++ l.drop (Nat.add n (len xs))))) (Nat.ble n (len l)) : Option CS) = some c' := h
    cases hb : Nat.ble n (len l) with
    | false => rw [hb] at h'; cases h'
    | true =>
      rw [hb] at h'
      have hn := ble_le hb
      rw [len_eq] at hn
      rw [mkC_get h' j, len_eq]
      show _ = if n ≤ j ∧ j < n + xs.length then xs[j - n]? else nth l j
      rw [nth_eq]
      by_cases h1 : j < n
      · rw [List.getElem?_append_left (by simp; omega), if_neg (by omega), List.getElem?_take, if_pos h1]
      · rw [List.getElem?_append_right (by simp; omega)]
        simp only [List.length_take, Nat.min_eq_left hn]
        by_cases h2 : j < n + xs.length
        · rw [if_pos ⟨by omega, h2⟩, List.getElem?_append_left (by omega)]
        · rw [if_neg (by omega), List.getElem?_append_right (by omega), List.getElem?_drop]
          congr 1
          show n + xs.length + (j - n - xs.length) = j
          omega
  | t t =>
    have h' : (Bool.rec none (some (.t (fillT xs n t))) (Nat.ble (Nat.add n (len xs)) 256) : Option CS) = some c' := h
    cases hb : Nat.ble (Nat.add n (len xs)) 256 with
    | false => rw [hb] at h'; cases h'
    | true =>
      rw [hb] at h'
      have hn : n + len xs ≤ 256 := ble_le hb
      rw [len_eq] at hn
      cases h'
      show fget (fillT xs n t) j = _
      rw [fillT_get xs n t hn j]; rfl
theorem growBy_le (n : Nat) : ∀ (r c : Nat), Builtin.growBy n r c ≤ 2 ^ r * (c + 768)
  | 0, c => by simp [Builtin.growBy]
  | r + 1, c => by
    unfold Builtin.growBy
    split
    · have : 1 ≤ 2 ^ (r + 1) := Nat.one_le_two_pow
      calc c ≤ 1 * (c + 768) := by omega
        _ ≤ 2 ^ (r + 1) * (c + 768) := Nat.mul_le_mul_right _ this
    · refine Nat.le_trans (growBy_le n r _) ?_
      rw [Nat.pow_succ, Nat.mul_assoc]
      apply Nat.mul_le_mul_left
      omega
theorem nextcap_le {n c b : Nat} (hn : n ≤ 65536) (hc : c < n) (hb : b ≤ 65536) : ¬ Builtin.nextslicecap n c * b > 281474976710656 := by
  have h1 : Builtin.nextslicecap n c ≤ 2000000 := by
    unfold Builtin.nextslicecap
    split
    · omega
    · split
      · omega
      · have : Builtin.growBy n 4 c ≤ 16 * (c + 768) := growBy_le n 4 c
        refine Nat.le_trans this ?_
        have : c + 768 ≤ 66304 := by omega
        calc 16 * (c + 768) ≤ 16 * 66304 := Nat.mul_le_mul_left _ this
          _ ≤ 2000000 := by decide
  exact Nat.not_lt.2 (Nat.le_trans (Nat.mul_le_mul h1 hb) (by decide))
/-- Where what is appended comes from. -/
structure SrcR (P : Program) (t2 : TypeId) (e : TypeId) (sz : Nat) (z : Array Value) (x : Value) (k : Nat) (cs : List Value) (w : World) : Prop where
  len : cs.length = k * sz
  src : (∃ d2, P.underlying t2 = some d2 ∧ ((∃ e2, d2 = .slice e2) ∨ d2 = .string) ∧ (∀ w', (Builtin.lenOf x).run P w' = .ok k w') ∧ ∀ w' : World, w'.heap = w.heap → (Builtin.firstCells sz k x).run P w' = .ok cs.toArray w') ∨
    (∃ q, P.underlying t2 = some (.int q) ∧ x = .int .i64 (k : Int) ∧ (k ≤ 65536 ∧ 0 < k) ∧ cs.toArray = Builtin.zeroCells z k)
theorem run_append_in {t t2 ty e : TypeId} {i : TypeInfo} {z : Value} {base : Option Addr} {sLen sCap k : Nat} {x : Value} {cs : List Value} (ht : P.underlying t = some (.slice e)) (hi : P.info? e = some i) (hz : i.zero = some z) (hzs : z.cells.size = i.size) (hpos : 0 < i.size) (hby : i.bytes ≤ 65536)
    (hs : SrcR P t2 e i.size z.cells x k cs w) (hle : sLen + k ≤ sCap) :
    (Builtin.append_ #[t, t2] ty #[.slice base sLen sCap, x]).run P w = ((match base with | none => pure () | some a => storeCells (a.add (sLen * i.size)) cs : Sem Unit).run P w).andThen fun _ w' => .ok (.slice base (sLen + k) sCap) w' := by
  rcases hs.src with ⟨d2, h1, h2, h3, h4⟩ | ⟨q, h1, rfl, h3, h4⟩
  · have h4' := h4 w rfl
    rcases h2 with ⟨e2, rfl⟩ | rfl <;> cases base <;> simp [Builtin.append_, run_underlying ht, run_underlying h1, sizeOf, typeInfo, hi, h3, hle, h4']
  · have w1 : IntKind.i64.wrap (k : Int) = k := by rw [IntKind.wrap_i64]; omega
    have n1 : ¬ ((k : Int) < 0) := by omega
    have n2 : ¬ ((k : Int) * (i.bytes : Int) > 281474976710656) := by
      have : k * i.bytes ≤ 65536 * 65536 := Nat.mul_le_mul h3.1 hby
      have h : ((k * i.bytes : Nat) : Int) ≤ 281474976710656 := by omega
      rw [Int.natCast_mul] at h
      omega
    have hk' : ¬ k * i.size = 0 := by
      have := Nat.mul_pos h3.2 hpos
      omega
    cases base <;> simp [Builtin.append_, run_underlying ht, run_underlying h1, sizeOf, typeInfo, hi, asInt, asIntOf, w1, n1, n2, hle, hk', zeroValue, hz, ← h4]
theorem run_append_new {t t2 ty e : TypeId} {i : TypeInfo} {z : Value} {base : Option Addr} {sLen sCap k : Nat} {x : Value} {cs olds : List Value} (ht : P.underlying t = some (.slice e)) (hi : P.info? e = some i) (hz : i.zero = some z) (hzs : z.cells.size = i.size) (hpos : 0 < i.size) (hby : i.bytes ≤ 65536)
    (hs : SrcR P t2 e i.size z.cells x k cs w) (hold : ∀ w' : World, w'.heap = w.heap → (Builtin.firstCells i.size sLen (.slice base sLen sCap)).run P w' = .ok olds.toArray w') (hle : ¬ sLen + k ≤ sCap) (hn : sLen + k ≤ 65536) :
    ∃ nc rest, sLen + k ≤ nc ∧ rest.size = (nc - (sLen + k)) * i.size ∧ (Builtin.append_ #[t, t2] ty #[.slice base sLen sCap, x]).run P w = .ok (.slice (some ⟨w.heap.size, 0, none⟩) (sLen + k) nc) (w.drew.alloc (.cells (olds.toArray ++ (cs.toArray ++ rest)) e)) := by
  have hcap := nextcap_le (c := sCap) hn (by omega) hby
  have n63 : ¬ ((9223372036854775807 : Int) < (sLen : Int) + (k : Int)) := by omega
  refine ⟨(Question.appendCap (sLen + k) sCap e).cut (w.tape w.drawn (.appendCap (sLen + k) sCap e)), Builtin.zeroCells z.cells ((Question.appendCap (sLen + k) sCap e).cut (w.tape w.drawn (.appendCap (sLen + k) sCap e)) - (sLen + k)), ?_, ?_, ?_⟩
  · simp only [Question.cut]; omega
  · simp [Builtin.zeroCells, hzs]
  have hold' := hold w.drew rfl
  have hold'' : (Builtin.firstCells i.size sLen (.slice base sLen sCap)).run P { w with drawn := w.drawn + 1 } = .ok olds.toArray { w with drawn := w.drawn + 1 } := hold'
  rcases hs.src with ⟨d2, h1, h2, h3, h4⟩ | ⟨q, h1, rfl, h3, h4⟩
  · have h4' := h4 w.drew rfl
    have h4'' : (Builtin.firstCells i.size k x).run P { w with drawn := w.drawn + 1 } = .ok cs.toArray { w with drawn := w.drawn + 1 } := h4'
    rcases h2 with ⟨e2, rfl⟩ | rfl
    · simp [Builtin.append_, run_underlying ht, run_underlying h1, sizeOf, typeInfo, hi, h3, hle, h4', hold', hcap, n63, Question.forced, zeroValue, hz, newRow]
    · simp [Builtin.append_, run_underlying ht, run_underlying h1, sizeOf, typeInfo, hi, h3, hle, h4', hold', hcap, n63, Question.forced, zeroValue, hz, newRow]
  · have w1 : IntKind.i64.wrap (k : Int) = k := by rw [IntKind.wrap_i64]; omega
    have n1 : ¬ ((k : Int) < 0) := by omega
    have n2 : ¬ ((k : Int) * (i.bytes : Int) > 281474976710656) := by
      have : k * i.bytes ≤ 65536 * 65536 := Nat.mul_le_mul h3.1 hby
      have h : ((k * i.bytes : Nat) : Int) ≤ 281474976710656 := by omega
      rw [Int.natCast_mul] at h
      omega
    have hk' : ¬ k * i.size = 0 := by
      have := Nat.mul_pos h3.2 hpos
      omega
    simp [Builtin.append_, run_underlying ht, run_underlying h1, sizeOf, typeInfo, hi, asInt, asIntOf, w1, n1, n2, hle, hk', hold', hcap, n63, Question.forced, zeroValue, hz, newRow, ← h4]
theorem run_firstCells_slice {sz n c : Nat} {a : Addr} {cs : List Value} (hl : cs.length = n * sz) (h : ∀ j v, cs[j]? = some v → w.cell? (a.add j) = some v) : (Builtin.firstCells sz n (.slice (some a) n c)).run P w = .ok cs.toArray w := by
  show (loadCells a (n * sz)).run P w = _
  rw [← hl]
  exact run_loadCells_list (P := P) w a cs h
/-- An append that may come to lie in a new block: in place, or not. -/
theorem append_maybe (hw : RelW O σ m.hp m.nx w) {b o n c k : Nat} {cs cs' : CS} {xs : List AV} {vs : List Value} {e : Loc} {t t2 el : TypeId} {i : TypeInfo} {z x : Value} (hb : hget m.hp b = some (.cells cs false)) (he : σ b = some e) (hen : o + c * e.sz = e.en)
    (ht : P.underlying t = some (.slice el)) (hi : P.info? el = some i) (hz : i.zero = some z) (hzs : z.cells.size = i.size) (hpos : 0 < i.size) (hby : i.bytes ≤ 65536) (his : i.size = e.sz) (hid : m.nx < 16384)
    (hx : concL σ xs = some vs) (hlx : xs.length = k * e.sz) (hone : cellsB xs = true) (hnc : n ≤ c) (hc : c < n + k) (hn : n + k ≤ 65536)
    (hs : SrcR P t2 el i.size z.cells x k vs w)
    (hcs : ∀ j v, cget cs' j = some v → (j < n * e.sz ∧ cget cs (o + j) = some v) ∨ (n * e.sz ≤ j ∧ j < n * e.sz + k * e.sz ∧ xs[j - n * e.sz]? = some v)) :
    ∃ σ' cv w', Sle σ σ' ∧ conc σ' (.slc m.nx 0 (n + k) (n + k) e.sz) = some cv ∧ (Builtin.append_ #[t, t2] ty #[.slice (some ⟨e.bl, o + e.dl, none⟩) n (c + e.kp), x]).run P w = .ok cv w' ∧
      RelW O σ' (hset (.cells cs' false) (hset .dead m.hp b) m.nx) (m.nx + 1) w' ∧ Keep O w w' := by
  obtain ⟨arr, ty0, fz, h1, h2, h3⟩ := hw.obj b _ e hb he
  have hfz := h2 rfl
  subst hfz
  have hlv := concL_length hx
  have hone' := cellsB_ok hone hx
  have hn1 := hw.fresh m.nx (Nat.le_refl _)
  have e1 : n * e.sz ≤ c * e.sz := Nat.mul_le_mul_right _ hnc
  have e2 : c * e.sz ≤ (n + k) * e.sz := Nat.mul_le_mul_right _ (Nat.le_of_lt hc)
  have e3 : (n + k) * e.sz = n * e.sz + k * e.sz := Nat.add_mul _ _ _
  have hsz := h3.1
  by_cases hle : n + k ≤ c + e.kp
  · have hrun := run_append_in (P := P) (w := w) (ty := ty) (base := some ⟨e.bl, o + e.dl, none⟩) (sLen := n) (sCap := c + e.kp) ht hi hz hzs hpos hby hs hle
    have e4 : (c + e.kp) * e.sz = c * e.sz + e.kp * e.sz := Nat.add_mul _ _ _
    have e5 : (n + k) * e.sz ≤ (c + e.kp) * e.sz := Nat.mul_le_mul_right _ hle
    have hst := run_storeCells_at P e.bl (o + e.dl + n * e.sz) ty0 vs 0 arr w h1 (by omega) hone'
    simp only [Nat.add_zero] at hst
    rw [his] at hrun
    simp only [add_addr'] at hrun
    rw [hst] at hrun
    have e6 : (c + e.kp - (n + k)) * e.sz = (c + e.kp) * e.sz - (n + k) * e.sz := Nat.sub_mul _ _ _
    obtain ⟨q1, q2, q3⟩ := hw.again (o' := .cells cs' false) (e' := ⟨e.bl, o + e.dl, c + e.kp - (n + k), e.sz, (n + k) * e.sz⟩) (w' := w.setRow e.bl (arr.toList.take (o + e.dl + n * e.sz) ++ vs ++ arr.toList.drop (o + e.dl + n * e.sz + vs.length)).toArray) hb rfl he hid rfl
      (by
        refine ⟨_, ty0, (0, 0), setRow_heap w e.bl arr _ ty0 _ h1, fun _ => rfl, ?_, fun j v hv => ?_⟩
        · simp; omega
        · have hg := splice_get arr.toList vs (o + e.dl + n * e.sz) (by simp; omega) (j + (o + e.dl))
          simp only [List.getElem?_toArray]
          rw [hg]
          rcases hcs j v hv with ⟨p1, p2⟩ | ⟨p1, p2, p3⟩
          · obtain ⟨_, cv, r1, r2⟩ := h3.2 _ _ p2
            refine ⟨(show j < (n + k) * e.sz by omega), cv, conc_mono (sle_sput hn1) _ _ r1, ?_⟩
            rw [if_neg (by omega)]
            rw [show j + (o + e.dl) = o + j + e.dl by omega]
            simpa using r2
          · obtain ⟨cv, r1, r2⟩ := concL_get hx _ _ p3
            refine ⟨(show j < (n + k) * e.sz by omega), cv, conc_mono (sle_sput hn1) _ _ r1, ?_⟩
            rw [if_pos (by omega)]
            rwa [show j + (o + e.dl) - (o + e.dl + n * e.sz) = j - n * e.sz by omega])
      (by simp) (fun q hq => setRow_other w e.bl q _ hq) rfl rfl rfl
    refine ⟨_, _, _, q2, ?_, hrun, q1, q3⟩
    have := conc_slc_of (σ := sput σ m.nx ⟨e.bl, o + e.dl, c + e.kp - (n + k), e.sz, (n + k) * e.sz⟩) (b := m.nx) (o := 0) (n := n + k) (k := n + k) (e := ⟨e.bl, o + e.dl, c + e.kp - (n + k), e.sz, (n + k) * e.sz⟩) (sput_same _ _ _) (by simp)
    rw [this]
    simp
    omega
  · -- a new block
    have hold : ∃ olds : List Value, olds.length = n * e.sz ∧ ∀ j v, olds[j]? = some v → arr[o + e.dl + j]? = some v := by
      refine ⟨(arr.toList.drop (o + e.dl)).take (n * e.sz), by simp; omega, fun j v hj => ?_⟩
      rw [List.getElem?_take] at hj
      split at hj
      · rw [List.getElem?_drop] at hj
        simpa using hj
      · cases hj
    obtain ⟨olds, o1, o2⟩ := hold
    obtain ⟨nc, rest, r1, r2, hrun⟩ := run_append_new (P := P) (w := w) (ty := ty) (base := some ⟨e.bl, o + e.dl, none⟩) (sLen := n) (sCap := c + e.kp) (olds := olds) ht hi hz hzs hpos hby hs
      (fun w' hw' => run_firstCells_slice (by rw [his]; exact o1) fun j v hj => by
        rw [add_addr']
        exact cell_at (by rw [hw']; exact h1) (o2 j v hj)) hle hn
    have hw2 := (hw.kill (hget_lt hb) (hw.laid he)).drew
    have hm : ({ hp := hset .dead m.hp b, nx := m.nx, df := m.df } : Mem).hp = hset .dead m.hp b := rfl
    have e6 : (nc - (n + k)) * e.sz = nc * e.sz - (n + k) * e.sz := Nat.sub_mul _ _ _
    have e7 : (n + k) * e.sz ≤ nc * e.sz := Nat.mul_le_mul_right _ r1
    rw [his] at r2
    obtain ⟨q1, q2, q3⟩ := hw2.alloc hid (Nat.le_succ _) (Nat.lt_succ_self _) hn1 hw2.now (.cells cs' false) (.cells (olds.toArray ++ (vs.toArray ++ rest)) el) ⟨w.heap.size, 0, nc - (n + k), e.sz, (n + k) * e.sz⟩ rfl
      (by
        refine ⟨_, el, (0, 0), rfl, fun _ => rfl, ?_, fun j v hv => ?_⟩
        · simp; omega
        · rcases hcs j v hv with ⟨p1, p2⟩ | ⟨p1, p2, p3⟩
          · obtain ⟨_, cv, s1, s2⟩ := h3.2 _ _ p2
            refine ⟨(show j < (n + k) * e.sz by omega), cv, conc_mono (sle_sput hn1) _ _ s1, ?_⟩
            have hlt : j < olds.length := by omega
            have := o2 j olds[j] (by simp [hlt])
            rw [show o + e.dl + j = o + j + e.dl by omega, s2] at this
            cases this
            simp [Array.getElem?_append, hlt]
          · obtain ⟨cv, s1, s2⟩ := concL_get hx _ _ p3
            refine ⟨(show j < (n + k) * e.sz by omega), cv, conc_mono (sle_sput hn1) _ _ s1, ?_⟩
            have h1 : ¬ j < olds.length := by omega
            have h2 : j - olds.length < vs.length := by omega
            have : (olds.toArray ++ (vs.toArray ++ rest))[j + 0]? = vs[j - olds.length]? := by
              simp [Array.getElem?_append, h1, h2]
            show (olds.toArray ++ (vs.toArray ++ rest))[j + 0]? = some cv
            rw [this, o1]; exact s2)
    refine ⟨_, _, _, q2, ?_, hrun, q1, (Keep.drew O w).trans q3⟩
    have := conc_slc_of (σ := sput σ m.nx ⟨w.heap.size, 0, nc - (n + k), e.sz, (n + k) * e.sz⟩) (b := m.nx) (o := 0) (n := n + k) (k := n + k) (e := ⟨w.heap.size, 0, nc - (n + k), e.sz, (n + k) * e.sz⟩) (sput_same _ _ _) (by simp)
    rw [this]
    simp
    omega
end
end Go.Proofs.YtoklmemeanmfdaaGreat.Ev
/-
  The evaluator's operations beside the model's: the functions that are built in.
-/
namespace Go.Proofs.YtoklmemeanmfdaaGreat.Ev
open Go.RowKit
set_option linter.unusedVariables false
set_option linter.unusedSimpArgs false

section
variable {O : Ow} {σ : Sg} {P : Program} {fr : Fra} {m : Mem} {ρ : Operand → Value} {r : OR} {d : Option Tmp} {ty : Nat} {pos : String} {af : Array Edge} {gd : Option (Nat × Bool)} {w : World}
theorem srcOf_ok (hw : RelW O σ m.hp m.nx w) {sz k : Nat} {x : AV} {xs : List AV} {cx : Value} (h : srcOf m.hp sz x = some (k, xs)) (hc : conc σ x = some cx) :
    ∃ cs, concL σ xs = some cs ∧ (∀ w', (Builtin.lenOf cx).run P w' = .ok k w') ∧ ∀ w' : World, w'.heap = w.heap → (Builtin.firstCells sz k cx).run P w' = .ok cs.toArray w' := by
  unfold srcOf at h
  split at h
  · rename_i b o n c s
    cases hb : Nat.beq s sz with
    | false => rw [hb] at h; cases h
    | true =>
      rw [hb] at h
      have hb := Nat.eq_of_beq_eq_true hb
      subst hb
      obtain ⟨e, he, ⟨rfl, hen⟩, rfl⟩ := conc_slc hc
      have h' : (match hget m.hp b with
        | some (.cells c _) => match getN c (Nat.mul n e.sz) o with
          | some l => some (n, l)
          | none => none
        | _ => none) = some (k, xs) := h
      split at h'
      · rename_i c ro hb
        split at h'
        · rename_i l hl
          cases h'
          obtain ⟨arr, el, fz, h1, _, h3⟩ := hw.obj b _ e hb he
          obtain ⟨cs, q1, q2, q3⟩ := getN_ok h3 _ _ _ hl
          refine ⟨cs, q1, fun w' => rfl, fun w' hw' => run_firstCells_slice q2 fun j v hj => ?_⟩
          rw [add_addr']
          exact cell_at (by rw [hw']; exact h1) (by have := q3 j v hj; rwa [show o + e.dl + j = o + j + e.dl by omega])
        · cases h'
      · cases h'
  · cases h
    cases hc
    exact ⟨[], rfl, fun w' => rfl, fun w' _ => rfl⟩
  · rename_i s
    cases h
    cases hc
    refine ⟨_, lits_ok _, fun w' => rfl, fun w' _ => ?_⟩
    have hx : s.extract 0 s.size = s := by
      apply ByteArray.ext
      simp
    simp only [Builtin.firstCells, Sem.run_pure, hx]
  · cases h
theorem getN_get {c : CS} : ∀ {n o : Nat} {l : List AV}, getN c n o = some l → ∀ j v, l[j]? = some v → cget c (o + j) = some v
  | 0, o, l, h, j, v, hj => by cases h; simp at hj
  | n + 1, o, l, h, j, v, hj => by
    simp only [getN] at h
    cases hv : cget c o with
    | none => rw [hv] at h; cases h
    | some u =>
      cases hr : getN c n (Nat.succ o) with
      | none => rw [hv, hr] at h; cases h
      | some l' =>
        rw [hv, hr] at h
        cases h
        cases j with
        | zero => simp at hj; subst hj; exact hv
        | succ j =>
          have := getN_get hr j v (by simpa using hj)
          rwa [show o.succ + j = o + (j + 1) by omega] at this
/-- What an append is given. -/
structure AppR (σ : Sg) (P : Program) (t t2 el : TypeId) (i : TypeInfo) (z : Value) (sz k : Nat) (xs : List AV) (cs : List Value) (x : Value) (w : World) : Prop where
  ht : P.underlying t = some (.slice el)
  hi : P.info? el = some i
  hz : i.zero = some z
  hzs : z.cells.size = i.size
  his : i.size = sz
  hpos : 0 < sz
  hby : i.bytes ≤ 65536
  hx : concL σ xs = some cs
  hs : cs.length = k * sz → SrcR P t2 el i.size z.cells x k cs w
theorem appendA_ok (hw : RelW O σ m.hp m.nx w) {t t2 el : TypeId} {i : TypeInfo} {z x cv : Value} {sz k : Nat} {xs : List AV} {cs : List Value} {s : AV} (ha : AppR σ P t t2 el i z sz k xs cs x w) (hsv : conc σ s = some cv) (h : appendA sz s (some (k, xs)) m = r) (hr : r ≠ .no) :
    MemR O σ P w (do pure (.value (← Builtin.append_ #[t, t2] ty #[cv, x])) : Sem Next) r := by
  have fin : (∀ v c, r = .val v → conc σ v = some c → (Builtin.append_ #[t, t2] ty #[cv, x]).run P w = .ok c w → MemR O σ P w (do pure (.value (← Builtin.append_ #[t, t2] ty #[cv, x])) : Sem Next) r) := by
    intro v c h1 h2 h3
    subst h1
    exact ⟨c, h2, by simp [h3]⟩
  have fin2 : ∀ v hp nx, r = .mem v hp nx → (∃ σ' c w', Sle σ σ' ∧ conc σ' v = some c ∧ (Builtin.append_ #[t, t2] ty #[cv, x]).run P w = .ok c w' ∧ RelW O σ' hp nx w' ∧ Keep O w w') → MemR O σ P w (do pure (.value (← Builtin.append_ #[t, t2] ty #[cv, x])) : Sem Next) r := by
    intro v hp nx h1 ⟨σ', c, w', h2, h3, h4, h5, h6⟩
    subst h1
    exact ⟨σ', c, w', h2, h3, .inl (by simp [h4]), h5, h6⟩
  have hlx := concL_length ha.hx
  have hpos' : 0 < i.size := by rw [ha.his]; exact ha.hpos
  unfold appendA at h
  split at h
  · rename_i heq; cases heq
  rename_i k' xs' heq
  cases heq
  split at h
  · -- nil
    cases hsv
    obtain ⟨h1, h⟩ := cond_val h hr
    simp only [Bool.and_eq_true] at h1
    have g1 := ble_le h1.1
    have g2 : len xs = k * sz := Nat.eq_of_beq_eq_true h1.2
    rw [len_eq] at g2
    have hs := ha.hs (by omega)
    cases hk : Nat.beq k 0 with
    | true =>
      rw [hk] at h
      have hk := Nat.eq_of_beq_eq_true hk
      subst hk
      have hrun := run_append_in (P := P) (w := w) (ty := ty) (base := none) (sLen := 0) (sCap := 0) ha.ht ha.hi ha.hz ha.hzs hpos' ha.hby hs (Nat.le_refl _)
      exact fin _ _ h.symm rfl (by simpa using hrun)
    | false =>
      rw [hk] at h
      have hk0 : k ≠ 0 := fun e => by subst e; cases hk
      obtain ⟨c, h3, h4, h5⟩ := newB_val h hr
      obtain ⟨nc, rest, r1, r2, hrun⟩ := run_append_new (P := P) (w := w) (ty := ty) (base := none) (sLen := 0) (sCap := 0) (olds := []) ha.ht ha.hi ha.hz ha.hzs hpos' ha.hby hs
        (fun w' hw' => by show (pure #[] : Sem (Array Value)).run P w' = _; rfl) (by omega) (by omega)
      have hn1 := hw.fresh m.nx (Nat.le_refl _)
      simp only [Nat.zero_add] at r1 r2 hrun
      rw [ha.his] at r2
      have e6 : (nc - k) * sz = nc * sz - k * sz := Nat.sub_mul _ _ _
      have e7 : k * sz ≤ nc * sz := Nat.mul_le_mul_right _ r1
      obtain ⟨q1, q2, q3⟩ := hw.drew.alloc h4 (Nat.le_succ _) (Nat.lt_succ_self _) hn1 hw.drew.now (.cells c false) (.cells (([] : List Value).toArray ++ (cs.toArray ++ rest)) el) ⟨w.heap.size, 0, nc - k, sz, k * sz⟩ rfl
        (by
          refine ⟨_, el, (0, 0), rfl, fun _ => rfl, ?_, fun j v hv => ?_⟩
          · simp; omega
          · rw [mkC_get h3] at hv
            obtain ⟨cv, s1, s2⟩ := concL_get ha.hx _ _ hv
            have hlt := (List.getElem?_eq_some_iff.1 hv).1
            refine ⟨(show j < k * sz by omega), cv, conc_mono (sle_sput hn1) _ _ s1, ?_⟩
            have hlt' : j < cs.length := by omega
            show (([] : List Value).toArray ++ (cs.toArray ++ rest))[j + 0]? = some cv
            simp [Array.getElem?_append, hlt']
            have := s2
            rw [List.getElem?_eq_getElem hlt'] at this
            exact Option.some.inj this)
      refine fin2 _ _ _ h5 ⟨_, _, _, q2, ?_, hrun, q1, (Keep.drew O w).trans q3⟩
      have := conc_slc_of (σ := sput σ m.nx ⟨w.heap.size, 0, nc - k, sz, k * sz⟩) (b := m.nx) (o := 0) (n := k) (k := k) (e := ⟨w.heap.size, 0, nc - k, sz, k * sz⟩) (sput_same _ _ _) (by simp)
      rw [this]
      simp
      omega
  · rename_i b o n c s'
    split at h
    · rename_i cs0 hb
      obtain ⟨h1, h⟩ := cond_val h hr
      simp only [Bool.and_eq_true] at h1
      obtain ⟨⟨⟨⟨g1, g2⟩, g3⟩, g4⟩, g5⟩ := h1
      have g1 := Nat.eq_of_beq_eq_true g1
      have g3 : len xs = k * sz := Nat.eq_of_beq_eq_true g3
      have g4 : n + k ≤ 65536 := ble_le g4
      have g5 := ble_le g5
      rw [len_eq] at g3
      obtain ⟨e, he, ⟨e0, hen⟩, rfl⟩ := conc_slc hsv
      have e1 : e.sz = sz := e0.symm.trans g1
      have hs := ha.hs (by omega)
      cases hle : Nat.ble (Nat.add n k) c with
      | true =>
        rw [hle] at h
        have hle : n + k ≤ c := ble_le hle
        obtain ⟨cs', h2, h⟩ := ob_val h hr
        obtain ⟨arr, ty0, fz, q1, q2, q3⟩ := hw.obj b _ e hb he
        have hfz := q2 rfl
        subst hfz
        have e3 : (n + k) * sz = n * sz + k * sz := Nat.add_mul _ _ _
        have e4 : (n + k) * sz ≤ c * sz := Nat.mul_le_mul_right _ hle
        have hsz := q3.1
        have hlen : o + (n * sz + k * sz) ≤ e.en := by rw [← hen, e1]; omega
        have hrun := run_append_in (P := P) (w := w) (ty := ty) (base := some ⟨e.bl, o + e.dl, none⟩) (sLen := n) (sCap := c + e.kp) ha.ht ha.hi ha.hz ha.hzs hpos' ha.hby hs (by omega)
        have hst := run_storeCells_at P e.bl (o + e.dl + n * sz) ty0 cs 0 arr w q1 (by omega) (cellsB_ok g2 ha.hx)
        simp only [Nat.add_zero] at hst
        rw [ha.his] at hrun
        simp only [add_addr'] at hrun
        rw [hst] at hrun
        have hwr := hw.write (o' := .cells cs' false) (w' := w.setRow e.bl (arr.toList.take (o + e.dl + n * sz) ++ cs ++ arr.toList.drop (o + e.dl + n * sz + cs.length)).toArray) hb rfl he
          (by
            refine ⟨_, ty0, (0, 0), setRow_heap w e.bl arr _ ty0 _ q1, fun _ => rfl, ?_, fun j v hv => ?_⟩
            · simp; omega
            · have hg := splice_get arr.toList cs (o + e.dl + n * sz) (by simp; omega) (j + e.dl)
              simp only [List.getElem?_toArray]
              rw [hg]
              rw [growC_get h2 j] at hv
              have ee : o.add (n.mul sz) = o + n * sz := rfl
              rw [ee] at hv
              split at hv
              · rename_i hin
                obtain ⟨cv, r1, r2⟩ := concL_get ha.hx _ _ hv
                refine ⟨by omega, cv, r1, ?_⟩
                rw [if_pos (by omega)]
                rwa [show j + e.dl - (o + e.dl + n * sz) = j - (o + n * sz) by omega]
              · rename_i hin
                obtain ⟨r0, cv, r1, r2⟩ := q3.2 _ _ hv
                refine ⟨r0, cv, r1, ?_⟩
                rw [if_neg (by omega)]
                simpa using r2)
          (by simp) (fun q hq => setRow_other w e.bl q _ hq) rfl rfl rfl
        refine fin2 _ _ _ h.symm ⟨σ, _, _, Sle.refl _, ?_, hrun, hwr.1, hwr.2⟩
        have := conc_slc_of (σ := σ) (n := n + k) he hen
        rw [e1] at this
        exact this
      | false =>
        rw [hle] at h
        have hle' : c < n + k := by
          rcases Nat.lt_or_ge c (n + k) with h' | h'
          · exact h'
          · have := Nat.ble_eq_true_of_le h'
            rw [show Nat.ble (Nat.add n k) c = true from this] at hle; cases hle
        have hmb := fun (cs' : CS) (hid : m.nx < 16384) hcs => append_maybe (ty := ty) (cs' := cs') hw hb he hen ha.ht ha.hi ha.hz ha.hzs hpos' ha.hby (ha.his.trans e1.symm) hid ha.hx (by rw [e1]; exact g3) g2 g5 hle' g4 hs hcs
        cases ho : Nat.beq o 0 with
        | true =>
          rw [ho] at h
          have ho := Nat.eq_of_beq_eq_true ho
          subst ho
          obtain ⟨cs', h2, h⟩ := ob_val h hr
          obtain ⟨h3, h4⟩ := newO_val h hr
          have hm := hmb cs' h3 (fun j v hv => by
            rw [growC_get h2 j] at hv
            rw [e1]
            split at hv
            · rename_i hin
              refine .inr ⟨hin.1, ?_, hv⟩
              have := hin.2
              rw [g3] at this
              exact this
            · rename_i hin
              obtain ⟨arr, ty0, fz, q1, q2, q3⟩ := hw.obj b _ e hb he
              have hj := (q3.2 _ _ hv).1
              have e3 : (n + k) * sz = n * sz + k * sz := Nat.add_mul _ _ _
              have e4 : c * sz ≤ (n + k) * sz := Nat.mul_le_mul_right _ (Nat.le_of_lt hle')
              rw [← hen, e1, Nat.zero_add] at hj
              have hin' : ¬ (n * sz ≤ j ∧ j < n * sz + xs.length) := hin
              exact .inl ⟨by omega, by rw [Nat.zero_add]; exact hv⟩)
          rw [e1] at hm
          exact fin2 _ _ _ h4 hm
        | false =>
          rw [ho] at h
          obtain ⟨l, h2, h⟩ := ob_val h hr
          obtain ⟨cs', h3, h4, h5⟩ := newB_val h hr
          have hll : l.length = n * sz := by
            obtain ⟨arr, ty0, fz, q1, q2, q3⟩ := hw.obj b _ e hb he
            obtain ⟨us, p1, p2, _⟩ := getN_ok q3 _ _ _ h2
            rw [← concL_length p1]; exact p2
          have hm := hmb cs' h4 (fun j v hv => by
            rw [mkC_get h3 j] at hv
            rw [e1]
            by_cases hj : j < n * sz
            · rw [List.getElem?_append_left (by omega)] at hv
              exact .inl ⟨hj, getN_get h2 j v hv⟩
            · rw [List.getElem?_append_right (by omega), hll] at hv
              have hlt := (List.getElem?_eq_some_iff.1 hv).1
              exact .inr ⟨by omega, by omega, hv⟩)
          rw [e1] at hm
          exact fin2 _ _ _ h5 hm
    · exact absurd h.symm hr
  · exact absurd h.symm hr
end
end Go.Proofs.YtoklmemeanmfdaaGreat.Ev
/-
  The evaluator's operations beside the model's: the functions that are built in, maps, texts.
-/
namespace Go.Proofs.YtoklmemeanmfdaaGreat.Ev
open Go.RowKit
set_option linter.unusedVariables false
set_option linter.unusedSimpArgs false

section
variable {O : Ow} {σ : Sg} {P : Program} {fr : Fra} {m : Mem} {ρ : Operand → Value} {r : OR} {d : Option Tmp} {ty : Nat} {pos : String} {af : Array Edge} {gd : Option (Nat × Bool)} {w : World}
theorem mapR_length {l : List (AV × AV)} {es : List MapEntry} (h : MapR σ l es) : l.length = es.length := by
  induction l generalizing es with
  | nil => cases es with
    | nil => rfl
    | cons _ _ => exact h.elim
  | cons a l ih =>
    obtain ⟨k, v⟩ := a
    cases es with
    | nil => exact h.elim
    | cons e es => simp [ih h.2.2]
theorem esOf_ok (hw : RelW O σ m.hp m.nx w) {q : Nat} {es : List (AV × AV)} {e : Loc} (h : esOf (hget m.hp q) = some es) (he : σ q = some e) : ∃ ces clk, hget m.hp q = some (.map es) ∧ w.heap[e.bl]? = some (.map ces clk) ∧ MapR σ es ces.toList := by
  unfold esOf at h
  split at h
  · rename_i es' hq
    cases h
    obtain ⟨ces, clk, h1, h2⟩ := hw.obj q _ e hq he
    exact ⟨ces, clk, hq, h1, h2⟩
  · cases h
theorem mapTy_ok {d : Option TypeDesc} {ke : Nat × Nat} (h : mapTy d = some ke) : d = some (.map ke.1 ke.2) := by
  unfold mapTy at h
  split at h
  · cases h; rfl
  · cases h
theorem run_getObj_map {q : Nat} {ces : Array MapEntry} {clk : Nat} (h : w.heap[q]? = some (.map ces clk)) : (getObj q).run P w = .ok (.map ces clk) w := by simp [getObj, Sem.run, h]
theorem concL_one {v : AV} {cs : List Value} (h : concL σ [v] = some cs) : ∃ c, conc σ v = some c ∧ cs = [c] := by
  simp only [concL] at h
  cases hv : conc σ v with
  | none => rw [hv] at h; cases h
  | some c => rw [hv] at h; cases h; exact ⟨c, rfl, rfl⟩
theorem concL_two {u v : AV} {cs : List Value} (h : concL σ [u, v] = some cs) : ∃ b c, conc σ u = some b ∧ conc σ v = some c ∧ cs = [b, c] := by
  simp only [concL] at h
  cases hu : conc σ u with
  | none => rw [hu] at h; cases h
  | some b =>
    cases hv : conc σ v with
    | none => rw [hu, hv] at h; cases h
    | some c => rw [hu, hv] at h; cases h; exact ⟨b, c, rfl, rfl, rfl⟩
theorem pv_next {s : Sem Next} {v : Value} (h : (match pv P s with | some (.value v) => some v | _ => none) = some v) (w : World) : s.run P w = .ok (.value v) w := by
  split at h
  · rename_i u hu
    cases h
    exact pv_run _ _ hu w
  · cases h
theorem zeroC_info {e : Nat} {z : List AV} (h : zeroC P e = some z) : ∃ i zv, P.info? e = some i ∧ i.zero = some zv ∧ z = lits zv.cells := by
  unfold zeroC at h
  cases hi : P.info? e with
  | none => rw [hi] at h; cases h
  | some i =>
    rw [hi] at h
    have h' : (match i.zero with | some z => some (lits z.cells) | none => none) = some z := h
    cases hz : i.zero with
    | none => rw [hz] at h'; cases h'
    | some zv => rw [hz] at h'; cases h'; exact ⟨i, zv, rfl, hz, rfl⟩
theorem app_fin (hw : RelW O σ m.hp m.nx w) {t t2 e sz : Nat} {s x : AV} {z : List AV} {cv cx : Value} {d2 : TypeDesc} (ht : P.underlying t = some (.slice e)) (hsz : szO P e = some sz) (h0 : Nat.beq sz 0 = false) (hby : Nat.ble (bytesT P e) 65536 = true) (hz : zeroC P e = some z) (hlz : Nat.beq (len z) sz = true)
    (hd : P.underlying t2 = some d2) (hd2 : (∃ e2, d2 = .slice e2) ∨ d2 = .string) (hs : conc σ s = some cv) (hx : conc σ x = some cx) (h : appendA sz s (srcOf m.hp sz x) m = r) (hr : r ≠ .no) : MemR O σ P w (do pure (.value (← Builtin.append_ #[t, t2] ty #[cv, cx])) : Sem Next) r := by
  cases hsrc : srcOf m.hp sz x with
  | none => rw [hsrc] at h; exact absurd h.symm hr
  | some kx =>
    obtain ⟨k, xs⟩ := kx
    rw [hsrc] at h
    obtain ⟨i, zv, h1, h2, h3⟩ := zeroC_info hz
    obtain ⟨i', h4, h5⟩ := szO_info hsz
    rw [h1] at h4; cases h4
    obtain ⟨cs, q1, q2, q3⟩ := srcOf_ok hw hsrc hx
    have hl : zv.cells.size = sz := by
      have := Nat.eq_of_beq_eq_true hlz
      rw [len_eq, h3] at this
      simpa [lits] using this
    have hpos : 0 < sz := by
      rcases Nat.eq_zero_or_pos sz with h' | h'
      · subst h'; cases h0
      · exact h'
    have hb : i.bytes ≤ 65536 := by have := ble_le hby; unfold bytesT at this; rw [h1] at this; exact this
    exact appendA_ok hw ⟨ht, h1, h2, by rw [hl, h5], h5, hpos, hb, q1, fun hlen => ⟨by rw [h5]; exact hlen, .inl ⟨d2, hd, hd2, q2, fun w' hw' => by rw [h5]; exact q3 w' hw'⟩⟩⟩ hs h hr
theorem zeroCells_eq (z : Array Value) (n : Nat) : Builtin.zeroCells z n = (Array.range (n * z.size)).map (z[· % z.size]!) := rfl
theorem appTo_ok (hw : RelW O σ m.hp m.nx w) {t t2 e sz : Nat} {s x : AV} {cv cx : Value} (ht : P.underlying t = some (.slice e)) (hsz : szO P e = some sz) (h0 : Nat.beq sz 0 = false) (hby : Nat.ble (bytesT P e) 65536 = true)
    (hs : conc σ s = some cv) (hx : conc σ x = some cx) (h : appTo P e sz s x m (P.underlying t2) = r) (hr : r ≠ .no) : MemR O σ P w (do pure (.value (← Builtin.append_ #[t, t2] ty #[cv, cx])) : Sem Next) r := by
  cases hd : P.underlying t2 with
  | none => rw [hd] at h; exact absurd h.symm hr
  | some d2 =>
    rw [hd] at h
    cases d2 <;> first | exact absurd h.symm hr | skip
    · rename_i q
      have key : ∃ n, x = .lit (.int .i64 (.ofNat n)) ∧ (ob (zeroC P e) fun z => cond (Nat.beq (len z) sz && Nat.ble n 65536 && Nat.blt 0 n) (appendA sz s (some (n, repN z n)) m) .no) = r := by
        cases x <;> first | exact absurd h.symm hr | skip
        rename_i v
        cases v <;> first | exact absurd h.symm hr | skip
        rename_i k i
        cases k <;> first | exact absurd h.symm hr | skip
        cases i <;> first | exact absurd h.symm hr | exact ⟨_, rfl, h⟩
      clear h
      · obtain ⟨n, rfl, h'⟩ := key
        obtain ⟨z, hz, h⟩ := ob_val h' hr
        obtain ⟨h3, h⟩ := cond_val h hr
        obtain ⟨g1, g2, g3⟩ := and3 h3
        cases hx
        obtain ⟨i, zv, k1, k2, k3⟩ := zeroC_info hz
        obtain ⟨i', k4, k5⟩ := szO_info hsz
        rw [k1] at k4; cases k4
        have hl : zv.cells.size = sz := by
          have := Nat.eq_of_beq_eq_true g1
          rw [len_eq, k3] at this
          simpa [lits] using this
        have hpos : 0 < sz := by
          rcases Nat.eq_zero_or_pos sz with h' | h'
          · subst h'; cases h0
          · exact h'
        have hb : i.bytes ≤ 65536 := by have := ble_le hby; unfold bytesT at this; rw [k1] at this; exact this
        have hzl : concL σ z = some zv.cells.toList := by rw [k3]; exact lits_ok _
        have hrep := repN_ok hzl (by omega) n
        exact appendA_ok hw ⟨ht, k1, k2, by rw [hl, k5], k5, hpos, hb, hrep, fun hlen => ⟨by rw [k5]; exact hlen, .inr ⟨q, hd, rfl, ⟨ble_le g2, blt_lt g3⟩, by rw [zeroCells_eq]⟩⟩⟩ hs h hr
    · obtain ⟨z, hz, h⟩ := ob_val h hr
      obtain ⟨h3, h⟩ := cond_val h hr
      exact app_fin hw ht hsz h0 hby hz h3 hd (.inr rfl) hs hx h hr
    · obtain ⟨z, hz, h⟩ := ob_val h hr
      obtain ⟨h3, h⟩ := cond_val h hr
      exact app_fin hw ht hsz h0 hby hz h3 hd (.inl ⟨_, rfl⟩) hs hx h hr
theorem doBuiltin_ok (hw : RelW O σ m.hp m.nx w) {b : Builtin} {ts : Array TypeId} {cs : Array Bool} {xs : List AV} {args : List Value} (hx : concL σ xs = some args) (h : doBuiltin P b ts.toList ty cs xs m = r) (hr : r ≠ .no) :
    MemR O σ P w (builtin b ts ty cs args.toArray) r := by
  unfold doBuiltin at h
  split at h
  · rename_i t b' o n c s hts
    obtain ⟨e, hu, h⟩ := sliceOf_val h hr
    subst h
    obtain ⟨cv, h1, rfl⟩ := concL_one hx
    obtain ⟨e, he, _, rfl⟩ := conc_slc h1
    have : ts = #[t] := by apply Array.ext'; exact hts
    subst this
    exact ⟨_, rfl, by simp [builtin, Builtin.len_, run_underlying hu, goInt]⟩
  · rename_i t q hts
    obtain ⟨ke, hu, h⟩ := ob_val h hr
    obtain ⟨es, h2, h⟩ := ob_val h hr
    subst h
    obtain ⟨cv, h1, rfl⟩ := concL_one hx
    simp only [conc, Option.map_eq_some_iff] at h1
    obtain ⟨e, he, rfl⟩ := h1
    obtain ⟨ces, clk, _, g1, g2⟩ := esOf_ok hw h2 he
    have : ts = #[t] := by apply Array.ext'; exact hts
    subst this
    have hl := mapR_length g2
    refine ⟨_, rfl, ?_⟩
    simp [builtin, Builtin.len_, run_underlying (mapTy_ok hu), run_getObj_map g1, goInt, hl]
  · rename_i t t2 s x hts
    obtain ⟨e, hu, h⟩ := sliceOf_val h hr
    obtain ⟨sz, hsz, h⟩ := ob_val h hr
    cases h0 : Nat.beq sz 0 with
    | true => rw [h0] at h; exact absurd h.symm hr
    | false =>
      rw [h0] at h
      obtain ⟨hby, h⟩ := cond_val h hr
      obtain ⟨cv, cx, h1, h2, rfl⟩ := concL_two hx
      have : ts = #[t, t2] := by apply Array.ext'; exact hts
      subst this
      have e0 : builtin .append #[t, t2] ty cs #[cv, cx] = (do pure (.value (← Builtin.append_ #[t, t2] ty #[cv, cx])) : Sem Next) := rfl
      rw [show ([cv, cx] : List Value).toArray = #[cv, cx] from rfl, e0]
      exact appTo_ok hw hu hsz h0 hby h1 h2 h hr
  · rename_i t t2 b' o n c s x hts
    obtain ⟨e, hu, h⟩ := sliceOf_val h hr
    obtain ⟨sz, hsz, h⟩ := ob_val h hr
    obtain ⟨kx, hsrc, h⟩ := ob_val h hr
    obtain ⟨hk, h⟩ := cond_val h hr
    obtain ⟨c0, hb, h⟩ := oW_val h hr
    obtain ⟨c', hs, h⟩ := ob_val h hr
    obtain ⟨k, xs⟩ := kx
    obtain ⟨cv, cx, h1, h2, rfl⟩ := concL_two hx
    have : ts = #[t, t2] := by apply Array.ext'; exact hts
    subst this
    obtain ⟨e', he, _, rfl⟩ := conc_slc h1
    obtain ⟨cs', q1, q2, q3⟩ := srcOf_ok (P := P) hw hsrc h2
    simp only [Bool.and_eq_true] at hk
    have hk1 : k ≤ n := ble_le hk.1
    have hk2 := blt_lt hk.2
    rw [len_eq] at hk2
    obtain ⟨w', g1, g2, g3⟩ := writeN_ok (P := P) hw hb he hs q1 hk2
    subst h
    refine ⟨σ, _, w', Sle.refl _, rfl, .inl ?_, g2, g3⟩
    have hmin : Nat.min k n = k := Nat.min_eq_left hk1
    simp [builtin, Builtin.copy_, run_underlying hu, szO_run hsz, q2, hmin, q3 w rfl, g1, goInt]
  · rename_i hn1 hn2 hn3 hn4
    obtain ⟨vs, h1, h⟩ := ob_val h hr
    obtain ⟨v, h2, h3⟩ := ofVal_val h hr
    have e1 := (litL_ok (σ := σ) h1).symm.trans hx
    cases e1
    subst h3
    exact ⟨v, rfl, pv_next h2 w⟩
end
end Go.Proofs.YtoklmemeanmfdaaGreat.Ev
/-
  The evaluator's operations beside the model's: maps.
-/
namespace Go.Proofs.YtoklmemeanmfdaaGreat.Ev
open Go.RowKit
set_option linter.unusedVariables false
set_option linter.unusedSimpArgs false

section
variable {O : Ow} {σ : Sg} {P : Program} {fr : Fra} {m : Mem} {ρ : Operand → Value} {r : OR} {d : Option Tmp} {ty : Nat} {pos : String} {af : Array Edge} {gd : Option (Nat × Bool)} {w : World}
/-- a key as the model has it -/
def kval (st : Bool) (xs : List Int) : Value := if st then .agg (ivals .i64 xs).toArray else .int .i64 (xs.headD 0)
theorem intsOf_ok : ∀ {l : List AV} {xs : List Int}, intsOf l = some xs → concL σ l = some (ivals .i64 xs)
  | [], xs, h => by cases h; rfl
  | v :: l, xs, h => by
    cases v <;> first | cases h | skip
    rename_i u
    cases u <;> first | cases h | skip
    rename_i k n
    cases k <;> first | cases h | skip
    have h' : (match intsOf l with | some xs => some (n :: xs) | none => none) = some xs := h
    cases hl : intsOf l with
    | none => rw [hl] at h'; cases h'
    | some ys =>
      rw [hl] at h'
      cases h'
      simp only [concL, conc, intsOf_ok hl]; rfl
theorem keyC_ok {st : Bool} {v : AV} {xs : List Int} {c : Value} (h : keyC st v = some xs) (hc : conc σ v = some c) : c = kval st xs := by
  cases st with
  | true =>
    have h' : (match aggL v with | some l => intsOf l | none => none) = some xs := h
    cases ha : aggL v with
    | none => rw [ha] at h'; cases h'
    | some l =>
      rw [ha] at h'
      obtain ⟨cs, h1, h2⟩ := aggL_ok ha hc
      have := (intsOf_ok (σ := σ) h').symm.trans h1
      cases this
      exact h2
  | false =>
    cases v <;> first | cases h | skip
    rename_i u
    cases u <;> first | cases h | skip
    rename_i k n
    cases k <;> cases h
    cases hc
    rfl
theorem eqIL_eq : ∀ (a b : List Int), eqIL a b = (a == b)
  | [], [] => rfl
  | [], _ :: _ => rfl
  | _ :: _, [] => rfl
  | a :: l, b :: m => by
    show cond (eqI a b) (eqIL l m) false = _
    rw [eqI_eq, eqIL_eq l m]
    by_cases h : a = b
    · subst h; simp
    · simp [h]
theorem keyT_ok {t n : Nat} {st : Bool} (h : keyT P t = some (st, n)) : (st = false ∧ n = 1 ∧ ∃ k, P.underlying t = some (.int k)) ∨ (st = true ∧ intsB P t = true ∧ (P.fieldsOf t).toList.length = n) := by
  unfold keyT at h
  split at h
  · cases h; exact .inl ⟨rfl, rfl, _, by assumption⟩
  · cases hb : intsB P t with
    | false => rw [hb] at h; cases h
    | true => rw [hb] at h; cases h; exact .inr ⟨rfl, rfl, rfl⟩
  · cases h
theorem chk_ok {t n : Nat} {st : Bool} {xs : List Int} (h : keyT P t = some (st, n)) (hl : xs.length = n) (em : Bool) (w : World) : (Instr.checkKey em 10000 t (kval st xs)).run P w = .ok () w := by
  rcases keyT_ok h with ⟨rfl, rfl, k, hu⟩ | ⟨rfl, hb, hn⟩
  · exact run_chkInt hu em 9999 (xs.headD 0) w
  · obtain ⟨h1, h3, _⟩ := intsB_spec hb
    have := run_chkFields (P := P) em 9998 xs w _ 0 h3 (by omega)
    have e : Instr.checkKey em 10000 t (kval true xs) = Instr.checkKey em (9998 + 2) t (.agg (ivals .i64 xs).toArray) := rfl
    rw [e, Instr.checkKey]
    simp only [Sem.run_bind, run_underlying h1, Result.andThen_ok]
    rw [← Array.forIn_toList]
    refine (congrArg (fun r => Result.andThen r _) this).trans ?_
    simp
theorem eq_ok {t n : Nat} {st : Bool} {xs ys : List Int} (h : keyT P t = some (st, n)) (hx : xs.length = n) (hy : ys.length = n) (w : World) : (Op.equal t (kval st xs) (kval st ys)).run P w = .ok (eqIL xs ys) w := by
  rw [eqIL_eq]
  rcases keyT_ok h with ⟨rfl, rfl, k, hu⟩ | ⟨rfl, hb, hn⟩
  · match xs, ys, hx, hy with
    | [a], [b], _, _ => exact equal_of fun n => by simp [kval, Op.equalIn, run_underlying hu]
  · obtain ⟨h1, h3, h4, h5⟩ := intsB_spec hb
    have e1 := run_eqInts (P := P) (w := w) (k := .i64) 9998 xs ys _ 0 h3 (by omega) (by omega)
    have hQ := run_equalIn_agg w 9999 t (ivals .i64 xs).toArray (ivals .i64 ys).toArray h1 h4
    exact hQ.trans e1
theorem same_ok (st : Bool) (xs : List Int) : Instr.sameBits 10000 (kval st xs) (kval st xs) = true := by
  cases st with
  | false => simp [kval, Instr.sameBits]
  | true =>
    show Instr.sameBits (9999 + 1) (.agg (ivals .i64 xs).toArray) (.agg (ivals .i64 xs).toArray) = true
    simp only [Instr.sameBits, beq_self_eq_true, Bool.true_and]
    induction xs with
    | nil => rfl
    | cons x xs ih =>
      have : (ivals .i64 (x :: xs)) = Value.int .i64 x :: ivals .i64 xs := rfl
      rw [this]
      simp only [List.zip_cons_cons, List.all_cons, Bool.and_eq_true]
      exact ⟨by simp [Instr.sameBits], ih⟩
/-- One entry after another. -/
theorem ask_ok {t n : Nat} {st : Bool} {xs : List Int} (ht : keyT P t = some (st, n)) (hx : xs.length = n) (w : World) : ∀ (es : List (AV × AV)) (ces : List MapEntry) (i : Nat) (res : Option AV), MapR σ es ces → findM st n xs es = some res →
    ∃ q, (Instr.findAsking t (kval st xs) ces i).run P w = .ok q w ∧ (res = none → q = none) ∧ ∀ v, res = some v → ∃ j c, q = some (j, c) ∧ conc σ v = some c
  | [], [], i, res, _, h => by
    cases h
    exact ⟨none, by simp [Instr.findAsking], fun _ => rfl, fun v hv => by cases hv⟩
  | [], _ :: _, _, _, hm, _ => hm.elim
  | (_, _) :: _, [], _, _, hm, _ => hm.elim
  | (a, v) :: es, e :: ces, i, res, hm, h => by
    have h' : (match keyC st a with
      | some ka => cond (Nat.beq (len ka) n) (cond (eqIL xs ka) (some (some v)) (findM st n xs es)) none
      | none => none) = some res := h
    cases hk : keyC st a with
    | none => rw [hk] at h'; cases h'
    | some ka =>
      rw [hk] at h'
      have h' : cond (Nat.beq (len ka) n) (cond (eqIL xs ka) (some (some v)) (findM st n xs es)) none = some res := h'
      cases hl : Nat.beq (len ka) n with
      | false => rw [hl] at h'; cases h'
      | true =>
        rw [hl] at h'
        have hl := Nat.eq_of_beq_eq_true hl
        rw [len_eq] at hl
        have he := keyC_ok hk hm.1
        have hE := eq_ok (P := P) ht hx hl w
        rw [← he] at hE
        cases hb : eqIL xs ka with
        | true =>
          rw [hb] at h' hE
          cases h'
          exact ⟨some (i, e.val), by simp [Instr.findAsking, hE], (fun h => by cases h), (fun u hu => by cases hu; exact ⟨i, e.val, rfl, hm.2.1⟩)⟩
        | false =>
          rw [hb] at h' hE
          obtain ⟨q, q1, q2, q3⟩ := ask_ok ht hx w es ces (i + 1) res hm.2.2 h'
          exact ⟨q, by simp [Instr.findAsking, hE, q1], q2, q3⟩
theorem now_none {es : List MapEntry} {fs : Array Field} {xs : List Int} (h : es ≠ []) (i : Nat) : Instr.findNow (.struct fs) (kval true xs) es i = none := by
  cases es with
  | nil => exact absurd rfl h
  | cons e es => simp [Instr.findNow, Instr.sameNow]
theorem now_int {k : IntKind} {xs : List Int} {t : Nat} (hu : P.underlying t = some (.int k)) (w : World) : ∀ (es : List (AV × AV)) (ces : List MapEntry) (i : Nat) (res : Option AV), MapR σ es ces → findM false 1 xs es = some res → xs.length = 1 →
    ∃ q, Instr.findNow (.int k) (kval false xs) ces i = some q ∧ (Instr.findAsking t (kval false xs) ces i).run P w = .ok q w
  | [], [], i, res, _, h, _ => ⟨none, rfl, by simp [Instr.findAsking]⟩
  | [], _ :: _, _, _, hm, _, _ => hm.elim
  | (_, _) :: _, [], _, _, hm, _, _ => hm.elim
  | (a, v) :: es, e :: ces, i, res, hm, h, hx => by
    have h' : (match keyC false a with
      | some ka => cond (Nat.beq (len ka) 1) (cond (eqIL xs ka) (some (some v)) (findM false 1 xs es)) none
      | none => none) = some res := h
    cases hk : keyC false a with
    | none => rw [hk] at h'; cases h'
    | some ka =>
      rw [hk] at h'
      have h' : cond (Nat.beq (len ka) 1) (cond (eqIL xs ka) (some (some v)) (findM false 1 xs es)) none = some res := h'
      cases hl : Nat.beq (len ka) 1 with
      | false => rw [hl] at h'; cases h'
      | true =>
        rw [hl] at h'
        have hl := Nat.eq_of_beq_eq_true hl
        rw [len_eq] at hl
        have he := keyC_ok hk hm.1
        match xs, ka, hx, hl with
        | [x], [y], _, _ =>
          have ek : e.key = .int .i64 y := he
          have hE : (Op.equal t (kval false [x]) e.key).run P w = .ok (x == y) w := by
            rw [ek]; exact equal_of fun n => by simp [kval, Op.equalIn, run_underlying hu]
          have hs : Instr.sameNow (.int k) (kval false [x]) e.key = some (x == y) := by rw [ek]; simp [kval, Instr.sameNow]
          cases hb : (x == y) with
          | true => exact ⟨some (i, e.val), by simp [Instr.findNow, hs, hb], by simp [Instr.findAsking, hE, hb]⟩
          | false =>
            have h'' : findM false 1 [x] es = some res := by
              rw [eqIL_eq] at h'
              have : ([x] == [y]) = false := by simpa using hb
              rw [this] at h'; exact h'
            obtain ⟨q, q1, q2⟩ := now_int hu w es ces (i + 1) res hm.2.2 h'' rfl
            exact ⟨q, by simp [Instr.findNow, hs, hb, q1], by simp [Instr.findAsking, hE, hb, q2]⟩
theorem find_ok {t n : Nat} {st : Bool} {xs : List Int} {es : List (AV × AV)} {ces : List MapEntry} {res : Option AV} (ht : keyT P t = some (st, n)) (hx : xs.length = n) (hm : MapR σ es ces) (h : findM st n xs es = some res) (w : World) :
    ∃ q, (Instr.findKey t (kval st xs) ces).run P w = .ok q w ∧ (Instr.findAsking t (kval st xs) ces 0).run P w = .ok q w ∧ (res = none → q = none) ∧ ∀ v, res = some v → ∃ j c, q = some (j, c) ∧ conc σ v = some c := by
  obtain ⟨q, q1, q2, q3⟩ := ask_ok (P := P) ht hx w es ces 0 res hm h
  refine ⟨q, ?_, q1, q2, q3⟩
  rcases keyT_ok ht with ⟨rfl, rfl, k, hu⟩ | ⟨rfl, hb, hn⟩
  · obtain ⟨q', r1, r2⟩ := now_int (P := P) hu w es ces 0 res hm h hx
    rw [r2] at q1
    cases q1
    simp [Instr.findKey, run_underlying hu, r1]
  · obtain ⟨h1, _⟩ := intsB_spec hb
    cases ces with
    | nil =>
      have : q = none := by simp [Instr.findAsking] at q1; exact q1.symm
      subst this
      simp [Instr.findKey, run_underlying h1, Instr.findNow]
    | cons e ces =>
      have := now_none (es := e :: ces) (fs := P.fieldsOf t) (xs := xs) (by simp) 0
      simp [Instr.findKey, run_underlying h1, this, q1]
theorem kLookup_ok (hw : RelW O σ m.hp m.nx w) (hρ : OpdR σ fr ρ) {t : Nat} {x y : Operand} {ok : Bool} (h : kLookup t x y ok P ty fr m = r) (hr : r ≠ .no) : ∃ v, r = .val v ∧ ∃ c, conc σ v = some c ∧ (execOp ρ ⟨d, .lookup t x y ok, ty, pos, af, gd⟩).run P w = .ok (.value c) w := by
  obtain ⟨mv, h1, h⟩ := ob_val h hr
  obtain ⟨kv, h2, h⟩ := ob_val h hr
  obtain ⟨q, h3, h⟩ := ob_val h hr
  obtain ⟨es, h4, h⟩ := ob_val h hr
  obtain ⟨ke, h5, h⟩ := ob_val h hr
  obtain ⟨sn, h6, h⟩ := ob_val h hr
  obtain ⟨xs, h7, h⟩ := ob_val h hr
  obtain ⟨h8, h⟩ := cond_val h hr
  obtain ⟨res, h9, h⟩ := ob_val h hr
  obtain ⟨st, n⟩ := sn
  have hl := Nat.eq_of_beq_eq_true h8
  rw [len_eq] at hl
  have hm : mv = .map q := by
    unfold mapOf at h3
    split at h3
    · cases h3; rfl
    · cases h3
  subst hm
  have hmv := hρ x _ h1
  simp only [conc, Option.map_eq_some_iff] at hmv
  obtain ⟨e, he, hx⟩ := hmv
  have hk := keyC_ok h7 (hρ y _ h2)
  obtain ⟨ces, clk, g1, g2, g3⟩ := esOf_ok hw h4 he
  obtain ⟨qq, f1, _, f2, f3⟩ := find_ok (P := P) h6 hl g3 h9 w
  have hck := chk_ok (P := P) h6 hl ces.isEmpty w
  have hu := mapTy_ok h5
  cases res with
  | some v =>
    obtain ⟨j, c, rfl, hv⟩ := f3 v rfl
    cases ok with
    | true =>
      refine ⟨_, h.symm, .tuple #[c, .bool true], by simp only [cond_true, conc, concL, hv, Option.map_some], ?_⟩
      simp [execOp, ← hx, hk, Instr.lookup, run_underlying hu, run_getObj_map g2, hck, f1]
    | false =>
      refine ⟨_, h.symm, c, hv, ?_⟩
      simp [execOp, ← hx, hk, Instr.lookup, run_underlying hu, run_getObj_map g2, hck, f1]
  | none =>
    have := f2 rfl
    subst this
    obtain ⟨z, hz, h⟩ := ob_val h hr
    obtain ⟨c, hz1, hz2⟩ := zeroV_ok (σ := σ) hz
    cases ok with
    | true =>
      refine ⟨_, h.symm, .tuple #[c, .bool false], by simp only [cond_true, conc, concL, hz1, Option.map_some], ?_⟩
      simp [execOp, ← hx, hk, Instr.lookup, run_underlying hu, run_getObj_map g2, hck, f1, hz2]
    | false =>
      refine ⟨_, h.symm, c, hz1, ?_⟩
      simp [execOp, ← hx, hk, Instr.lookup, run_underlying hu, run_getObj_map g2, hck, f1, hz2]
theorem run_setObj_map {q : Nat} {ces : Array MapEntry} {clk : Nat} {o : Obj} (h : w.heap[q]? = some (.map ces clk)) : (setObj q o).run P w = .ok () (w.putObj q o) := by simp [setObj, Sem.run, h, World.putObj]
theorem MapR.append {es : List (AV × AV)} {ces : List MapEntry} {k v : AV} {e : MapEntry} (h : MapR σ es ces) (hk : conc σ k = some e.key) (hv : conc σ v = some e.val) : MapR σ (es ++ [(k, v)]) (ces ++ [e]) := by
  induction es generalizing ces with
  | nil => cases ces with
    | nil => exact ⟨hk, hv, trivial⟩
    | cons _ _ => exact h.elim
  | cons a es ih =>
    obtain ⟨a, u⟩ := a
    cases ces with
    | nil => exact h.elim
    | cons c ces => exact ⟨h.1, h.2.1, ih h.2.2⟩
/-- An entry is written. -/
theorem upd_ok {st : Bool} {n : Nat} {xs : List Int} {k v : AV} {ck cv : Value} (hk : conc σ k = some ck) (hv : conc σ v = some cv) (hck : ck = kval st xs) (t : Nat) (ht : keyT P t = some (st, n)) (hx : xs.length = n) (w : World) : ∀ (es es' : List (AV × AV)) (ces : List MapEntry) (i : Nat), MapR σ es ces → updM st n k xs v es = some es' →
    (findM st n xs es = some none ∧ es' = es ++ [(k, v)]) ∨
    ∃ u j e, findM st n xs es = some (some u) ∧ (Instr.findAsking t (kval st xs) ces i).run P w = .ok (some (i + j, e.val)) w ∧ ces[j]? = some e ∧ e.key = ck ∧ MapR σ es' (ces.set j { e with key := ck, val := cv })
  | [], es', [], i, hm, h => by cases h; exact .inl ⟨rfl, rfl⟩
  | [], _, _ :: _, _, hm, _ => hm.elim
  | (_, _) :: _, _, [], _, hm, _ => hm.elim
  | (a, u) :: es, es', e :: ces, i, hm, h => by
    have h' : (match keyC st a with
      | some ka => cond (Nat.beq (len ka) n) (cond (eqIL xs ka) (some ((k, v) :: es)) (match updM st n k xs v es with
        | some l' => some ((a, u) :: l')
        | none => none)) none
      | none => none) = some es' := h
    cases hka : keyC st a with
    | none => rw [hka] at h'; cases h'
    | some ka =>
      rw [hka] at h'
      have h' : cond (Nat.beq (len ka) n) (cond (eqIL xs ka) (some ((k, v) :: es)) (match updM st n k xs v es with
        | some l' => some ((a, u) :: l')
        | none => none)) none = some es' := h'
      cases hl : Nat.beq (len ka) n with
      | false => rw [hl] at h'; cases h'
      | true =>
        rw [hl] at h'
        have hl' := Nat.eq_of_beq_eq_true hl
        rw [len_eq] at hl'
        have he := keyC_ok hka hm.1
        have hE := eq_ok (P := P) ht hx hl' w
        rw [← he] at hE
        have hf : findM st n xs ((a, u) :: es) = cond (eqIL xs ka) (some (some u)) (findM st n xs es) := by
          show (match keyC st a with | some ka => _ | none => none) = _
          rw [hka]
          show cond (Nat.beq (len ka) n) _ none = _
          rw [hl]; rfl
        cases hb : eqIL xs ka with
        | true =>
          rw [hb] at h' hE hf
          cases h'
          have hxs : xs = ka := by rw [eqIL_eq] at hb; simpa using hb
          subst hxs
          exact .inr ⟨u, 0, e, hf, by simp [Instr.findAsking, hE], rfl, by rw [hck, he], hk, hv, hm.2.2⟩
        | false =>
          rw [hb] at h' hE hf
          have h' : (match updM st n k xs v es with
            | some l' => some ((a, u) :: l')
            | none => none) = some es' := h'
          cases hu : updM st n k xs v es with
          | none => rw [hu] at h'; cases h'
          | some l' =>
            rw [hu] at h'
            cases h'
            rcases upd_ok hk hv hck t ht hx w es l' ces (i + 1) hm.2.2 hu with ⟨q1, q2⟩ | ⟨u', j, e', q1, q2, q3, q4, q5⟩
            · exact .inl ⟨hf.trans q1, by rw [q2]; rfl⟩
            · refine .inr ⟨u', j + 1, e', hf.trans q1, ?_, q3, q4, hm.1, hm.2.1, q5⟩
              simp only [Instr.findAsking, Sem.run_bind, hE, Result.andThen_ok]
              simp [q2]
              omega
theorem kMapUpd_ok (hw : RelW O σ m.hp m.nx w) (hρ : OpdR σ fr ρ) {t : Nat} {x y z : Operand} (h : kMapUpd t x y z P ty fr m = r) (hr : r ≠ .no) : MemR O σ P w (do Instr.mapUpdate t (ρ x) (ρ y) (ρ z); pure .skip : Sem Next) r := by
  obtain ⟨mv, h1, h⟩ := ob_val h hr
  obtain ⟨kv, h2, h⟩ := ob_val h hr
  obtain ⟨vv, h2', h⟩ := ob_val h hr
  obtain ⟨q, h3, h⟩ := ob_val h hr
  obtain ⟨es, h4, h⟩ := ob_val h hr
  obtain ⟨ke, h5, h⟩ := ob_val h hr
  obtain ⟨sn, h6, h⟩ := ob_val h hr
  obtain ⟨xs, h7, h⟩ := ob_val h hr
  obtain ⟨h8, h⟩ := cond_val h hr
  obtain ⟨es', h9, hfin⟩ := ob_val h hr
  obtain ⟨st, n⟩ := sn
  have hl := Nat.eq_of_beq_eq_true h8
  rw [len_eq] at hl
  have hm : mv = .map q := by
    unfold mapOf at h3
    split at h3
    · cases h3; rfl
    · cases h3
  subst hm
  have hmv := hρ x _ h1
  simp only [conc, Option.map_eq_some_iff] at hmv
  obtain ⟨e, he, hx⟩ := hmv
  have hky := hρ y _ h2
  have hkz := hρ z _ h2'
  have hk := keyC_ok h7 hky
  obtain ⟨ces, clk, g1, g2, g3⟩ := esOf_ok hw h4 he
  have hck := chk_ok (P := P) h6 hl false w
  have hu := mapTy_ok h5
  rw [← hfin]
  have hput : ∀ o : Obj, (w.putObj e.bl o).heap[e.bl]? = some o := fun o => World.putObj_heap_same (Array.getElem?_eq_some_iff.1 g2).1
  rcases upd_ok (P := P) hky hkz hk ke.1 h6 hl w es es' ces.toList 0 g3 h9 with ⟨q1, q2⟩ | ⟨u, j, e', q1, q2, q3, q4, q5⟩
  · obtain ⟨qq, f1, _, f2, _⟩ := find_ok (P := P) h6 hl g3 q1 w
    have := f2 rfl
    subst this
    have hwr := hw.write (o' := .map es') (w' := w.putObj e.bl (.map (ces.push { key := ρ y, val := ρ z, born := clk }) (clk + 1))) g1 rfl he
      (by rw [hput]; exact ⟨_, _, rfl, by rw [q2, Array.toList_push]; exact g3.append hky hkz⟩)
      (by simp [World.putObj]) (fun k hk => World.putObj_heap_other hk) rfl rfl rfl
    refine ⟨σ, undef, _, Sle.refl _, rfl, .inr ⟨?_, rfl⟩, hwr.1, hwr.2⟩
    rw [← hk] at f1 hck
    simp [← hx, Instr.mapUpdate, run_underlying hu, run_getObj_map g2, hck, f1, run_setObj_map g2]
  · obtain ⟨qq, f1, f1', _, _⟩ := find_ok (P := P) h6 hl g3 q1 w
    rw [q2] at f1'
    cases f1'
    simp only [Nat.zero_add] at f1
    have hwr := hw.write (o' := .map es') (w' := w.putObj e.bl (.map (ces.modify j fun e => { e with key := ρ y, val := ρ z }) clk)) g1 rfl he
      (by
        rw [hput]
        refine ⟨_, _, rfl, ?_⟩
        have : (ces.modify j fun e => { e with key := ρ y, val := ρ z }).toList = ces.toList.set j { e' with key := ρ y, val := ρ z } := by
          rw [Array.toList_modify]
          apply List.ext_getElem?
          intro i
          rw [List.getElem?_modify, List.getElem?_set]
          by_cases hij : j = i
          · subst hij
            have hlt := (List.getElem?_eq_some_iff.1 q3).1
            rw [q3]; simp at hlt; simp [hlt]
          · simp [hij]
        rw [this]
        exact q5)
      (by simp [World.putObj]) (fun k hk => World.putObj_heap_other hk) rfl rfl rfl
    refine ⟨σ, undef, _, Sle.refl _, rfl, .inr ⟨?_, rfl⟩, hwr.1, hwr.2⟩
    have hsm := same_ok st xs
    rw [← hk] at f1 hck hsm
    have hkey : ((ces[j]?).map (·.key)).getD (ρ y) = ρ y := by
      have : ces[j]? = some e' := by simpa using q3
      rw [this]; exact q4
    simp [← hx, Instr.mapUpdate, run_underlying hu, run_getObj_map g2, hck, f1, run_setObj_map g2, Instr.keyThatStays, hkey, hsm]
end
end Go.Proofs.YtoklmemeanmfdaaGreat.Ev
/-
  The evaluator's operations beside the model's: conversions, strings walked, calls; all operations at once.
-/
namespace Go.Proofs.YtoklmemeanmfdaaGreat.Ev
open Go.RowKit
set_option linter.unusedVariables false
set_option linter.unusedSimpArgs false

section
variable {O : Ow} {σ : Sg} {P : Program} {fr : Fra} {m : Mem} {ρ : Operand → Value} {r : OR} {d : Option Tmp} {ty : Nat} {pos : String} {af : Array Edge} {gd : Option (Nat × Bool)} {w : World}
theorem byteL_ok : ∀ {l : List AV} {bs : List UInt8} {cs : List Value}, byteL l = some bs → concL σ l = some cs → ∃ ns : List Int, cs = ns.map (.int .u8) ∧ bs = ns.map fun n => UInt8.ofNat n.toNat
  | [], bs, cs, h, hc => by cases h; cases hc; exact ⟨[], rfl, rfl⟩
  | v :: l, bs, cs, h, hc => by
    unfold byteL at h
    split at h
    · rename_i h0; cases h0
    · rename_i n l' h0
      cases h0
      cases hb : byteL l with
      | none => rw [hb] at h; cases h
      | some bs' =>
        rw [hb] at h; cases h
        simp only [concL, conc] at hc
        cases hl : concL σ l with
        | none => rw [hl] at hc; cases hc
        | some cs' =>
          rw [hl] at hc; cases hc
          obtain ⟨ns, e1, e2⟩ := byteL_ok hb hl
          exact ⟨n :: ns, by rw [e1]; rfl, by rw [e2]; rfl⟩
    · cases h
theorem fold_push : ∀ (ns : List Int) (s : ByteArray), ns.foldl (fun r n => r.push (UInt8.ofNat n.toNat)) s = ⟨(s.data.toList ++ ns.map fun n => UInt8.ofNat n.toNat).toArray⟩
  | [], s => by simp
  | n :: ns, s => by
    rw [List.foldl_cons, fold_push ns]
    simp [ByteArray.push]
theorem isStr_ok {t : Option TypeDesc} (h : isStrT t = true) : t = some .string := by
  unfold isStrT at h
  split at h
  · rfl
  · cases h
theorem isU8_ok {t : Option TypeDesc} (h : isU8 t = true) : t = some (.int .u8) := by
  unfold isU8 at h
  split at h
  · rfl
  · cases h
theorem kConv_ok (hw : RelW O σ m.hp m.nx w) (hρ : OpdR σ fr ρ) {s t : Nat} {x : Operand} (h : kConv s t x P ty fr m = r) (hr : r ≠ .no) : ∃ v, r = .val v ∧ ∃ c, conc σ v = some c ∧ (execOp ρ ⟨d, .convert s t x, ty, pos, af, gd⟩).run P w = .ok (.value c) w := by
  obtain ⟨v, h1, h⟩ := ob_val h hr
  have hv := hρ x v h1
  cases v with
  | lit u =>
    obtain ⟨c, h2, h3⟩ := ofVal_val h hr
    have e := (Option.some.inj hv).symm
    refine ⟨_, h3, c, rfl, ?_⟩
    simp [execOp, e, pv_run _ _ h2]
  | slc b o n c k =>
    obtain ⟨h2, h⟩ := cond_val h hr
    obtain ⟨e, h3, h⟩ := sliceOf_val h hr
    obtain ⟨h4, h⟩ := cond_val h hr
    obtain ⟨xs, h5, h⟩ := ob_val h hr
    obtain ⟨bs, h6, h⟩ := ob_val h hr
    obtain ⟨cs, q1, q2, q3⟩ := srcOf_ok (P := P) hw (k := xs.1) (xs := xs.2) h5 hv
    obtain ⟨ns, e1, e2⟩ := byteL_ok h6 q1
    subst e1
    obtain ⟨e', he, _, hc⟩ := conc_slc hv
    have q3 := q3 w rfl
    rw [hc] at q3 q2
    have hn : n = xs.1 := by
      have := q2 w
      simp [Builtin.lenOf] at this
      exact this
    rw [← hn] at q3
    have q4 : (loadCells ⟨e'.bl, o + e'.dl, none⟩ n).run P w = .ok (ns.map (Value.int .u8)).toArray w := by
      simpa [Builtin.firstCells] using q3
    refine ⟨_, h.symm, _, rfl, ?_⟩
    have q5 := run_bytesToString (P := P) w _ n (c + e'.kp) ns q4
    rw [fold_push] at q5
    have q6 := run_convert_bytes_string (P := P) w s t e (some ⟨e'.bl, o + e'.dl, none⟩) n (c + e'.kp) h3 (isU8_ok h4) (isStr_ok h2)
    simp [execOp, hc, q6, q5, e2]
  | _ => exact absurd h.symm hr
/-! ### Strings walked -/
theorem kRange_ok (hρ : OpdR σ fr ρ) {t : Nat} {x : Operand} (h : kRange t x P ty fr m = r) (hr : r ≠ .no) : NewO σ P (execOp ρ ⟨d, .range t x, ty, pos, af, gd⟩) m r := by
  obtain ⟨v, h1, h⟩ := ob_val h hr
  obtain ⟨s, h2, h⟩ := ob_val h hr
  obtain ⟨h3, h⟩ := cond_val h hr
  obtain ⟨h5, h6⟩ := newO_val h hr
  have hv := hρ x v h1
  unfold strOf at h2
  split at h2
  · cases h2
    have e := (Option.some.inj hv).symm
    refine ⟨_, _, h5, h6, .stringIter s 0, fun bl => .pointer (some ⟨bl, 0, none⟩), fun bl => ⟨bl, 0, 0, 1, 0⟩, fun _ => rfl, fun w => ?_, fun V bl hn => ⟨?_, rfl, rfl⟩⟩
    · simp [execOp, e, Instr.range, run_underlying (isStr_ok h3), newObj, Sem.run]
    · show (sput σ m.nx _ m.nx).map _ = _
      rw [sput_same]; rfl
  · cases h2
theorem run_getObj_iter {q : Nat} {s : ByteArray} {p : Nat} (h : w.heap[q]? = some (.stringIter s p)) : (getObj q).run P w = .ok (.stringIter s p) w := by simp [getObj, Sem.run, h]
theorem run_setObj_iter {q : Nat} {s : ByteArray} {p : Nat} {o : Obj} (h : w.heap[q]? = some (.stringIter s p)) : (setObj q o).run P w = .ok () (w.putObj q o) := by simp [setObj, Sem.run, h, World.putObj]
theorem kNext_ok (hw : RelW O σ m.hp m.nx w) (hρ : OpdR σ fr ρ) {b : Bool} {x : Operand} (h : kNext x b P ty fr m = r) (hr : r ≠ .no) : MemR O σ P w (execOp ρ ⟨d, .next x b, ty, pos, af, gd⟩) r := by
  cases b with
  | false => exact absurd h.symm hr
  | true =>
    obtain ⟨q, o, h1, h⟩ := vPtr_val h hr
    obtain ⟨h2, h⟩ := cond_val h hr
    have h2 := Nat.eq_of_beq_eq_true h2
    subst h2
    obtain ⟨e, he, hc⟩ := conc_ptr (hρ x _ h1)
    have key : ∃ s p, hget m.hp q = some (.iter s p) ∧ (cond (Nat.blt p s.size)
      (match Utf8.decode s p with
        | (c, w) => OR.mem (.tup [.lit (.bool true), .lit (.int .i64 p), .lit (.int .i32 c)]) (hset (.iter s (Nat.add p w)) m.hp q) m.nx)
      (.val (.tup [.lit (.bool false)]))) = r := by
      unfold nextA at h
      split at h
      · exact ⟨_, _, by assumption, h⟩
      · exact absurd h.symm hr
    clear h
    obtain ⟨s, p, h3, h⟩ := key
    have g := hw.obj q _ e h3 he
    have hdl : e.dl = 0 := g.1
    have g : w.heap[e.bl]? = some (.stringIter s p) := g.2
    rw [hdl] at hc
    cases h4 : Nat.blt p s.size with
    | false =>
      rw [h4] at h
      have hp : ¬ p < s.size := fun h' => by
        have : Nat.blt p s.size = true := by simpa [Nat.blt_eq] using h'
        rw [this] at h4; cases h4
      subst h
      refine ⟨_, rfl, ?_⟩
      simp [execOp, hc, Instr.next, run_getObj_iter g, hp]
    | true =>
      have hp := blt_lt h4
      cases hd : Utf8.decode s p with
      | mk c k =>
      have h8 : OR.mem (.tup [.lit (.bool true), .lit (.int .i64 p), .lit (.int .i32 c)]) (hset (.iter s (Nat.add p k)) m.hp q) m.nx = r := by
        rw [h4, hd] at h; exact h
      clear h
      subst h8
      have hput : ∀ o : Obj, (w.putObj e.bl o).heap[e.bl]? = some o := fun o => World.putObj_heap_same (Array.getElem?_eq_some_iff.1 g).1
      have hwr := hw.write (o' := .iter s (p + k)) (w' := w.putObj e.bl (.stringIter s (p + k))) h3 rfl he
        ⟨hdl, hput _⟩ (by simp [World.putObj]) (fun k hk => World.putObj_heap_other hk) rfl rfl rfl
      refine ⟨σ, _, _, Sle.refl _, rfl, .inl ?_, hwr.1, hwr.2⟩
      simp [execOp, hc, Instr.next, run_getObj_iter g, hp, run_setObj_iter g, goInt, hd]
/-! ### Calls -/
def DefR (σ : Sg) (f : FuncId) (args : List AV) (d : Deferred) : Prop := ∃ a b : List Value, concL σ args = some (a ++ b) ∧ d = { target := .fn (.func f) b.toArray, args := a.toArray }
/-- What comes of any operation. -/
def OpsR (O : Ow) (σ : Sg) (P : Program) (w : World) (s : Sem Next) : OR → Prop
  | .no => False
  | .val v => MemR O σ P w s (.val v)
  | .mem v hp nx => MemR O σ P w s (.mem v hp nx)
  | .call f args => ∃ cs, concL σ args = some cs ∧ s.run P w = .ok (.enter f cs.toArray) w
  | .yld l args => ∃ e cs, σ l = some e ∧ concL σ args = some cs ∧ s.run P w = (Instr.yield e.bl cs.toArray).run P w
  | .dfr (.call f args) => ∃ d, DefR σ f args d ∧ s.run P w = .ok (.defer d) w
  | .dfr (.mark _) => False
  | .panic v => ∃ t c, conc σ v = some (.iface t c) ∧ s.run P w = .halt (.panic (.iface t c)) w
theorem OpsR.of_mem {s : Sem Next} (h : MemR O σ P w s r) : OpsR O σ P w s r := by
  cases r <;> first | exact h | exact absurd h id
theorem OpsR.of_val {s : Sem Next} {v : AV} (h : ∃ v, r = .val v ∧ ValR σ P s v) : OpsR O σ P w s r := by
  obtain ⟨v, rfl, c, h1, h2⟩ := h
  exact ⟨c, h1, h2 w⟩
theorem OpsR.of_read {s : Sem Next} (h : ∃ v, r = .val v ∧ ∃ c, conc σ v = some c ∧ s.run P w = .ok (.value c) w) : OpsR O σ P w s r := by
  obtain ⟨v, rfl, c, h1, h2⟩ := h
  exact ⟨c, h1, h2⟩
theorem OpsR.congr {s s' : Sem Next} (h : OpsR O σ P w s r) (e : s'.run P w = s.run P w) : OpsR O σ P w s' r := by
  cases r with
  | dfr a => cases a <;> first | exact absurd h id | (unfold OpsR at h ⊢; rw [e]; exact h)
  | no => exact absurd h id
  | _ => unfold OpsR at h ⊢; first | (rw [e]; exact h) | (unfold MemR at h ⊢; rw [e]; exact h)
theorem doCall_ok {f : FuncId} {xs : List AV} {cs : List Value} (hx : concL σ xs = some cs) (h : doCall P f xs = r) (hr : r ≠ .no) : OpsR O σ P w (callFunc f cs.toArray) r := by
  unfold doCall at h
  cases hf : P.funcs[f]? with
  | none => rw [hf] at h; exact absurd h.symm hr
  | some fn =>
    rw [hf] at h
    cases hb : fn.body with
    | some c =>
      have h : cond (fn.name == "runtime.NumGoroutine") .no (.call f xs) = r := by rw [← h]; simp only [hb]
      cases hn : fn.name == "runtime.NumGoroutine" with
      | true => rw [hn] at h; exact absurd h.symm hr
      | false =>
        rw [hn] at h
        subst h
        refine ⟨cs, hx, ?_⟩
        have hn' : ¬ fn.name = "runtime.NumGoroutine" := by simpa using hn
        simp [callFunc, hf, hb, hn', Sem.run, program]
    | none =>
      have h : (ob (litL xs) fun vs => ofVal (match pv P (callFunc f vs.toArray) with | some (.value v) => some v | _ => none)) = r := by rw [← h]; simp only [hb]; rfl
      obtain ⟨vs, h1, h⟩ := ob_val h hr
      obtain ⟨v, h2, h3⟩ := ofVal_val h hr
      have e1 := (litL_ok (σ := σ) h1).symm.trans hx
      cases e1
      rw [h3]
      exact ⟨v, rfl, pv_next h2 w⟩
theorem doFn_ok {v : AV} {cv : Value} {xs : List AV} {cs : List Value} (hv : conc σ v = some cv) (hx : concL σ xs = some cs) (h : doFn P v xs = r) (hr : r ≠ .no) :
    OpsR O σ P w (do let d ← Deferred.ofValue cv cs.toArray; invoke d.target d.args) r := by
  unfold doFn at h
  split at h
  · rename_i f a b
    simp only [conc] at hv
    cases ha : concL σ a with
    | none => rw [ha] at hv; cases hv
    | some ca =>
      cases hb : concL σ b with
      | none => rw [ha, hb] at hv; cases hv
      | some cb =>
        rw [ha, hb] at hv
        cases hv
        refine (doCall_ok (concL_append (concL_append ha hx) hb) h hr).congr ?_
        simp [Deferred.ofValue, invoke]
  · rename_i f a b
    have e := Option.some.inj hv
    subst e
    refine (doCall_ok (concL_append (concL_append (lits_ok a) hx) (lits_ok b)) h hr).congr ?_
    have e : (a.toList ++ cs ++ b.toList).toArray = a ++ cs.toArray ++ b := Array.ext' (by simp)
    rw [e]
    simp [Deferred.ofValue, invoke]
  · rename_i l
    subst h
    simp only [conc, Option.map_eq_some_iff] at hv
    obtain ⟨e, he, rfl⟩ := hv
    refine ⟨e, cs, he, hx, ?_⟩
    simp [Deferred.ofValue, invoke]
  · exact absurd h.symm hr
theorem kCall_ok (hw : RelW O σ m.hp m.nx w) (hρ : OpdR σ fr ρ) {c : Call} (h : kCall c P ty fr m = r) (hr : r ≠ .no) : OpsR O σ P w (execOp ρ ⟨d, .call c, ty, pos, af, gd⟩) r := by
  unfold kCall calleeK at h
  obtain ⟨cal, args, ats⟩ := c
  cases cal with
  | builtin b =>
    obtain ⟨xs, h1, h⟩ := ob_val h hr
    have hx := opds_ok hρ _ _ h1
    have := doBuiltin_ok hw hx h hr
    refine (OpsR.of_mem this).congr ?_
    simp [execOp, resolve, invoke, map_toArray ρ args]
    rfl
  | value f =>
    obtain ⟨v, h1, h⟩ := ob_val h hr
    obtain ⟨xs, h2, h⟩ := ob_val h hr
    refine (doFn_ok (hρ _ _ h1) (opds_ok hρ _ _ h2) h hr).congr ?_
    simp [execOp, resolve, map_toArray ρ args]
  | invoke x n => exact absurd h.symm hr
theorem kDefer_ok (hρ : OpdR σ fr ρ) {c : Call} (h : kDefer c P ty fr m = r) (hr : r ≠ .no) : OpsR O σ P w (execOp ρ ⟨d, .defer c, ty, pos, af, gd⟩) r := by
  unfold kDefer deferK at h
  obtain ⟨cal, args, ats⟩ := c
  cases cal with
  | value f =>
    dsimp only at h
    split at h
    · rename_i f' a b xs h1 h2
      subst h
      have hv := hρ _ _ h1
      have hx := opds_ok hρ _ _ h2
      simp only [conc] at hv
      cases ha : concL σ a with
      | none => rw [ha] at hv; cases hv
      | some ca =>
        cases hb : concL σ b with
        | none => rw [ha, hb] at hv; cases hv
        | some cb =>
          rw [ha, hb] at hv
          have hv := (Option.some.inj hv).symm
          refine ⟨_, ⟨ca ++ args.toList.map ρ, cb, concL_append (concL_append ha hx) hb, rfl⟩, ?_⟩
          simp [execOp, resolve, hv, Deferred.ofValue, map_toArray ρ args]
    · exact absurd h.symm hr
  | _ => exact absurd h.symm hr
theorem kPanic_ok (hρ : OpdR σ fr ρ) {x : Operand} (h : kPanic x P ty fr m = r) (hr : r ≠ .no) : OpsR O σ P w (execOp ρ ⟨d, .panic x, ty, pos, af, gd⟩) r := by
  obtain ⟨v, h1, h⟩ := ob_val h hr
  have hv := hρ _ _ h1
  unfold panicV at h
  split at h
  · rename_i t u
    subst h
    simp only [conc, Option.map_eq_some_iff] at hv
    obtain ⟨c, h2, h3⟩ := hv
    refine ⟨t, c, by simp only [conc, h2, Option.map_some], ?_⟩
    simp [execOp, ← h3, Instr.panic, goPanic, Sem.run, Result.andThen]
  · exact absurd h.symm hr
/-- Any operation. -/
theorem opTab_ok (hw : RelW O σ m.hp m.nx w) (hρ : OpdR σ fr ρ) (o : Oper) (h : opTab o.op P o.type fr m = r) (hr : r ≠ .no) : OpsR O σ P w (execOp ρ o) r := by
  obtain ⟨d, op, ty, pos, af, gd⟩ := o
  cases op with
  | move x =>
    obtain ⟨v, rfl, h2⟩ := kMove_ok (m := m) (ty := ty) (P := P) hρ h hr
    exact ⟨_, h2, rfl⟩
  | assign x =>
    obtain ⟨v, rfl, h2⟩ := kMove_ok (m := m) (ty := ty) (P := P) hρ h hr
    exact ⟨_, h2, rfl⟩
  | pick c x y => exact OpsR.of_val (v := .yld 0) (kPick_ok (m := m) hρ h hr)
  | alloc t => exact OpsR.of_mem ((kAlloc_ok (m := m) (fr := fr) h hr).mem hw)
  | box t x => exact OpsR.of_mem ((kBox_ok (m := m) hρ h hr).mem hw)
  | build t ps => exact OpsR.of_val (v := .yld 0) (kBuild_ok (m := m) hρ h hr)
  | buildSlice t n ps => exact OpsR.of_mem ((kBuildSlice_ok (m := m) hρ h hr).mem hw)
  | entryStore t x y z => exact absurd h.symm hr
  | load t x => exact OpsR.of_read (kLoad_ok (m := m) hw hρ h hr)
  | store t x y => exact OpsR.of_mem (kStore_ok (m := m) hw hρ h hr)
  | nilCheck x => exact OpsR.of_val (v := .yld 0) (kNil_ok (m := m) hρ h hr)
  | binOp op t x y t2 => exact OpsR.of_val (v := .yld 0) (kBin_ok (m := m) hρ h hr)
  | unOp op t x => exact OpsR.of_val (v := .yld 0) (kUn_ok (m := m) hρ h hr)
  | convert s t x => exact OpsR.of_read (kConv_ok (m := m) hw hρ h hr)
  | makeInterface t x => exact OpsR.of_val (v := .yld 0) (kMakeI_ok (m := m) hρ h hr)
  | makeFunc f a b => exact OpsR.of_val (v := .yld 0) (kMakeFunc_ok (m := m) hρ h hr)
  | makeMap t x => exact OpsR.of_mem ((kMakeMap_ok (m := m) (fr := fr) h hr).mem hw)
  | makeSlice t x y => exact OpsR.of_mem ((kMakeSlice_ok (m := m) hρ h hr).mem hw)
  | slice t x lo hi mx => exact OpsR.of_val (v := .yld 0) (kSlice_ok (m := m) hρ h hr)
  | fieldAddr t x i => exact OpsR.of_val (v := .yld 0) (kFieldAddr_ok (m := m) hρ h hr)
  | field t x i => exact OpsR.of_val (v := .yld 0) (kField_ok (m := m) hρ h hr)
  | indexAddr t x i => exact OpsR.of_val (v := .yld 0) (kIdxA_ok (m := m) hρ h hr)
  | index t x i => exact OpsR.of_val (v := .yld 0) (kIndex_ok (m := m) hρ h hr)
  | lookup t x i ok => exact OpsR.of_read (kLookup_ok (m := m) hw hρ h hr)
  | mapUpdate t x k v =>
    have := OpsR.of_mem (kMapUpd_ok (m := m) (ty := ty) hw hρ h hr)
    exact this
  | insert t x k v =>
    have := OpsR.of_mem (kMapUpd_ok (m := m) (ty := ty) hw hρ h hr)
    exact this
  | range t x => exact OpsR.of_mem ((kRange_ok (m := m) hρ h hr).mem hw)
  | next x b => exact OpsR.of_mem (kNext_ok (m := m) hw hρ h hr)
  | typeAssert x t0 t ok => exact OpsR.of_val (v := .yld 0) (kTA_ok (m := m) hρ h hr)
  | extract x i => exact OpsR.of_val (v := .yld 0) (kExtract_ok (m := m) hρ h hr)
  | call c => exact kCall_ok hw hρ h hr
  | defer c => exact kDefer_ok (m := m) hρ h hr
  | panic x => exact kPanic_ok (m := m) hρ h hr
  | _ => exact absurd h.symm hr
end
end Go.Proofs.YtoklmemeanmfdaaGreat.Ev
