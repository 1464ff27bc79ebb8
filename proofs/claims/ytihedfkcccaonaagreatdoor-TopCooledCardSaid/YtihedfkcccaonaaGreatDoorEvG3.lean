/-
 The evaluator's operations beside the model's: append.
-/
import Derived.Test.YtihedfkcccaonaaGreatDoorEvG2
import Derived.Lib.Builder
import Derived.Lib.UnsafeStr
import Derived.Laws.Externs
import Derived.Laws.BytesString
import Derived.Lib.MakeNoZero
namespace Go.Proofs.YtihedfkcccaonaaGreatDoor.Ev
open Go.RowKit
section
variable {O : Ow} {σ : Sg} {P : Program} {fr : Fra} {m : Mem} {ρ : Operand → Value} {r : OR} {d : Option Tmp} {ty : Nat} {pos : String} {af : Array Edge} {gd : Option (Nat × Bool)} {w : World}
theorem zgx {c c' : CS} {n : Nat} {xs : List AV} (h : zlx c n xs = some c') (j : Nat) : xW c' j = if n ≤ j ∧ j < n + xs.length then xs[j - n]? else xW c j := by
 cases c with
 | l l =>
  have h' : (Bool.rec none (mkC (l.take n ++ (xs ++ l.drop (Nat.add n (len xs))))) (Nat.ble n (len l)) : Option CS) = some c' := h
  cases hb : Nat.ble n (len l) with
  | false => rw [hb] at h'; cases h'
  | true =>
   rw [hb] at h'
   have hn := qZ hb
   rw [yz] at hn
   rw [za7 h' j, yz]
   show _ = if n ≤ j ∧ j < n + xs.length then xs[j - n]? else nth l j
   rw [nth_eq]
   by_cases h1 : j < n
   ·rw [List.getElem?_append_left (by simp; omega), if_neg (by omega), List.getElem?_take, if_pos h1]
   ·rw [List.getElem?_append_right (by simp; omega)]
    simp only [List.length_take, Nat.min_eq_left hn]
    by_cases h2 : j < n + xs.length
    ·rw [if_pos ⟨by omega, h2⟩, List.getElem?_append_left (by omega)]
    ·rw [if_neg (by omega), List.getElem?_append_right (by omega), List.getElem?_drop]
     congr 1
     show n + xs.length + (j - n - xs.length) = j
     omega
 | y e l =>
  have h' : (Bool.rec none (some (.y e (l.take n ++ (xs ++ l.drop (Nat.add n (len xs)))))) (Nat.ble n (len l)) : Option CS) = some c' := h
  cases hb : Nat.ble n (len l) with
  | false => rw [hb] at h'; cases h'
  | true =>
   rw [hb] at h'
   have hn := qZ hb
   rw [yz] at hn
   cases h'
   show nth (l.take n ++ (xs ++ l.drop (Nat.add n (len xs)))) j = if n ≤ j ∧ j < n + xs.length then xs[j - n]? else nth l j
   rw [nth_eq, nth_eq, yz]
   by_cases h1 : j < n
   ·rw [List.getElem?_append_left (by simp; omega), if_neg (by omega), List.getElem?_take, if_pos h1]
   ·rw [List.getElem?_append_right (by simp; omega)]
    simp only [List.length_take, Nat.min_eq_left hn]
    by_cases h2 : j < n + xs.length
    ·rw [if_pos ⟨by omega, h2⟩, List.getElem?_append_left (by omega)]
    ·rw [if_neg (by omega), List.getElem?_append_right (by omega), List.getElem?_drop]
     congr 1
     show n + xs.length + (j - n - xs.length) = j
     omega
 | t t =>
  have h' : (Bool.rec none (some (.t (jw xs n t))) (Nat.ble (Nat.add n (len xs)) 256) : Option CS) = some c' := h
  cases hb : Nat.ble (Nat.add n (len xs)) 256 with
  | false => rw [hb] at h'; cases h'
  | true =>
   rw [hb] at h'
   have hn : n + len xs ≤ 256 := qZ hb
   rw [yz] at hn
   cases h'
   show qA (jw xs n t) j = _
   rw [zbd xs n t hn j]; rfl
theorem zcD {c c' : CS} {n : Nat} {xs : List AV} (h : zlx c n xs = some c') : ∀ t, tyC c' = some t → tyC c = some t := by
 cases c with
 | l l =>
  have h' : (Bool.rec none (mkC (l.take n ++ (xs ++ l.drop (Nat.add n (len xs))))) (Nat.ble n (len l)) : Option CS) = some c' := h
  cases hb : Nat.ble n (len l) with
  | false => rw [hb] at h'; cases h'
  | true => rw [hb] at h'; intro t ht; rw [zj7 h'] at ht; cases ht
 | t t =>
  have h' : (Bool.rec none (some (.t (jw xs n t))) (Nat.ble (Nat.add n (len xs)) 256) : Option CS) = some c' := h
  cases hb : Nat.ble (Nat.add n (len xs)) 256 with
  | false => rw [hb] at h'; cases h'
  | true => rw [hb] at h'; cases h'; intro t ht; cases ht
 | y e l =>
  have h' : (Bool.rec none (some (.y e (l.take n ++ (xs ++ l.drop (Nat.add n (len xs)))))) (Nat.ble n (len l)) : Option CS) = some c' := h
  cases hb : Nat.ble n (len l) with
  | false => rw [hb] at h'; cases h'
  | true => rw [hb] at h'; cases h'; exact fun t ht => ht
theorem zgy (n : Nat) : ∀ (r c : Nat), Builtin.growBy n r c ≤ 2 ^ r * (c + 768)
 | 0, c => by simp [Builtin.growBy]
 | r + 1, c => by
  unfold Builtin.growBy
  split
  ·have : 1 ≤ 2 ^ (r + 1) := Nat.one_le_two_pow
   calc c ≤ 1 * (c + 768) := by omega
    _ ≤ 2 ^ (r + 1) * (c + 768) := Nat.mul_le_mul_right _ this
  ·refine Nat.le_trans (zgy n r _) ?_
   rw [Nat.pow_succ, Nat.mul_assoc]
   apply Nat.mul_le_mul_left
   omega
theorem zj5 {n c b : Nat} (hn : n ≤ 65536) (hc : c < n) (hb : b ≤ 65536) : ¬ Builtin.nextslicecap n c * b > 281474976710656 := by
 have h1 : Builtin.nextslicecap n c ≤ 2000000 := by
  unfold Builtin.nextslicecap
  split
  ·omega
  ·split
   ·omega
   ·have : Builtin.growBy n 4 c ≤ 16 * (c + 768) := zgy n 4 c
    refine Nat.le_trans this ?_
    have : c + 768 ≤ 66304 := by omega
    calc 16 * (c + 768) ≤ 16 * 66304 := Nat.mul_le_mul_left _ this
     _ ≤ 2000000 := by decide
 exact Nat.not_lt.2 (Nat.le_trans (Nat.mul_le_mul h1 hb) (by decide))
structure zs9 (P : Program) (t2 : TypeId) (e : TypeId) (sz : Nat) (z : Array Value) (x : Value) (k : Nat) (cs : List Value) (w : World) : Prop where
 len : cs.length = k * sz
 src : (∃ d2, P.underlying t2 = some d2 ∧ ((∃ e2, d2 = .slice e2) ∨ d2 = .string) ∧ (∀ w', (Builtin.lenOf x).run P w' = .ok k w') ∧ ∀ w' : World, w'.heap = w.heap → (Builtin.firstCells sz k x).run P w' = .ok cs.toArray w') ∨
  (∃ q, P.underlying t2 = some (.int q) ∧ x = .int .i64 (k : Int) ∧ (k ≤ 65536 ∧ 0 < k) ∧ cs.toArray = Builtin.zeroCells z k)
theorem jF {t t2 ty e : TypeId} {i : TypeInfo} {z : Value} {base : Option Addr} {sLen sCap k : Nat} {x : Value} {cs : List Value} (ht : P.underlying t = some (.slice e)) (hi : P.info? e = some i) (hz : i.zero = some z) (hzs : z.cells.size = i.size) (hpos : 0 < i.size) (hby : i.bytes ≤ 65536)
  (hs : zs9 P t2 e i.size z.cells x k cs w) (hle : sLen + k ≤ sCap) :
  (Builtin.append_ #[t, t2] ty #[.slice base sLen sCap, x]).run P w = ((match base with | none => pure () | some a => storeCells (a.add (sLen * i.size)) cs : Sem Unit).run P w).andThen fun _ w' => .ok (.slice base (sLen + k) sCap) w' := by
 rcases hs.src with ⟨d2, h1, h2, h3, h4⟩ | ⟨q, h1, rfl, h3, h4⟩
 ·have h4' := h4 w rfl
  rcases h2 with ⟨e2, rfl⟩ | rfl <;> cases base <;> simp [Builtin.append_, run_underlying ht, run_underlying h1, sizeOf, typeInfo, hi, h3, hle, h4']
 ·have w1 : IntKind.i64.wrap (k : Int) = k := by rw [IntKind.wrap_i64]; omega
  have n1 : ¬ ((k : Int) < 0) := by omega
  have n2 : ¬ ((k : Int) * (i.bytes : Int) > 281474976710656) := by
   have : k * i.bytes ≤ 65536 * 65536 := Nat.mul_le_mul h3.1 hby
   have h : ((k * i.bytes : Nat) : Int) ≤ 281474976710656 := by omega
   rw [Int.natCast_mul] at h
   omega
  have hk' : ¬ k * i.size = 0 := by
   have := Nat.mul_pos h3.2 hpos
   omega
  cases base <;> simp [Builtin.append_, run_underlying ht, run_underlying h1, sizeOf, typeInfo, hi, asInt, asIntOf, w1, n1, n2, hle, hk', zeroValue, hz, ← h4]
theorem zax {t t2 ty e : TypeId} {i : TypeInfo} {z : Value} {base : Option Addr} {sLen sCap k : Nat} {x : Value} {cs olds : List Value} (ht : P.underlying t = some (.slice e)) (hi : P.info? e = some i) (hz : i.zero = some z) (hzs : z.cells.size = i.size) (hpos : 0 < i.size) (hby : i.bytes ≤ 65536)
  (hs : zs9 P t2 e i.size z.cells x k cs w) (hold : ∀ w' : World, w'.heap = w.heap → (Builtin.firstCells i.size sLen (.slice base sLen sCap)).run P w' = .ok olds.toArray w') (hle : ¬ sLen + k ≤ sCap) (hn : sLen + k ≤ 65536) :
  ∃ nc rest, sLen + k ≤ nc ∧ rest.size = (nc - (sLen + k)) * i.size ∧ (Builtin.append_ #[t, t2] ty #[.slice base sLen sCap, x]).run P w = .ok (.slice (some ⟨w.heap.size, 0, none⟩) (sLen + k) nc) (w.drew.alloc (.cells (olds.toArray ++ (cs.toArray ++ rest)) e)) := by
 have hcap := zj5 (c := sCap) hn (by omega) hby
 have n63 : ¬ ((9223372036854775807 : Int) < (sLen : Int) + (k : Int)) := by omega
 refine ⟨(Question.appendCap (sLen + k) sCap e).cut (w.tape w.drawn (.appendCap (sLen + k) sCap e)), Builtin.zeroCells z.cells ((Question.appendCap (sLen + k) sCap e).cut (w.tape w.drawn (.appendCap (sLen + k) sCap e)) - (sLen + k)), ?_, ?_, ?_⟩
 ·simp only [Question.cut]; omega
 ·simp [Builtin.zeroCells, hzs]
 have hold' := hold w.drew rfl
 have hold'' : (Builtin.firstCells i.size sLen (.slice base sLen sCap)).run P { w with drawn := w.drawn + 1 } = .ok olds.toArray { w with drawn := w.drawn + 1 } := hold'
 rcases hs.src with ⟨d2, h1, h2, h3, h4⟩ | ⟨q, h1, rfl, h3, h4⟩
 ·have h4' := h4 w.drew rfl
  have h4'' : (Builtin.firstCells i.size k x).run P { w with drawn := w.drawn + 1 } = .ok cs.toArray { w with drawn := w.drawn + 1 } := h4'
  rcases h2 with ⟨e2, rfl⟩ | rfl
  ·simp [Builtin.append_, run_underlying ht, run_underlying h1, sizeOf, typeInfo, hi, h3, hle, h4', hold', hcap, n63, Question.forced, zeroValue, hz, newRow]
  ·simp [Builtin.append_, run_underlying ht, run_underlying h1, sizeOf, typeInfo, hi, h3, hle, h4', hold', hcap, n63, Question.forced, zeroValue, hz, newRow]
 ·have w1 : IntKind.i64.wrap (k : Int) = k := by rw [IntKind.wrap_i64]; omega
  have n1 : ¬ ((k : Int) < 0) := by omega
  have n2 : ¬ ((k : Int) * (i.bytes : Int) > 281474976710656) := by
   have : k * i.bytes ≤ 65536 * 65536 := Nat.mul_le_mul h3.1 hby
   have h : ((k * i.bytes : Nat) : Int) ≤ 281474976710656 := by omega
   rw [Int.natCast_mul] at h
   omega
  have hk' : ¬ k * i.size = 0 := by
   have := Nat.mul_pos h3.2 hpos
   omega
  simp [Builtin.append_, run_underlying ht, run_underlying h1, sizeOf, typeInfo, hi, asInt, asIntOf, w1, n1, n2, hle, hk', hold', hcap, n63, Question.forced, zeroValue, hz, newRow, ← h4]
theorem xr {sz n c : Nat} {a : Addr} {cs : List Value} (hl : cs.length = n * sz) (h : ∀ j v, cs[j]? = some v → w.cell? (a.add j) = some v) : (Builtin.firstCells sz n (.slice (some a) n c)).run P w = .ok cs.toArray w := by
 show (loadCells a (n * sz)).run P w = _
 rw [← hl]
 exact run_loadCells_list (P := P) w a cs h
theorem zhP (hw : RelW O σ m.hp m.nx w) {b o n c k : Nat} {cs cs' : CS} {xs : List AV} {vs : List Value} {e : Loc} {t t2 el : TypeId} {i : TypeInfo} {z x : Value} (hb : qz m.hp b = some (.cells cs false)) (he : σ b = some e) (hen : o + c * e.sz = e.en)
  (ht : P.underlying t = some (.slice el)) (hi : P.info? el = some i) (hz : i.zero = some z) (hzs : z.cells.size = i.size) (hpos : 0 < i.size) (hby : i.bytes ≤ 65536) (his : i.size = e.sz) (hid : m.nx < 16384)
  (hx : zA σ xs = some vs) (hlx : xs.length = k * e.sz) (hone : zbW xs = true) (hnc : n ≤ c) (hc : c < n + k) (hn : n + k ≤ 65536)
  (hs : zs9 P t2 el i.size z.cells x k vs w)
  (hty : ∀ t, tyC cs' = some t → tyC cs = some t ∧ t = el ∧ o = 0)
  (hcs : ∀ j v, xW cs' j = some v → (j < n * e.sz ∧ xW cs (o + j) = some v) ∨ (n * e.sz ≤ j ∧ j < n * e.sz + k * e.sz ∧ xs[j - n * e.sz]? = some v)) :
  ∃ σ' cv w', Sle σ σ' ∧ zK σ' (.slc m.nx 0 (n + k) (n + k) e.sz) = some cv ∧ (Builtin.append_ #[t, t2] ty #[.slice (some ⟨e.bl, adr e.kp o n c e.sz + e.dl, none⟩) n (c + e.kp), x]).run P w = .ok cv w' ∧
   RelW O σ' (hset (.cells cs' false) (hset .dead m.hp b) m.nx) (m.nx + 1) w' ∧ Keep O w w' := by
 obtain ⟨arr, ty0, fz, h1, h2, h3⟩ := hw.obj b _ e hb he
 have hfz := h2.1 rfl
 subst hfz
 have hlv := ql hx
 have hone' := zbk hone hx
 have hn1 := hw.fresh m.nx (Nat.le_refl _)
 have e1 : n * e.sz ≤ c * e.sz := Nat.mul_le_mul_right _ hnc
 have e2 : c * e.sz ≤ (n + k) * e.sz := Nat.mul_le_mul_right _ (Nat.le_of_lt hc)
 have e3 : (n + k) * e.sz = n * e.sz + k * e.sz := Nat.add_mul _ _ _
 have hsz := h3.1
 by_cases hle : n + k ≤ c + e.kp
 ·have hadr : adr e.kp o n c e.sz = o := if_neg (fun hh => by omega)
  rw [hadr]
  have hrun := jF (P := P) (w := w) (ty := ty) (base := some ⟨e.bl, o + e.dl, none⟩) (sLen := n) (sCap := c + e.kp) ht hi hz hzs hpos hby hs hle
  have e4 : (c + e.kp) * e.sz = c * e.sz + e.kp * e.sz := Nat.add_mul _ _ _
  have e5 : (n + k) * e.sz ≤ (c + e.kp) * e.sz := Nat.mul_le_mul_right _ hle
  have hst := run_storeCells_at P e.bl (o + e.dl + n * e.sz) ty0 vs 0 arr w h1 (by omega) hone'
  simp only [Nat.add_zero] at hst
  rw [his] at hrun
  simp only [qV] at hrun
  rw [hst] at hrun
  have e6 : (c + e.kp - (n + k)) * e.sz = (c + e.kp) * e.sz - (n + k) * e.sz := Nat.sub_mul _ _ _
  obtain ⟨q1, q2, q3⟩ := hw.again (o' := .cells cs' false) (e' := ⟨e.bl, o + e.dl, c + e.kp - (n + k), e.sz, (n + k) * e.sz⟩) (w' := w.setRow e.bl (arr.toList.take (o + e.dl + n * e.sz) ++ vs ++ arr.toList.drop (o + e.dl + n * e.sz + vs.length)).toArray) hb rfl he hid rfl
   (by
    refine ⟨_, ty0, (0, 0), setRow_heap w e.bl arr _ ty0 _ h1, ⟨fun _ => rfl, (fun t ht => h2.2.1 t (hty t ht).1), fun ht => (by
     obtain ⟨t, ht⟩ := Option.isSome_iff_exists.1 ht
     have := h2.2.2 (by rw [(hty t ht).1]; rfl)
     have := (hty t ht).2.2
     show o + e.dl = 0
     omega)⟩, ?_, fun j v hv => ?_⟩
    ·simp; omega
    ·have hg := zbI arr.toList vs (o + e.dl + n * e.sz) (by simp; omega) (j + (o + e.dl))
     simp only [List.getElem?_toArray]
     rw [hg]
     rcases hcs j v hv with ⟨p1, p2⟩ | ⟨p1, p2, p3⟩
     ·obtain ⟨_, cv, r1, r2⟩ := h3.2 _ _ p2
      refine ⟨(show j < (n + k) * e.sz by omega), cv, qU (xb hn1) _ _ r1, ?_⟩
      rw [if_neg (by omega)]
      rw [show j + (o + e.dl) = o + j + e.dl by omega]
      simpa using r2
     ·obtain ⟨cv, r1, r2⟩ := yf hx _ _ p3
      refine ⟨(show j < (n + k) * e.sz by omega), cv, qU (xb hn1) _ _ r1, ?_⟩
      rw [if_pos (by omega)]
      rwa [show j + (o + e.dl) - (o + e.dl + n * e.sz) = j - n * e.sz by omega])
   (by simp) (fun q hq => setRow_other w e.bl q _ hq) rfl rfl rfl
  refine ⟨_, _, _, q2, ?_, hrun, q1, q3⟩
  have := xw (σ := xi σ m.nx ⟨e.bl, o + e.dl, c + e.kp - (n + k), e.sz, (n + k) * e.sz⟩) (b := m.nx) (o := 0) (n := n + k) (k := n + k) (e := ⟨e.bl, o + e.dl, c + e.kp - (n + k), e.sz, (n + k) * e.sz⟩) (qe _ _ _) (by simp) (.inl rfl)
  rw [this]
  simp
  omega
 ·
  have hadr : n ≠ 0 → adr e.kp o n c e.sz = o := zmg
  have hold : ∃ olds : List Value, olds.length = n * e.sz ∧ ∀ j v, olds[j]? = some v → arr[o + e.dl + j]? = some v := by
   refine ⟨(arr.toList.drop (o + e.dl)).take (n * e.sz), by simp; omega, fun j v hj => ?_⟩
   rw [List.getElem?_take] at hj
   split at hj
   ·rw [List.getElem?_drop] at hj
    simpa using hj
   ·cases hj
  obtain ⟨olds, o1, o2⟩ := hold
  obtain ⟨nc, rest, r1, r2, hrun⟩ := zax (P := P) (w := w) (ty := ty) (base := some ⟨e.bl, adr e.kp o n c e.sz + e.dl, none⟩) (sLen := n) (sCap := c + e.kp) (olds := olds) ht hi hz hzs hpos hby hs
   (fun w' hw' => xr (by rw [his]; exact o1) fun j v hj => by
    rw [hadr (fun h0 => by
     subst h0
     have := (List.getElem?_eq_some_iff.1 hj).1
     simp at o1
     subst o1
     simp at this)]
    rw [qV]
    exact zbl (by rw [hw']; exact h1) (o2 j v hj)) hle hn
  have hw2 := (hw.kill (zeb hb) (hw.laid he)).drew
  have hm : ({ hp := hset .dead m.hp b, nx := m.nx, df := m.df } : Mem).hp = hset .dead m.hp b := rfl
  have e6 : (nc - (n + k)) * e.sz = nc * e.sz - (n + k) * e.sz := Nat.sub_mul _ _ _
  have e7 : (n + k) * e.sz ≤ nc * e.sz := Nat.mul_le_mul_right _ r1
  rw [his] at r2
  obtain ⟨q1, q2, q3⟩ := hw2.alloc hid (Nat.le_succ _) (Nat.lt_succ_self _) hn1 hw2.now (.cells cs' false) (.cells (olds.toArray ++ (vs.toArray ++ rest)) el) ⟨w.heap.size, 0, nc - (n + k), e.sz, (n + k) * e.sz⟩ rfl
   (by
    refine ⟨_, el, (0, 0), rfl, ⟨fun _ => rfl, (fun t ht => (hty t ht).2.1.symm), fun _ => rfl⟩, ?_, fun j v hv => ?_⟩
    ·simp; omega
    ·rcases hcs j v hv with ⟨p1, p2⟩ | ⟨p1, p2, p3⟩
     ·obtain ⟨_, cv, s1, s2⟩ := h3.2 _ _ p2
      refine ⟨(show j < (n + k) * e.sz by omega), cv, qU (xb hn1) _ _ s1, ?_⟩
      have hlt : j < olds.length := by omega
      have := o2 j olds[j] (by simp [hlt])
      rw [show o + e.dl + j = o + j + e.dl by omega, s2] at this
      cases this
      simp [Array.getElem?_append, hlt]
     ·obtain ⟨cv, s1, s2⟩ := yf hx _ _ p3
      refine ⟨(show j < (n + k) * e.sz by omega), cv, qU (xb hn1) _ _ s1, ?_⟩
      have h1 : ¬ j < olds.length := by omega
      have h2 : j - olds.length < vs.length := by omega
      have : (olds.toArray ++ (vs.toArray ++ rest))[j + 0]? = vs[j - olds.length]? := by
       simp [Array.getElem?_append, h1, h2]
      show (olds.toArray ++ (vs.toArray ++ rest))[j + 0]? = some cv
      rw [this, o1]; exact s2)
  refine ⟨_, _, _, q2, ?_, hrun, q1, (Keep.drew O w).trans q3⟩
  have := xw (σ := xi σ m.nx ⟨w.heap.size, 0, nc - (n + k), e.sz, (n + k) * e.sz⟩) (b := m.nx) (o := 0) (n := n + k) (k := n + k) (e := ⟨w.heap.size, 0, nc - (n + k), e.sz, (n + k) * e.sz⟩) (qe _ _ _) (by simp) (.inl rfl)
  rw [this]
  simp
  omega
end
section
variable {O : Ow} {σ : Sg} {P : Program} {fr : Fra} {m : Mem} {ρ : Operand → Value} {r : OR} {d : Option Tmp} {ty : Nat} {pos : String} {af : Array Edge} {gd : Option (Nat × Bool)} {w : World}
theorem zas (hw : RelW O σ m.hp m.nx w) {sz k : Nat} {x : AV} {xs : List AV} {cx : Value} (h : zcf m.hp sz x = some (k, xs)) (hc : zK σ x = some cx) :
  ∃ cs, zA σ xs = some cs ∧ (∀ w', (Builtin.lenOf cx).run P w' = .ok k w') ∧ ∀ w' : World, w'.heap = w.heap → (Builtin.firstCells sz k cx).run P w' = .ok cs.toArray w' := by
 unfold zcf at h
 split at h
 ·rename_i b o n c s
  cases hb : Nat.beq s sz with
  | false => rw [hb] at h; cases h
  | true =>
   rw [hb] at h
   have hb := nQe hb
   subst hb
   obtain ⟨e, he, ⟨rfl, hen⟩, rfl⟩ := xe hc
   have h' : (match qz m.hp b with
    | some (.cells c _) => match vS c (Nat.mul n e.sz) o with
     | some l => some (n, l)
     | none => none
    | _ => none) = some (k, xs) := h
   split at h'
   ·rename_i c ro hb
    split at h'
    ·rename_i l hl
     cases h'
     obtain ⟨arr, el, fz, h1, _, h3⟩ := hw.obj b _ e hb he
     obtain ⟨cs, q1, q2, q3⟩ := zba h3 _ _ _ hl
     refine ⟨cs, q1, fun w' => rfl, fun w' hw' => xr q2 fun j v hj => ?_⟩
     rw [zmg (fun h0 => by
      subst h0
      have := (List.getElem?_eq_some_iff.1 hj).1
      have q2 : cs.length = 0 * e.sz := q2
      simp at q2
      subst q2
      simp at this)]
     rw [qV]
     exact zbl (by rw [hw']; exact h1) (by have := q3 j v hj; rwa [show o + e.dl + j = o + j + e.dl by omega])
    ·cases h'
   ·cases h'
 ·rename_i b o n c
  obtain ⟨e, he, rfl⟩ := kO hc
  split at h
  ·rename_i c ro hb
   split at h
   ·rename_i l hl
    cases h
    obtain ⟨arr, el, fz, h1, _, h3⟩ := hw.obj b _ e hb he
    obtain ⟨cs, q1, q2, q3⟩ := zba h3 _ _ _ hl
    refine ⟨cs, q1, fun w' => rfl, fun w' hw' => xr q2 fun j v hj => ?_⟩
    rw [qV]
    exact zbl (by rw [hw']; exact h1) (by have := q3 j v hj; rwa [show o + e.dl + j = o + j + e.dl by omega])
   ·cases h
  ·cases h
 ·cases h
  cases hc
  exact ⟨[], rfl, fun w' => rfl, fun w' _ => rfl⟩
 ·rename_i s
  cases h
  cases hc
  refine ⟨_, kj _, fun w' => rfl, fun w' _ => ?_⟩
  have hx : s.extract 0 s.size = s := by
   apply ByteArray.ext
   simp
  simp only [Builtin.firstCells, Sem.run_pure, hx]
 ·cases h
theorem ziC {c : CS} : ∀ {n o : Nat} {l : List AV}, vS c n o = some l → ∀ j v, l[j]? = some v → xW c (o + j) = some v
 | 0, o, l, h, j, v, hj => by cases h; simp at hj
 | n + 1, o, l, h, j, v, hj => by
  simp only [vS] at h
  cases hv : xW c o with
  | none => rw [hv] at h; cases h
  | some u =>
   cases hr : vS c n (Nat.succ o) with
   | none => rw [hv, hr] at h; cases h
   | some l' =>
    rw [hv, hr] at h
    cases h
    cases j with
    | zero => simp at hj; subst hj; exact hv
    | succ j =>
     have := ziC hr j v (by simpa using hj)
     rwa [show o.succ + j = o + (j + 1) by omega] at this
structure zAR (σ : Sg) (P : Program) (t t2 el : TypeId) (i : TypeInfo) (z : Value) (sz k : Nat) (xs : List AV) (cs : List Value) (x : Value) (w : World) : Prop where
 ht : P.underlying t = some (.slice el)
 hi : P.info? el = some i
 hz : i.zero = some z
 hzs : z.cells.size = i.size
 his : i.size = sz
 hpos : 0 < sz
 hby : i.bytes ≤ 65536
 hx : zA σ xs = some cs
 hs : cs.length = k * sz → zs9 P t2 el i.size z.cells x k cs w
theorem zrg {bt : Option Nat} {c : CS} {el t : Nat} (h : zuC bt c = true) (hb : ∀ t, bt = some t → t = el) (ht : tyC c = some t) : t = el := by
 unfold zuC at h
 rw [ht] at h
 cases bt with
 | none => cases h
 | some t' => rw [nQe h]; exact hb t' rfl
theorem zfC (hw : RelW O σ m.hp m.nx w) {t t2 el : TypeId} {i : TypeInfo} {z x cv : Value} {sz k : Nat} {xs : List AV} {cs : List Value} {s : AV} (ha : zAR σ P t t2 el i z sz k xs cs x w) (hsv : zK σ s = some cv) {bt : Option Nat} (hbt : ∀ t, bt = some t → t = el) (h : zac sz bt s (some (k, xs)) m = r) (hr : r ≠ .no) :
  zb4 O σ P w (do pure (.value (← Builtin.append_ #[t, t2] ty #[cv, x])) : Sem Next) r := by
 have fin : (∀ v c, r = .val v → zK σ v = some c → (Builtin.append_ #[t, t2] ty #[cv, x]).run P w = .ok c w → zb4 O σ P w (do pure (.value (← Builtin.append_ #[t, t2] ty #[cv, x])) : Sem Next) r) := by
  intro v c h1 h2 h3
  subst h1
  exact ⟨c, h2, by simp [h3]⟩
 have fin2 : ∀ v hp nx, r = .mem v hp nx → (∃ σ' c w', Sle σ σ' ∧ zK σ' v = some c ∧ (Builtin.append_ #[t, t2] ty #[cv, x]).run P w = .ok c w' ∧ RelW O σ' hp nx w' ∧ Keep O w w') → zb4 O σ P w (do pure (.value (← Builtin.append_ #[t, t2] ty #[cv, x])) : Sem Next) r := by
  intro v hp nx h1 ⟨σ', c, w', h2, h3, h4, h5, h6⟩
  subst h1
  exact ⟨σ', c, w', h2, h3, .inl (by simp [h4]), h5, h6⟩
 have hlx := ql ha.hx
 have hpos' : 0 < i.size := by rw [ha.his]; exact ha.hpos
 unfold zac at h
 split at h
 ·rename_i heq; cases heq
 rename_i k' xs' heq
 cases heq
 split at h
 ·
  cases hsv
  obtain ⟨h1, h⟩ := z6 h hr
  simp only [Bool.and_eq_true] at h1
  have g1 := qZ h1.1
  have g2 : len xs = k * sz := nQe h1.2
  rw [yz] at g2
  have hs := ha.hs (by omega)
  cases hk : Nat.beq k 0 with
  | true =>
   rw [hk] at h
   have hk := nQe hk
   subst hk
   have hrun := jF (P := P) (w := w) (ty := ty) (base := none) (sLen := 0) (sCap := 0) ha.ht ha.hi ha.hz ha.hzs hpos' ha.hby hs (Nat.le_refl _)
   exact fin _ _ h.symm rfl (by simpa using hrun)
  | false =>
   rw [hk] at h
   have hk0 : k ≠ 0 := fun e => by subst e; cases hk
   obtain ⟨c, h3, h⟩ := zw h hr
   obtain ⟨h4, h5⟩ := kK h hr
   obtain ⟨nc, rest, r1, r2, hrun⟩ := zax (P := P) (w := w) (ty := ty) (base := none) (sLen := 0) (sCap := 0) (olds := []) ha.ht ha.hi ha.hz ha.hzs hpos' ha.hby hs
    (fun w' hw' => by show (pure #[] : Sem (Array Value)).run P w' = _; rfl) (by omega) (by omega)
   have hn1 := hw.fresh m.nx (Nat.le_refl _)
   simp only [Nat.zero_add] at r1 r2 hrun
   rw [ha.his] at r2
   have e6 : (nc - k) * sz = nc * sz - k * sz := Nat.sub_mul _ _ _
   have e7 : k * sz ≤ nc * sz := Nat.mul_le_mul_right _ r1
   obtain ⟨q1, q2, q3⟩ := hw.drew.alloc h4 (Nat.le_succ _) (Nat.lt_succ_self _) hn1 hw.drew.now (.cells c false) (.cells (([] : List Value).toArray ++ (cs.toArray ++ rest)) el) ⟨w.heap.size, 0, nc - k, sz, k * sz⟩ rfl
    (by
     refine ⟨_, el, (0, 0), rfl, ⟨fun _ => rfl, (zlj h3 hbt).2, fun _ => rfl⟩, ?_, fun j v hv => ?_⟩
     ·simp; omega
     ·rw [(zlj h3 hbt).1] at hv
      obtain ⟨cv, s1, s2⟩ := yf ha.hx _ _ hv
      have hlt := (List.getElem?_eq_some_iff.1 hv).1
      refine ⟨(show j < k * sz by omega), cv, qU (xb hn1) _ _ s1, ?_⟩
      have hlt' : j < cs.length := by omega
      show (([] : List Value).toArray ++ (cs.toArray ++ rest))[j + 0]? = some cv
      simp [Array.getElem?_append, hlt']
      have := s2
      rw [List.getElem?_eq_getElem hlt'] at this
      exact nQs this)
   refine fin2 _ _ _ h5 ⟨_, _, _, q2, ?_, hrun, q1, (Keep.drew O w).trans q3⟩
   have := xw (σ := xi σ m.nx ⟨w.heap.size, 0, nc - k, sz, k * sz⟩) (b := m.nx) (o := 0) (n := k) (k := k) (e := ⟨w.heap.size, 0, nc - k, sz, k * sz⟩) (qe _ _ _) (by simp) (.inl rfl)
   rw [this]
   simp
   omega
 ·rename_i b o n c s'
  cases hk0 : Nat.beq k 0 && Nat.beq (len xs) 0 && Nat.ble n c with
  | true =>
   rw [hk0] at h
   simp only [Bool.and_eq_true] at hk0
   have g0 := nQe hk0.1.1
   have g3 : len xs = 0 := nQe hk0.1.2
   have g5 := qZ hk0.2
   rw [yz] at g3
   subst g0
   have hs := ha.hs (by omega)
   obtain ⟨e, he, _, hcv⟩ := xe hsv
   subst hcv
   have hcs : cs = [] := by
    have : cs.length = 0 := by omega
    exact List.length_eq_zero_iff.1 this
   subst hcs
   have hrun := jF (P := P) (w := w) (ty := ty) (base := some ⟨e.bl, adr e.kp o n c s' + e.dl, none⟩) (sLen := n) (sCap := c + e.kp) ha.ht ha.hi ha.hz ha.hzs hpos' ha.hby hs (by omega)
   exact fin _ _ h.symm hsv (by simpa [storeCells] using hrun)
  | false =>
  rw [hk0, Bool.cond_false] at h
  split at h
  ·rename_i cs0 hb
   obtain ⟨h1, hz⟩ := z6 h hr
   clear h
   simp only [Bool.and_eq_true] at h1
   obtain ⟨⟨⟨⟨⟨g1, g2⟩, g3⟩, g4⟩, g5⟩, g6⟩ := h1
   have g1 := nQe g1
   have g3 : len xs = k * sz := nQe g3
   have g4 : n + k ≤ 65536 := qZ g4
   have g5 := qZ g5
   rw [yz] at g3
   obtain ⟨e, he, ⟨rfl, hen⟩, rfl⟩ := xe hsv
   have e1 : e.sz = sz := g1
   have h := hz
   clear hz
   have hkp : 0 < k := by
    rcases Nat.eq_zero_or_pos k with h0 | h0
    ·subst h0
     have h1 : len xs = 0 := by rw [yz, g3]; simp
     have h2 : Nat.ble n c = true := Nat.ble_eq_true_of_le g5
     have : (Nat.beq 0 0 && Nat.beq (len xs) 0 && Nat.ble n c) = true := by rw [h1, h2]; rfl
     rw [this] at hk0; cases hk0
    ·exact h0
   have hs := ha.hs (by omega)
   cases hle : Nat.ble (Nat.add n k) c with
   | true =>
    rw [hle] at h
    have hle : n + k ≤ c := qZ hle
    rw [zqz (show c ≠ 0 by omega)] at fin2 ⊢
    obtain ⟨cs', h2, h⟩ := zw h hr
    obtain ⟨arr, ty0, fz, q1, q2, q3⟩ := hw.obj b _ e hb he
    have hfz := q2.1 rfl
    subst hfz
    have e3 : (n + k) * sz = n * sz + k * sz := Nat.add_mul _ _ _
    have e4 : (n + k) * sz ≤ c * sz := Nat.mul_le_mul_right _ hle
    have hsz := q3.1
    have hlen : o + (n * sz + k * sz) ≤ e.en := by rw [← hen, e1]; omega
    have hrun := jF (P := P) (w := w) (ty := ty) (base := some ⟨e.bl, o + e.dl, none⟩) (sLen := n) (sCap := c + e.kp) ha.ht ha.hi ha.hz ha.hzs hpos' ha.hby hs (by omega)
    have hst := run_storeCells_at P e.bl (o + e.dl + n * sz) ty0 cs 0 arr w q1 (by omega) (zbk g2 ha.hx)
    simp only [Nat.add_zero] at hst
    rw [ha.his] at hrun
    simp only [qV] at hrun
    rw [hst] at hrun
    have hwr := hw.write (o' := .cells cs' false) (w' := w.setRow e.bl (arr.toList.take (o + e.dl + n * sz) ++ cs ++ arr.toList.drop (o + e.dl + n * sz + cs.length)).toArray) hb rfl he
     (by
      refine ⟨_, ty0, (0, 0), setRow_heap w e.bl arr _ ty0 _ q1, ⟨fun _ => rfl, (fun t ht => q2.2.1 t (zcD h2 t ht)), fun ht => (by
       obtain ⟨t, ht⟩ := Option.isSome_iff_exists.1 ht
       exact q2.2.2 (by rw [zcD h2 t ht]; rfl))⟩, ?_, fun j v hv => ?_⟩
      ·simp; omega
      ·have hg := zbI arr.toList cs (o + e.dl + n * sz) (by simp; omega) (j + e.dl)
       simp only [List.getElem?_toArray]
       rw [hg]
       rw [zgx h2 j] at hv
       have ee : o.add (n.mul sz) = o + n * sz := rfl
       rw [ee] at hv
       split at hv
       ·rename_i hin
        obtain ⟨cv, r1, r2⟩ := yf ha.hx _ _ hv
        refine ⟨by omega, cv, r1, ?_⟩
        rw [if_pos (by omega)]
        rwa [show j + e.dl - (o + e.dl + n * sz) = j - (o + n * sz) by omega]
       ·rename_i hin
        obtain ⟨r0, cv, r1, r2⟩ := q3.2 _ _ hv
        refine ⟨r0, cv, r1, ?_⟩
        rw [if_neg (by omega)]
        simpa using r2)
     (by simp) (fun q hq => setRow_other w e.bl q _ hq) rfl rfl rfl
    refine fin2 _ _ _ h.symm ⟨σ, _, _, Sle.refl _, ?_, hrun, hwr.1, hwr.2⟩
    have := xw (σ := σ) (n := n + k) he hen (.inr (.inl (by omega)))
    rw [e1] at this
    exact this
   | false =>
    rw [hle] at h
    have hle' : c < n + k := by
     rcases Nat.lt_or_ge c (n + k) with h' | h'
     ·exact h'
     ·have := Nat.ble_eq_true_of_le h'
      rw [show Nat.ble (Nat.add n k) c = true from this] at hle; cases hle
    have hmb := fun (cs' : CS) (hid : m.nx < 16384) hty hcs => zhP (ty := ty) (cs' := cs') hw hb he hen ha.ht ha.hi ha.hz ha.hzs hpos' ha.hby (ha.his.trans e1.symm) hid ha.hx (by rw [e1]; exact g3) g2 g5 hle' g4 hs hty hcs
    cases ho : Nat.beq o 0 with
    | true =>
     rw [ho] at h
     have ho := nQe ho
     subst ho
     obtain ⟨cs', h2, h⟩ := zw h hr
     obtain ⟨h3, h4⟩ := kK h hr
     have hm := hmb cs' h3 (fun t ht => ⟨zcD h2 t ht, zrg g6 hbt (zcD h2 t ht), rfl⟩) (fun j v hv => by
      rw [zgx h2 j] at hv
      rw [e1]
      split at hv
      ·rename_i hin
       refine .inr ⟨hin.1, ?_, hv⟩
       have := hin.2
       rw [g3] at this
       exact this
      ·rename_i hin
       obtain ⟨arr, ty0, fz, q1, q2, q3⟩ := hw.obj b _ e hb he
       have hj := (q3.2 _ _ hv).1
       have e3 : (n + k) * sz = n * sz + k * sz := Nat.add_mul _ _ _
       have e4 : c * sz ≤ (n + k) * sz := Nat.mul_le_mul_right _ (Nat.le_of_lt hle')
       rw [← hen, e1, Nat.zero_add] at hj
       have hin' : ¬ (n * sz ≤ j ∧ j < n * sz + xs.length) := hin
       exact .inl ⟨by omega, by rw [Nat.zero_add]; exact hv⟩)
     rw [e1] at hm fin2 ⊢
     exact fin2 _ _ _ h4 hm
    | false =>
     rw [ho] at h
     obtain ⟨l, h2, h⟩ := zw h hr
     obtain ⟨cs', h3, h4, h5⟩ := zeM h hr
     have hll : l.length = n * sz := by
      obtain ⟨arr, ty0, fz, q1, q2, q3⟩ := hw.obj b _ e hb he
      obtain ⟨us, p1, p2, _⟩ := zba q3 _ _ _ h2
      rw [← ql p1]; exact p2
     have hm := hmb cs' h4 (fun t ht => by rw [zj7 h3] at ht; cases ht) (fun j v hv => by
      rw [za7 h3 j] at hv
      rw [e1]
      by_cases hj : j < n * sz
      ·rw [List.getElem?_append_left (by omega)] at hv
       exact .inl ⟨hj, ziC h2 j v hv⟩
      ·rw [List.getElem?_append_right (by omega), hll] at hv
       have hlt := (List.getElem?_eq_some_iff.1 hv).1
       exact .inr ⟨by omega, by omega, hv⟩)
     rw [e1] at hm fin2 ⊢
     exact fin2 _ _ _ h5 hm
  ·exact absurd h.symm hr
 ·exact absurd h.symm hr
end
section
variable {O : Ow} {σ : Sg} {P : Program} {fr : Fra} {m : Mem} {ρ : Operand → Value} {r : OR} {d : Option Tmp} {ty : Nat} {pos : String} {af : Array Edge} {gd : Option (Nat × Bool)} {w : World}
theorem ziq {l : List (AV × AV)} {es : List MapEntry} (h : MapR σ l es) : l.length = es.length := by
 induction l generalizing es with
 | nil => cases es with
  | nil => rfl
  | cons _ _ => exact h.elim
 | cons a l ih =>
  obtain ⟨k, v⟩ := a
  cases es with
  | nil => exact h.elim
  | cons e es => simp [ih h.2.2]
theorem zhG (hw : RelW O σ m.hp m.nx w) {q : Nat} {es : List (AV × AV)} {e : Loc} (h : zpS (qz m.hp q) = some es) (he : σ q = some e) : ∃ ces clk, qz m.hp q = some (.map es) ∧ w.heap[e.bl]? = some (.map ces clk) ∧ MapR σ es ces.toList := by
 unfold zpS at h
 split at h
 ·rename_i es' hq
  cases h
  obtain ⟨ces, clk, h1, h2⟩ := hw.obj q _ e hq he
  exact ⟨ces, clk, hq, h1, h2⟩
 ·cases h
theorem zeP {d : Option TypeDesc} {ke : Nat × Nat} (h : zio d = some ke) : d = some (.map ke.1 ke.2) := by
 unfold zio at h
 split at h
 ·cases h; rfl
 ·cases h
theorem run_getObj_map {q : Nat} {ces : Array MapEntry} {clk : Nat} (h : w.heap[q]? = some (.map ces clk)) : (getObj q).run P w = .ok (.map ces clk) w := by simp [getObj, Sem.run, h]
theorem kB {v : AV} {cs : List Value} (h : zA σ [v] = some cs) : ∃ c, zK σ v = some c ∧ cs = [c] := by
 simp only [zA] at h
 cases hv : zK σ v with
 | none => rw [hv] at h; cases h
 | some c => rw [hv] at h; cases h; exact ⟨c, rfl, rfl⟩
theorem zbg {u v : AV} {cs : List Value} (h : zA σ [u, v] = some cs) : ∃ b c, zK σ u = some b ∧ zK σ v = some c ∧ cs = [b, c] := by
 simp only [zA] at h
 cases hu : zK σ u with
 | none => rw [hu] at h; cases h
 | some b =>
  cases hv : zK σ v with
  | none => rw [hu, hv] at h; cases h
  | some c => rw [hu, hv] at h; cases h; exact ⟨b, c, rfl, rfl, rfl⟩
theorem zk6 {s : Sem Next} {v : Value} (h : (match pv P s with | some (.value v) => some v | _ => none) = some v) (w : World) : s.run P w = .ok (.value v) w := by
 split at h
 ·rename_i u hu
  cases h
  exact jU _ _ hu w
 ·cases h
theorem zek {e : Nat} {z : List AV} (h : jH P e = some z) : ∃ i zv, P.info? e = some i ∧ i.zero = some zv ∧ z = zbN zv.cells := by
 unfold jH at h
 cases hi : P.info? e with
 | none => rw [hi] at h; cases h
 | some i =>
  rw [hi] at h
  have h' : (match i.zero with | some z => some (zbN z.cells) | none => none) = some z := h
  cases hz : i.zero with
  | none => rw [hz] at h'; cases h'
  | some zv => rw [hz] at h'; cases h'; exact ⟨i, zv, rfl, hz, rfl⟩
theorem zl6 (P : Program) (e : Nat) : ∀ t, zkA P e = some t → t = e := fun t h => by
 unfold zkA at h
 cases hb : zmL (P.underlying e) with
 | true => rw [hb] at h; cases h; rfl
 | false => rw [hb] at h; cases h
theorem zmc (hw : RelW O σ m.hp m.nx w) {t t2 e sz : Nat} {s x : AV} {z : List AV} {cv cx : Value} {d2 : TypeDesc} (ht : P.underlying t = some (.slice e)) (hsz : szO P e = some sz) (h0 : Nat.beq sz 0 = false) (hby : Nat.ble (zbX P e) 65536 = true) (hz : jH P e = some z) (hlz : Nat.beq (len z) sz = true)
  (hd : P.underlying t2 = some d2) (hd2 : (∃ e2, d2 = .slice e2) ∨ d2 = .string) (hs : zK σ s = some cv) (hx : zK σ x = some cx) (h : zac sz (zkA P e) s (zcf m.hp sz x) m = r) (hr : r ≠ .no) : zb4 O σ P w (do pure (.value (← Builtin.append_ #[t, t2] ty #[cv, cx])) : Sem Next) r := by
 cases hsrc : zcf m.hp sz x with
 | none => rw [hsrc] at h; exact absurd h.symm hr
 | some kx =>
  obtain ⟨k, xs⟩ := kx
  rw [hsrc] at h
  obtain ⟨i, zv, h1, h2, h3⟩ := zek hz
  obtain ⟨i', h4, h5⟩ := jh hsz
  rw [h1] at h4; cases h4
  obtain ⟨cs, q1, q2, q3⟩ := zas hw hsrc hx
  have hl : zv.cells.size = sz := by
   have := nQe hlz
   rw [yz, h3] at this
   simpa [zbN] using this
  have hpos : 0 < sz := by
   rcases Nat.eq_zero_or_pos sz with h' | h'
   ·subst h'; cases h0
   ·exact h'
  have hb : i.bytes ≤ 65536 := by have := qZ hby; unfold zbX at this; rw [h1] at this; exact this
  exact zfC hw ⟨ht, h1, h2, by rw [hl, h5], h5, hpos, hb, q1, fun hlen => ⟨by rw [h5]; exact hlen, .inl ⟨d2, hd, hd2, q2, fun w' hw' => by rw [h5]; exact q3 w' hw'⟩⟩⟩ hs (zl6 P e) h hr
theorem zgQ (z : Array Value) (n : Nat) : Builtin.zeroCells z n = (Array.range (n * z.size)).map (z[· % z.size]!) := rfl
theorem zqt (hw : RelW O σ m.hp m.nx w) {t t2 e sz : Nat} {s x : AV} {cv cx : Value} (ht : P.underlying t = some (.slice e)) (hsz : szO P e = some sz) (h0 : Nat.beq sz 0 = false) (hby : Nat.ble (zbX P e) 65536 = true)
  (hs : zK σ s = some cv) (hx : zK σ x = some cx) (h : zt2 P e sz s x m (P.underlying t2) = r) (hr : r ≠ .no) : zb4 O σ P w (do pure (.value (← Builtin.append_ #[t, t2] ty #[cv, cx])) : Sem Next) r := by
 cases hd : P.underlying t2 with
 | none => rw [hd] at h; exact absurd h.symm hr
 | some d2 =>
  rw [hd] at h
  cases d2 <;> first | exact absurd h.symm hr | skip
  ·rename_i q
   have key : ∃ n, x = .lit (.int .i64 (.ofNat n)) ∧ (ob (jH P e) fun z => cond (Nat.beq (len z) sz && Nat.ble n 65536 && Nat.blt 0 n) (zac sz (zkA P e) s (some (n, zeA z n)) m) .no) = r := by
    cases x <;> first | exact absurd h.symm hr | skip
    rename_i v
    cases v <;> first | exact absurd h.symm hr | skip
    rename_i k i
    cases k <;> first | exact absurd h.symm hr | skip
    cases i <;> first | exact absurd h.symm hr | exact ⟨_, rfl, h⟩
   clear h
   ·obtain ⟨n, rfl, h'⟩ := key
    obtain ⟨z, hz, h⟩ := zw h' hr
    obtain ⟨h3, h⟩ := z6 h hr
    obtain ⟨g1, g2, g3⟩ := zyP h3
    cases hx
    obtain ⟨i, zv, k1, k2, k3⟩ := zek hz
    obtain ⟨i', k4, k5⟩ := jh hsz
    rw [k1] at k4; cases k4
    have hl : zv.cells.size = sz := by
     have := nQe g1
     rw [yz, k3] at this
     simpa [zbN] using this
    have hpos : 0 < sz := by
     rcases Nat.eq_zero_or_pos sz with h' | h'
     ·subst h'; cases h0
     ·exact h'
    have hb : i.bytes ≤ 65536 := by have := qZ hby; unfold zbX at this; rw [k1] at this; exact this
    have hzl : zA σ z = some zv.cells.toList := by rw [k3]; exact kj _
    have hrep := zhd hzl (by omega) n
    exact zfC hw ⟨ht, k1, k2, by rw [hl, k5], k5, hpos, hb, hrep, fun hlen => ⟨by rw [k5]; exact hlen, .inr ⟨q, hd, rfl, ⟨qZ g2, qm g3⟩, by rw [zgQ]⟩⟩⟩ hs (zl6 P e) h hr
  ·obtain ⟨z, hz, h⟩ := zw h hr
   obtain ⟨h3, h⟩ := z6 h hr
   exact zmc hw ht hsz h0 hby hz h3 hd (.inr rfl) hs hx h hr
  ·obtain ⟨z, hz, h⟩ := zw h hr
   obtain ⟨h3, h⟩ := z6 h hr
   exact zmc hw ht hsz h0 hby hz h3 hd (.inl ⟨_, rfl⟩) hs hx h hr
theorem zmx {x : Option TypeDesc} {k : Nat → OR} {r : OR} (h : zn6 x k = r) (hr : r ≠ .no) : ∃ e, x = some (.pointer e) ∧ k e = r := by
 unfold zn6 at h
 split at h
 ·exact ⟨_, rfl, h⟩
 ·exact absurd h.symm hr
theorem zjc : ∀ {l : List AV} {bs : List UInt8} {cs : List Value}, zjd l = some bs → zA σ l = some cs → cs = bs.map fun b => Value.int .u8 b.toNat
 | [], bs, cs, h, hc => by cases h; cases hc; rfl
 | v :: l, bs, cs, h, hc => by
  unfold zjd at h
  split at h
  ·rename_i h0; cases h0
  ·rename_i n l' h0
   cases h0
   cases hn : Nat.blt n 256 with
   | false => rw [hn] at h; cases h
   | true =>
    rw [hn] at h
    have hn := qm hn
    cases hb : zjd l with
    | none => rw [hb] at h; cases h
    | some bs' =>
     rw [hb] at h; cases h
     simp only [zA, zK] at hc
     cases hl : zA σ l with
     | none => rw [hl] at hc; cases hc
     | some cs' =>
      rw [hl] at hc; cases hc
      rw [zjc hb hl]
      simp only [List.map, UInt8.toNat_ofNat', Int.ofNat_eq_natCast]
      rw [Nat.mod_eq_of_lt hn]
  ·cases h
theorem zj8 {P : Program} {e : TypeId} (hc : P.cellsOf e = 1) (count off n : Nat) (hn : off + n ≤ count) : liesAt P P.depth e count off e n = true := by
 have hd : P.depth = (2 * (P.types.size + Made.depth) + 1) + 1 := rfl
 rw [hd]
 simp only [liesAt, Bool.or_eq_true]
 left
 rw [hd]
 simp [rowAt, hc, hn, sameLayout, Nat.mod_one]
theorem zfO {P : Program} (w : World) (pt it ty e : TypeId) (hp : P.underlying pt = some (.pointer e)) (hc : P.cellsOf e = 1) (g o cells : Nat) (hsh : w.shape? g = some (e, cells)) (l : List UInt8) (h0 : l ≠ []) (hn : o + l.length ≤ cells) (h63 : l.length ≤ 9223372036854775807)
  (hcell : ∀ j x, l[j]? = some x → w.cell? ((⟨g, o, none⟩ : Addr).add j) = some (.int .u8 x.toNat)) :
  (Builtin.unsafeString_ #[pt, it] ty #[.pointer (some ⟨g, o, none⟩), .int .i64 l.length]).run P w = .ok (.string ⟨l.toArray⟩) (w.freeze ⟨g, o, none⟩ l.length) := by
 have hl : l.length ≠ 0 := by simpa using h0
 have hlb := Lib.run_loadBytes (P := P) w l ⟨g, o, none⟩ .empty hcell
 have hlies := zj8 (P := P) hc (cells / P.cellsOf e) o l.length (by rw [hc]; simpa using hn)
 have h63' : ¬ (9223372036854775807 : Int) < (l.length : Int) := by omega
 have hdef : Builtin.unsafeString_ #[pt, it] ty #[.pointer (some ⟨g, o, none⟩), .int .i64 l.length] =
   (do
    let n ← asInt (.int .i64 l.length)
    if n < 0 then runtimePanic (.error "unsafe.String: len out of range")
    if n > IntKind.i64.max then unsupported (.unsafePointer "String: a length above the largest int")
    if n = 0 then pure (.string .empty)
    else if ← variablesAt ⟨g, o, none⟩ (← elemOf pt) n.toNat then do
     let s ← loadBytes ⟨g, o, none⟩ .empty n.toNat
     freeze ⟨g, o, none⟩ n.toNat
     pure (.string s)
    else unsupported (.unsafePointer "String: not so many bytes at ptr")) := rfl
 rw [hdef]
 have hmax : IntKind.i64.max = 9223372036854775807 := rfl
 have hneg : ¬ (l.length : Int) < 0 := by omega
 simp [asInt, asIntOf, hmax, h63', hneg, hl, variablesAt, hsh, elemOf, run_underlying hp, hlies, hlb]
theorem ziE (w : World) (g o : Nat) {n : Nat} (hn : n ≠ 0) : (∀ k, k ≠ g → (w.freeze ⟨g, o, none⟩ n).heap[k]? = w.heap[k]?) ∧ (w.freeze ⟨g, o, none⟩ n).heap.size = w.heap.size ∧ (w.freeze ⟨g, o, none⟩ n).os = w.os ∧ (w.freeze ⟨g, o, none⟩ n).tape = w.tape ∧ (w.freeze ⟨g, o, none⟩ n).output = w.output := by
 unfold World.freeze
 rw [if_neg hn]
 refine ⟨fun k hk => ?_, by simp, rfl, rfl, rfl⟩
 show (w.heap.modify g _)[k]? = _
 rw [Array.getElem?_modify, if_neg (Ne.symm hk)]
theorem zhH (hw : RelW O σ m.hp m.nx w) {b : Builtin} {ts : Array TypeId} {cs : Array Bool} {xs : List AV} {args : List Value} (hx : zA σ xs = some args) (h : kA P b ts.toList ty cs xs m = r) (hr : r ≠ .no) :
  zb4 O σ P w (builtin b ts ty cs args.toArray) r := by
 unfold kA at h
 split at h
 ·rename_i t b' o n c s hts
  obtain ⟨e, hu, h⟩ := qJ h hr
  subst h
  obtain ⟨cv, h1, rfl⟩ := kB hx
  obtain ⟨e, he, _, rfl⟩ := xe h1
  have : ts = #[t] := by apply Array.ext'; exact hts
  subst this
  exact ⟨_, rfl, by simp [builtin, Builtin.len_, run_underlying hu, goInt]⟩
 ·rename_i t b' o n c hts
  obtain ⟨e, hu, h⟩ := qJ h hr
  subst h
  obtain ⟨cv, h1, rfl⟩ := kB hx
  obtain ⟨e, he, rfl⟩ := kO h1
  have : ts = #[t] := by apply Array.ext'; exact hts
  subst this
  exact ⟨_, rfl, by simp [builtin, Builtin.len_, run_underlying hu, goInt]⟩
 ·rename_i t q hts
  obtain ⟨ke, hu, h⟩ := zw h hr
  obtain ⟨es, h2, h⟩ := zw h hr
  subst h
  obtain ⟨cv, h1, rfl⟩ := kB hx
  simp only [zK, Option.map_eq_some_iff] at h1
  obtain ⟨e, he, rfl⟩ := h1
  obtain ⟨ces, clk, _, g1, g2⟩ := zhG hw h2 he
  have : ts = #[t] := by apply Array.ext'; exact hts
  subst this
  have hl := ziq g2
  refine ⟨_, rfl, ?_⟩
  simp [builtin, Builtin.len_, run_underlying (zeP hu), run_getObj_map g1, goInt, hl]
 ·rename_i t t2 s x hts
  obtain ⟨e, hu, h⟩ := qJ h hr
  obtain ⟨sz, hsz, h⟩ := zw h hr
  cases h0 : Nat.beq sz 0 with
  | true => rw [h0] at h; exact absurd h.symm hr
  | false =>
   rw [h0] at h
   obtain ⟨hby, h⟩ := z6 h hr
   obtain ⟨cv, cx, h1, h2, rfl⟩ := zbg hx
   have : ts = #[t, t2] := by apply Array.ext'; exact hts
   subst this
   have e0 : builtin .append #[t, t2] ty cs #[cv, cx] = (do pure (.value (← Builtin.append_ #[t, t2] ty #[cv, cx])) : Sem Next) := rfl
   rw [show ([cv, cx] : List Value).toArray = #[cv, cx] from rfl, e0]
   exact zqt hw hu hsz h0 hby h1 h2 h hr
 ·rename_i t t2 b' o n c s x hts
  obtain ⟨e, hu, h⟩ := qJ h hr
  obtain ⟨sz, hsz, h⟩ := zw h hr
  obtain ⟨kx, hsrc, hy⟩ := zw h hr
  clear h
  cases hk0 : Nat.beq kx.1 0 && Nat.beq (len kx.2) 0 with
  | true =>
   rw [hk0] at hy
   have hy : OR.val (.lit (.int .i64 0)) = r := hy
   obtain ⟨k, xs⟩ := kx
   simp only [Bool.and_eq_true] at hk0
   have hk1 : len xs = 0 := nQe hk0.2
   have hk0 : k = 0 := nQe hk0.1
   subst hk0
   rw [yz] at hk1
   obtain ⟨cv, cx, h1, h2, rfl⟩ := zbg hx
   have : ts = #[t, t2] := by apply Array.ext'; exact hts
   subst this
   obtain ⟨e', he, _, rfl⟩ := xe h1
   obtain ⟨cs', q1, q2, q3⟩ := zas (P := P) hw hsrc h2
   subst hy
   refine ⟨_, rfl, ?_⟩
   have q4 := q3 w rfl
   have hcs : cs'.toArray = #[] := by
    have := ql q1
    rw [hk1] at this
    rw [List.length_eq_zero_iff.1 this]
   rw [hcs] at q4
   simp [builtin, Builtin.copy_, run_underlying hu, yH hsz, q2, q4, goInt, storeCells]
  | false =>
  rw [hk0] at hy
  have h := hy
  clear hy
  obtain ⟨hk, h⟩ := z6 h hr
  obtain ⟨c0, hb, h⟩ := zj1 h hr
  obtain ⟨c', hs, h⟩ := zw h hr
  obtain ⟨k, xs⟩ := kx
  obtain ⟨cv, cx, h1, h2, rfl⟩ := zbg hx
  have : ts = #[t, t2] := by apply Array.ext'; exact hts
  subst this
  simp only [Bool.and_eq_true] at hk
  have hk1 : k ≤ n := qZ hk.1.1
  have hk3 := qm hk.2
  obtain ⟨e', he, _, rfl⟩ := vu h1 (.inl (by omega))
  obtain ⟨cs', q1, q2, q3⟩ := zas (P := P) hw hsrc h2
  have hk2 := qm hk.1.2
  rw [yz] at hk2
  obtain ⟨w', g1, g2, g3⟩ := zfX (P := P) hw hb he hs q1 hk2
  subst h
  refine ⟨σ, _, w', Sle.refl _, rfl, .inl ?_, g2, g3⟩
  have hmin : Nat.min k n = k := Nat.min_eq_left hk1
  simp [builtin, Builtin.copy_, run_underlying hu, yH hsz, q2, hmin, q3 w rfl, g1, goInt]
 ·rename_i t b' o n c s hts
  cases hc : Nat.beq c 0 with
  | true => rw [hc] at h; exact absurd h.symm hr
  | false =>
   rw [hc] at h
   subst h
   obtain ⟨cv, h1, rfl⟩ := kB hx
   obtain ⟨e, he, _, rfl⟩ := vu h1 (.inr (fun h0 => by subst h0; cases hc))
   have hc0 : c + e.kp ≠ 0 := fun h0 => by
    have : c = 0 := by omega
    subst this; cases hc
   refine ⟨.pointer (some ⟨e.bl, o + e.dl, none⟩), (by show (σ b').map _ = _; rw [he]; rfl), ?_⟩
   have := Lib.run_unsafeSliceData_row (P := P) (w := w) ts ty ⟨e.bl, o + e.dl, none⟩ n (c + e.kp) hc0
   simp [builtin, this]
 ·rename_i t t2 b' o n hts
  obtain ⟨el, hu, h⟩ := zmx h hr
  obtain ⟨c0, hb, h⟩ := zj1 h hr
  obtain ⟨e', hty, h⟩ := zw h hr
  obtain ⟨hk, h⟩ := z6 h hr
  obtain ⟨l, hl, h⟩ := zw h hr
  obtain ⟨bs, hbs, h⟩ := zw h hr
  subst h
  obtain ⟨k1, k2, k3, k4⟩ := zyO hk
  have k1 := nQe k1
  subst k1
  have k2 : P.cellsOf el = 1 := nQe k2
  have k3 := qm k3
  have k4 := qZ k4
  obtain ⟨cv, cx, h1, h2, rfl⟩ := zbg hx
  obtain ⟨e, he, rfl⟩ := yq h1
  cases h2
  obtain ⟨arr, ty0, fz, g1, g2, g3⟩ := hw.obj b' _ e hb he
  obtain rfl := g2.2.1 _ hty
  obtain ⟨cs', q1, q2, q3⟩ := zba g3 _ _ _ hl
  have n1 := zjc hbs q1
  have hlen : bs.length = n := by rw [← q2, n1]; simp
  have hbd : ∀ j, j < n → o + e.dl + j < arr.size := fun j hj => by
   have : cs'[j]? = some cs'[j] := List.getElem?_eq_getElem (by omega)
   have := q3 j _ this
   have := (Array.getElem?_eq_some_iff.1 this).1
   omega
  have hts' : ts = #[t, t2] := by apply Array.ext'; exact hts
  subst hts'
  have hrun := zfO (P := P) w t t2 ty ty0 hu k2 e.bl (o + e.dl) arr.size (by simp [World.shape?, g1]) bs (by rw [← List.length_pos_iff]; omega) (by have := hbd (n - 1) (by omega); omega) (by omega)
   (fun j x hj => by
    rw [qV]
    refine zbl g1 ?_
    have : cs'[j]? = some (.int .u8 x.toNat) := by rw [n1]; simp [hj]
    have := q3 j _ this
    rwa [show o + e.dl + j = o + j + e.dl by omega])
  obtain ⟨z1, z2, z3, z4, z5⟩ := ziE w e.bl (o + e.dl) (n := bs.length) (by omega)
  have hwr := hw.write (o' := .dead) (w' := w.freeze ⟨e.bl, o + e.dl, none⟩ bs.length) hb rfl he trivial z2 z1 z3 z4 z5
  refine ⟨σ, _, _, Sle.refl _, rfl, .inl ?_, hwr.1, hwr.2⟩
  rw [← hlen]
  simp [builtin, hrun]
 ·rename_i hn1 hn2 hn3 hn4
  obtain ⟨vs, h1, h⟩ := zw h hr
  obtain ⟨v, h2, h3⟩ := yw h hr
  have e1 := (zcy (σ := σ) h1).symm.trans hx
  cases e1
  subst h3
  exact ⟨v, rfl, zk6 h2 w⟩
end
section
variable {O : Ow} {σ : Sg} {P : Program} {fr : Fra} {m : Mem} {ρ : Operand → Value} {r : OR} {d : Option Tmp} {ty : Nat} {pos : String} {af : Array Edge} {gd : Option (Nat × Bool)} {w : World}
def jk (st : Nat) (xs : List Int) : Value := match st with
 | 0 => .int .i64 (xs.headD 0)
 | 1 => .agg (yE .i64 xs).toArray
 | _ => .string ⟨(xs.map fun n => UInt8.ofNat n.toNat).toArray⟩
theorem zgv : ∀ {l : List AV} {xs : List Int}, ze8 l = some xs → zA σ l = some (yE .i64 xs)
 | [], xs, h => by cases h; rfl
 | v :: l, xs, h => by
  cases v <;> first | cases h | skip
  rename_i u
  cases u <;> first | cases h | skip
  rename_i k n
  cases k <;> first | cases h | skip
  have h' : (match ze8 l with | some xs => some (n :: xs) | none => none) = some xs := h
  cases hl : ze8 l with
  | none => rw [hl] at h'; cases h'
  | some ys =>
   rw [hl] at h'
   cases h'
   simp only [zA, zK, zgv hl]; rfl
theorem za9 {st : Nat} {v : AV} {xs : List Int} {c : Value} (h : keyC st v = some xs) (hc : zK σ v = some c) : c = jk st xs := by
 unfold keyC at h
 split at h
 ·split at h
  ·cases h; cases hc; rfl
  ·cases h
 ·cases ha : zqy v with
  | none => rw [ha] at h; cases h
  | some l =>
   rw [ha] at h
   obtain ⟨cs, h1, h2⟩ := zmf ha hc
   have := (zgv (σ := σ) h).symm.trans h1
   cases this
   exact h2
 ·rename_i h0 h1
  split at h
  ·rename_i s
   cases h; cases hc
   unfold jk
   split
   ·exact (h0 rfl).elim
   ·exact (h1 rfl).elim
   ·congr 1
    apply ByteArray.ext
    simp [zkT, Function.comp_def]
  ·cases h
theorem vZ : ∀ (a b : List Int), vr a b = (a == b)
 | [], [] => rfl
 | [], _ :: _ => rfl
 | _ :: _, [] => rfl
 | a :: l, b :: m => by
  show cond (eqI a b) (vr l m) false = _
  rw [zkt, vZ l m]
  by_cases h : a = b
  ·subst h; simp
  ·simp [h]
theorem zfz : ∀ {xs ys : List Int}, zbY xs = true → zbY ys = true → (xs.map fun n => UInt8.ofNat n.toNat) = (ys.map fun n => UInt8.ofNat n.toNat) → xs = ys
 | [], [], _, _, _ => rfl
 | [], _ :: _, _, _, h => by cases h
 | _ :: _, [], _, _, h => by cases h
 | .ofNat a :: l, .ofNat b :: m, h1, h2, h => by
  simp only [zbY] at h1 h2
  cases ha : Nat.blt a 256 with
  | false => rw [ha] at h1; cases h1
  | true =>
   cases hb : Nat.blt b 256 with
   | false => rw [hb] at h2; cases h2
   | true =>
    rw [ha] at h1; rw [hb] at h2
    simp only [List.map, List.cons.injEq] at h
    have hab := congrArg UInt8.toNat h.1
    have ha := qm ha
    have hb := qm hb
    simp only [Int.ofNat_eq_natCast, Int.toNat_natCast, UInt8.toNat_ofNat'] at hab
    have : a = b := by omega
    rw [this, zfz h1 h2 h.2]
 | .negSucc _ :: _, _, h1, _, _ => by cases h1
 | .ofNat _ :: _, .negSucc _ :: _, _, h2, _ => by cases h2
theorem zhr {t n st : Nat} (h : zfR P t = some (st, n)) : (st = 0 ∧ n = 1 ∧ ∃ k, P.underlying t = some (.int k)) ∨ (st = 1 ∧ zdL P t = true ∧ (P.fieldsOf t).toList.length = n) ∨ (st = 2 ∧ P.underlying t = some .string) ∨ (st = 1 ∧ ∃ e k i, P.underlying t = some (.array n e) ∧ P.underlying e = some (.int k) ∧ P.info? e = some i ∧ i.size = 1) := by
 unfold zfR at h
 split at h
 ·cases h; exact .inl ⟨rfl, rfl, _, by assumption⟩
 ·cases hb : zdL P t with
  | false => rw [hb] at h; cases h
  | true => rw [hb] at h; cases h; exact .inr (.inl ⟨rfl, rfl, rfl⟩)
 ·cases h; exact .inr (.inr (.inl ⟨rfl, by assumption⟩))
 ·rename_i n' e hu
  split at h
  ·rename_i k hk
   cases hs : Nat.beq (szT P e) 1 with
   | false => rw [hs] at h; cases h
   | true =>
    rw [hs] at h
    cases h
    have hs := nQe hs
    unfold szT at hs
    split at hs
    ·rename_i i hi
     exact .inr (.inr (.inr ⟨rfl, e, k, i, hu, hk, hi, hs⟩))
    ·cases hs
  ·cases h
 ·cases h
theorem zew {e : TypeId} {k : IntKind} {i : TypeInfo} (hu : P.underlying e = some (.int k)) (hi : P.info? e = some i) (hs : i.size = 1) (em : Bool) (n : Nat) (xs : List Int) (w : World) : ∀ (m o : Nat), o + m ≤ xs.length →
  (forIn (m := Sem) (List.range' o m) PUnit.unit (fun (j : Nat) (_ : PUnit) => do
   Instr.checkKey em (n + 1) e (← part e (yE .i64 xs).toArray (j * (← sizeOf e)))
   pure (ForInStep.yield PUnit.unit))).run P w = .ok PUnit.unit w
 | 0, o, _ => by simp
 | m + 1, o, h => by
  have ih := zew hu hi hs em n xs w m (o + 1) (by omega)
  have hpart : (part e (yE .i64 xs).toArray (o * 1)).run P w = .ok (.int .i64 (xs[o]'(by omega))) w := by
   simp [part, isAgg, run_underlying hu, yE, show o < xs.length by omega]
  have hck : (Instr.checkKey em (n + 1) e (.int .i64 (xs[o]'(by omega)))).run P w = .ok () w := by simp [Instr.checkKey, run_underlying hu]
  have hsz : (sizeOf e).run P w = .ok 1 w := by simp [sizeOf, typeInfo, hi, hs]
  rw [List.range'_succ, List.forIn_cons]
  simp only [Sem.run_bind, hsz, hpart, Result.andThen_ok, hck, Sem.run_pure]
  exact ih
theorem zf4 {e : TypeId} {k : IntKind} (hu : P.underlying e = some (.int k)) (dd : Nat) (xs ys : List Int) (w : World) : ∀ (m o : Nat), xs.length = o + m → ys.length = o + m →
  (forIn (m := Sem) (List.range' o m) ((none, ()) : Option Bool × Unit) (fun (j : Nat) (_ : Option Bool × Unit) => do
   if (!(← Op.equalIn (dd + 1) e (← part e (yE .i64 xs).toArray (j * 1)) (← part e (yE .i64 ys).toArray (j * 1)))) = true then pure (ForInStep.done (some false, ()))
   else pure (ForInStep.yield (none, ())))).run P w = .ok (if xs.drop o == ys.drop o then (none, ()) else (some false, ())) w
 | 0, o, hx, hy => by
  rw [List.drop_of_length_le (by omega), List.drop_of_length_le (by omega)]
  simp
 | m + 1, o, hx, hy => by
  have ih := zf4 hu dd xs ys w m (o + 1) (by omega) (by omega)
  have ex : xs.drop o = xs[o]'(by omega) :: xs.drop (o + 1) := List.drop_eq_getElem_cons (by omega)
  have ey : ys.drop o = ys[o]'(by omega) :: ys.drop (o + 1) := List.drop_eq_getElem_cons (by omega)
  have hpart : ∀ (zs : List Int) (hz : o < zs.length), (part e (yE .i64 zs).toArray (o * 1)).run P w = .ok (.int .i64 zs[o]) w := by
   intro zs hz
   simp [part, isAgg, run_underlying hu, yE, hz]
  have hE : (Op.equalIn (dd + 1) e (.int .i64 (xs[o]'(by omega))) (.int .i64 (ys[o]'(by omega)))).run P w = .ok (xs[o]'(by omega) == ys[o]'(by omega)) w := run_equalIn_int w dd e .i64 k _ _ hu
  rw [List.range'_succ, List.forIn_cons]
  simp only [Sem.run_bind, hpart xs (by omega), hpart ys (by omega), Result.andThen_ok, hE]
  rw [ex, ey, List.cons_beq_cons]
  cases hb : (xs[o]'(by omega) == ys[o]'(by omega)) with
  | true =>
   simp only [Bool.not_true, Bool.false_eq_true, if_false, Sem.run_pure, Result.andThen_ok, Bool.true_and]
   exact ih
  | false => simp
theorem zly {n : Nat} {k : List Int} (h : yS 0 n k = true) : k.length = n := by rw [← yz]; exact nQe h
theorem zgz {n : Nat} {k : List Int} (h : yS 1 n k = true) : k.length = n := by rw [← yz]; exact nQe h
theorem zp7 {t n st : Nat} {xs : List Int} (h : zfR P t = some (st, n)) (hl : yS st n xs = true) (em : Bool) (w : World) : (Instr.checkKey em 10000 t (jk st xs)).run P w = .ok () w := by
 rcases zhr h with ⟨rfl, rfl, k, hu⟩ | ⟨rfl, hb, hn⟩ | ⟨rfl, hu⟩ | ⟨rfl, e, k, i, hu, he, hi, hs⟩
 ·exact zjP hu em 9999 (xs.headD 0) w
 ·have hl := zgz hl
  obtain ⟨h1, h3, _⟩ := jB hb
  have := vc (P := P) em 9998 xs w _ 0 h3 (by omega)
  have e : Instr.checkKey em 10000 t (jk 1 xs) = Instr.checkKey em (9998 + 2) t (.agg (yE .i64 xs).toArray) := rfl
  rw [e, Instr.checkKey]
  simp only [Sem.run_bind, run_underlying h1, Result.andThen_ok]
  rw [← Array.forIn_toList]
  refine (congrArg (fun r => Result.andThen r _) this).trans ?_
  simp
 ·have e : ∀ n s, (Instr.checkKey em (n + 1) t (.string s)).run P w = .ok () w := fun n s => by simp [Instr.checkKey, run_underlying hu]
  exact e 9999 _
 ·have hl := zgz hl
  have e1 : Instr.checkKey em 10000 t (jk 1 xs) = Instr.checkKey em (9998 + 2) t (.agg (yE .i64 xs).toArray) := rfl
  rw [e1, Instr.checkKey]
  simp only [Sem.run_bind, run_underlying hu, Result.andThen_ok, Std.Legacy.Range.forIn_eq_forIn_range', Std.Legacy.Range.size, Nat.sub_zero, Nat.add_one_sub_one, Nat.div_one]
  have := zew (P := P) he hi hs em 9998 xs w n 0 (by omega)
  refine (congrArg (fun r => Result.andThen r _) this).trans ?_
  simp
theorem zkS {xs ys : List Int} (hx : zbY xs = true) (hy : zbY ys = true) : ((⟨(xs.map fun n => UInt8.ofNat n.toNat).toArray⟩ : ByteArray) == ⟨(ys.map fun n => UInt8.ofNat n.toNat).toArray⟩) = vr xs ys := by
 have e : ∀ a b : List UInt8, ((⟨a.toArray⟩ : ByteArray) == ⟨b.toArray⟩) = (a == b) := fun a b => by
  show (a.toArray == b.toArray) = _
  rw [Bool.eq_iff_iff]; simp
 rw [e, vZ, Bool.eq_iff_iff]
 simp only [beq_iff_eq]
 exact ⟨zfz hx hy, fun h => h ▸ rfl⟩
theorem zpT {t n st : Nat} {xs ys : List Int} (h : zfR P t = some (st, n)) (hx : yS st n xs = true) (hy : yS st n ys = true) (w : World) : (Op.equal t (jk st xs) (jk st ys)).run P w = .ok (vr xs ys) w := by
 rcases zhr h with ⟨rfl, rfl, k, hu⟩ | ⟨rfl, hb, hn⟩ | ⟨rfl, hu⟩ | ⟨rfl, e, k, i, hu, he, hi, hs⟩
 ·have hx := zly hx; have hy := zly hy
  rw [vZ]
  match xs, ys, hx, hy with
  | [a], [b], _, _ => exact yp fun n => by simp [jk, Op.equalIn, run_underlying hu]
 ·have hx := zgz hx; have hy := zgz hy
  rw [vZ]
  obtain ⟨h1, h3, h4, h5⟩ := jB hb
  have e1 := zbJ (P := P) (w := w) (k := .i64) 9998 xs ys _ 0 h3 (by omega) (by omega)
  have hQ := run_equalIn_agg w 9999 t (yE .i64 xs).toArray (yE .i64 ys).toArray h1 h4
  exact hQ.trans e1
 ·rw [← zkS hx hy]
  exact yp fun n => by simp [jk, Op.equalIn, run_underlying hu]
 ·have hx := zgz hx; have hy := zgz hy
  rw [vZ]
  have hsz : (sizeOf e).run P w = .ok 1 w := by simp [sizeOf, typeInfo, hi, hs]
  have e1 := zf4 (P := P) he 9998 xs ys w n 0 (by omega) (by omega)
  show (Op.equalIn (9999 + 1) t (.agg (yE .i64 xs).toArray) (.agg (yE .i64 ys).toArray)).run P w = _
  rw [Op.equalIn]
  simp only [Sem.run_bind, run_underlying hu, Result.andThen_ok, hsz, Std.Legacy.Range.forIn_eq_forIn_range', Std.Legacy.Range.size, Nat.sub_zero, Nat.add_one_sub_one, Nat.div_one]
  simp only [List.drop_zero] at e1
  by_cases hxy : (xs == ys) = true
  ·rw [hxy] at e1 ⊢
   simp only [if_true] at e1
   refine (congrArg (fun r => Result.andThen r _) e1).trans ?_
   simp
  ·have hxy : (xs == ys) = false := by simpa using hxy
   rw [hxy] at e1 ⊢
   refine (congrArg (fun r => Result.andThen r _) e1).trans ?_
   simp
theorem zq1 (st : Nat) (xs : List Int) : Instr.sameBits 10000 (jk st xs) (jk st xs) = true := by
 unfold jk
 split
 ·simp [Instr.sameBits]
 ·show Instr.sameBits (9999 + 1) (.agg (yE .i64 xs).toArray) (.agg (yE .i64 xs).toArray) = true
  simp only [Instr.sameBits, beq_self_eq_true, Bool.true_and]
  induction xs with
  | nil => rfl
  | cons x xs ih =>
   have : (yE .i64 (x :: xs)) = Value.int .i64 x :: yE .i64 xs := rfl
   rw [this]
   simp only [List.zip_cons_cons, List.all_cons, Bool.and_eq_true]
   exact ⟨by simp [Instr.sameBits], ih⟩
 ·show ((_ : Array UInt8) == _) = true
  simp
theorem zqr {t n st : Nat} {xs : List Int} (ht : zfR P t = some (st, n)) (hx : yS st n xs = true) (w : World) : ∀ (es : List (AV × AV)) (ces : List MapEntry) (i : Nat) (res : Option AV), MapR σ es ces → jN st n xs es = some res →
  ∃ q, (Instr.findAsking t (jk st xs) ces i).run P w = .ok q w ∧ (res = none → q = none) ∧ ∀ v, res = some v → ∃ j c, q = some (j, c) ∧ zK σ v = some c
 | [], [], i, res, _, h => by
  cases h
  exact ⟨none, by simp [Instr.findAsking], fun _ => rfl, fun v hv => by cases hv⟩
 | [], _ :: _, _, _, hm, _ => hm.elim
 | (_, _) :: _, [], _, _, hm, _ => hm.elim
 | (a, v) :: es, e :: ces, i, res, hm, h => by
  have h' : (match keyC st a with
   | some ka => cond (yS st n ka) (cond (vr xs ka) (some (some v)) (jN st n xs es)) none
   | none => none) = some res := h
  cases hk : keyC st a with
  | none => rw [hk] at h'; cases h'
  | some ka =>
   rw [hk] at h'
   have h' : cond (yS st n ka) (cond (vr xs ka) (some (some v)) (jN st n xs es)) none = some res := h'
   cases hl : yS st n ka with
   | false => rw [hl] at h'; cases h'
   | true =>
    rw [hl] at h'
    have he := za9 hk hm.1
    have hE := zpT (P := P) ht hx hl w
    rw [← he] at hE
    cases hb : vr xs ka with
    | true =>
     rw [hb] at h' hE
     cases h'
     exact ⟨some (i, e.val), by simp [Instr.findAsking, hE], (fun h => by cases h), (fun u hu => by cases hu; exact ⟨i, e.val, rfl, hm.2.1⟩)⟩
    | false =>
     rw [hb] at h' hE
     obtain ⟨q, q1, q2, q3⟩ := zqr ht hx w es ces (i + 1) res hm.2.2 h'
     exact ⟨q, by simp [Instr.findAsking, hE, q1], q2, q3⟩
theorem zom {es : List MapEntry} {fs : Array Field} {xs : List Int} (h : es ≠ []) (i : Nat) : Instr.findNow (.struct fs) (jk 1 xs) es i = none := by
 cases es with
 | nil => exact absurd rfl h
 | cons e es => simp [Instr.findNow, Instr.sameNow]
theorem zmC {es : List MapEntry} {n e : Nat} {xs : List Int} (h : es ≠ []) (i : Nat) : Instr.findNow (.array n e) (jk 1 xs) es i = none := by
 cases es with
 | nil => exact absurd rfl h
 | cons e es => simp [Instr.findNow, Instr.sameNow]
theorem zlf {k : IntKind} {xs : List Int} {t : Nat} (hu : P.underlying t = some (.int k)) (w : World) : ∀ (es : List (AV × AV)) (ces : List MapEntry) (i : Nat) (res : Option AV), MapR σ es ces → jN 0 1 xs es = some res → xs.length = 1 →
  ∃ q, Instr.findNow (.int k) (jk 0 xs) ces i = some q ∧ (Instr.findAsking t (jk 0 xs) ces i).run P w = .ok q w
 | [], [], i, res, _, h, _ => ⟨none, rfl, by simp [Instr.findAsking]⟩
 | [], _ :: _, _, _, hm, _, _ => hm.elim
 | (_, _) :: _, [], _, _, hm, _, _ => hm.elim
 | (a, v) :: es, e :: ces, i, res, hm, h, hx => by
  have h' : (match keyC 0 a with
   | some ka => cond (yS 0 1 ka) (cond (vr xs ka) (some (some v)) (jN 0 1 xs es)) none
   | none => none) = some res := h
  cases hk : keyC 0 a with
  | none => rw [hk] at h'; cases h'
  | some ka =>
   rw [hk] at h'
   have h' : cond (yS 0 1 ka) (cond (vr xs ka) (some (some v)) (jN 0 1 xs es)) none = some res := h'
   cases hl : yS 0 1 ka with
   | false => rw [hl] at h'; cases h'
   | true =>
    rw [hl] at h'
    have hl := zly hl
    have he := za9 hk hm.1
    match xs, ka, hx, hl with
    | [x], [y], _, _ =>
     have ek : e.key = .int .i64 y := he
     have hE : (Op.equal t (jk 0 [x]) e.key).run P w = .ok (x == y) w := by
      rw [ek]; exact yp fun n => by simp [jk, Op.equalIn, run_underlying hu]
     have hs : Instr.sameNow (.int k) (jk 0 [x]) e.key = some (x == y) := by rw [ek]; simp [jk, Instr.sameNow]
     cases hb : (x == y) with
     | true => exact ⟨some (i, e.val), by simp [Instr.findNow, hs, hb], by simp [Instr.findAsking, hE, hb]⟩
     | false =>
      have h'' : jN 0 1 [x] es = some res := by
       rw [vZ] at h'
       have : ([x] == [y]) = false := by simpa using hb
       rw [this] at h'; exact h'
      obtain ⟨q, q1, q2⟩ := zlf hu w es ces (i + 1) res hm.2.2 h'' rfl
      exact ⟨q, by simp [Instr.findNow, hs, hb, q1], by simp [Instr.findAsking, hE, hb, q2]⟩
theorem zle {n : Nat} {xs : List Int} {t : Nat} (ht : zfR P t = some (2, n)) (hu : P.underlying t = some .string) (hx : yS 2 n xs = true) (w : World) : ∀ (es : List (AV × AV)) (ces : List MapEntry) (i : Nat) (res : Option AV), MapR σ es ces → jN 2 n xs es = some res →
  ∃ q, Instr.findNow .string (jk 2 xs) ces i = some q ∧ (Instr.findAsking t (jk 2 xs) ces i).run P w = .ok q w
 | [], [], i, res, _, h => ⟨none, rfl, by simp [Instr.findAsking]⟩
 | [], _ :: _, _, _, hm, _ => hm.elim
 | (_, _) :: _, [], _, _, hm, _ => hm.elim
 | (a, v) :: es, e :: ces, i, res, hm, h => by
  have h' : (match keyC 2 a with
   | some ka => cond (yS 2 n ka) (cond (vr xs ka) (some (some v)) (jN 2 n xs es)) none
   | none => none) = some res := h
  cases hk : keyC 2 a with
  | none => rw [hk] at h'; cases h'
  | some ka =>
   rw [hk] at h'
   have h' : cond (yS 2 n ka) (cond (vr xs ka) (some (some v)) (jN 2 n xs es)) none = some res := h'
   cases hl : yS 2 n ka with
   | false => rw [hl] at h'; cases h'
   | true =>
    rw [hl] at h'
    have he := za9 hk hm.1
    have hE := zpT (P := P) ht hx hl w
    rw [← he] at hE
    have hs : Instr.sameNow .string (jk 2 xs) e.key = some (vr xs ka) := by
     rw [he, ← zkS hx hl]; simp [jk, Instr.sameNow]
    cases hb : vr xs ka with
    | true =>
     rw [hb] at hs hE
     exact ⟨some (i, e.val), by simp [Instr.findNow, hs], by simp [Instr.findAsking, hE]⟩
    | false =>
     rw [hb] at h' hs hE
     obtain ⟨q, q1, q2⟩ := zle ht hu hx w es ces (i + 1) res hm.2.2 h'
     exact ⟨q, by simp [Instr.findNow, hs, q1], by simp [Instr.findAsking, hE, q2]⟩
theorem zhC {t n st : Nat} {xs : List Int} {es : List (AV × AV)} {ces : List MapEntry} {res : Option AV} (ht : zfR P t = some (st, n)) (hx : yS st n xs = true) (hm : MapR σ es ces) (h : jN st n xs es = some res) (w : World) :
  ∃ q, (Instr.findKey t (jk st xs) ces).run P w = .ok q w ∧ (Instr.findAsking t (jk st xs) ces 0).run P w = .ok q w ∧ (res = none → q = none) ∧ ∀ v, res = some v → ∃ j c, q = some (j, c) ∧ zK σ v = some c := by
 obtain ⟨q, q1, q2, q3⟩ := zqr (P := P) ht hx w es ces 0 res hm h
 refine ⟨q, ?_, q1, q2, q3⟩
 rcases zhr ht with ⟨rfl, rfl, k, hu⟩ | ⟨rfl, hb, hn⟩ | ⟨rfl, hu⟩ | ⟨rfl, e, k, i, hu, he, hi, hs⟩
 ·obtain ⟨q', r1, r2⟩ := zlf (P := P) hu w es ces 0 res hm h (zly hx)
  rw [r2] at q1
  cases q1
  simp [Instr.findKey, run_underlying hu, r1]
 ·obtain ⟨h1, _⟩ := jB hb
  cases ces with
  | nil =>
   have : q = none := by simp [Instr.findAsking] at q1; exact q1.symm
   subst this
   simp [Instr.findKey, run_underlying h1, Instr.findNow]
  | cons e ces =>
   have := zom (es := e :: ces) (fs := P.fieldsOf t) (xs := xs) (by simp) 0
   simp [Instr.findKey, run_underlying h1, this, q1]
 ·obtain ⟨q', r1, r2⟩ := zle (P := P) ht hu hx w es ces 0 res hm h
  rw [r2] at q1
  cases q1
  simp [Instr.findKey, run_underlying hu, r1]
 ·cases ces with
  | nil =>
   have : q = none := by simp [Instr.findAsking] at q1; exact q1.symm
   subst this
   simp [Instr.findKey, run_underlying hu, Instr.findNow]
  | cons c ces =>
   have := zmC (es := c :: ces) (n := n) (e := e) (xs := xs) (by simp) 0
   simp [Instr.findKey, run_underlying hu, this, q1]
theorem zkh (hw : RelW O σ m.hp m.nx w) (hρ : xp σ fr ρ) {t : Nat} {x y : Operand} {ok : Bool} (h : zhu t x y ok P ty fr m = r) (hr : r ≠ .no) : ∃ v, r = .val v ∧ ∃ c, zK σ v = some c ∧ (execOp ρ ⟨d, .lookup t x y ok, ty, pos, af, gd⟩).run P w = .ok (.value c) w := by
 obtain ⟨mv, h1, h⟩ := zw h hr
 obtain ⟨kv, h2, h⟩ := zw h hr
 obtain ⟨q, h3, h⟩ := zw h hr
 obtain ⟨es, h4, h⟩ := zw h hr
 obtain ⟨ke, h5, h⟩ := zw h hr
 obtain ⟨sn, h6, h⟩ := zw h hr
 obtain ⟨xs, h7, h⟩ := zw h hr
 obtain ⟨h8, h⟩ := z6 h hr
 obtain ⟨res, h9, h⟩ := zw h hr
 obtain ⟨st, n⟩ := sn
 have hl := h8
 have hm : mv = .map q := by
  unfold mapOf at h3
  split at h3
  ·cases h3; rfl
  ·cases h3
 subst hm
 have hmv := hρ x _ h1
 simp only [zK, Option.map_eq_some_iff] at hmv
 obtain ⟨e, he, hx⟩ := hmv
 have hk := za9 h7 (hρ y _ h2)
 obtain ⟨ces, clk, g1, g2, g3⟩ := zhG hw h4 he
 obtain ⟨qq, f1, _, f2, f3⟩ := zhC (P := P) h6 hl g3 h9 w
 have hck := zp7 (P := P) h6 hl ces.isEmpty w
 have hu := zeP h5
 cases res with
 | some v =>
  obtain ⟨j, c, rfl, hv⟩ := f3 v rfl
  cases ok with
  | true =>
   refine ⟨_, h.symm, .tuple #[c, .bool true], by simp only [cond_true, zK, zA, hv, Option.map_some], ?_⟩
   simp [execOp, ← hx, hk, Instr.lookup, run_underlying hu, run_getObj_map g2, hck, f1]
  | false =>
   refine ⟨_, h.symm, c, hv, ?_⟩
   simp [execOp, ← hx, hk, Instr.lookup, run_underlying hu, run_getObj_map g2, hck, f1]
 | none =>
  have := f2 rfl
  subst this
  obtain ⟨z, hz, h⟩ := zw h hr
  obtain ⟨c, hz1, hz2⟩ := zej (σ := σ) hz
  cases ok with
  | true =>
   refine ⟨_, h.symm, .tuple #[c, .bool false], by simp only [cond_true, zK, zA, hz1, Option.map_some], ?_⟩
   simp [execOp, ← hx, hk, Instr.lookup, run_underlying hu, run_getObj_map g2, hck, f1, hz2]
  | false =>
   refine ⟨_, h.symm, c, hz1, ?_⟩
   simp [execOp, ← hx, hk, Instr.lookup, run_underlying hu, run_getObj_map g2, hck, f1, hz2]
theorem zau {q : Nat} {ces : Array MapEntry} {clk : Nat} {o : Obj} (h : w.heap[q]? = some (.map ces clk)) : (setObj q o).run P w = .ok () (w.putObj q o) := by simp [setObj, Sem.run, h, World.putObj]
theorem MapR.append {es : List (AV × AV)} {ces : List MapEntry} {k v : AV} {e : MapEntry} (h : MapR σ es ces) (hk : zK σ k = some e.key) (hv : zK σ v = some e.val) : MapR σ (es ++ [(k, v)]) (ces ++ [e]) := by
 induction es generalizing ces with
 | nil => cases ces with
  | nil => exact ⟨hk, hv, trivial⟩
  | cons _ _ => exact h.elim
 | cons a es ih =>
  obtain ⟨a, u⟩ := a
  cases ces with
  | nil => exact h.elim
  | cons c ces => exact ⟨h.1, h.2.1, ih h.2.2⟩
theorem znw {st n : Nat} {xs : List Int} {k v : AV} {ck cv : Value} (hk : zK σ k = some ck) (hv : zK σ v = some cv) (hck : ck = jk st xs) (t : Nat) (ht : zfR P t = some (st, n)) (hx : yS st n xs = true) (w : World) : ∀ (es es' : List (AV × AV)) (ces : List MapEntry) (i : Nat), MapR σ es ces → updM st n k xs v es = some es' →
  (jN st n xs es = some none ∧ es' = es ++ [(k, v)]) ∨
  ∃ u j e, jN st n xs es = some (some u) ∧ (Instr.findAsking t (jk st xs) ces i).run P w = .ok (some (i + j, e.val)) w ∧ ces[j]? = some e ∧ e.key = ck ∧ MapR σ es' (ces.set j { e with key := ck, val := cv })
 | [], es', [], i, hm, h => by cases h; exact .inl ⟨rfl, rfl⟩
 | [], _, _ :: _, _, hm, _ => hm.elim
 | (_, _) :: _, _, [], _, hm, _ => hm.elim
 | (a, u) :: es, es', e :: ces, i, hm, h => by
  have h' : (match keyC st a with
   | some ka => cond (yS st n ka) (cond (vr xs ka) (some ((k, v) :: es)) (match updM st n k xs v es with
    | some l' => some ((a, u) :: l')
    | none => none)) none
   | none => none) = some es' := h
  cases hka : keyC st a with
  | none => rw [hka] at h'; cases h'
  | some ka =>
   rw [hka] at h'
   have h' : cond (yS st n ka) (cond (vr xs ka) (some ((k, v) :: es)) (match updM st n k xs v es with
    | some l' => some ((a, u) :: l')
    | none => none)) none = some es' := h'
   cases hl : yS st n ka with
   | false => rw [hl] at h'; cases h'
   | true =>
    rw [hl] at h'
    have hl' := hl
    have he := za9 hka hm.1
    have hE := zpT (P := P) ht hx hl' w
    rw [← he] at hE
    have hf : jN st n xs ((a, u) :: es) = cond (vr xs ka) (some (some u)) (jN st n xs es) := by
     show (match keyC st a with | some ka => _ | none => none) = _
     rw [hka]
     show cond (yS st n ka) _ none = _
     rw [hl]; rfl
    cases hb : vr xs ka with
    | true =>
     rw [hb] at h' hE hf
     cases h'
     have hxs : xs = ka := by rw [vZ] at hb; simpa using hb
     subst hxs
     exact .inr ⟨u, 0, e, hf, by simp [Instr.findAsking, hE], rfl, by rw [hck, he], hk, hv, hm.2.2⟩
    | false =>
     rw [hb] at h' hE hf
     have h' : (match updM st n k xs v es with
      | some l' => some ((a, u) :: l')
      | none => none) = some es' := h'
     cases hu : updM st n k xs v es with
     | none => rw [hu] at h'; cases h'
     | some l' =>
      rw [hu] at h'
      cases h'
      rcases znw hk hv hck t ht hx w es l' ces (i + 1) hm.2.2 hu with ⟨q1, q2⟩ | ⟨u', j, e', q1, q2, q3, q4, q5⟩
      ·exact .inl ⟨hf.trans q1, by rw [q2]; rfl⟩
      ·refine .inr ⟨u', j + 1, e', hf.trans q1, ?_, q3, q4, hm.1, hm.2.1, q5⟩
       simp only [Instr.findAsking, Sem.run_bind, hE, Result.andThen_ok]
       simp [q2]
       omega
theorem ze1 (hw : RelW O σ m.hp m.nx w) (hρ : xp σ fr ρ) {t : Nat} {x y z : Operand} (h : zd9 t x y z P ty fr m = r) (hr : r ≠ .no) : zb4 O σ P w (do Instr.mapUpdate t (ρ x) (ρ y) (ρ z); pure .skip : Sem Next) r := by
 obtain ⟨mv, h1, h⟩ := zw h hr
 obtain ⟨kv, h2, h⟩ := zw h hr
 obtain ⟨vv, h2', h⟩ := zw h hr
 obtain ⟨q, h3, h⟩ := zw h hr
 obtain ⟨es, h4, h⟩ := zw h hr
 obtain ⟨ke, h5, h⟩ := zw h hr
 obtain ⟨sn, h6, h⟩ := zw h hr
 obtain ⟨xs, h7, h⟩ := zw h hr
 obtain ⟨h8, h⟩ := z6 h hr
 obtain ⟨es', h9, hfin⟩ := zw h hr
 obtain ⟨st, n⟩ := sn
 have hl := h8
 have hm : mv = .map q := by
  unfold mapOf at h3
  split at h3
  ·cases h3; rfl
  ·cases h3
 subst hm
 have hmv := hρ x _ h1
 simp only [zK, Option.map_eq_some_iff] at hmv
 obtain ⟨e, he, hx⟩ := hmv
 have hky := hρ y _ h2
 have hkz := hρ z _ h2'
 have hk := za9 h7 hky
 obtain ⟨ces, clk, g1, g2, g3⟩ := zhG hw h4 he
 have hck := zp7 (P := P) h6 hl false w
 have hu := zeP h5
 rw [← hfin]
 have hput : ∀ o : Obj, (w.putObj e.bl o).heap[e.bl]? = some o := fun o => World.putObj_heap_same (Array.getElem?_eq_some_iff.1 g2).1
 rcases znw (P := P) hky hkz hk ke.1 h6 hl w es es' ces.toList 0 g3 h9 with ⟨q1, q2⟩ | ⟨u, j, e', q1, q2, q3, q4, q5⟩
 ·obtain ⟨qq, f1, _, f2, _⟩ := zhC (P := P) h6 hl g3 q1 w
  have := f2 rfl
  subst this
  have hwr := hw.write (o' := .map es') (w' := w.putObj e.bl (.map (ces.push { key := ρ y, val := ρ z, born := clk }) (clk + 1))) g1 rfl he
   (by rw [hput]; exact ⟨_, _, rfl, by rw [q2, Array.toList_push]; exact g3.append hky hkz⟩)
   (by simp [World.putObj]) (fun k hk => World.putObj_heap_other hk) rfl rfl rfl
  refine ⟨σ, undef, _, Sle.refl _, rfl, .inr ⟨?_, rfl⟩, hwr.1, hwr.2⟩
  rw [← hk] at f1 hck
  simp [← hx, Instr.mapUpdate, run_underlying hu, run_getObj_map g2, hck, f1, zau g2]
 ·obtain ⟨qq, f1, f1', _, _⟩ := zhC (P := P) h6 hl g3 q1 w
  rw [q2] at f1'
  cases f1'
  simp only [Nat.zero_add] at f1
  have hwr := hw.write (o' := .map es') (w' := w.putObj e.bl (.map (ces.modify j fun e => { e with key := ρ y, val := ρ z }) clk)) g1 rfl he
   (by
    rw [hput]
    refine ⟨_, _, rfl, ?_⟩
    have : (ces.modify j fun e => { e with key := ρ y, val := ρ z }).toList = ces.toList.set j { e' with key := ρ y, val := ρ z } := by
     rw [Array.toList_modify]
     apply List.ext_getElem?
     intro i
     rw [List.getElem?_modify, List.getElem?_set]
     by_cases hij : j = i
     ·subst hij
      have hlt := (List.getElem?_eq_some_iff.1 q3).1
      rw [q3]; simp at hlt; simp [hlt]
     ·simp [hij]
    rw [this]
    exact q5)
   (by simp [World.putObj]) (fun k hk => World.putObj_heap_other hk) rfl rfl rfl
  refine ⟨σ, undef, _, Sle.refl _, rfl, .inr ⟨?_, rfl⟩, hwr.1, hwr.2⟩
  have hsm := zq1 st xs
  rw [← hk] at f1 hck hsm
  have hkey : ((ces[j]?).map (·.key)).getD (ρ y) = ρ y := by
   have : ces[j]? = some e' := by simpa using q3
   rw [this]; exact q4
  simp [← hx, Instr.mapUpdate, run_underlying hu, run_getObj_map g2, hck, f1, zau g2, Instr.keyThatStays, hkey, hsm]
end
section
variable {O : Ow} {σ : Sg} {P : Program} {fr : Fra} {m : Mem} {ρ : Operand → Value} {r : OR} {d : Option Tmp} {ty : Nat} {pos : String} {af : Array Edge} {gd : Option (Nat × Bool)} {w : World}
theorem zfA : ∀ {l : List AV} {bs : List UInt8} {cs : List Value}, zgL l = some bs → zA σ l = some cs → ∃ ns : List Int, cs = ns.map (.int .u8) ∧ bs = ns.map fun n => UInt8.ofNat n.toNat
 | [], bs, cs, h, hc => by cases h; cases hc; exact ⟨[], rfl, rfl⟩
 | v :: l, bs, cs, h, hc => by
  unfold zgL at h
  split at h
  ·rename_i h0; cases h0
  ·rename_i n l' h0
   cases h0
   cases hb : zgL l with
   | none => rw [hb] at h; cases h
   | some bs' =>
    rw [hb] at h; cases h
    simp only [zA, zK] at hc
    cases hl : zA σ l with
    | none => rw [hl] at hc; cases hc
    | some cs' =>
     rw [hl] at hc; cases hc
     obtain ⟨ns, e1, e2⟩ := zfA hb hl
     exact ⟨n :: ns, by rw [e1]; rfl, by rw [e2]; rfl⟩
  ·cases h
theorem zdk : ∀ (ns : List Int) (s : ByteArray), ns.foldl (fun r n => r.push (UInt8.ofNat n.toNat)) s = ⟨(s.data.toList ++ ns.map fun n => UInt8.ofNat n.toNat).toArray⟩
 | [], s => by simp
 | n :: ns, s => by
  rw [List.foldl_cons, zdk ns]
  simp [ByteArray.push]
theorem ze5 {t : Option TypeDesc} (h : ze6 t = true) : t = some .string := by
 unfold ze6 at h
 split at h
 ·rfl
 ·cases h
theorem zlv {t : Option TypeDesc} (h : zmL t = true) : t = some (.int .u8) := by
 unfold zmL at h
 split at h
 ·rfl
 ·cases h
theorem ziv {e : TypeId} (hc : 0 < P.cellsOf e) {count off : Nat} (hn : 1 ≤ count) (ho : off = 0) : liesAt P P.depth e count off e 1 = true := by
 subst ho
 have hd : P.depth = (2 * (P.types.size + Made.depth) + 1) + 1 := rfl
 have hc' : ¬ P.cellsOf e = 0 := by omega
 rw [hd]
 simp only [liesAt, Bool.or_eq_true]
 left
 rw [hd]
 simp [rowAt, hc', hn, sameLayout]
theorem zo2 (hw : RelW O σ m.hp m.nx w) (hρ : xp σ fr ρ) {s t : Nat} {x : Operand} (h : zo3 s t x P ty fr m = r) (hr : r ≠ .no) : ∃ v, r = .val v ∧ ∃ c, zK σ v = some c ∧ (execOp ρ ⟨d, .convert s t x, ty, pos, af, gd⟩).run P w = .ok (.value c) w := by
 obtain ⟨v, h1, h⟩ := zw h hr
 have hv := hρ x v h1
 cases v with
 | lit u =>
  obtain ⟨c, h2, h3⟩ := yw h hr
  have e := (nQs hv).symm
  refine ⟨_, h3, c, rfl, ?_⟩
  simp [execOp, e, jU _ _ h2]
 | slc b o n c k =>
  obtain ⟨h2, h⟩ := z6 h hr
  obtain ⟨e, h3, h⟩ := qJ h hr
  obtain ⟨h4, h⟩ := z6 h hr
  obtain ⟨xs, h5, h⟩ := zw h hr
  obtain ⟨bs, h6, h⟩ := zw h hr
  obtain ⟨cs, q1, q2, q3⟩ := zas (P := P) hw (k := xs.1) (xs := xs.2) h5 hv
  obtain ⟨ns, e1, e2⟩ := zfA h6 q1
  subst e1
  obtain ⟨e', he, _, hc⟩ := xe hv
  generalize adr e'.kp o n c k = o' at hc
  have q3 := q3 w rfl
  rw [hc] at q3 q2
  have hn : n = xs.1 := by
   have := q2 w
   simp [Builtin.lenOf] at this
   exact this
  rw [← hn] at q3
  have q4 : (loadCells ⟨e'.bl, o' + e'.dl, none⟩ n).run P w = .ok (ns.map (Value.int .u8)).toArray w := by
   simpa [Builtin.firstCells] using q3
  refine ⟨_, h.symm, _, rfl, ?_⟩
  have q5 := run_bytesToString (P := P) w _ n (c + e'.kp) ns q4
  rw [zdk] at q5
  have q6 := run_convert_bytes_string (P := P) w s t e (some ⟨e'.bl, o' + e'.dl, none⟩) n (c + e'.kp) h3 (zlv h4) (ze5 h2)
  simp [execOp, hc, q6, q5, e2]
 | asl b o n c =>
  obtain ⟨h2, h⟩ := z6 h hr
  obtain ⟨e, h3, h⟩ := qJ h hr
  obtain ⟨h4, h⟩ := z6 h hr
  obtain ⟨xs, h5, h⟩ := zw h hr
  obtain ⟨bs, h6, h⟩ := zw h hr
  obtain ⟨cs, q1, q2, q3⟩ := zas (P := P) hw (k := xs.1) (xs := xs.2) h5 hv
  obtain ⟨ns, e1, e2⟩ := zfA h6 q1
  subst e1
  obtain ⟨e', he, hc⟩ := kO hv
  have q3 := q3 w rfl
  rw [hc] at q3 q2
  have hn : n = xs.1 := by
   have := q2 w
   simp [Builtin.lenOf] at this
   exact this
  rw [← hn] at q3
  have q4 : (loadCells ⟨e'.bl, o + e'.dl, none⟩ n).run P w = .ok (ns.map (Value.int .u8)).toArray w := by
   simpa [Builtin.firstCells] using q3
  refine ⟨_, h.symm, _, rfl, ?_⟩
  have q5 := run_bytesToString (P := P) w _ n c ns q4
  rw [zdk] at q5
  have q6 := run_convert_bytes_string (P := P) w s t e (some ⟨e'.bl, o + e'.dl, none⟩) n c h3 (zlv h4) (ze5 h2)
  simp [execOp, hc, q6, q5, e2]
 | ptr b o =>
  obtain ⟨h0, hq⟩ := z6 h hr
  clear h
  obtain rfl := nQe h0
  obtain ⟨e, he, hc⟩ := yq hv
  have h := hq
  unfold zl1 at h
  split at h
  ·rename_i e0 hs hd
   obtain ⟨n, h2, h⟩ := zw h hr
   cases hz : Nat.beq n 0 with
   | true => rw [hz] at h; exact absurd h.symm hr
   | false =>
    rw [hz] at h
    obtain ⟨c, ro, h3, h⟩ := zhl h hr
    obtain ⟨v0, h4, h⟩ := zw h hr
    obtain ⟨arr, el, fz, g1, g2, g3⟩ := hw.obj b _ e h3 he
    obtain ⟨i, hi, hn⟩ := jh h2
    obtain ⟨_, cv, _, q2⟩ := g3.2 _ _ h4
    have hlt := (Array.getElem?_eq_some_iff.1 q2).1
    refine ⟨_, h.symm, _, hv, ?_⟩
    have := Lib.run_to_unsafe (P := P) (w := w) ⟨e.bl, 0 + e.dl, none⟩ hs hd hi (by rw [hn]; intro h0; subst h0; cases hz) (e := el) (cells := arr.size) (by simp [World.shape?, g1]) (by simpa using hlt)
    simp only [Nat.zero_add] at this hc
    simp [execOp, hc, this]
  ·rename_i u hs hd
   obtain ⟨n, h2, k1⟩ := zw h hr
   obtain ⟨c, ro, h3, k2⟩ := zhl k1 hr
   obtain ⟨t', hty, k3⟩ := zw k2 hr
   obtain ⟨hk, k4⟩ := z6 k3 hr
   obtain ⟨v0, h4, k5⟩ := zw k4 hr
   simp only [Bool.and_eq_true] at hk
   have ht' := nQe hk.1
   have hpos := qm hk.2
   obtain ⟨arr, el, fz, g1, g2, g3⟩ := hw.obj b _ e h3 he
   have hel : el = u := (g2.2.1 _ hty).trans ht'
   have hdl : e.dl = 0 := g2.2.2 (by rw [hty]; rfl)
   obtain ⟨i, hi, hn⟩ := jh h2
   obtain ⟨hen, cv, _, q2⟩ := g3.2 _ _ h4
   have hlt := (Array.getElem?_eq_some_iff.1 q2).1
   refine ⟨_, k5.symm, _, hv, ?_⟩
   have := Lib.run_from_unsafe (P := P) (w := w) ⟨e.bl, 0 + e.dl, none⟩ hs hd hi (e := u) (cells := arr.size) (by simp [World.shape?, g1, hel]) (ziv hpos (by
    rw [Nat.le_div_iff_mul_le hpos]
    have : (P.cellsOf u).sub 1 = P.cellsOf u - 1 := rfl
    omega) (by simp [hdl]))
   simp only [Nat.zero_add] at this hc
   simp [execOp, hc, this]
  ·exact absurd h.symm hr
 | _ => exact absurd h.symm hr
theorem zgm (hρ : xp σ fr ρ) {t : Nat} {x : Operand} (h : zke t x P ty fr m = r) (hr : r ≠ .no) : NewO σ P (execOp ρ ⟨d, .range t x, ty, pos, af, gd⟩) m r := by
 obtain ⟨v, h1, h⟩ := zw h hr
 obtain ⟨s, h2, h⟩ := zw h hr
 obtain ⟨h3, h⟩ := z6 h hr
 obtain ⟨h5, h6⟩ := kK h hr
 have hv := hρ x v h1
 unfold ztg at h2
 split at h2
 ·cases h2
  have e := (nQs hv).symm
  refine ⟨_, _, h5, h6, .stringIter s 0, fun bl => .pointer (some ⟨bl, 0, none⟩), fun bl => ⟨bl, 0, 0, 1, 0⟩, fun _ => rfl, fun w => ?_, fun V bl hn => ⟨?_, rfl, rfl⟩⟩
  ·simp [execOp, e, Instr.range, run_underlying (ze5 h3), newObj, Sem.run]
  ·show (xi σ m.nx _ m.nx).map _ = _
   rw [qe]; rfl
 ·cases h2
theorem zah {q : Nat} {s : ByteArray} {p : Nat} (h : w.heap[q]? = some (.stringIter s p)) : (getObj q).run P w = .ok (.stringIter s p) w := by simp [getObj, Sem.run, h]
theorem zdQ {q : Nat} {s : ByteArray} {p : Nat} {o : Obj} (h : w.heap[q]? = some (.stringIter s p)) : (setObj q o).run P w = .ok () (w.putObj q o) := by simp [setObj, Sem.run, h, World.putObj]
theorem zoX (hw : RelW O σ m.hp m.nx w) (hρ : xp σ fr ρ) {b : Bool} {x : Operand} (h : zoY x b P ty fr m = r) (hr : r ≠ .no) : zb4 O σ P w (execOp ρ ⟨d, .next x b, ty, pos, af, gd⟩) r := by
 cases b with
 | false => exact absurd h.symm hr
 | true =>
  obtain ⟨q, o, h1, h⟩ := zb8 h hr
  obtain ⟨h2, h⟩ := z6 h hr
  have h2 := nQe h2
  subst h2
  obtain ⟨e, he, hc⟩ := yq (hρ x _ h1)
  have key : ∃ s p, qz m.hp q = some (.iter s p) ∧ (cond (Nat.blt p s.size)
   (match Utf8.decode s p with
    | (c, w) => OR.mem (.tup [.lit (.bool true), .lit (.int .i64 p), .lit (.int .i32 c)]) (hset (.iter s (Nat.add p w)) m.hp q) m.nx)
   (.val (.tup [.lit (.bool false)]))) = r := by
   unfold ztp at h
   split at h
   ·exact ⟨_, _, by assumption, h⟩
   ·exact absurd h.symm hr
  clear h
  obtain ⟨s, p, h3, h⟩ := key
  have g := hw.obj q _ e h3 he
  have hdl : e.dl = 0 := g.1
  have g : w.heap[e.bl]? = some (.stringIter s p) := g.2
  rw [hdl] at hc
  cases h4 : Nat.blt p s.size with
  | false =>
   rw [h4] at h
   have hp : ¬ p < s.size := fun h' => by
    have : Nat.blt p s.size = true := by simpa [Nat.blt_eq] using h'
    rw [this] at h4; cases h4
   subst h
   refine ⟨_, rfl, ?_⟩
   simp [execOp, hc, Instr.next, zah g, hp]
  | true =>
   have hp := qm h4
   cases hd : Utf8.decode s p with
   | mk c k =>
   have h8 : OR.mem (.tup [.lit (.bool true), .lit (.int .i64 p), .lit (.int .i32 c)]) (hset (.iter s (Nat.add p k)) m.hp q) m.nx = r := by
    rw [h4, hd] at h; exact h
   clear h
   subst h8
   have hput : ∀ o : Obj, (w.putObj e.bl o).heap[e.bl]? = some o := fun o => World.putObj_heap_same (Array.getElem?_eq_some_iff.1 g).1
   have hwr := hw.write (o' := .iter s (p + k)) (w' := w.putObj e.bl (.stringIter s (p + k))) h3 rfl he
    ⟨hdl, hput _⟩ (by simp [World.putObj]) (fun k hk => World.putObj_heap_other hk) rfl rfl rfl
   refine ⟨σ, _, _, Sle.refl _, rfl, .inl ?_, hwr.1, hwr.2⟩
   simp [execOp, hc, Instr.next, zah g, hp, zdQ g, goInt, hd]
def DefR (σ : Sg) (f : FuncId) (args : List AV) (d : Deferred) : Prop := ∃ a b : List Value, zA σ args = some (a ++ b) ∧ d = { target := .fn (.func f) b.toArray, args := a.toArray }
def OpsR (O : Ow) (σ : Sg) (P : Program) (w : World) (s : Sem Next) : OR → Prop
 | .no => False
 | .val v => zb4 O σ P w s (.val v)
 | .mem v hp nx => zb4 O σ P w s (.mem v hp nx)
 | .call f args => ∃ cs, zA σ args = some cs ∧ s.run P w = .ok (.enter f cs.toArray) w
 | .yld l args => ∃ e cs, σ l = some e ∧ zA σ args = some cs ∧ s.run P w = (Instr.yield e.bl cs.toArray).run P w
 | .dfr (.call f args) => ∃ d, DefR σ f args d ∧ s.run P w = .ok (.defer d) w
 | .dfr (.mark _) => False
 | .panic v => ∃ t c, zK σ v = some (.iface t c) ∧ s.run P w = .halt (.panic (.iface t c)) w
theorem OpsR.of_mem {s : Sem Next} (h : zb4 O σ P w s r) : OpsR O σ P w s r := by
 cases r <;> first | exact h | exact absurd h id
theorem OpsR.of_val {s : Sem Next} {v : AV} (h : ∃ v, r = .val v ∧ zal σ P s v) : OpsR O σ P w s r := by
 obtain ⟨v, rfl, c, h1, h2⟩ := h
 exact ⟨c, h1, h2 w⟩
theorem OpsR.of_read {s : Sem Next} (h : ∃ v, r = .val v ∧ ∃ c, zK σ v = some c ∧ s.run P w = .ok (.value c) w) : OpsR O σ P w s r := by
 obtain ⟨v, rfl, c, h1, h2⟩ := h
 exact ⟨c, h1, h2⟩
theorem OpsR.congr {s s' : Sem Next} (h : OpsR O σ P w s r) (e : s'.run P w = s.run P w) : OpsR O σ P w s' r := by
 cases r with
 | dfr a => cases a <;> first | exact absurd h id | (unfold OpsR at h ⊢; rw [e]; exact h)
 | no => exact absurd h id
 | _ => unfold OpsR at h ⊢; first | (rw [e]; exact h) | (unfold zb4 at h ⊢; rw [e]; exact h)
theorem zj2 {fn : Func} (h : fn.name = "internal/abi.NoEscape") (h' : fn.origin = "") : Extern.findNext fn = none := by
 have h1 : (Extern.allNextRows.lookup "internal/abi.NoEscape").isNone = true := by kernel_rfl
 have h2 : (Extern.allNextRows.lookup "").isNone = true := by kernel_rfl
 rw [Option.isNone_iff_eq_none] at h1 h2
 simp only [Extern.findNext, h, h', h1, h2]
 rfl
theorem zj3 {fn : Func} (h : fn.name = "internal/abi.NoEscape") : Extern.find fn = some Extern.AbiNoEscape.same := by
 have h1 : (Extern.allGenericRows.lookup "internal/abi.NoEscape").isNone = true := by kernel_rfl
 have h2 : (Extern.allTypedRows.lookup "internal/abi.NoEscape").isNone = true := by kernel_rfl
 have h3 : Extern.allRows.lookup "internal/abi.NoEscape" = some Extern.AbiNoEscape.same := by kernel_rfl
 rw [Option.isNone_iff_eq_none] at h1 h2
 simp only [Extern.find, h, h1, h2, h3]
 rfl
theorem zdp {f : FuncId} {xs : List AV} {cs : List Value} (hx : zA σ xs = some cs) (h : kN P f xs = r) (hr : r ≠ .no) : OpsR O σ P w (callFunc f cs.toArray) r := by
 unfold kN at h
 cases hf : P.funcs[f]? with
 | none => rw [hf] at h; exact absurd h.symm hr
 | some fn =>
  rw [hf] at h
  cases hb : fn.body with
  | some c =>
   have h : cond (fn.name == "runtime.NumGoroutine") .no (.call f xs) = r := by rw [← h]; simp only [hb]
   cases hn : fn.name == "runtime.NumGoroutine" with
   | true => rw [hn] at h; exact absurd h.symm hr
   | false =>
    rw [hn] at h
    subst h
    refine ⟨cs, hx, ?_⟩
    have hn' : ¬ fn.name = "runtime.NumGoroutine" := by simpa using hn
    simp [callFunc, hf, hb, hn', Sem.run, program]
  | none =>
   have h : cond (fn.name == "internal/abi.NoEscape" && fn.origin == "") (zj0 xs) (ob (zcz xs) fun vs => jt (match pv P (callFunc f vs.toArray) with | some (.value v) => some v | _ => none)) = r := by rw [← h]; simp only [hb]; rfl
   cases hne : fn.name == "internal/abi.NoEscape" && fn.origin == "" with
   | true =>
    rw [hne] at h
    have h : zj0 xs = r := h
    simp only [Bool.and_eq_true, beq_iff_eq] at hne
    unfold zj0 at h
    split at h
    ·rename_i v
     subst h
     obtain ⟨c, h1, rfl⟩ := kB hx
     refine ⟨c, h1, ?_⟩
     have := run_callFunc_extern hf (by rw [hne.1]; decide) (by rw [hb]; rfl) (zj2 hne.1 hne.2) (zj3 hne.1) #[c] w
     rw [Lib.run_noEscape] at this
     exact this
    ·exact absurd h.symm hr
   | false =>
   rw [hne] at h
   have h : (ob (zcz xs) fun vs => jt (match pv P (callFunc f vs.toArray) with | some (.value v) => some v | _ => none)) = r := h
   obtain ⟨vs, h1, h⟩ := zw h hr
   obtain ⟨v, h2, h3⟩ := yw h hr
   have e1 := (zcy (σ := σ) h1).symm.trans hx
   cases e1
   rw [h3]
   exact ⟨v, rfl, zk6 h2 w⟩
theorem zsQ {v : AV} {cv : Value} {xs : List AV} {cs : List Value} (hv : zK σ v = some cv) (hx : zA σ xs = some cs) (h : zfT P v xs = r) (hr : r ≠ .no) :
  OpsR O σ P w (do let d ← Deferred.ofValue cv cs.toArray; invoke d.target d.args) r := by
 unfold zfT at h
 split at h
 ·rename_i f a b
  simp only [zK] at hv
  cases ha : zA σ a with
  | none => rw [ha] at hv; cases hv
  | some ca =>
   cases hb : zA σ b with
   | none => rw [ha, hb] at hv; cases hv
   | some cb =>
    rw [ha, hb] at hv
    cases hv
    refine (zdp (yg (yg ha hx) hb) h hr).congr ?_
    simp [Deferred.ofValue, invoke]
 ·rename_i f a b
  have e := nQs hv
  subst e
  refine (zdp (yg (yg (kj a) hx) (kj b)) h hr).congr ?_
  have e : (a.toList ++ cs ++ b.toList).toArray = a ++ cs.toArray ++ b := Array.ext' (by simp)
  rw [e]
  simp [Deferred.ofValue, invoke]
 ·rename_i l
  subst h
  simp only [zK, Option.map_eq_some_iff] at hv
  obtain ⟨e, he, rfl⟩ := hv
  refine ⟨e, cs, he, hx, ?_⟩
  simp [Deferred.ofValue, invoke]
 ·exact absurd h.symm hr
theorem zrh {fn : Func} (h : fn.name = "internal/bytealg.MakeNoZero") (h' : fn.origin = "") : Extern.findNext fn = none := by
 have h1 : (Extern.allNextRows.lookup "internal/bytealg.MakeNoZero").isNone = true := by kernel_rfl
 have h2 : (Extern.allNextRows.lookup "").isNone = true := by kernel_rfl
 rw [Option.isNone_iff_eq_none] at h1 h2
 simp only [Extern.findNext, h, h', h1, h2]
 rfl
theorem zri {fn : Func} (h : fn.name = "internal/bytealg.MakeNoZero") : Extern.find fn = some (Extern.BytealgMakeNoZero.makeNoZero fn.params fn.resultTypes) := by
 have h1 : (Extern.allGenericRows.lookup "internal/bytealg.MakeNoZero").isNone = true := by kernel_rfl
 have h2 : Extern.allTypedRows.lookup "internal/bytealg.MakeNoZero" = some Extern.BytealgMakeNoZero.makeNoZero := by kernel_rfl
 rw [Option.isNone_iff_eq_none] at h1
 simp only [Extern.find, h, h1, h2]
 rfl
theorem zxo (hw : RelW O σ m.hp m.nx w) {f : FuncId} {t : Nat} {xs : List AV} {cs : List Value} (hf : zru P f = some t) (hx : zA σ xs = some cs) (h : nzA P t xs m = r) (hr : r ≠ .no) : zb4 O σ P w (callFunc f cs.toArray) r := by
 unfold zru at hf
 cases hfn : P.funcs[f]? with
 | none => rw [hfn] at hf; cases hf
 | some fn =>
  rw [hfn] at hf
  cases hb : fn.body with
  | some c => simp only [hb] at hf; cases hf
  | none =>
   simp only [hb] at hf
   cases hne : fn.name == "internal/bytealg.MakeNoZero" && fn.origin == "" with
   | false => rw [hne] at hf; cases hf
   | true =>
    rw [hne] at hf
    simp only [Bool.and_eq_true, beq_iff_eq] at hne
    have ht : fn.resultTypes.toList = [t] := by
     cases hl : fn.resultTypes.toList with
     | nil => rw [hl] at hf; cases hf
     | cons a l =>
      rw [hl] at hf
      cases l with
      | nil => cases hf; rfl
      | cons b l => cases hf
    have ht' : fn.resultTypes = #[t] := Array.ext' ht
    unfold nzA at h
    split at h
    ·rename_i n e hu
     cases hn : Nat.ble n 65536 with
     | false => rw [hn] at h; exact absurd h.symm hr
     | true =>
      rw [hn] at h
      have h : zde (.cells (.y e []) false) (.slc m.nx 0 n n 1) m = r := h
      unfold zde at h
      cases hlt : Nat.blt m.nx 16384 with
      | false => rw [hlt] at h; exact absurd h.symm hr
      | true =>
       rw [hlt] at h
       subst h
       have hc : cs = [.int .i64 n] := by simpa [zA, zK] using hx.symm
       subst hc
       obtain ⟨arr, h1, h2, _⟩ := Lib.run_makeNoZero (P := P) w fn.params t e hu n (by have := qZ hn; omega)
       have h3 := run_callFunc_extern hfn (by rw [hne.1]; decide) (by rw [hb]; rfl) (zrh hne.1 hne.2) (zri hne.1) #[.int .i64 n] w
       rw [ht', h1] at h3
       have hn0 := hw.fresh _ (Nat.le_refl _)
       obtain ⟨q1, q2, q3⟩ := hw.drew.drew.alloc (qm hlt) (Nat.le_succ _) (Nat.lt_succ_self _) hn0 hw.drew.drew.now (.cells (.y e []) false) (.cells arr e (0, 0)) ⟨w.heap.size, 0, arr.size - n, 1, n⟩ rfl
        ⟨arr, e, (0, 0), rfl, ⟨fun _ => rfl, fun t ht => (by cases ht; rfl), fun _ => rfl⟩, by simp; omega, fun i v hv => (by cases hv)⟩
       refine ⟨_, _, _, q2, ?_, .inl h3, q1, ((Keep.drew O w).trans (Keep.drew O _)).trans q3⟩
       have := xw (σ := xi σ m.nx ⟨w.heap.size, 0, arr.size - n, 1, n⟩) (b := m.nx) (o := 0) (n := n) (k := n) (e := ⟨w.heap.size, 0, arr.size - n, 1, n⟩) (qe _ _ _) (by simp) (.inl rfl)
       rw [this]
       simp
       omega
    ·exact absurd h.symm hr
theorem zo4 (hw : RelW O σ m.hp m.nx w) (hρ : xp σ fr ρ) {c : Call} (h : zgr c P ty fr m = r) (hr : r ≠ .no) : OpsR O σ P w (execOp ρ ⟨d, .call c, ty, pos, af, gd⟩) r := by
 unfold zgr zbm at h
 obtain ⟨cal, args, ats⟩ := c
 cases cal with
 | builtin b =>
  obtain ⟨xs, h1, h⟩ := zw h hr
  have hx := vK hρ _ _ h1
  have := zhH hw hx h hr
  refine (OpsR.of_mem this).congr ?_
  simp [execOp, resolve, invoke, map_toArray ρ args]
  rfl
 | value f =>
  obtain ⟨v, h1, h⟩ := zw h hr
  obtain ⟨xs, h2, h⟩ := zw h hr
  have plain : zfT P v xs = r → OpsR O σ P w (execOp ρ ⟨d, .call ⟨.value f, args, ats⟩, ty, pos, af, gd⟩) r := fun h => by
   refine (zsQ (hρ _ _ h1) (vK hρ _ _ h2) h hr).congr ?_
   simp [execOp, resolve, map_toArray ρ args]
  unfold zlY at h
  split at h
  ·rename_i k
   split at h
   ·rename_i t ht
    have hv := hρ _ _ h1
    simp only [zK, zA] at hv
    have hv := (nQs hv).symm
    refine (OpsR.of_mem (zxo hw ht (vK hρ _ _ h2) h hr)).congr ?_
    simp [execOp, resolve, hv, Deferred.ofValue, invoke, map_toArray ρ args]
   ·exact plain h
  ·exact plain h
 | invoke x n => exact absurd h.symm hr
theorem zmK (hρ : xp σ fr ρ) {c : Call} (h : zdi c P ty fr m = r) (hr : r ≠ .no) : OpsR O σ P w (execOp ρ ⟨d, .defer c, ty, pos, af, gd⟩) r := by
 unfold zdi zbU at h
 obtain ⟨cal, args, ats⟩ := c
 cases cal with
 | value f =>
  dsimp only at h
  split at h
  ·rename_i f' a b xs h1 h2
   subst h
   have hv := hρ _ _ h1
   have hx := vK hρ _ _ h2
   simp only [zK] at hv
   cases ha : zA σ a with
   | none => rw [ha] at hv; cases hv
   | some ca =>
    cases hb : zA σ b with
    | none => rw [ha, hb] at hv; cases hv
    | some cb =>
     rw [ha, hb] at hv
     have hv := (nQs hv).symm
     refine ⟨_, ⟨ca ++ args.toList.map ρ, cb, yg (yg ha hx) hb, rfl⟩, ?_⟩
     simp [execOp, resolve, hv, Deferred.ofValue, map_toArray ρ args]
  ·exact absurd h.symm hr
 | _ => exact absurd h.symm hr
theorem zmJ (hρ : xp σ fr ρ) {x : Operand} (h : zkf x P ty fr m = r) (hr : r ≠ .no) : OpsR O σ P w (execOp ρ ⟨d, .panic x, ty, pos, af, gd⟩) r := by
 obtain ⟨v, h1, h⟩ := zw h hr
 have hv := hρ _ _ h1
 unfold zod at h
 split at h
 ·rename_i t u
  subst h
  simp only [zK, Option.map_eq_some_iff] at hv
  obtain ⟨c, h2, h3⟩ := hv
  refine ⟨t, c, by simp only [zK, h2, Option.map_some], ?_⟩
  simp [execOp, ← h3, Instr.panic, goPanic, Sem.run, Result.andThen]
 ·exact absurd h.symm hr
theorem zeI (hw : RelW O σ m.hp m.nx w) (hρ : xp σ fr ρ) (o : Oper) (h : yh o.op P o.type fr m = r) (hr : r ≠ .no) : OpsR O σ P w (execOp ρ o) r := by
 obtain ⟨d, op, ty, pos, af, gd⟩ := o
 cases op with
 | move x =>
  obtain ⟨v, rfl, h2⟩ := zcA (m := m) (ty := ty) (P := P) hρ h hr
  exact ⟨_, h2, rfl⟩
 | assign x =>
  obtain ⟨v, rfl, h2⟩ := zcA (m := m) (ty := ty) (P := P) hρ h hr
  exact ⟨_, h2, rfl⟩
 | pick c x y => exact OpsR.of_val (v := .yld 0) (ziw (m := m) hρ h hr)
 | alloc t => exact OpsR.of_mem ((zgt (m := m) (fr := fr) h hr).mem hw)
 | box t x => exact OpsR.of_mem ((zlr (m := m) hρ h hr).mem hw)
 | build t ps => exact OpsR.of_val (v := .yld 0) (zgs (m := m) hρ h hr)
 | buildSlice t n ps => exact OpsR.of_mem ((zaH (m := m) hρ h hr).mem hw)
 | entryStore t x y z => exact absurd h.symm hr
 | load t x => exact OpsR.of_read (zoZ (m := m) hw hρ h hr)
 | store t x y => exact OpsR.of_mem (zmI (m := m) hw hρ h hr)
 | nilCheck x => exact OpsR.of_val (v := .yld 0) (zlp (m := m) hρ h hr)
 | binOp op t x y t2 => exact OpsR.of_val (v := .yld 0) (zls (m := m) hρ h hr)
 | unOp op t x => exact OpsR.of_val (v := .yld 0) (zoV (m := m) hρ h hr)
 | convert s t x => exact OpsR.of_read (zo2 (m := m) hw hρ h hr)
 | makeInterface t x => exact OpsR.of_val (v := .yld 0) (zgo (m := m) hρ h hr)
 | makeFunc f a b => exact OpsR.of_val (v := .yld 0) (zcB (m := m) hρ h hr)
 | makeMap t x => exact OpsR.of_mem ((zdI (m := m) (fr := fr) h hr).mem hw)
 | makeSlice t x y => exact OpsR.of_mem ((zbC (m := m) hρ h hr).mem hw)
 | slice t x lo hi mx => exact OpsR.of_val (v := .yld 0) (zgl (m := m) hρ h hr)
 | fieldAddr t x i => exact OpsR.of_val (v := .yld 0) (zbD (m := m) hρ h hr)
 | field t x i => exact OpsR.of_val (v := .yld 0) (zgq (m := m) hρ h hr)
 | indexAddr t x i => exact OpsR.of_val (v := .yld 0) (ziy (m := m) hρ h hr)
 | index t x i => exact OpsR.of_val (v := .yld 0) (zgp (m := m) hρ h hr)
 | lookup t x i ok => exact OpsR.of_read (zkh (m := m) hw hρ h hr)
 | mapUpdate t x k v =>
  have := OpsR.of_mem (ze1 (m := m) (ty := ty) hw hρ h hr)
  exact this
 | insert t x k v =>
  have := OpsR.of_mem (ze1 (m := m) (ty := ty) hw hρ h hr)
  exact this
 | range t x => exact OpsR.of_mem ((zgm (m := m) hρ h hr).mem hw)
 | next x b => exact OpsR.of_mem (zoX (m := m) hw hρ h hr)
 | typeAssert x t0 t ok => exact OpsR.of_val (v := .yld 0) (zoW (m := m) hρ h hr)
 | extract x i => exact OpsR.of_val (v := .yld 0) (zdJ (m := m) hρ h hr)
 | call c => exact zo4 hw hρ h hr
 | defer c => exact zmK (m := m) hρ h hr
 | panic x => exact zmJ (m := m) hρ h hr
 | _ => exact absurd h.symm hr
end
end Go.Proofs.YtihedfkcccaonaaGreatDoor.Ev
