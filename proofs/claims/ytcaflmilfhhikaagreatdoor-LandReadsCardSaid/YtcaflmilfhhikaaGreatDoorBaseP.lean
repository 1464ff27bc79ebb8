/-
  Bytes of a text are appended; pointers compared; a block of a known size.
-/
import Derived.Test.YtcaflmilfhhikaaGreatDoorBaseO
import Derived.Lib.Builder
import Derived.Lib.UnsafeStr
namespace Go.Proofs.YtcaflmilfhhikaaGreatDoor
open Go.RowKit
set_option linter.unusedVariables false

section
variable {κ : Ctx} {p : List PanicEntry → Fr → World → Prop} {P : Program} {w : World}
theorem run_appG {T e sz bytes B : Nat} (hT : slB P T = some (e, sz, bytes)) {v : Value} {n : Nat} {xs : List Value} (hown : ORow w B e sz v n xs) (hsl : ∃ a q c, v = .slice a q c) (hB : B ≤ w.heap.size) {tx : TypeId} {x : Value} {m : Nat} {news : List Value}
    (hs : Src P sz tx x m news w) (h63 : n + m ≤ maxLen) (hbytes : (n + m) * bytes ≤ 140737488355328) (ty : TypeId) :
    ∃ v' w', (Builtin.append_ #[T, tx] ty #[v, x]).run P w = .ok v' w' ∧ ORow w' B e sz v' (n + m) (xs ++ news) ∧ w.grownBy w' (blkOf v) ∧ (∀ g, blkOf v' = some g → blkOf v = some g ∨ w.heap.size ≤ g) ∧ ∃ a c', v' = .slice a (n + m) c' := by
  obtain ⟨ht, i, z, hi, hz, rfl, rfl, hzs, hsz⟩ := slB_spec hT
  have hl := hs.newsLen
  have hsmall : n + m ≤ 9223372036854775807 := by simp only [maxLen] at h63; omega
  have hlen : (xs ++ news).length = (n + m) * i.size := by rw [List.length_append, hown.1, hl, Nat.add_mul]
  have grown : ∀ (old : Nat), old < n + m → ∀ (row : Option Nat),
      ORow (w.drew.alloc (.cells (xs.toArray ++ news.toArray ++ Builtin.zeroCells z.cells (grownCap w (n + m) old e - (n + m))) e)) B e i.size
        (.slice (some ⟨w.heap.size, 0, none⟩) (n + m) (grownCap w (n + m) old e)) (n + m) (xs ++ news) ∧
      w.grownBy (w.drew.alloc (.cells (xs.toArray ++ news.toArray ++ Builtin.zeroCells z.cells (grownCap w (n + m) old e - (n + m))) e)) row := by
    intro old _ row
    have hge := grownCap_ge w (n + m) old e
    have hcm : grownCap w (n + m) old e ≤ maxLen := grownCap_le_maxLen w (n + m) old e h63
    refine ⟨⟨hlen, .inr (.inl ⟨w.heap.size, 0, _, _, rfl, hB, Go.heap_alloc_new w.drew _, hge, hcm, ?_, ?_⟩)⟩, ⟨rfl, rfl, rfl, by simp, fun k hk _ => Below.heap_alloc w.drew _ k hk⟩⟩
    · refine Nat.le_of_eq ?_
      simp only [Array.size_append, List.size_toArray, size_zeroCells, hzs, hown.1, hl, ← Nat.add_mul, Nat.zero_add]
      congr 1
      omega
    · simp only [Array.toList_append, List.append_assoc, List.drop_zero]
      rw [← List.append_assoc, ← hlen]
      exact List.take_left
  rcases hown.2 with ⟨rfl, rfl⟩ | ⟨g, o₀, cap, cur, rfl, hbg, hg, hnc, hcm, hcs, htake⟩ | ⟨_, rfl, _⟩
  · have hx : xs = [] := List.eq_nil_of_length_eq_zero (by simpa using hown.1)
    subst hx
    by_cases hm : m = 0
    · subst hm
      have hn : news = [] := List.eq_nil_of_length_eq_zero (by simpa using hl)
      subst hn
      refine ⟨.slice none 0 0, w, ?_, by simpa using hown, World.grownBy.refl _ _, fun g hg => .inl hg, _, _, rfl⟩
      rcases hs.kind with ⟨e', hk⟩ | hk <;> simp [Builtin.append_, run_underlying ht, run_underlying hk, sizeOf, typeInfo, hi, hs.len, hs.cells]
    · have hold : (Builtin.firstCells i.size 0 (.slice none 0 0)).run P w.drew = .ok ([] : List Value).toArray w.drew := run_firstCells_none w.drew i.size 0 0 0
      have hr := run_append_grow_src (P := P) w T tx ty e i z ht hi hz none 0 0 [] hold x m news hs (by omega) (by omega) (growslice_fits (by omega) (by simpa using hbytes))
      have hgr := grown 0 (by omega) (blkOf (.slice none 0 0))
      simp only [Nat.zero_add, List.nil_append, List.append_toArray] at hr hgr ⊢
      exact ⟨_, _, hr, hgr.1, hgr.2, fun g hg => .inr (by simp [blkOf] at hg; omega), _, _, rfl⟩
  · by_cases hroom : n + m ≤ cap
    · have hfit : o₀ + (n * i.size + news.length) ≤ cur.size := by
        have : n * i.size + news.length ≤ cap * i.size := by rw [hl, ← Nat.add_mul]; exact Nat.mul_le_mul_right _ hroom
        omega
      have hst := run_storeCells_at P g (o₀ + n * i.size) e news 0 cur w hg (by omega) hs.one
      simp only [Nat.add_zero] at hst
      have hr : (Builtin.append_ #[T, tx] ty #[.slice (some ⟨g, o₀, none⟩) n cap, x]).run P w = .ok (.slice (some ⟨g, o₀, none⟩) (n + m) cap) (w.setRow g (cur.toList.take (o₀ + n * i.size) ++ news ++ cur.toList.drop (o₀ + n * i.size + news.length)).toArray) := by
        rcases hs.kind with ⟨e', hk⟩ | hk <;> simp [Builtin.append_, run_underlying ht, run_underlying hk, sizeOf, typeInfo, hi, hs.len, hroom, hs.cells, Addr.add_lit, hst]
      refine ⟨_, _, hr, ⟨hlen, .inr (.inl ⟨g, o₀, cap, _, rfl, hbg, setRow_heap w g cur _ e _ hg, hroom, hcm, ?_, ?_⟩)⟩, ⟨rfl, rfl, rfl, by simp, fun k _ hk => setRow_other w g k _ (fun e => hk (by simp [blkOf, e]))⟩, fun g' hg' => .inl hg', _, _, rfl⟩
      · simp only [List.size_toArray, List.length_append, List.length_take, List.length_drop, Array.length_toList]
        omega
      · rw [← hlen]
        have hxl : xs.length = n * i.size := hown.1
        rw [← hxl] at htake hfit ⊢
        exact take_drop_app _ _ _ _ htake (by rw [Array.length_toList]; omega)
    · have holds : (Builtin.firstCells i.size n (.slice (some ⟨g, o₀, none⟩) n cap)).run P w.drew = .ok xs.toArray w.drew :=
        run_firstCells_some w.drew i.size n ⟨g, o₀, none⟩ n cap xs hown.1 (fun j u hj => by rw [add_addr]; exact hown.cells hj)
      have hr := run_append_grow_src (P := P) w T tx ty e i z ht hi hz (some ⟨g, o₀, none⟩) n cap xs holds x m news hs (by omega) (by omega) (growslice_fits (by omega) hbytes)
      have hgr := grown cap (by omega) (blkOf (.slice (some ⟨g, o₀, none⟩) n cap))
      simp only [List.append_toArray] at hr hgr ⊢
      exact ⟨_, _, hr, hgr.1, hgr.2, fun g' hg' => .inr (by simp [blkOf] at hg'; omega), _, _, rfl⟩
  · obtain ⟨_, _, _, h⟩ := hsl; cases h
end
theorem rd_u8 {G : Gm} (s : List UInt8) : Rd RU8 1 G (s.map fun b => Value.int .u8 (b.toNat : Int)) s := by
  refine ⟨by simp, fun i x hx => ⟨[.int .u8 (x.toNat : Int)], rfl, fun j u hj => ?_, rfl⟩⟩
  cases j with
  | zero => simp at hj; subst hj; simp [hx]
  | succ j => simp at hj
theorem u8_rd {G : Gm} {cells : List Value} {s : List UInt8} (h : Rd RU8 1 G cells s) : cells = s.map fun b => Value.int .u8 (b.toNat : Int) := by
  refine List.ext_getElem? fun i => ?_
  cases hx : s[i]? with
  | none =>
    have : s.length ≤ i := List.getElem?_eq_none_iff.1 hx
    rw [List.getElem?_eq_none (by rw [h.1]; omega), List.getElem?_eq_none (by simp; omega)]
  | some x =>
    obtain ⟨cs, h1, h2, h3⟩ := h.2 i x hx
    have h3 : cs = [.int .u8 (x.toNat : Int)] := h3
    subst h3
    have := h2 0 _ rfl
    simp only [Nat.mul_one, Nat.add_zero] at this
    rw [this]
    simp [hx]
section
variable {κ : Ctx} {p : List PanicEntry → Fr → World → Prop} {P : Program} {N : Nat} {F : Fr} {w : World} {K : Fr → World → Prop} {d : Nat} {ty : TypeId} {pos : String} {af : Array Edge} {gd : Option (Nat × Bool)} {G G0 : Gm} {w0 : World} {B : Nat} {L : List Row}
/-- A text is appended to bytes of the call's own. -/
theorem OpP_appendS {k e n n' cp T tx bytes : Nat} {ao : Option Addr} {X Y : Operand} {ats : Array TypeId} {cells : List Value} {xs zs s : List UInt8}
    (hT : slB P T = some (e, 1, bytes)) (htx : P.underlying tx = some .string) (hS : Since B G0 w0 G w) (hO : Owns G w B L) (hk : L[k]? = some ⟨e, 1, n', .slice ao n cp, cells⟩) (hn : n' = xs.length) (hrd : Rd RU8 1 G cells xs) (hz : catS xs s = some zs)
    (hat : ats = #[T, tx]) (hX : ev F X = .slice ao n cp) (hY : ev F Y = .string ⟨s.toArray⟩) (hd : Nat.blt d N = true) (hby : Nat.ble bytes 65536 = true)
    (h : ∀ a cp' w' cells', Since B G0 w0 G w' → Owns G w' B (L.set k ⟨e, 1, zs.length, .slice a zs.length cp', cells'⟩) → Rd RU8 1 G cells' zs → K (upd F d (.slice a zs.length cp')) w') :
    OpP κ P N p ⟨some d, .call { callee := .builtin .append, args := #[X, Y], argTypes := ats }, ty, pos, af, gd⟩ F w K := by
  obtain ⟨hlim, rfl⟩ := catS_some hz
  subst hat
  subst hn
  have hc := hO.each _ (List.mem_of_getElem? hk)
  have hby' := Nat.le_of_ble_eq_true hby
  have hbig : (xs.length + s.length) * bytes ≤ 140737488355328 := by
    have h1 : (xs.length + s.length) * bytes ≤ 1073741824 * 65536 := Nat.mul_le_mul (by omega) hby'
    omega
  have hsrc : Src P 1 tx (.string ⟨s.toArray⟩) s.length (s.map fun b => Value.int .u8 (b.toNat : Int)) w := by
    have := Src.ofString (P := P) w htx ⟨s.toArray⟩
    have e2 : byteCells ⟨s.toArray⟩ = s.map fun b => Value.int .u8 (b.toNat : Int) := by simp [byteCells]
    rw [e2] at this
    exact this
  obtain ⟨v', w', hrun, q1, q2, q3, a, c', rfl⟩ := run_appG (P := P) hT (hc.1 : ORow w B e 1 (.slice ao n cp) xs.length cells) ⟨_, _, _, rfl⟩ hO.base hsrc (by simp only [maxLen]; omega) hbig ty
  have hlen : (xs ++ s).length = xs.length + s.length := List.length_append
  have hdiff : ∀ b, b < w.heap.size → blkOf (Value.slice ao n cp) ≠ some b → w'.heap[b]? = w.heap[b]? := fun b hb hne => q2.block b hb (fun e => hne e.symm)
  have hsat : Sat G w' := sat_write hS.sat hc hdiff
  have hbel : Below B w w' := ⟨q2.os, q2.tape, q2.output, q2.size, fun b hb => hdiff b (Nat.lt_of_lt_of_le hb hO.base) (fun e => by have := (hc.lt e).1; omega)⟩
  refine OpP_eff (v := .slice a (xs.length + s.length) c') (w' := w') ?_ hd (keeps_row hc q2.size hdiff) ?_
  · simp only [execOp, resolve, invoke, builtin, Sem.run_bind, Sem.run_pure, Result.andThen_ok, List.map_toArray, List.map_cons, List.map_nil, hX, hY, hrun]
  · rw [← hlen]
    rw [← hlen] at q1 q3
    refine h a c' w' (cells ++ s.map fun b => Value.int .u8 (b.toNat : Int)) (hS.write hsat hbel) (hO.write hk q2.size hdiff ⟨q1, fun g hg => ?_⟩ q3) (hrd.append (rd_u8 s))
    rcases q3 g hg with h' | h'
    · exact hc.2 g h'
    · cases hG : G g with
      | none => rfl
      | some o => exact absurd (hS.sat.lt hG) (by omega)
/-! ### A struct of two cells, of which the size is known -/
def bx (T b : Nat) (p v : Value) : Row := ⟨T, 3, 1, .map (some b), [p, v, .bool false]⟩
theorem bx_heap {k T b : Nat} {u v : Value} (hO : Owns G w B L) (hk : L[k]? = some (bx T b u v)) : w.heap[b]? = some (.cells #[u, v] T (0, 0)) := own_obj hO hk
theorem bx_cell0 {k T b : Nat} {u v : Value} (hO : Owns G w B L) (hk : L[k]? = some (bx T b u v)) : w.cell? ⟨b, 0, none⟩ = some u := by simp [World.cell?, bx_heap hO hk]
theorem bx_cell1 {k T b : Nat} {u v : Value} (hO : Owns G w B L) (hk : L[k]? = some (bx T b u v)) : w.cell? ⟨b, 1, none⟩ = some v := by simp [World.cell?, bx_heap hO hk]
theorem OpP_newBx {op : Op} {v : Nat → Value} {u1 u2 : Value} {e : TypeId} (hrun : (execOp (ev F) ⟨some d, op, ty, pos, af, gd⟩).run P w = .ok (.value (v w.heap.size)) (w.alloc (.cells #[u1, u2] e))) (hS : Since B G0 w0 G w) (hO : Owns G w B L) (hd : Nat.blt d N = true)
    (h : ∀ b w', Since B G0 w0 G w' → Owns G w' B (bx e b u1 u2 :: L) → K (upd F d (v b)) w') : OpP κ P N p ⟨some d, op, ty, pos, af, gd⟩ F w K :=
  OpP_eff hrun hd (.alloc _ _) (h _ _ (hS.keep ((Below.refl _ w).alloc (Nat.le_refl _) _)) (hO.newObj hS.sat e 3 1 [u1, u2, .bool false] rfl))
/-- A store into the first cell, or the second one. -/
theorem OpP_bx0 {k T b : Nat} {t : TypeId} {X Y : Operand} {u v y : Value} (hT : szB P t = some 1) (hS : Since B G0 w0 G w) (hO : Owns G w B L) (hk : L[k]? = some (bx T b u v)) (hX : ev F X = .pointer (some ⟨b, 0, none⟩)) (hY : ev F Y = y) (hy : y.cells = #[y]) (h1 : y.oneCell' = true)
    (h : ∀ w', Since B G0 w0 G w' → Owns G w' B (L.set k (bx T b y v)) → K F w') : OpP κ P N p ⟨none, .store t X Y, ty, pos, af, gd⟩ F w K := by
  obtain ⟨i, hi, hi1⟩ := Option.map_eq_some_iff.1 hT
  have hg := bx_heap hO hk
  have hst := run_storeCells_at P b 0 T [y] 0 #[u, v] w hg (by simp) (by simpa using h1)
  obtain ⟨q1, q2, q3⟩ := own_turn (X' := κ.ex) (n' := 1) (xs := [y, v, .bool false]) (w' := w.setRow b #[y, v]) hS hO hk rfl rfl rfl rfl (by simp) (fun c hc => setRow_other w b c _ hc) (setRow_heap w b _ _ T _ hg)
  refine OpP_unit (w' := w.setRow b #[y, v]) ?_ q3 (h _ q1 q2)
  have hst' : (storeCells ⟨b, 0, none⟩ [y]).run P w = .ok () (w.setRow b #[y, v]) := by simpa using hst
  simp [execOp, hX, hY, Instr.storeAt, Instr.sureAddr, storeVar, sizeOf, typeInfo, hi, hi1, hy]
  rw [hst']
  rfl
theorem OpP_bx1 {k T b : Nat} {t : TypeId} {X Y : Operand} {u v y : Value} (hT : szB P t = some 1) (hS : Since B G0 w0 G w) (hO : Owns G w B L) (hk : L[k]? = some (bx T b u v)) (hX : ev F X = .pointer (some ⟨b, 1, none⟩)) (hY : ev F Y = y) (hy : y.cells = #[y]) (h1 : y.oneCell' = true)
    (h : ∀ w', Since B G0 w0 G w' → Owns G w' B (L.set k (bx T b u y)) → K F w') : OpP κ P N p ⟨none, .store t X Y, ty, pos, af, gd⟩ F w K := by
  obtain ⟨i, hi, hi1⟩ := Option.map_eq_some_iff.1 hT
  have hg := bx_heap hO hk
  have hst := run_storeCells_at P b 1 T [y] 0 #[u, v] w hg (by simp) (by simpa using h1)
  obtain ⟨q1, q2, q3⟩ := own_turn (X' := κ.ex) (n' := 1) (xs := [u, y, .bool false]) (w' := w.setRow b #[u, y]) hS hO hk rfl rfl rfl rfl (by simp) (fun c hc => setRow_other w b c _ hc) (setRow_heap w b _ _ T _ hg)
  refine OpP_unit (w' := w.setRow b #[u, y]) ?_ q3 (h _ q1 q2)
  have hst' : (storeCells ⟨b, 1, none⟩ [y]).run P w = .ok () (w.setRow b #[u, y]) := by simpa using hst
  simp [execOp, hX, hY, Instr.storeAt, Instr.sureAddr, storeVar, sizeOf, typeInfo, hi, hi1, hy]
  rw [hst']
  rfl
end
end Go.Proofs.YtcaflmilfhhikaaGreatDoor
