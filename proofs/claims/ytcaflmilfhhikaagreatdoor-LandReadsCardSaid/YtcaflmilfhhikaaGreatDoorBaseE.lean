/-
  Appends and stores into rows of the call's own.
-/
import Derived.Test.YtcaflmilfhhikaaGreatDoorBaseD
import Derived.Deep.AppendSrc
namespace Go.Proofs.YtcaflmilfhhikaaGreatDoor
open Go.RowKit

theorem take_drop_app (cur xs news : List Value) (o : Nat) (hx : (cur.drop o).take xs.length = xs) (hfit : o + (xs.length + news.length) ≤ cur.length) :
    ((cur.take (o + xs.length) ++ news ++ cur.drop (o + xs.length + news.length)).drop o).take (xs ++ news).length = xs ++ news := by
  have hA : (cur.take o).length = o := by rw [List.length_take]; omega
  rw [List.take_add, hx, List.append_assoc, List.append_assoc, List.drop_left' hA, ← List.append_assoc]
  exact List.take_left
theorem take_drop_splice (cur cells vs : List Value) (o off : Nat) (hx : (cur.drop o).take cells.length = cells) (hfit : off + vs.length ≤ cells.length) (hc : o + cells.length ≤ cur.length) :
    ((cur.take (o + off) ++ vs ++ cur.drop (o + off + vs.length)).drop o).take cells.length = cells.take off ++ vs ++ cells.drop (off + vs.length) := by
  have hA : (cur.take o).length = o := by rw [List.length_take]; omega
  have h1 : (cur.drop o).take off = cells.take off := by rw [← hx, List.take_take]; congr 1; omega
  have h2 : (cur.drop (o + off + vs.length)).take (cells.length - (off + vs.length)) = cells.drop (off + vs.length) := by
    rw [← hx, List.drop_take, List.drop_drop, List.length_take, List.length_drop]
    congr 1
    · omega
    · congr 1; omega
  have h3 : (cells.take off ++ vs).length = off + vs.length := by rw [List.length_append, List.length_take]; omega
  rw [List.take_add, h1, List.append_assoc, List.append_assoc, List.drop_left' hA, ← List.append_assoc, List.take_append, h3, h2]
  congr 1
  rw [List.take_of_length_le]
  omega
section
variable {κ : Ctx} {p : List PanicEntry → Fr → World → Prop} {P : Program} {w : World}
theorem run_app {T e sz bytes B : Nat} (hT : slB P T = some (e, sz, bytes)) {v : Value} {n : Nat} {xs : List Value} (hown : ORow w B e sz v n xs) (hsl : ∃ a q c, v = .slice a q c) (hB : B ≤ w.heap.size) {ad : Option Addr} {m c : Nat} {news : List Value}
    (hl : news.length = m * sz) (hsrc : ∀ a, ad = some a → ∀ j u, news[j]? = some u → w.cell? (a.add j) = some u) (hnone : ad = none → m = 0) (h1 : ∀ u ∈ news, u.oneCell' = true) (h63 : n + m ≤ maxLen) (hbytes : (n + m) * bytes ≤ 140737488355328) (ty : TypeId) :
    ∃ v' w', (Builtin.append_ #[T, T] ty #[v, .slice ad m c]).run P w = .ok v' w' ∧ ORow w' B e sz v' (n + m) (xs ++ news) ∧ w.grownBy w' (blkOf v) ∧ (∀ g, blkOf v' = some g → blkOf v = some g ∨ w.heap.size ≤ g) ∧ ∃ a c', v' = .slice a (n + m) c' := by
  obtain ⟨ht, i, z, hi, hz, rfl, rfl, hzs, hsz⟩ := slB_spec hT
  cases ad with
  | none =>
    have hm := hnone rfl
    subst hm
    have hn : news = [] := List.eq_nil_of_length_eq_zero (by simpa using hl)
    subst hn
    rcases hown.2 with ⟨rfl, rfl⟩ | ⟨g, o₀, cap, cur, rfl, hbg, hg, hnc, hcm, hcs, htake⟩ | ⟨_, rfl, _⟩
    · refine ⟨.slice none 0 0, w, ?_, by simpa using hown, World.grownBy.refl _ _, fun g hg => .inl hg, _, _, rfl⟩
      simp [Builtin.append_, run_underlying ht, sizeOf, typeInfo, hi, Builtin.lenOf, Builtin.firstCells]
    · refine ⟨.slice (some ⟨g, o₀, none⟩) n cap, w, ?_, by simpa using hown, World.grownBy.refl _ _, fun g hg => .inl hg, _, _, rfl⟩
      simp [Builtin.append_, run_underlying ht, sizeOf, typeInfo, hi, Builtin.lenOf, Builtin.firstCells, hnc, storeCells]
    · obtain ⟨_, _, _, h⟩ := hsl; cases h
  | some a =>
    have hnews := hsrc a rfl
    have hlen : (xs ++ news).length = (n + m) * i.size := by rw [List.length_append, hown.1, hl, Nat.add_mul]
    have grown : ∀ (old : Nat), old < n + m → ∀ (row : Option Nat),
        ORow (w.drew.alloc (.cells (xs.toArray ++ news.toArray ++ Builtin.zeroCells z.cells (grownCap w (n + m) old e - (n + m))) e)) B e i.size
          (.slice (some ⟨w.heap.size, 0, none⟩) (n + m) (grownCap w (n + m) old e)) (n + m) (xs ++ news) ∧
        w.grownBy (w.drew.alloc (.cells (xs.toArray ++ news.toArray ++ Builtin.zeroCells z.cells (grownCap w (n + m) old e - (n + m))) e)) row := by
      intro old _ row
      have hge := grownCap_ge w (n + m) old e
      have hcm : grownCap w (n + m) old e ≤ maxLen := grownCap_le_maxLen w (n + m) old e h63
      refine ⟨⟨hlen, .inr (.inl ⟨w.heap.size, 0, _, _, rfl, hB, Go.heap_alloc_new w.drew _, hge, hcm, ?_, ?_⟩)⟩, ⟨rfl, rfl, rfl, by simp, fun k hk _ => Below.heap_alloc w.drew _ k hk⟩⟩
      · refine Nat.le_of_eq ?_
        simp only [Array.size_append, List.size_toArray, size_zeroCells, hzs, hown.1, hl, ← Nat.add_mul, Nat.zero_add]
        congr 1
        omega
      · simp only [Array.toList_append, List.append_assoc, List.drop_zero]
        rw [← List.append_assoc, ← hlen]
        exact List.take_left
    have hsmall : n + m ≤ 9223372036854775807 := by simp only [maxLen] at h63; omega
    rcases hown.2 with ⟨rfl, rfl⟩ | ⟨g, o₀, cap, cur, rfl, hbg, hg, hnc, hcm, hcs, htake⟩ | ⟨_, rfl, _⟩
    · have hx : xs = [] := List.eq_nil_of_length_eq_zero (by simpa using hown.1)
      subst hx
      by_cases hm : m = 0
      · subst hm
        have hn : news = [] := List.eq_nil_of_length_eq_zero (by simpa using hl)
        subst hn
        refine ⟨.slice none 0 0, w, ?_, by simpa using hown, World.grownBy.refl _ _, fun g hg => .inl hg, _, _, rfl⟩
        simp [Builtin.append_, run_underlying ht, sizeOf, typeInfo, hi, Builtin.lenOf, Builtin.firstCells, loadCells, loadCellsFrom]
      · have hr := run_append_nil (P := P) w T ty e i z ht hi hz a m c news hl hnews (by omega) (by omega) (by have hb := hbytes; simp only [Nat.zero_add] at hb; omega)
        have hgr := grown 0 (by omega) (blkOf (.slice none 0 0))
        simp only [Nat.zero_add, List.nil_append, Array.empty_append] at hgr ⊢
        exact ⟨_, _, hr, hgr.1, hgr.2, fun g hg => .inr (by simp [blkOf] at hg; omega), _, _, rfl⟩
    · by_cases hroom : n + m ≤ cap
      · have hfit : o₀ + (n * i.size + news.length) ≤ cur.size := by
          have : n * i.size + news.length ≤ cap * i.size := by rw [hl, ← Nat.add_mul]; exact Nat.mul_le_mul_right _ hroom
          omega
        have hst := run_storeCells_at P g (o₀ + n * i.size) e news 0 cur w hg (by omega) h1
        simp only [Nat.add_zero] at hst
        have hs := Src.ofSlice (P := P) w ht a m c news hl hnews h1
        have hr : (Builtin.append_ #[T, T] ty #[.slice (some ⟨g, o₀, none⟩) n cap, .slice (some a) m c]).run P w = .ok (.slice (some ⟨g, o₀, none⟩) (n + m) cap) (w.setRow g (cur.toList.take (o₀ + n * i.size) ++ news ++ cur.toList.drop (o₀ + n * i.size + news.length)).toArray) := by
          simp [Builtin.append_, run_underlying ht, sizeOf, typeInfo, hi, hs.len, hroom, hs.cells, Addr.add_lit, hst]
        refine ⟨_, _, hr, ⟨hlen, .inr (.inl ⟨g, o₀, cap, _, rfl, hbg, setRow_heap w g cur _ e _ hg, hroom, hcm, ?_, ?_⟩)⟩, ⟨rfl, rfl, rfl, by simp, fun k _ hk => setRow_other w g k _ (fun e => hk (by simp [blkOf, e]))⟩, fun g' hg' => .inl hg', _, _, rfl⟩
        · simp only [List.size_toArray, List.length_append, List.length_take, List.length_drop, Array.length_toList]
          omega
        · rw [← hlen]
          have hxl : xs.length = n * i.size := hown.1
          rw [← hxl] at htake hfit ⊢
          exact take_drop_app _ _ _ _ htake (by rw [Array.length_toList]; omega)
      · have holds : ∀ j u, xs[j]? = some u → w.cell? ((⟨g, o₀, none⟩ : Addr).add j) = some u := fun j u hj => by rw [add_addr]; exact hown.cells hj
        have hr := run_append_grow (P := P) w T ty e i z ht hi hz ⟨g, o₀, none⟩ n cap xs hown.1 holds a m c news hl hnews (by omega) (by omega) (growslice_fits (by omega) hbytes)
        have hgr := grown cap (by omega) (blkOf (.slice (some ⟨g, o₀, none⟩) n cap))
        exact ⟨_, _, hr, hgr.1, hgr.2, fun g' hg' => .inr (by simp [blkOf] at hg'; omega), _, _, rfl⟩
    · obtain ⟨_, _, _, h⟩ := hsl; cases h
end
/-- 'append', as lists: up to some length. -/
def app {α : Type} (xs ys : List α) : Option (List α) := if xs.length + ys.length ≤ 1073741824 then some (xs ++ ys) else none
theorem app_some {α : Type} {xs ys zs : List α} (h : app xs ys = some zs) : xs.length + ys.length ≤ 1073741824 ∧ zs = xs ++ ys := by
  unfold app at h
  split at h
  · exact ⟨‹_›, (Option.some.inj h).symm⟩
  · cases h
section
variable {κ : Ctx} {p : List PanicEntry → Fr → World → Prop} {P : Program} {N : Nat} {F : Fr} {w : World} {K : Fr → World → Prop} {d : Nat} {ty : TypeId} {pos : String} {af : Array Edge} {gd : Option (Nat × Bool)} {G G0 : Gm} {w0 : World} {B : Nat} {L : List Row}
theorem OpP_append {α : Type} {R : Gm → List Value → α → Prop} {k e sz n n' cp m c T : Nat} {bytes : Nat} {ad ao : Option Addr} {X Y : Operand} {ats : Array TypeId} {cells : List Value} {xs ys zs : List α}
    (hT : slB P T = some (e, sz, bytes)) (hone : One R) (hS : Since B G0 w0 G w) (hO : Owns G w B L) (hk : L[k]? = some ⟨e, sz, n', .slice ao n cp, cells⟩) (hn : n' = xs.length) (hrd : Rd R sz G cells xs) (hs : RSl R sz G ad m c ys) (hz : app xs ys = some zs)
    (hat : ats = #[T, T]) (hX : ev F X = .slice ao n cp) (hY : ev F Y = .slice ad m c) (hd : Nat.blt d N = true) (hby : Nat.ble bytes 65536 = true)
    (h : ∀ a cp' w' cells', Since B G0 w0 G w' → Owns G w' B (L.set k ⟨e, sz, zs.length, .slice a zs.length cp', cells'⟩) → Rd R sz G cells' zs → K (upd F d (.slice a zs.length cp')) w') :
    OpP κ P N p ⟨some d, .call { callee := .builtin .append, args := #[X, Y], argTypes := ats }, ty, pos, af, gd⟩ F w K := by
  obtain ⟨hlim, rfl⟩ := app_some hz
  subst hat
  subst hn
  obtain ⟨news, p1, p2, p3, p4⟩ := hs.cells hone
  have hm : m = ys.length := hs.1
  have hc := hO.each _ (List.mem_of_getElem? hk)
  have hby' := Nat.le_of_ble_eq_true hby
  have hbig : (xs.length + m) * bytes ≤ 140737488355328 := by
    have h1 : (xs.length + m) * bytes ≤ 1073741824 * 65536 := Nat.mul_le_mul (by omega) hby'
    omega
  have hrow : ORow w B e sz (.slice ao n cp) xs.length cells := hc.1
  obtain ⟨v', w', hrun, q1, q2, q3, a, c', rfl⟩ := run_app (P := P) hT (hc.1 : ORow w B e sz (.slice ao n cp) xs.length cells) ⟨_, _, _, rfl⟩ hO.base (ad := ad) (m := m) (c := c) p1 (fun a ha j u hj => hS.sat.cell (p4 a ha j u hj)) (fun h0 => by
    cases hys : ys with
    | nil => rw [hm, hys]; rfl
    | cons y ys' =>
      obtain ⟨b, off, cs, e1, _⟩ := hs.2.2 0 y (by rw [hys]; rfl)
      rw [h0] at e1
      cases e1) p3 (by simp only [maxLen]; omega) hbig ty
  have hlen : (xs ++ ys).length = xs.length + m := by rw [List.length_append, hm]
  have hdiff : ∀ b, b < w.heap.size → blkOf (Value.slice ao n cp) ≠ some b → w'.heap[b]? = w.heap[b]? := fun b hb hne => q2.block b hb (fun e => hne e.symm)
  have hsat : Sat G w' := sat_write hS.sat hc hdiff
  have hbel : Below B w w' := ⟨q2.os, q2.tape, q2.output, q2.size, fun b hb => hdiff b (Nat.lt_of_lt_of_le hb hO.base) (fun e => by have := (hc.lt e).1; omega)⟩
  refine OpP_eff (v := .slice a (xs.length + m) c') (w' := w') ?_ hd (keeps_row hc q2.size hdiff) ?_
  · simp only [execOp, resolve, invoke, builtin, Sem.run_bind, Sem.run_pure, Result.andThen_ok, List.map_toArray, List.map_cons, List.map_nil, hX, hY, hrun]
  · rw [← hlen]
    rw [← hlen] at q1 q3
    refine h a c' w' (cells ++ news) (hS.write hsat hbel) (hO.write hk q2.size hdiff ⟨q1, fun g hg => ?_⟩ q3) (hrd.append p2)
    rcases q3 g hg with h' | h'
    · exact hc.2 g h'
    · cases hG : G g with
      | none => rfl
      | some o => exact absurd (hS.sat.lt hG) (by omega)

/-! ### Stores and loads in a row of the call's own -/
def splice (cells : List Value) (off : Nat) (vs : List Value) : List Value := cells.take off ++ vs ++ cells.drop (off + vs.length)
def szB (P : Program) (T : Nat) : Option Nat := (P.info? T).map (·.size)
theorem run_storeOwn {e sz n cap g o off : Nat} {cells vs : List Value} {ad : Addr} (hrow : ORow w B e sz (.slice (some ⟨g, o, none⟩) n cap) n cells) (had : ad = ⟨g, o + off, none⟩) (hfit : off + vs.length ≤ cells.length) (h1 : ∀ u ∈ vs, u.oneCell' = true) :
    ∃ w', (storeCells ad vs).run P w = .ok () w' ∧ ORow w' B e sz (.slice (some ⟨g, o, none⟩) n cap) n (splice cells off vs) ∧ w.heap.size ≤ w'.heap.size ∧ w'.os = w.os ∧ w'.tape = w.tape ∧ w'.output = w.output ∧ ∀ b, b ≠ g → w'.heap[b]? = w.heap[b]? := by
  subst had
  rcases hrow.2 with ⟨hv, _⟩ | ⟨g', o', cap', cur, hv, hbg, hg, hnc, hcm, hcs, htake⟩ | ⟨_, hv, _⟩
  · cases hv
  · cases hv
    have hxl := hrow.1
    have hcl : o + cells.length ≤ cur.size := by
      have : cells.length ≤ cap * sz := by rw [hxl]; exact Nat.mul_le_mul_right _ hnc
      omega
    have hr := run_storeCells_at P g (o + off) e vs 0 cur w hg (by omega) h1
    simp only [Nat.add_zero] at hr
    refine ⟨_, hr, ⟨?_, .inr (.inl ⟨g, o, cap, _, rfl, hbg, setRow_heap w g cur _ e _ hg, hnc, hcm, ?_, ?_⟩)⟩, by simp, rfl, rfl, rfl, fun b hb => setRow_other w g b _ hb⟩
    · unfold splice
      simp only [List.length_append, List.length_take, List.length_drop]
      omega
    · simp only [List.size_toArray, List.length_append, List.length_take, List.length_drop, Array.length_toList]
      omega
    · unfold splice
      have htake' := htake
      rw [← hxl] at htake' ⊢
      exact take_drop_splice _ _ _ _ _ htake' hfit (by rw [Array.length_toList]; omega)
  · cases hv
/-- A store of a whole variable into a row of the call's own. -/
theorem OpP_storeO {T m k e sz n cap g o off : Nat} {X Y : Operand} {cells vs : List Value} {v : Value}
    (hT : szB P T = some m) (hS : Since B G0 w0 G w) (hO : Owns G w B L) (hk : L[k]? = some ⟨e, sz, n, .slice (some ⟨g, o, none⟩) n cap, cells⟩)
    (hX : ev F X = .pointer (some ⟨g, o + off, none⟩)) (hY : ev F Y = v) (hv : v.cells.toList = vs) (hm : vs.length = m) (h1 : ∀ u ∈ vs, u.oneCell' = true) (hfit : off + vs.length ≤ cells.length)
    (h : ∀ w', Since B G0 w0 G w' → Owns G w' B (L.set k ⟨e, sz, n, .slice (some ⟨g, o, none⟩) n cap, splice cells off vs⟩) → K F w') :
    OpP κ P N p ⟨none, .store T X Y, ty, pos, af, gd⟩ F w K := by
  have hc := hO.each _ (List.mem_of_getElem? hk)
  obtain ⟨w', hr, q1, q2, q3, q4, q5, q6⟩ := run_storeOwn (P := P) (ad := ⟨g, o + off, none⟩) (hc.1 : ORow w B e sz (.slice (some ⟨g, o, none⟩) n cap) n cells) rfl hfit h1
  have hdiff : ∀ b, b < w.heap.size → blkOf (Value.slice (some ⟨g, o, none⟩) n cap) ≠ some b → w'.heap[b]? = w.heap[b]? := fun b _ hne => q6 b (fun e => hne (by subst e; rfl))
  have hsat : Sat G w' := sat_write hS.sat hc hdiff
  have hbel : Below B w w' := ⟨q3, q4, q5, q2, fun b hb => q6 b (fun e => by have := (hc.lt (g := g) rfl).1; omega)⟩
  obtain ⟨i, hi, rfl⟩ := Option.map_eq_some_iff.1 hT
  have hsz : v.cells.size = i.size := by rw [← hm, ← hv]; simp
  refine OpP_unit (w' := w') ?_ (keeps_row hc q2 hdiff) (h w' (hS.write hsat hbel) (hO.write hk q2 hdiff ⟨q1, hc.2⟩ fun g hg => .inl hg))
  simp [execOp, hX, hY, Instr.storeAt, Instr.sureAddr, storeVar, sizeOf, typeInfo, hi, hsz, hv, hr]
/-- .. with what is said of the records. -/
theorem OpP_storeJ {T m k e sz n cap g off : Nat} {X Y : Operand} {cells vs : List Value} {v : Value}
    (hT : szB P T = some m) (hS : Since B G0 w0 G w) (hO : Owns G w B L) (hk : L[k]? = some ⟨e, sz, n, .slice (some ⟨g, 0, none⟩) n cap, cells⟩)
    (hX : ev F X = .pointer (some ⟨g, off, none⟩)) (hY : ev F Y = v) (hv : v.cells.toList = vs) (hm : vs.length = m) (h1 : ∀ u ∈ vs, u.oneCell' = true) (hfit : off + vs.length ≤ cells.length)
    (h : ∀ w', Keeps none w w' → Since B G0 w0 G w' → Owns G w' B (L.set k ⟨e, sz, n, .slice (some ⟨g, 0, none⟩) n cap, splice cells off vs⟩) → K F w') :
    OpP κ P N p ⟨none, .store T X Y, ty, pos, af, gd⟩ F w K := by
  have hc := hO.each _ (List.mem_of_getElem? hk)
  obtain ⟨w', hr, q1, q2, q3, q4, q5, q6⟩ := run_storeOwn (P := P) (ad := ⟨g, 0 + off, none⟩) (hc.1 : ORow w B e sz (.slice (some ⟨g, 0, none⟩) n cap) n cells) rfl hfit h1
  have hdiff : ∀ b, b < w.heap.size → blkOf (Value.slice (some ⟨g, 0, none⟩) n cap) ≠ some b → w'.heap[b]? = w.heap[b]? := fun b _ hne => q6 b (fun e => hne (by subst e; rfl))
  have hsat : Sat G w' := sat_write hS.sat hc hdiff
  have hbel : Below B w w' := ⟨q3, q4, q5, q2, fun b hb => q6 b (fun e => by have := (hc.lt (g := g) rfl).1; omega)⟩
  obtain ⟨i, hi, rfl⟩ := Option.map_eq_some_iff.1 hT
  have hsz : v.cells.size = i.size := by rw [← hm, ← hv]; simp
  refine OpP_unit (w' := w') ?_ (keeps_row hc q2 hdiff) (h w' (keeps_row hc q2 hdiff) (hS.write hsat hbel) (hO.write hk q2 hdiff ⟨q1, hc.2⟩ fun g hg => .inl hg))
  rw [Nat.zero_add] at hr
  simp [execOp, hX, hY, Instr.storeAt, Instr.sureAddr, storeVar, sizeOf, typeInfo, hi, hsz, hv, hr]
/-- .. at a box. -/
theorem OpP_store {T m k e sz n cap g off : Nat} {X Y : Operand} {cells vs : List Value} {v : Value}
    (hT : szB P T = some m) (hS : Since B G0 w0 G w) (hO : Owns G w B L) (hk : L[k]? = some ⟨e, sz, n, .slice (some ⟨g, 0, none⟩) n cap, cells⟩)
    (hX : ev F X = .pointer (some ⟨g, off, none⟩)) (hY : ev F Y = v) (hv : v.cells.toList = vs) (hm : vs.length = m) (h1 : ∀ u ∈ vs, u.oneCell' = true) (hfit : off + vs.length ≤ cells.length)
    (h : ∀ w', Since B G0 w0 G w' → Owns G w' B (L.set k ⟨e, sz, n, .slice (some ⟨g, 0, none⟩) n cap, splice cells off vs⟩) → K F w') :
    OpP κ P N p ⟨none, .store T X Y, ty, pos, af, gd⟩ F w K :=
  OpP_storeO hT hS hO hk (by rw [Nat.zero_add]; exact hX) hY hv hm h1 hfit h
theorem own_cell {k e sz n cap g : Nat} {cells : List Value} (hO : Owns G w B L) (hk : L[k]? = some ⟨e, sz, n, .slice (some ⟨g, 0, none⟩) n cap, cells⟩) {j : Nat} {v : Value} (hj : cells[j]? = some v) : w.cell? ⟨g, j, none⟩ = some v := by
  have hc := hO.each _ (List.mem_of_getElem? hk)
  have := (hc.1 : ORow w B e sz (.slice (some ⟨g, 0, none⟩) n cap) n cells).cells hj
  rwa [Nat.zero_add] at this
end
theorem one_all {vs : List Value} (h : vs.all (fun u => u.oneCell') = true) : ∀ u ∈ vs, u.oneCell' = true := fun u hu => List.all_eq_true.1 h u hu
theorem Rd.cons {α : Type} {R : Gm → List Value → α → Prop} {sz : Nat} {G : Gm} {c cells : List Value} {x : α} {xs : List α} (hl : c.length = sz) (hx : R G c x) (h : Rd R sz G cells xs) : Rd R sz G (c ++ cells) (x :: xs) :=
  Rd.append (xs := [x]) ⟨by simp [hl], fun i y hy => by
    cases i with
    | zero => simp at hy; subst hy; exact ⟨c, hl, fun j u hj => by simpa using hj, hx⟩
    | succ i => simp at hy⟩ h
theorem RSl.of_rd {α : Type} {R : Gm → List Value → α → Prop} {sz : Nat} {G : Gm} {b n : Nat} {cells : List Value} {xs : List α} (hc : Cells G b 0 cells) (h : Rd R sz G cells xs) (hn : n = xs.length) (hm : n ≤ maxLen) : RSl R sz G (some ⟨b, 0, none⟩) n n xs :=
  ⟨hn, ⟨hm, Nat.le_refl _⟩, fun i x hx => let ⟨cs, h1, h2, h3⟩ := h.2 i x hx; ⟨b, 0, cs, rfl, fun j u hj => by
    have := hc _ u (h2 j u hj)
    rw [← Nat.add_assoc] at this
    exact this, h1, h3⟩⟩
theorem bnd {α β : Type} {m : Option α} {f : α → Option β} {r : β} (h : m.bind f = some r) : ∃ x, m = some x ∧ f x = some r := by
  cases m with
  | none => cases h
  | some x => exact ⟨x, rfl, h⟩
theorem ifT {α : Type} {b : Bool} (hb : b = true) {A B : Option α} {r : α} (h : (if b = true then A else B) = some r) : A = some r := by rwa [if_pos hb] at h
theorem ifF {α : Type} {b : Bool} (hb : b = false) {A B : Option α} {r : α} (h : (if b = true then A else B) = some r) : B = some r := by rwa [if_neg (by rw [hb]; decide)] at h
section
variable {κ : Ctx} {p : List PanicEntry → Fr → World → Prop} {P : Program} {N : Nat} {F : Fr} {w : World} {K : Fr → World → Prop} {ty : TypeId} {pos : String} {af : Array Edge} {G : Gm} {B : Nat} {L : List Row} {ops : Array Oper} {l : List Oper}
theorem rn_idxO {α : Type} {R : Gm → List Value → α → Prop} {k T e sz bytes t n cp n' : Nat} {X I : Operand} {ao : Option Addr} {cells : List Value} {xs : List α} {kd : IntKind} {i : Int} {y : α} {gd : Option (Nat × Bool)}
    (hT : slB P T = some (e, sz, bytes)) (hO : Owns G w B L) (hk : L[k]? = some ⟨e, sz, n', .slice ao n cp, cells⟩) (hn : n' = xs.length) (hrd : Rd R sz G cells xs) (hix : ix xs i = some y) (hx : ev F X = .slice ao n cp) (hi : ev F I = .int kd i) :
    ∃ g o cs, (∀ w, (execOp (ev F) ⟨some t, .indexAddr T X I, ty, pos, af, gd⟩).run P w = .ok (.value (.pointer (some ⟨g, o + i.toNat * sz, none⟩))) w) ∧ ao = some ⟨g, o, none⟩ ∧ cs.length = sz ∧ (∀ j u, cs[j]? = some u → cells[i.toNat * sz + j]? = some u) ∧ R G cs y := by
  obtain ⟨hu, inf, z, h1, h2, h3, h4, h5, h6⟩ := slB_spec hT
  obtain ⟨p1, p2, p3⟩ := ix_some hix
  have hc := hO.each _ (List.mem_of_getElem? hk)
  obtain ⟨cs, q1, q2, q3⟩ := hrd.2 _ _ p3
  rcases hc.1.2 with ⟨hv, hz⟩ | ⟨g, o, cap, cur, hv, hbg, hg, hnc, hcm, hcs, htake⟩ | ⟨_, hv, _⟩
  · have hz' : n' = 0 := hz
    omega
  · have hv' : Value.slice ao n cp = .slice (some ⟨g, o, none⟩) n' cap := hv
    cases hv'
    refine ⟨g, o, cs, fun w => ?_, rfl, q1, q2, q3⟩
    have hlt : i < (n : Int) := by omega
    simp [execOp, hx, hi, Instr.indexAt, asIntOf, run_underlying hu, p1, hlt, sizeOf, typeInfo, h1, h3, add_addr]
  · have : Value.slice ao n cp = _ := hv
    cases this
theorem WL_idxO {α : Type} {R : Gm → List Value → α → Prop} {k T e sz bytes t n cp n' : Nat} {X I : Operand} {ao : Option Addr} {cells : List Value} {xs : List α} {kd : IntKind} {i : Int} {y : α}
    (hT : slB P T = some (e, sz, bytes)) (hO : Owns G w B L) (hk : L[k]? = some ⟨e, sz, n', .slice ao n cp, cells⟩) (hn : n' = xs.length) (hrd : Rd R sz G cells xs) (hix : ix xs i = some y) (hx : ev F X = .slice ao n cp) (hi : ev F I = .int kd i) (hd : Nat.blt t N = true)
    (h : ∀ g o cs, ao = some ⟨g, o, none⟩ → cs.length = sz → (∀ j u, cs[j]? = some u → cells[i.toNat * sz + j]? = some u) → R G cs y → WL κ P N ops p K l (upd F t (.pointer (some ⟨g, o + i.toNat * sz, none⟩))) w) : WL κ P N ops p K (⟨some t, .indexAddr T X I, ty, pos, af, none⟩ :: l) F w := by
  obtain ⟨g, o, cs, hrun, h1, h2, h3, h4⟩ := rn_idxO (P := P) (F := F) (t := t) (ty := ty) (pos := pos) (af := af) (gd := none) hT hO hk hn hrd hix hx hi
  exact WL_val (hrun w) hd (h g o cs h1 h2 h3 h4)
variable {pw : List PanicEntry → World → Prop} {C : Nat → World → Prop} {fl : List Nat} {r : OT} {q : Nat}
theorem WD_idxO {α : Type} {R : Gm → List Value → α → Prop} {k T e sz bytes t n cp n' : Nat} {X I : Operand} {ao : Option Addr} {cells : List Value} {xs : List α} {kd : IntKind} {i : Int} {y : α}
    (hq : ops.toList[q]? = some ⟨some t, .indexAddr T X I, ty, pos, af, none⟩)
    (hT : slB P T = some (e, sz, bytes)) (hO : Owns G w B L) (hk : L[k]? = some ⟨e, sz, n', .slice ao n cp, cells⟩) (hn : n' = xs.length) (hrd : Rd R sz G cells xs) (hix : ix xs i = some y) (hx : ev F X = .slice ao n cp) (hi : ev F I = .int kd i) (hd : Nat.blt t N = true)
    (h : ∀ g o cs, ao = some ⟨g, o, none⟩ → cs.length = sz → (∀ j u, cs[j]? = some u → cells[i.toNat * sz + j]? = some u) → R G cs y → WD κ P N pw ops C fl K r (upd F t (.pointer (some ⟨g, o + i.toNat * sz, none⟩))) w) : WD κ P N pw ops C fl K (.fl q r) F w := by
  obtain ⟨g, o, cs, hrun, h1, h2, h3, h4⟩ := rn_idxO (P := P) (F := F) (t := t) (ty := ty) (pos := pos) (af := af) (gd := none) hT hO hk hn hrd hix hx hi
  exact WD_val hq (fun w _ => hrun w) hd (h g o cs h1 h2 h3 h4)
end
theorem nomore {b : Bool} {p : Prop} (h : b = false) (h' : b = true) : p := by rw [h] at h'; cases h'
theorem bcases (b : Bool) : b = true ∨ b = false := by cases b <;> simp
theorem Owns.le {G G' : Gm} {w : World} {B : Nat} {L : List Row} (h : Owns G' w B L) (hle : Gle G G') : Owns G w B L :=
  ⟨fun c hc => ⟨(h.each c hc).1, fun g hg => by
    cases hG : G g with
    | none => rfl
    | some o => have := hle _ _ hG; rw [(h.each c hc).2 g hg] at this; cases this⟩, h.apart, h.base⟩
section
variable {κ : Ctx} {p : List PanicEntry → Fr → World → Prop} {P : Program} {N : Nat} {F : Fr} {w : World} {K : Fr → World → Prop} {d : Nat} {ty : TypeId} {pos : String} {af : Array Edge} {ops : Array Oper} {l : List Oper} {G : Gm} {B : Nat} {L : List Row} {gd : Option (Nat × Bool)}
theorem WL_guardU {op : Op} {j g : Nat} {want : Bool} (hj : (ops[j]?).bind (·.dst) = some g) (hF : F g = undef) (hd : Nat.blt d N = true) (hg : Nat.blt g N = true) (h : WL κ P N ops p K l (upd F d undef) w) :
    WL κ P N ops p K (⟨some d, op, ty, pos, af, some (j, want)⟩ :: l) F w := by
  intro a wI h1 h3
  have hd' : d < a.tmps.size := by exact h1.lt hd
  have hg' : g < a.tmps.size := by exact h1.lt hg
  have hy : yielded ops a.tmps j = none := by
    unfold yielded
    rw [hj]
    have h4 : a.tmps[g]? = some undef := by
      rw [Array.getElem?_eq_getElem hg']
      have h2 : a.tmps.getD g undef = a.tmps[g] := by simp [Array.getD, hg']
      rw [← h2]
      exact congrArg some (by rw [← h3] at hF; exact hF)
    simp [h4, undef]
  refine skipFW (by simp [Region.wanted, hy]) (h _ wI (h1.puts _ _) ?_)
  · rw [← h3]; exact frOf_put a d undef hd'
theorem own_sub {k e sz n cap g : Nat} {cells : List Value} (hO : Owns G w B L) (hk : L[k]? = some ⟨e, sz, n, .slice (some ⟨g, 0, none⟩) n cap, cells⟩) (off m : Nat) (j : Nat) (v : Value) (hj : ((cells.drop off).take m)[j]? = some v) : w.cell? ⟨g, off + j, none⟩ = some v := by
  refine own_cell hO hk (j := off + j) ?_
  rw [List.getElem?_take] at hj
  split at hj
  · rw [List.getElem?_drop] at hj; exact hj
  · cases hj
theorem own_cellA {k e sz n n' cap g o : Nat} {ao : Option Addr} {cells : List Value} (hO : Owns G w B L) (hk : L[k]? = some ⟨e, sz, n', .slice ao n cap, cells⟩) (ha : ao = some ⟨g, o, none⟩) {j : Nat} {v : Value} (hj : cells[j]? = some v) : w.cell? ⟨g, o + j, none⟩ = some v := by
  subst ha
  have hc := hO.each _ (List.mem_of_getElem? hk)
  have h1 : ORow w B e sz (.slice (some ⟨g, o, none⟩) n cap) n' cells := hc.1
  have hn : n = n' := by
    rcases h1.2 with ⟨hv, _⟩ | ⟨g', o', cap', cur, hv, _⟩ | ⟨_, hv, _⟩
    · cases hv
    · cases hv; rfl
    · cases hv
  subst hn
  exact h1.cells hj
theorem own_cellB {k e sz n n' cap g o : Nat} {ao : Option Addr} {cells : List Value} (hO : Owns G w B L) (hk : L[k]? = some ⟨e, sz, n', .slice ao n cap, cells⟩) (ha : ao = some ⟨g, o, none⟩) (x j : Nat) {v : Value} (hj : cells[x + j]? = some v) : w.cell? ⟨g, o + x + j, none⟩ = some v := by
  have h := own_cellA hO hk ha hj
  rwa [← Nat.add_assoc] at h
variable {pw : List PanicEntry → World → Prop} {C : Nat → World → Prop} {fl : List Nat} {r : OT} {i : Nat}
theorem WD_skipS {op : Op} {j g : Nat} {want b : Bool} (hi : ops.toList[i]? = some ⟨some d, op, ty, pos, af, some (j, want)⟩)
    (hj : (ops.toList[j]?).bind (·.dst) = some g) (hb : b = !want) (hF : F g = .bool b) (hg : Nat.blt g N = true) (hd : Nat.blt d N = true) (hC : ∀ q, keepQ ops fl i q = true → C q w) (h : WD κ P N pw ops C fl K r (upd F d undef) w) : WD κ P N pw ops C fl K (.on i r) F w := by
  intro a wI h1 h3
  have hd' : d < a.tmps.size := by exact h1.lt hd
  have hg' : g < a.tmps.size := by exact h1.lt hg
  have hy := yielded_frOf (a := a) (ops := ops) (j := j) (by simpa using hj) (by rw [h3]; exact hF) hg'
  have hi' : ops[i]? = some ⟨some d, op, ty, pos, af, some (j, want)⟩ := by simpa using hi
  have hw : Region.wanted (⟨some d, op, ty, pos, af, some (j, want)⟩ : Oper) (yielded ops a.tmps) = false := by simp [Region.wanted, hy, hb]
  unfold ordWp wpOp
  simp only [hi', hw, Bool.false_eq_true, if_false]
  refine ⟨hC, h _ wI (h1.puts _ _) ?_⟩
  · rw [← h3]; exact frOf_put a d undef hd'
theorem rn_min {X Y : Operand} {k : IntKind} {m n : Int} {ats : Array TypeId} (hx : ev F X = .int k m) (hy : ev F Y = .int k n) :
    (execOp (ev F) ⟨some d, .call { callee := .builtin .min, args := #[X, Y], argTypes := ats }, ty, pos, af, gd⟩).run P w = .ok (.value (.int k (if n < m then n else m))) w := by
  simp [execOp, resolve, invoke, builtin, Builtin.min_, hx, hy, Builtin.min2]
end
section
variable {κ : Ctx} {p : List PanicEntry → Fr → World → Prop} {P : Program} {N : Nat} {F : Fr} {w : World} {K : Fr → World → Prop} {ty : TypeId} {pos : String} {af : Array Edge} {G : Gm} {B : Nat} {L : List Row} {gd : Option (Nat × Bool)}
theorem OpP_idx {α : Type} {R : Gm → List Value → α → Prop} {T e sz bytes t : Nat} {X I : Operand} {ad : Option Addr} {len cap : Nat} {xs : List α} {k : IntKind} {q : Int} {y : α}
    (hT : slB P T = some (e, sz, bytes)) (hs : RSl R sz G ad len cap xs) (hix : ix xs q = some y) (hx : ev F X = .slice ad len cap) (hq : ev F I = .int k q) (hd : Nat.blt t N = true)
    (h : ∀ b off cs, Cells G b off cs → cs.length = sz → R G cs y → K (upd F t (.pointer (some ⟨b, off, none⟩))) w) : OpP κ P N p ⟨some t, .indexAddr T X I, ty, pos, af, gd⟩ F w K := by
  obtain ⟨b, off, cs, hrun, h1, h2, h3⟩ := rn_idx (P := P) (F := F) (d := some t) (ty := ty) (pos := pos) (af := af) (gd := gd) hT hs hx hq hix
  exact OpP_val (hrun w) hd (h b off cs h1 h2 h3)
theorem OpP_idxO {α : Type} {R : Gm → List Value → α → Prop} {k T e sz bytes t n cp n' : Nat} {X I : Operand} {ao : Option Addr} {cells : List Value} {xs : List α} {kd : IntKind} {i : Int} {y : α}
    (hT : slB P T = some (e, sz, bytes)) (hO : Owns G w B L) (hk : L[k]? = some ⟨e, sz, n', .slice ao n cp, cells⟩) (hn : n' = xs.length) (hrd : Rd R sz G cells xs) (hix : ix xs i = some y) (hx : ev F X = .slice ao n cp) (hi : ev F I = .int kd i) (hd : Nat.blt t N = true)
    (h : ∀ g o cs, ao = some ⟨g, o, none⟩ → cs.length = sz → (∀ j u, cs[j]? = some u → cells[i.toNat * sz + j]? = some u) → R G cs y → K (upd F t (.pointer (some ⟨g, o + i.toNat * sz, none⟩))) w) : OpP κ P N p ⟨some t, .indexAddr T X I, ty, pos, af, gd⟩ F w K := by
  obtain ⟨g, o, cs, hrun, h1, h2, h3, h4⟩ := rn_idxO (P := P) (F := F) (t := t) (ty := ty) (pos := pos) (af := af) (gd := gd) hT hO hk hn hrd hix hx hi
  exact OpP_val (hrun w) hd (h g o cs h1 h2 h3 h4)
end
end Go.Proofs.YtcaflmilfhhikaaGreatDoor
