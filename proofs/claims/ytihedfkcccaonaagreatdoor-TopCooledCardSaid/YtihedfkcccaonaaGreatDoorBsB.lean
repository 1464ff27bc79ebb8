/-
 Appends and stores into rows of the call's own.
-/
import Derived.Test.YtihedfkcccaonaaGreatDoorBsA
import Derived.Deep.AppendSrc
import Derived.Laws.StructEq
import Derived.Laws.Slices
import Derived.WideLaws
namespace Go.Proofs.YtihedfkcccaonaaGreatDoor
open Go.RowKit
theorem zfM (cur xs news : List Value) (o : Nat) (hx : (cur.drop o).take xs.length = xs) (hfit : o + (xs.length + news.length) ≤ cur.length) :
  ((cur.take (o + xs.length) ++ news ++ cur.drop (o + xs.length + news.length)).drop o).take (xs ++ news).length = xs ++ news := by
 have hA : (cur.take o).length = o := by rw [List.length_take]; omega
 rw [List.take_add, hx, List.append_assoc, List.append_assoc, List.drop_left' hA, ← List.append_assoc]
 exact List.take_left
theorem zcZ (cur cells vs : List Value) (o off : Nat) (hx : (cur.drop o).take cells.length = cells) (hfit : off + vs.length ≤ cells.length) (hc : o + cells.length ≤ cur.length) :
  ((cur.take (o + off) ++ vs ++ cur.drop (o + off + vs.length)).drop o).take cells.length = cells.take off ++ vs ++ cells.drop (off + vs.length) := by
 have hA : (cur.take o).length = o := by rw [List.length_take]; omega
 have h1 : (cur.drop o).take off = cells.take off := by rw [← hx, List.take_take]; congr 1; omega
 have h2 : (cur.drop (o + off + vs.length)).take (cells.length - (off + vs.length)) = cells.drop (off + vs.length) := by
  rw [← hx, List.drop_take, List.drop_drop, List.length_take, List.length_drop]
  congr 1
  ·omega
  ·congr 1; omega
 have h3 : (cells.take off ++ vs).length = off + vs.length := by rw [List.length_append, List.length_take]; omega
 rw [List.take_add, h1, List.append_assoc, List.append_assoc, List.drop_left' hA, ← List.append_assoc, List.take_append, h3, h2]
 congr 1
 rw [List.take_of_length_le]
 omega
section
variable {κ : Ctx} {p : List PanicEntry → Fr → World → Prop} {P : Program} {w : World}
theorem zq2 {T e sz bytes B : Nat} (hT : slB P T = some (e, sz, bytes)) {v : Value} {n : Nat} {xs : List Value} (hown : ORow w B e sz v n xs) (hsl : ∃ a q c, v = .slice a q c) (hB : B ≤ w.heap.size) {ad : Option Addr} {m c : Nat} {news : List Value}
  (hl : news.length = m * sz) (hsrc : ∀ a, ad = some a → ∀ j u, news[j]? = some u → w.cell? (a.add j) = some u) (hnone : ad = none → m = 0) (h1 : ∀ u ∈ news, u.oneCell' = true) (h63 : n + m ≤ maxLen) (hbytes : (n + m) * bytes ≤ 140737488355328) (ty : TypeId) :
  ∃ v' w', (Builtin.append_ #[T, T] ty #[v, .slice ad m c]).run P w = .ok v' w' ∧ ORow w' B e sz v' (n + m) (xs ++ news) ∧ w.grownBy w' (qO v) ∧ (∀ g, qO v' = some g → qO v = some g ∨ w.heap.size ≤ g) ∧ ∃ a c', v' = .slice a (n + m) c' := by
 obtain ⟨ht, i, z, hi, hz, rfl, rfl, hzs, hsz⟩ := kG hT
 cases ad with
 | none =>
  have hm := hnone rfl
  subst hm
  have hn : news = [] := List.eq_nil_of_length_eq_zero (by simpa using hl)
  subst hn
  rcases hown.2 with ⟨rfl, rfl⟩ | ⟨g, o₀, cap, cur, rfl, hbg, hg, hnc, hcm, hcs, htake⟩ | ⟨_, rfl, _⟩
  ·refine ⟨.slice none 0 0, w, ?_, by simpa using hown, World.grownBy.refl _ _, fun g hg => .inl hg, _, _, rfl⟩
   simp [Builtin.append_, run_underlying ht, sizeOf, typeInfo, hi, Builtin.lenOf, Builtin.firstCells]
  ·refine ⟨.slice (some ⟨g, o₀, none⟩) n cap, w, ?_, by simpa using hown, World.grownBy.refl _ _, fun g hg => .inl hg, _, _, rfl⟩
   simp [Builtin.append_, run_underlying ht, sizeOf, typeInfo, hi, Builtin.lenOf, Builtin.firstCells, hnc, storeCells]
  ·obtain ⟨_, _, _, h⟩ := hsl; cases h
 | some a =>
  have hnews := hsrc a rfl
  have hlen : (xs ++ news).length = (n + m) * i.size := by rw [List.length_append, hown.1, hl, Nat.add_mul]
  have grown : ∀ (old : Nat), old < n + m → ∀ (row : Option Nat),
    ORow (w.drew.alloc (.cells (xs.toArray ++ news.toArray ++ Builtin.zeroCells z.cells (grownCap w (n + m) old e - (n + m))) e)) B e i.size
     (.slice (some ⟨w.heap.size, 0, none⟩) (n + m) (grownCap w (n + m) old e)) (n + m) (xs ++ news) ∧
    w.grownBy (w.drew.alloc (.cells (xs.toArray ++ news.toArray ++ Builtin.zeroCells z.cells (grownCap w (n + m) old e - (n + m))) e)) row := by
   intro old _ row
   have hge := grownCap_ge w (n + m) old e
   have hcm : grownCap w (n + m) old e ≤ maxLen := grownCap_le_maxLen w (n + m) old e h63
   refine ⟨⟨hlen, .inr (.inl ⟨w.heap.size, 0, _, _, rfl, hB, Go.heap_alloc_new w.drew _, hge, hcm, ?_, ?_⟩)⟩, ⟨rfl, rfl, rfl, by simp, fun k hk _ => Below.heap_alloc w.drew _ k hk⟩⟩
   ·refine Nat.le_of_eq ?_
    simp only [Array.size_append, List.size_toArray, size_zeroCells, hzs, hown.1, hl, ← Nat.add_mul, Nat.zero_add]
    congr 1
    omega
   ·simp only [Array.toList_append, List.append_assoc, List.drop_zero]
    rw [← List.append_assoc, ← hlen]
    exact List.take_left
  have hsmall : n + m ≤ 9223372036854775807 := by simp only [maxLen] at h63; omega
  rcases hown.2 with ⟨rfl, rfl⟩ | ⟨g, o₀, cap, cur, rfl, hbg, hg, hnc, hcm, hcs, htake⟩ | ⟨_, rfl, _⟩
  ·have hx : xs = [] := List.eq_nil_of_length_eq_zero (by simpa using hown.1)
   subst hx
   by_cases hm : m = 0
   ·subst hm
    have hn : news = [] := List.eq_nil_of_length_eq_zero (by simpa using hl)
    subst hn
    refine ⟨.slice none 0 0, w, ?_, by simpa using hown, World.grownBy.refl _ _, fun g hg => .inl hg, _, _, rfl⟩
    simp [Builtin.append_, run_underlying ht, sizeOf, typeInfo, hi, Builtin.lenOf, Builtin.firstCells, loadCells, loadCellsFrom]
   ·have hr := run_append_nil (P := P) w T ty e i z ht hi hz a m c news hl hnews (by omega) (by omega) (by have hb := hbytes; simp only [Nat.zero_add] at hb; omega)
    have hgr := grown 0 (by omega) (qO (.slice none 0 0))
    simp only [Nat.zero_add, List.nil_append, Array.empty_append] at hgr ⊢
    exact ⟨_, _, hr, hgr.1, hgr.2, fun g hg => .inr (by simp [qO] at hg; omega), _, _, rfl⟩
  ·by_cases hroom : n + m ≤ cap
   ·have hfit : o₀ + (n * i.size + news.length) ≤ cur.size := by
     have : n * i.size + news.length ≤ cap * i.size := by rw [hl, ← Nat.add_mul]; exact Nat.mul_le_mul_right _ hroom
     omega
    have hst := run_storeCells_at P g (o₀ + n * i.size) e news 0 cur w hg (by omega) h1
    simp only [Nat.add_zero] at hst
    have hs := Src.ofSlice (P := P) w ht a m c news hl hnews h1
    have hr : (Builtin.append_ #[T, T] ty #[.slice (some ⟨g, o₀, none⟩) n cap, .slice (some a) m c]).run P w = .ok (.slice (some ⟨g, o₀, none⟩) (n + m) cap) (w.setRow g (cur.toList.take (o₀ + n * i.size) ++ news ++ cur.toList.drop (o₀ + n * i.size + news.length)).toArray) := by
     simp [Builtin.append_, run_underlying ht, sizeOf, typeInfo, hi, hs.len, hroom, hs.cells, Addr.add_lit, hst]
    refine ⟨_, _, hr, ⟨hlen, .inr (.inl ⟨g, o₀, cap, _, rfl, hbg, setRow_heap w g cur _ e _ hg, hroom, hcm, ?_, ?_⟩)⟩, ⟨rfl, rfl, rfl, by simp, fun k _ hk => setRow_other w g k _ (fun e => hk (by simp [qO, e]))⟩, fun g' hg' => .inl hg', _, _, rfl⟩
    ·simp only [List.size_toArray, List.length_append, List.length_take, List.length_drop, Array.length_toList]
     omega
    ·rw [← hlen]
     have hxl : xs.length = n * i.size := hown.1
     rw [← hxl] at htake hfit ⊢
     exact zfM _ _ _ _ htake (by rw [Array.length_toList]; omega)
   ·have holds : ∀ j u, xs[j]? = some u → w.cell? ((⟨g, o₀, none⟩ : Addr).add j) = some u := fun j u hj => by rw [xf]; exact hown.cells hj
    have hr := run_append_grow (P := P) w T ty e i z ht hi hz ⟨g, o₀, none⟩ n cap xs hown.1 holds a m c news hl hnews (by omega) (by omega) (growslice_fits (by omega) hbytes)
    have hgr := grown cap (by omega) (qO (.slice (some ⟨g, o₀, none⟩) n cap))
    exact ⟨_, _, hr, hgr.1, hgr.2, fun g' hg' => .inr (by simp [qO] at hg'; omega), _, _, rfl⟩
  ·obtain ⟨_, _, _, h⟩ := hsl; cases h
end
def app {α : Type} (xs ys : List α) : Option (List α) := if xs.length + ys.length ≤ 1073741824 then some (xs ++ ys) else none
theorem zqs {α : Type} {xs ys zs : List α} (h : app xs ys = some zs) : xs.length + ys.length ≤ 1073741824 ∧ zs = xs ++ ys := by
 unfold app at h
 split at h
 ·exact ⟨‹_›, (nQs h).symm⟩
 ·cases h
section
variable {κ : Ctx} {p : List PanicEntry → Fr → World → Prop} {P : Program} {N : Nat} {F : Fr} {w : World} {K : Fr → World → Prop} {d : Nat} {ty : TypeId} {pos : String} {af : Array Edge} {gd : Option (Nat × Bool)} {G G0 : Gm} {w0 : World} {B : Nat} {L : List Row}
theorem yc {α : Type} {R : Gm → List Value → α → Prop} {k e sz n n' cp m c T : Nat} {bytes : Nat} {ad ao : Option Addr} {X Y : Operand} {ats : Array TypeId} {cells : List Value} {xs ys zs : List α}
  (hT : slB P T = some (e, sz, bytes)) (hone : One R) (hS : Since B G0 w0 G w) (hO : Owns G w B L) (hk : L[k]? = some ⟨e, sz, n', .slice ao n cp, cells⟩) (hn : n' = xs.length) (hrd : Rd R sz G cells xs) (hs : RSl R sz G ad m c ys) (hz : app xs ys = some zs)
  (hat : ats = #[T, T]) (hX : ev F X = .slice ao n cp) (hY : ev F Y = .slice ad m c) (hd : Nat.blt d N = true) (hby : Nat.ble bytes 65536 = true)
  (h : ∀ a cp' w' cells', Since B G0 w0 G w' → Owns G w' B (L.set k ⟨e, sz, zs.length, .slice a zs.length cp', cells'⟩) → Rd R sz G cells' zs → K (upd F d (.slice a zs.length cp')) w') :
  OpP κ P N p ⟨some d, .call { callee := .builtin .append, args := #[X, Y], argTypes := ats }, ty, pos, af, gd⟩ F w K := by
 obtain ⟨hlim, rfl⟩ := zqs hz
 subst hat
 subst hn
 obtain ⟨news, p1, p2, p3, p4⟩ := hs.cells hone
 have hm : m = ys.length := hs.1
 have hc := hO.each _ (List.mem_of_getElem? hk)
 have hby' := nQl hby
 have hbig : (xs.length + m) * bytes ≤ 140737488355328 := by
  have h1 : (xs.length + m) * bytes ≤ 1073741824 * 65536 := Nat.mul_le_mul (by omega) hby'
  omega
 have hrow : ORow w B e sz (.slice ao n cp) xs.length cells := hc.1
 obtain ⟨v', w', hrun, q1, q2, q3, a, c', rfl⟩ := zq2 (P := P) hT (hc.1 : ORow w B e sz (.slice ao n cp) xs.length cells) ⟨_, _, _, rfl⟩ hO.base (ad := ad) (m := m) (c := c) p1 (fun a ha j u hj => hS.sat.cell (p4 a ha j u hj)) (fun h0 => by
  cases hys : ys with
  | nil => rw [hm, hys]; rfl
  | cons y ys' =>
   obtain ⟨b, off, cs, e1, _⟩ := hs.2.2 0 y (by rw [hys]; rfl)
   rw [h0] at e1
   cases e1) p3 (by simp only [maxLen]; omega) hbig ty
 have hlen : (xs ++ ys).length = xs.length + m := by rw [List.length_append, hm]
 have hdiff : ∀ b, b < w.heap.size → qO (Value.slice ao n cp) ≠ some b → w'.heap[b]? = w.heap[b]? := fun b hb hne => q2.block b hb (fun e => hne e.symm)
 have hsat : Sat G w' := vk hS.sat hc hdiff
 have hbel : Below B w w' := ⟨q2.os, q2.tape, q2.output, q2.size, fun b hb => hdiff b (Nat.lt_of_lt_of_le hb hO.base) (fun e => by have := (hc.lt e).1; omega)⟩
 refine ks (v := .slice a (xs.length + m) c') (w' := w') ?_ hd (ky hc q2.size hdiff) ?_
 ·simp only [execOp, resolve, invoke, builtin, Sem.run_bind, Sem.run_pure, Result.andThen_ok, List.map_toArray, List.map_cons, List.map_nil, hX, hY, hrun]
 ·rw [← hlen]
  rw [← hlen] at q1 q3
  refine h a c' w' (cells ++ news) (hS.write hsat hbel) (hO.write hk q2.size hdiff ⟨q1, fun g hg => ?_⟩ q3) (hrd.append p2)
  rcases q3 g hg with h' | h'
  ·exact hc.2 g h'
  ·cases hG : G g with
   | none => rfl
   | some o => exact absurd (hS.sat.lt hG) (by omega)
def qD (cells : List Value) (off : Nat) (vs : List Value) : List Value := cells.take off ++ vs ++ cells.drop (off + vs.length)
def szB (P : Program) (T : Nat) : Option Nat := (P.info? T).map (·.size)
theorem zcg {e sz n cap g o off : Nat} {cells vs : List Value} {ad : Addr} (hrow : ORow w B e sz (.slice (some ⟨g, o, none⟩) n cap) n cells) (had : ad = ⟨g, o + off, none⟩) (hfit : off + vs.length ≤ cells.length) (h1 : ∀ u ∈ vs, u.oneCell' = true) :
  ∃ w', (storeCells ad vs).run P w = .ok () w' ∧ ORow w' B e sz (.slice (some ⟨g, o, none⟩) n cap) n (qD cells off vs) ∧ w.heap.size ≤ w'.heap.size ∧ w'.os = w.os ∧ w'.tape = w.tape ∧ w'.output = w.output ∧ ∀ b, b ≠ g → w'.heap[b]? = w.heap[b]? := by
 subst had
 rcases hrow.2 with ⟨hv, _⟩ | ⟨g', o', cap', cur, hv, hbg, hg, hnc, hcm, hcs, htake⟩ | ⟨_, hv, _⟩
 ·cases hv
 ·cases hv
  have hxl := hrow.1
  have hcl : o + cells.length ≤ cur.size := by
   have : cells.length ≤ cap * sz := by rw [hxl]; exact Nat.mul_le_mul_right _ hnc
   omega
  have hr := run_storeCells_at P g (o + off) e vs 0 cur w hg (by omega) h1
  simp only [Nat.add_zero] at hr
  refine ⟨_, hr, ⟨?_, .inr (.inl ⟨g, o, cap, _, rfl, hbg, setRow_heap w g cur _ e _ hg, hnc, hcm, ?_, ?_⟩)⟩, by simp, rfl, rfl, rfl, fun b hb => setRow_other w g b _ hb⟩
  ·unfold qD
   simp only [List.length_append, List.length_take, List.length_drop]
   omega
  ·simp only [List.size_toArray, List.length_append, List.length_take, List.length_drop, Array.length_toList]
   omega
  ·unfold qD
   have htake' := htake
   rw [← hxl] at htake' ⊢
   exact zcZ _ _ _ _ _ htake' hfit (by rw [Array.length_toList]; omega)
 ·cases hv
theorem zfI {T m k e sz n cap g o off : Nat} {X Y : Operand} {cells vs : List Value} {v : Value}
  (hT : szB P T = some m) (hS : Since B G0 w0 G w) (hO : Owns G w B L) (hk : L[k]? = some ⟨e, sz, n, .slice (some ⟨g, o, none⟩) n cap, cells⟩)
  (hX : ev F X = .pointer (some ⟨g, o + off, none⟩)) (hY : ev F Y = v) (hv : v.cells.toList = vs) (hm : vs.length = m) (h1 : ∀ u ∈ vs, u.oneCell' = true) (hfit : off + vs.length ≤ cells.length)
  (h : ∀ w', Since B G0 w0 G w' → Owns G w' B (L.set k ⟨e, sz, n, .slice (some ⟨g, o, none⟩) n cap, qD cells off vs⟩) → K F w') :
  OpP κ P N p ⟨none, .store T X Y, ty, pos, af, gd⟩ F w K := by
 have hc := hO.each _ (List.mem_of_getElem? hk)
 obtain ⟨w', hr, q1, q2, q3, q4, q5, q6⟩ := zcg (P := P) (ad := ⟨g, o + off, none⟩) (hc.1 : ORow w B e sz (.slice (some ⟨g, o, none⟩) n cap) n cells) rfl hfit h1
 have hdiff : ∀ b, b < w.heap.size → qO (Value.slice (some ⟨g, o, none⟩) n cap) ≠ some b → w'.heap[b]? = w.heap[b]? := fun b _ hne => q6 b (fun e => hne (by subst e; rfl))
 have hsat : Sat G w' := vk hS.sat hc hdiff
 have hbel : Below B w w' := ⟨q3, q4, q5, q2, fun b hb => q6 b (fun e => by have := (hc.lt (g := g) rfl).1; omega)⟩
 obtain ⟨i, hi, rfl⟩ := Option.map_eq_some_iff.1 hT
 have hsz : v.cells.size = i.size := by rw [← hm, ← hv]; simp
 refine zfH (w' := w') ?_ (ky hc q2 hdiff) (h w' (hS.write hsat hbel) (hO.write hk q2 hdiff ⟨q1, hc.2⟩ fun g hg => .inl hg))
 simp [execOp, hX, hY, Instr.storeAt, Instr.sureAddr, storeVar, sizeOf, typeInfo, hi, hsz, hv, hr]
theorem zkI {T m k e sz n cap g off : Nat} {X Y : Operand} {cells vs : List Value} {v : Value}
  (hT : szB P T = some m) (hS : Since B G0 w0 G w) (hO : Owns G w B L) (hk : L[k]? = some ⟨e, sz, n, .slice (some ⟨g, 0, none⟩) n cap, cells⟩)
  (hX : ev F X = .pointer (some ⟨g, off, none⟩)) (hY : ev F Y = v) (hv : v.cells.toList = vs) (hm : vs.length = m) (h1 : ∀ u ∈ vs, u.oneCell' = true) (hfit : off + vs.length ≤ cells.length)
  (h : ∀ w', Keeps none w w' → Since B G0 w0 G w' → Owns G w' B (L.set k ⟨e, sz, n, .slice (some ⟨g, 0, none⟩) n cap, qD cells off vs⟩) → K F w') :
  OpP κ P N p ⟨none, .store T X Y, ty, pos, af, gd⟩ F w K := by
 have hc := hO.each _ (List.mem_of_getElem? hk)
 obtain ⟨w', hr, q1, q2, q3, q4, q5, q6⟩ := zcg (P := P) (ad := ⟨g, 0 + off, none⟩) (hc.1 : ORow w B e sz (.slice (some ⟨g, 0, none⟩) n cap) n cells) rfl hfit h1
 have hdiff : ∀ b, b < w.heap.size → qO (Value.slice (some ⟨g, 0, none⟩) n cap) ≠ some b → w'.heap[b]? = w.heap[b]? := fun b _ hne => q6 b (fun e => hne (by subst e; rfl))
 have hsat : Sat G w' := vk hS.sat hc hdiff
 have hbel : Below B w w' := ⟨q3, q4, q5, q2, fun b hb => q6 b (fun e => by have := (hc.lt (g := g) rfl).1; omega)⟩
 obtain ⟨i, hi, rfl⟩ := Option.map_eq_some_iff.1 hT
 have hsz : v.cells.size = i.size := by rw [← hm, ← hv]; simp
 refine zfH (w' := w') ?_ (ky hc q2 hdiff) (h w' (ky hc q2 hdiff) (hS.write hsat hbel) (hO.write hk q2 hdiff ⟨q1, hc.2⟩ fun g hg => .inl hg))
 rw [Nat.zero_add] at hr
 simp [execOp, hX, hY, Instr.storeAt, Instr.sureAddr, storeVar, sizeOf, typeInfo, hi, hsz, hv, hr]
theorem zG {T m k e sz n cap g off : Nat} {X Y : Operand} {cells vs : List Value} {v : Value}
  (hT : szB P T = some m) (hS : Since B G0 w0 G w) (hO : Owns G w B L) (hk : L[k]? = some ⟨e, sz, n, .slice (some ⟨g, 0, none⟩) n cap, cells⟩)
  (hX : ev F X = .pointer (some ⟨g, off, none⟩)) (hY : ev F Y = v) (hv : v.cells.toList = vs) (hm : vs.length = m) (h1 : ∀ u ∈ vs, u.oneCell' = true) (hfit : off + vs.length ≤ cells.length)
  (h : ∀ w', Since B G0 w0 G w' → Owns G w' B (L.set k ⟨e, sz, n, .slice (some ⟨g, 0, none⟩) n cap, qD cells off vs⟩) → K F w') :
  OpP κ P N p ⟨none, .store T X Y, ty, pos, af, gd⟩ F w K :=
 zfI hT hS hO hk (by rw [Nat.zero_add]; exact hX) hY hv hm h1 hfit h
theorem zr {k e sz n cap g : Nat} {cells : List Value} (hO : Owns G w B L) (hk : L[k]? = some ⟨e, sz, n, .slice (some ⟨g, 0, none⟩) n cap, cells⟩) {j : Nat} {v : Value} (hj : cells[j]? = some v) : w.cell? ⟨g, j, none⟩ = some v := by
 have hc := hO.each _ (List.mem_of_getElem? hk)
 have := (hc.1 : ORow w B e sz (.slice (some ⟨g, 0, none⟩) n cap) n cells).cells hj
 rwa [Nat.zero_add] at this
end
theorem zU {vs : List Value} (h : vs.all (fun u => u.oneCell') = true) : ∀ u ∈ vs, u.oneCell' = true := fun u hu => List.all_eq_true.1 h u hu
theorem Rd.cons {α : Type} {R : Gm → List Value → α → Prop} {sz : Nat} {G : Gm} {c cells : List Value} {x : α} {xs : List α} (hl : c.length = sz) (hx : R G c x) (h : Rd R sz G cells xs) : Rd R sz G (c ++ cells) (x :: xs) :=
 Rd.append (xs := [x]) ⟨by simp [hl], fun i y hy => by
  cases i with
  | zero => simp at hy; subst hy; exact ⟨c, hl, fun j u hj => by simpa using hj, hx⟩
  | succ i => simp at hy⟩ h
theorem RSl.of_rd {α : Type} {R : Gm → List Value → α → Prop} {sz : Nat} {G : Gm} {b n : Nat} {cells : List Value} {xs : List α} (hc : Cells G b 0 cells) (h : Rd R sz G cells xs) (hn : n = xs.length) (hm : n ≤ maxLen) : RSl R sz G (some ⟨b, 0, none⟩) n n xs :=
 ⟨hn, ⟨hm, Nat.le_refl _⟩, fun i x hx => let ⟨cs, h1, h2, h3⟩ := h.2 i x hx; ⟨b, 0, cs, rfl, fun j u hj => by
  have := hc _ u (h2 j u hj)
  rw [← Nat.add_assoc] at this
  exact this, h1, h3⟩⟩
theorem bnd {α β : Type} {m : Option α} {f : α → Option β} {r : β} (h : m.bind f = some r) : ∃ x, m = some x ∧ f x = some r := by
 cases m with
 | none => cases h
 | some x => exact ⟨x, rfl, h⟩
theorem ifT {α : Type} {b : Bool} (hb : b = true) {A B : Option α} {r : α} (h : (if b = true then A else B) = some r) : A = some r := by rwa [if_pos hb] at h
theorem ifF {α : Type} {b : Bool} (hb : b = false) {A B : Option α} {r : α} (h : (if b = true then A else B) = some r) : B = some r := by rwa [if_neg (by rw [hb]; decide)] at h
section
variable {κ : Ctx} {p : List PanicEntry → Fr → World → Prop} {P : Program} {N : Nat} {F : Fr} {w : World} {K : Fr → World → Prop} {ty : TypeId} {pos : String} {af : Array Edge} {G : Gm} {B : Nat} {L : List Row} {ops : Array Oper} {l : List Oper}
theorem zg9 {α : Type} {R : Gm → List Value → α → Prop} {k T e sz bytes t n cp n' : Nat} {X I : Operand} {ao : Option Addr} {cells : List Value} {xs : List α} {kd : IntKind} {i : Int} {y : α} {gd : Option (Nat × Bool)}
  (hT : slB P T = some (e, sz, bytes)) (hO : Owns G w B L) (hk : L[k]? = some ⟨e, sz, n', .slice ao n cp, cells⟩) (hn : n' = xs.length) (hrd : Rd R sz G cells xs) (hix : ix xs i = some y) (hx : ev F X = .slice ao n cp) (hi : ev F I = .int kd i) :
  ∃ g o cs, (∀ w, (execOp (ev F) ⟨some t, .indexAddr T X I, ty, pos, af, gd⟩).run P w = .ok (.value (.pointer (some ⟨g, o + i.toNat * sz, none⟩))) w) ∧ ao = some ⟨g, o, none⟩ ∧ cs.length = sz ∧ (∀ j u, cs[j]? = some u → cells[i.toNat * sz + j]? = some u) ∧ R G cs y := by
 obtain ⟨hu, inf, z, h1, h2, h3, h4, h5, h6⟩ := kG hT
 obtain ⟨p1, p2, p3⟩ := zhv hix
 have hc := hO.each _ (List.mem_of_getElem? hk)
 obtain ⟨cs, q1, q2, q3⟩ := hrd.2 _ _ p3
 rcases hc.1.2 with ⟨hv, hz⟩ | ⟨g, o, cap, cur, hv, hbg, hg, hnc, hcm, hcs, htake⟩ | ⟨_, hv, _⟩
 ·have hz' : n' = 0 := hz
  omega
 ·have hv' : Value.slice ao n cp = .slice (some ⟨g, o, none⟩) n' cap := hv
  cases hv'
  refine ⟨g, o, cs, fun w => ?_, rfl, q1, q2, q3⟩
  have hlt : i < (n : Int) := by omega
  simp [execOp, hx, hi, Instr.indexAt, asIntOf, run_underlying hu, p1, hlt, sizeOf, typeInfo, h1, h3, xf]
 ·have : Value.slice ao n cp = _ := hv
  cases this
variable {pw : List PanicEntry → World → Prop} {C : Nat → World → Prop} {fl : List Nat} {r : OT} {q : Nat}
theorem q9 {α : Type} {R : Gm → List Value → α → Prop} {k T e sz bytes t n cp n' : Nat} {X I : Operand} {ao : Option Addr} {cells : List Value} {xs : List α} {kd : IntKind} {i : Int} {y : α}
  (hq : ops.toList[q]? = some ⟨some t, .indexAddr T X I, ty, pos, af, none⟩)
  (hT : slB P T = some (e, sz, bytes)) (hO : Owns G w B L) (hk : L[k]? = some ⟨e, sz, n', .slice ao n cp, cells⟩) (hn : n' = xs.length) (hrd : Rd R sz G cells xs) (hix : ix xs i = some y) (hx : ev F X = .slice ao n cp) (hi : ev F I = .int kd i) (hd : Nat.blt t N = true)
  (h : ∀ g o cs, ao = some ⟨g, o, none⟩ → cs.length = sz → (∀ j u, cs[j]? = some u → cells[i.toNat * sz + j]? = some u) → R G cs y → WD κ P N pw ops C fl K r (upd F t (.pointer (some ⟨g, o + i.toNat * sz, none⟩))) w) : WD κ P N pw ops C fl K (.fl q r) F w := by
 obtain ⟨g, o, cs, hrun, h1, h2, h3, h4⟩ := zg9 (P := P) (F := F) (t := t) (ty := ty) (pos := pos) (af := af) (gd := none) hT hO hk hn hrd hix hx hi
 exact zh hq (fun w _ => hrun w) hd (h g o cs h1 h2 h3 h4)
theorem zjq {α : Type} {R : Gm → List Value → α → Prop} {k T e sz bytes t n cp n' : Nat} {X I : Operand} {ao : Option Addr} {cells : List Value} {xs : List α} {kd : IntKind} {i : Int} {y : α} {j' g' : Nat} {want b' : Bool}
  (hq : ops.toList[q]? = some ⟨some t, .indexAddr T X I, ty, pos, af, some (j', want)⟩) (hj : (ops.toList[j']?).bind (·.dst) = some g') (hb : b' = want) (hF : F g' = .bool b') (hg : Nat.blt g' N = true)
  (hT : slB P T = some (e, sz, bytes)) (hO : Owns G w B L) (hk : L[k]? = some ⟨e, sz, n', .slice ao n cp, cells⟩) (hn : n' = xs.length) (hrd : Rd R sz G cells xs) (hix : ix xs i = some y) (hx : ev F X = .slice ao n cp) (hi : ev F I = .int kd i) (hd : Nat.blt t N = true)
  (h : ∀ g o cs, ao = some ⟨g, o, none⟩ → cs.length = sz → (∀ j u, cs[j]? = some u → cells[i.toNat * sz + j]? = some u) → R G cs y → WD κ P N pw ops C fl K r (upd F t (.pointer (some ⟨g, o + i.toNat * sz, none⟩))) w) : WD κ P N pw ops C fl K (.fl q r) F w := by
 obtain ⟨g, o, cs, hrun, h1, h2, h3, h4⟩ := zg9 (P := P) (F := F) (t := t) (ty := ty) (pos := pos) (af := af) (gd := some (j', want)) hT hO hk hn hrd hix hx hi
 exact qF hq hj hb hF hg (fun w _ => hrun w) hd (h g o cs h1 h2 h3 h4)
end
theorem zhm {b : Bool} {p : Prop} (h : b = false) (h' : b = true) : p := by rw [h] at h'; cases h'
theorem qo (b : Bool) : b = true ∨ b = false := by cases b <;> simp
theorem notT {b : Bool} (h : b = false) : (!b) = true := by rw [h]; rfl
theorem Owns.le {G G' : Gm} {w : World} {B : Nat} {L : List Row} (h : Owns G' w B L) (hle : Gle G G') : Owns G w B L :=
 ⟨fun c hc => ⟨(h.each c hc).1, fun g hg => by
  cases hG : G g with
  | none => rfl
  | some o => have := hle _ _ hG; rw [(h.each c hc).2 g hg] at this; cases this⟩, h.apart, h.base⟩
section
variable {κ : Ctx} {p : List PanicEntry → Fr → World → Prop} {P : Program} {N : Nat} {F : Fr} {w : World} {K : Fr → World → Prop} {d : Nat} {ty : TypeId} {pos : String} {af : Array Edge} {ops : Array Oper} {l : List Oper} {G : Gm} {B : Nat} {L : List Row} {gd : Option (Nat × Bool)}
theorem zbp {op : Op} {j g : Nat} {want : Bool} (hj : (ops[j]?).bind (·.dst) = some g) (hF : F g = undef) (hd : Nat.blt d N = true) (hg : Nat.blt g N = true) (h : WL κ P N ops p K l (upd F d undef) w) :
  WL κ P N ops p K (⟨some d, op, ty, pos, af, some (j, want)⟩ :: l) F w := by
 intro a wI h1 h3
 have hd' : d < a.tmps.size := by exact h1.lt hd
 have hg' : g < a.tmps.size := by exact h1.lt hg
 have hy : yielded ops a.tmps j = none := by
  unfold yielded
  rw [hj]
  have h4 : a.tmps[g]? = some undef := by
   rw [Array.getElem?_eq_getElem hg']
   have h2 : a.tmps.getD g undef = a.tmps[g] := by simp [Array.getD, hg']
   rw [← h2]
   exact congrArg some (by rw [← h3] at hF; exact hF)
  simp [h4, undef]
 refine znJ (by simp [Region.wanted, hy]) (h _ wI (h1.puts _ _) ?_)
 ·rw [← h3]; exact qY a d undef hd'
theorem qX {k e sz n cap g : Nat} {cells : List Value} (hO : Owns G w B L) (hk : L[k]? = some ⟨e, sz, n, .slice (some ⟨g, 0, none⟩) n cap, cells⟩) (off m : Nat) (j : Nat) (v : Value) (hj : ((cells.drop off).take m)[j]? = some v) : w.cell? ⟨g, off + j, none⟩ = some v := by
 refine zr hO hk (j := off + j) ?_
 rw [List.getElem?_take] at hj
 split at hj
 ·rw [List.getElem?_drop] at hj; exact hj
 ·cases hj
theorem zmA {k e sz n n' cap g o : Nat} {ao : Option Addr} {cells : List Value} (hO : Owns G w B L) (hk : L[k]? = some ⟨e, sz, n', .slice ao n cap, cells⟩) (ha : ao = some ⟨g, o, none⟩) {j : Nat} {v : Value} (hj : cells[j]? = some v) : w.cell? ⟨g, o + j, none⟩ = some v := by
 subst ha
 have hc := hO.each _ (List.mem_of_getElem? hk)
 have h1 : ORow w B e sz (.slice (some ⟨g, o, none⟩) n cap) n' cells := hc.1
 have hn : n = n' := by
  rcases h1.2 with ⟨hv, _⟩ | ⟨g', o', cap', cur, hv, _⟩ | ⟨_, hv, _⟩
  ·cases hv
  ·cases hv; rfl
  ·cases hv
 subst hn
 exact h1.cells hj
theorem qR {k e sz n n' cap g o : Nat} {ao : Option Addr} {cells : List Value} (hO : Owns G w B L) (hk : L[k]? = some ⟨e, sz, n', .slice ao n cap, cells⟩) (ha : ao = some ⟨g, o, none⟩) (x j : Nat) {v : Value} (hj : cells[x + j]? = some v) : w.cell? ⟨g, o + x + j, none⟩ = some v := by
 have h := zmA hO hk ha hj
 rwa [← Nat.add_assoc] at h
variable {pw : List PanicEntry → World → Prop} {C : Nat → World → Prop} {fl : List Nat} {r : OT} {i : Nat}
theorem zjp {op : Op} {j g : Nat} {want b : Bool} (hi : ops.toList[i]? = some ⟨some d, op, ty, pos, af, some (j, want)⟩)
  (hj : (ops.toList[j]?).bind (·.dst) = some g) (hb : b = !want) (hF : F g = .bool b) (hg : Nat.blt g N = true) (hd : Nat.blt d N = true) (hC : ∀ q, xv ops fl i q = true → C q w) (h : WD κ P N pw ops C fl K r (upd F d undef) w) : WD κ P N pw ops C fl K (.on i r) F w := by
 intro a wI h1 h3
 have hd' : d < a.tmps.size := by exact h1.lt hd
 have hg' : g < a.tmps.size := by exact h1.lt hg
 have hy := xE (a := a) (ops := ops) (j := j) (by simpa using hj) (by rw [h3]; exact hF) hg'
 have hi' : ops[i]? = some ⟨some d, op, ty, pos, af, some (j, want)⟩ := by simpa using hi
 have hw : Region.wanted (⟨some d, op, ty, pos, af, some (j, want)⟩ : Oper) (yielded ops a.tmps) = false := by simp [Region.wanted, hy, hb]
 unfold zbz wpOp
 simp only [hi', hw, Bool.false_eq_true, if_false]
 refine ⟨hC, h _ wI (h1.puts _ _) ?_⟩
 ·rw [← h3]; exact qY a d undef hd'
theorem znk {op : Op} {j g : Nat} {want : Bool} (hi : ops.toList[i]? = some ⟨some d, op, ty, pos, af, some (j, want)⟩)
  (hj : (ops.toList[j]?).bind (·.dst) = some g) (hF : F g = undef) (hg : Nat.blt g N = true) (hd : Nat.blt d N = true) (hC : ∀ q, xv ops fl i q = true → C q w) (h : WD κ P N pw ops C fl K r (upd F d undef) w) : WD κ P N pw ops C fl K (.on i r) F w := by
 intro a wI h1 h3
 have hd' : d < a.tmps.size := by exact h1.lt hd
 have hg' : g < a.tmps.size := by exact h1.lt hg
 have hi' : ops[i]? = some ⟨some d, op, ty, pos, af, some (j, want)⟩ := by simpa using hi
 have hy : yielded ops a.tmps j = none := by
  unfold yielded
  have hj' : (ops[j]?).bind (·.dst) = some g := by simpa using hj
  rw [hj']
  have h4 : a.tmps[g]? = some undef := by
   rw [Array.getElem?_eq_getElem hg']
   have h2 : a.tmps.getD g undef = a.tmps[g] := by simp [Array.getD, hg']
   rw [← h2]
   exact congrArg some (by rw [← h3] at hF; exact hF)
  simp [h4, undef]
 have hw : Region.wanted (⟨some d, op, ty, pos, af, some (j, want)⟩ : Oper) (yielded ops a.tmps) = false := by simp [Region.wanted, hy]
 unfold zbz wpOp
 simp only [hi', hw, Bool.false_eq_true, if_false]
 refine ⟨hC, h _ wI (h1.puts _ _) ?_⟩
 ·rw [← h3]; exact qY a d undef hd'
theorem zul {X Y : Operand} {k : IntKind} {m n : Int} {ats : Array TypeId} (hx : ev F X = .int k m) (hy : ev F Y = .int k n) :
  (execOp (ev F) ⟨some d, .call { callee := .builtin .min, args := #[X, Y], argTypes := ats }, ty, pos, af, gd⟩).run P w = .ok (.value (.int k (if n < m then n else m))) w := by
 simp [execOp, resolve, invoke, builtin, Builtin.min_, hx, hy, Builtin.min2]
end
section
variable {κ : Ctx} {p : List PanicEntry → Fr → World → Prop} {P : Program} {N : Nat} {F : Fr} {w : World} {K : Fr → World → Prop} {ty : TypeId} {pos : String} {af : Array Edge} {G : Gm} {B : Nat} {L : List Row} {gd : Option (Nat × Bool)}
theorem zqL {α : Type} {R : Gm → List Value → α → Prop} {k T e sz bytes t n cp n' : Nat} {X I : Operand} {ao : Option Addr} {cells : List Value} {xs : List α} {kd : IntKind} {i : Int} {y : α}
  (hT : slB P T = some (e, sz, bytes)) (hO : Owns G w B L) (hk : L[k]? = some ⟨e, sz, n', .slice ao n cp, cells⟩) (hn : n' = xs.length) (hrd : Rd R sz G cells xs) (hix : ix xs i = some y) (hx : ev F X = .slice ao n cp) (hi : ev F I = .int kd i) (hd : Nat.blt t N = true)
  (h : ∀ g o cs, ao = some ⟨g, o, none⟩ → cs.length = sz → (∀ j u, cs[j]? = some u → cells[i.toNat * sz + j]? = some u) → R G cs y → K (upd F t (.pointer (some ⟨g, o + i.toNat * sz, none⟩))) w) : OpP κ P N p ⟨some t, .indexAddr T X I, ty, pos, af, gd⟩ F w K := by
 obtain ⟨g, o, cs, hrun, h1, h2, h3, h4⟩ := zg9 (P := P) (F := F) (t := t) (ty := ty) (pos := pos) (af := af) (gd := gd) hT hO hk hn hrd hix hx hi
 exact zY (hrun w) hd (h g o cs h1 h2 h3 h4)
end
section
variable {κ : Ctx} {p : List PanicEntry → Fr → World → Prop} {P : Program} {N : Nat} {F : Fr} {w : World} {K : Fr → World → Prop} {d : Nat} {ty : TypeId} {pos : String} {af : Array Edge} {gd : Option (Nat × Bool)} {G : Gm} {od : Option Nat}
theorem yu {fn : Fn} {fi ca : Array Operand} {vs us : List Value} (h1 : fi.toList.map (ev F) = vs) (h2 : ca.toList.map (ev F) = us) : (execOp (ev F) ⟨od, .makeFunc fn fi ca, ty, pos, af, gd⟩).run P w = .ok (.value (.func fn vs.toArray us.toArray)) w := by
 have e1 : Array.map (ev F) fi = vs.toArray := by rw [← h1]; exact Array.ext' (by rw [Array.toList_map])
 have e2 : Array.map (ev F) ca = us.toArray := by rw [← h2]; exact Array.ext' (by rw [Array.toList_map])
 simp [execOp, Instr.makeFunc, e1, e2]
theorem zci {k : Nat} {X : Operand} {args : Array Operand} {ats : Array TypeId} {al fi ca : List Value} (hk : zJ P k = true) (hx : ev F X = .func (.func k) fi.toArray ca.toArray) (ha : args.toList.map (ev F) = al) :
  (execOp (ev F) ⟨od, .call { callee := .value X, args := args, argTypes := ats }, ty, pos, af, gd⟩).run P w = .ok (.enter k (fi ++ al ++ ca).toArray) w := by
 have h0 : Array.map (ev F) args = al.toArray := by rw [← ha]; exact Array.ext' (by rw [Array.toList_map])
 unfold zJ at hk
 split at hk
 ·rename_i fn hf
  simp only [Bool.and_eq_true, Bool.not_eq_true'] at hk
  obtain ⟨c, hb⟩ := Option.isSome_iff_exists.1 hk.2
  have hn : ¬ fn.name = "runtime.NumGoroutine" := by simpa using hk.1
  simp [execOp, resolve, hx, Deferred.ofValue, h0, invoke, callFunc, hf, hn, hb]
 ·cases hk
theorem ym {k : Nat} {X : Operand} {args : Array Operand} {ats : Array TypeId} {al fi ca : List Value} {v : Value} (hk : zJ P k = true) (hc : Calls P k (fi ++ al ++ ca).toArray w (qW w v)) (hx : ev F X = .func (.func k) fi.toArray ca.toArray) (ha : args.toList.map (ev F) = al) (hd : Nat.blt d N = true)
  (h : ∀ w', Below w.heap.size w w' → K (upd F d v) w') : OpP κ P N p ⟨some d, .call { callee := .value X, args := args, argTypes := ats }, ty, pos, af, gd⟩ F w K :=
 jd (zci hk hx ha) hd hc fun _ w'' hR => ⟨v, hR.1, .below hR.2, h w'' hR.2⟩
section
variable {t u : TypeId} {x y : Operand} {k k' : IntKind} {m n : Int}
def zmp (k : IntKind) (m n : Int) : Option Int := if n < 0 then none else some (k.wrap (m * 2 ^ min n.toNat k.bits))
def znK (k : IntKind) (m n : Int) : Option Int := if n < 0 then none else some (m.fdiv (2 ^ min n.toNat k.bits))
def zs5 (k : IntKind) (m n : Int) : Int := k.wrap (BitVec.ofInt k.bits m &&& BitVec.ofInt k.bits n).toNat
def orI (k : IntKind) (m n : Int) : Int := k.wrap (BitVec.ofInt k.bits m ||| BitVec.ofInt k.bits n).toNat
theorem zg8 {r : Int} (hx : ev F x = .int k m) (hy : ev F y = .int k' n) (hr : zmp k m n = some r) : (execOp (ev F) ⟨od, .binOp .shl t x y u, ty, pos, af, gd⟩).run P w = .ok (.value (.int k r)) w := by
 unfold zmp at hr
 split at hr
 ·cases hr
 ·rename_i h0; cases hr; simp [execOp, hx, hy, eqGuard, binOp, Op.shift, h0]
theorem zg7 {r : Int} (hx : ev F x = .int k m) (hy : ev F y = .int k' n) (hr : znK k m n = some r) : (execOp (ev F) ⟨od, .binOp .shr t x y u, ty, pos, af, gd⟩).run P w = .ok (.value (.int k r)) w := by
 unfold znK at hr
 split at hr
 ·cases hr
 ·rename_i h0; cases hr; simp [execOp, hx, hy, eqGuard, binOp, Op.shift, h0]
theorem zjU (hx : ev F x = .int k m) (hy : ev F y = .int k n) : (execOp (ev F) ⟨od, .binOp .and t x y u, ty, pos, af, gd⟩).run P w = .ok (.value (.int k (zs5 k m n))) w := by simp [execOp, hx, hy, eqGuard, binOp, Op.intBits, zs5]
theorem zxc (hx : ev F x = .int k m) (hy : ev F y = .int k n) : (execOp (ev F) ⟨od, .binOp .or t x y u, ty, pos, af, gd⟩).run P w = .ok (.value (.int k (orI k m n))) w := by simp [execOp, hx, hy, eqGuard, binOp, Op.intBits, orI]
end
def xU (P : Program) : List Field → Nat → Bool
 | [], _ => true
 | f :: fs, o => !(f.name == "_") && decide (f.offset = o) && (match P.underlying f.type with | some (.int _) => true | _ => false) && xU P fs (o + 1)
def zdL (P : Program) (t : Nat) : Bool :=
 (match P.underlying t with | some (.struct fs) => xU P fs.toList 0 | _ => false) && !P.stoodInHeld t && !P.eqGuardType P.depth t
def yE (k : IntKind) (l : List Int) : List Value := l.map (Value.int k)
theorem zbJ {k : IntKind} (dd : Nat) (xs ys : List Int) : ∀ (fs : List Field) (o : Nat), xU P fs o = true → xs.length = o + fs.length → ys.length = o + fs.length →
  (Op.eqFields (dd + 1) (yE k xs).toArray (yE k ys).toArray fs).run P w = .ok (xs.drop o == ys.drop o) w
 | [], o, _, hx, hy => by
  rw [List.drop_of_length_le (by simpa using Nat.le_of_eq hx), List.drop_of_length_le (by simpa using Nat.le_of_eq hy)]
  simp [Op.eqFields]
 | f :: fs, o, h, hx, hy => by
  simp only [xU, Bool.and_eq_true, decide_eq_true_eq] at h
  obtain ⟨⟨⟨h1, h2⟩, h3⟩, h4⟩ := h
  simp only [List.length_cons] at hx hy
  have ih := zbJ (k := k) dd xs ys fs (o + 1) h4 (by omega) (by omega)
  have hn : ¬ f.name = "_" := by simpa using h1
  split at h3
  ·rename_i k' hu
   have ex : xs.drop o = xs[o]'(by omega) :: xs.drop (o + 1) := List.drop_eq_getElem_cons (by omega)
   have ey : ys.drop o = ys[o]'(by omega) :: ys.drop (o + 1) := List.drop_eq_getElem_cons (by omega)
   have hpart : ∀ (zs : List Int) (hz : o < zs.length), (part f.type (yE k zs).toArray f.offset).run P w = .ok (.int k zs[o]) w := by
    intro zs hz
    have hg : (yE k zs).toArray[o]? = some (.int k zs[o]) := by simp [yE, hz]
    simp [part, isAgg, run_underlying hu, h2, yE, hz]
   have hE : (Op.equalIn (dd + 1) f.type (.int k (xs[o]'(by omega))) (.int k (ys[o]'(by omega)))).run P w = .ok (xs[o]'(by omega) == ys[o]'(by omega)) w := run_equalIn_int w dd f.type k k' _ _ hu
   unfold Op.eqFields
   simp only [hn, ne_eq, not_false_eq_true, if_true, Sem.run_bind, hpart xs (by omega), hpart ys (by omega), Result.andThen_ok, hE]
   rw [ex, ey]
   by_cases he : xs[o]'(by omega) = ys[o]'(by omega)
   ·have hb : (xs[o]'(by omega) == ys[o]'(by omega)) = true := by simpa using he
    rw [List.cons_beq_cons, hb, Bool.true_and]
    simpa using ih
   ·have hb : (xs[o]'(by omega) == ys[o]'(by omega)) = false := by simpa using he
    rw [List.cons_beq_cons, hb, Bool.false_and]
    simp
  ·cases h3
theorem jB {t : Nat} (h : zdL P t = true) : P.underlying t = some (.struct (P.fieldsOf t)) ∧ xU P (P.fieldsOf t).toList 0 = true ∧ P.stoodInHeld t = false ∧ P.eqGuardType P.depth t = false := by
 unfold zdL at h
 simp only [Bool.and_eq_true, Bool.not_eq_true'] at h
 obtain ⟨⟨h1, h2⟩, h3⟩ := h
 split at h1
 ·rename_i fs hu
  have : P.fieldsOf t = fs := by simp [Program.fieldsOf, hu]
  rw [this]
  exact ⟨hu, h1, h2, h3⟩
 ·cases h1
def zwW (P : Program) (t : TypeId) (ad : Addr) (v : Value) (w : World) : Prop := ∀ w', (∀ a u, w.cell? a = some u → w'.cell? a = some u) → (loadVar t ad).run P w' = .ok v w'
def ResOk (P : Program) (F : Fr) (w : World) : List ResultVar → List Value → Prop
 | [], [] => True
 | .tmp t :: rs, v :: vs => F t = v ∧ ResOk P F w rs vs
 | .cell a t :: rs, v :: vs => (∃ ad, F a = .pointer (some ad) ∧ zwW P t ad v w) ∧ ResOk P F w rs vs
 | _, _ => False
def resOf : List Value → Value
 | [v] => v
 | vs => .tuple vs.toArray
def jj (tmps : Array Value) : ResultVar → Sem Value
 | .tmp t => pure (tmps.getD t undef)
 | .cell a t => do loadVar t (← asAddr (tmps.getD a undef))
theorem zav {tmps : Array Value} : ∀ (rs : List ResultVar) (vs : List Value), ResOk P (fun t => tmps.getD t undef) w rs vs → (rs.mapM (jj tmps)).run P w = .ok vs w
 | [], [], _ => by simp
 | .tmp t :: rs, v :: vs, h => by
  have ih := zav rs vs h.2
  have h1 : tmps.getD t undef = v := h.1
  have hs : (jj tmps (.tmp t)).run P w = .ok v w := by simp only [jj, Sem.run_pure, h1]
  simp only [List.mapM_cons, Sem.run_bind, hs, Result.andThen_ok, ih, Sem.run_pure]
 | .cell a t :: rs, v :: vs, h => by
  obtain ⟨⟨ad, h1, h2⟩, h3⟩ := h
  have ih := zav rs vs h3
  have h1' : tmps.getD a undef = .pointer (some ad) := h1
  have hs : (jj tmps (.cell a t)).run P w = .ok v w := by
   simp only [jj, Sem.run_bind, h1', asAddr, Sem.run_pure, Result.andThen_ok, h2 w fun _ _ h => h]
  simp only [List.mapM_cons, Sem.run_bind, hs, Result.andThen_ok, ih, Sem.run_pure]
 | [], _ :: _, h => h.elim
 | .tmp _ :: _, [], h => h.elim
 | .cell _ _ :: _, [], h => h.elim
theorem zck (fn : Func) (tmps : Array Value) : results fn tmps = (do
  let vs ← fn.results.mapM (jj tmps)
  pure (if h : vs.size = 1 then vs[0] else .tuple vs)) := by
 unfold results
 congr 1
theorem zaw {fn : Func} {tmps : Array Value} {rs : List ResultVar} {vs : List Value} (hr : fn.results = rs.toArray) (h : ResOk P (fun t => tmps.getD t undef) w rs vs) : (results fn tmps).run P w = .ok (resOf vs) w := by
 have h0 := zav rs vs h
 rw [zck, hr, List.mapM_toArray]
 simp only [Sem.run_bind, Sem.run_map, h0, Result.andThen_ok, Sem.run_pure]
 clear h0 h
 rcases vs with _ | ⟨v, _ | ⟨u, vs⟩⟩
 ·rfl
 ·rfl
 ·simp [resOf]
theorem ResOk.shut {B : Nat} {F : Fr} {w w' : World} (hs : Shut B w w') : ∀ (rs : List ResultVar) (vs : List Value), ResOk P F w rs vs → ResOk P F w' rs vs
 | [], [], _ => trivial
 | .tmp _ :: rs, _ :: vs, h => ⟨h.1, ResOk.shut hs rs vs h.2⟩
 | .cell _ _ :: rs, _ :: vs, ⟨⟨ad, h1, h2⟩, h3⟩ => ⟨⟨ad, h1, fun w2 hw => h2 w2 fun a u h => hw a u (hs.cell h)⟩, ResOk.shut hs rs vs h3⟩
 | [], _ :: _, h => h.elim
 | .tmp _ :: _, [], h => h.elim
 | .cell _ _ :: _, [], h => h.elim
theorem zdo {f : FuncId} {fn : Func} {c : Code} {al : List Value} {R : Ending → World → Prop} {N : Nat} (hR : zdv w.heap.size R) (rs : List ResultVar) (hf : P.funcs[f]? = some fn) (hb : fn.body = some c) (hr : fn.results = rs.toArray) (hn : fn.ntmps = N) (hN : Nat.ble al.length N = true)
  (h : WC ⟨none, none, w.heap.size, false, []⟩ P N c ⟨fun F w' => ∃ vs, ResOk P F w' rs vs ∧ R (.returned (resOf vs)) w', fun F w' => ∃ vs, ResOk P F w' rs vs ∧ R (.returned (resOf vs)) w', [], fun _ _ _ => False⟩ (kJ al) w) : Calls P f al.toArray w R :=
 zku _ hf hb hn hN (fun _ _ _ ⟨_, h1, h2⟩ hs => ⟨_, zaw hr (h1.shut hs), hR.out _ _ _ h2 hs⟩) h
theorem zoB {T : Nat} {a : Addr} {v : Value} (hT : naB P T = true) (hc : w.cell? a = some v) : zwW P T a v w := fun w' hw => by
 simp [loadVar, zim hT, load, Sem.run, hw _ _ hc]
theorem vi {T n b off : Nat} {cs : List Value} (hT : agB P T = some n) (hl : cs.length = n) (hc : ∀ j v, cs[j]? = some v → w.cell? ⟨b, off + j, none⟩ = some v) : zwW P T ⟨b, off, none⟩ (.agg cs.toArray) w := fun w' hw => by
 have h2 : (loadCells ⟨b, off, none⟩ n).run P w' = .ok cs.toArray w' := by
  subst hl
  exact run_loadCells_list (P := P) w' ⟨b, off, none⟩ cs (fun j v hj => by rw [xf]; exact hw _ _ (hc j v hj))
 simp [loadVar, (zcR (P := P) (w := w') hT).1, (zcR (P := P) (w := w') hT).2, h2]
end
def zet {α : Type} (xs : List α) (i : Int) (y : α) : Option (List α) := if 0 ≤ i ∧ i.toNat < xs.length then some (xs.set i.toNat y) else none
theorem zjM {α : Type} {xs zs : List α} {i : Int} {y : α} (h : zet xs i y = some zs) : 0 ≤ i ∧ i.toNat < xs.length ∧ zs = xs.set i.toNat y := by
 unfold zet at h
 split at h
 ·rename_i h0; exact ⟨h0.1, h0.2, (nQs h).symm⟩
 ·cases h
def mkS {α : Type} (n : Int) (x : α) : Option (List α) := if 0 ≤ n ∧ n ≤ 1073741824 then some (List.replicate n.toNat x) else none
theorem zor {α : Type} {n : Int} {x : α} {xs : List α} (h : mkS n x = some xs) : 0 ≤ n ∧ n ≤ 1073741824 ∧ xs = List.replicate n.toNat x := by
 unfold mkS at h
 split at h
 ·rename_i h0; exact ⟨h0.1, h0.2, (nQs h).symm⟩
 ·cases h
theorem ku {cells vs : List Value} {off j : Nat} (hfit : off + vs.length ≤ cells.length) : (qD cells off vs)[j]? = if off ≤ j ∧ j < off + vs.length then vs[j - off]? else cells[j]? := by
 unfold qD
 rw [List.append_assoc, List.getElem?_append, List.getElem?_append, List.getElem?_take, List.getElem?_drop, List.length_take]
 have hm : min off cells.length = off := by omega
 rw [hm]
 by_cases h1 : j < off
 ·rw [if_pos h1, if_pos h1, if_neg (by omega)]
 ·rw [if_neg h1]
  by_cases h2 : j - off < vs.length
  ·rw [if_pos h2, if_pos (by omega)]
  ·rw [if_neg h2, if_neg (by omega)]
   congr 1
   omega
theorem jE {cells vs : List Value} {off : Nat} (hfit : off + vs.length ≤ cells.length) : (qD cells off vs).length = cells.length := by
 unfold qD
 simp only [List.length_append, List.length_take, List.length_drop]
 omega
theorem Rd.set {α : Type} {R : Gm → List Value → α → Prop} {sz : Nat} {G : Gm} {cells vs cs : List Value} {xs : List α} {i k : Nat} {y : α} (h : Rd R sz G cells xs) (hi : i < xs.length) (hl : cs.length = sz)
  (hc : ∀ j u, cs[j]? = some u → cells[i * sz + j]? = some u) (hk : k + vs.length ≤ sz) (hR : R G (qD cs k vs) y) : Rd R sz G (qD cells (i * sz + k) vs) (xs.set i y) := by
 have hle : i * sz + sz ≤ cells.length := by
  rw [h.1, ← Nat.succ_mul]; exact Nat.mul_le_mul_right _ hi
 have hfit : i * sz + k + vs.length ≤ cells.length := by omega
 refine ⟨by rw [jE hfit, h.1, List.length_set], fun q x hx => ?_⟩
 by_cases hq : q = i
 ·subst hq
  rw [List.getElem?_set_self hi] at hx
  cases hx
  refine ⟨qD cs k vs, by rw [jE (by omega)]; exact hl, fun j u hj => ?_, hR⟩
  rw [ku (by omega)] at hj
  rw [ku hfit]
  by_cases hjk : k ≤ j ∧ j < k + vs.length
  ·rw [if_pos hjk] at hj
   rw [if_pos (by omega)]
   rw [show q * sz + j - (q * sz + k) = j - k by omega]
   exact hj
  ·rw [if_neg hjk] at hj
   rw [if_neg (by omega)]
   exact hc j u hj
 ·rw [List.getElem?_set_ne (fun e => hq e.symm)] at hx
  obtain ⟨cs', p1, p2, p3⟩ := h.2 q x hx
  refine ⟨cs', p1, fun j u hj => ?_, p3⟩
  rw [ku hfit]
  have hjs : j < sz := by rw [← p1]; exact (List.getElem?_eq_some_iff.1 hj).1
  rw [if_neg ?_]
  ·exact p2 j u hj
  ·rintro ⟨a1, a2⟩
   rcases Nat.lt_or_gt_of_ne hq with hlt | hgt
   ·have : q * sz + sz ≤ i * sz := by rw [← Nat.succ_mul]; exact Nat.mul_le_mul_right _ hlt
    omega
   ·have : i * sz + sz ≤ q * sz := by rw [← Nat.succ_mul]; exact Nat.mul_le_mul_right _ hgt
    omega
theorem Rd.rep {α : Type} {R : Gm → List Value → α → Prop} {sz : Nat} {G : Gm} {c : List Value} {x : α} (hl : c.length = sz) (hR : R G c x) : ∀ (n : Nat), Rd R sz G (List.replicate n c).flatten (List.replicate n x)
 | 0 => by simpa using Rd.nil R sz G
 | n + 1 => by
  rw [List.replicate_succ, List.replicate_succ, List.flatten_cons]
  exact Rd.cons hl hR (Rd.rep hl hR n)
section
variable {κ : Ctx} {p : List PanicEntry → Fr → World → Prop} {P : Program} {N : Nat} {F : Fr} {w : World} {K : Fr → World → Prop} {d : Nat} {ty : TypeId} {pos : String} {af : Array Edge} {gd : Option (Nat × Bool)} {G G0 : Gm} {w0 : World} {B : Nat} {L : List Row}
theorem yZ {α : Type} {R : Gm → List Value → α → Prop} {T m k e sz n n' cap g o j : Nat} {ao : Option Addr} {X Y : Operand} {cells vs cs : List Value} {v : Value} {xs zs : List α} {i : Int} {y : α}
  (hT : szB P T = some m) (hS : Since B G0 w0 G w) (hO : Owns G w B L) (hk : L[k]? = some ⟨e, sz, n', .slice ao n cap, cells⟩) (hn : n' = xs.length) (hnn : n = n') (hrd : Rd R sz G cells xs) (ha : ao = some ⟨g, o, none⟩)
  (hl : cs.length = sz) (hc : ∀ j u, cs[j]? = some u → cells[i.toNat * sz + j]? = some u) (hset : zet xs i y = some zs) (hR : R G (qD cs j vs) y)
  (hX : ev F X = .pointer (some ⟨g, o + i.toNat * sz + j, none⟩)) (hY : ev F Y = v) (hv : v.cells.toList = vs) (hm : vs.length = m) (h1 : ∀ u ∈ vs, u.oneCell' = true) (hfit : j + vs.length ≤ sz)
  (h : ∀ w' cells', Since B G0 w0 G w' → Owns G w' B (L.set k ⟨e, sz, n', .slice ao n cap, cells'⟩) → Rd R sz G cells' zs → K F w') :
  OpP κ P N p ⟨none, .store T X Y, ty, pos, af, gd⟩ F w K := by
 subst ha
 subst hnn
 obtain ⟨p1, p2, rfl⟩ := zjM hset
 have hfit' : i.toNat * sz + j + vs.length ≤ cells.length := by
  rw [hrd.1]
  have : i.toNat * sz + sz ≤ xs.length * sz := by rw [← Nat.succ_mul]; exact Nat.mul_le_mul_right _ p2
  omega
 exact zfI hT hS hO hk (by rw [hX, Nat.add_assoc]) hY hv hm h1 hfit' fun w' a b => h w' _ a b (hrd.set p2 hl hc hfit hR)
theorem zjv {α : Type} {R : Gm → List Value → α → Prop} {T e sz bytes : Nat} {X Y : Operand} {nn : Int} {k1 k2 : IntKind} {x : α} {xs : List α} {z : List Value}
  (hT : slB P T = some (e, sz, bytes)) (hz : (P.info? e).bind (fun i => i.zero.map (fun v => v.cells.toList)) = some z) (hS : Since B G0 w0 G w) (hO : Owns G w B L) (hxs : mkS nn x = some xs) (hR : R G z x)
  (hX : ev F X = .int k1 nn) (hY : ev F Y = .int k2 nn) (hd : Nat.blt d N = true) (hby : Nat.ble bytes 65536 = true)
  (h : ∀ b w' cells, Since B G0 w0 G w' → Owns G w' B (⟨e, sz, xs.length, .slice (some ⟨b, 0, none⟩) xs.length xs.length, cells⟩ :: L) → Rd R sz G cells xs → K (upd F d (.slice (some ⟨b, 0, none⟩) xs.length xs.length)) w') :
  OpP κ P N p ⟨some d, .makeSlice T X Y, ty, pos, af, gd⟩ F w K := by
 obtain ⟨p1, p2, rfl⟩ := zor hxs
 obtain ⟨ht, i, zv, hi, hzv, rfl, rfl, hzs, hsz⟩ := kG hT
 have hzz : z = zv.cells.toList := by rw [hi] at hz; simp [hzv] at hz; exact hz.symm
 have hby' := nQl hby
 obtain ⟨n, rfl⟩ := Int.eq_ofNat_of_zero_le p1
 simp only [Int.toNat_natCast, List.length_replicate] at *
 have hn : n ≤ 1073741824 := by omega
 have hb2 : i.bytes * n ≤ 281474976710656 := by
  have h1 : i.bytes * n ≤ 65536 * 1073741824 := Nat.mul_le_mul hby' hn
  omega
 have hzl : zv.cells.size = i.size := hzs
 subst hzz
 have hlen : (List.replicate n zv.cells.toList).flatten.length = n * i.size := by simp [hzl]
 have hmade : madeCells zv.cells (n * i.size) = (List.replicate n zv.cells.toList).flatten.toArray := by
  apply Array.ext'
  apply List.ext_getElem?
  intro q
  unfold madeCells
  by_cases hq : q < n * i.size
  ·simp only [Array.toList_map, Array.toList_range, List.getElem?_map, List.getElem?_range hq, Option.map_some]
   have hqm : q % zv.cells.size < zv.cells.size := Nat.mod_lt _ (by omega)
   rw [getElem!_pos zv.cells _ hqm]
   obtain ⟨cs, e1, e2, e3⟩ := (Rd.rep (R := fun _ cs (y : Unit) => cs = zv.cells.toList) (sz := i.size) (G := G) (c := zv.cells.toList) (x := ()) (by simpa using hzl) rfl n).2 (q / i.size) () (by
    rw [List.getElem?_replicate, if_pos ((Nat.div_lt_iff_lt_mul hsz).2 hq)])
   have hj : cs[q % i.size]? = some zv.cells[q % zv.cells.size] := by
    rw [e3]
    have hqm' : q % i.size < zv.cells.size := by rw [hzl]; exact Nat.mod_lt _ hsz
    simp [hzl]
   have := e2 (q % i.size) _ hj
   rw [show q / i.size * i.size + q % i.size = q from Nat.div_add_mod' q i.size] at this
   exact this.symm
  ·rw [List.getElem?_eq_none (by simp; omega), List.getElem?_eq_none (by rw [List.toList_toArray, hlen]; omega)]
 have hnew := hO.new hS.sat e i.size n (List.replicate n zv.cells.toList).flatten hlen (by simp only [maxLen]; omega)
 have hbi : (i.bytes : Int) * (n : Int) ≤ 281474976710656 := by
  have h : ((i.bytes * n : Nat) : Int) ≤ 281474976710656 := by omega
  rwa [Int.natCast_mul] at h
 have hr := run_make (P := P) w T e i zv ht hi hzv k1 k2 n n (by omega) (Int.le_refl _) hbi (by omega)
 refine ks (v := .slice (some ⟨w.heap.size, 0, none⟩) n n) (w' := w.alloc (.cells (List.replicate n zv.cells.toList).flatten.toArray e)) ?_ hd (.alloc _ _) (h _ _ _ (hS.keep ((Below.refl _ w).alloc (Nat.le_refl _) _)) hnew (Rd.rep (by simpa using hzl) hR n))
 simp only [execOp, hX, hY, Sem.run_bind, hr, Result.andThen_ok, Sem.run_pure]
 simp [hmade]
end
structure FixStep (B : Nat) (w w' : World) : Prop where
  os : w'.os = w.os
  tape : w'.tape = w.tape
  output : w'.output = w.output
  size : w'.heap.size = w.heap.size
  low : ∀ (k : Nat), k < B → w'.heap[k]? = w.heap[k]?
  block : ∀ (k : Nat) (o : Obj), w.heap[k]? = some o → zaJ o = false → w'.heap[k]? = some o
theorem FixStep.put {B D : Nat} {w : World} {o : Obj} (hB : B ≤ D) (hD : w.heap[D]? = some o) (ho : zaJ o = true) (o' : Obj) : FixStep B w (w.putObj D o') :=
  ⟨rfl, rfl, rfl, by simp [World.putObj], fun k hk => World.putObj_heap_other (by omega), fun k o1 hk h1 => by
    have hne : k ≠ D := by intro e; subst e; rw [hD] at hk; cases hk; rw [ho] at h1; cases h1
    rw [World.putObj_heap_other hne]; exact hk⟩
section
variable {G G' G0 : Gm} {w w' w0 : World} {B : Nat} {L : List Row}
theorem Since.fix (h : Since B G0 w0 G w) (k : FixStep B w w') : Since B G0 w0 G w' :=
  ⟨h.le, fun b o hb => by
    have h1 := h.sat b o hb
    rcases Nat.lt_or_ge b B with h' | h'
    · exact (k.low b h').trans h1
    · exact k.block b o h1 (h.cells b o hb h'), ⟨k.os.trans h.below.os, k.tape.trans h.below.tape, k.output.trans h.below.output, by rw [k.size]; exact h.below.size, fun i hi => (k.low i hi).trans (h.below.block i hi)⟩, h.old, by rw [k.size]; exact h.base, h.cells⟩
theorem Owns.fix (h : Owns G w B L) (k : FixStep B w w') : Owns G w' B L :=
  ⟨fun c hc => ⟨vI (h.each c hc).1 fun g hg => by
      rcases (h.each c hc).1.2 with ⟨hv, _⟩ | ⟨g', o₀, cap, cur, hv, _, hg', _⟩ | ⟨g', hv, _, hg'⟩
      · rw [hv] at hg; cases hg
      · rw [hv] at hg
        have e : g' = g := by simpa [qO] using hg
        subst e
        rw [hg']
        exact k.block _ _ hg' rfl
      · rw [hv] at hg
        have e : g' = g := by simpa [qO] using hg
        subst e
        rw [hg']
        exact k.block _ _ hg' (ze7 _ _ _ _), (h.each c hc).2⟩, h.apart, by rw [k.size]; exact h.base⟩
theorem Since.alloc (h : Since B G0 w0 G w) (o : Obj) : Since B G0 w0 G (w.alloc o) := h.keep ((Below.refl _ w).alloc (Nat.le_refl _) _)
theorem Owns.alloc (h : Owns G w B L) (o : Obj) : Owns G (w.alloc o) B L := h.below ((Below.refl _ w).alloc (Nat.le_refl _) _)
end
theorem Keeps.put {X : Option Nat} {w : World} {l : Nat} {o : Obj} (hX : X = some l) : Keeps X w (w.putObj l o) :=
  ⟨by simp [World.putObj], fun D o' hD h _ => by
    have hne : D ≠ l := by intro e; subst e; exact hD hX
    rw [World.putObj_heap_other hne]; exact h⟩
theorem Keeps.weak {X : Option Nat} {w w' : World} (h : Keeps none w w') : Keeps X w w' := ⟨h.size, fun D o _ hD ho => h.same D o (by simp) hD ho⟩
def rg {α σ ρ : Type} (body : α → σ → Option (σ ⊕ ρ)) : List α → σ → Option (σ ⊕ ρ)
  | [], s => some (.inl s)
  | x :: l, s => match body x s with
    | none => none
    | some (.inl s') => rg body l s'
    | some (.inr q) => some (.inr q)
section
variable {G : Gm} {w : World} {B : Nat} {L L' : List Row}
theorem Owns.perm (h : Owns G w B L) (hp : L.Perm L') : Owns G w B L' :=
  ⟨fun c hc => h.each c (hp.mem_iff.2 hc), (hp.pairwise_iff fun {x y} => kP x y).1 h.apart, h.base⟩
theorem Owns.comm (h : Owns G w B (L ++ L')) : Owns G w B (L' ++ L) := h.perm List.perm_append_comm
theorem Owns.left (h : Owns G w B (L ++ L')) : Owns G w B L :=
  ⟨fun c hc => h.each c (List.mem_append_left _ hc), (List.pairwise_append.1 h.apart).1, h.base⟩
end
def IterOk (P : Program) (k : Nat) (fi ca : List Value) (G : Gm) {α : Type} (enc : α → List Value) (xs : List α) : Prop :=
  ∀ (l B : Nat) (G0 : Gm) (w0 : World) (J : Gm → List Row → Nat → World → Prop) (Jx : World → Prop) (G1 : Gm) (L1 : List Row) (w : World), Gle G G1 → Since B G0 w0 G1 w → Owns G1 w B L1 →
    (∀ G L k w G' w', J G L k w → Gle G G' → Keeps none w w' → J G' L k w') →
    (∀ G L Lx k w x, Gle G1 G → J G L k w → Since B G0 w0 G w → Owns G w B (Lx ++ L) → xs[k]? = some x → YieldAt Fence.wide 0 P l (enc x).toArray w fun e w' =>
      Keeps (some l) w w' ∧ ((e = .returned (.bool true) ∧ ∃ G' L', Gle G G' ∧ Since B G0 w0 G' w' ∧ Owns G' w' B (Lx ++ L') ∧ J G' L' (k + 1) w') ∨ (e = .returned (.bool false) ∧ Jx w'))) →
    J G1 L1 0 w → Calls P k (fi ++ [Value.func (.yield l) #[] #[]] ++ ca).toArray w fun e w' => (∃ v, e = .returned v) ∧ Keeps (some l) w w' ∧ ((∃ G' L', Gle G1 G' ∧ Since B G0 w0 G' w' ∧ Owns G' w' B L' ∧ J G' L' xs.length w') ∨ Jx w')
theorem IterOk.mono {P : Program} {k : Nat} {fi ca : List Value} {G G' : Gm} {α : Type} {enc : α → List Value} {xs : List α} (h : IterOk P k fi ca G enc xs) (hle : Gle G G') : IterOk P k fi ca G' enc xs :=
  fun l B G0 w0 J Jx G1 L1 w hl => h l B G0 w0 J Jx G1 L1 w (hle.trans hl)
section
variable {κ : Ctx} {p : List PanicEntry → Fr → World → Prop} {P : Program} {N : Nat} {F : Fr} {w : World} {K : Fr → World → Prop} {ty : TypeId} {pos : String} {af : Array Edge} {ops : Array Oper} {l : List Oper}
theorem zqB {d j : Nat} {X : Operand} {args : Array Operand} {ats : Array TypeId} {al : List Value} {R : Ending → World → Prop} (hy : YieldAt Fence.wide 0 P j al.toArray w R) (hx : ev F X = .func (.yield j) #[] #[]) (ha : args.toList.map (ev F) = al) (hd : Nat.blt d N = true)
    (h : ∀ e w', R e w' → ∃ v, e = .returned v ∧ Keeps κ.ex w w' ∧ WL κ P N ops p K l (upd F d v) w') : WL κ P N ops p K (⟨some d, .call { callee := .value X, args := args, argTypes := ats }, ty, pos, af, none⟩ :: l) F w := by
  obtain ⟨fn, tmps, assign, body, hrun, hround⟩ := hy
  intro a wI h1 h3
  refine wpListIn_plain rfl fun K' hK' => ⟨fun _ _ => trivial, ?_⟩
  have h0 : Array.map (ev F) args = al.toArray := by rw [← ha]; exact Array.ext' (by rw [Array.toList_map])
  rw [zf3 (ρ := (FW κ.ro).round) (w' := w) (nx := .round j fn tmps assign body) (fun _ h => by cases h) (by
    rw [qT, h3]
    simp [execOp, resolve, hx, Deferred.ofValue, h0, invoke, hrun])]
  refine ⟨fun h => (by cases h), RoundIn.mono (R := R) hround fun e w' hR => ?_⟩
  obtain ⟨v, rfl, hk, hW⟩ := h e w' hR
  refine hK' _ _ (hW _ wI (h1.put hk _ _) ?_)
  rw [← h3]; exact qY a d v (h1.lt hd)
theorem zwv {f : FuncId} {fn : Func} {c : Code} {al : List Value} {R : Ending → World → Prop} {l : Nat} (hf : P.funcs[f]? = some fn) (hb : fn.body = some c) (hr : fn.results = #[]) (hn : fn.ntmps = N) (hN : Nat.ble al.length N = true)
    (h : WC ⟨none, some l, w.heap.size, true, []⟩ P N c ⟨fun _ w' => Keeps (some l) w w' → R (.returned (.tuple #[])) w', fun _ w' => Keeps (some l) w w' → R (.returned (.tuple #[])) w', [], fun _ _ _ => False⟩ (kJ al) w) : Calls P f al.toArray w R := by
  have hle := nQl hN
  have hres : ∀ (tmps : Array Value) w', (results fn tmps).run P w' = .ok (.tuple #[]) w' := by
    intro tmps w'
    simp [results, hr]
  have h0 : CallsIn Fence.wide 0 P f al.toArray w R := by
    refine callsIn_of_wp hf hb trivial (wpIn_mono (h _ w ⟨?_, Calm.nil _ _, Keeps.refl _, Nat.le_refl _⟩ ?_) ?_)
    · simp [hn]; omega
    · exact jC al _ _
    · rintro e a' w' ⟨p1, p3⟩
      cases e with
      | normal => exact ⟨p1.calm.none rfl, _, hres _ _, p3 p1.keep⟩
      | ret => exact ⟨p1.calm.none rfl, _, hres _ _, p3 p1.keep⟩
      | exit k => obtain ⟨K, hK, _⟩ := p3; cases hK
      | goto l => exact p3.elim
      | panic c => exact p3.elim
      | outgrown => exact p3.elim
  exact callsIn_wide.1 h0
theorem zis {f : Nat → Fr → World → Prop} {id : Nat} {K : Fr → World → Prop} : ∀ {ids : List Nat}, zeU (ids.map fun i => (i, f i)) id = some K → id ∈ ids ∧ K = f id
  | [], h => by cases h
  | i :: ids, h => by
    simp only [List.map_cons, zeU] at h
    cases hb : Nat.beq i id with
    | true =>
      rw [hb] at h
      have e := nQe hb
      subst e
      exact ⟨by simp, (nQs h).symm⟩
    | false =>
      rw [hb] at h
      have := zis h
      exact ⟨by simp [this.1], this.2⟩
theorem zdD (l : List (Tmp × Value)) (tmps : Array Value) : (l.foldl (fun t (q : Tmp × Value) => t.setIfInBounds q.1 q.2) tmps).size = tmps.size := by
  induction l generalizing tmps with
  | nil => rfl
  | cons q l ih => rw [List.foldl_cons, ih, Array.size_setIfInBounds]
def params (F : Fr) (l : List (Tmp × Value)) : Fr := l.foldl (fun F q => upd F q.1 q.2) F
theorem zdM (l : List (Tmp × Value)) (tmps : Array Value) (ds ds' : List Deferred) (h : ∀ q ∈ l, q.1 < tmps.size) : yO ⟨l.foldl (fun t (q : Tmp × Value) => t.setIfInBounds q.1 q.2) tmps, ds⟩ = params (yO ⟨tmps, ds'⟩) l := by
  induction l generalizing tmps with
  | nil => rfl
  | cons q l ih =>
    rw [List.foldl_cons, ih _ (fun q' hq' => by rw [Array.size_setIfInBounds]; exact h q' (by simp [hq']))]
    unfold params
    rw [List.foldl_cons]
    congr 1
    exact qY ⟨tmps, ds'⟩ q.1 q.2 (h q (by simp))
theorem zq5 {α σ ρ : Type} {bd : α → σ → Option (σ ⊕ ρ)} {xs : List α} {s : σ} {res : σ ⊕ ρ} {k : Nat} {y : α} (h : rg bd (xs.drop k) s = some res) (hy : xs[k]? = some y) :
    ∃ t, bd y s = some t ∧ (∀ s', t = .inl s' → rg bd (xs.drop (k + 1)) s' = some res) ∧ (∀ q, t = .inr q → res = .inr q) := by
  obtain ⟨hlt, hy'⟩ := List.getElem?_eq_some_iff.1 hy
  rw [List.drop_eq_getElem_cons hlt, hy'] at h
  simp only [rg] at h
  cases hb : bd y s with
  | none => rw [hb] at h; cases h
  | some t =>
    rw [hb] at h
    refine ⟨t, rfl, fun s' e => ?_, fun q e => ?_⟩
    · subst e; exact h
    · subst e; exact (nQs h).symm
theorem zqE {α σ ρ : Type} {g : Operand} {ps : Array Tmp} {assign body : Code} {n r : Fr → World → Prop} {x : List (Nat × (Fr → World → Prop))} {G0 G : Gm} {w0 : World} {B : Nat} {L : List Row} {k : Nat} {fi ca : List Value}
    {enc : α → List Value} {xs : List α} {bd : α → σ → Option (σ ⊕ ρ)} {s : σ} {res : σ ⊕ ρ}
    (hk : zJ P k = true) (it : IterOk P k fi ca G enc xs) (hg : ev F g = .func (.func k) fi.toArray ca.toArray) (hps : ∀ y, (enc y).length = ps.size) (hpN : (ps.toList.all fun q => Nat.blt q N) = true)
    (hrg : rg bd xs s = some res) (Ψ : σ → Gm → List Row → Prop) (Ix : ρ → Code → Gm → List Row → Prop) (hΨ : ∀ s G G' L, Gle G G' → Ψ s G L → Ψ s G' L)
    (hS : Since B G0 w0 G w) (hO : Owns G w B L) (h0 : Ψ s G L) (ids : List Nat)
    (round : ∀ (l : Nat) (y : α) (s : σ) (t : σ ⊕ ρ) (G' : Gm) (w' : World) (L' Lx : List Row), Gle G G' → Since B G0 w0 G' w' → Owns G' w' B (L' ++ Lx) → Ψ s G' L' → bd y s = some t → (∀ q, t = .inr q → res = .inr q) →
      WC ⟨some l, none, 0, true, []⟩ P N assign ⟨fun F1 w1 => ∀ w2, FixStep B w1 w2 → WC ⟨some l, none, 0, true, []⟩ P N body
        ⟨fun _ w3 => ∃ s', t = .inl s' ∧ ∃ G3 L3, Gle G' G3 ∧ Since B G0 w0 G3 w3 ∧ Owns G3 w3 B (L3 ++ Lx) ∧ Ψ s' G3 L3,
         fun _ w3 => ∃ q, t = .inr q ∧ ∃ G3 L3, Gle G' G3 ∧ Since B G0 w0 G3 w3 ∧ Owns G3 w3 B (L3 ++ Lx) ∧ Ix q .ret G3 L3,
         ids.map fun id => (id, fun _ w3 => ∃ q, t = .inr q ∧ ∃ G3 L3, Gle G' G3 ∧ Since B G0 w0 G3 w3 ∧ Owns G3 w3 B (L3 ++ Lx) ∧ Ix q (.exit id) G3 L3), fun _ _ _ => False⟩ F1 w2,
        fun _ _ => False, [], fun _ _ _ => False⟩ (params F (ps.toList.zip (enc y))) w')
    (done : ∀ s' G' w' L', res = .inl s' → Gle G G' → Since B G0 w0 G' w' → Owns G' w' B L' → Ψ s' G' L' → n F w')
    (stop : ∀ q c G' w' L', res = .inr q → (c = .ret ∨ ∃ id ∈ ids, c = .exit id) → Gle G G' → Since B G0 w0 G' w' → Owns G' w' B L' → Ix q c G' L' → WC κ P N c ⟨n, r, x, p⟩ F w')
    (hκ : κ.ro = none := by rfl) (hex : κ.ex = none := by rfl) (hnm : κ.nm = false := by rfl) (hdf : κ.df = [] := by rfl) : WC κ P N (.rangeFunc g ps assign body) ⟨n, r, x, p⟩ F w := by
  intro a wI st hF
  refine wpIn_rangeFunc ?_
  intro fn hfn
  have hro : (FW κ.ro).round = none := hκ
  rw [hro]
  have hev : a.eval g = .func (.func k) fi.toArray ca.toArray := by rw [qT, hF]; exact hg
  obtain ⟨rec, hrec⟩ : ∃ rec : LoopState → Option Code → Loop, rec = fun st pe => { state := st, pending := pe, fn, tmps := a.tmps, params := ps, assign, body, defers := w.heap.size } := ⟨_, rfl⟩
  obtain ⟨W1, hW1⟩ : ∃ W1, (w.alloc (.deferred (some []))).alloc (.loop (rec .ready none)) = W1 := ⟨_, rfl⟩
  have hL1 : W1.heap[w.heap.size + 1]? = some (.loop (rec .ready none)) := by
    rw [← hW1]; have := World.alloc_heap_new (w.alloc (.deferred (some []))) (.loop (rec .ready none)); rwa [World.size_alloc] at this
  have hK1 : W1.heap[w.heap.size]? = some (.deferred (some [])) := by
    rw [← hW1]; exact (Below.heap_alloc _ _ _ (by simp)).trans (World.alloc_heap_new w _)
  have hb1 : Below w.heap.size w W1 := by
    rw [← hW1]; exact ((Below.refl _ w).alloc (Nat.le_refl _) _).alloc (by simp) _
  have hBl : B ≤ w.heap.size + 1 := Nat.le_succ_of_le hS.base
  have kept : ∀ (w' : World), Keeps (some (w.heap.size + 1)) W1 w' → Keeps none w w' := fun w' hk' => ⟨Nat.le_trans hb1.size hk'.size, fun D o _ hD ho => by
    have hlt := (Array.getElem?_eq_some_iff.1 hD).1
    exact hk'.same D o (by simp; omega) ((hb1.block D hlt).trans hD) ho⟩
  have putK : ∀ (w' : World) (o : Obj), Keeps none w w' → Keeps none w (w'.putObj (w.heap.size + 1) o) := fun w' o hk' => ⟨by simpa using hk'.size, fun D o' h hD ho => by
    have hlt := (Array.getElem?_eq_some_iff.1 hD).1
    exact (World.putObj_heap_other (by omega)).trans (hk'.same D o' h hD ho)⟩
  have hst : ∀ (w' : World) (o : Obj), Keeps (some (w.heap.size + 1)) W1 w' → St κ N wI { a with defers := { target := .collected w.heap.size, args := #[] } :: a.defers } (w'.putObj (w.heap.size + 1) o) := fun w' o hk' => by
    have h1 := putK w' o (kept w' hk')
    have h2 : Keeps κ.ex w (w'.putObj (w.heap.size + 1) o) := by rw [hex]; exact h1
    have hc := st.calm.keep h2
    refine ⟨st.size, ⟨fun d hd => ?_, List.pairwise_cons.2 ⟨fun e he => ?_, hc.apart⟩, fun h => by rw [hnm] at h; cases h⟩, st.keep.trans h2, Nat.le_trans st.base h2.size⟩
    · rcases List.mem_cons.1 hd with rfl | hd
      · exact .inr ⟨_, rfl, (World.putObj_heap_other (by omega)).trans (hk'.same _ _ (by simp) hK1 rfl), by rw [hex]; simp, st.base⟩
      · exact hc.each d hd
    · obtain ⟨D, hD, hD2, _, _⟩ := (st.calm.each e he).resolve_left (by rw [hdf]; simp)
      have hlt := (Array.getElem?_eq_some_iff.1 hD2).1
      rw [hD]
      intro h
      injection h with h
      omega
  refine ⟨w.heap.size + 1, [{ target := .collected w.heap.size, args := #[] }], W1, { target := .fn (.func k) ca.toArray, args := fi.toArray ++ #[.func (.yield (w.heap.size + 1)) #[] #[]] }, W1, k,
    (fi ++ [Value.func (.yield (w.heap.size + 1)) #[] #[]] ++ ca).toArray, W1, ?_, ?_, ?_, ?_, fun h => (by cases h), zl4 ?_⟩
  · rw [← hW1, hrec]; exact run_enterLoop_outer _ _ _ _ _
  · simp only [resolve, hev]
    simp [go_sem, Deferred.ofValue]
  · intro f' _; trivial
  · unfold zJ at hk
    split at hk
    · rename_i fn' hf
      simp only [Bool.and_eq_true, Bool.not_eq_true'] at hk
      obtain ⟨c, hb⟩ := Option.isSome_iff_exists.1 hk.2
      have hn : ¬ fn'.name = "runtime.NumGoroutine" := by simpa using hk.1
      simp [invoke, callFunc, hf, hn, hb]
    · cases hk
  · have hS1 : Since B G0 w0 G W1 := by rw [← hW1]; exact (hS.alloc _).alloc _
    have hO1 : Owns G W1 B L := by rw [← hW1]; exact (hO.alloc _).alloc _
    refine (it (w.heap.size + 1) B G0 w0
      (fun G' L' i w' => ∃ s', rg bd (xs.drop i) s' = some res ∧ Gle G G' ∧ Ψ s' G' L' ∧ Keeps (some (w.heap.size + 1)) W1 w' ∧ w'.heap[w.heap.size + 1]? = some (.loop (rec .ready none)))
      (fun w' => ∃ q c G' L', res = .inr q ∧ (c = .ret ∨ ∃ id ∈ ids, c = .exit id) ∧ Gle G G' ∧ Since B G0 w0 G' w' ∧ Owns G' w' B L' ∧ Ix q c G' L' ∧ Keeps (some (w.heap.size + 1)) W1 w' ∧ w'.heap[w.heap.size + 1]? = some (.loop (rec .done (some c))))
      G L W1 (Gle.refl G) hS1 hO1 ?_ ?_ ⟨s, hrg, Gle.refl G, h0, .refl _, hL1⟩).mono ?_
    · rintro G1 L' i w1 G2 w2 ⟨s', h1, h2, h5, h6, h7⟩ hle hkp
      exact ⟨s', h1, h2.trans hle, hΨ _ _ _ _ hle h5, h6.trans hkp.weak, hkp.same _ _ (by simp) h7 rfl⟩
    · rintro G1 L' Lx i w1 y _ ⟨s', h1, h2, h5, h6, h7⟩ h3 h4 hy
      have hsz : (enc y).toArray.size = (rec .ready none).params.size := by rw [hrec]; simpa using hps y
      have hyr := run_yield (P := P) (args := (enc y).toArray) h7 hsz
      rw [hrec] at hyr
      obtain ⟨t, ht1, ht2, ht3⟩ := zq5 h1 hy
      have hfold : (ps.zip (enc y).toArray).foldl (fun tmps (t, a) => tmps.setIfInBounds t a) a.tmps = (ps.toList.zip (enc y)).foldl (fun t (q : Tmp × Value) => t.setIfInBounds q.1 q.2) a.tmps := by
        rw [← Array.foldl_toList, Array.toList_zip]
      refine ⟨fn, _, assign, body, hyr, roundIn_of_wpIn hfn ?_⟩
      simp only []
      rw [hfold]
      have hall : ∀ q ∈ ps.toList.zip (enc y), q.1 < a.tmps.size := fun q hq => by
        have h8 := List.all_eq_true.1 hpN q.1 (List.of_mem_zip hq).1
        rw [st.size]; exact za8 h8
      have hround := round (w.heap.size + 1) y s' t G1 w1 L' Lx h2 h3 h4.comm h5 ht1 ht3 ⟨(ps.toList.zip (enc y)).foldl (fun t (q : Tmp × Value) => t.setIfInBounds q.1 q.2) a.tmps, []⟩ w1
        ⟨(zdD _ _).trans st.size, Calm.nil _ _, .refl _, Nat.zero_le _⟩ ((zdM _ _ _ a.defers hall).trans (by rw [← hF]))
      refine wpIn_mono hround ?_
      rintro e a1 w2 ⟨st1, post⟩
      cases e with
      | normal =>
        have hl2 := st1.keep.same _ _ (by simp) h7 rfl
        refine ⟨_, run_beginRound hl2 (by rw [hrec]), ?_⟩
        have hfix : FixStep B w2 (w2.putObj (w.heap.size + 1) (.loop { rec .ready none with state := .busy })) := .put hBl hl2 rfl _
        have hd1 := st1.calm.none rfl
        have hcalm : Calm ⟨some (w.heap.size + 1), none, 0, true, []⟩ a1.defers (w2.putObj (w.heap.size + 1) (.loop { rec .ready none with state := .busy })) := by rw [hd1]; exact Calm.nil _ _
        refine wpIn_mono (post _ hfix a1 _ ⟨st1.size, hcalm, .refl _, Nat.zero_le _⟩ rfl) ?_
        rintro e a3 w3 ⟨st3, post3⟩
        have hl2' : (w2.putObj (w.heap.size + 1) (.loop { rec .ready none with state := .busy })).heap[w.heap.size + 1]? = some (.loop { rec .ready none with state := .busy }) := World.putObj_heap_same (Array.getElem?_eq_some_iff.1 hl2).1
        have hl3 := st3.keep.same _ _ (by simp) hl2' rfl
        have fin : ∀ jump : Option Code, (Instr.endRound (w.heap.size + 1) jump).run P w3 = .ok (.bool jump.isNone) (w3.putObj (w.heap.size + 1) (.loop (rec (if jump.isNone then .ready else .done) jump))) ∧
            Keeps (some (w.heap.size + 1)) w1 (w3.putObj (w.heap.size + 1) (.loop (rec (if jump.isNone then .ready else .done) jump))) ∧
            FixStep B w3 (w3.putObj (w.heap.size + 1) (.loop (rec (if jump.isNone then .ready else .done) jump))) ∧
            (w3.putObj (w.heap.size + 1) (.loop (rec (if jump.isNone then .ready else .done) jump))).heap[w.heap.size + 1]? = some (.loop (rec (if jump.isNone then .ready else .done) jump)) := fun jump => by
          have := run_endRound (P := P) jump hl3
          rw [hrec] at this ⊢
          exact ⟨this, (((st1.keep.weak.trans (.put rfl)).trans st3.keep.weak).trans (.put rfl)), .put hBl hl3 rfl _, World.putObj_heap_same (Array.getElem?_eq_some_iff.1 hl3).1⟩
        cases e with
        | normal =>
          obtain ⟨s3, ht, G3, L3, q1, q2, q3, q4⟩ := post3
          obtain ⟨f1, f2, f3, f4⟩ := fin none
          exact ⟨_, _, f1, f2, .inl ⟨rfl, G3, L3, q1, q2.fix f3, (q3.fix f3).comm, s3, ht2 s3 ht, h2.trans q1, q4, h6.trans f2, f4⟩⟩
        | ret =>
          obtain ⟨q, ht, G3, L3, q1, q2, q3, q4⟩ := post3
          obtain ⟨f1, f2, f3, f4⟩ := fin (some .ret)
          exact ⟨_, _, f1, f2, .inr ⟨rfl, q, .ret, G3, L3, ht3 q ht, .inl rfl, h2.trans q1, q2.fix f3, (q3.fix f3).left, q4, h6.trans f2, f4⟩⟩
        | exit id =>
          obtain ⟨K, hK, post3⟩ := post3
          obtain ⟨hid, rfl⟩ := zis (f := fun id _ w3 => ∃ q, t = .inr q ∧ ∃ G3 L3, Gle G1 G3 ∧ Since B G0 w0 G3 w3 ∧ Owns G3 w3 B (L3 ++ Lx) ∧ Ix q (.exit id) G3 L3) hK
          obtain ⟨q, ht, G3, L3, q1, q2, q3, q4⟩ := post3
          obtain ⟨f1, f2, f3, f4⟩ := fin (some (.exit id))
          exact ⟨_, _, f1, f2, .inr ⟨rfl, q, .exit id, G3, L3, ht3 q ht, .inr ⟨id, hid, rfl⟩, h2.trans q1, q2.fix f3, (q3.fix f3).left, q4, h6.trans f2, f4⟩⟩
        | goto l => exact post3.elim
        | panic c => exact post3.elim
        | outgrown => exact post3.elim
      | ret => exact post.elim
      | exit id => obtain ⟨K, hK, _⟩ := post; cases hK
      | goto l => exact post.elim
      | panic c => exact post.elim
      | outgrown => exact post.elim
    · rintro e w2 ⟨⟨v, rfl⟩, hkeep, hJ⟩
      rcases hJ with ⟨G2, L', hle2, h3, h4, s', h1, h2, h5, h6, h7⟩ | ⟨q, c, G2, L', h1, hc, h2, h3, h4, h5, h6, h7⟩
      · rw [List.drop_length] at h1
        have hres : res = .inl s' := (nQs h1).symm
        refine ⟨none, w2.putObj (w.heap.size + 1) (.loop { rec .ready none with state := .exhausted }), ?_, hst w2 _ h6, ?_⟩
        · have := run_endLoop (P := P) h7 (by rw [hrec]; simp)
          rw [hrec] at this ⊢
          exact this
        · have hfix : FixStep B w2 (w2.putObj (w.heap.size + 1) (.loop { rec .ready none with state := .exhausted })) := .put hBl h7 rfl _
          show n (yO a) _
          rw [hF]
          exact done s' G2 _ L' hres h2 (h3.fix hfix) (h4.fix hfix) h5
      · refine ⟨some c, w2.putObj (w.heap.size + 1) (.loop { rec .done (some c) with state := .exhausted }), ?_, ?_⟩
        · have := run_endLoop (P := P) h7 (by rw [hrec]; simp)
          rw [hrec] at this ⊢
          exact this
        · have hfix : FixStep B w2 (w2.putObj (w.heap.size + 1) (.loop { rec .done (some c) with state := .exhausted })) := .put hBl h7 rfl _
          exact stop q c G2 _ L' h1 hc h2 (h3.fix hfix) (h4.fix hfix) h5 _ wI (hst w2 _ h6) hF
end
section
variable {κ : Ctx} {P : Program} {N : Nat} {n r : Fr → World → Prop} {x : List (Nat × (Fr → World → Prop))} {p : List PanicEntry → Fr → World → Prop} {F : Fr} {w : World}
def WI (κ : Ctx) (P : Program) (N : Nat) (c : Code) (Q : Post) (F : Fr) (w : World) : Prop :=
 ∀ (a : Act) (wI : World), St κ N wI a w → yO a = F → ∀ (b : Frame) (k : List Item) (cs : List Frame), b.roundOf = (FW κ.ro).round → (FW κ.ro).fn b.fn → (FW κ.ro).room (cs.length + 1 + 0) →
  ∃ e a' w', Q.act κ N wI e a' w' ∧ ArrivesIn (Machine.fenced P (FW κ.ro)) P (lone (b.atR a (.code c :: .inLoop c :: k)) cs w) b k cs e a' w'
theorem qh {c : Code} (h : WI κ P N c ⟨n, r, x, p⟩ F w) : WC κ P N (.loop c) ⟨n, r, x, p⟩ F w := by
 intro a wI h1 h3 b k cs hro hfn hroom
 obtain ⟨e, a', w', hq, harr⟩ := h a wI h1 h3 b k cs hro hfn hroom
 exact ⟨e, a', w', hq, .of_steps (.one (fenced_calm hfn hroom rfl) stepR_loop) harr⟩
theorem qg {c : Code} (h : WC κ P N c ⟨WI κ P N c ⟨n, r, x, p⟩, r, x, p⟩ F w) : WI κ P N c ⟨n, r, x, p⟩ F w := by
 intro a wI h1 h3 b k cs hro hfn hroom
 obtain ⟨e, a₁, w₁, ⟨p1, p3⟩, harr⟩ := h a wI h1 h3 b (.inLoop c :: k) cs hro hfn hroom
 cases e with
 | normal =>
  obtain ⟨e₂, a₂, w₂, hq₂, harr₂⟩ := p3 a₁ wI p1 rfl b k cs hro hfn hroom
  exact ⟨e₂, a₂, w₂, hq₂, .of_steps (StepsIn.trans harr (.one (fenced_calm hfn hroom rfl) stepR_inLoop)) harr₂⟩
 | exit id => exact ⟨.exit id, a₁, w₁, ⟨p1, p3⟩, .pass (x := .inLoop c) rfl (fun _ _ => .inl (by simp)) harr⟩
 | ret => exact ⟨.ret, a₁, w₁, ⟨p1, p3⟩, .pass (x := .inLoop c) rfl (fun _ _ => .inl (by simp)) harr⟩
 | goto l => exact p3.elim
 | panic ch => exact ⟨.panic ch, a₁, w₁, ⟨p1, p3⟩, .pass (x := .inLoop c) rfl (fun _ _ => .inl (by simp)) harr⟩
 | outgrown => exact p3.elim
end
section
variable {κ : Ctx} {p : List PanicEntry → Fr → World → Prop} {P : Program} {N N' : Nat} {F : Fr} {w : World} {K : Fr → World → Prop} {d : Nat} {ty : TypeId} {pos : String} {af : Array Edge} {gd : Option (Nat × Bool)}
variable {f : FuncId} {fn : Func} {c : Code} {args : Array Operand} {ats : Array TypeId}
end
def zjE {α : Type} (xs : List α) (l h : Int) : Option (List α) := if 0 ≤ l ∧ l ≤ h ∧ h ≤ (xs.length : Int) then some ((xs.drop l.toNat).take (h.toNat - l.toNat)) else none
theorem zf2 {α : Type} {xs zs : List α} {l h : Int} (e : zjE xs l h = some zs) : 0 ≤ l ∧ l ≤ h ∧ h ≤ (xs.length : Int) ∧ zs = (xs.drop l.toNat).take (h.toNat - l.toNat) := by
 unfold zjE at e
 split at e
 ·rename_i h0; exact ⟨h0.1, h0.2.1, h0.2.2, (nQs e).symm⟩
 ·cases e
section
variable {κ : Ctx} {P : Program} {N : Nat} {F : Fr} {d : Option Nat} {ty : TypeId} {pos : String} {af : Array Edge} {gd : Option (Nat × Bool)} {T e sz bytes n c : Nat} {X : Operand} {ad : Option Addr}
theorem RSl.sub {α : Type} {R : Gm → List Value → α → Prop} {G : Gm} {xs zs : List α} {l h : Int} (hs : RSl R sz G ad n c xs) (e : zjE xs l h = some zs) {q : Nat} (hq : h.toNat = q) :
  ∃ a' n' c', sliced ad l.toNat q c sz = .slice a' n' c' ∧ RSl R sz G a' n' c' zs := by
 subst hq
 obtain ⟨h0, h1, h2, rfl⟩ := zf2 e
 obtain ⟨p1, ⟨p2, p2'⟩, p3⟩ := hs
 refine ⟨_, _, _, rfl, ?_, ⟨by omega, by omega⟩, fun i y hy => ?_⟩
 ·simp only [List.length_take, List.length_drop]; omega
 ·rw [List.getElem?_take] at hy
  split at hy
  ·rename_i hi
   rw [List.getElem?_drop] at hy
   obtain ⟨b, off, cs, q1, q2, q3, q4⟩ := p3 _ _ hy
   refine ⟨b, off + l.toNat * sz, cs, ?_, ?_, q3, q4⟩
   ·rw [if_neg (by omega), q1]
    simp [xf]
   ·have : off + l.toNat * sz + i * sz = off + (l.toNat + i) * sz := by rw [Nat.add_mul]; omega
    rw [this]; exact q2
  ·cases hy
end
def kvs {K V : Type} (kv : K → Value) (vv : V → Value) : List (K × V) → List Value
 | [] => []
 | (k, v) :: l => kv k :: vv v :: kvs kv vv l
theorem zlm {K V : Type} (kv : K → Value) (vv : V → Value) : ∀ (M : List (K × V)), (kvs kv vv M).length = M.length * 2
 | [] => rfl
 | (k, v) :: l => by simp only [kvs, List.length_cons, zlm kv vv l, Nat.add_mul]
def ju {K V : Type} [BEq K] (M : List (K × V)) (k : K) : Option V := match M with
 | [] => none
 | (k', v) :: l => if k == k' then some v else ju l k
def updM {K V : Type} [BEq K] (M : List (K × V)) (k : K) (v : V) : List (K × V) := match M with
 | [] => [(k, v)]
 | (k', v') :: l => if k == k' then (k, v) :: l else (k', v') :: updM l k v
def zbR {K V : Type} [BEq K] (a : K) : List (K × V) → Nat → Option (Nat × V)
 | [], _ => none
 | (k, v) :: l, i => if a == k then some (i, v) else zbR a l (i + 1)
structure zmi (P : Program) (kt : Nat) {K : Type} [BEq K] (kv : K → Value) : Prop where
 chk : ∀ em a w, (Instr.checkKey em 10000 kt (kv a)).run P w = .ok () w
 fnd : ∀ {V : Type} (vv : V → Value) (a : K) (M : List (K × V)) w, (Instr.findKey kt (kv a) (mkE (kvs kv vv M) 0)).run P w = .ok ((zbR a M 0).map fun q => (q.1, vv q.2)) w
 same : ∀ a, Instr.sameBits 10000 (kv a) (kv a) = true
theorem zgB {K V : Type} [BEq K] (a : K) : ∀ (M : List (K × V)) (i : Nat), (zbR a M i).map (·.2) = ju M a
 | [], _ => rfl
 | (k, v) :: l, i => by
  simp only [zbR, ju]
  split
  ·rfl
  ·exact zgB a l (i + 1)
def zaG (x : Int × Int) : Value := .agg #[.int .i64 x.1, .int .i64 x.2]
def kvI (x : Int) : Value := .int .i64 x
section
variable {P : Program}
theorem zbE {kt : Nat} (hT : zdL P kt = true) (h2 : (P.fieldsOf kt).toList.length = 2) {V : Type} (vv : V → Value) (a : Int × Int) (w : World) : ∀ (M : List ((Int × Int) × V)) (i : Nat),
  (Instr.findAsking kt (zaG a) (mkE (kvs zaG vv M) i) i).run P w = .ok ((zbR a M i).map fun q => (q.1, vv q.2)) w
 | [], i => by simp [kvs, mkE, Instr.findAsking, zbR]
 | (k, v) :: l, i => by
  obtain ⟨h1, h3, h4, h5⟩ := jB hT
  have hE : (Op.equal kt (zaG a) (zaG k)).run P w = .ok (a == k) w := by
   have e1 := zbJ (P := P) (w := w) (k := .i64) 9998 [a.1, a.2] [k.1, k.2] _ 0 h3 (by simp [h2]) (by simp [h2])
   have hQ := run_equalIn_agg w 9999 kt (yE .i64 [a.1, a.2]).toArray (yE .i64 [k.1, k.2]).toArray h1 h4
   have e2 : (Op.equalIn 10000 kt (zaG a) (zaG k)).run P w = .ok ([a.1, a.2] == [k.1, k.2]) w := by
    exact hQ.trans e1
   have e3 : ([a.1, a.2] == [k.1, k.2]) = (a == k) := by
    obtain ⟨a1, a2⟩ := a
    obtain ⟨k1, k2⟩ := k
    rw [Bool.eq_iff_iff]
    simp
   rw [e3] at e2
   simpa [Op.equal, Op.maxDepth] using e2
  have ih := zbE hT h2 vv a w l (i + 1)
  simp only [kvs, mkE, Instr.findAsking, Sem.run_bind, hE, Result.andThen_ok, zbR]
  cases hb : (a == k) with
  | true => simp
  | false => simp [ih]
theorem vc (em : Bool) (n : Nat) (xs : List Int) (w : World) : ∀ (fs : List Field) (o : Nat), xU P fs o = true → o + fs.length ≤ xs.length →
  (forIn (m := Sem) fs PUnit.unit (fun (f : Field) (_ : PUnit) => do
   if f.name ≠ "_" then Instr.checkKey em (n + 1) f.type (← part f.type (yE .i64 xs).toArray f.offset)
   pure (ForInStep.yield PUnit.unit))).run P w = .ok PUnit.unit w
 | [], o, _, _ => by simp
 | f :: fs, o, h, hl => by
  simp only [xU, Bool.and_eq_true, decide_eq_true_eq] at h
  obtain ⟨⟨⟨h1, h2⟩, h3⟩, h4⟩ := h
  simp only [List.length_cons] at hl
  have ih := vc em n xs w fs (o + 1) h4 (by omega)
  have hn : ¬ f.name = "_" := by simpa using h1
  split at h3
  ·rename_i k' hu
   have hpart : (part f.type (yE .i64 xs).toArray f.offset).run P w = .ok (.int .i64 (xs[o]'(by omega))) w := by
    simp [part, isAgg, run_underlying hu, h2, yE, show o < xs.length by omega]
   have hck : (Instr.checkKey em (n + 1) f.type (.int .i64 (xs[o]'(by omega)))).run P w = .ok () w := by simp [Instr.checkKey, run_underlying hu]
   rw [List.forIn_cons]
   simp only [hn, ne_eq, not_false_eq_true, if_true, Sem.run_bind, hpart, Result.andThen_ok, hck, Sem.run_pure]
   exact ih
  ·cases h3
theorem zfP {kt : Nat} (hT : zdL P kt = true) (h2 : (P.fieldsOf kt).toList.length = 2) (em : Bool) (n : Nat) (a : Int × Int) (w : World) : (Instr.checkKey em (n + 2) kt (zaG a)).run P w = .ok () w := by
 obtain ⟨h1, h3, _⟩ := jB hT
 have := vc (P := P) em n [a.1, a.2] w _ 0 h3 (by simp [h2])
 rw [Instr.checkKey]
 simp only [Sem.run_bind, run_underlying h1, Result.andThen_ok, zaG]
 rw [← Array.forIn_toList]
 refine (congrArg (fun r => Result.andThen r _) this).trans ?_
 simp
theorem zjP {kt : Nat} {k : IntKind} (hT : P.underlying kt = some (.int k)) (em : Bool) (n : Nat) (a : Int) (w : World) : (Instr.checkKey em (n + 1) kt (kvI a)).run P w = .ok () w := by simp [Instr.checkKey, kvI, run_underlying hT]
theorem zoT {kt : Nat} (hT : zdL P kt = true) (h2 : (P.fieldsOf kt).toList.length = 2) : zmi P kt zaG := by
 refine ⟨fun em a w => ?_, fun vv a M w => ?_, fun a => by simp [zaG, Instr.sameBits]⟩
 ·exact zfP hT h2 em 9998 a w
 ·obtain ⟨h1, _⟩ := jB hT
  have := zbE hT h2 vv a w M 0
  cases M with
  | nil => simp [kvs, mkE, Instr.findKey, run_underlying h1, Instr.findNow, zbR]
  | cons q l =>
   have hn : Instr.findNow (.struct (P.fieldsOf kt)) (zaG a) (mkE (kvs zaG vv (q :: l)) 0) 0 = none := by
    obtain ⟨k, v⟩ := q
    simp [kvs, mkE, Instr.findNow, Instr.sameNow, zaG]
   simp only [Instr.findKey, Sem.run_bind, run_underlying h1, Result.andThen_ok, hn]
   exact this
end
theorem zen {K V : Type} [BEq K] [LawfulBEq K] (kv : K → Value) (vv : V → Value) (a : K) (v v0 : V) (j : Nat) : ∀ (M : List (K × V)) (i : Nat), zbR a M i = some (j, v0) →
  i ≤ j ∧ (mkE (kvs kv vv M) i)[j - i]?.map (·.key) = some (kv a) ∧ mkE (kvs kv vv (updM M a v)) i = (mkE (kvs kv vv M) i).modify (j - i) (fun e => { e with key := kv a, val := vv v }) ∧ (updM M a v).length = M.length
 | [], _, h => by simp [zbR] at h
 | (k, u) :: l, i, h => by
  simp only [zbR] at h
  cases hb : (a == k) with
  | true =>
   rw [hb] at h
   simp only [if_true, Option.some.injEq, Prod.mk.injEq] at h
   obtain ⟨rfl, _⟩ := h
   have := eq_of_beq hb
   subst this
   refine ⟨Nat.le_refl _, ?_, ?_, ?_⟩
   ·simp [kvs, mkE]
   ·simp [updM, kvs, mkE]
   ·simp [updM]
  | false =>
   rw [hb] at h
   simp only [Bool.false_eq_true, if_false] at h
   obtain ⟨h1, h2, h3, h4⟩ := zen kv vv a v v0 j l (i + 1) h
   have e : j - i = (j - (i + 1)) + 1 := by omega
   refine ⟨by omega, ?_, ?_, ?_⟩
   ·rw [e]; simpa [kvs, mkE] using h2
   ·rw [e]; simp [updM, hb, kvs, mkE, h3]
   ·simp [updM, hb, h4]
theorem zfY {K V : Type} [BEq K] (kv : K → Value) (vv : V → Value) (a : K) (v : V) : ∀ (M : List (K × V)) (i : Nat), zbR a M i = none →
  mkE (kvs kv vv (updM M a v)) i = mkE (kvs kv vv M) i ++ [⟨kv a, vv v, i + M.length⟩] ∧ (updM M a v).length = M.length + 1
 | [], i, _ => by simp [updM, kvs, mkE]
 | (k, u) :: l, i, h => by
  simp only [zbR] at h
  cases hb : (a == k) with
  | true => rw [hb] at h; simp at h
  | false =>
   rw [hb] at h
   simp only [Bool.false_eq_true, if_false] at h
   obtain ⟨h3, h4⟩ := zfY kv vv a v l (i + 1) h
   refine ⟨?_, by simp [updM, hb, h4]⟩
   simp [updM, hb, kvs, mkE, h3]
   omega
section
variable {κ : Ctx} {p : List PanicEntry → Fr → World → Prop} {P : Program} {N : Nat} {F : Fr} {w : World} {K : Fr → World → Prop} {d : Nat} {ty : TypeId} {pos : String} {af : Array Edge} {gd : Option (Nat × Bool)} {G G0 : Gm} {w0 : World} {B : Nat} {L : List Row}
theorem Owns.newMap (h : Owns G w B L) (hS : Sat G w) (e : Nat) : Owns G (w.alloc (.map #[] 0)) B (⟨e, 2, 0, .map (some w.heap.size), []⟩ :: L) := by
 have hk : Owns G (w.alloc (.map #[] 0)) B L := h.keep (fun b hb => Below.heap_alloc w _ b hb) (by simp) fun _ _ => rfl
 refine ⟨fun c hc => ?_, .cons (fun d hd g hg => ?_) h.apart, hk.base⟩
 ·rcases List.mem_cons.1 hc with rfl | hc
  ·refine ⟨⟨rfl, .inr (.inr ⟨w.heap.size, rfl, h.base, Go.heap_alloc_new w _⟩)⟩, fun g hg => ?_⟩
   simp [qO] at hg
   subst hg
   cases hG : G w.heap.size with
   | none => rfl
   | some o => exact absurd (hS.lt hG) (Nat.lt_irrefl _)
  ·exact hk.each c hc
 ·simp [qO] at hg
  subst hg
  intro hd'
  exact absurd ((h.each d hd).lt hd').2 (Nat.lt_irrefl _)
theorem zju {T e : Nat} (hS : Since B G0 w0 G w) (hO : Owns G w B L) (hd : Nat.blt d N = true)
  (h : ∀ r w', Since B G0 w0 G w' → Owns G w' B (⟨e, 2, 0, .map (some r), []⟩ :: L) → K (upd F d (.map (some r))) w') : OpP κ P N p ⟨some d, .makeMap T none, ty, pos, af, gd⟩ F w K := by
 refine ks (v := .map (some w.heap.size)) (w' := w.alloc (.map #[] 0)) ?_ hd (.alloc _ _) (h _ _ (hS.keep ((Below.refl _ w).alloc (Nat.le_refl _) _)) (hO.newMap hS.sat e))
 rfl
theorem zla {k e n r : Nat} {cells : List Value} (hO : Owns G w B L) (hk : L[k]? = some ⟨e, 2, n, .map (some r), cells⟩) : w.heap[r]? = some (.map (mkE cells 0).toArray n) := by
 have hc := hO.each _ (List.mem_of_getElem? hk)
 rcases hc.1.2 with ⟨hv, _⟩ | ⟨_, _, _, _, hv, _⟩ | ⟨r', hv, _, hr⟩
 ·cases hv
 ·cases hv
 ·cases hv; exact hr
variable {Q V : Type} [BEq Q] {kv : Q → Value} {vv : V → Value} {M : List (Q × V)} {T kt et k e n r : Nat} {X I Y : Operand} {a : Q} {od : Option Nat}
theorem zc3 {z : V} (hT : P.underlying T = some (.map kt et)) (hk : zmi P kt kv) (hz : (P.info? et).bind (·.zero) = some (vv z)) (hO : Owns G w B L) (hr : L[k]? = some ⟨e, 2, n, .map (some r), kvs kv vv M⟩) (hx : ev F X = .map (some r)) (hi : ev F I = kv a) :
  (execOp (ev F) ⟨od, .lookup T X I false, ty, pos, af, gd⟩).run P w = .ok (.value (vv ((ju M a).getD z))) w := by
 have hm := zla hO hr
 have hfind := hk.fnd vv a M w
 obtain ⟨i, hi1, hi2⟩ := Option.bind_eq_some_iff.1 hz
 rw [← zgB a M 0]
 simp only [execOp, hx, hi, Instr.lookup, Sem.run_bind, run_underlying hT, Result.andThen_ok, run_getObj_map _ _ _ _ hm, Sem.run_pure, hk.chk, hfind]
 cases hf : zbR a M 0 with
 | none => simp [zeroValue, typeInfo, hi1, hi2]
 | some q => simp
theorem zfW [LawfulBEq Q] {v : V} (hT : P.underlying T = some (.map kt et)) (hk : zmi P kt kv) (hS : Since B G0 w0 G w) (hO : Owns G w B L) (hr : L[k]? = some ⟨e, 2, n, .map (some r), kvs kv vv M⟩) (hn : n = M.length) (hx : ev F X = .map (some r)) (hi : ev F I = kv a) (hy : ev F Y = vv v)
  (h : ∀ w', Since B G0 w0 G w' → Owns G w' B (L.set k ⟨e, 2, (updM M a v).length, .map (some r), kvs kv vv (updM M a v)⟩) → K F w') : OpP κ P N p ⟨none, .mapUpdate T X I Y, ty, pos, af, gd⟩ F w K := by
 subst hn
 have hm := zla hO hr
 have hc := hO.each _ (List.mem_of_getElem? hr)
 have hlt : r < w.heap.size := (Array.getElem?_eq_some_iff.1 hm).1
 have hBr : B ≤ r := (hc.1.lt (g := r) rfl).1
 have hfind := hk.fnd vv a M w
 obtain ⟨w', hw'⟩ : ∃ w' : World, w' = { w with heap := w.heap.setIfInBounds r (.map (mkE (kvs kv vv (updM M a v)) 0).toArray (updM M a v).length) } := ⟨_, rfl⟩
 have hsize : w'.heap.size = w.heap.size := by rw [hw']; simp
 have hoth : ∀ b, b ≠ r → w'.heap[b]? = w.heap[b]? := fun b hb => by rw [hw']; simp [Array.getElem?_setIfInBounds_ne (Ne.symm hb)]
 have hdiff : ∀ b, b < w.heap.size → qO (Value.map (some r)) ≠ some b → w'.heap[b]? = w.heap[b]? := fun b _ hne => hoth b (fun e => hne (by subst e; rfl))
 have hself : w'.heap[r]? = some (.map (mkE (kvs kv vv (updM M a v)) 0).toArray (updM M a v).length) := by rw [hw']; simp [hlt]
 have hsat : Sat G w' := vk hS.sat hc hdiff
 have hbel : Below B w w' := ⟨by rw [hw'], by rw [hw'], by rw [hw'], Nat.le_of_eq hsize.symm, fun b hb => hoth b (by omega)⟩
 refine zfH (w' := w') ?_ (ky hc (Nat.le_of_eq hsize.symm) hdiff) (h w' (hS.write hsat hbel) (hO.write (c' := ⟨e, 2, _, _, _⟩) hr (Nat.le_of_eq hsize.symm) hdiff ⟨⟨zlm kv vv _, .inr (.inr ⟨r, rfl, hBr, hself⟩)⟩, hc.2⟩ fun g hg => .inl hg))
 simp only [execOp, hx, hi, hy, Instr.mapUpdate, Sem.run_bind, run_underlying hT, Result.andThen_ok, run_getObj_map _ _ _ _ hm, hk.chk, hfind]
 cases hf : zbR a M 0 with
 | none =>
  obtain ⟨q1, q2⟩ := zfY kv vv a v M 0 hf
  have hso : ∀ o, (setObj r o).run P w = .ok () { w with heap := w.heap.setIfInBounds r o } := fun o => by simp [setObj, Sem.run, hm]
  simp [hso, hw', q1, q2]
 | some q =>
  obtain ⟨j, v0⟩ := q
  obtain ⟨q0, q1, q2, q3⟩ := zen kv vv a v v0 j M 0 hf
  have hso : ∀ o, (setObj r o).run P w = .ok () { w with heap := w.heap.setIfInBounds r o } := fun o => by simp [setObj, Sem.run, hm]
  rw [Nat.sub_zero] at q1 q2
  have hkey : Option.getD (Option.map (fun x => x.key) (mkE (kvs kv vv M) 0).toArray[j]?) (kv a) = kv a := by
   rw [show (mkE (kvs kv vv M) 0).toArray[j]? = (mkE (kvs kv vv M) 0)[j]? by simp, q1]; rfl
  simp only [Option.map_some, hkey, Instr.keyThatStays, hk.same, if_true, Sem.run_bind, Sem.run_pure, Result.andThen_ok, hso, hw', q2, q3]
  simp
end
section
variable {κ : Ctx} {P : Program} {N : Nat} {n r : Fr → World → Prop} {x : List (Nat × (Fr → World → Prop))} {p : List PanicEntry → Fr → World → Prop} {F : Fr} {w : World}
theorem zqD {c : Code} (h : WC κ P N c ⟨n, r, x, p⟩ F w) (hro : κ.ro = none := by rfl) : WC κ P N (.scope c) ⟨n, r, x, p⟩ F w := by
 intro a wI h1 h3
 have h0 := h a wI h1 h3
 rw [hro] at h0 ⊢
 refine wpIn_wide.2 (wp_scope_straight (wp_mono (wpIn_wide.1 h0) ?_))
 rintro e a' w' ⟨p1, p3⟩
 cases e <;> first | exact p3.elim | exact ⟨p1, p3⟩
end
theorem Shut.fix {B B' : Nat} {w w' : World} (h : Shut B w w') (hB : B' ≤ B) : FixStep B' w w' :=
 ⟨h.os, h.tape, h.output, h.size, fun k hk => h.low k (Nat.lt_of_lt_of_le hk hB), h.block⟩
section
variable {κ : Ctx} {P : Program} {N : Nat} {F : Fr} {w : World} {K : Fr → World → Prop} {d : Nat} {ty : TypeId} {pos : String} {af : Array Edge} {gd : Option (Nat × Bool)} {p : List PanicEntry → Fr → World → Prop}
theorem zwu {f : FuncId} {fn : Func} {c : Code} {al : List Value} {rs : List ResultVar} {S : Value → World → Prop} (hf : P.funcs[f]? = some fn) (hb : fn.body = some c) (hr : fn.results = rs.toArray) (hn : fn.ntmps = N) (hN : Nat.ble al.length N = true)
  (hS : ∀ v w' w'', S v w' → Shut w.heap.size w' w'' → S v w'')
  (h : WC ⟨none, none, w.heap.size, false, []⟩ P N c ⟨fun F w' => ∃ vs, ResOk P F w' rs vs ∧ S (resOf vs) w', fun F w' => ∃ vs, ResOk P F w' rs vs ∧ S (resOf vs) w', [], fun _ _ _ => False⟩ (kJ al) w) :
  Calls P f al.toArray w fun e w' => ∃ v, e = .returned v ∧ Keeps none w w' ∧ S v w' := by
 have hle := nQl hN
 have h0 : CallsIn Fence.wide 0 P f al.toArray w fun e w' => ∃ v, e = .returned v ∧ Keeps none w w' ∧ S v w' := by
  refine callsIn_of_wp_marks hf hb trivial (wpIn_mono (h _ w ⟨?_, Calm.nil _ _, Keeps.refl _, Nat.le_refl _⟩ ?_) ?_)
  ·simp [hn]; omega
  ·exact jC al _ _
  ·have key : ∀ (a' : Act) (w' : World), St ⟨none, none, w.heap.size, false, []⟩ N w a' w' → (∃ vs, ResOk P (yO a') w' rs vs ∧ S (resOf vs) w') → LeavesInM Fence.wide 0 P fn a'.tmps (fun e w' => ∃ v, e = .returned v ∧ Keeps none w w' ∧ S v w') a'.defers .returning w' := by
    rintro a' w' p1 ⟨vs, h1, h2⟩
    refine xG rfl _ _ p1.calm fun w'' hw => ⟨_, zaw hr (h1.shut hw), _, rfl, ⟨Nat.le_trans p1.keep.size (Nat.le_of_eq hw.size.symm), fun D o hD hDo ho => ?_⟩, hS _ _ _ h2 hw⟩
    have hlt := (Array.getElem?_eq_some_iff.1 hDo).1
    exact (hw.low D hlt).trans (p1.keep.same D o hD hDo ho)
   rintro e a' w' ⟨p1, p3⟩
   cases e with
   | normal => exact key _ _ p1 p3
   | ret => exact key _ _ p1 p3
   | exit k => obtain ⟨K, hK, _⟩ := p3; cases hK
   | goto l => exact p3.elim
   | panic c => exact p3.elim
   | outgrown => exact p3.elim
 exact callsIn_wide.1 h0
def jP (B : Nat) (G0 : Gm) (w0 : World) (Gc : Gm) (wc : World) (Φ : Gm → List Row → Value → Prop) : Ending → World → Prop := fun e w' => ∃ v, e = .returned v ∧ Keeps none wc w' ∧ ∃ G' L', Gle Gc G' ∧ Since B G0 w0 G' w' ∧ Owns G' w' B L' ∧ Φ G' L' v
theorem yP {f : FuncId} {fn : Func} {c : Code} {al : List Value} {rs : List ResultVar} {B : Nat} {G0 : Gm} {w0 : World} {Gc : Gm} {Φ : Gm → List Row → Value → Prop} (hB : B ≤ w.heap.size) (hf : P.funcs[f]? = some fn) (hb : fn.body = some c) (hr : fn.results = rs.toArray) (hn : fn.ntmps = N) (hN : Nat.ble al.length N = true)
  (h : WC ⟨none, none, w.heap.size, false, []⟩ P N c ⟨fun F w' => ∃ vs, ResOk P F w' rs vs ∧ ∃ G' L', Gle Gc G' ∧ Since B G0 w0 G' w' ∧ Owns G' w' B L' ∧ Φ G' L' (resOf vs), fun F w' => ∃ vs, ResOk P F w' rs vs ∧ ∃ G' L', Gle Gc G' ∧ Since B G0 w0 G' w' ∧ Owns G' w' B L' ∧ Φ G' L' (resOf vs), [], fun _ _ _ => False⟩ (kJ al) w) :
  Calls P f al.toArray w (jP B G0 w0 Gc w Φ) :=
 zwu (S := fun v w' => ∃ G' L', Gle Gc G' ∧ Since B G0 w0 G' w' ∧ Owns G' w' B L' ∧ Φ G' L' v) hf hb hr hn hN (fun _ _ _ ⟨G', L', h1, h2, h3, h4⟩ hs => ⟨G', L', h1, h2.fix (hs.fix hB), h3.fix (hs.fix hB), h4⟩) h
theorem z9 {k : Nat} {X : Operand} {args : Array Operand} {ats : Array TypeId} {al fi ca : List Value} {B : Nat} {G0 : Gm} {w0 : World} {Gc : Gm} {Φ : Gm → List Row → Value → Prop} (hk : zJ P k = true) (hc : Calls P k (fi ++ al ++ ca).toArray w (jP B G0 w0 Gc w Φ)) (hx : ev F X = .func (.func k) fi.toArray ca.toArray) (ha : args.toList.map (ev F) = al) (hd : Nat.blt d N = true)
  (h : ∀ v G' w' L', Gle Gc G' → Since B G0 w0 G' w' → Owns G' w' B L' → Φ G' L' v → K (upd F d v) w') : OpP κ P N p ⟨some d, .call { callee := .value X, args := args, argTypes := ats }, ty, pos, af, gd⟩ F w K :=
 jd (zci hk hx ha) hd hc fun _ _ ⟨v, h1, h2, G', L', q1, q2, q3, q4⟩ => ⟨v, h1, h2.weak, h v G' _ L' q1 q2 q3 q4⟩
theorem zkJ {op : Op} {f : FuncId} {args : Array Value} {R : Ending → World → Prop} {w' : World} (hrun : (execOp (ev F) ⟨some d, op, ty, pos, af, gd⟩).run P w = .ok (.enter f args) w') (hd : Nat.blt d N = true) (hc : Calls P f args w' R)
  (h : ∀ e w'', R e w'' → (∃ v, e = .returned v ∧ Keeps κ.ex w w'' ∧ K (upd F d v) w'') ∨ (∃ c, e = .panicked c ∧ Keeps κ.ex w w'' ∧ p c F w'')) : OpP κ P N p ⟨some d, op, ty, pos, af, gd⟩ F w K := by
 refine ⟨zcv (fun _ h => by cases h) hrun, fun a wI h1 h3 => ?_⟩
 unfold Oper.wp
 rw [qT, h3, hrun]
 refine hc.mono fun e w'' hR => ?_
 rcases h e w'' hR with ⟨v, rfl, hk, hW⟩ | ⟨c, rfl, hk, hp⟩
 ·refine ⟨h1.put hk _ _, ?_⟩
  rw [qY a d v (h1.lt hd), h3]; exact hW
 ·exact ⟨⟨h1.size, h1.calm.keep hk, h1.keep.trans hk, Nat.le_trans h1.base hk.size⟩, by rw [h3]; exact hp⟩
theorem znn {od : Option Nat} {X : Operand} {v : Value} (hx : ev F X = v) (hv : ∃ t u, v = .iface t u) (h : p [{ v, recovered := false }] F w) : OpP κ P N p ⟨od, .panic X, ty, pos, af, gd⟩ F w K := by
 refine ⟨by simp, fun a wI h1 h3 => ?_⟩
 obtain ⟨t, u, rfl⟩ := hv
 have hr : (execOp (ev F) ⟨od, .panic X, ty, pos, af, gd⟩).run P w = .halt (.panic (.iface t u)) w := by
  simp only [execOp, hx, Instr.panic]
  simp
 unfold Oper.wp
 rw [qT, h3, hr]
 exact ⟨h1, by rw [h3]; exact h⟩
end
end Go.Proofs.YtihedfkcccaonaaGreatDoor
