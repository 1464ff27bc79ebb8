/-
  slices.Insert of one number into a row of numbers of the call's own.
-/
import Derived.Test.YtcaflmilfhhikaaGreatDoorBaseQ
import Derived.Shelf.Spec.SlicesInsertGrow
namespace Go.Proofs.YtcaflmilfhhikaaGreatDoor
open Go.RowKit Go.Shelf
set_option linter.unusedVariables false

theorem row_turn {G G0 : Gm} {w w0 : World} {B : Nat} {L : List Row} {X : Option Nat} {k e sz n : Nat} {v : Value} {cells : List Value} (hS : Since B G0 w0 G w) (hO : Owns G w B L) (hk : L[k]? = some ⟨e, sz, n, v, cells⟩) {w' : World} {v' : Value} {n' : Nat} {cells' : List Value}
    (q1 : ORow w' B e sz v' n' cells') (q2 : w.grownBy w' (blkOf v)) (q3 : ∀ g, blkOf v' = some g → blkOf v = some g ∨ w.heap.size ≤ g) : Since B G0 w0 G w' ∧ Owns G w' B (L.set k ⟨e, sz, n', v', cells'⟩) ∧ Keeps X w w' := by
  have hc := hO.each _ (List.mem_of_getElem? hk)
  have hdiff : ∀ b, b < w.heap.size → blkOf v ≠ some b → w'.heap[b]? = w.heap[b]? := fun b hb hne => q2.block b hb (fun e => hne e.symm)
  have hsat : Sat G w' := sat_write hS.sat hc hdiff
  have hbel : Below B w w' := ⟨q2.os, q2.tape, q2.output, q2.size, fun b hb => hdiff b (Nat.lt_of_lt_of_le hb hO.base) (fun e => by have := (hc.lt e).1; omega)⟩
  refine ⟨hS.write hsat hbel, hO.write hk q2.size hdiff ⟨q1, fun g hg => ?_⟩ q3, keeps_row hc q2.size hdiff⟩
  rcases q3 g hg with h' | h'
  · exact hc.2 g h'
  · cases hG : G g with
    | none => rfl
    | some o => exact absurd (hS.sat.lt hG) (by omega)
theorem setCells_row {w : World} {g : Nat} {t : TypeId} {fz : Nat × Nat} : ∀ (vs : List Value) (o : Nat) (cur : Array Value) (w : World), w.heap[g]? = some (.cells cur t fz) → o + vs.length ≤ cur.size →
    w.setCells g o vs = w.setRow g (cur.toList.take o ++ vs ++ cur.toList.drop (o + vs.length)).toArray
  | [], o, cur, w, hg, _ => by
    simp only [World.setCells, List.append_nil, List.length_nil, Nat.add_zero, List.take_append_drop, Array.toArray_toList]
    rw [setRow_self w g cur t fz hg]
  | v :: rest, o, cur, w, hg, hl => by
    have ih := setCells_row (w := w) (g := g) (t := t) (fz := fz) rest (o + 1) (cur.setIfInBounds o v) (w.setRow g (cur.setIfInBounds o v)) (setRow_heap w g cur _ t _ hg) (by simp at hl ⊢; omega)
    rw [World.setCells, setCell_eq_setRow w g o cur t fz v hg, ih, setRow_setRow]
    congr 2
    have e := list_seg_step cur.toList o v rest (by simp at hl ⊢; omega)
    simpa [Array.toList_setIfInBounds, Nat.add_assoc] using e
/-- A number is put between the others of a list. -/
def insL (xs : List Int) (i x : Int) : Option (List Int) := if 0 ≤ i ∧ i.toNat ≤ xs.length ∧ xs.length < 1073741824 then some (xs.take i.toNat ++ x :: xs.drop i.toNat) else none
theorem insL_some {xs zs : List Int} {i x : Int} (h : insL xs i x = some zs) : (0 ≤ i ∧ i.toNat ≤ xs.length ∧ xs.length < 1073741824) ∧ zs = xs.take i.toNat ++ x :: xs.drop i.toNat := by
  unfold insL at h
  split at h
  · exact ⟨‹_›, (Option.some.inj h).symm⟩
  · cases h
theorem seg_mid (cur : List Value) (o n i : Nat) (x : Value) (cs : List Value) (hc : (cur.drop o).take n = cs) (hcl : cs.length = n) (hi : i ≤ n) (hs : o + n + 1 ≤ cur.length) :
    (((((cur.take (o + (i + 1)) ++ cs.drop i ++ cur.drop (o + (i + 1) + (cs.drop i).length)).take (o + i) ++ [x] ++ (cur.take (o + (i + 1)) ++ cs.drop i ++ cur.drop (o + (i + 1) + (cs.drop i).length)).drop (o + i + 1))).drop o).take (n + 1)) = cs.take i ++ x :: cs.drop i := by
  have hdl : (cs.drop i).length = n - i := by simp [hcl]
  refine List.ext_getElem? fun j => ?_
  have hcj : ∀ q, q < n → cs[q]? = cur[o + q]? := fun q hq => by rw [← hc, List.getElem?_take, if_pos hq, List.getElem?_drop]
  have hL : (cs.take i).length = i := by simp [hcl, hi]
  rw [List.getElem?_take, List.getElem?_drop]
  have h1 : (cur.take (o + (i + 1))).length = o + (i + 1) := by simp; omega
  have hA : ((cur.take (o + (i + 1)) ++ cs.drop i ++ cur.drop (o + (i + 1) + (cs.drop i).length)).take (o + i)).length = o + i := by simp [hdl]; omega
  by_cases hj : j < n + 1
  · rw [if_pos hj]
    by_cases h2 : j < i
    · rw [List.getElem?_append_left (by rw [List.length_append, hA]; omega), List.getElem?_append_left (by rw [hA]; omega), List.getElem?_take, if_pos (by omega), List.getElem?_append_left (by simp [h1]; omega), List.getElem?_append_left (by rw [h1]; omega), List.getElem?_take, if_pos (by omega)]
      rw [List.getElem?_append_left (by omega), List.getElem?_take, if_pos h2, hcj j (by omega)]
    · rw [List.getElem?_append_right (l₁ := cs.take i) (by omega), hL]
      by_cases h3 : j = i
      · subst h3
        rw [List.getElem?_append_left (by rw [List.length_append, hA]; simp), List.getElem?_append_right (by rw [hA]; omega), hA]
        simp
      · rw [List.getElem?_append_right (by rw [List.length_append, hA]; simp; omega)]
        simp only [List.length_append, hA, List.length_cons, List.length_nil]
        rw [List.getElem?_drop, List.getElem?_append_left (by simp [h1, hdl]; omega), List.getElem?_append_right (by rw [h1]; omega), h1]
        have e : j - i = (j - i - 1) + 1 := by omega
        rw [e, List.getElem?_cons_succ]
        congr 1
        omega
  · rw [if_neg hj]
    refine (List.getElem?_eq_none ?_).symm
    simp [hcl]
    omega
set_option maxHeartbeats 2000000 in
theorem ins_ok {P : Program} {ρ : Ren} (hP : Lays2.n21 P ρ) {B : Nat} {G0 : Gm} {w0 : World} {Gc : Gm} {wc : World} {Lq : List Row} {a : Option Addr} {n c e' vb : Nat} {cells : List Value} {xs zs : List Int} {i x : Int}
    (hS : Since B G0 w0 Gc wc) (hO : Owns Gc wc B (⟨ρ.t 3, 1, n, .slice a n c, cells⟩ :: ⟨e', 1, 1, .slice (some ⟨vb, 0, none⟩) 1 1, [.int .i64 x]⟩ :: Lq)) (hn : n = xs.length) (hrd : Rd RInt 1 Gc cells xs) (H : insL xs i x = some zs) :
    Calls P (ρ.f 21) #[.slice a n c, .int .i64 i, .slice (some ⟨vb, 0, none⟩) 1 1] wc (RetO B G0 w0 Gc wc (fun G L r => ∃ a' c' cells', r = .slice a' zs.length c' ∧ L = ⟨ρ.t 3, 1, zs.length, .slice a' zs.length c', cells'⟩ :: ⟨e', 1, 1, .slice (some ⟨vb, 0, none⟩) 1 1, [.int .i64 x]⟩ :: Lq ∧ Rd RInt 1 G cells' zs)) := by
  obtain ⟨⟨h0, h1, h2⟩, rfl⟩ := insL_some H
  obtain ⟨i, rfl⟩ := Int.eq_ofNat_of_zero_le h0
  simp only [Int.toNat_natCast] at h1 ⊢
  subst hn
  have hcells := rd_int hrd
  subst hcells
  have hc := (hO.each _ (List.mem_cons_self ..)).1
  have hv := (hO.each _ (List.mem_cons_of_mem _ (List.mem_cons_self ..))).1
  have hc : ORow wc B (ρ.t 3) 1 (.slice a xs.length c) xs.length (cellsI xs) := hc
  have hv : ORow wc B e' 1 (.slice (some ⟨vb, 0, none⟩) 1 1) 1 [.int .i64 x] := hv
  have hcl : (cellsI xs).length = xs.length := cellsI_len xs
  have hlz : (xs.take i ++ x :: xs.drop i).length = xs.length + 1 := by simp; omega
  have hzc : cellsI (xs.take i ++ x :: xs.drop i) = (cellsI xs).take i ++ Value.int .i64 x :: (cellsI xs).drop i := by simp [cellsI]
  have hvs : ∀ j v, ([Value.int .i64 x] : List Value)[j]? = some v → wc.cell? ⟨vb, 0 + j, none⟩ = some v := fun j v hj => hv.cells hj
  obtain ⟨vcur, hvheap, hvsz⟩ : ∃ vcur, wc.heap[vb]? = some (.cells vcur e' (0, 0)) ∧ 1 ≤ vcur.size := by
    rcases hv.2 with ⟨h, _⟩ | ⟨g, o, cap, cur, h, _, hg, hnc, _, hsz, _⟩ | ⟨_, h, _⟩
    · cases h
    · cases h; exact ⟨cur, hg, by omega⟩
    · cases h
  have hvlt : vb < wc.heap.size := (Array.getElem?_eq_some_iff.1 hvheap).1
  have fin : ∀ (a' : Option Addr) (c' : Nat) (w' : World), ORow w' B (ρ.t 3) 1 (.slice a' (xs.length + 1) c') (xs.length + 1) (cellsI (xs.take i ++ x :: xs.drop i)) → wc.grownBy w' (blkOf (.slice a xs.length c)) → (∀ g, blkOf (.slice a' (xs.length + 1) c') = some g → blkOf (Value.slice a xs.length c) = some g ∨ wc.heap.size ≤ g) →
      RetO B G0 w0 Gc wc (fun G L r => ∃ a' c' cells', r = .slice a' (xs.take i ++ x :: xs.drop i).length c' ∧ L = ⟨ρ.t 3, 1, (xs.take i ++ x :: xs.drop i).length, .slice a' (xs.take i ++ x :: xs.drop i).length c', cells'⟩ :: ⟨e', 1, 1, .slice (some ⟨vb, 0, none⟩) 1 1, [.int .i64 x]⟩ :: Lq ∧ Rd RInt 1 G cells' (xs.take i ++ x :: xs.drop i)) (.returned (.slice a' (xs.length + 1) c')) w' := fun a' c' w' q1 q2 q3 => by
    obtain ⟨r1, r2, r3⟩ := row_turn (X := none) (k := 0) hS hO rfl q1 q2 q3
    rw [hlz]
    exact ⟨_, rfl, r3, Gc, _, Gle.refl _, r1, r2, a', c', _, rfl, rfl, int_rd _⟩
  rcases hc.2 with ⟨hv0, hz⟩ | ⟨g, o, cap, cur, hv0, hBg, hg, hnc, hcm, hsz, htake⟩ | ⟨r, hv0, _⟩
  · -- nothing yet
    have hx : xs = [] := List.eq_nil_of_length_eq_zero hz
    subst hx
    cases hv0
    have hi0 : i = 0 := by simpa using h1
    subst hi0
    refine (Any2.slices_Insert_int_end_grow hP none 0 0 vb 0 1 1 [] [.int .i64 x] wc (by omega) (by omega) (by omega) (by omega) rfl rfl (fun _ => rfl) (fun a ha => by cases ha) hvs (fun v hv => by simp at hv; subst hv; rfl)).mono ?_
    rintro e w' ⟨rfl, rfl⟩
    have hge := grownCap_ge wc 1 0 (ρ.t 3)
    refine fin _ _ _ ⟨rfl, .inr (.inl ⟨_, 0, _, _, rfl, hO.base, Go.heap_alloc_new wc.drew _, hge, grownCap_le_maxLen wc 1 0 _ (by decide), ?_, ?_⟩)⟩ ⟨rfl, rfl, rfl, by simp, fun k hk _ => Below.heap_alloc wc.drew _ k hk⟩ (fun g hg => .inr (by simp [blkOf] at hg; omega))
    · simp [size_zeroCells, Value.cells]; omega
    · simp [cellsI]
  · cases hv0
    have hct : cur.toList.length = cur.size := Array.length_toList
    have hcs : ∀ j v, (cellsI xs)[j]? = some v → wc.cell? ⟨g, o + j, none⟩ = some v := fun j v hj => hc.cells hj
    rcases Nat.lt_or_ge i xs.length with hlt | hge
    · by_cases hroom : xs.length + 1 ≤ c
      · -- between, with room
        have hne : vb ≠ g := fun e => by
          have hap := pw_at apart_symm hO.apart (k := 0) rfl
          subst e
          exact hap _ (List.mem_cons_self ..) vb rfl rfl
        refine (Any2.slices_Insert_int_shift hP g o xs.length c i vb 0 1 1 (cellsI xs) [.int .i64 x] wc hlt (by omega) hroom (by simp only [maxLen] at hcm; omega) hne hcl rfl hcs (fun j hj => ?_) (fun j hj => ?_) hvs (cellsI_one xs) (fun v hv => by simp at hv; subst hv; rfl)
          e' (ρ.t 3) vcur.size cur.size (by simp [World.shape?, hvheap]) (by simp [World.shape?, hg]) (by omega) (by simp [World.frozen?, hvheap]) (by simp [World.frozen?, hvheap])).mono ?_
        · simp [World.cell?, hg]; omega
        · simp [World.frozen?, hg]
        rintro e w' ⟨rfl, hw⟩
        have hgd : wc.drew.heap[g]? = some (.cells cur (ρ.t 3) (0, 0)) := hg
        have hdl : ((cellsI xs).drop i).length = xs.length - i := by simp [hcl]
        have e1 := setCells_row (w := wc.drew) (g := g) ((cellsI xs).drop i) (o + (i + 1)) cur wc.drew hgd (by rw [hdl]; omega)
        rw [e1] at hw
        have hg1 := setRow_heap wc.drew g cur (cur.toList.take (o + (i + 1)) ++ (cellsI xs).drop i ++ cur.toList.drop (o + (i + 1) + ((cellsI xs).drop i).length)).toArray (ρ.t 3) _ hgd
        have hs1 : (cur.toList.take (o + (i + 1)) ++ (cellsI xs).drop i ++ cur.toList.drop (o + (i + 1) + ((cellsI xs).drop i).length)).toArray.size = cur.size := by
          simp only [List.size_toArray, List.length_append, List.length_take, List.length_drop, hcl, hct]
          omega
        have e2 := setCells_row (w := wc.drew) (g := g) [Value.int .i64 x] (o + i) _ _ hg1 (by rw [hs1]; simp; omega)
        rw [e2, setRow_setRow] at hw
        subst hw
        refine fin _ _ _ ⟨by simp [cellsI_len]; omega, .inr (.inl ⟨g, o, c, _, rfl, hBg, setRow_heap wc.drew g cur _ (ρ.t 3) _ hgd, hroom, hcm, ?_, ?_⟩)⟩ ⟨rfl, rfl, rfl, by simp [World.setRow], fun k _ hk => setRow_other wc.drew g k _ (fun e => hk (by simp [blkOf, e]))⟩ (fun g' hg' => .inl hg')
        · simp only [List.size_toArray, List.length_append, List.length_take, List.length_drop, hcl, hct, List.length_cons, List.length_nil]
          omega
        · rw [hzc, Nat.mul_one]
          exact seg_mid cur.toList o xs.length i (.int .i64 x) (cellsI xs) (by simpa using htake) hcl (by omega) (by rw [hct]; omega)
      · -- between, without room
        refine (Any2.slices_Insert_int_grow hP g o xs.length c i vb 0 1 1 (cellsI xs) [.int .i64 x] wc hlt (by omega) hnc (by omega) (by omega) hcl rfl hcs hvs (cellsI_one xs) (fun v hv => by simp at hv; subst hv; rfl)).mono ?_
        rintro e w' ⟨rfl, hw⟩
        have hge' := grownCap_ge wc (xs.length + 1) c (ρ.t 3)
        obtain ⟨cur0, hcur0⟩ : ∃ z, z = (((cellsI xs).take i).toArray ++ Builtin.zeroCells (Value.int .i64 0).cells (xs.length + 1 - i) ++ Builtin.zeroCells (Value.int .i64 0).cells (grownCap wc (xs.length + 1) c (ρ.t 3) - (xs.length + 1))) := ⟨_, rfl⟩
        rw [← hcur0] at hw
        have hzs : (Value.int .i64 0).cells.size = 1 := rfl
        have hsz0 : cur0.size = grownCap wc (xs.length + 1) c (ρ.t 3) := by rw [hcur0]; simp [size_zeroCells, hzs, hcl]; omega
        have htk : cur0.toList.take i = (cellsI xs).take i := by
          rw [hcur0]
          simp only [Array.toList_append, List.append_assoc]
          rw [List.take_append_of_le_length (by simp [hcl]; omega)]
          show ((cellsI xs).take i).take i = _
          rw [List.take_take, Nat.min_self]
        have hg0 : (wc.alloc (.cells cur0 (ρ.t 3))).drew.heap[wc.heap.size]? = some (.cells cur0 (ρ.t 3) (0, 0)) := Go.heap_alloc_new wc _
        have e1 := setCells_row (w := wc.drew) (g := wc.heap.size) [Value.int .i64 x] i cur0 _ hg0 (by simp [hsz0]; omega)
        rw [e1] at hw
        have hg1 := setRow_heap _ wc.heap.size cur0 (cur0.toList.take i ++ [Value.int .i64 x] ++ cur0.toList.drop (i + [Value.int .i64 x].length)).toArray (ρ.t 3) _ hg0
        have hg1' : (((wc.alloc (.cells cur0 (ρ.t 3))).drew.setRow wc.heap.size (cur0.toList.take i ++ [Value.int .i64 x] ++ cur0.toList.drop (i + [Value.int .i64 x].length)).toArray).drew).heap[wc.heap.size]? = some (.cells (cur0.toList.take i ++ [Value.int .i64 x] ++ cur0.toList.drop (i + [Value.int .i64 x].length)).toArray (ρ.t 3) (0, 0)) := hg1
        have hdl : ((cellsI xs).drop i).length = xs.length - i := by simp [hcl]
        have e2 := setCells_row (w := wc.drew) (g := wc.heap.size) ((cellsI xs).drop i) (i + 1) _ _ hg1' (by simp [hsz0, hcl]; omega)
        rw [e2] at hw
        subst hw
        refine fin _ _ _ ⟨by simp [cellsI_len]; omega, .inr (.inl ⟨wc.heap.size, 0, _, _, rfl, hO.base, setRow_heap _ wc.heap.size _ _ (ρ.t 3) _ hg1', hge', grownCap_le_maxLen wc _ c _ (by simp only [maxLen]; omega), ?_, ?_⟩)⟩ ⟨rfl, rfl, rfl, by simp [World.setRow], fun k hk _ => ?_⟩ (fun g' hg' => .inr (by simp [blkOf] at hg'; omega))
        · simp [hsz0, hcl]; omega
        · rw [hzc, Nat.mul_one, List.drop_zero]
          simp only [List.length_cons, List.length_nil, Nat.zero_add, htk, hdl]
          have hti : ((cellsI xs).take i).length = i := by simp [hcl]; omega
          have e5 : ((cellsI xs).take i ++ [Value.int .i64 x] ++ cur0.toList.drop (i + 1)).take (i + 1) = (cellsI xs).take i ++ [Value.int .i64 x] := by
            rw [List.take_append_of_le_length (by simp [hti])]
            exact List.take_of_length_le (by simp [hti])
          rw [e5]
          rw [List.take_append_of_le_length (by simp [hti, hdl]; omega), List.take_of_length_le (by simp [hti, hdl]; omega)]
          simp
        · rw [setRow_other _ _ _ _ (by omega)]
          show (((wc.alloc (.cells cur0 (ρ.t 3))).drew.setRow wc.heap.size _)).heap[k]? = _
          rw [setRow_other _ _ _ _ (by omega)]
          exact Below.heap_alloc wc _ k hk
    · have hi : i = xs.length := by omega
      subst hi
      have hzc : cellsI (xs.take xs.length ++ x :: xs.drop xs.length) = cellsI xs ++ [Value.int .i64 x] := by simp [cellsI]
      by_cases hroom : xs.length + 1 ≤ c
      · -- at the end, with room
        refine (Any2.slices_Insert_int_end_room hP g o xs.length c vb 0 1 1 [.int .i64 x] wc (by omega) hroom (by simp only [maxLen] at hcm; omega) rfl (fun j hj => ?_) (fun j hj => ?_) hvs (fun v hv => by simp at hv; subst hv; rfl)).mono ?_
        · simp [World.cell?, hg]; omega
        · simp [World.frozen?, hg]
        rintro e w' ⟨rfl, hw⟩
        have e2 := setCells_row (w := wc) (g := g) [Value.int .i64 x] (o + xs.length) _ _ hg (by simp; omega)
        rw [e2] at hw
        subst hw
        refine fin _ _ _ ⟨by simp [cellsI_len], .inr (.inl ⟨g, o, c, _, rfl, hBg, setRow_heap wc g cur _ (ρ.t 3) _ hg, hroom, hcm, ?_, ?_⟩)⟩ ⟨rfl, rfl, rfl, by simp [World.setRow], fun k _ hk => setRow_other wc g k _ (fun e => hk (by simp [blkOf, e]))⟩ (fun g' hg' => .inl hg')
        · simp; omega
        · rw [hzc]
          have := take_drop_app cur.toList (cellsI xs) [Value.int .i64 x] o (by rw [hcl]; simpa using htake) (by rw [hct, hcl]; simp; omega)
          rw [List.length_append, hcl] at this
          simpa using this
      · -- at the end, without room
        refine (Any2.slices_Insert_int_end_grow hP (some ⟨g, o, none⟩) xs.length c vb 0 1 1 (cellsI xs) [.int .i64 x] wc (by omega) hnc (by omega) (by omega) hcl rfl (fun h => by cases h) (fun a ha j v hj => by cases ha; rw [add_addr]; exact hcs j v hj) hvs (fun v hv => by simp at hv; subst hv; rfl)).mono ?_
        rintro e w' ⟨rfl, rfl⟩
        have hge' := grownCap_ge wc (xs.length + 1) c (ρ.t 3)
        refine fin _ _ _ ⟨by simp [cellsI_len], .inr (.inl ⟨_, 0, _, _, rfl, hO.base, Go.heap_alloc_new wc.drew _, hge', grownCap_le_maxLen wc _ c _ (by simp only [maxLen]; omega), ?_, ?_⟩)⟩ ⟨rfl, rfl, rfl, by simp, fun k hk _ => Below.heap_alloc wc.drew _ k hk⟩ (fun g hg => .inr (by simp [blkOf] at hg; omega))
        · have hzs : (Value.int .i64 0).cells.size = 1 := rfl
          simp [size_zeroCells, hzs, hcl]; omega
        · rw [hzc]
          simp only [Array.toList_append, List.drop_zero, Nat.mul_one]
          rw [List.take_append_of_le_length (by simp [hcl])]
          exact List.take_of_length_le (by simp [hcl])
  · cases hv0
end Go.Proofs.YtcaflmilfhhikaaGreatDoor
