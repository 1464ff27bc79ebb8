/-
  Memory of the call's own (rows of cells that it may still write), calls, new blocks, appends, stores.
-/
import Derived.Test.YtcaflmilfhhikaaGreatDoorBaseC
namespace Go.Proofs.YtcaflmilfhhikaaGreatDoor
open Go.RowKit

/-! ### Rows of the call's own -/
structure Row where
  e : Nat
  sz : Nat
  n : Nat
  v : Value
  cells : List Value
def blkOf : Value → Option Nat
  | .slice (some a) _ _ => some a.block
  | .map (some r) => some r
  | _ => none
/-- A map's entries, out of a list of keys and values. -/
def mkE : List Value → Nat → List MapEntry
  | k :: v :: l, i => ⟨k, v, i⟩ :: mkE l (i + 1)
  | _, _ => []
/-- Another object of the call's own: a map, a struct whose size is known, or what goes through a text. -/
def mobj (e sz n : Nat) (xs : List Value) : Obj := cond (Nat.beq sz 2) (.map (mkE xs 0).toArray n) (cond (Nat.beq sz 3) (.cells (xs.take 2).toArray e (0, 0)) (match xs with | [.string s, .int _ p] => .stringIter s p.toNat | _ => .map #[] 0))
theorem isFix_mobj (e sz n : Nat) (xs : List Value) : isFix (mobj e sz n xs) = false := by
  unfold mobj
  cases Nat.beq sz 2 with
  | true => rfl
  | false =>
    cases Nat.beq sz 3 with
    | true => rfl
    | false => show isFix (match xs with | [.string s, .int _ p] => Obj.stringIter s p.toNat | _ => .map #[] 0) = false; split <;> rfl
/-- A slice of the call's own: n elements of sz cells each, somewhere in a block laid since B. -/
def ORow (w : World) (B e sz : Nat) (v : Value) (n : Nat) (xs : List Value) : Prop :=
  xs.length = n * sz ∧ ((v = .slice none 0 0 ∧ n = 0) ∨ (∃ g o cap cur, v = .slice (some ⟨g, o, none⟩) n cap ∧ B ≤ g ∧ w.heap[g]? = some (.cells cur e (0, 0)) ∧ n ≤ cap ∧ cap ≤ maxLen ∧ o + cap * sz ≤ cur.size ∧ (cur.toList.drop o).take (n * sz) = xs) ∨ ∃ r, v = .map (some r) ∧ B ≤ r ∧ w.heap[r]? = some (mobj e sz n xs))
theorem ORow.lt {w : World} {B e sz n : Nat} {v : Value} {xs : List Value} (h : ORow w B e sz v n xs) {g : Nat} (hg : blkOf v = some g) : B ≤ g ∧ g < w.heap.size := by
  rcases h.2 with ⟨rfl, _⟩ | ⟨g', o, cap, cur, rfl, hb, hg', _⟩ | ⟨g', rfl, hb, hg'⟩
  · cases hg
  · have e : g' = g := by simpa [blkOf] using hg
    subst e
    exact ⟨hb, (Array.getElem?_eq_some_iff.1 hg').1⟩
  · have e : g' = g := by simpa [blkOf] using hg
    subst e
    exact ⟨hb, (Array.getElem?_eq_some_iff.1 hg').1⟩
theorem ORow.cells {w : World} {B e sz n g o cap : Nat} {xs : List Value} (h : ORow w B e sz (.slice (some ⟨g, o, none⟩) n cap) n xs) {j : Nat} {u : Value} (hj : xs[j]? = some u) : w.cell? ⟨g, o + j, none⟩ = some u := by
  rcases h.2 with ⟨hv, _⟩ | ⟨g', o', cap', cur, hv, _, hg, _, _, _, htake⟩ | ⟨_, hv, _⟩
  · cases hv
  · cases hv
    rw [← htake, List.getElem?_take] at hj
    split at hj
    · rw [List.getElem?_drop] at hj
      unfold World.cell?
      simp only [hg]
      simpa using hj
    · cases hj
  · cases hv
def Row.ok (G : Gm) (w : World) (B : Nat) (c : Row) : Prop := ORow w B c.e c.sz c.v c.n c.cells ∧ ∀ g, blkOf c.v = some g → G g = none
structure Owns (G : Gm) (w : World) (B : Nat) (L : List Row) : Prop where
  each : ∀ c ∈ L, c.ok G w B
  apart : L.Pairwise (fun c d => ∀ g, blkOf c.v = some g → blkOf d.v ≠ some g)
  base : B ≤ w.heap.size
/-- Since the call began: G has grown, nothing below B has turned. -/
structure Since (B : Nat) (G0 : Gm) (w0 : World) (G : Gm) (w : World) : Prop where
  le : Gle G0 G
  sat : Sat G w
  below : Below B w0 w
  old : ∀ b, b < B → G b = G0 b
  base : B ≤ w.heap.size
  cells : ∀ b o, G b = some o → B ≤ b → isFix o = false
section
variable {G G' G0 : Gm} {w w' w0 : World} {B : Nat} {L : List Row}
theorem Since.start (h : Sat G w) : Since w.heap.size G w G w := ⟨Gle.refl G, h, Below.refl _ _, fun _ _ => rfl, Nat.le_refl _, h.new⟩
theorem Since.grow (h : Since B G0 w0 G w) (k : Grow G w G' w') : Since B G0 w0 G' w' :=
  ⟨h.le.trans k.le, k.sat, h.below.trans (k.below.mono h.base), fun b hb => (k.old b (Nat.lt_of_lt_of_le hb h.base)).trans (h.old b hb), Nat.le_trans h.base k.below.size, fun b o hb hl => by
    rcases Nat.lt_or_ge b w.heap.size with h' | h'
    · exact h.cells b o ((k.old b h').symm.trans hb) hl
    · exact k.cells b o hb h'⟩
theorem Since.keep (h : Since B G0 w0 G w) (hb : Below w.heap.size w w') : Since B G0 w0 G w' := h.grow (Grow.of_below h.sat hb)
theorem Since.write (h : Since B G0 w0 G w) (hs : Sat G w') (hb : Below B w w') : Since B G0 w0 G w' := ⟨h.le, hs, h.below.trans hb, h.old, Nat.le_trans h.base hb.size, h.cells⟩
theorem Since.toGrow (h : Since w0.heap.size G0 w0 G w) : Grow G0 w0 G w := ⟨h.le, h.sat, h.below, h.old, h.cells⟩
theorem below_drew (w : World) : Below w.heap.size w w.drew := ⟨rfl, rfl, rfl, Nat.le_refl _, fun _ _ => rfl⟩
theorem Row.ok.lt {c : Row} (h : c.ok G w B) {g : Nat} (hg : blkOf c.v = some g) : B ≤ g ∧ g < w.heap.size := h.1.lt hg
theorem keeps_row {X : Option Nat} {c : Row} (hc : c.ok G w B) (hs : w.heap.size ≤ w'.heap.size) (hd : ∀ b, b < w.heap.size → blkOf c.v ≠ some b → w'.heap[b]? = w.heap[b]?) : Keeps X w w' :=
  ⟨hs, fun D o _ hD ho => by
    have hlt := (Array.getElem?_eq_some_iff.1 hD).1
    by_cases e : blkOf c.v = some D
    · exfalso
      rcases hc.1.2 with ⟨hv, _⟩ | ⟨g, o₀, cap, cur, hv, _, hg, _⟩ | ⟨g, hv, _, hg⟩
      · rw [hv] at e; cases e
      · rw [hv] at e
        have e' : g = D := by simpa [blkOf] using e
        subst e'
        rw [hg] at hD
        cases hD
        cases ho
      · rw [hv] at e
        have e' : g = D := by simpa [blkOf] using e
        subst e'
        rw [hg] at hD
        cases hD
        rw [isFix_mobj] at ho
        cases ho
    · exact (hd D hlt e).trans hD⟩
theorem ownsRow_same {base e size : Nat} {v : Value} {n : Nat} {xs : List Value} (h : ORow w base e size v n xs) (hb : ∀ g, blkOf v = some g → w'.heap[g]? = w.heap[g]?) : ORow w' base e size v n xs := by
  refine ⟨h.1, ?_⟩
  rcases h.2 with hn | ⟨g, o, cap, cur, rfl, h1, h2, h3⟩ | ⟨g, rfl, h1, h2⟩
  · exact .inl hn
  · exact .inr (.inl ⟨g, o, cap, cur, rfl, h1, (hb g rfl).trans h2, h3⟩)
  · exact .inr (.inr ⟨g, rfl, h1, (hb g rfl).trans h2⟩)
theorem Owns.nil (h : B ≤ w.heap.size) : Owns G w B [] := ⟨fun c hc => (by cases hc), .nil, h⟩
theorem Owns.keep (h : Owns G w B L) (hb : ∀ b, b < w.heap.size → w'.heap[b]? = w.heap[b]?) (hs : w.heap.size ≤ w'.heap.size) (hG : ∀ b, b < w.heap.size → G' b = G b) : Owns G' w' B L :=
  ⟨fun c hc => ⟨ownsRow_same (h.each c hc).1 fun g hg => hb g ((h.each c hc).lt hg).2, fun g hg => (hG g ((h.each c hc).lt hg).2).trans ((h.each c hc).2 g hg)⟩, h.apart, Nat.le_trans h.base hs⟩
theorem Owns.below (h : Owns G w B L) (hb : Below w.heap.size w w') : Owns G w' B L := h.keep hb.block hb.size fun _ _ => rfl
theorem Owns.grow (h : Owns G w B L) (k : Grow G w G' w') : Owns G' w' B L := h.keep k.below.block k.below.size k.old
theorem Owns.cons_nil (h : Owns G w B L) (e sz : Nat) : Owns G w B (⟨e, sz, 0, .slice none 0 0, []⟩ :: L) :=
  ⟨fun c hc => by
    rcases List.mem_cons.1 hc with rfl | hc
    · exact ⟨⟨by simp, .inl ⟨rfl, rfl⟩⟩, fun g hg => by simp [blkOf] at hg⟩
    · exact h.each c hc, .cons (fun d _ g hg => by simp [blkOf] at hg) h.apart, h.base⟩
theorem Owns.new (h : Owns G w B L) (hS : Sat G w) (e sz n : Nat) (cs : List Value) (hl : cs.length = n * sz) (hn : n ≤ maxLen) : Owns G (w.alloc (.cells cs.toArray e)) B (⟨e, sz, n, .slice (some ⟨w.heap.size, 0, none⟩) n n, cs⟩ :: L) := by
  have hk : Owns G (w.alloc (.cells cs.toArray e)) B L := h.keep (fun b hb => Below.heap_alloc w _ b hb) (by simp) fun _ _ => rfl
  refine ⟨fun c hc => ?_, .cons (fun d hd g hg => ?_) h.apart, hk.base⟩
  · rcases List.mem_cons.1 hc with rfl | hc
    · refine ⟨⟨hl, .inr (.inl ⟨w.heap.size, 0, n, cs.toArray, rfl, h.base, Go.heap_alloc_new w _, Nat.le_refl _, hn, by simp [hl], ?_⟩)⟩, fun g hg => ?_⟩
      · exact List.take_of_length_le (Nat.le_of_eq hl)
      · simp [blkOf] at hg
        subst hg
        cases hG : G w.heap.size with
        | none => rfl
        | some o => exact absurd (hS.lt hG) (Nat.lt_irrefl _)
    · exact hk.each c hc
  · simp [blkOf] at hg
    subst hg
    intro hd'
    exact absurd ((h.each d hd).lt hd').2 (Nat.lt_irrefl _)
theorem pw_at {α : Type} {R : α → α → Prop} (hs : ∀ a b, R a b → R b a) : ∀ {l : List α} {k : Nat} {c : α}, l.Pairwise R → l[k]? = some c → ∀ d ∈ l.eraseIdx k, R c d
  | [], _, _, _, h, _, _ => by simp at h
  | a :: l, 0, c, hp, h, d, hd => by
    simp at h
    subst h
    exact (List.pairwise_cons.1 hp).1 d hd
  | a :: l, k + 1, c, hp, h, d, hd => by
    have hp' := List.pairwise_cons.1 hp
    simp at h
    rcases List.mem_cons.1 hd with rfl | hd
    · exact hs _ _ (hp'.1 c (List.mem_of_getElem? h))
    · exact pw_at hs hp'.2 h d hd
theorem pw_set {α : Type} {R : α → α → Prop} (hs : ∀ a b, R a b → R b a) : ∀ {l : List α} {k : Nat} {c : α}, l.Pairwise R → (∀ d ∈ l.eraseIdx k, R c d) → (l.set k c).Pairwise R
  | [], _, _, _, _ => .nil
  | a :: l, 0, c, hp, h => .cons (fun d hd => h d hd) (List.pairwise_cons.1 hp).2
  | a :: l, k + 1, c, hp, h => by
    have hp' := List.pairwise_cons.1 hp
    refine .cons (fun d hd => ?_) (pw_set hs hp'.2 fun d hd => h d (List.mem_cons_of_mem _ hd))
    rcases List.mem_or_eq_of_mem_set hd with hd | rfl
    · exact hp'.1 d hd
    · exact hs _ _ (h a (List.mem_cons_self ..))
theorem mem_set_or {α : Type} : ∀ {l : List α} {k : Nat} {c d : α}, d ∈ l.set k c → d = c ∨ d ∈ l.eraseIdx k
  | [], _, _, _, h => by simp at h
  | a :: l, 0, c, d, h => by
    rcases List.mem_cons.1 h with rfl | h
    · exact .inl rfl
    · exact .inr h
  | a :: l, k + 1, c, d, h => by
    rcases List.mem_cons.1 h with rfl | h
    · exact .inr (List.mem_cons_self ..)
    · rcases mem_set_or h with rfl | h
      · exact .inl rfl
      · exact .inr (List.mem_cons_of_mem _ h)
theorem mem_erase {α : Type} : ∀ {l : List α} {k : Nat} {d : α}, d ∈ l.eraseIdx k → d ∈ l
  | [], _, _, h => by simp at h
  | a :: l, 0, _, h => List.mem_cons_of_mem _ h
  | a :: l, k + 1, d, h => by
    rcases List.mem_cons.1 h with rfl | h
    · exact List.mem_cons_self ..
    · exact List.mem_cons_of_mem _ (mem_erase h)
theorem pw_erase {α : Type} {R : α → α → Prop} : ∀ {l : List α} {k : Nat}, l.Pairwise R → (l.eraseIdx k).Pairwise R
  | [], _, h => h
  | _ :: _, 0, h => (List.pairwise_cons.1 h).2
  | _ :: _, _ + 1, h => .cons (fun d hd => (List.pairwise_cons.1 h).1 d (mem_erase hd)) (pw_erase (List.pairwise_cons.1 h).2)
theorem apart_symm (a b : Row) (h : ∀ g, blkOf a.v = some g → blkOf b.v ≠ some g) : ∀ g, blkOf b.v = some g → blkOf a.v ≠ some g := fun g hb ha => h g ha hb
theorem Owns.drop (h : Owns G w B L) (k : Nat) : Owns G w B (L.eraseIdx k) := ⟨fun c hc => h.each c (mem_erase hc), pw_erase h.apart, h.base⟩
/-- A row is written. -/
theorem Owns.write (h : Owns G w B L) {k : Nat} {c c' : Row} (hk : L[k]? = some c) (hs : w.heap.size ≤ w'.heap.size) (hb : ∀ b, b < w.heap.size → blkOf c.v ≠ some b → w'.heap[b]? = w.heap[b]?)
    (hc : c'.ok G w' B) (hnew : ∀ g, blkOf c'.v = some g → blkOf c.v = some g ∨ w.heap.size ≤ g) : Owns G w' B (L.set k c') := by
  have hap := pw_at apart_symm h.apart hk
  refine ⟨fun d hd => ?_, pw_set apart_symm h.apart fun d hd g hg => ?_, Nat.le_trans h.base hs⟩
  · rcases mem_set_or hd with rfl | hd
    · exact hc
    · have hm := h.each d (mem_erase hd)
      exact ⟨ownsRow_same hm.1 fun g hg => hb g (hm.lt hg).2 (apart_symm _ _ (hap d hd) g hg), hm.2⟩
  · rcases hnew g hg with hg | hg
    · exact hap d hd g hg
    · intro hd'
      have := ((h.each d (mem_erase hd)).lt hd').2
      omega
theorem sat_write {c : Row} (hS : Sat G w) (hc : c.ok G w B) (hb : ∀ b, b < w.heap.size → blkOf c.v ≠ some b → w'.heap[b]? = w.heap[b]?) : Sat G w' := fun b o hG => by
  rw [hb b (hS.lt hG) (fun e => by rw [hc.2 b e] at hG; cases hG)]
  exact hS b o hG
/-- What the row's cells read as. -/
def Rd {α : Type} (R : Gm → List Value → α → Prop) (sz : Nat) (G : Gm) (cells : List Value) (xs : List α) : Prop :=
  cells.length = xs.length * sz ∧ ∀ i x, xs[i]? = some x → ∃ cs, cs.length = sz ∧ (∀ j u, cs[j]? = some u → cells[i * sz + j]? = some u) ∧ R G cs x
theorem Rd.nil {α : Type} (R : Gm → List Value → α → Prop) (sz : Nat) (G : Gm) : Rd R sz G [] [] := ⟨by simp, fun i x h => by simp at h⟩
theorem Rd.mono {α : Type} {R : Gm → List Value → α → Prop} {sz : Nat} {cells : List Value} {xs : List α} (hR : Mono R) (h : Rd R sz G cells xs) (hle : Gle G G') : Rd R sz G' cells xs :=
  ⟨h.1, fun i x hx => let ⟨cs, h1, h2, h3⟩ := h.2 i x hx; ⟨cs, h1, h2, hR _ _ _ _ hle h3⟩⟩
theorem Rd.append {α : Type} {R : Gm → List Value → α → Prop} {sz : Nat} {c1 c2 : List Value} {xs ys : List α} (h1 : Rd R sz G c1 xs) (h2 : Rd R sz G c2 ys) : Rd R sz G (c1 ++ c2) (xs ++ ys) := by
  refine ⟨by rw [List.length_append, List.length_append, h1.1, h2.1, Nat.add_mul], fun i x hx => ?_⟩
  by_cases hi : i < xs.length
  · rw [List.getElem?_append_left hi] at hx
    obtain ⟨cs, p1, p2, p3⟩ := h1.2 i x hx
    refine ⟨cs, p1, fun j u hj => ?_, p3⟩
    have := p2 j u hj
    rw [List.getElem?_append_left (List.getElem?_eq_some_iff.1 this).1]
    exact this
  · rw [List.getElem?_append_right (by omega)] at hx
    obtain ⟨cs, p1, p2, p3⟩ := h2.2 (i - xs.length) x hx
    refine ⟨cs, p1, fun j u hj => ?_, p3⟩
    have := p2 j u hj
    have he : i * sz + j = c1.length + ((i - xs.length) * sz + j) := by
      rw [h1.1, ← Nat.add_assoc, ← Nat.add_mul]
      congr 2
      omega
    rw [he, List.getElem?_append_right (by omega), Nat.add_sub_cancel_left]
    exact this
/-- Each cell is one cell. -/
def One {α : Type} (R : Gm → List Value → α → Prop) : Prop := ∀ G cs x, R G cs x → ∀ u ∈ cs, u.oneCell' = true
theorem RInt_one : One RInt := fun _ _ _ h u hu => by cases h; simp at hu; subst hu; rfl
/-- The cells of a slice that is read, as one list. -/
theorem RSl.cells {α : Type} {R : Gm → List Value → α → Prop} {sz : Nat} (hone : One R) {ad : Option Addr} {n c : Nat} {ys : List α} (h : RSl R sz G ad n c ys) :
    ∃ news, news.length = n * sz ∧ Rd R sz G news ys ∧ (∀ u ∈ news, u.oneCell' = true) ∧ ∀ a, ad = some a → ∀ j u, news[j]? = some u → G.cell (a.add j) = some u := by
  obtain ⟨hn, hm, h⟩ := h
  subst hn
  clear hm
  have key : ∀ m, m ≤ ys.length → ∃ news, news.length = m * sz ∧ Rd R sz G news (ys.take m) ∧ (∀ u ∈ news, u.oneCell' = true) ∧ ∀ a, ad = some a → ∀ j u, news[j]? = some u → G.cell (a.add j) = some u := by
    intro m
    induction m with
    | zero => intro _; exact ⟨[], by simp, by simpa using Rd.nil R sz G, fun u hu => (by cases hu), fun a _ j u hj => (by simp at hj)⟩
    | succ m ih =>
      intro hm
      obtain ⟨news, h1, h2, h3, h4⟩ := ih (by omega)
      have hx : ys[m]? = some ys[m] := List.getElem?_eq_getElem (by omega)
      obtain ⟨b, off, cs, q1, q2, q3, q4⟩ := h m _ hx
      refine ⟨news ++ cs, by rw [List.length_append, h1, q3, Nat.add_mul, Nat.one_mul], ?_, ?_, ?_⟩
      · have e : ys.take (m + 1) = ys.take m ++ [ys[m]] := by rw [List.take_succ_eq_append_getElem (by omega)]
        rw [e]
        refine h2.append ⟨by simp [q3], fun i x hx => ?_⟩
        cases i with
        | zero =>
          simp at hx
          subst hx
          exact ⟨cs, q3, fun j u hj => by simpa using hj, q4⟩
        | succ i => simp at hx
      · intro u hu
        rcases List.mem_append.1 hu with hu | hu
        · exact h3 u hu
        · exact hone _ _ _ q4 u hu
      · intro a ha j u hj
        by_cases hjl : j < news.length
        · rw [List.getElem?_append_left hjl] at hj
          exact h4 a ha j u hj
        · rw [List.getElem?_append_right (by omega)] at hj
          rw [q1] at ha
          cases ha
          have := q2 (j - news.length) u hj
          rw [add_addr]
          have e : off + m * sz + (j - news.length) = off + j := by rw [← h1]; omega
          rw [e] at this
          exact this
  obtain ⟨news, h1, h2, h3, h4⟩ := key ys.length (Nat.le_refl _)
  rw [List.take_length] at h2
  exact ⟨news, h1, h2, h3, h4⟩
/-- A row that is written no more: it joins the memory that stays. -/
theorem Owns.freeze (h : Owns G w B L) (hS : Since B G0 w0 G w) {k : Nat} {c : Row} (hk : L[k]? = some c) :
    ∃ G', Gle G G' ∧ Since B G0 w0 G' w ∧ Owns G' w B (L.eraseIdx k) ∧ (∀ b off n cap, c.v = .slice (some ⟨b, off, none⟩) n cap → Cells G' b off c.cells) ∧ (∀ ad n cap, c.v = .slice ad n cap → n = c.n ∧ (n ≤ maxLen ∧ n ≤ cap) ∧ (ad = none → c.n = 0) ∧ ∀ a, ad = some a → ∃ b o, a = ⟨b, o, none⟩) := by
  have hc := h.each c (List.mem_of_getElem? hk)
  rcases hc.1.2 with ⟨hv, hn⟩ | ⟨g, o₀, cap, cur, hv, hBg, hg, hnc, hcm, hcs, htake⟩ | ⟨g, hv, hBg, hg⟩
  · refine ⟨G, Gle.refl G, hS, h.drop k, fun b off n cap e => (by rw [hv] at e; cases e), fun ad n cap e => ?_⟩
    rw [hv] at e
    cases e
    exact ⟨hn.symm, ⟨Nat.zero_le _, Nat.zero_le _⟩, fun _ => hn, fun a ha => (by cases ha)⟩
  · have hGg : G g = none := hc.2 g (by rw [hv]; rfl)
    have hap := pw_at apart_symm h.apart hk
    refine ⟨ins G g (.cells cur c.e (0, 0)), ?_, ?_, ?_, ?_, ?_⟩
    · intro b o hb
      unfold ins
      split
      · rename_i e; subst e; rw [hGg] at hb; cases hb
      · exact hb
    · refine ⟨hS.le.trans fun b o hb => ?_, fun b o hb => ?_, hS.below, fun b hb => ?_, hS.base, fun b o hb hl => ?_⟩
      · unfold ins
        split
        · rename_i e; subst e; rw [hGg] at hb; cases hb
        · exact hb
      · unfold ins at hb
        split at hb
        · rename_i e; subst e; cases hb; exact hg
        · exact hS.sat b o hb
      · unfold ins
        rw [if_neg (by omega)]
        exact hS.old b hb
      · unfold ins at hb
        split at hb
        · cases hb; rfl
        · exact hS.cells b o hb hl
    · refine ⟨fun d hd => ?_, (h.drop k).apart, h.base⟩
      have hm := h.each d (mem_erase hd)
      refine ⟨hm.1, fun g' hg' => ?_⟩
      unfold ins
      rw [if_neg (fun e => by subst e; exact hap d hd g' (by rw [hv]; rfl) hg')]
      exact hm.2 g' hg'
    · intro b off n cap' e
      rw [hv] at e
      cases e
      refine fun j u hj => ?_
      unfold Gm.cell ins
      simp only [if_true]
      rw [← htake] at hj
      rw [List.getElem?_take] at hj
      split at hj
      · rw [List.getElem?_drop] at hj
        simpa using hj
      · cases hj
    · intro ad n cap' e
      rw [hv] at e
      cases e
      exact ⟨rfl, ⟨Nat.le_trans hnc hcm, hnc⟩, fun e => (by cases e), fun a ha => (by cases ha; exact ⟨g, o₀, rfl⟩)⟩
  · exact ⟨G, Gle.refl G, hS, h.drop k, fun b off n cap e => (by rw [hv] at e; cases e), fun ad n cap e => (by rw [hv] at e; cases e)⟩
/-- The same, of a slice: it reads as its list. -/
theorem Owns.freezeS (h : Owns G w B L) (hS : Since B G0 w0 G w) {α : Type} {R : Gm → List Value → α → Prop} (hR : Mono R) {k : Nat} {e sz n n' cap : Nat} {ad : Option Addr} {cells : List Value} (hk : L[k]? = some ⟨e, sz, n', .slice ad n cap, cells⟩) {xs : List α} (hrd : Rd R sz G cells xs) (hn : n' = xs.length) :
    ∃ G', Gle G G' ∧ Since B G0 w0 G' w ∧ Owns G' w B (L.eraseIdx k) ∧ RSl R sz G' ad n cap xs := by
  obtain ⟨G', h1, h2, h3, h4, h5⟩ := h.freeze hS hk
  refine ⟨G', h1, h2, h3, ?_⟩
  obtain ⟨p1, p2, p3, p4⟩ := h5 ad n cap rfl
  have p1' : n = n' := p1
  refine ⟨p1'.trans hn, p2, fun i x hx => ?_⟩
  cases ad with
  | none =>
    have h0 : n' = 0 := p3 rfl
    have : xs = [] := List.eq_nil_of_length_eq_zero (hn ▸ h0)
    subst this
    simp at hx
  | some a =>
    obtain ⟨b, o, rfl⟩ := p4 a rfl
    have hc := h4 b o n cap rfl
    obtain ⟨cs, q1, q2, q3⟩ := hrd.2 i x hx
    refine ⟨b, o, cs, rfl, fun j u hj => ?_, q1, hR _ _ _ _ h1 q3⟩
    have := hc (i * sz + j) u (q2 j u hj)
    rw [← Nat.add_assoc] at this
    exact this
end

/-! ### The rules for operations that do something to the world -/
section
variable {κ : Ctx} {p : List PanicEntry → Fr → World → Prop} {P : Program} {N : Nat} {F : Fr} {w : World} {K : Fr → World → Prop} {d : Nat} {ty : TypeId} {pos : String} {af : Array Edge} {gd : Option (Nat × Bool)} {G : Gm} {B : Nat} {L : List Row}
theorem OpP_eff {op : Op} {v : Value} {w' : World} (hrun : (execOp (ev F) ⟨some d, op, ty, pos, af, gd⟩).run P w = .ok (.value v) w') (hd : Nat.blt d N = true) (hk : Keeps κ.ex w w') (h : K (upd F d v) w') : OpP κ P N p ⟨some d, op, ty, pos, af, gd⟩ F w K := by
  refine ⟨notDefer (fun _ h => by cases h) hrun, fun a wI h1 h3 => ?_⟩
  unfold Oper.wp
  rw [eval_frOf, h3, hrun]
  refine ⟨h1.put hk _ _, ?_⟩
  rw [frOf_put a d v (h1.lt hd), h3]; exact h
theorem OpP_val {op : Op} {v : Value} (hrun : (execOp (ev F) ⟨some d, op, ty, pos, af, gd⟩).run P w = .ok (.value v) w) (hd : Nat.blt d N = true) (h : K (upd F d v) w) : OpP κ P N p ⟨some d, op, ty, pos, af, gd⟩ F w K := OpP_eff hrun hd (.refl _) h
theorem OpP_unit {op : Op} {w' : World} (hrun : (execOp (ev F) ⟨none, op, ty, pos, af, gd⟩).run P w = .ok .skip w') (hk : Keeps κ.ex w w') (h : K F w') : OpP κ P N p ⟨none, op, ty, pos, af, gd⟩ F w K := by
  refine ⟨notDefer (fun _ h => by cases h) hrun, fun a wI h1 h3 => ?_⟩
  unfold Oper.wp
  rw [eval_frOf, h3, hrun]
  refine ⟨h1.put hk _ _, ?_⟩
  show K (frOf a) w'
  rw [h3]; exact h
theorem OpP_enter {op : Op} {f : FuncId} {args : Array Value} {R : Ending → World → Prop} {w' : World} (hrun : (execOp (ev F) ⟨some d, op, ty, pos, af, gd⟩).run P w = .ok (.enter f args) w') (hd : Nat.blt d N = true) (hc : Calls P f args w' R)
    (h : ∀ e w'', R e w'' → ∃ v, e = .returned v ∧ Keeps κ.ex w w'' ∧ K (upd F d v) w'') : OpP κ P N p ⟨some d, op, ty, pos, af, gd⟩ F w K := by
  refine ⟨notDefer (fun _ h => by cases h) hrun, fun a wI h1 h3 => ?_⟩
  unfold Oper.wp
  rw [eval_frOf, h3, hrun]
  refine hc.mono fun e w'' hR => ?_
  obtain ⟨v, rfl, hk, hW⟩ := h e w'' hR
  refine ⟨h1.put hk _ _, ?_⟩
  rw [frOf_put a d v (h1.lt hd), h3]; exact hW
/-- A call whose result is plain. -/
theorem OpP_callV {k : Nat} {args : Array Operand} {ats : Array TypeId} {al : List Value} {v : Value} (hk : callB P k = true) (hc : Calls P k al.toArray w (RetV w v)) (ha : args.toList.map (ev F) = al) (hd : Nat.blt d N = true)
    (h : ∀ w', Below w.heap.size w w' → K (upd F d v) w') : OpP κ P N p ⟨some d, .call { callee := .value (.func k), args := args, argTypes := ats }, ty, pos, af, gd⟩ F w K :=
  OpP_enter (rn_call hk ha) hd hc fun _ w'' hR => ⟨v, hR.1, .below hR.2, h w'' hR.2⟩
/-- A call whose result lies in new memory. -/
theorem OpP_callG {k : Nat} {args : Array Operand} {ats : Array TypeId} {al : List Value} {Φ : Gm → Value → Prop} (hk : callB P k = true) (hc : Calls P k al.toArray w (RetG G w Φ)) (ha : args.toList.map (ev F) = al) (hd : Nat.blt d N = true)
    (h : ∀ v G' w', Grow G w G' w' → Φ G' v → K (upd F d v) w') : OpP κ P N p ⟨some d, .call { callee := .value (.func k), args := args, argTypes := ats }, ty, pos, af, gd⟩ F w K :=
  OpP_enter (rn_call hk ha) hd hc fun _ w'' ⟨v, G', h1, h2, h3⟩ => ⟨v, h1, .below h2.below, h v G' w'' h2 h3⟩
/-- A new block that stays as it is. -/
theorem OpP_newF {op : Op} {v : Nat → Value} {cs : List Value} {e : TypeId} (hrun : (execOp (ev F) ⟨some d, op, ty, pos, af, gd⟩).run P w = .ok (.value (v w.heap.size)) (w.alloc (.cells cs.toArray e))) (hS : Sat G w) (hd : Nat.blt d N = true)
    (h : ∀ b G' w', Grow G w G' w' → Cells G' b 0 cs → K (upd F d (v b)) w') : OpP κ P N p ⟨some d, op, ty, pos, af, gd⟩ F w K :=
  OpP_eff hrun hd (.alloc _ _) (h _ _ _ (Grow.alloc hS _ rfl) (Cells.of_block (e := e) (fz := (0, 0)) (by unfold ins; simp)))
/-- A new block of the call's own. -/
theorem OpP_newO {op : Op} {v : Nat → Value} {cs : List Value} {e : TypeId} (hrun : (execOp (ev F) ⟨some d, op, ty, pos, af, gd⟩).run P w = .ok (.value (v w.heap.size)) (w.alloc (.cells cs.toArray e))) (hS : Sat G w) (hO : Owns G w B L) (hd : Nat.blt d N = true) (sz n : Nat) (hl : cs.length = n * sz) (hn : n ≤ maxLen)
    (h : ∀ b w', Below w.heap.size w w' → Owns G w' B (⟨e, sz, n, .slice (some ⟨b, 0, none⟩) n n, cs⟩ :: L) → K (upd F d (v b)) w') : OpP κ P N p ⟨some d, op, ty, pos, af, gd⟩ F w K :=
  OpP_eff hrun hd (.alloc _ _) (h _ _ ((Below.refl _ w).alloc (Nat.le_refl _) _) (hO.new hS e sz n cs hl hn))
theorem rn_boxA {T : Nat} {X : Operand} {cs : List Value} (hx : ev F X = .agg cs.toArray) : (execOp (ev F) ⟨some d, .box T X, ty, pos, af, gd⟩).run P w = .ok (.value ((fun b => .pointer (some ⟨b, 0, none⟩)) w.heap.size)) (w.alloc (.cells cs.toArray T)) := by
  simp only [execOp, hx]; rfl
theorem rn_box1 {T : Nat} {X : Operand} {v : Value} (hx : ev F X = v) (hv : v.cells = #[v]) : (execOp (ev F) ⟨some d, .box T X, ty, pos, af, gd⟩).run P w = .ok (.value ((fun b => .pointer (some ⟨b, 0, none⟩)) w.heap.size)) (w.alloc (.cells [v].toArray T)) := by
  simp only [execOp, hx, Instr.box, newVar, hv]; rfl
end
end Go.Proofs.YtcaflmilfhhikaaGreatDoor
