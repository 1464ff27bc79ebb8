/-
  Books with the same memories in another order.
-/
import Derived.Test.YtcaflmilfhhikaaDoorLj
import Derived.Test.YtcaflmilfhhikaaDoorLg
namespace Go.Proofs.YtcaflmilfhhikaaDoor
open Go.RowKit
set_option linter.unusedVariables false

structure SameB (b x : TLandBook) : Prop where
  people : x.People = b.People
  events : x.Events = b.Events
  len : x.Memories.length = b.Memories.length
  mem : ∀ m, m ∈ x.Memories ↔ m ∈ b.Memories
theorem SameB.ok {b x : TLandBook} (h : SameB b x) (ok : bookOk b = true) : bookOk x = true := by
  unfold bookOk at ok ⊢
  simp only [Bool.and_eq_true, decide_eq_true_eq, List.all_eq_true] at ok ⊢
  obtain ⟨a, c, d, e, f, g⟩ := ok
  have hm : ∀ m, memOk x m = memOk b m := fun m => by unfold memOk; rw [h.events]
  have he : ∀ q, eventOk x q = eventOk b q := fun q => by unfold eventOk; rw [h.people]
  refine ⟨by rw [h.people]; exact a, by rw [h.people]; exact c, by rw [h.events]; exact d, by rw [h.len]; exact e, fun q hq => by rw [he]; rw [h.events] at hq; exact f q hq, fun m hq => by rw [hm]; exact g m ((h.mem m).1 hq)⟩
theorem SameB.tr {b x : TLandBook} (h : SameB b x) {ys : Nat → Int} : Tr x ys ↔ Tr b ys := by
  unfold Tr
  rw [h.events]
  exact and_congr_right fun _ => ⟨fun k m hm => k m ((h.mem m).2 hm), fun k m hm => k m ((h.mem m).1 hm)⟩
theorem SameB.agree {b x : TLandBook} (h : SameB b x) (ok : bookOk b = true) : agreeB x = agreeB b := by
  rw [Bool.eq_iff_iff, agree_tr (h.ok ok), agree_tr ok]
  exact ⟨fun ⟨ys, k⟩ => ⟨ys, h.tr.1 k⟩, fun ⟨ys, k⟩ => ⟨ys, h.tr.2 k⟩⟩
theorem feas_all {b : TLandBook} (ok : bookOk b = true) {y : Nat → Int} : Feas (placesL b.Events.length) (firstT b (bitI ((2 ^ b.Memories.length - 1 : Nat) : Int))) y ↔ (∀ e, e < b.Events.length → y 7 ≤ y e ∧ y e ≤ y 7 + 1000) ∧ ∀ m ∈ b.Memories, MemT y m := by
  obtain ⟨_, ⟨_, hn⟩, hl, hm, hF⟩ := book_parts ok
  rw [feas_first b _ hn hF]
  refine and_congr_right fun _ => ⟨fun k m hm => ?_, fun k j m hj _ => k m (List.mem_of_getElem? hj)⟩
  obtain ⟨j, hj⟩ := List.getElem?_of_mem hm
  exact k j m hj (all_bits hl (get_lt hj))
theorem SameB.tab {b x : TLandBook} (h : SameB b x) (ok : bookOk b = true) (ha : agreeB b = true) {i k : Nat} (hi : i ∈ placesL b.Events.length) (hk : k ∈ placesL b.Events.length) : tabAll x i k = tabAll b i k := by
  have okx := h.ok ok
  have hev : x.Events.length = b.Events.length := by rw [h.events]
  have hf : ∀ y, Feas (placesL b.Events.length) (firstT b (bitI ((2 ^ b.Memories.length - 1 : Nat) : Int))) y ↔ Feas (placesL b.Events.length) (firstT x (bitI ((2 ^ x.Memories.length - 1 : Nat) : Int))) y := fun y => by
    have h2 := feas_all okx (y := y)
    rw [hev] at h2
    rw [feas_all ok, h2]
    exact and_congr_right fun _ => ⟨fun k m hm => k m ((h.mem m).1 hm), fun k m hm => k m ((h.mem m).2 hm)⟩
  have hdx := first_diag x okx
  rw [hev] at hdx
  have hu := pass_unique (φ := id) (ps := placesL b.Events.length) (qs := placesL b.Events.length) (t := firstT b (bitI ((2 ^ b.Memories.length - 1 : Nat) : Int))) (u := firstT x (bitI ((2 ^ x.Memories.length - 1 : Nat) : Int))) (by simp) (first_diag b ok) hdx (fun y hy => (hf y).1 hy) (fun z hz => ⟨z, (hf z).2 hz, fun _ _ => rfl⟩) (diagB_iff.1 ha)
  have := hu.2 i hi k hk
  unfold tabAll
  rw [hev]
  exact this.symm
theorem SameB.years {b x : TLandBook} (h : SameB b x) (ok : bookOk b = true) (ha : agreeB b = true) : yearsL x = yearsL b := by
  have hev : x.Events.length = b.Events.length := by rw [h.events]
  unfold yearsL
  rw [hev]
  refine List.map_congr_left fun e he => ?_
  have he' := ev_in (b := b) (List.mem_range.1 he)
  rw [h.tab ok ha he' (in7 _), h.tab ok ha (in7 _) he']
/-- The same sure order gives the same line. -/
theorem linP_succ (b : TLandBook) (strip : Int) (j : Nat) : linP b strip (j + 1) = (linP b strip j).bind fun L => if (stp b j != strip) = true then some L else insP b L j := rfl
theorem ins_congr {b x : TLandBook} {L : List Nat} {j : Nat} (h : ∀ o ∈ L, bfr x j o = bfr b j o ∧ bfr x o j = bfr b o j) : insP x L j = insP b L j := by
  have h1 : L.findIdx (fun o => bfr x j o) = L.findIdx (fun o => bfr b j o) := findIdx_congr fun o ho => (h o ho).1
  have h2 : L.all (fun o => bfr x j o || bfr x o j) = L.all (fun o => bfr b j o || bfr b o j) := by
    rw [Bool.eq_iff_iff, List.all_eq_true, List.all_eq_true]
    exact ⟨fun k o ho => by rw [← (h o ho).1, ← (h o ho).2]; exact k o ho, fun k o ho => by rw [(h o ho).1, (h o ho).2]; exact k o ho⟩
  unfold insP
  rw [h1, h2]
theorem lin_congr {b x : TLandBook} (hev : x.Events = b.Events) (ok : bookOk b = true) (ha : agreeB b = true) (hb : ∀ i k, i < b.Events.length → k < b.Events.length → bfr x i k = bfr b i k) (strip : Int) (j : Nat) : j ≤ b.Events.length → linP x strip j = linP b strip j := by
  induction j with
  | zero => intro _; rfl
  | succ j ih =>
    intro hj
    rw [linP_succ, linP_succ, ih (by omega)]
    cases hq : linP b strip j with
    | none => rw [Option.bind_none, Option.bind_none]
    | some L =>
      obtain ⟨e, _⟩ := lin_same ok ha strip (show j ≤ b.Events.length by omega) hq
      have hin : ∀ o ∈ L, o < b.Events.length := fun o ho => by rw [e] at ho; have := (mem_linR.1 ho).1; omega
      have hs : stp x j = stp b j := by unfold stp; rw [hev]
      rw [Option.bind_some, Option.bind_some, hs, ins_congr fun o ho => ⟨hb j o (by omega) (hin o ho), hb o j (hin o ho) (by omega)⟩]
theorem fol_congr {b x : TLandBook} (hp : x.People = b.People) (hev : x.Events = b.Events) (L : List Nat) : folB x L = folB b L := by
  have hm : ∀ h p, mayB x h p = mayB b h p := fun h p => by unfold mayB pM pA; rw [hp]
  have hh : ∀ e, hol x e = hol b e := fun e => by unfold hol; rw [hev]
  unfold folB
  simp only [hm, hh]
theorem SameB.line {b x : TLandBook} (h : SameB b x) (ok : bookOk b = true) (ha : agreeB b = true) (strip : Int) : lineV x strip = lineV b strip := by
  unfold lineV
  rw [h.events, lin_congr h.events ok ha (fun i k hi hk => by unfold bfr; rw [h.tab ok ha (ev_in hk) (ev_in hi)]) strip _ (Nat.le_refl _)]
  cases linP b strip b.Events.length with
  | none => rfl
  | some L => show (castL L, folB x L, 0) = (castL L, folB b L, 0); rw [fol_congr h.people h.events]
/-! ### Sets in another order -/
def setOf (n : Nat) (S : Nat → Bool) : List Int := castL ((List.range n).filter S)
theorem set_incr (n : Nat) (S : Nat → Bool) : incr (setOf n S) (n : Int) = true := by
  rw [incr_iff]
  unfold setOf castL
  constructor
  · intro y hy
    obtain ⟨k, hk, rfl⟩ := List.mem_map.1 hy
    have := List.mem_range.1 (List.mem_filter.1 hk).1
    omega
  · rw [List.pairwise_map]
    refine ((List.pairwise_lt_range (n := n)).sublist List.filter_sublist).imp fun h => ?_
    omega
theorem set_in {n : Nat} {S : Nat → Bool} {j : Nat} (hj : j < n) : inL (setOf n S) j = S j := by
  unfold inL
  rw [Bool.eq_iff_iff, List.contains_iff_mem]
  unfold setOf castL
  rw [List.mem_map]
  constructor
  · rintro ⟨k, hk, e⟩
    have e' : k = j := by omega
    subst e'
    exact (List.mem_filter.1 hk).2
  · intro h
    exact ⟨j, List.mem_filter.2 ⟨List.mem_range.2 hj, h⟩, rfl⟩
theorem set_len {n : Nat} {c : List Int} (h : incr c (n : Int) = true) : ((List.range n).filter (inL c)).length = c.length := by
  have e := lst_bits h
  have e2 : (lst (bitsN c) n).length = ((List.range n).filter fun i => (bitsN c).testBit i).length := by unfold lst; rw [List.length_map]
  rw [e] at e2
  rw [e2]
  congr 1
  refine List.filter_congr fun i _ => ?_
  rw [bits_mem fun y hy => ((incr_iff.1 h).1 y hy).1]
  rfl
theorem count_perm {n : Nat} {τ : Nat → Nat} (hp : ((List.range n).map τ).Perm (List.range n)) (S : Nat → Bool) : ((List.range n).filter fun k => S (τ k)).length = ((List.range n).filter S).length := by
  have h1 := (hp.filter S).length_eq
  rw [List.filter_map, List.length_map] at h1
  exact h1
theorem perm_inj {n : Nat} {τ : Nat → Nat} (hp : ((List.range n).map τ).Perm (List.range n)) {i k : Nat} (hi : i < n) (hk : k < n) (e : τ i = τ k) : i = k := by
  have hn : ((List.range n).map τ).Nodup := hp.nodup_iff.2 List.nodup_range
  rw [List.Nodup, List.pairwise_map, List.pairwise_iff_getElem] at hn
  rcases Nat.lt_trichotomy i k with g | g | g
  · have := hn i k (by simpa using hi) (by simpa using hk) g
    simp [e] at this
  · exact g
  · have := hn k i (by simpa using hk) (by simpa using hi) g
    simp [e] at this
theorem perm_onto {n : Nat} {τ : Nat → Nat} (hp : ((List.range n).map τ).Perm (List.range n)) {j : Nat} (hj : j < n) : ∃ k, k < n ∧ τ k = j := by
  have : j ∈ (List.range n).map τ := hp.mem_iff.2 (List.mem_range.2 hj)
  obtain ⟨k, hk, e⟩ := List.mem_map.1 this
  exact ⟨k, List.mem_range.1 hk, e⟩
/-- The smallest sets for which something holds are as many in both orders. -/
theorem size_same {n : Nat} {τ : Nat → Nat} (hp : ((List.range n).map τ).Perm (List.range n)) {Hb Hx : (Nat → Bool) → Prop} (hH : ∀ S, Hx (fun k => S (τ k)) ↔ Hb S)
    (cb : ∀ S S', (∀ j, j < n → S j = S' j) → Hb S → Hb S') (cx : ∀ S S', (∀ j, j < n → S j = S' j) → Hx S → Hx S') {l m : List Int} (il : incr l (n : Int) = true) (im : incr m (n : Int) = true) (hl : Hb (inL l)) (hm : Hx (inL m))
    (ml : ∀ q, incr q (n : Int) = true → Hb (inL q) → l.length ≤ q.length) (mm : ∀ q, incr q (n : Int) = true → Hx (inL q) → m.length ≤ q.length) : l.length = m.length := by
  have hτ : ∀ k, k < n → τ k < n := fun k hk => List.mem_range.1 (hp.mem_iff.1 (List.mem_map.2 ⟨k, List.mem_range.2 hk, rfl⟩))
  refine Nat.le_antisymm ?_ ?_
  · -- from the second to the first
    have hS : ∀ k, k < n → ((List.range n).any fun q => inL m q && decide (τ q = τ k)) = inL m k := fun k hk => by
      rw [Bool.eq_iff_iff, List.any_eq_true]
      constructor
      · rintro ⟨q, hq, h⟩
        rw [Bool.and_eq_true, decide_eq_true_eq] at h
        have := perm_inj hp (List.mem_range.1 hq) hk h.2
        rw [← this]; exact h.1
      · intro h
        exact ⟨k, List.mem_range.2 hk, by rw [h]; simp⟩
    have h1 : Hb fun j => (List.range n).any fun q => inL m q && decide (τ q = j) := by
      refine (hH _).1 (cx _ _ (fun k hk => ?_) hm)
      exact (hS k hk).symm
    have h2 := ml (setOf n fun j => (List.range n).any fun q => inL m q && decide (τ q = j)) (set_incr _ _) (cb _ _ (fun j hj => (set_in hj).symm) h1)
    have h3 : (setOf n fun j => (List.range n).any fun q => inL m q && decide (τ q = j)).length = m.length := by
      unfold setOf
      rw [cast_len, ← count_perm hp, ← set_len im]
      congr 1
      exact List.filter_congr fun k hk => hS k (List.mem_range.1 hk)
    omega
  · have h2 := mm (setOf n fun k => inL l (τ k)) (set_incr _ _) (cx _ _ (fun j hj => (set_in hj).symm) ((hH _).2 hl))
    have h3 : (setOf n fun k => inL l (τ k)).length = l.length := by
      unfold setOf
      rw [cast_len, count_perm hp, set_len il]
    omega
/-- A book in another order, with the order. -/
structure OrdB (b x : TLandBook) (τ : Nat → Nat) : Prop where
  people : x.People = b.People
  events : x.Events = b.Events
  perm : ((List.range b.Memories.length).map τ).Perm (List.range b.Memories.length)
  len : x.Memories.length = b.Memories.length
  at_ : ∀ k, k < b.Memories.length → x.Memories[k]? = b.Memories[τ k]?
theorem OrdB.lt {b x : TLandBook} {τ : Nat → Nat} (h : OrdB b x τ) {k : Nat} (hk : k < b.Memories.length) : τ k < b.Memories.length := List.mem_range.1 (h.perm.mem_iff.1 (List.mem_map.2 ⟨k, List.mem_range.2 hk, rfl⟩))
theorem OrdB.same {b x : TLandBook} {τ : Nat → Nat} (h : OrdB b x τ) : SameB b x := by
  refine ⟨h.people, h.events, h.len, fun m => ⟨fun hm => ?_, fun hm => ?_⟩⟩
  · obtain ⟨k, hk⟩ := List.getElem?_of_mem hm
    have hl := get_lt hk
    rw [h.len] at hl
    rw [h.at_ k hl] at hk
    exact List.mem_of_getElem? hk
  · obtain ⟨j, hj⟩ := List.getElem?_of_mem hm
    obtain ⟨k, hk, e⟩ := perm_onto h.perm (get_lt hj)
    rw [← e, ← h.at_ k hk] at hj
    exact List.mem_of_getElem? hj
theorem OrdB.agr {b x : TLandBook} {τ : Nat → Nat} (h : OrdB b x τ) (ok : bookOk b = true) (S : Nat → Bool) : agrS x (fun k => S (τ k)) = agrS b S := by
  rw [Bool.eq_iff_iff, agrS_iff (h.same.ok ok), agrS_iff ok]
  constructor
  · rintro ⟨ys, h1, h2⟩
    rw [h.events] at h1
    refine ⟨ys, h1, fun j m hj hS => ?_⟩
    obtain ⟨k, hk, e⟩ := perm_onto h.perm (get_lt hj)
    exact h2 k m (by rw [h.at_ k hk, e]; exact hj) (by show S (τ k) = true; rw [e]; exact hS)
  · rintro ⟨ys, h1, h2⟩
    refine ⟨ys, by rw [h.events]; exact h1, fun k m hk hS => ?_⟩
    have hl := get_lt hk
    rw [h.len] at hl
    rw [h.at_ k hl] at hk
    exact h2 (τ k) m hk hS
theorem ord_len {l q : List Int} (h : q = l ∨ ordB l q) : l.length ≤ q.length := by
  rcases h with h | h
  · rw [h]; exact Nat.le_refl _
  · rcases h with h | ⟨h, _⟩ <;> omega
theorem OrdB.drop {b x : TLandBook} {τ : Nat → Nat} (h : OrdB b x τ) (ok : bookOk b = true) : (dropL b).length = (dropL x).length := by
  have okx := h.same.ok ok
  obtain ⟨d1, d2, d3⟩ := drop_spec ok
  obtain ⟨e1, e2, e3⟩ := drop_spec okx
  rw [h.len] at e1 e3
  refine size_same h.perm (Hb := fun S => agrS b (fun j => !S j) = true) (Hx := fun S => agrS x (fun j => !S j) = true) (fun S => ?_) (fun S S' hS hb => ?_) (fun S S' hS hb => ?_) d1 e1 d2 e2 (fun q hq hb => ord_len (d3 q hq hb)) (fun q hq hb => ord_len (e3 q hq hb))
  · rw [h.agr ok fun j => !S j]
  · rw [← hb]; exact agrS_congr ok fun j hj => by rw [hS j hj]
  · rw [← hb]; exact agrS_congr okx fun j hj => by rw [hS j (by rw [← h.len]; exact hj)]
theorem OrdB.clash {b x : TLandBook} {τ : Nat → Nat} (h : OrdB b x τ) (ok : bookOk b = true) (ha : agreeB b = false) : (clashL b).length = (clashL x).length := by
  have okx := h.same.ok ok
  obtain ⟨d1, d2, d3⟩ := clash_spec ok ha
  obtain ⟨e1, e2, e3⟩ := clash_spec okx (by rw [h.same.agree ok]; exact ha)
  rw [h.len] at e1 e3
  refine size_same h.perm (Hb := fun S => agrS b S = false) (Hx := fun S => agrS x S = false) (fun S => ?_) (fun S S' hS hb => ?_) (fun S S' hS hb => ?_) d1 e1 d2 e2 (fun q hq hb => ord_len (d3 q hq hb)) (fun q hq hb => ord_len (e3 q hq hb))
  · rw [h.agr ok S]
  · rw [← hb]; exact agrS_congr ok fun j hj => (hS j hj).symm
  · rw [← hb]; exact agrS_congr okx fun j hj => (hS j (by rw [← h.len]; exact hj)).symm
end Go.Proofs.YtcaflmilfhhikaaDoor
