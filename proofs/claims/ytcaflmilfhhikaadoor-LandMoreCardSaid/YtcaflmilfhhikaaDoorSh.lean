/-
  The truths in which the bounds are reached.
-/
import Derived.Test.YtcaflmilfhhikaaDoorTh
import Derived.Test.YtcaflmilfhhikaaDoorAg
namespace Go.Proofs.YtcaflmilfhhikaaDoor
open Go.RowKit
set_option linter.unusedVariables false

/-- Years in which all memories of a book are true. -/
def Tr (b : TLandBook) (ys : Nat → Int) : Prop := (∀ e, e < b.Events.length → 0 ≤ ys e ∧ ys e ≤ 1000) ∧ ∀ m ∈ b.Memories, MemT ys m
theorem tr_iff {b : TLandBook} (ok : bookOk b = true) {ys : Nat → Int} : TruthS b (bitI ((2 ^ b.Memories.length - 1 : Nat) : Int)) ys ↔ Tr b ys := by
  have hl := (book_parts ok).2.2.1
  constructor
  · rintro ⟨h1, h2⟩
    refine ⟨h1, fun m hm => ?_⟩
    obtain ⟨j, hj⟩ := List.getElem?_of_mem hm
    exact h2 j m hj (all_bits hl (get_lt hj))
  · rintro ⟨h1, h2⟩
    exact ⟨h1, fun j m hj _ => h2 m (List.mem_of_getElem? hj)⟩
theorem agree_tr {b : TLandBook} (ok : bookOk b = true) : agreeB b = true ↔ ∃ ys, Tr b ys := by
  rw [agrS_all, agrS_iff ok]
  exact ⟨fun ⟨ys, h⟩ => ⟨ys, (tr_iff ok).1 h⟩, fun ⟨ys, h⟩ => ⟨ys, (tr_iff ok).2 h⟩⟩
theorem tr_bound {b : TLandBook} (ok : bookOk b = true) {ys : Nat → Int} (h : Tr b ys) {i k : Nat} (hi : i < b.Events.length) (hk : k < b.Events.length) :
    ys k - ys i ≤ tabAll b i k ∧ ys k ≤ tabAll b 7 k ∧ -ys i ≤ tabAll b i 7 := by
  obtain ⟨_, ⟨_, hn⟩, hl, hm, hF⟩ := book_parts ok
  exact table_bound b _ hn hF ((tr_iff ok).2 h) hi hk
theorem tr_congr {b : TLandBook} (ok : bookOk b = true) {ys zs : Nat → Int} (he : ∀ e, e < b.Events.length → ys e = zs e) (h : Tr b ys) : Tr b zs := by
  obtain ⟨_, _, _, _, hF⟩ := book_parts ok
  refine ⟨fun e hl => by rw [← he e hl]; exact h.1 e hl, fun m hm => ?_⟩
  have := h.2 m hm
  obtain ⟨c1, c2⟩ := hF m hm
  unfold MemT at *
  rw [← he _ c1, ← he _ c2]
  exact this
theorem ev_in {b : TLandBook} {e : Nat} (he : e < b.Events.length) : e ∈ placesL b.Events.length := by unfold placesL; simp; exact .inl he
theorem in7 (n : Nat) : 7 ∈ placesL n := by unfold placesL; simp
theorem tab_closed {b : TLandBook} (ha : agreeB b = true) : Clo (placesL b.Events.length) (placesL b.Events.length) (tabAll b) := pass_closed (diagB_iff.1 ha)
theorem tab_zero' {b : TLandBook} (ok : bookOk b = true) (ha : agreeB b = true) {i : Nat} (hi : i ∈ placesL b.Events.length) : tabAll b i i = 0 := diag_zero (first_diag b ok) (diagB_iff.1 ha) hi
theorem tr_of_feas {b : TLandBook} (ok : bookOk b = true) {y : Nat → Int} (h : Feas (placesL b.Events.length) (tabAll b) y) : Tr b fun e => y e - y 7 := by
  obtain ⟨_, ⟨_, hn⟩, hl, hm, hF⟩ := book_parts ok
  exact (tr_iff ok).1 (truth_of_feas b _ hn hF (feas_pass.1 h))
/-- From any place on, each event as late as it can be. -/
theorem late_tr {b : TLandBook} (ok : bookOk b = true) (ha : agreeB b = true) {s : Nat} (hs : s ∈ placesL b.Events.length) : Tr b fun e => tabAll b s e - tabAll b s 7 :=
  tr_of_feas ok (clo_feas (tab_closed ha) hs)
/-- From any place on, each event as early as it can be. -/
theorem early_tr {b : TLandBook} (ok : bookOk b = true) (ha : agreeB b = true) {s : Nat} (hs : s ∈ placesL b.Events.length) : Tr b fun e => tabAll b 7 s - tabAll b e s := by
  have h : Feas (placesL b.Events.length) (tabAll b) fun e => -tabAll b e s := fun i hi k hk => by
    have := tab_closed ha k hk i hi s hs
    show -tabAll b k s - -tabAll b i s ≤ tabAll b i k
    omega
  have := tr_of_feas ok h
  refine ⟨fun e he => ?_, fun m hm => ?_⟩
  · have : 0 ≤ -tabAll b e s - -tabAll b 7 s ∧ -tabAll b e s - -tabAll b 7 s ≤ 1000 := this.1 e he
    show 0 ≤ tabAll b 7 s - tabAll b e s ∧ tabAll b 7 s - tabAll b e s ≤ 1000
    omega
  · have : m.Years.Low ≤ (-tabAll b m.To.toNat s - -tabAll b 7 s) - (-tabAll b m.From.toNat s - -tabAll b 7 s) ∧ (-tabAll b m.To.toNat s - -tabAll b 7 s) - (-tabAll b m.From.toNat s - -tabAll b 7 s) ≤ m.Years.High := this.2 m hm
    unfold MemT
    show m.Years.Low ≤ (tabAll b 7 s - tabAll b m.To.toNat s) - (tabAll b 7 s - tabAll b m.From.toNat s) ∧ (tabAll b 7 s - tabAll b m.To.toNat s) - (tabAll b 7 s - tabAll b m.From.toNat s) ≤ m.Years.High
    omega
theorem tab_range {b : TLandBook} (ok : bookOk b = true) (ha : agreeB b = true) {i k : Nat} (hi : i < b.Events.length) (hk : k < b.Events.length) : -1000 ≤ tabAll b i k ∧ tabAll b i k ≤ 1000 ∧ 0 ≤ tabAll b i k + tabAll b k i := by
  have h := late_tr ok ha (ev_in hi)
  have h1 : 0 ≤ tabAll b i i - tabAll b i 7 ∧ tabAll b i i - tabAll b i 7 ≤ 1000 := h.1 i hi
  have h2 : 0 ≤ tabAll b i k - tabAll b i 7 ∧ tabAll b i k - tabAll b i 7 ≤ 1000 := h.1 k hk
  have h0 := tab_zero' ok ha (ev_in hi)
  have h3 := tab_closed ha k (ev_in hk) i (ev_in hi) i (ev_in hi)
  simp only [h0] at h1 h3
  refine ⟨by omega, by omega, by omega⟩
def lateL (b : TLandBook) : List Int := (List.range b.Events.length).map fun e => tabAll b 7 e
theorem yv_map {n : Nat} (f : Nat → Int) {e : Nat} (he : e < n) : yv ((List.range n).map f) e = f e := by
  unfold yv
  rw [List.getD_eq_getElem?_getD, List.getElem?_map, List.getElem?_range he]
  rfl
theorem list_truth {b : TLandBook} (ok : bookOk b = true) {f : Nat → Int} (h : Tr b f) : truthB b ((List.range b.Events.length).map f) = true ∧ allT b ((List.range b.Events.length).map f) = true := by
  have ht : truthB b ((List.range b.Events.length).map f) = true := by
    unfold truthB
    simp only [Bool.and_eq_true, List.all_eq_true, beq_iff_eq, List.length_map, List.length_range, and_true]
    intro y hy
    obtain ⟨e, he, rfl⟩ := List.mem_map.1 hy
    exact inR_iff.2 (h.1 e (List.mem_range.1 he))
  refine ⟨ht, (truth_all ok ht).2 ((tr_iff ok).2 (tr_congr ok (fun e he => (yv_map f he).symm) h))⟩
theorem early_list {b : TLandBook} (ok : bookOk b = true) (ha : agreeB b = true) : truthB b (earlyL b) = true ∧ allT b (earlyL b) = true := by
  refine list_truth ok ?_
  refine tr_congr ok (fun e he => ?_) (early_tr ok ha (in7 _))
  rw [tab_zero' ok ha (in7 _)]
  omega
theorem late_list {b : TLandBook} (ok : bookOk b = true) (ha : agreeB b = true) : truthB b (lateL b) = true ∧ allT b (lateL b) = true := by
  refine list_truth ok ?_
  refine tr_congr ok (fun e he => ?_) (late_tr ok ha (in7 _))
  rw [tab_zero' ok ha (in7 _)]
  omega
/-! ### A memory more -/
def moreB (b : TLandBook) (m : TLandMemory) : TLandBook := ⟨b.People, b.Events, b.Memories ++ [m]⟩
theorem more_tr {b : TLandBook} {m : TLandMemory} {ys : Nat → Int} : Tr (moreB b m) ys ↔ Tr b ys ∧ MemT ys m := by
  constructor
  · rintro ⟨h1, h2⟩
    exact ⟨⟨h1, fun q hq => h2 q (List.mem_append_left _ hq)⟩, h2 m (List.mem_append_right _ (List.mem_singleton.2 rfl))⟩
  · rintro ⟨⟨h1, h2⟩, h3⟩
    refine ⟨h1, fun q hq => ?_⟩
    rcases List.mem_append.1 hq with h | h
    · exact h2 q h
    · rw [List.mem_singleton.1 h]; exact h3
theorem more_ok {b : TLandBook} (ok : bookOk b = true) {m : TLandMemory} (hl : b.Memories.length < 10) (hm : memOk b m = true) : bookOk (moreB b m) = true := by
  unfold bookOk at ok ⊢
  simp only [Bool.and_eq_true, decide_eq_true_eq, List.all_eq_true] at ok ⊢
  obtain ⟨a, c, d, e, f, g⟩ := ok
  refine ⟨a, c, d, ?_, f, fun q hq => ?_⟩
  · show ((b.Memories ++ [m]).length : Int) ≤ 10
    rw [List.length_append, List.length_singleton]
    omega
  · rcases List.mem_append.1 hq with h | h
    · exact g q h
    · rw [List.mem_singleton.1 h]; exact hm
end Go.Proofs.YtcaflmilfhhikaaDoor
