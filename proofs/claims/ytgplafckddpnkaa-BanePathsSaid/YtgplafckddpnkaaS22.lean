/-
  The document's paths: chains that go nowhere twice.
-/
import Derived.Test.YtgplafckddpnkaaS21
namespace Go.Proofs.Ytgplafckddpnkaa
open Go.RowKit
set_option linter.unusedVariables false

section
variable {s : TBaneSea} {I : Nat} {op : Nat → Bool}
def lkO (s : TBaneSea) (o : Option Nat) (c : Nat) : Prop := match o with
  | none => s.Infested.contains (tFrom s c) = true
  | some i => lnk s i c = true
def chS (s : TBaneSea) (op : Nat → Bool) : Option Nat → List Nat → Prop
  | _, [] => True
  | o, j :: l => j < s.Trips.length ∧ op j = true ∧ lkO s o j ∧ chS s op (some j) l
def lastO : Option Nat → List Nat → Option Nat
  | o, [] => o
  | _, j :: l => lastO (some j) l
def endAt (s : TBaneSea) (x : Int) (o : Option Nat) : Prop := match o with
  | none => s.Infested.contains x = true
  | some j => tTo s j = x
def dayO (s : TBaneSea) (o : Option Nat) : Int := match o with
  | none => 0
  | some j => dayT s j
theorem chF_S : ∀ (r : List Nat) (i : Nat), chF s op i r ↔ chS s op (some i) r
  | [], _ => Iff.rfl
  | j :: r, i => by
    have := chF_S r j
    unfold chF chS lkO
    rw [this]
theorem lastT_O : ∀ (r : List Nat) (i : Nat), lastO (some i) r = some (lastT i r)
  | [], _ => rfl
  | j :: r, i => lastT_O r j
theorem path_S {x : Int} {l : List Nat} : pathOk s op x l ↔ chS s op none l ∧ endAt s x (lastO none l) := by
  cases l with
  | nil => exact ⟨fun h => ⟨trivial, h⟩, fun h => h.2⟩
  | cons i r =>
    unfold chS lkO
    have e : lastO none (i :: r) = some (lastT i r) := lastT_O r i
    have h0 : pathOk s op x (i :: r) ↔ (i < s.Trips.length ∧ op i = true ∧ s.Infested.contains (tFrom s i) = true ∧ chF s op i r ∧ tTo s (lastT i r) = x) := Iff.rfl
    rw [e, ← chF_S]
    exact ⟨fun ⟨h1, h2, h3, h4, h5⟩ => ⟨⟨h1, h2, h3, h4⟩, h5⟩, fun ⟨⟨h1, h2, h3, h4⟩, h5⟩ => ⟨h1, h2, h3, h4, h5⟩⟩
theorem lastD_O (l : List Nat) : lastD s l = dayO s (lastO none l) := by
  cases l with
  | nil => rfl
  | cons i r =>
    have e : lastO none (i :: r) = some (lastT i r) := lastT_O r i
    rw [e]; rfl
theorem lastO_app : ∀ (A B : List Nat) (o : Option Nat), lastO o (A ++ B) = lastO (lastO o A) B
  | [], _, _ => rfl
  | a :: A, B, _ => lastO_app A B (some a)
theorem chS_app : ∀ (A B : List Nat) (o : Option Nat), chS s op o (A ++ B) ↔ chS s op o A ∧ chS s op (lastO o A) B
  | [], B, o => ⟨fun h => ⟨trivial, h⟩, fun h => h.2⟩
  | a :: A, B, o => by
    have ih := chS_app A B (some a)
    constructor
    · rintro ⟨h1, h2, h3, h4⟩
      obtain ⟨g1, g2⟩ := ih.1 h4
      exact ⟨⟨h1, h2, h3, g1⟩, g2⟩
    · rintro ⟨⟨h1, h2, h3, g1⟩, g2⟩
      exact ⟨h1, h2, h3, ih.2 ⟨g1, g2⟩⟩
theorem lnk_iff {i j : Nat} : lnk s i j = true ↔ tFrom s j = tTo s i ∧ dayT s i + s.Wait ≤ dayT s j := by
  unfold lnk
  rw [Bool.and_eq_true, decide_eq_true_eq, decide_eq_true_eq]
theorem chS_day (hs : Sea s I) : ∀ (M : List Nat) (i : Nat) (j : Nat), chS s op (some i) M → lastO (some i) M = some j → dayT s i ≤ dayT s j
  | [], i, j, _, h => by
    have : i = j := by simpa [lastO] using h
    subst this; exact Int.le_refl _
  | a :: M, i, j, ⟨_, _, h3, h4⟩, h => by
    have h5 := chS_day hs M a j h4 h
    have h6 : lnk s i a = true := h3
    have h7 := (lnk_iff.1 h6).2
    have := hs.wait
    omega
theorem dayT_nn (hs : Sea s I) {i : Nat} (hi : i < s.Trips.length) : 0 ≤ dayT s i := by
  have ht : s.Trips[i]? = some (s.Trips[i]'hi) := List.getElem?_eq_getElem hi
  rw [dayT_of ht]
  exact (hs.trip _ (List.mem_of_getElem? ht)).1
/-- Going nowhere in between. -/
theorem path_cut (hs : Sea s I) {x : Int} {A M C : List Nat} {m j : Nat} (h : pathOk s op x (A ++ (m :: M ++ C))) (hj : lastO (some m) M = some j) (hm : tFrom s m = tTo s j) :
    pathOk s op x (A ++ C) ∧ lastD s (A ++ C) ≤ lastD s (A ++ (m :: M ++ C)) := by
  rw [path_S] at h
  rw [path_S, lastD_O, lastD_O]
  obtain ⟨h1, h2⟩ := h
  rw [chS_app] at h1
  obtain ⟨h1, h3⟩ := h1
  rw [lastO_app] at h2 ⊢
  rw [lastO_app, chS_app]
  generalize lastO none A = o at *
  obtain ⟨g1, g2, g3, g4⟩ := h3
  have g4 : chS s op (some m) (M ++ C) := g4
  rw [chS_app, hj] at g4
  obtain ⟨g4, g5⟩ := g4
  have hd := chS_day hs M m j g4 hj
  have e1 : lastO o (m :: M ++ C) = lastO (some j) C := by
    show lastO (some m) (M ++ C) = _
    rw [lastO_app, hj]
  rw [e1] at h2
  have hend : ∀ c, lkO s (some j) c → lkO s o c := by
    intro c hc
    have hc' := lnk_iff.1 (show lnk s j c = true from hc)
    have hw := hs.wait
    cases o with
    | none =>
      show s.Infested.contains (tFrom s c) = true
      rw [hc'.1, ← hm]
      exact g3
    | some i =>
      have hi := lnk_iff.1 (show lnk s i m = true from g3)
      exact lnk_iff.2 ⟨by rw [hc'.1, ← hm, hi.1], by omega⟩
  cases C with
  | nil =>
    refine ⟨⟨⟨h1, trivial⟩, ?_⟩, ?_⟩
    · have h2' : tTo s j = x := h2
      show endAt s x o
      cases o with
      | none =>
        show s.Infested.contains x = true
        rw [← h2', ← hm]; exact g3
      | some i =>
        have hi := lnk_iff.1 (show lnk s i m = true from g3)
        show tTo s i = x
        rw [← hi.1, hm, h2']
    · rw [e1]
      show dayO s o ≤ dayT s j
      cases o with
      | none =>
        have h0 := dayT_nn hs g1
        show 0 ≤ dayT s j
        omega
      | some i =>
        have hi := lnk_iff.1 (show lnk s i m = true from g3)
        have hw := hs.wait
        show dayT s i ≤ dayT s j
        omega
  | cons c C =>
    obtain ⟨q1, q2, q3, q4⟩ := g5
    exact ⟨⟨⟨h1, q1, q2, hend c q3, q4⟩, h2⟩, by rw [e1]; exact Int.le_refl _⟩
/-! ### The document's lists -/
def Fresh (s : TBaneSea) (p : List Nat) (j : Nat) : Prop := ∀ m ∈ p ++ [j], tFrom s m ≠ tTo s j
noncomputable def okExt (s : TBaneSea) (op : Nat → Bool) (p : List Nat) (j : Nat) : Bool := @decide (pathOk s op (tTo s j) (p ++ [j]) ∧ Fresh s p j) (Classical.propDecidable _)
theorem okExt_iff {p : List Nat} {j : Nat} : okExt s op p j = true ↔ pathOk s op (tTo s j) (p ++ [j]) ∧ Fresh s p j := by
  unfold okExt
  exact @decide_eq_true_iff _ (Classical.propDecidable _)
noncomputable def extD (s : TBaneSea) (op : Nat → Bool) (k : Nat) (p : List Nat) : List (List Nat) := ((List.range k).filter (okExt s op p)).map fun j => p ++ [j]
noncomputable def docL (s : TBaneSea) (op : Nat → Bool) : Nat → List (List Nat)
  | 0 => [[]]
  | k + 1 => (docL s op k).flatMap (extD s op s.Trips.length)
theorem mem_extD {k : Nat} {p l : List Nat} : l ∈ extD s op k p ↔ ∃ j, j < k ∧ okExt s op p j = true ∧ l = p ++ [j] := by
  unfold extD
  simp only [List.mem_map, List.mem_filter, List.mem_range]
  exact ⟨fun ⟨j, ⟨h1, h2⟩, h3⟩ => ⟨j, h1, h2, h3.symm⟩, fun ⟨j, h1, h2, h3⟩ => ⟨j, ⟨h1, h2⟩, h3.symm⟩⟩
theorem docL_len : ∀ {k : Nat} {l : List Nat}, l ∈ docL s op k → l.length = k ∧ ∀ j ∈ l, j < s.Trips.length
  | 0, l, h => by simp [docL] at h; subst h; simp
  | k + 1, l, h => by
    simp only [docL, List.mem_flatMap] at h
    obtain ⟨p, hp, hl⟩ := h
    obtain ⟨j, h1, _, rfl⟩ := mem_extD.1 hl
    obtain ⟨g1, g2⟩ := docL_len hp
    refine ⟨by simp [g1], fun i hi => ?_⟩
    rcases List.mem_append.1 hi with hi | hi
    · exact g2 i hi
    · simp at hi; subst hi; exact h1
theorem ints_app (a b : List Nat) : ints (a ++ b) = ints a ++ ints b := by simp [ints]
theorem docL_sorted : ∀ k, (docL s op k).Pairwise fun a b => lexlt (ints a) (ints b) = true
  | 0 => by simp [docL]
  | k + 1 => by
    simp only [docL]
    rw [List.pairwise_flatMap]
    refine ⟨fun p _ => ?_, ?_⟩
    · unfold extD
      rw [List.pairwise_map]
      refine (List.Pairwise.filter _ List.pairwise_lt_range).imp ?_
      intro a b h
      rw [ints_app, ints_app]
      refine lexlt_app _ ?_
      show lexlt ((a : Int) :: []) ((b : Int) :: []) = true
      rw [lexlt_cons]
      exact .inl (by omega)
    · refine (List.Pairwise.and_mem.1 (docL_sorted k)).imp ?_
      rintro a b ⟨ha, hb, h⟩ x hx y hy
      obtain ⟨u, _, _, rfl⟩ := mem_extD.1 hx
      obtain ⟨v, _, _, rfl⟩ := mem_extD.1 hy
      rw [ints_app, ints_app]
      exact lexlt_ext _ _ (by simp [ints, (docL_len ha).1, (docL_len hb).1]) h
theorem docL_size : ∀ k, (docL s op k).length ≤ s.Trips.length ^ k
  | 0 => by simp [docL]
  | k + 1 => by
    have h2 := docL_size k
    have fl : ∀ (L : List (List Nat)), (L.flatMap (extD s op s.Trips.length)).length ≤ L.length * s.Trips.length := by
      intro L
      induction L with
      | nil => simp
      | cons p L ih =>
        rw [List.flatMap_cons, List.length_append, List.length_cons, Nat.add_mul, Nat.one_mul]
        have : (extD s op s.Trips.length p).length ≤ s.Trips.length := by
          unfold extD
          rw [List.length_map]
          exact Nat.le_trans (List.length_filter_le _ _) (by simp)
        omega
    have h1 := fl (docL s op k)
    have h3 : (docL s op k).length * s.Trips.length ≤ s.Trips.length ^ k * s.Trips.length := Nat.mul_le_mul_right _ h2
    rw [docL, Nat.pow_succ]
    omega
/-- The best path is among them. -/
theorem best_in (hs : Sea s I) {x v : Int} {l : List Nat} (hp : pathOk s op x l) (hd : lastD s l = v) (hb : ∀ l', pathOk s op x l' → l' ≠ l → v < lastD s l' ∨ (v = lastD s l' ∧ ordB (ints l) (ints l'))) : ∀ (k : Nat), k ≤ l.length → l.take k ∈ docL s op k ∧ ((l.take k).map fun m => (tFrom s m).toNat).Nodup
  | 0, _ => by simp [docL]
  | k + 1, hk => by
    obtain ⟨ih1, ih2⟩ := best_in hs hp hd hb k (by omega)
    have hlk : l[k]? = some (l[k]'(by omega)) := List.getElem?_eq_getElem (by omega)
    obtain ⟨j, hj⟩ : ∃ j, j = l[k]'(by omega) := ⟨_, rfl⟩
    rw [← hj] at hlk
    have e1 : l.take (k + 1) = l.take k ++ [j] := take_snoc hlk
    have e2 : l = (l.take k ++ [j]) ++ l.drop (k + 1) := by rw [← e1, List.take_append_drop]
    have hS := path_S.1 hp
    have hlast : lastO none (l.take k ++ [j]) = some j := by rw [lastO_app]; rfl
    have hpre : chS s op none (l.take k ++ [j]) := by
      have := hS.1
      rw [e2, chS_app] at this
      exact this.1
    have hjn : j < s.Trips.length := by
      have := (chS_app _ _ _).1 hpre
      exact this.2.1
    have hpath : ∀ q, q ++ [j] = l.take k ++ [j] → pathOk s op (tTo s j) (q ++ [j]) := fun q hq => by
      rw [hq, path_S, hlast]
      exact ⟨hpre, rfl⟩
    have hfresh : Fresh s (l.take k) j := by
      intro m hm heq
      obtain ⟨A, M, hAM⟩ := List.append_of_mem hm
      have hl : l = A ++ (m :: M ++ l.drop (k + 1)) := by
        have : A ++ (m :: M ++ l.drop (k + 1)) = (A ++ m :: M) ++ l.drop (k + 1) := by simp
        rw [this, ← hAM]; exact e2
      have hlj : lastO (some m) M = some j := by
        rw [hAM, lastO_app] at hlast
        exact hlast
      have hp' := hp
      rw [hl] at hp'
      obtain ⟨c1, c2⟩ := path_cut hs hp' hlj heq
      rw [← hl, hd] at c2
      have hlen : (A ++ l.drop (k + 1)).length < l.length := by
        have := congrArg List.length hl
        simp only [List.length_append, List.length_cons] at this ⊢
        omega
      rcases hb _ c1 (fun e => by rw [e] at hlen; omega) with h | ⟨_, h | ⟨h, _⟩⟩
      · omega
      · simp only [ints, List.length_map] at h; omega
      · simp only [ints, List.length_map] at h; omega
    have hok : okExt s op (l.take k) j = true := okExt_iff.2 ⟨hpath _ rfl, hfresh⟩
    rw [e1]
    refine ⟨?_, ?_⟩
    · simp only [docL, List.mem_flatMap]
      exact ⟨l.take k, ih1, mem_extD.2 ⟨j, hjn, hok, rfl⟩⟩
    · rw [List.map_append, List.nodup_append]
      refine ⟨ih2, by simp, fun a ha b hb' => ?_⟩
      simp only [List.map_cons, List.map_nil, List.mem_singleton] at hb'
      subst hb'
      obtain ⟨m, hm, rfl⟩ := List.mem_map.1 ha
      -- the trip before ends where j begins, and none before begins there
      have hlk2 := ((chS_app _ _ _).1 hpre).2.2.2.1
      cases hk0 : k with
      | zero => subst hk0; simp at hm
      | succ k' =>
        subst hk0
        have hlk' : l[k']? = some (l[k']'(by omega)) := List.getElem?_eq_getElem (by omega)
        obtain ⟨i, hi⟩ : ∃ i, i = l[k']'(by omega) := ⟨_, rfl⟩
        rw [← hi] at hlk'
        have e3 : l.take (k' + 1) = l.take k' ++ [i] := take_snoc hlk'
        rw [e3] at hlk2 hm ih1
        have hlast' : lastO none (l.take k' ++ [i]) = some i := by rw [lastO_app]; rfl
        rw [hlast'] at hlk2
        have h5 := (lnk_iff.1 (show lnk s i j = true from hlk2)).1
        simp only [docL, List.mem_flatMap] at ih1
        obtain ⟨p, _, hpl⟩ := ih1
        obtain ⟨i', _, hoki, hee⟩ := mem_extD.1 hpl
        obtain ⟨rfl, hii⟩ := List.append_inj' hee rfl
        cases hii
        have h6 := (okExt_iff.1 hoki).2 m hm
        have hmn : m < s.Trips.length := by
          have hch := ((chS_app _ _ _).1 hpre).1
          have : ∀ (q : List Nat) (o : Option Nat), chS s op o q → ∀ a ∈ q, a < s.Trips.length := by
            intro q
            induction q with
            | nil => intro o _ a ha; cases ha
            | cons b q ihq =>
              rintro o ⟨z1, _, _, z4⟩ a ha
              rcases List.mem_cons.1 ha with rfl | ha
              · exact z1
              · exact ihq _ z4 a ha
          rw [e3] at hch
          exact this _ _ hch m hm
        have t1 : s.Trips[m]? = some (s.Trips[m]'hmn) := List.getElem?_eq_getElem hmn
        have t2 : s.Trips[j]? = some (s.Trips[j]'hjn) := List.getElem?_eq_getElem hjn
        have r1 := hs.trip _ (List.mem_of_getElem? t1)
        have r2 := hs.trip _ (List.mem_of_getElem? t2)
        rw [← h5, tFrom_of t1, tFrom_of t2] at h6
        rw [tFrom_of t1, tFrom_of t2]
        omega
end
end Go.Proofs.Ytgplafckddpnkaa
