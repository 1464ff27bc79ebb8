/-
  The chapter of poison, in plain Lean: what the council needs of it.
-/
import Derived.Test.YtdgkjgljkgjjiaaGreatDoorFn
import Derived.Test.YtdgkjgljkgjjiaaGreatDoorPl
namespace Go.Proofs.YtdgkjgljkgjjiaaGreatDoor.Bn
open Go.RowKit
set_option linter.unusedVariables false
def inR (x a b : Int) : Bool := decide (a ≤ x) && decide (x ≤ b)
theorem inR_iff {x a b : Int} : inR x a b = true ↔ a ≤ x ∧ x ≤ b := by simp [inR]
theorem f79_eq (x a b : Int) : f79 x a b = some (inR x a b) := by
  unfold f79 inR
  by_cases h : a ≤ x <;> simp [h]
theorem f27_eq (x a b : Int) : f27 x a b = some (inR x a b) := f79_eq x a b
/-- 'slices.Index', 'slices.Contains'. -/
theorem f33_eq (xs : List Int) (x : Int) (hl : xs.length ≤ 1073741824) : f33 xs x = some (xs.contains x) := by
  have h : lp (f95_b0 xs x) 0 = goL (fun k y (_ : Unit) => some (if (x == y) = true then .inr (.inr (k : Int)) else .inl ())) (fun _ => .inl ()) 0 xs () := by
    refine lp_goL (fun k _ => (k : Int)) xs _ _ ?_ ?_ ()
    · intro k t y hy
      have hk := get_lt hy
      unfold f95_b0
      rw [if_pos (by simpa using hk), ix_nat, hy, wrap_nat hk hl]
      by_cases h : x = y <;> simp [h]
    · intro t
      unfold f95_b0
      simp
  have h2 : ∀ (ys : List Int) (k : Nat), ∃ r : Unit ⊕ Int, goL (fun k y (_ : Unit) => some (if (x == y) = true then .inr (.inr (k : Int)) else .inl ())) (fun _ => .inl ()) k ys () = some r ∧ (match r with | .inl _ => ys.contains x = false | .inr i => ys.contains x = true ∧ 0 ≤ i) := by
    intro ys
    induction ys with
    | nil => intro k; exact ⟨_, rfl, rfl⟩
    | cons y ys ih =>
      intro k
      by_cases hxy : (x == y) = true
      · exact ⟨.inr k, by simp only [goL, hxy, if_true], by rw [List.contains_cons, hxy]; simp⟩
      · obtain ⟨r, h1, h2⟩ := ih (k + 1)
        refine ⟨r, by simp only [goL, hxy]; exact h1, ?_⟩
        have e : (y :: ys).contains x = ys.contains x := by
          have hxy' : (x == y) = false := by simpa using hxy
          rw [List.contains_cons, hxy', Bool.false_or]
        rw [e]; exact h2
  obtain ⟨r, h1, h3⟩ := h2 xs 0
  unfold f33 f95
  rw [h, h1]
  cases r with
  | inl _ => simp at h3 ⊢; simpa using h3
  | inr i => obtain ⟨h4, h5⟩ := h3; simp [h5]; simpa using h4
theorem app_short {α : Type} (xs ys : List α) (h : xs.length + ys.length ≤ 1073741824) : app xs ys = some (xs ++ ys) := by simp [app, h]
def w64 (x : Int) : Int := IntKind.i64.wrap x
def plus (n : Int) (al : List Int) : Int := al.foldl (fun n a => w64 (n + a)) n
theorem take_snoc {α : Type} {xs : List α} {k : Nat} {y : α} (h : xs[k]? = some y) : xs.take (k + 1) = xs.take k ++ [y] := by rw [List.take_add_one, h]; rfl
theorem plus_snoc (n : Int) (al : List Int) (a : Int) : plus n (al ++ [a]) = w64 (plus n al + a) := by simp [plus]
theorem ix_int {α : Type} {xs : List α} {i : Int} (h0 : 0 ≤ i) : ix xs i = xs[i.toNat]? := by simp [ix, h0]
theorem getD_get {α : Type} {xs : List α} {i : Nat} (d : α) (h : i < xs.length) : xs[i]? = some (xs.getD i d) := by rw [List.getElem?_eq_getElem h]; simp [h]
theorem lens_beq {a b : Nat} : ((a : Int) != (b : Int)) = !decide (a = b) := by
  rw [Bool.eq_iff_iff]; simp; omega
theorem pred_any {n : Nat} (hn : n ≤ 1073741824) : IntKind.i64.wrap ((n : Int) - 1) = (n : Int) - 1 := by rw [wrap_id] <;> omega
theorem pred_pos {k : Nat} (h0 : 0 < k) (hn : k ≤ 1073741824) : IntKind.i64.wrap ((k : Int) - 1) = ((k - 1 : Nat) : Int) := by rw [wrap_id] <;> omega
/-- Lists that strictly increase. -/
theorem f80_eq (l : List Int) (n : Nat) (hl : l.length ≤ 1000) (hn : n ≤ 1000) : f80 l (n : Int) = some (incr l (n : Int)) := by
  unfold f80
  have h : lp (f80_b0 l (n : Int)) 0 = some (if incr l (n : Int) = true then .inl () else .inr false) := by
    unfold incr
    refine lp_all l _ (Sum.inr false) (Sum.inl ()) (fun k => (k : Int)) ?_ ?_
    · intro k y hy
      have hk := get_lt hy
      unfold f80_b0
      rw [if_pos (by simpa using hk), ix_nat, hy]
      simp only [Option.bind_some, pred_any (show n ≤ 1073741824 by omega), f79_eq, wrap_nat hk (by omega)]
      unfold inR
      by_cases h1 : 0 ≤ y
      · by_cases h2 : y ≤ (n : Int) - 1
        · by_cases h3 : k = 0
          · subst h3; simp [h1, h2]
          · have h4 : (0 : Int) < (k : Int) := by omega
            have hg : l[k - 1]? = some (l.getD (k - 1) 0) := getD_get 0 (by omega)
            simp only [h1, h2, h3, h4, decide_true, decide_false, Bool.true_and, Bool.false_or, Bool.not_true, Bool.false_eq_true, if_false, if_true, pred_pos (show 0 < k by omega) (show k ≤ 1073741824 by omega), ix_nat, hg, Option.bind_some]
            by_cases h5 : l.getD (k - 1) 0 < y
            · have : ¬ y ≤ l.getD (k - 1) 0 := by omega
              simp only [h5, this, decide_true, decide_false, Bool.false_eq_true, if_false, if_true]
            · have : y ≤ l.getD (k - 1) 0 := by omega
              simp only [h5, this, decide_true, decide_false, Bool.false_eq_true, if_false, if_true]
        · simp [h1, h2]
      · simp [h1]
    · unfold f80_b0
      simp
  rw [h]
  cases incr l (n : Int) <;> rfl
theorem f7_eq (l : List Int) (n : Nat) (hl : l.length ≤ 1000) (hn : n ≤ 1000) : f7 l (n : Int) = some (incr l (n : Int)) := by
  rw [← f80_eq l n hl hn]
  unfold f7 f80
  have : f7_b0 l (n : Int) = f80_b0 l (n : Int) := by
    funext s
    unfold f7_b0 f80_b0
    by_cases h : decide (s < (l.length : Int)) = true
    · rw [if_pos h, if_pos h]
      cases ix l s with
      | none => rfl
      | some y => simp only [Option.bind_some, f27_eq, f79_eq]
    · rw [if_neg h, if_neg h]
  rw [this]
/-- A number of bits as a list. -/
theorem f83_eq (m n : Nat) (hm : m < 2 ^ 62) (hn : n ≤ 60) : f83 (m : Int) (n : Int) = some (lst m n) := by
  unfold f83
  have h : lp (f83_b0 (m : Int) (n : Int)) ([], 0) = some (lst m n) := by
    refine lp_thru (List.range n) (lst m n) (fun k => (lst m k, (k : Int))) ?_ ?_
    · intro k y hy
      have hk : k < n := by have := get_lt hy; simpa using this
      unfold f83_b0
      rw [if_pos (by simpa using hk)]
      simp only [shr_nat, Option.bind_some, wrap_nat hk (by omega)]
      have hb : (andI .i64 ((m : Int).fdiv (2 ^ min k 64)) 1 == 1) = m.testBit k := bitI_nat m k hm
      rw [hb, lst_succ]
      cases m.testBit k with
      | true =>
        simp only [if_true]
        rw [app_short _ _ (by have := lst_len m k; simp; omega)]
        rfl
      | false => simp
    · unfold f83_b0
      rw [if_neg (by simp)]
      simp
  rw [h]; rfl
/-- A list as bits. -/
theorem bits_snoc (l : List Int) (y : Int) : bitsN (l ++ [y]) = bitsN l ||| 2 ^ y.toNat := by simp [bitsN]
theorem f99_eq (l : List Int) (n : Nat) (hl : l.length ≤ 1000) (hn : n ≤ 60) (h : ∀ y ∈ l, 0 ≤ y ∧ y < (n : Int)) : f99 l = some ((bitsN l : Nat) : Int) := by
  unfold f99
  have h : lp (f99_b0 l) (0, 0) = some ((bitsN l : Nat) : Int) := by
    refine lp_thru l _ (fun k => (((bitsN (l.take k) : Nat) : Int), (k : Int))) ?_ ?_
    · intro k y hy
      have hk := get_lt hy
      have hr := h y (List.mem_of_getElem? hy)
      obtain ⟨i, rfl⟩ : ∃ i : Nat, y = (i : Int) := ⟨y.toNat, by omega⟩
      have h2 : 2 ^ n ≤ 2 ^ 60 := Nat.pow_le_pow_right (by decide) hn
      have h3 : 2 ^ i ≤ 2 ^ 60 := Nat.pow_le_pow_right (by decide) (by omega)
      have h4 : bitsN (l.take k) < 2 ^ n := bits_lt fun z hz => h z (List.mem_of_mem_take hz)
      have h5 : (2 : Nat) ^ 60 < 2 ^ 62 := by decide
      unfold f99_b0
      rw [if_pos (by simpa using hk), ix_nat, hy]
      simp only [Option.bind_some, shl_nat i (by omega), wrap_nat hk (by omega)]
      rw [orI_nat _ _ (by omega) (by omega), take_snoc hy, bits_snoc]
      rfl
    · unfold f99_b0
      rw [if_neg (by simp), List.take_length]
  rw [h]; rfl
/-- Which comes first. -/
def cmpI (a b : Int) : Int := if a < b then -1 else if b < a then 1 else 0
def cmpL : List Int → List Int → Int
  | [], [] => 0
  | [], _ :: _ => -1
  | _ :: _, [] => 1
  | a :: l, b :: m => if a < b then -1 else if b < a then 1 else cmpL l m
theorem cmpL_neg : ∀ (a b : List Int), decide (cmpL a b < 0) = lexlt a b
  | [], [] => rfl
  | [], _ :: _ => rfl
  | _ :: _, [] => rfl
  | a :: l, b :: m => by
    unfold cmpL lexlt
    have ih := cmpL_neg l m
    by_cases h : a < b
    · simp [h]
    · by_cases h' : b < a
      · have : ¬ a = b := by omega
        simp [h, h', this]
      · have : a = b := by omega
        subst this
        simp only [h, if_false, decide_false, Bool.false_or, decide_true, Bool.true_and]
        exact ih
theorem f205_eq (x : Int) : f205 x = some false := by unfold f205; simp
theorem f167_eq (a b : Int) : f167 a b = some (cmpI a b) := by
  unfold f167 cmpI
  rw [f205_eq, f205_eq]
  by_cases h : a < b
  · simp [h]
  · by_cases h' : b < a <;> simp [h, h']
theorem f168_eq (a b : List Int) (ha : a.length ≤ 1000) (hb : b.length ≤ 1000) : f168 a b = some (cmpL a b) := by
  have h : lp (f168_b0 a b) 0 = goL (fun k y (_ : Unit) => some (if b.length ≤ k then .inr (.inr 1) else if cmpI y (b.getD k 0) ≠ 0 then .inr (.inr (cmpI y (b.getD k 0))) else .inl ())) (fun _ => .inl ()) 0 a () := by
    refine lp_goL (fun k _ => (k : Int)) a _ _ ?_ ?_ ()
    · intro k t y hy
      have hk := get_lt hy
      unfold f168_b0
      rw [if_pos (by simpa using hk), ix_nat, hy, wrap_nat hk (by omega)]
      simp only [Option.bind_some]
      by_cases h1 : b.length ≤ k
      · have : (b.length : Int) ≤ (k : Int) := by omega
        simp [h1]
      · have : ¬ (b.length : Int) ≤ (k : Int) := by omega
        rw [ix_nat, getD_get 0 (show k < b.length by omega)]
        simp only [this, h1, decide_false, Bool.false_eq_true, if_false, Option.bind_some, f167_eq]
        by_cases h2 : cmpI y (b.getD k 0) = 0
        · simp only [h2, bne_self_eq_false, Bool.false_eq_true, if_false, ne_eq, not_true_eq_false, Option.map_some, Sum.map_inl]
        · have : (cmpI y (b.getD k 0) != 0) = true := by rw [bne_iff_ne]; exact h2
          simp only [this, if_true]
          rw [if_pos h2]
          rfl
    · intro t
      unfold f168_b0
      simp
  have h2 : ∀ (l : List Int) (k : Nat), k ≤ b.length → (goL (fun k y (_ : Unit) => some (if b.length ≤ k then .inr (.inr 1) else if cmpI y (b.getD k 0) ≠ 0 then .inr (.inr (cmpI y (b.getD k 0))) else .inl ())) (fun _ => (Sum.inl () : Unit ⊕ Int)) k l ()).bind (fun q5 => Sum.elim (fun p4 : Unit => if (decide (k + l.length < b.length)) = true then (some (-1)) else (some 0)) (fun v21 : Int => some v21) q5) = some (cmpL l (b.drop k)) := by
    intro l
    induction l with
    | nil =>
      intro k hk
      simp only [goL, Option.bind_some, Sum.elim_inl, List.length_nil, Nat.add_zero]
      by_cases h : k < b.length
      · rw [List.drop_eq_getElem_cons h]; simp [h, cmpL]
      · rw [List.drop_eq_nil_of_le (by omega)]; simp [h, cmpL]
    | cons y l ih =>
      intro k hk
      by_cases h1 : b.length ≤ k
      · rw [List.drop_eq_nil_of_le h1]
        simp [goL, h1, cmpL]
      · have h1' : k < b.length := by omega
        have hd : b.drop k = b.getD k 0 :: b.drop (k + 1) := by rw [List.drop_eq_getElem_cons h1']; simp [h1']
        rw [hd]
        by_cases h2 : cmpI y (b.getD k 0) = 0
        · have ih' := ih (k + 1) (by omega)
          have e : cmpL (y :: l) (b.getD k 0 :: b.drop (k + 1)) = cmpL l (b.drop (k + 1)) := by
            rw [cmpL]
            unfold cmpI at h2
            by_cases c1 : y < b.getD k 0
            · rw [if_pos c1] at h2; omega
            · by_cases c2 : b.getD k 0 < y
              · rw [if_neg c1, if_pos c2] at h2; omega
              · rw [if_neg c1, if_neg c2]
          rw [e, ← ih']
          have e2 : k + (y :: l).length = k + 1 + l.length := by simp; omega
          rw [e2]
          simp only [goL, h1, if_false, h2, ne_eq, not_true_eq_false]
        · have e : cmpL (y :: l) (b.getD k 0 :: b.drop (k + 1)) = cmpI y (b.getD k 0) := by
            rw [cmpL]
            unfold cmpI at h2 ⊢
            by_cases c1 : y < b.getD k 0
            · rw [if_pos c1, if_pos c1]
            · by_cases c2 : b.getD k 0 < y
              · rw [if_neg c1, if_pos c2, if_neg c1, if_pos c2]
              · rw [if_neg c1, if_neg c2] at h2; exact absurd rfl h2
          rw [e]
          simp only [goL, h1, if_false, h2, ne_eq, not_false_eq_true, if_true, Option.bind_some, Sum.elim_inr]
  unfold f168
  rw [h]
  have := h2 a 0 (Nat.zero_le _)
  rw [List.drop_zero] at this
  rw [← this]
  congr 1
  funext q
  cases q with
  | inl p =>
    simp only [Sum.elim_inl, Nat.zero_add]
    by_cases c : a.length < b.length
    · have : (a.length : Int) < (b.length : Int) := by omega
      simp [c]
    · have : ¬ (a.length : Int) < (b.length : Int) := by omega
      simp [c]
  | inr v => rfl
theorem f166_eq (a b c : Int) : f166 [a, b, c] = some (if a ≠ 0 then a else if b ≠ 0 then b else c) := by
  have step : ∀ (k : Nat) (y : Int), [a, b, c][k]? = some y → f166_b0 [a, b, c] (k : Int) = some (if y ≠ 0 then .inr (.inr y) else .inl (((k + 1 : Nat)) : Int)) := by
    intro k y hy
    have hk := get_lt hy
    unfold f166_b0
    rw [if_pos (by simp at hk ⊢; omega), ix_nat, hy, wrap_nat hk (by simp)]
    by_cases h : y = 0 <;> simp [h]
  unfold f166
  have e0 : lp (f166_b0 [a, b, c]) 0 = lp (f166_b0 [a, b, c]) ((0 : Nat) : Int) := rfl
  rw [e0, lp_eq, step 0 a rfl]
  by_cases h1 : a = 0
  · subst h1
    simp only [ne_eq, not_true_eq_false, if_false]
    rw [lp_eq, step 1 b rfl]
    by_cases h2 : b = 0
    · subst h2
      simp only [ne_eq, not_true_eq_false, if_false]
      rw [lp_eq, step 2 c rfl]
      by_cases h3 : c = 0
      · subst h3
        simp only [ne_eq, not_true_eq_false, if_false]
        rw [lp_eq]
        unfold f166_b0
        simp
      · simp [h3]
    · simp [h2]
  · simp [h1]
theorem f84_eq (c : List Int → Int) (a b : List Int) (ha : a.length ≤ 1000) (hb : b.length ≤ 1000) : f84 ⟨c a, a⟩ ⟨c b, b⟩ = some (befB c a b) := by
  unfold f84
  simp only [f167_eq, f168_eq a b ha hb, Option.bind_some, f166_eq]
  congr 1
  unfold befB
  rw [← cmpL_neg]
  unfold cmpI
  by_cases h1 : c a < c b
  · simp [h1]
  · by_cases h2 : c b < c a
    · have : ¬ c a = c b := by omega
      simp [h1, h2, this]
    · have : c a = c b := by omega
      rw [this]
      by_cases h3 : a.length < b.length
      · have : (a.length : Int) < (b.length : Int) := by omega
        simp [h3]
      · by_cases h4 : b.length < a.length
        · have h5 : ¬ a.length = b.length := by omega
          simp [h3, h4, h5]
        · have h5 : a.length = b.length := by omega
          simp [h5]
theorem pow_small {n : Nat} (hn : n ≤ 20) : 2 ^ n ≤ 1048576 := Nat.le_trans (Nat.pow_le_pow_right (by decide) hn) (by decide)
def chosen (cost : List Int → Int) (o : Option (List Int)) : Bool × TChoice := match o with
  | none => (false, ⟨0, []⟩)
  | some l => (true, ⟨cost l, l⟩)
/-- What the things of a list cost together, some of them having a price. -/
def costL (price : Int → Int) (l : List Int) : Int := plus 0 (l.map price)
theorem bestN_in (cost : List Int → Int) (holds : Nat → Bool) (n : Nat) : ∀ m, ∀ l, bestN cost holds n m = some l → ∃ j, j < m ∧ l = lst j n
  | 0, l, h => by simp [bestN] at h
  | m + 1, l, h => by
    have ih := bestN_in cost holds n m
    unfold bestN at h
    cases hb : bestN cost holds n m with
    | none =>
      rw [hb] at h
      simp only at h
      by_cases hh : holds m = true
      · rw [if_pos hh] at h; cases h; exact ⟨m, by omega, rfl⟩
      · rw [if_neg hh] at h; cases h
    | some b =>
      rw [hb] at h
      simp only at h
      by_cases hh : (befB cost (lst m n) b && holds m) = true
      · rw [if_pos hh] at h; cases h; exact ⟨m, by omega, rfl⟩
      · rw [if_neg hh] at h; cases h
        obtain ⟨j, h1, h2⟩ := ih l hb
        exact ⟨j, by omega, h2⟩
theorem lst_has {m n i : Nat} (hi : i < n) : (lst m n).contains (i : Int) = m.testBit i := by
  rw [Bool.eq_iff_iff, List.contains_iff_mem, mem_lst]
  exact ⟨fun ⟨j, _, h2, h3⟩ => by have : i = j := by omega
                                  subst this; exact h2, fun h => ⟨i, hi, h, rfl⟩⟩
def answer (cost : List Int → Int) (o : Option (List Int)) : List Int × Int × Int := match o with
  | none => ([], 0, 5)
  | some l => (l, cost l, 0)
def tripOk (s : TBaneSea) (t : TBaneTrip) : Bool := inR t.Day 0 400 && (inR t.From 0 (IntKind.i64.wrap (s.Islets - 1)) && (inR t.To 0 (IntKind.i64.wrap (s.Islets - 1)) && (!(t.From == t.To) && inR t.Cost 0 1000000)))
def restOk (s : TBaneSea) : Bool := inR s.Islets 1 8 && (incr s.Infested s.Islets && (incr s.Clean s.Islets && (decide ((s.Trips.length : Int) ≤ 9) && inR s.Wait 0 40)))
def seaOk (s : TBaneSea) : Bool := allI (fun _ t => tripOk s t) 0 s.Trips && restOk s
def seaShort (s : TBaneSea) : Prop := s.Infested.length ≤ 12 ∧ s.Clean.length ≤ 12 ∧ s.Trips.length ≤ 12
theorem incr_of_range {l : List Int} {n : Int} (h1 : inR n 1 8 = true) (hl : l.length ≤ 12) : f80 l n = some (incr l n) ∧ f7 l n = some (incr l n) := by
  have := inR_iff.1 h1
  obtain ⟨m, rfl⟩ : ∃ m : Nat, n = (m : Int) := ⟨n.toNat, by omega⟩
  exact ⟨f80_eq l m (by omega) (by omega), f7_eq l m (by omega) (by omega)⟩
theorem f82_eq (s : TBaneSea) (t : TBaneTrip) : f82 t s = some (!tripOk s t) := by
  unfold f82 tripOk
  simp only [f79_eq, Option.bind_some]
  cases inR t.Day 0 400 <;> cases inR t.From 0 (IntKind.i64.wrap (s.Islets - 1)) <;> cases inR t.To 0 (IntKind.i64.wrap (s.Islets - 1)) <;> cases (t.From == t.To) <;> cases inR t.Cost 0 1000000 <;> simp
/-- 'slices.ContainsFunc' over trips. -/
theorem f81_eq (l : List TBaneTrip) (g : TBaneTrip → Option Bool) (p : TBaneTrip → Bool) (hg : ∀ t ∈ l, g t = some (p t)) (hl : l.length ≤ 1000) : f81 l g = some (!allI (fun _ t => !p t) 0 l) := by
  have h : lp (f165_b0 l g) 0 = goL (fun k y (_ : Unit) => some (if p y = true then .inr (.inr (k : Int)) else .inl ())) (fun _ => .inl ()) 0 l () := by
    refine lp_goL (fun k _ => (k : Int)) l _ _ ?_ ?_ ()
    · intro k t y hy
      have hk := get_lt hy
      unfold f165_b0
      rw [if_pos (by simpa using hk), ix_nat, hy, wrap_nat hk (by omega)]
      simp only [Option.bind_some, hg y (List.mem_of_getElem? hy)]
      cases p y <;> simp
    · intro t
      unfold f165_b0
      simp
  have h2 : ∀ (l : List TBaneTrip) (k : Nat), ∃ r : Unit ⊕ Int, goL (fun k y (_ : Unit) => some (if p y = true then .inr (.inr (k : Int)) else .inl ())) (fun _ => .inl ()) k l () = some r ∧ (match r with | .inl _ => allI (fun _ t => !p t) k l = true | .inr i => allI (fun _ t => !p t) k l = false ∧ 0 ≤ i) := by
    intro l
    induction l with
    | nil => intro k; exact ⟨_, rfl, rfl⟩
    | cons y l ih =>
      intro k
      cases h : p y with
      | true => exact ⟨.inr k, by simp only [goL, h, if_true], by simp only [allI, h, Bool.not_true, Bool.false_and]; exact ⟨trivial, by omega⟩⟩
      | false =>
        obtain ⟨r, h1, h2⟩ := ih (k + 1)
        refine ⟨r, by simp only [goL, h, Bool.false_eq_true, if_false]; exact h1, ?_⟩
        simp only [allI, h, Bool.not_false, Bool.true_and]
        exact h2
  obtain ⟨r, h3, h4⟩ := h2 l 0
  unfold f81 f165
  rw [h, h3]
  cases r with
  | inl _ => simp only at h4; rw [h4]; rfl
  | inr i => obtain ⟨h4, h5⟩ := h4; rw [h4]; simp [h5]
theorem f22_eq (s : TBaneSea) (hs : seaShort s) : f22 s = some (seaOk s) := by
  unfold f22 seaOk restOk
  rw [f81_eq s.Trips _ (fun t => !tripOk s t) (fun t _ => f82_eq s t) (by have := hs.2.2; omega)]
  simp only [f79_eq, Option.bind_some, Bool.not_not]
  cases hi : inR s.Islets 1 8 with
  | false => simp
  | true =>
    rw [(incr_of_range hi hs.1).1, (incr_of_range hi hs.2.1).1]
    cases allI (fun _ t => tripOk s t) 0 s.Trips <;> cases incr s.Infested s.Islets <;> cases incr s.Clean s.Islets <;> cases decide ((s.Trips.length : Int) ≤ 9) <;> cases inR s.Wait 0 40 <;> simp
/-- What a sea as defined holds. -/
structure Sea (s : TBaneSea) (I : Nat) : Prop where
  isl : s.Islets = (I : Int)
  pos : 1 ≤ I
  top : I ≤ 8
  inf : ∀ x ∈ s.Infested, 0 ≤ x ∧ x < (I : Int)
  cln : ∀ x ∈ s.Clean, 0 ≤ x ∧ x < (I : Int)
  num : s.Trips.length ≤ 9
  wait : 0 ≤ s.Wait ∧ s.Wait ≤ 40
  trip : ∀ t ∈ s.Trips, 0 ≤ t.Day ∧ t.Day ≤ 400 ∧ 0 ≤ t.From ∧ t.From < (I : Int) ∧ 0 ≤ t.To ∧ t.To < (I : Int) ∧ t.From ≠ t.To ∧ 0 ≤ t.Cost ∧ t.Cost ≤ 1000000
theorem sea_of {s : TBaneSea} (h : seaOk s = true) : ∃ I, Sea s I := by
  unfold seaOk restOk at h
  simp only [Bool.and_eq_true, decide_eq_true_eq] at h
  obtain ⟨h1, h2, h3, h4, h5, h6⟩ := h
  have h2' := inR_iff.1 h2
  have h6' := inR_iff.1 h6
  have e : IntKind.i64.wrap (s.Islets - 1) = s.Islets - 1 := by rw [wrap_id] <;> omega
  have hI : s.Islets = ((s.Islets.toNat : Nat) : Int) := by omega
  refine ⟨s.Islets.toNat, hI, by omega, by omega, ?_, ?_, by omega, h6', ?_⟩
  · intro x hx; have := (incr_iff.1 h3).1 x hx; omega
  · intro x hx; have := (incr_iff.1 h4).1 x hx; omega
  · intro t ht
    obtain ⟨i, hi⟩ := List.getElem?_of_mem ht
    have := (allI_iff _ _ _).1 h1 i t hi
    unfold tripOk at this
    simp only [Bool.and_eq_true, Bool.not_eq_true', beq_eq_false_iff_ne, e] at this
    obtain ⟨q1, q2, q3, q4, q5⟩ := this
    have q1 := inR_iff.1 q1
    have q2 := inR_iff.1 q2
    have q3 := inR_iff.1 q3
    have q5 := inR_iff.1 q5
    refine ⟨q1.1, q1.2, q2.1, by omega, q3.1, by omega, q4, q5.1, q5.2⟩
inductive Gone (s : TBaneSea) (op : Nat → Bool) : Nat → Prop
  | base {i : Nat} {t : TBaneTrip} (ht : s.Trips[i]? = some t) (ho : op i = true) (hf : s.Infested.contains t.From = true) : Gone s op i
  | step {i j : Nat} {t u : TBaneTrip} (ht : s.Trips[i]? = some t) (ho : op i = true) (hj : Gone s op j) (hu : s.Trips[j]? = some u) (hx : u.To = t.From) (hd : u.Day + s.Wait ≤ t.Day) : Gone s op i
theorem Gone.trip {s : TBaneSea} {op : Nat → Bool} {i : Nat} (h : Gone s op i) : ∃ t, s.Trips[i]? = some t := by
  cases h with
  | base ht _ _ => exact ⟨_, ht⟩
  | step ht _ _ _ _ _ => exact ⟨_, ht⟩
def Arr (s : TBaneSea) (op : Nat → Bool) (x d : Int) : Prop := (s.Infested.contains x = true ∧ d = 0) ∨ ∃ i t, Gone s op i ∧ s.Trips[i]? = some t ∧ t.To = x ∧ t.Day = d
/-- v is the day of the first arrival, or, with none, what stands for never. -/
def Right (never : Int) (s : TBaneSea) (op : Nat → Bool) (x v : Int) : Prop := (Arr s op x v ∧ ∀ d, Arr s op x d → v ≤ d) ∨ (v = never ∧ ∀ d, ¬ Arr s op x d)
theorem Arr.day {s : TBaneSea} {I : Nat} (hs : Sea s I) {op : Nat → Bool} {x d : Int} (h : Arr s op x d) : 0 ≤ d ∧ d ≤ 400 := by
  rcases h with ⟨_, h⟩ | ⟨i, t, _, h1, _, h2⟩
  · omega
  · have := hs.trip t (List.mem_of_getElem? h1); omega
section
variable {s : TBaneSea} {I : Nat} {op : Nat → Bool}
theorem getD_set {D : List Int} {i x : Nat} {v : Int} (hi : i < D.length) : (D.set i v).getD x 0 = if x = i then v else D.getD x 0 := by
  rw [List.getD_eq_getElem?_getD, List.getElem?_set]
  by_cases e : i = x
  · subst e; simp [hi]
  · have : ¬ x = i := fun h => e h.symm
    rw [if_neg e, if_neg this, List.getD_eq_getElem?_getD]
end
def opOf (x1 : List Int) (x2 : List Bool) (i : Nat) : Bool := !x1.contains (i : Int) && x2.getD i false
def opS (shut : Int) (i : Nat) : Bool := andI .i64 (shut.fdiv (2 ^ min i IntKind.i64.bits)) 1 == 0
theorem opS_nat (m i : Nat) (hm : m < 2 ^ 62) : opS (m : Int) i = !m.testBit i := by
  have h := bitI_nat m i hm
  unfold bitI at h
  unfold opS
  have e : IntKind.i64.bits = 64 := rfl
  rw [e, ← h, fdiv_nat, andI_one]
  rw [Bool.eq_iff_iff]
  generalize m / 2 ^ min i 64 = q
  simp only [beq_iff_eq, Bool.not_eq_true', beq_eq_false_iff_ne]
  omega
theorem rg_open {σ ρ : Type} (bd : (Int × TBaneTrip) → σ → Option (σ ⊕ ρ)) (shut : Int) (trips : List TBaneTrip) (St : Nat → σ)
    (h1 : ∀ k t, trips[k]? = some t → opS shut k = true → bd ((k : Int), t) (St k) = some (.inl (St (k + 1))))
    (h2 : ∀ k t, trips[k]? = some t → opS shut k = false → St (k + 1) = St k) : rg bd (openL shut 0 trips) (St 0) = some (.inl (St trips.length)) := by
  have key : ∀ (l : List TBaneTrip) (k : Nat), trips.drop k = l → k ≤ trips.length → rg bd (openL shut k l) (St k) = some (.inl (St trips.length)) := by
    intro l
    induction l with
    | nil =>
      intro k hd hk
      have : k = trips.length := by have := List.drop_eq_nil_iff.1 hd; omega
      subst this
      rfl
    | cons t l ih =>
      intro k hd hk
      have hlt : k < trips.length := by
        rcases Nat.lt_or_ge k trips.length with h | h
        · exact h
        · rw [List.drop_eq_nil_of_le h] at hd; cases hd
      rw [List.drop_eq_getElem_cons hlt] at hd
      injection hd with hy hd
      have ht : trips[k]? = some t := by rw [List.getElem?_eq_getElem hlt, hy]
      have ih' := ih (k + 1) hd hlt
      unfold openL
      by_cases ho : opS shut k = true
      · have ho' : (andI .i64 (((shut).fdiv (2 ^ min k IntKind.i64.bits))) 1 == 0) = true := ho
        rw [if_pos ho']
        unfold rg
        rw [h1 k t ht ho]
        exact ih'
      · have ho' : ¬ (andI .i64 (((shut).fdiv (2 ^ min k IntKind.i64.bits))) 1 == 0) = true := ho
        rw [if_neg ho']
        rw [← h2 k t ht (by simpa using ho)]
        exact ih'
  exact key trips 0 rfl (Nat.zero_le _)
def mk (n : Nat) (f : Nat → Bool) : List Bool := (List.range n).map f
theorem mk_len {n : Nat} {f : Nat → Bool} : (mk n f).length = n := by simp [mk]
theorem mk_get {n i : Nat} {f : Nat → Bool} (h : i < n) : (mk n f)[i]? = some (f i) := by simp [mk, h]
theorem mk_congr {n : Nat} {f g : Nat → Bool} (h : ∀ i, i < n → f i = g i) : mk n f = mk n g := by
  unfold mk
  exact List.map_congr_left fun i hi => h i (List.mem_range.1 hi)
theorem mk_set {n i : Nat} {f g : Nat → Bool} (h : i < n) (hg : ∀ j, j < n → g j = (f j || decide (j = i))) : (mk n f).set i true = mk n g := by
  apply List.ext_getElem?
  intro j
  rw [List.getElem?_set, mk_len]
  by_cases hj : j < n
  · rw [mk_get hj, mk_get hj, hg j hj]
    by_cases e : i = j
    · subst e; simp [hj]
    · have : ¬ j = i := fun h => e h.symm
      rw [if_neg e]; simp [this]
  · have e : (mk n g)[j]? = none := List.getElem?_eq_none (by rw [mk_len]; omega)
    have e2 : (mk n f)[j]? = none := List.getElem?_eq_none (by rw [mk_len]; omega)
    rw [e, e2]
    by_cases e : i = j
    · omega
    · rw [if_neg e]
def newN (f P : Nat → Bool) (k : Nat) : List Nat := (List.range k).filter fun i => !f i && P i
theorem newN_succ (f P : Nat → Bool) (k : Nat) : newN f P (k + 1) = newN f P k ++ if (!f k && P k) = true then [k] else [] := by
  unfold newN
  rw [List.range_succ, List.filter_append]
  congr 1
  cases h : (!f k && P k) <;> simp [h]
def unm (n : Nat) (f : Nat → Bool) : Nat := ((List.range n).filter fun i => !f i).length
theorem unm_new (f P : Nat → Bool) : ∀ n, unm n (fun i => f i || P i) + (newN f P n).length = unm n f
  | 0 => rfl
  | n + 1 => by
    have ih := unm_new f P n
    unfold unm at ih ⊢
    simp only [Bool.not_or] at ih ⊢
    rw [newN_succ, List.range_succ, List.filter_append, List.filter_append]
    simp only [List.length_append]
    cases hf : f n <;> cases hp : P n <;> simp [hf, hp] <;> omega
theorem newN_len (f P : Nat → Bool) (k : Nat) : (newN f P k).length ≤ k := by
  unfold newN
  exact Nat.le_trans (List.length_filter_le _ _) (by simp)
def ints (l : List Nat) : List Int := l.map fun i : Nat => (i : Int)
theorem setIx_at {α : Type} {xs : List α} {k : Nat} {y : α} (h : k < xs.length) : setIx xs (k : Int) y = some (xs.set k y) := by
  unfold setIx
  rw [if_pos ⟨by omega, by simpa using h⟩]
  rfl
theorem pop_eq {β : Type} (L : List Int) (A : Option β) (B : Int → List Int → Option β) :
    (if ((L.length : Int) == 0) = true then A else (ix L 0).bind fun h => (subL L 1 (L.length : Int)).bind fun t => B h t) = match L with | [] => A | h :: t => B h t := by
  cases L with
  | nil => rfl
  | cons h t =>
    have e : ((((h :: t).length : Nat) : Int) == 0) = false := by rw [beq_eq_false_iff_ne]; simp; omega
    rw [e]
    have e2 : ix (h :: t) 0 = some h := rfl
    have e3 : subL (h :: t) 1 (((h :: t).length : Nat) : Int) = some t := by
      unfold subL
      rw [if_pos ⟨by omega, by simp; omega, by omega⟩]
      simp
    rw [e2, e3]
    rfl
section
variable {s : TBaneSea} {I : Nat} {shut : Int}
/-- Trips that can be gone to from c. -/
def nextP (s : TBaneSea) (shut : Int) (c : TBaneTrip) (i : Nat) : Bool := match s.Trips[i]? with
  | none => false
  | some t => opS shut i && (t.From == c.To && decide (c.Day + s.Wait ≤ t.Day))
def firstP (s : TBaneSea) (shut : Int) (i : Nat) : Bool := match s.Trips[i]? with
  | none => false
  | some t => opS shut i && s.Infested.contains t.From
theorem f40_b1_eq (hs : Sea s I) (hl : s.Infested.length ≤ 12) : rg (f40_b1 ⟨s, shut⟩) (openL shut 0 s.Trips) (mk s.Trips.length (fun _ => false), ⟨[]⟩) = some (.inl (mk s.Trips.length (firstP s shut), ⟨ints (newN (fun _ => false) (firstP s shut) s.Trips.length)⟩)) := by
  have hn := hs.num
  have h := rg_open (f40_b1 ⟨s, shut⟩) shut s.Trips (fun k => (mk s.Trips.length (fun i => decide (i < k) && firstP s shut i), (⟨ints (newN (fun _ => false) (firstP s shut) k)⟩ : TQueue_int_))) ?_ ?_
  · have e0 : mk s.Trips.length (fun i => decide (i < 0) && firstP s shut i) = mk s.Trips.length (fun _ => false) := mk_congr fun i _ => by simp
    have e1 : mk s.Trips.length (fun i => decide (i < s.Trips.length) && firstP s shut i) = mk s.Trips.length (firstP s shut) := mk_congr fun i hi => by simp [hi]
    simp only [e0, e1] at h
    exact h
  · intro k t ht ho
    have hk := get_lt ht
    have hnl := newN_len (fun _ => false) (firstP s shut) k
    unfold f40_b1
    have eP : firstP s shut k = s.Infested.contains t.From := by unfold firstP; rw [ht]; simp [ho]
    simp only [f33_eq s.Infested _ (by omega), Option.bind_some]
    rw [newN_succ, eP]
    cases hc : s.Infested.contains t.From with
    | true =>
      simp only [if_true, ix_nat, mk_get hk, Option.bind_some, setIx_at (show k < (mk s.Trips.length (fun i => decide (i < k) && firstP s shut i)).length by rw [mk_len]; exact hk)]
      rw [app_short _ _ (by simp [ints]; omega)]
      simp only [Option.bind_some]
      rw [mk_set (g := fun i => decide (i < k + 1) && firstP s shut i) hk fun j hj => by
        by_cases e : j = k
        · subst e; simp [eP]; exact List.contains_iff_mem.1 hc
        · have : (j < k + 1) ↔ j < k := by omega
          simp [e, this]]
      simp [ints]
    | false =>
      simp only [Bool.false_eq_true, if_false]
      rw [mk_congr (f := fun i => decide (i < k) && firstP s shut i) (g := fun i => decide (i < k + 1) && firstP s shut i) fun j hj => by
        by_cases e : j = k
        · subst e; simp [eP]; intro h; rw [List.contains_iff_mem.2 h] at hc; cases hc
        · have : (j < k + 1) ↔ j < k := by omega
          simp [this]]
      simp
  · intro k t ht ho
    have eP : firstP s shut k = false := by unfold firstP; rw [ht]; simp [ho]
    rw [newN_succ, eP]
    rw [mk_congr (f := fun i => decide (i < k) && firstP s shut i) (g := fun i => decide (i < k + 1) && firstP s shut i) fun j hj => by
      by_cases e : j = k
      · subst e; simp [eP]
      · have : (j < k + 1) ↔ j < k := by omega
        simp [this]]
    simp
theorem f40_b3_eq (hs : Sea s I) (c : TBaneTrip) (hc : c ∈ s.Trips) (f : Nat → Bool) (Q : List Int) (hQ : Q.length ≤ 1000) :
    rg (f40_b3 ⟨s, shut⟩ c) (openL shut 0 s.Trips) (mk s.Trips.length f, ⟨Q⟩) = some (.inl (mk s.Trips.length (fun i => f i || nextP s shut c i), ⟨Q ++ ints (newN f (nextP s shut c) s.Trips.length)⟩)) := by
  have hn := hs.num
  have hcq := hs.trip c hc
  have hw := hs.wait
  have hwr : IntKind.i64.wrap (c.Day + s.Wait) = c.Day + s.Wait := by rw [wrap_id] <;> omega
  have h := rg_open (f40_b3 ⟨s, shut⟩ c) shut s.Trips (fun k => (mk s.Trips.length (fun i => f i || (decide (i < k) && nextP s shut c i)), (⟨Q ++ ints (newN f (nextP s shut c) k)⟩ : TQueue_int_))) ?_ ?_
  · have e0 : mk s.Trips.length (fun i => f i || (decide (i < 0) && nextP s shut c i)) = mk s.Trips.length f := mk_congr fun i _ => by simp
    have e1 : mk s.Trips.length (fun i => f i || (decide (i < s.Trips.length) && nextP s shut c i)) = mk s.Trips.length (fun i => f i || nextP s shut c i) := mk_congr fun i hi => by simp [hi]
    have e2 : Q ++ ints (newN f (nextP s shut c) 0) = Q := by simp [newN, ints]
    simp only [e0, e1, e2] at h
    exact h
  · intro k t ht ho
    have hk := get_lt ht
    have hnl := newN_len f (nextP s shut c) k
    have eP : nextP s shut c k = (t.From == c.To && decide (c.Day + s.Wait ≤ t.Day)) := by unfold nextP; rw [ht]; simp [ho]
    have hin : (if (!(f k || (decide (k < k) && nextP s shut c k))) = true then (if (t.From == c.To) = true then (some (decide (c.Day + s.Wait ≤ t.Day))) else (some false)) else (some false) : Option Bool) = some (!f k && nextP s shut c k) := by
      rw [eP]
      cases f k <;> cases (t.From == c.To) <;> simp
    unfold f40_b3
    simp only [ix_nat, mk_get hk, Option.bind_some, hwr, hin]
    rw [newN_succ]
    cases hcc : (!f k && nextP s shut c k) with
    | true =>
      simp only [if_true, setIx_at (show k < (mk s.Trips.length (fun i => f i || (decide (i < k) && nextP s shut c i))).length by rw [mk_len]; exact hk), Option.bind_some]
      rw [app_short _ _ (by simp [ints]; omega)]
      simp only [Option.bind_some]
      rw [mk_set (g := fun i => f i || (decide (i < k + 1) && nextP s shut c i)) hk fun j hj => by
        by_cases e : j = k
        · subst e
          simp only [Bool.and_eq_true] at hcc
          simp [hcc.2]
        · have : (j < k + 1) ↔ j < k := by omega
          simp [e, this]]
      simp [ints]
    | false =>
      simp only [Bool.false_eq_true, if_false]
      rw [mk_congr (f := fun i => f i || (decide (i < k) && nextP s shut c i)) (g := fun i => f i || (decide (i < k + 1) && nextP s shut c i)) fun j hj => by
        by_cases e : j = k
        · subst e
          cases hf : f j
          · rw [hf] at hcc
            simp only [Bool.not_false, Bool.true_and] at hcc
            simp [hcc]
          · simp
        · have : (j < k + 1) ↔ j < k := by omega
          simp [this]]
      simp
  · intro k t ht ho
    have eP : nextP s shut c k = false := by unfold nextP; rw [ht]; simp [ho]
    rw [newN_succ, eP]
    rw [mk_congr (f := fun i => f i || (decide (i < k) && nextP s shut c i)) (g := fun i => f i || (decide (i < k + 1) && nextP s shut c i)) fun j hj => by
      by_cases e : j = k
      · subst e; simp [eP]
      · have : (j < k + 1) ↔ j < k := by omega
        simp [this]]
    simp
/-- What holds before each trip. -/
structure Inv (s : TBaneSea) (I : Nat) (shut : Int) (out : List Int) (f : Nat → Bool) (pend : List Nat) : Prop where
  len : out.length = I
  pnd : ∀ i ∈ pend, f i = true
  gone : ∀ i, f i = true → i < s.Trips.length ∧ Gone s (opS shut) i
  first : ∀ i, firstP s shut i = true → f i = true
  done : ∀ i t, f i = true → s.Trips[i]? = some t → i ∈ pend ∨ ((∀ k, nextP s shut t k = true → f k = true) ∧ 0 ≤ out.getD t.To.toNat 0 ∧ out.getD t.To.toNat 0 ≤ t.Day)
  val : ∀ x, x < I → out.getD x 0 = -1 ∨ ∃ i t, Gone s (opS shut) i ∧ s.Trips[i]? = some t ∧ t.To = (x : Int) ∧ t.Day = out.getD x 0
  size : pend.length + unm s.Trips.length f ≤ s.Trips.length
def enc (s : TBaneSea) (out : List Int) (f : Nat → Bool) : List Nat → List Int × Int × Bool × List Bool × TQueue_int_
  | [] => (out, 0, false, mk s.Trips.length f, ⟨[]⟩)
  | c :: q => (out, (c : Int), true, mk s.Trips.length f, ⟨ints q⟩)
def better (out : List Int) (c : TBaneTrip) : List Int := if (decide (out.getD c.To.toNat 0 < 0) || decide (c.Day < out.getD c.To.toNat 0)) = true then out.set c.To.toNat c.Day else out
theorem b2_step (hs : Sea s I) {out : List Int} {f : Nat → Bool} {c : Nat} {q : List Nat} (hi : Inv s I shut out f (c :: q)) {t : TBaneTrip} (ht : s.Trips[c]? = some t) :
    f40_b2 ⟨s, shut⟩ (enc s out f (c :: q)) = some (.inl (enc s (better out t) (fun i => f i || nextP s shut t i) (q ++ newN f (nextP s shut t) s.Trips.length))) := by
  have hq := hs.trip t (List.mem_of_getElem? ht)
  have hn := hs.num
  have hol := hi.len
  have hsz := hi.size
  have hql : q.length ≤ 1000 := by have : q.length + 1 + unm s.Trips.length f ≤ s.Trips.length := hsz
                                   omega
  have hT : out[t.To.toNat]? = some (out.getD t.To.toNat 0) := getD_get 0 (by omega)
  have hset : setIx out t.To t.Day = some (out.set t.To.toNat t.Day) := by
    unfold setIx
    rw [if_pos ⟨by omega, by omega⟩]
  have hb : ((((ix out t.To).bind fun y97 => if (decide (y97 < 0)) = true then (some true) else (some (decide (t.Day < y97))) : Option Bool)).bind fun q96 => if q96 = true then ((ix out t.To).bind fun y104 => (setIx out t.To t.Day).bind fun y106 => some y106) else (some out) : Option (List Int)) = some (better out t) := by
    rw [ix_int hq.2.2.2.2.1, hT, hset]
    unfold better
    simp only [Option.bind_some]
    by_cases h1 : out.getD t.To.toNat 0 < 0
    · simp only [h1, decide_true, if_true, Option.bind_some, Bool.true_or]
    · simp only [h1, decide_false, Bool.false_eq_true, if_false, Option.bind_some, Bool.false_or]
      split <;> rfl
  unfold f40_b2
  have e1 : (enc s out f (c :: q)).2.2.1 = true := rfl
  have e2 : ix s.Trips (enc s out f (c :: q)).2.1 = some t := by
    have : (enc s out f (c :: q)).2.1 = (c : Int) := rfl
    rw [this, ix_nat, ht]
  have e3 : (enc s out f (c :: q)).1 = out := rfl
  have e4 : (enc s out f (c :: q)).2.2.2.1 = mk s.Trips.length f := rfl
  have e5 : (enc s out f (c :: q)).2.2.2.2 = ⟨ints q⟩ := rfl
  rw [if_pos e1, e2, e3, e4, e5]
  simp only [Option.bind_some]
  rw [hb, f40_b3_eq hs t (List.mem_of_getElem? ht) f (ints q) (by simpa [ints] using hql)]
  simp only [Option.bind_some, Sum.elim_inl]
  have e6 : ints q ++ ints (newN f (nextP s shut t) s.Trips.length) = ints (q ++ newN f (nextP s shut t) s.Trips.length) := by simp [ints]
  rw [e6, pop_eq]
  cases q ++ newN f (nextP s shut t) s.Trips.length with
  | nil => rfl
  | cons a b => rfl
theorem better_get {out : List Int} {c : TBaneTrip} (hc : c.To.toNat < out.length) (x : Nat) : (better out c).getD x 0 = if x = c.To.toNat ∧ (out.getD x 0 < 0 ∨ c.Day < out.getD x 0) then c.Day else out.getD x 0 := by
  unfold better
  by_cases h : (decide (out.getD c.To.toNat 0 < 0) || decide (c.Day < out.getD c.To.toNat 0)) = true
  · rw [if_pos h, getD_set hc]
    rw [Bool.or_eq_true, decide_eq_true_eq, decide_eq_true_eq] at h
    by_cases e : x = c.To.toNat
    · subst e; rw [if_pos rfl, if_pos ⟨rfl, h⟩]
    · rw [if_neg e, if_neg fun h' => e h'.1]
  · rw [if_neg h]
    rw [Bool.or_eq_true, decide_eq_true_eq, decide_eq_true_eq] at h
    rw [if_neg]
    rintro ⟨rfl, h'⟩
    exact h h'
theorem inv_step (hs : Sea s I) {out : List Int} {f : Nat → Bool} {c : Nat} {q : List Nat} (hi : Inv s I shut out f (c :: q)) {t : TBaneTrip} (ht : s.Trips[c]? = some t) :
    Inv s I shut (better out t) (fun i => f i || nextP s shut t i) (q ++ newN f (nextP s shut t) s.Trips.length) := by
  have hq := hs.trip t (List.mem_of_getElem? ht)
  have hol := hi.len
  have hfc := hi.pnd c (by simp)
  have hgc := (hi.gone c hfc).2
  have hbg := fun x => better_get (out := out) (c := t) (by omega) x
  have hnext : ∀ i, nextP s shut t i = true → i < s.Trips.length ∧ Gone s (opS shut) i := by
    intro i hP
    unfold nextP at hP
    cases hu : s.Trips[i]? with
    | none => rw [hu] at hP; cases hP
    | some u =>
      rw [hu] at hP
      simp only [Bool.and_eq_true, beq_iff_eq, decide_eq_true_eq] at hP
      exact ⟨get_lt hu, .step hu hP.1 hgc ht hP.2.1.symm hP.2.2⟩
  refine ⟨?_, ?_, ?_, ?_, ?_, ?_, ?_⟩
  · unfold better; split
    · rw [List.length_set]; exact hol
    · exact hol
  · intro i hi'
    rcases List.mem_append.1 hi' with h | h
    · rw [hi.pnd i (by simp [h])]; rfl
    · unfold newN at h
      simp only [List.mem_filter, Bool.and_eq_true] at h
      rw [h.2.2]; simp
  · intro i h
    rcases Bool.or_eq_true _ _ ▸ h with h | h
    · exact hi.gone i h
    · exact hnext i h
  · intro i h
    simp only [hi.first i h, Bool.true_or]
  · intro i u hf hu
    have hdone : ∀ (hfi : f i = true), i ∈ q ++ newN f (nextP s shut t) s.Trips.length ∨ ((∀ k, nextP s shut u k = true → (f k || nextP s shut t k) = true) ∧ 0 ≤ (better out t).getD u.To.toNat 0 ∧ (better out t).getD u.To.toNat 0 ≤ u.Day) := by
      intro hfi
      rcases hi.done i u hfi hu with h | ⟨h1, h2, h3⟩
      · rcases List.mem_cons.1 h with rfl | h
        · rw [ht] at hu
          cases hu
          refine .inr ⟨fun k hk => by rw [hk]; simp, ?_⟩
          rw [hbg]
          split
          · omega
          · rename_i hne
            constructor
            · rcases Int.lt_or_le (out.getD t.To.toNat 0) 0 with h | h
              · exact absurd ⟨rfl, .inl h⟩ hne
              · exact h
            · rcases Int.lt_or_le t.Day (out.getD t.To.toNat 0) with h | h
              · exact absurd ⟨rfl, .inr h⟩ hne
              · exact h
        · exact .inl (by simp [h])
      · refine .inr ⟨fun k hk => by rw [h1 k hk]; rfl, ?_⟩
        rw [hbg]
        split
        · rename_i hh
          omega
        · exact ⟨h2, h3⟩
    rcases Bool.or_eq_true _ _ ▸ hf with h | h
    · exact hdone h
    · cases hfi : f i with
      | true => exact hdone hfi
      | false =>
        left
        have : i ∈ newN f (nextP s shut t) s.Trips.length := by
          unfold newN
          simp only [List.mem_filter, List.mem_range]
          exact ⟨get_lt hu, by simp [hfi, h]⟩
        simp [this]
  · intro x hx
    rw [hbg]
    split
    · rename_i h
      exact .inr ⟨c, t, hgc, ht, by omega, rfl⟩
    · exact hi.val x hx
  · have h1 := hi.size
    have h2 := unm_new f (nextP s shut t) s.Trips.length
    simp only [List.length_cons, List.length_append] at h1 ⊢
    omega
theorem b2_run (hs : Sea s I) : ∀ (m : Nat) (out : List Int) (f : Nat → Bool) (pend : List Nat), Inv s I shut out f pend → pend.length + unm s.Trips.length f ≤ m →
    ∃ out' f', lp (f40_b2 ⟨s, shut⟩) (enc s out f pend) = some (out', mk s.Trips.length f', ⟨[]⟩) ∧ Inv s I shut out' f' []
  | m, out, f, [], hi, _ => by
    refine ⟨out, f, ?_, hi⟩
    rw [lp_eq]
    unfold f40_b2
    have e1 : (enc s out f []).2.2.1 = false := rfl
    rw [e1]
    rfl
  | 0, out, f, c :: q, hi, hm => by simp at hm
  | m + 1, out, f, c :: q, hi, hm => by
    have hg := hi.gone c (hi.pnd c (by simp))
    obtain ⟨t, ht⟩ := hg.2.trip
    have h2 := unm_new f (nextP s shut t) s.Trips.length
    obtain ⟨out', f', h3, h4⟩ := b2_run hs m _ _ _ (inv_step hs hi ht) (by simp only [List.length_cons, List.length_append] at hm ⊢; omega)
    refine ⟨out', f', ?_, h4⟩
    rw [lp_eq, b2_step hs hi ht]
    exact h3
theorem inv_all (hs : Sea s I) {out : List Int} {f : Nat → Bool} (hi : Inv s I shut out f []) {i : Nat} (h : Gone s (opS shut) i) : f i = true := by
  induction h with
  | @base i t ht ho hf =>
    refine hi.first i ?_
    unfold firstP
    rw [ht]
    simp only [ho, hf, Bool.and_self]
  | @step i j t u ht ho hj hu hx hd ih =>
    rcases hi.done j u ih hu with h | ⟨h, _⟩
    · cases h
    · refine h i ?_
      unfold nextP
      rw [ht]
      have e : (t.From == u.To) = true := by rw [beq_iff_eq]; exact hx.symm
      simp only [ho, e, hd, decide_true, Bool.and_self]
def zeroAt (s : TBaneSea) (out : List Int) (k : Nat) : List Int := out.mapIdx fun i v => if (s.Infested.take k).contains (i : Int) then 0 else v
theorem zero_get {out : List Int} {k x : Nat} (hx : x < out.length) : (zeroAt s out k).getD x 0 = if (s.Infested.take k).contains (x : Int) = true then 0 else out.getD x 0 := by
  unfold zeroAt
  rw [List.getD_eq_getElem?_getD, List.getElem?_mapIdx, List.getD_eq_getElem?_getD, List.getElem?_eq_getElem hx]
  rfl
/-- 'days'. -/
theorem f40_eq (hs : Sea s I) (hsh : seaShort s) : ∃ R, f40 ⟨s, shut⟩ = some R ∧ R.length = I ∧ ∀ x, x < I → Right (-1) s (opS shut) (x : Int) (R.getD x 0) := by
  have hI := hs.isl
  have htop := hs.top
  have hn := hs.num
  have hil := hsh.1
  have e0 : mkS s.Islets (0 : Int) = some (List.replicate I 0) := by
    unfold mkS
    rw [if_pos ⟨by omega, by omega⟩]
    congr 2
    omega
  have e1 : lp (f40_b0 (List.replicate I 0)) (List.replicate I 0, 0) = some (List.replicate I (-1)) := by
    refine lp_thru (List.range I) _ (fun k => (List.replicate k (-1) ++ List.replicate (I - k) 0, (k : Int))) ?_ ?_
    · intro k y hy
      have hk : k < I := by have := get_lt hy; simpa using this
      unfold f40_b0
      have c : (k : Int) < ((List.replicate I (0 : Int)).length : Int) := by simp; omega
      have hll : (List.replicate k (-1 : Int) ++ List.replicate (I - k) 0).length = I := by simp; omega
      simp only [c, decide_true, if_true, ix_nat, getD_get (0 : Int) (show k < (List.replicate k (-1 : Int) ++ List.replicate (I - k) 0).length by omega), Option.bind_some, setIx_at (show k < (List.replicate k (-1 : Int) ++ List.replicate (I - k) 0).length by omega), wrap_nat hk (by omega)]
      congr 3
      apply List.ext_getElem?
      intro j
      rw [List.getElem?_set]
      by_cases e : k = j
      · subst e
        rw [if_pos rfl, if_pos (by omega), List.getElem?_append_left (by simp), List.getElem?_replicate, if_pos (by omega)]
      · rw [if_neg e]
        by_cases h1 : j < k
        · rw [List.getElem?_append_left (by simp; omega), List.getElem?_append_left (by simp; omega), List.getElem?_replicate, List.getElem?_replicate, if_pos h1, if_pos (by omega)]
        · rw [List.getElem?_append_right (by simp; omega), List.getElem?_append_right (by simp; omega), List.getElem?_replicate, List.getElem?_replicate]
          simp only [List.length_replicate]
          by_cases h2 : j < I
          · rw [if_pos (by omega), if_pos (by omega)]
          · rw [if_neg (by omega), if_neg (by omega)]
    · unfold f40_b0
      simp
  have e2 : mkS (s.Trips.length : Int) false = some (mk s.Trips.length fun _ => false) := by
    unfold mkS
    rw [if_pos ⟨by omega, by omega⟩]
    congr 1
    apply List.ext_getElem?
    intro j
    by_cases hj : j < s.Trips.length
    · rw [mk_get hj, List.getElem?_replicate, if_pos (by omega)]
    · rw [List.getElem?_replicate, if_neg (by omega), List.getElem?_eq_none (by rw [mk_len]; omega)]
  have hinv : Inv s I shut (List.replicate I (-1)) (firstP s shut) (newN (fun _ => false) (firstP s shut) s.Trips.length) := by
    have hfp : ∀ i, firstP s shut i = true → i < s.Trips.length ∧ Gone s (opS shut) i := by
      intro i h
      unfold firstP at h
      cases hu : s.Trips[i]? with
      | none => rw [hu] at h; cases h
      | some u =>
        rw [hu] at h
        simp only [Bool.and_eq_true] at h
        exact ⟨get_lt hu, .base hu h.1 h.2⟩
    refine ⟨by simp, ?_, hfp, fun i h => h, ?_, ?_, ?_⟩
    · intro i hi
      unfold newN at hi
      simp only [List.mem_filter, Bool.and_eq_true] at hi
      exact hi.2.2
    · intro i t hf ht
      left
      unfold newN
      simp only [List.mem_filter, List.mem_range]
      exact ⟨get_lt ht, by simp [hf]⟩
    · intro x hx
      left
      rw [List.getD_eq_getElem?_getD, List.getElem?_replicate, if_pos hx]; rfl
    · have h := unm_new (fun _ => false) (firstP s shut) s.Trips.length
      have h' : unm s.Trips.length (fun i => false || firstP s shut i) = unm s.Trips.length (firstP s shut) := by simp
      have h'' : unm s.Trips.length (fun _ => false) = s.Trips.length := by
        have : (List.range s.Trips.length).filter (fun i => !(fun _ : Nat => false) i) = List.range s.Trips.length := List.filter_eq_self.2 (fun _ _ => rfl)
        unfold unm
        rw [this, List.length_range]
      omega
  obtain ⟨out, f, h3, h4⟩ := b2_run hs _ _ _ _ hinv (Nat.le_refl _)
  have hol := h4.len
  have e4 : lp (f40_b4 ⟨s, shut⟩) (out, 0, mk s.Trips.length f, ⟨[]⟩) = some (zeroAt s out s.Infested.length, mk s.Trips.length f, ⟨[]⟩) := by
    have ez : (out, (0 : Int), mk s.Trips.length f, (⟨[]⟩ : TQueue_int_)) = (fun k : Nat => (zeroAt s out k, (k : Int), mk s.Trips.length f, (⟨[]⟩ : TQueue_int_))) 0 := by
      have : zeroAt s out 0 = out := by
        apply List.ext_getElem?
        intro j
        unfold zeroAt
        rw [List.getElem?_mapIdx]
        cases out[j]? <;> simp
      simp only [this]; rfl
    rw [ez]
    refine lp_thru s.Infested _ (fun k => (zeroAt s out k, (k : Int), mk s.Trips.length f, (⟨[]⟩ : TQueue_int_))) ?_ ?_
    · intro k x hx
      have hk := get_lt hx
      have hxr := hs.inf x (List.mem_of_getElem? hx)
      have hzl : (zeroAt s out k).length = I := by simp [zeroAt, hol]
      unfold f40_b4
      have c : (k : Int) < (s.Infested.length : Int) := by omega
      have hset : setIx (zeroAt s out k) x 0 = some ((zeroAt s out k).set x.toNat 0) := by
        unfold setIx
        rw [if_pos ⟨by omega, by omega⟩]
      simp only [c, decide_true, if_true, ix_nat, hx, Option.bind_some, ix_int hxr.1, getD_get 0 (show x.toNat < (zeroAt s out k).length by omega), hset, wrap_nat hk (by omega)]
      congr 3
      apply List.ext_getElem?
      intro j
      rw [List.getElem?_set, hzl]
      by_cases hj : j < I
      · have g1 : (zeroAt s out k)[j]? = some ((zeroAt s out k).getD j 0) := getD_get 0 (by omega)
        have g2 : (zeroAt s out (k + 1))[j]? = some ((zeroAt s out (k + 1)).getD j 0) := getD_get 0 (by simp [zeroAt]; omega)
        rw [g1, g2, zero_get (by omega), zero_get (by omega), take_snoc hx]
        by_cases e : x.toNat = j
        · subst e
          have : ((x.toNat : Nat) : Int) = x := by omega
          rw [if_pos rfl, if_pos hj, this, if_pos (by simp)]
        · rw [if_neg e]
          congr 1
          have : ¬ (j : Int) = x := by omega
          simp [this]
      · rw [List.getElem?_eq_none (show (zeroAt s out k).length ≤ j by omega), List.getElem?_eq_none (show (zeroAt s out (k + 1)).length ≤ j by simp [zeroAt]; omega)]
        by_cases e : x.toNat = j
        · omega
        · rw [if_neg e]
    · unfold f40_b4
      simp
  refine ⟨zeroAt s out s.Infested.length, ?_, by simp [zeroAt, hol], fun x hx => ?_⟩
  · unfold f40
    simp only [e0, e1, e2, f40_b1_eq hs hil, Option.bind_some, Sum.elim_inl]
    rw [pop_eq]
    have henc : ∀ P : List Nat, (match ints P with | [] => some (0, false, ⟨ints P⟩) | h :: t => some (h, true, (⟨t⟩ : TQueue_int_)) : Option (Int × Bool × TQueue_int_)) = some ((enc s (List.replicate I (-1)) (firstP s shut) P).2.1, (enc s (List.replicate I (-1)) (firstP s shut) P).2.2.1, (enc s (List.replicate I (-1)) (firstP s shut) P).2.2.2.2) := by
      intro P
      cases P with
      | nil => rfl
      | cons a b => rfl
    rw [henc]
    simp only [Option.bind_some]
    have henc2 : ∀ P : List Nat, (List.replicate I (-1 : Int), (enc s (List.replicate I (-1)) (firstP s shut) P).2.1, (enc s (List.replicate I (-1)) (firstP s shut) P).2.2.1, mk s.Trips.length (firstP s shut), (enc s (List.replicate I (-1)) (firstP s shut) P).2.2.2.2) = enc s (List.replicate I (-1)) (firstP s shut) P := by
      intro P
      cases P with
      | nil => rfl
      | cons a b => rfl
    rw [henc2, h3]
    simp only [Option.bind_some, e4]
  · rw [zero_get (by omega), List.take_of_length_le (Nat.le_refl _)]
    by_cases hin : s.Infested.contains (x : Int) = true
    · rw [if_pos hin]
      exact .inl ⟨.inl ⟨hin, rfl⟩, fun d hd => (hd.day hs).1⟩
    · rw [if_neg hin]
      have hall : ∀ d, Arr s (opS shut) (x : Int) d → 0 ≤ out.getD x 0 ∧ out.getD x 0 ≤ d := by
        rintro d (⟨h, _⟩ | ⟨i, t, g1, g2, g3, g4⟩)
        · exact absurd h hin
        · rcases h4.done i t (inv_all hs h4 g1) g2 with h | ⟨_, h5, h6⟩
          · cases h
          · have e : t.To.toNat = x := by omega
            rw [e] at h5 h6
            omega
      rcases h4.val x hx with h | ⟨i, t, g1, g2, g3, g4⟩
      · exact .inr ⟨h, fun d hd => by have := hall d hd; omega⟩
      · exact .inl ⟨.inr ⟨i, t, g1, g2, g3, g4⟩, fun d hd => (hall d hd).2⟩
end
theorem Gone.mono {s s' : TBaneSea} {op op' : Nat → Bool} (ht : ∀ (i : Nat) t, s'.Trips[i]? = some t → s.Trips[i]? = some t) (hi : s'.Infested = s.Infested) (hw : s.Wait ≤ s'.Wait) (ho : ∀ i, i < s'.Trips.length → op' i = true → op i = true) {i : Nat} (h : Gone s' op' i) : Gone s op i := by
  induction h with
  | base h1 h2 h3 => exact .base (ht _ _ h1) (ho _ (get_lt h1) h2) (by rw [← hi]; exact h3)
  | step h1 h2 _ h4 h5 h6 ih => exact .step (ht _ _ h1) (ho _ (get_lt h1) h2) ih (ht _ _ h4) h5 (by omega)
theorem Arr.mono {s s' : TBaneSea} {op op' : Nat → Bool} (ht : ∀ (i : Nat) t, s'.Trips[i]? = some t → s.Trips[i]? = some t) (hi : s'.Infested = s.Infested) (hw : s.Wait ≤ s'.Wait) (ho : ∀ i, i < s'.Trips.length → op' i = true → op i = true) {x d : Int} (h : Arr s' op' x d) : Arr s op x d := by
  rcases h with ⟨h1, h2⟩ | ⟨i, t, h1, h2, h3, h4⟩
  · exact .inl ⟨by rw [← hi]; exact h1, h2⟩
  · exact .inr ⟨i, t, h1.mono ht hi hw ho, ht i t h2, h3, h4⟩
theorem Arr.congr {s : TBaneSea} {op op' : Nat → Bool} (ho : ∀ i, i < s.Trips.length → op' i = op i) {x d : Int} : Arr s op' x d ↔ Arr s op x d :=
  ⟨fun h => h.mono (fun _ _ h => h) rfl (Int.le_refl _) fun i hi h => by rw [← ho i hi]; exact h, fun h => h.mono (fun _ _ h => h) rfl (Int.le_refl _) fun i hi h => by rw [ho i hi]; exact h⟩
theorem Right.congr {n : Int} {s : TBaneSea} {op op' : Nat → Bool} (ho : ∀ i, i < s.Trips.length → op' i = op i) {x v : Int} (h : Right n s op' x v) : Right n s op x v := by
  rcases h with ⟨h1, h2⟩ | ⟨h1, h2⟩
  · exact .inl ⟨(Arr.congr ho).1 h1, fun d hd => h2 d ((Arr.congr ho).2 hd)⟩
  · exact .inr ⟨h1, fun d hd => h2 d ((Arr.congr ho).2 hd)⟩
def opB (x1 : List Int) (i : Nat) : Bool := !x1.contains (i : Int)
theorem pow62 {n m : Nat} (hn : n ≤ 20) (h : m < 2 ^ n) : m < 2 ^ 62 := by
  have h1 := pow_small hn
  have : (1048576 : Nat) < 2 ^ 62 := by decide
  omega
theorem opS_bits {l : List Int} {n : Nat} (hn : n ≤ 20) (h : ∀ y ∈ l, 0 ≤ y ∧ y < (n : Int)) (i : Nat) : opS ((bitsN l : Nat) : Int) i = opB l i := by
  rw [opS_nat _ _ (pow62 hn (bits_lt h)), bits_mem fun y hy => (h y hy).1]
  rfl
theorem f39_eq (s : TBaneSea) (x1 : List Int) (hsh : seaShort s) (h1 : x1.length ≤ 1000) : f39 s x1 = some (if (seaOk s && incr x1 (s.Trips.length : Int)) = true then (⟨s, ((bitsN x1 : Nat) : Int)⟩, true) else (⟨⟨0, [], [], [], 0⟩, 0⟩, false)) := by
  unfold f39
  have h12 := hsh.2.2
  rw [f22_eq s hsh, f80_eq x1 _ h1 (by omega)]
  cases seaOk s with
  | false => simp
  | true =>
    cases hi : incr x1 (s.Trips.length : Int) with
    | false => simp
    | true =>
      simp only [Option.bind_some, Bool.not_true, Bool.false_eq_true, if_false, Bool.and_self, if_true]
      rw [f99_eq x1 _ h1 (by omega) (incr_iff.1 hi).1]
      rfl
/-- 'bane.Spread'. -/
theorem f38_eq (s : TBaneSea) (x1 : List Int) (hsh : seaShort s) (h1 : x1.length ≤ 1000) :
    ((seaOk s && incr x1 (s.Trips.length : Int)) = false → f38 s x1 = some ([], 2)) ∧
    (seaOk s = true → incr x1 (s.Trips.length : Int) = true → ∀ I, Sea s I → ∃ R, f38 s x1 = some (R, 0) ∧ R.length = I ∧ ∀ x, x < I → Right (-1) s (opB x1) (x : Int) (R.getD x 0)) := by
  have h12 := hsh.2.2
  constructor
  · intro h
    unfold f38
    rw [f39_eq s x1 hsh h1, h]
    rfl
  · intro hok hi I hs
    obtain ⟨R, h2, h3, h4⟩ := f40_eq (shut := ((bitsN x1 : Nat) : Int)) hs hsh
    refine ⟨R, ?_, h3, fun x hx => (h4 x hx).congr fun i _ => (opS_bits (by omega) (incr_iff.1 hi).1 i).symm ▸ rfl⟩
    unfold f38
    rw [f39_eq s x1 hsh h1, hok, hi]
    simp only [Bool.and_self, if_true, Option.bind_some, Bool.not_true, Bool.false_eq_true, if_false, h2]
/-- The bits of what doesn't go. -/
def shutN (m : Nat) (x2 : List Bool) : Nat → Nat
  | 0 => m
  | k + 1 => if x2.getD k false = true then shutN m x2 k else shutN m x2 k ||| 2 ^ k
theorem shutN_lt {m n : Nat} {x2 : List Bool} (hm : m < 2 ^ n) : ∀ k, k ≤ n → shutN m x2 k < 2 ^ n
  | 0, _ => hm
  | k + 1, h => by
    unfold shutN
    split
    · exact shutN_lt hm k (by omega)
    · exact Nat.or_lt_two_pow (shutN_lt hm k (by omega)) (Nat.pow_lt_pow_right (by decide) (by omega))
theorem shutN_bit (m : Nat) (x2 : List Bool) (i : Nat) : ∀ k, (shutN m x2 k).testBit i = (m.testBit i || (decide (i < k) && !x2.getD i false))
  | 0 => by simp [shutN]
  | k + 1 => by
    have ih := shutN_bit m x2 i k
    have e : shutN m x2 (k + 1) = if x2.getD k false = true then shutN m x2 k else shutN m x2 k ||| 2 ^ k := rfl
    rw [e]
    by_cases h : x2.getD k false = true
    · rw [if_pos h, ih]
      by_cases hk : i = k
      · subst hk; rw [h]; simp
      · have : (i < k + 1) ↔ i < k := by omega
        simp only [this]
    · rw [if_neg h, Nat.testBit_or, ih, Nat.testBit_two_pow]
      by_cases hk : i = k
      · subst hk
        have : x2.getD i false = false := by simpa using h
        rw [this]; simp
      · have h2 : (i < k + 1) ↔ i < k := by omega
        have h3 : ¬ k = i := fun h => hk h.symm
        simp only [h2, h3, decide_false, Bool.or_false]
/-- 'bane.Carried'. -/
theorem f10_eq (s : TBaneSea) (x1 : List Int) (x2 : List Bool) (hsh : seaShort s) (h1 : x1.length ≤ 1000) :
    ((seaOk s && incr x1 (s.Trips.length : Int)) = false → f10 s x1 x2 = some ([], 2)) ∧ (x2.length ≠ s.Trips.length → f10 s x1 x2 = some ([], 2)) ∧
    (seaOk s = true → incr x1 (s.Trips.length : Int) = true → x2.length = s.Trips.length → ∀ I, Sea s I → ∃ R, f10 s x1 x2 = some (R, 0) ∧ R.length = I ∧ ∀ x, x < I → Right (-1) s (opOf x1 x2) (x : Int) (R.getD x 0)) := by
  have h12 := hsh.2.2
  refine ⟨?_, ?_, ?_⟩
  · intro h
    unfold f10
    rw [f39_eq s x1 hsh h1, h]
    rfl
  · intro h
    unfold f10
    rw [f39_eq s x1 hsh h1, lens_beq]
    cases (seaOk s && incr x1 (s.Trips.length : Int)) <;> simp [h]
  · intro hok hi hl I hs
    have hr := (incr_iff.1 hi).1
    have hb := bits_lt hr
    have hloop : lp (f10_b0 x2) (0, ⟨s, ((bitsN x1 : Nat) : Int)⟩) = some ⟨s, ((shutN (bitsN x1) x2 s.Trips.length : Nat) : Int)⟩ := by
      rw [← hl]
      refine lp_thru x2 _ (fun k => ((k : Int), (⟨s, ((shutN (bitsN x1) x2 k : Nat) : Int)⟩ : TSea))) ?_ ?_
      · intro k y hy
        have hk := get_lt hy
        unfold f10_b0
        have c : (k : Int) < (x2.length : Int) := by omega
        have ey : x2.getD k false = y := by rw [List.getD_eq_getElem?_getD, hy]; rfl
        have hlt := shutN_lt (x2 := x2) hb k (by omega)
        have hlt2 : 2 ^ k < 2 ^ s.Trips.length := Nat.pow_lt_pow_right (by decide) (by omega)
        have e : shutN (bitsN x1) x2 (k + 1) = if x2.getD k false = true then shutN (bitsN x1) x2 k else shutN (bitsN x1) x2 k ||| 2 ^ k := rfl
        rw [e, ey]
        simp only [c, decide_true, if_true, ix_nat, hy, Option.bind_some, wrap_nat hk (by omega)]
        cases y with
        | true => simp
        | false =>
          simp only [Bool.not_false, if_true, Bool.false_eq_true, if_false, shl_nat k (by omega), Option.bind_some]
          rw [orI_nat _ _ (pow62 (show s.Trips.length ≤ 20 by omega) hlt) (pow62 (show s.Trips.length ≤ 20 by omega) hlt2)]
      · unfold f10_b0
        simp
    obtain ⟨R, h2, h3, h4⟩ := f40_eq (shut := ((shutN (bitsN x1) x2 s.Trips.length : Nat) : Int)) hs hsh
    refine ⟨R, ?_, h3, fun x hx => (h4 x hx).congr fun i hi' => ?_⟩
    · unfold f10
      rw [f39_eq s x1 hsh h1, hok, hi, lens_beq]
      simp only [Bool.and_self, if_true, Option.bind_some, Bool.not_true, Bool.false_eq_true, if_false, hl, decide_true, hloop, h2]
    · rw [opS_nat _ _ (pow62 (show s.Trips.length ≤ 20 by omega) (shutN_lt hb _ (Nat.le_refl _))), shutN_bit, bits_mem fun y hy => (hr y hy).1]
      unfold opOf
      simp [hi']
def Kept (s : TBaneSea) (op : Nat → Bool) : Prop := ∀ x ∈ s.Clean, ∀ d, ¬ Arr s op x d
noncomputable def keptB (s : TBaneSea) (op : Nat → Bool) : Bool := @decide (Kept s op) (Classical.propDecidable _)
theorem keptB_iff {s : TBaneSea} {op : Nat → Bool} : keptB s op = true ↔ Kept s op := by
  unfold keptB
  exact @decide_eq_true_iff _ (Classical.propDecidable _)
theorem keptB_congr {s : TBaneSea} {op op' : Nat → Bool} (ho : ∀ i, i < s.Trips.length → op' i = op i) : keptB s op' = keptB s op := by
  rw [Bool.eq_iff_iff, keptB_iff, keptB_iff]
  exact ⟨fun h x hx d hd => h x hx d ((Arr.congr ho).2 hd), fun h x hx d hd => h x hx d ((Arr.congr ho).1 hd)⟩
theorem f85_eq (l : List Int) (g : Int → Option Bool) (p : Int → Bool) (hg : ∀ t ∈ l, g t = some (p t)) (hl : l.length ≤ 1000) : f85 l g = some (!allI (fun _ t => !p t) 0 l) := by
  have h : lp (f169_b0 l g) 0 = goL (fun k y (_ : Unit) => some (if p y = true then .inr (.inr (k : Int)) else .inl ())) (fun _ => .inl ()) 0 l () := by
    refine lp_goL (fun k _ => (k : Int)) l _ _ ?_ ?_ ()
    · intro k t y hy
      have hk := get_lt hy
      unfold f169_b0
      rw [if_pos (by simpa using hk), ix_nat, hy, wrap_nat hk (by omega)]
      simp only [Option.bind_some, hg y (List.mem_of_getElem? hy)]
      cases p y <;> simp
    · intro t
      unfold f169_b0
      simp
  have h2 : ∀ (l : List Int) (k : Nat), ∃ r : Unit ⊕ Int, goL (fun k y (_ : Unit) => some (if p y = true then .inr (.inr (k : Int)) else .inl ())) (fun _ => .inl ()) k l () = some r ∧ (match r with | .inl _ => allI (fun _ t => !p t) k l = true | .inr i => allI (fun _ t => !p t) k l = false ∧ 0 ≤ i) := by
    intro l
    induction l with
    | nil => intro k; exact ⟨_, rfl, rfl⟩
    | cons y l ih =>
      intro k
      cases h : p y with
      | true => exact ⟨.inr k, by simp only [goL, h, if_true], by simp only [allI, h, Bool.not_true, Bool.false_and]; exact ⟨trivial, by omega⟩⟩
      | false =>
        obtain ⟨r, h1, h2⟩ := ih (k + 1)
        refine ⟨r, by simp only [goL, h, Bool.false_eq_true, if_false]; exact h1, ?_⟩
        simp only [allI, h, Bool.not_false, Bool.true_and]
        exact h2
  obtain ⟨r, h3, h4⟩ := h2 l 0
  unfold f85 f169
  rw [h, h3]
  cases r with
  | inl _ => simp only at h4; rw [h4]; rfl
  | inr i => obtain ⟨h4, h5⟩ := h4; rw [h4]; simp [h5]
theorem kept_all {never : Int} {s : TBaneSea} {I : Nat} (hs : Sea s I) {op : Nat → Bool} {R : List Int} (h : ∀ x, x < I → Right never s op (x : Int) (R.getD x 0)) (q : Int → Bool) (hq : ∀ v, q v = true ↔ v = never) (hn : never < 0 ∨ 400 < never) : allI (fun _ x => q (R.getD x.toNat 0)) 0 s.Clean = keptB s op := by
  rw [Bool.eq_iff_iff, keptB_iff, allI_iff]
  constructor
  · intro h1 x hx d hd
    obtain ⟨j, hj⟩ := List.getElem?_of_mem hx
    have hr := hs.cln x hx
    have h2 := (hq _).1 (h1 j x hj)
    have e : ((x.toNat : Nat) : Int) = x := by omega
    have h3 := h x.toNat (by omega)
    rw [e] at h3
    rcases h3 with ⟨g1, _⟩ | ⟨_, g2⟩
    · have := g1.day hs; omega
    · exact g2 d hd
  · intro h1 j x hj
    have hx := List.mem_of_getElem? hj
    have hr := hs.cln x hx
    have e : ((x.toNat : Nat) : Int) = x := by omega
    have h3 := h x.toNat (by omega)
    rw [e] at h3
    rcases h3 with ⟨g1, _⟩ | ⟨g1, _⟩
    · exact (h1 x hx _ g1).elim
    · exact (hq _).2 g1
theorem f26_eq (s : TBaneSea) (I : Nat) (hs : Sea s I) (hsh : seaShort s) (shut : Int) : f26 ⟨s, shut⟩ = some (keptB s (opS shut)) := by
  obtain ⟨R, h1, h2, h3⟩ := f40_eq (shut := shut) hs hsh
  have hc := hsh.2.1
  unfold f26
  rw [h1]
  simp only [Option.bind_some]
  rw [f85_eq s.Clean _ (fun x => decide (0 ≤ R.getD x.toNat 0)) (fun x hx => by
    have hr := hs.cln x hx
    unfold f86
    rw [ix_int hr.1, getD_get 0 (show x.toNat < R.length by omega)]
    rfl) (by omega)]
  simp only [Option.bind_some, Bool.not_not]
  have h4 : ∀ x ∈ s.Clean, 0 ≤ R.getD x.toNat 0 ∨ R.getD x.toNat 0 = -1 := fun x hx => by
    have hr := hs.cln x hx
    rcases h3 x.toNat (by omega) with ⟨g1, _⟩ | ⟨g1, _⟩
    · exact .inl (g1.day hs).1
    · exact .inr g1
  rw [← kept_all hs h3 (fun v => v == -1) (fun v => by rw [beq_iff_eq]) (by omega)]
  have hcg := allI_congr (p := fun _ (x : Int) => !decide (0 ≤ R.getD x.toNat 0)) (q := fun _ (x : Int) => R.getD x.toNat 0 == -1) s.Clean 0 (fun j x hx => by
    rcases h4 x (List.mem_of_getElem? hx) with h | h
    · have e : (R.getD x.toNat 0 == -1) = false := by rw [beq_eq_false_iff_ne]; omega
      simp only [h, e, decide_true, Bool.not_true]
    · simp only [h]; rfl)
  rw [hcg]
theorem f23_b1_eq (s : TBaneSea) (l : List Int) (B Z : TChoice) (hl : l.length ≤ 1000) (h : ∀ y ∈ l, 0 ≤ y ∧ y < (s.Trips.length : Int)) :
    lp (f23_b1 s.Trips (fun z0 => f24 z0) l) (0, (⟨0, l⟩ : TChoice), B, Z) = some ((⟨costL (fun y => (s.Trips.map (·.Cost)).getD y.toNat 0) l, l⟩ : TChoice), B, Z) := by
  refine lp_thru l _ (fun k => ((k : Int), (⟨plus 0 ((l.map fun y => (s.Trips.map (·.Cost)).getD y.toNat 0).take k), l⟩ : TChoice), B, Z)) ?_ ?_
  · intro k y hy
    have hk := get_lt hy
    obtain ⟨h1, h2⟩ := h y (List.mem_of_getElem? hy)
    have hf : s.Trips[y.toNat]? = some (s.Trips[y.toNat]'(by omega)) := List.getElem?_eq_getElem (by omega)
    have hc : (l.map fun y => (s.Trips.map (·.Cost)).getD y.toNat 0)[k]? = some (s.Trips[y.toNat]'(by omega)).Cost := by simp [hy, hf]
    unfold f23_b1
    rw [if_pos (by simpa using hk), ix_nat, hy]
    simp only [Option.bind_some, ix_int h1, hf, f24, wrap_nat hk (by omega)]
    rw [take_snoc hc, plus_snoc]
    rfl
  · unfold f23_b1
    rw [if_neg (by simp), List.take_of_length_le (by simp)]
    rfl
theorem f23_eq (s : TBaneSea) (x2 : Int → Option Bool) (holds : Nat → Bool) (hn : s.Trips.length ≤ 20) (hx : ∀ m : Nat, m < 2 ^ s.Trips.length → x2 (m : Int) = some (holds m)) :
    f23 s.Trips (fun z0 => f24 z0) x2 = some ((chosen (costL (fun y => (s.Trips.map (·.Cost)).getD y.toNat 0)) (bestN (costL (fun y => (s.Trips.map (·.Cost)).getD y.toNat 0)) holds s.Trips.length (2 ^ s.Trips.length))).2, (chosen (costL (fun y => (s.Trips.map (·.Cost)).getD y.toNat 0)) (bestN (costL (fun y => (s.Trips.map (·.Cost)).getD y.toNat 0)) holds s.Trips.length (2 ^ s.Trips.length))).1) := by
  obtain ⟨n, hnn⟩ : ∃ n, n = s.Trips.length := ⟨_, rfl⟩
  obtain ⟨cost, hcost⟩ : ∃ c, c = costL (fun y => (s.Trips.map (·.Cost)).getD y.toNat 0) := ⟨_, rfl⟩
  have hp := pow_small hn
  unfold f23
  rw [← hnn] at hn hp hx
  rw [← hcost, ← hnn]
  rw [shl_nat n (by omega)]
  simp only [Option.bind_some]
  have h : lp (f23_b0 s.Trips (fun z0 => f24 z0) x2 ((2 ^ n : Nat) : Int)) (false, 0, (⟨0, []⟩ : TChoice), (⟨0, []⟩ : TChoice)) = some ((chosen cost (bestN cost holds n (2 ^ n))).1, (chosen cost (bestN cost holds n (2 ^ n))).2, (⟨0, []⟩ : TChoice)) := by
    refine lp_thru (List.range (2 ^ n)) _ (fun k => ((chosen cost (bestN cost holds n k)).1, (k : Int), (chosen cost (bestN cost holds n k)).2, (⟨0, []⟩ : TChoice))) ?_ ?_
    · intro k y hy
      have hk : k < 2 ^ n := by have := get_lt hy; simpa using this
      have hk62 : (k : Nat) < 2 ^ 62 := by have : (1048576 : Nat) < 2 ^ 62 := by decide
                                           omega
      have c : (k : Int) < ((2 ^ n : Nat) : Int) := by omega
      have hll : (lst k n).length ≤ 1000 := by have := lst_len k n; omega
      unfold f23_b0
      rw [← hnn]
      simp only [c, decide_true, if_true, f83_eq k n hk62 (by omega), Option.bind_some, wrap_nat hk (show 2 ^ n ≤ 1073741824 by omega)]
      rw [f23_b1_eq s (lst k n) _ _ hll (by rw [← hnn]; exact (incr_iff.1 (lst_incr k n)).1), ← hcost]
      simp only [Option.bind_some, hx k hk]
      cases hb : bestN cost holds n k with
      | none =>
        simp only [chosen, bestN, hb, Bool.not_false, if_true, Option.bind_some]
        cases holds k <;> simp
      | some b =>
        obtain ⟨j, _, rfl⟩ := bestN_in cost holds n k b hb
        have hjl : (lst j n).length ≤ 1000 := by have := lst_len j n; omega
        simp only [chosen, bestN, hb, Bool.not_true, Bool.false_eq_true, if_false]
        rw [f84_eq cost _ _ hll hjl]
        simp only [Option.bind_some]
        cases befB cost (lst k n) (lst j n) <;> cases holds k <;> simp
    · unfold f23_b0
      simp
  rw [h]
  rfl
def costT (s : TBaneSea) (l : List Int) : Int := costL (fun y => (s.Trips.map (·.Cost)).getD y.toNat 0) l
noncomputable def keptL (s : TBaneSea) (l : List Int) : Bool := keptB s (opB l)
noncomputable def bestS (s : TBaneSea) : Option (List Int) := bestN (costT s) (fun m => keptL s (lst m s.Trips.length)) s.Trips.length (2 ^ s.Trips.length)
theorem bestS_spec (s : TBaneSea) : match bestS s with
    | none => ∀ l, incr l (s.Trips.length : Int) = true → keptL s l = false
    | some b => IsBest (fun l => incr l (s.Trips.length : Int) = true ∧ keptL s l = true) (costT s) b := bestN_best (costT s) (keptL s) s.Trips.length
theorem kept_lst (s : TBaneSea) (m : Nat) (hn : s.Trips.length ≤ 20) (hm : m < 2 ^ s.Trips.length) : keptB s (opS (m : Int)) = keptL s (lst m s.Trips.length) :=
  keptB_congr fun i hi => by
    rw [opS_nat _ _ (pow62 hn hm)]
    unfold opB
    rw [lst_has hi]
/-- 'bane.Guards'. -/
theorem f6_eq (s : TBaneSea) (hsh : seaShort s) : f6 s = some (if seaOk s = true then answer (costT s) (bestS s) else ([], 0, 2)) := by
  have h12 := hsh.2.2
  unfold f6
  rw [f22_eq s hsh]
  cases hok : seaOk s with
  | false => rfl
  | true =>
    obtain ⟨I, hs⟩ := sea_of hok
    simp only [Option.bind_some, Bool.not_true, Bool.false_eq_true, if_false, if_true]
    rw [f23_eq s _ (fun m => keptL s (lst m s.Trips.length)) (by omega) fun m hm => by
      unfold f25
      rw [f26_eq s I hs hsh, kept_lst s m (by omega) hm]
      rfl]
    have e : bestN (costL (fun y => (s.Trips.map (·.Cost)).getD y.toNat 0)) (fun m => keptL s (lst m s.Trips.length)) s.Trips.length (2 ^ s.Trips.length) = bestS s := rfl
    rw [e]
    cases bestS s with
    | none => rfl
    | some l => rfl
end Go.Proofs.YtdgkjgljkgjjiaaGreatDoor.Bn
