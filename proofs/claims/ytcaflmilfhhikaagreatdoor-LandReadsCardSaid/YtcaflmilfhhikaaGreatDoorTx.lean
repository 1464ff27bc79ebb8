/-
  Plain: the text of a book, and its check, as the program writes it.
-/
import Derived.Test.YtcaflmilfhhikaaGreatDoorPu
import Derived.Test.YtcaflmilfhhikaaGreatDoorNw
import Derived.Laws.RangeString
namespace Go.Proofs.YtcaflmilfhhikaaGreatDoor
open Go.RowKit Go.Lib
set_option linter.unusedVariables false

theorem catS_ok {x y : List UInt8} (h : x.length + y.length ≤ 1073741824) : catS x y = some (x ++ y) := by unfold catS; rw [if_pos h]
theorem itoaF_ok {n : Int} (h0 : -9223372036854775808 ≤ n) (h1 : n ≤ 9223372036854775807) : itoaF n = some (itoa n) := by unfold itoaF; rw [if_pos ⟨h0, h1⟩]
/-- A loop over a list, with what is true all along. -/
theorem lp_inv {α σ τ ρ : Type} {body : σ → Option (σ ⊕ ρ)} (enc : Nat → τ → σ) (xs : List α) (I : Nat → τ → Prop) (step : τ → α → τ) (fin : τ → ρ)
    (h1 : ∀ k t y, xs[k]? = some y → I k t → body (enc k t) = some (.inl (enc (k + 1) (step t y))) ∧ I (k + 1) (step t y)) (h2 : ∀ t, I xs.length t → body (enc xs.length t) = some (.inr (fin t))) (t0 : τ) (h0 : I 0 t0) :
    lp body (enc 0 t0) = some (fin (xs.foldl step t0)) := by
  have key : ∀ (ys : List α) (k : Nat) (t : τ), xs.drop k = ys → k ≤ xs.length → I k t → lp body (enc k t) = some (fin (ys.foldl step t)) := by
    intro ys
    induction ys with
    | nil =>
      intro k t hd hk hI
      have : k = xs.length := by have := List.drop_eq_nil_iff.1 hd; omega
      subst this
      rw [lp_eq, h2 t hI]
      rfl
    | cons y ys ih =>
      intro k t hd hk hI
      have hlt : k < xs.length := by
        rcases Nat.lt_or_ge k xs.length with h | h
        · exact h
        · rw [List.drop_eq_nil_of_le h] at hd; cases hd
      rw [List.drop_eq_getElem_cons hlt] at hd
      injection hd with hy hd
      obtain ⟨q1, q2⟩ := h1 k t y (by rw [List.getElem?_eq_getElem hlt, hy]) hI
      rw [lp_eq, q1]
      exact ih (k + 1) _ hd hlt q2
  exact key xs 0 t0 rfl (Nat.zero_le _) h0
theorem foldl_cat {α : Type} (g : α → List UInt8) : ∀ (xs : List α) (t : List UInt8), xs.foldl (fun t y => t ++ g y) t = t ++ xs.flatMap g
  | [], t => by simp
  | y :: ys, t => by rw [List.foldl_cons, foldl_cat g ys]; simp
/-- A loop that puts a text together. -/
theorem lp_cat {α σ : Type} {body : σ → Option (σ ⊕ List UInt8)} (enc : Nat → List UInt8 → σ) (xs : List α) (g : α → List UInt8) (t0 : List UInt8) (hg : ∀ y ∈ xs, (g y).length ≤ 100) (hx : xs.length ≤ 100000) (ht : t0.length ≤ 100000000)
    (h1 : ∀ k t y, xs[k]? = some y → t.length ≤ 500000000 → body (enc k t) = some (.inl (enc (k + 1) (t ++ g y)))) (h2 : ∀ t, body (enc xs.length t) = some (.inr t)) : lp body (enc 0 t0) = some (t0 ++ xs.flatMap g) := by
  rw [← foldl_cat g xs t0]
  refine lp_inv enc xs (fun k t => t.length ≤ 100000000 + 100 * k) (fun t y => t ++ g y) id (fun k t y hy hI => ?_) (fun t _ => h2 t) t0 (by omega)
  have hk := get_lt hy
  have := hg y (List.mem_of_getElem? hy)
  exact ⟨h1 k t y hy (by omega), by rw [List.length_append]; omega⟩
/-! ### Lines -/
def wd (w : List UInt8) (ns : List Int) : List UInt8 := w ++ ns.flatMap fun n => 32 :: itoa n
def small (n : Int) : Prop := -9999 ≤ n ∧ n ≤ 9999
theorem itoa_len5 {n : Int} (h : small n) : (itoa n).length ≤ 5 := itoa_len h.1 h.2
theorem f53_eq (w : List UInt8) (ns : List Int) (hw : w.length ≤ 100) (hl : ns.length ≤ 10) (h : ∀ n ∈ ns, small n) : f53 w ns = some (wd w ns ++ [10]) := by
  unfold f53
  have h1 : lp (f53_b0 ns) (w, 0) = some (wd w ns) := by
    refine lp_cat (fun k t => (t, (k : Int))) ns (fun n => 32 :: itoa n) w (fun n hn => ?_) (by omega) (by omega) (fun k t y hy ht => ?_) (fun t => ?_)
    · have := itoa_len5 (h n hn); simp only [List.length_cons]; omega
    · have hk := get_lt hy
      have hs := h y (List.mem_of_getElem? hy)
      have hl5 := itoa_len5 hs
      obtain ⟨s0, s1⟩ := hs
      unfold f53_b0
      rw [if_pos (by simp; omega)]
      simp only [ix_nat, hy, Option.bind_some, itoaF_ok (show -9223372036854775808 ≤ y by omega) (by omega)]
      rw [catS_ok (by simp only [List.length_cons, List.length_nil]; omega), Option.bind_some, catS_ok (by simp only [List.length_append, List.length_cons, List.length_nil]; omega), Option.bind_some, wrap_nat hk (by omega)]
      rfl
    · unfold f53_b0
      rw [if_neg (by simp)]
  rw [h1, Option.bind_some, catS_ok ?_]
  · rfl
  · have : ∀ (l : List Int), (∀ n ∈ l, small n) → (l.flatMap fun n => 32 :: itoa n).length ≤ 6 * l.length := by
      intro l
      induction l with
      | nil => intro _; simp
      | cons n l ih =>
        intro hh
        have := ih fun m hm => hh m (by simp [hm])
        have := itoa_len5 (hh n (by simp))
        simp only [List.flatMap_cons, List.length_append, List.length_cons]; omega
    have := this ns h
    simp only [wd, List.length_append, List.length_cons, List.length_nil]; omega
theorem wd_len (w : List UInt8) : ∀ (ns : List Int), (∀ n ∈ ns, small n) → (wd w ns).length ≤ w.length + 6 * ns.length
  | [], _ => by simp [wd]
  | n :: l, h => by
    have := wd_len w l fun m hm => h m (by simp [hm])
    have := itoa_len5 (h n (by simp))
    simp only [wd, List.flatMap_cons, List.length_append, List.length_cons] at *
    omega
def kP : List UInt8 := [112, 101, 114, 115, 111, 110]
def kE : List UInt8 := [101, 118, 101, 110, 116]
def kM : List UInt8 := [109, 101, 109, 111, 114, 121]
def kL : List UInt8 := [108, 97, 110, 100]
def pw (n : Int) : List UInt8 := if n = -1 then [45] else itoa n
def pl (p : TLandPerson) : List UInt8 := kP ++ ((32 :: pw p.Mother) ++ (32 :: pw p.Adopted))
def el (e : TLandEvent) : List UInt8 := wd kE [e.Strip, e.Holder]
def ml (m : TLandMemory) : List UInt8 := wd kM [m.From, m.To, m.Years.Low, m.Years.High]
theorem pw_len {n : Int} (h : small n) : (pw n).length ≤ 5 := by
  unfold pw
  split
  · decide
  · exact itoa_len5 h
theorem f54_eq (p : TLandPerson) (h1 : small p.Mother) (h2 : small p.Adopted) : f54 p = some (pl p ++ [10]) := by
  have l1 := pw_len h1
  have l2 := pw_len h2
  obtain ⟨a0, a1⟩ := h1
  obtain ⟨b0, b1⟩ := h2
  unfold f54
  have e : ∀ n : Int, (if (n == -1) = true then some ([45] : List UInt8) else some (itoa n)) = some (pw n) := fun n => by
    unfold pw
    by_cases hn : n = -1 <;> simp [hn]
  rw [itoaF_ok (by omega) (by omega), Option.bind_some, e, Option.bind_some, catS_ok (by simp only [List.length_cons, List.length_nil]; omega), Option.bind_some, catS_ok (by simp only [List.length_append, List.length_cons, List.length_nil]; omega), Option.bind_some,
    itoaF_ok (by omega) (by omega), Option.bind_some, e, Option.bind_some, catS_ok (by simp only [List.length_cons, List.length_nil]; omega), Option.bind_some, catS_ok (by simp only [List.length_append, List.length_cons, List.length_nil]; omega), Option.bind_some, catS_ok (by simp only [List.length_append, List.length_cons, List.length_nil]; omega)]
  simp [pl, kP]
/-! ### The check -/
def stepD (t : Nat × Nat) (c : UInt8) : Nat × Nat := if isDg c = true then (t.1 + (c.toNat - 48) * (1 + t.2 % 9), t.2 + 1) else t
def sumS (s : List UInt8) : Nat := (s.foldl stepD (0, 0)).1
def chk (s : List UInt8) : List UInt8 := decDigits (sumS s % 97 / 10) ++ decDigits (sumS s % 97 % 10)
def ascii (s : List UInt8) : Prop := ∀ c ∈ s, c.toNat < 128
theorem decN_ascii {s : List UInt8} {k : Nat} {y : UInt8} (hs : ascii s) (hy : s[k]? = some y) : decN s k = ((y.toNat : Int), 1) := by
  have hk := get_lt hy
  have hv : s[k] = y := (List.getElem?_eq_some_iff.1 hy).2
  have hb := hs y (List.mem_of_getElem? hy)
  have := decode_ascii (⟨s.toArray⟩ : ByteArray) k hk (by show (s[k]).toNat < 128; rw [hv]; exact hb)
  unfold decN
  rw [this]
  show (((s[k]).toNat : Int), 1) = _
  rw [hv]
theorem isDg_iff (c : UInt8) : isDg c = true ↔ 48 ≤ c.toNat ∧ c.toNat ≤ 57 := by simp [isDg]
theorem stepD_le {k : Nat} {t : Nat × Nat} (c : UInt8) (h : t.1 ≤ 81 * k ∧ t.2 ≤ k) : (stepD t c).1 ≤ 81 * (k + 1) ∧ (stepD t c).2 ≤ k + 1 := by
  unfold stepD
  split
  · rename_i hc
    have := (isDg_iff c).1 hc
    have h9 : (c.toNat - 48) * (1 + t.2 % 9) ≤ 9 * 9 := Nat.mul_le_mul (by omega) (by omega)
    exact ⟨by show t.1 + _ ≤ _; omega, by show t.2 + 1 ≤ _; omega⟩
  · exact ⟨by omega, by omega⟩
theorem step_int {t : Nat × Nat} {c : UInt8} {k : Nat} (hc : isDg c = true) (ht : t.1 ≤ 81 * k ∧ t.2 ≤ k) (hk : k ≤ 10000000) :
    IntKind.i64.wrap ((t.1 : Int) + IntKind.i64.wrap (((c.toNat - 48 : Nat) : Int) * IntKind.i64.wrap (1 + ((t.2 : Int)).tmod 9))) = ((stepD t c).1 : Int) ∧ IntKind.i64.wrap ((t.2 : Int) + 1) = ((stepD t c).2 : Int) := by
  have hd := (isDg_iff c).1 hc
  have e9 : ((t.2 : Int)).tmod 9 = ((t.2 % 9 : Nat) : Int) := by
    rw [Int.tmod_eq_emod_of_nonneg (by omega)]; rfl
  have h9 : (c.toNat - 48) * (1 + t.2 % 9) ≤ 9 * 9 := Nat.mul_le_mul (by omega) (by omega)
  have e1 : (1 : Int) + ((t.2 % 9 : Nat) : Int) = ((1 + t.2 % 9 : Nat) : Int) := by omega
  rw [e9, e1, wrap_id (x := ((1 + t.2 % 9 : Nat) : Int)) (by omega) (by omega), ← Int.natCast_mul, wrap_id (x := (((c.toNat - 48) * (1 + t.2 % 9) : Nat) : Int)) (by omega) (by omega), ← Int.natCast_add, wrap_id (by omega) (by omega)]
  unfold stepD
  rw [if_pos hc]
  refine ⟨rfl, ?_⟩
  rw [wrap_id (by omega) (by omega)]
  rfl
theorem f56_eq (s : List UInt8) (hs : ascii s) (hl : s.length ≤ 10000000) : f56 s = some (chk s) := by
  unfold f56
  have h1 : lp (f56_b0 s) (0, 0, 0) = some ((sumS s : Int), s.length) := by
    refine lp_inv (fun k (t : Nat × Nat) => ((t.1 : Int), (t.2 : Int), k)) s (fun k t => t.1 ≤ 81 * k ∧ t.2 ≤ k) stepD (fun t => ((t.1 : Int), s.length)) (fun k t y hy hI => ⟨?_, stepD_le y hI⟩) (fun t _ => ?_) (0, 0) (by simp)
    · have hk := get_lt hy
      unfold f56_b0
      rw [if_pos (by simpa using hk)]
      simp only [decN_ascii hs hy]
      by_cases hc : isDg y = true
      · have hd := (isDg_iff y).1 hc
        obtain ⟨e1, e2⟩ := step_int hc hI (k := k) (by omega)
        have ec : (y.toNat : Int) - 48 = ((y.toNat - 48 : Nat) : Int) := by omega
        have ew : IntKind.i64.wrap (IntKind.i32.wrap ((y.toNat : Int) - 48)) = ((y.toNat - 48 : Nat) : Int) := by
          rw [IntKind.wrap_i32, ec, wrap_id] <;> omega
        rw [if_pos (by simp; omega), Option.bind_some, if_pos (by simp; omega), ew, e1, e2]
      · have e : stepD t y = t := by unfold stepD; rw [if_neg hc]
        rw [e]
        have hd : ¬ (48 ≤ y.toNat ∧ y.toNat ≤ 57) := fun h => hc ((isDg_iff y).2 h)
        by_cases h48 : 48 ≤ y.toNat
        · rw [if_pos (by simp; omega), Option.bind_some, if_neg (by simp; omega)]
        · rw [if_neg (by simp; omega), Option.bind_some, if_neg (by simp)]
    · unfold f56_b0
      rw [if_neg (by simp)]
  rw [h1, Option.bind_some]
  have hm : sumS s % 97 < 97 := Nat.mod_lt _ (by decide)
  have m1 : ((sumS s : Int)).tmod 97 = ((sumS s % 97 : Nat) : Int) := by rw [Int.tmod_eq_emod_of_nonneg (by omega)]; rfl
  have m2 : (((sumS s % 97 : Nat) : Int)).tdiv 10 = ((sumS s % 97 / 10 : Nat) : Int) := by rw [Int.tdiv_eq_ediv_of_nonneg (by omega)]; rfl
  have m3 : (((sumS s % 97 : Nat) : Int)).tmod 10 = ((sumS s % 97 % 10 : Nat) : Int) := by rw [Int.tmod_eq_emod_of_nonneg (by omega)]; rfl
  show (itoaF (IntKind.i64.wrap (((sumS s : Int).tmod 97).tdiv 10))).bind _ = _
  rw [m1, m2, wrap_id (by omega) (by omega), itoaF_ok (by omega) (by omega), Option.bind_some, itoaF_ok (by rw [m3]; omega) (by rw [m3]; omega), Option.bind_some, m3, itoa_nat, itoa_nat, decDigits_one (show sumS s % 97 / 10 < 10 by omega), decDigits_one (show sumS s % 97 % 10 < 10 by omega), catS_ok (by simp)]
  simp only [Option.bind_some, chk]
  rw [decDigits_one (show sumS s % 97 / 10 < 10 by omega), decDigits_one (show sumS s % 97 % 10 < 10 by omega)]
theorem chk_len (s : List UInt8) : (chk s).length = 2 := by
  have hm : sumS s % 97 < 97 := Nat.mod_lt _ (by decide)
  unfold chk
  rw [decDigits_one (show sumS s % 97 / 10 < 10 by omega), decDigits_one (show sumS s % 97 % 10 < 10 by omega)]
  rfl
/-! ### The text -/
structure Sm (b : TLandBook) : Prop where
  p : ∀ x ∈ b.People, small x.Mother ∧ small x.Adopted
  e : ∀ x ∈ b.Events, small x.Strip ∧ small x.Holder
  m : ∀ x ∈ b.Memories, small x.From ∧ small x.To ∧ small x.Years.Low ∧ small x.Years.High
  lp : b.People.length ≤ 9999
  le : b.Events.length ≤ 9999
  lm : b.Memories.length ≤ 9999
def headL (b : TLandBook) : List UInt8 := wd kL [(b.People.length : Int), (b.Events.length : Int), (b.Memories.length : Int)]
def linesT (b : TLandBook) : List (List UInt8) := headL b :: (b.People.map pl ++ (b.Events.map el ++ b.Memories.map ml))
def bodyT (b : TLandBook) : List UInt8 := unl (linesT b)
def endT (b : TLandBook) : List UInt8 := [101, 110, 100, 32] ++ chk (bodyT b)
def textT (b : TLandBook) : List UInt8 := bodyT b ++ endT b ++ [10]
/-- The bytes of a line. -/
def isLb (c : UInt8) : Bool := decide (c.toNat < 128) && !(c == 10)
theorem nb_lb {c : UInt8} (h : isNb c = true) : isLb c = true := by
  unfold isNb at h
  rcases Bool.or_eq_true_iff.1 h with h | h
  · have := (isDg_iff c).1 h
    have hn : ¬ c = 10 := fun e => by subst e; simp at this
    simp [isLb, hn]; omega
  · have : c = 45 := by simpa using h
    subst this; rfl
def allLb (s : List UInt8) : Prop := ∀ c ∈ s, isLb c = true
theorem allLb_append {a b : List UInt8} (ha : allLb a) (hb : allLb b) : allLb (a ++ b) := fun c hc => (List.mem_append.1 hc).elim (ha c) (hb c)
theorem allLb_cons {x : UInt8} {b : List UInt8} (ha : isLb x = true) (hb : allLb b) : allLb (x :: b) := fun c hc => (List.mem_cons.1 hc).elim (fun e => e ▸ ha) (hb c)
theorem itoa_lb (n : Int) : allLb (itoa n) := fun c hc => nb_lb (itoa_nb n c hc)
theorem wd_lb {w : List UInt8} (hw : allLb w) (ns : List Int) : allLb (wd w ns) := by
  refine allLb_append hw fun c hc => ?_
  obtain ⟨n, _, h⟩ := List.mem_flatMap.1 hc
  exact allLb_cons rfl (itoa_lb n) c h
theorem lits_lb {w : List UInt8} (h : w.all isLb = true) : allLb w := fun c hc => List.all_eq_true.1 h c hc
theorem pw_lb (n : Int) : allLb (pw n) := by
  unfold pw
  split
  · exact lits_lb rfl
  · exact itoa_lb n
theorem pl_lb (p : TLandPerson) : allLb (pl p) := allLb_append (lits_lb rfl) (allLb_append (allLb_cons rfl (pw_lb _)) (allLb_cons rfl (pw_lb _)))
theorem el_lb (e : TLandEvent) : allLb (el e) := wd_lb (lits_lb rfl) _
theorem ml_lb (m : TLandMemory) : allLb (ml m) := wd_lb (lits_lb rfl) _
theorem headL_lb (b : TLandBook) : allLb (headL b) := wd_lb (lits_lb rfl) _
theorem linesT_lb (b : TLandBook) : ∀ l ∈ linesT b, allLb l := by
  intro l hl
  rcases List.mem_cons.1 hl with rfl | hl
  · exact headL_lb b
  · rcases List.mem_append.1 hl with hl | hl
    · obtain ⟨x, _, rfl⟩ := List.mem_map.1 hl; exact pl_lb x
    · rcases List.mem_append.1 hl with hl | hl
      · obtain ⟨x, _, rfl⟩ := List.mem_map.1 hl; exact el_lb x
      · obtain ⟨x, _, rfl⟩ := List.mem_map.1 hl; exact ml_lb x
theorem lb_free {s : List UInt8} (h : allLb s) : (10 : UInt8) ∉ s := fun hc => by have := h _ hc; simp [isLb] at this
theorem lb_ascii {s : List UInt8} (h : allLb s) : ascii s := fun c hc => by have := h c hc; simp [isLb] at this; exact this.1
theorem body_ascii (b : TLandBook) : ascii (bodyT b) := by
  intro c hc
  obtain ⟨l, hl, h⟩ := List.mem_flatMap.1 hc
  rcases List.mem_append.1 h with h | h
  · exact lb_ascii (linesT_lb b l hl) c h
  · simp at h; subst h; decide
theorem dec_lb (u : Nat) : allLb (decDigits u) := fun c hc => nb_lb (by simp [isNb, dec_dig u c hc])
theorem chk_lb (s : List UInt8) : allLb (chk s) := allLb_append (dec_lb _) (dec_lb _)
theorem endT_lb (b : TLandBook) : allLb (endT b) := allLb_append (lits_lb rfl) (chk_lb _)
theorem unl_len (C : Nat) : ∀ (ls : List (List UInt8)), (∀ l ∈ ls, l.length ≤ C) → (unl ls).length ≤ (C + 1) * ls.length
  | [], _ => by simp [unl]
  | l :: ls, h => by
    have h1 := unl_len C ls fun x hx => h x (by simp [hx])
    have h2 := h l (by simp)
    have e : unl (l :: ls) = l ++ [10] ++ unl ls := by simp [unl]
    rw [e]
    simp only [List.length_append, List.length_cons, List.length_nil, Nat.mul_add]
    omega
theorem pl_len {p : TLandPerson} (h1 : small p.Mother) (h2 : small p.Adopted) : (pl p).length ≤ 18 := by
  have := pw_len h1; have := pw_len h2
  simp only [pl, kP, List.length_append, List.length_cons, List.length_nil]; omega
theorem el_len {e : TLandEvent} (h1 : small e.Strip) (h2 : small e.Holder) : (el e).length ≤ 30 := by
  have := wd_len kE [e.Strip, e.Holder] (by simp [h1, h2])
  simp only [kE, List.length_cons, List.length_nil] at this
  unfold el; unfold kE; omega
theorem ml_len {m : TLandMemory} (h : small m.From ∧ small m.To ∧ small m.Years.Low ∧ small m.Years.High) : (ml m).length ≤ 30 := by
  have := wd_len kM [m.From, m.To, m.Years.Low, m.Years.High] (by simp [h])
  simp only [kM, List.length_cons, List.length_nil] at this
  unfold ml; unfold kM; omega
theorem headL_len {b : TLandBook} (h : Sm b) : (headL b).length ≤ 30 := by
  have := wd_len kL [(b.People.length : Int), (b.Events.length : Int), (b.Memories.length : Int)] (by
    have := h.lp; have := h.le; have := h.lm
    intro n hn
    simp only [List.mem_cons, List.not_mem_nil, or_false] at hn
    rcases hn with rfl | rfl | rfl <;> exact ⟨by omega, by omega⟩)
  simp only [kL, List.length_cons, List.length_nil] at this
  unfold headL; unfold kL; omega
theorem linesT_len {b : TLandBook} (h : Sm b) : ∀ l ∈ linesT b, l.length ≤ 30 := by
  intro l hl
  rcases List.mem_cons.1 hl with rfl | hl
  · exact headL_len h
  · rcases List.mem_append.1 hl with hl | hl
    · obtain ⟨x, hx, rfl⟩ := List.mem_map.1 hl; have := h.p x hx; have := pl_len this.1 this.2; omega
    · rcases List.mem_append.1 hl with hl | hl
      · obtain ⟨x, hx, rfl⟩ := List.mem_map.1 hl; have := h.e x hx; exact el_len this.1 this.2
      · obtain ⟨x, hx, rfl⟩ := List.mem_map.1 hl; exact ml_len (h.m x hx)
theorem body_len {b : TLandBook} (h : Sm b) : (bodyT b).length ≤ 31 * (b.People.length + b.Events.length + b.Memories.length + 1) := by
  have := unl_len 30 (linesT b) (linesT_len h)
  have e : (linesT b).length = b.People.length + b.Events.length + b.Memories.length + 1 := by simp [linesT]; omega
  rw [e] at this
  exact this
theorem unl_map {α : Type} (g : α → List UInt8) (xs : List α) : unl (xs.map g) = xs.flatMap fun x => g x ++ [10] := by
  induction xs with
  | nil => rfl
  | cons x xs ih => unfold unl at *; simp [ih]
theorem bodyT_eq (b : TLandBook) : bodyT b = headL b ++ [10] ++ (b.People.flatMap fun x => pl x ++ [10]) ++ (b.Events.flatMap fun x => el x ++ [10]) ++ (b.Memories.flatMap fun x => ml x ++ [10]) := by
  unfold bodyT linesT
  have e : ∀ (l : List UInt8) ls, unl (l :: ls) = l ++ [10] ++ unl ls := fun l ls => by simp [unl]
  rw [e, unl_append, unl_append, unl_map, unl_map, unl_map]
  simp
theorem f23_eq {b : TLandBook} (h : Sm b) : f23 b = some (textT b) := by
  have hp := h.lp; have he := h.le; have hm := h.lm
  have hb := body_len h
  unfold f23
  have e0 : f53 ([108, 97, 110, 100] : List UInt8) [(b.People.length : Int), (b.Events.length : Int), (b.Memories.length : Int)] = some (headL b ++ [10]) := f53_eq _ _ (by decide) (by simp) (by
    intro n hn
    simp only [List.mem_cons, List.not_mem_nil, or_false] at hn
    rcases hn with rfl | rfl | rfl <;> exact ⟨by omega, by omega⟩)
  have hh := headL_len h
  have h1 : lp (f23_b0 b) (0, headL b ++ [10]) = some (headL b ++ [10] ++ b.People.flatMap fun x => pl x ++ [10]) := by
    refine lp_cat (fun k t => ((k : Int), t)) b.People (fun x => pl x ++ [10]) _ (fun x hx => ?_) (by omega) (by simp; omega) (fun k t y hy ht => ?_) (fun t => ?_)
    · have := h.p x hx; have := pl_len this.1 this.2; simp; omega
    · have hk := get_lt hy
      have hs := h.p y (List.mem_of_getElem? hy)
      have hl := pl_len hs.1 hs.2
      unfold f23_b0
      rw [if_pos (by simp; omega)]
      simp only [ix_nat, hy, Option.bind_some, f54_eq y hs.1 hs.2]
      rw [catS_ok (by simp; omega), Option.bind_some, wrap_nat hk (by omega)]
    · unfold f23_b0; rw [if_neg (by simp)]
  have l1 : (headL b ++ [10] ++ b.People.flatMap fun x => pl x ++ [10]).length ≤ 100000000 := by
    rw [bodyT_eq] at hb
    simp only [List.length_append] at hb ⊢
    omega
  have h2 : lp (f23_b1 b) (0, headL b ++ [10] ++ b.People.flatMap fun x => pl x ++ [10]) = some (headL b ++ [10] ++ (b.People.flatMap fun x => pl x ++ [10]) ++ b.Events.flatMap fun x => el x ++ [10]) := by
    refine lp_cat (fun k t => ((k : Int), t)) b.Events (fun x => el x ++ [10]) _ (fun x hx => ?_) (by omega) l1 (fun k t y hy ht => ?_) (fun t => ?_)
    · have := h.e x hx; have := el_len this.1 this.2; simp; omega
    · have hk := get_lt hy
      have hs := h.e y (List.mem_of_getElem? hy)
      have hl := el_len hs.1 hs.2
      have ef : f53 ([101, 118, 101, 110, 116] : List UInt8) [y.Strip, y.Holder] = some (el y ++ [10]) := f53_eq _ _ (by decide) (by simp) (by simp [hs])
      unfold f23_b1
      rw [if_pos (by simp; omega)]
      simp only [ix_nat, hy, Option.bind_some, ef]
      rw [catS_ok (by simp; omega), Option.bind_some, wrap_nat hk (by omega)]
    · unfold f23_b1; rw [if_neg (by simp)]
  have l2 : (headL b ++ [10] ++ (b.People.flatMap fun x => pl x ++ [10]) ++ b.Events.flatMap fun x => el x ++ [10]).length ≤ 100000000 := by
    rw [bodyT_eq] at hb
    simp only [List.length_append] at hb ⊢
    omega
  have h3 : lp (f23_b2 b) (0, headL b ++ [10] ++ (b.People.flatMap fun x => pl x ++ [10]) ++ b.Events.flatMap fun x => el x ++ [10]) = some (bodyT b) := by
    rw [bodyT_eq]
    refine lp_cat (fun k t => ((k : Int), t)) b.Memories (fun x => ml x ++ [10]) _ (fun x hx => ?_) (by omega) l2 (fun k t y hy ht => ?_) (fun t => ?_)
    · have := ml_len (h.m x hx); simp; omega
    · have hk := get_lt hy
      have hs := h.m y (List.mem_of_getElem? hy)
      have hl := ml_len hs
      have ef : f53 ([109, 101, 109, 111, 114, 121] : List UInt8) [y.From, y.To, y.Years.Low, y.Years.High] = some (ml y ++ [10]) := f53_eq _ _ (by decide) (by simp) (by simp [hs])
      unfold f23_b2
      rw [if_pos (by simp; omega)]
      simp only [ix_nat, hy, Option.bind_some, ef]
      rw [catS_ok (by simp; omega), Option.bind_some, wrap_nat hk (by omega)]
    · unfold f23_b2; rw [if_neg (by simp)]
  have hne : neS (bodyT b) = some () := by
    unfold neS
    rw [if_neg]
    rw [bodyT_eq]
    simp [headL, wd, kL]
  rw [e0, Option.bind_some, catS_ok (by simp; omega), Option.bind_some, List.nil_append, h1, Option.bind_some, h2, Option.bind_some, h3, Option.bind_some, hne, Option.bind_some, catS_ok (by simp; omega), Option.bind_some,
    f56_eq _ (body_ascii b) (by omega), Option.bind_some, catS_ok (by have := chk_len (bodyT b); simp; omega), Option.bind_some, catS_ok (by have := chk_len (bodyT b); simp; omega)]
  simp [textT, endT]
end Go.Proofs.YtcaflmilfhhikaaGreatDoor
