/-
  Ship's passes: what is as defined, the program's way and the document's; when a ship can go through.
-/
import Derived.Test.YtoklmemeanmfdaaGreatPl
import Derived.Test.YtoklmemeanmfdaaGreatFn
namespace Go.Proofs.YtoklmemeanmfdaaGreat.Sp
open Go.RowKit
set_option linter.unusedSimpArgs false

def inR (x a b : Int) : Bool := decide (a ≤ x) && decide (x ≤ b)
theorem inR_iff {x a b : Int} : inR x a b = true ↔ a ≤ x ∧ x ≤ b := by simp [inR]
theorem f28_eq (x a b : Int) : f28 x a b = some (inR x a b) := by
  unfold f28 inR
  by_cases h : a ≤ x <;> simp [h]
theorem f14_eq (x a b : Int) : f14 x a b = some (inR x a b) := f28_eq x a b
def spanR (s : TSpan) (a b : Int) : Bool := decide (a ≤ s.Low) && (decide (s.Low ≤ s.High) && decide (s.High ≤ b))
theorem spanR_iff {s : TSpan} {a b : Int} : spanR s a b = true ↔ a ≤ s.Low ∧ s.Low ≤ s.High ∧ s.High ≤ b := by simp [spanR]
theorem f27_eq (s : TSpan) (a b : Int) : f27 s a b = some (spanR s a b) := by
  unfold f27 spanR
  by_cases h : a ≤ s.Low <;> by_cases h' : s.Low ≤ s.High <;> simp [h, h']
theorem f15_eq (s : TSpan) (a b : Int) : f15 s a b = some (spanR s a b) := f27_eq s a b
/-- 'slices.ContainsFunc'. -/
theorem find_lp {α : Type} {body : Int → Option (Int ⊕ (Unit ⊕ Int))} (xs : List α) (p : α → Bool) (hl : xs.length ≤ 1073741824)
    (h1 : ∀ (k : Nat) (y : α), xs[k]? = some y → body (k : Int) = some (if p y = true then .inr (.inr (k : Int)) else .inl (IntKind.i64.wrap ((k : Int) + 1)))) (h2 : body (xs.length : Int) = some (.inr (.inl ()))) :
    ∃ r : Unit ⊕ Int, lp body 0 = some r ∧ (match r with | .inl _ => xs.any p = false | .inr i => xs.any p = true ∧ 0 ≤ i) := by
  have h : lp body ((0 : Nat) : Int) = goL (fun k y (_ : Unit) => some (if p y = true then .inr (.inr (k : Int)) else .inl ())) (fun _ => .inl ()) 0 xs () := by
    refine lp_goL (fun k _ => (k : Int)) xs _ _ ?_ ?_ ()
    · intro k t y hy
      rw [h1 k y hy, wrap_nat (get_lt hy) hl]
      by_cases h : p y = true <;> simp [h]
    · intro t; exact h2
  have h3 : ∀ (ys : List α) (k : Nat), ∃ r : Unit ⊕ Int, goL (fun k y (_ : Unit) => some (if p y = true then .inr (.inr (k : Int)) else .inl ())) (fun _ => .inl ()) k ys () = some r ∧ (match r with | .inl _ => ys.any p = false | .inr i => ys.any p = true ∧ 0 ≤ i) := by
    intro ys
    induction ys with
    | nil => intro k; exact ⟨_, rfl, rfl⟩
    | cons y ys ih =>
      intro k
      by_cases hy : p y = true
      · exact ⟨.inr k, by simp only [goL, hy, if_true], by simp [hy]⟩
      · obtain ⟨r, q1, q2⟩ := ih (k + 1)
        refine ⟨r, by simp only [goL, hy]; exact q1, ?_⟩
        have e : (y :: ys).any p = ys.any p := by simp [hy]
        rw [e]; exact q2
  obtain ⟨r, q1, q2⟩ := h3 xs 0
  exact ⟨r, h.trans q1, q2⟩
theorem f34_eq (xs : List Int) (p : Int → Bool) (hl : xs.length ≤ 1073741824) : f34 xs (fun z => some (p z)) = some (xs.any p) := by
  obtain ⟨r, h1, h2⟩ := find_lp (body := f68_b0 xs fun z => some (p z)) xs p hl (fun k y hy => by
    unfold f68_b0
    rw [if_pos (by simpa using get_lt hy), ix_nat, hy]
    by_cases h : p y = true <;> simp [h]) (by unfold f68_b0; simp)
  unfold f34 f68
  rw [h1]
  cases r with
  | inl _ => simp only [Option.bind_some, Sum.elim_inl, h2]; rfl
  | inr i => simp only [Option.bind_some, Sum.elim_inr, h2.1]; simp [h2.2]
theorem f59_eq (xs : List TSpan) (p : TSpan → Bool) (hl : xs.length ≤ 1073741824) : f59 xs (fun z => some (p z)) = some (xs.any p) := by
  obtain ⟨r, h1, h2⟩ := find_lp (body := f101_b0 xs fun z => some (p z)) xs p hl (fun k y hy => by
    unfold f101_b0
    rw [if_pos (by simpa using get_lt hy), ix_nat, hy]
    by_cases h : p y = true <;> simp [h]) (by unfold f101_b0; simp)
  unfold f59 f101
  rw [h1]
  cases r with
  | inl _ => simp only [Option.bind_some, Sum.elim_inl, h2]; rfl
  | inr i => simp only [Option.bind_some, Sum.elim_inr, h2.1]; simp [h2.2]
theorem any_not {α : Type} (l : List α) (p : α → Bool) : (l.any fun x => !p x) = !l.all p := by
  induction l with
  | nil => rfl
  | cons a l ih => simp only [List.any_cons, List.all_cons, ih]; cases p a <;> simp
/-- A loop that goes on as long as all is well. -/
theorem all_lp {α ρ : Type} {body : Int → Option (Int ⊕ ρ)} (xs : List α) (p : α → Bool) (b r : ρ) (hl : xs.length ≤ 1073741824)
    (h1 : ∀ (k : Nat) (y : α), xs[k]? = some y → body (k : Int) = some (if p y = true then .inl (IntKind.i64.wrap ((k : Int) + 1)) else .inr b)) (h2 : body (xs.length : Int) = some (.inr r)) : lp body 0 = some (if xs.all p = true then r else b) := by
  have h := lp_all xs (fun _ => p) b r (fun k => (k : Int)) (fun k y hy => by rw [h1 k y hy, wrap_nat (get_lt hy) hl]) h2
  have e : allI (fun _ => p) 0 xs = xs.all p := by
    have : ∀ (l : List α) (k : Nat), allI (fun _ => p) k l = l.all p := by
      intro l
      induction l with
      | nil => intro k; rfl
      | cons a l ih => intro k; simp [allI, ih]
    exact this _ _
  rw [e] at h
  exact h
def swellOk (s : TSpan) : Bool := spanR s 0 1000
def passOk (p : TShipPass) : Bool := p.Tides.all (fun t => inR t (-1000) 1000) && (p.Swell.all swellOk && (inR (p.Tides.length : Int) 1 50 && (inR p.Depth 0 1000 && (inR p.Draft 0 1000 && (inR (p.Swell.length : Int) 1 60 && spanR p.Light 0 23)))))
abbrev passShort (p : TShipPass) : Prop := p.Tides.length ≤ 60 ∧ p.Swell.length ≤ 70
theorem f26_eq (p : TShipPass) (hs : passShort p) : f26 p = some (passOk p) := by
  unfold f26
  have e1 : (fun (z0 : Int) => f58 z0) = fun z => some (!inR z (-1000) 1000) := by
    funext z; unfold f58; rw [f28_eq]; rfl
  have e2 : (fun (z0 : TSpan) => f60 z0) = fun z => some (!swellOk z) := by
    funext z; unfold f60; rw [f27_eq]; rfl
  rw [e1, e2, f34_eq _ _ (by have := hs.1; omega), f59_eq _ _ (by have := hs.2; omega), any_not, any_not]
  simp only [f28_eq, f27_eq, Option.bind_some]
  unfold passOk
  cases p.Tides.all (fun t => inR t (-1000) 1000) <;> cases p.Swell.all swellOk <;> cases inR (p.Tides.length : Int) 1 50 <;> cases inR p.Depth 0 1000 <;> cases inR p.Draft 0 1000 <;> cases inR (p.Swell.length : Int) 1 60 <;> cases spanR p.Light 0 23 <;> rfl
theorem f4_eq (p : TShipPass) (hs : passShort p) : f4 p = some (passOk p) := by
  unfold f4
  have h1 : lp (f4_b0 p) 0 = some (if p.Tides.all (fun t => inR t (-1000) 1000) = true then .inl () else .inr false) := by
    refine all_lp p.Tides _ _ _ (by have := hs.1; omega) (fun k y hy => ?_) (by unfold f4_b0; simp)
    unfold f4_b0
    rw [if_pos (by simpa using get_lt hy), ix_nat, hy]
    simp only [Option.bind_some, f14_eq]
    cases inR y (-1000) 1000 <;> simp
  have h2 : lp (f4_b1 p) 0 = some (if p.Swell.all swellOk = true then .inl () else .inr false) := by
    refine all_lp p.Swell _ _ _ (by have := hs.2; omega) (fun k y hy => ?_) (by unfold f4_b1; simp)
    unfold f4_b1
    rw [if_pos (by simpa using get_lt hy), ix_nat, hy]
    simp only [Option.bind_some, f15_eq]
    unfold swellOk
    cases spanR y 0 1000 <;> simp
  rw [h1, h2]
  simp only [f14_eq, f15_eq, Option.bind_some]
  unfold passOk
  cases p.Tides.all (fun t => inR t (-1000) 1000) <;> cases p.Swell.all swellOk <;> cases inR (p.Tides.length : Int) 1 50 <;> cases inR p.Depth 0 1000 <;> cases inR p.Draft 0 1000 <;> cases inR (p.Swell.length : Int) 1 60 <;> cases spanR p.Light 0 23 <;> rfl
structure PassOk (p : TShipPass) : Prop where
  tides : ∀ t ∈ p.Tides, -1000 ≤ t ∧ t ≤ 1000
  swell : ∀ s ∈ p.Swell, 0 ≤ s.Low ∧ s.Low ≤ s.High ∧ s.High ≤ 1000
  nt : 1 ≤ p.Tides.length ∧ p.Tides.length ≤ 50
  depth : 0 ≤ p.Depth ∧ p.Depth ≤ 1000
  draft : 0 ≤ p.Draft ∧ p.Draft ≤ 1000
  ns : 1 ≤ p.Swell.length ∧ p.Swell.length ≤ 60
  light : 0 ≤ p.Light.Low ∧ p.Light.Low ≤ p.Light.High ∧ p.Light.High ≤ 23
theorem passOk_iff {p : TShipPass} (h : passOk p = true) : PassOk p := by
  unfold passOk at h
  simp only [Bool.and_eq_true, List.all_eq_true, inR_iff, spanR_iff, swellOk] at h
  obtain ⟨h1, h2, h3, h4, h5, h6, h7⟩ := h
  exact ⟨h1, h2, by omega, h4, h5, by omega, h7⟩
/-! ### Days and calls -/
def dayOk (p : TShipPass) (d : Int) : Bool := decide (0 ≤ d) && decide (d < (p.Swell.length : Int))
theorem dayOk_iff {p : TShipPass} {d : Int} : dayOk p d = true ↔ 0 ≤ d ∧ d < (p.Swell.length : Int) := by simp [dayOk]
theorem wrap_pred {n : Nat} (h : n ≤ 1073741824) : IntKind.i64.wrap ((n : Int) - 1) = (n : Int) - 1 := by rw [wrap_id] <;> omega
theorem inR_pred (d : Int) (n : Nat) : inR d 0 ((n : Int) - 1) = (decide (0 ≤ d) && decide (d < (n : Int))) := by
  unfold inR
  congr 1
  rw [Bool.eq_iff_iff]; simp; omega
def callOk (p : TShipPass) (c : TShipCall) : Bool := dayOk p c.Day && inR c.Hour 0 23
theorem f63_eq (p : TShipPass) (d : Int) (hs : passShort p) : f63 p d = some (dayOk p d) := by
  unfold f63
  rw [wrap_pred (by have := hs.2; omega), f14_eq, inR_pred]; rfl
theorem f31_eq (p : TShipPass) (c : TShipCall) (hs : passShort p) : f31 p c = some (callOk p c) := by
  unfold f31
  rw [f63_eq _ _ hs, f14_eq]
  unfold callOk
  cases dayOk p c.Day <;> rfl
/-! ### When a ship can go through -/
def tideAt (p : TShipPass) (c : TShipCall) : Int := (p.Tides[((c.Day * 24 + c.Hour) % (p.Tides.length : Int)).toNat]?).getD 0
def goes (p : TShipPass) (c : TShipCall) (sw : Int) : Bool := inR c.Hour p.Light.Low p.Light.High && decide (p.Draft ≤ p.Depth + tideAt p c - sw)
theorem tide_ix {p : TShipPass} (hp : PassOk p) {c : TShipCall} (hc : callOk p c = true) :
    remI (IntKind.i64.wrap ((IntKind.i64.wrap (c.Day * 24)) + c.Hour)) (p.Tides.length : Int) = some ((c.Day * 24 + c.Hour) % (p.Tides.length : Int)) ∧ ix p.Tides ((c.Day * 24 + c.Hour) % (p.Tides.length : Int)) = some (tideAt p c) ∧ -1000 ≤ tideAt p c ∧ tideAt p c ≤ 1000 := by
  unfold callOk at hc
  rw [Bool.and_eq_true, dayOk_iff, inR_iff] at hc
  have h1 := hp.nt
  have h2 := hp.ns
  have hlen : (p.Tides.length : Int) ≠ 0 := by omega
  have hm0 := Int.emod_nonneg (c.Day * 24 + c.Hour) hlen
  have hm1 := Int.emod_lt_of_pos (c.Day * 24 + c.Hour) (show (0 : Int) < (p.Tides.length : Int) by omega)
  have hlt : ((c.Day * 24 + c.Hour) % (p.Tides.length : Int)).toNat < p.Tides.length := by omega
  have ht : p.Tides[((c.Day * 24 + c.Hour) % (p.Tides.length : Int)).toNat]? = some (tideAt p c) := by
    unfold tideAt
    rw [List.getElem?_eq_getElem hlt]; rfl
  refine ⟨?_, ?_, hp.tides _ (List.mem_of_getElem? ht)⟩
  · rw [wrap_id (x := c.Day * 24) (by omega) (by omega), wrap_id (by omega) (by omega)]
    unfold remI
    rw [if_neg hlen, Int.tmod_eq_emod_of_nonneg (by omega)]
  · unfold ix
    rw [if_pos hm0]; exact ht
theorem deep_eq {p : TShipPass} (hp : PassOk p) {t sw : Int} (ht : -1000 ≤ t ∧ t ≤ 1000) (hs : 0 ≤ sw ∧ sw ≤ 1000) : IntKind.i64.wrap ((IntKind.i64.wrap (p.Depth + t)) - sw) = p.Depth + t - sw := by
  have := hp.depth
  rw [wrap_id (x := p.Depth + t) (by omega) (by omega), wrap_id (by omega) (by omega)]
theorem f102_eq {p : TShipPass} (hp : PassOk p) {c : TShipCall} (hc : callOk p c = true) {sw : Int} (hs : 0 ≤ sw ∧ sw ≤ 1000) : f102 ⟨p, sw⟩ c = some (goes p c sw) := by
  obtain ⟨h1, h2, h3⟩ := tide_ix hp hc
  unfold f102 f135 f136
  simp only [f28_eq, Option.bind_some, h1, h2, deep_eq hp h3 hs]
  unfold goes
  cases inR c.Hour p.Light.Low p.Light.High <;> cases decide (p.Draft ≤ p.Depth + tideAt p c - sw) <;> rfl
theorem f64_eq {p : TShipPass} (hp : PassOk p) {c : TShipCall} (hc : callOk p c = true) {sw : Int} (hs : 0 ≤ sw ∧ sw ≤ 1000) : f64 p c sw = some (goes p c sw) := by
  obtain ⟨h1, h2, h3⟩ := tide_ix hp hc
  unfold f64
  simp only [f14_eq, Option.bind_some, h1, h2, deep_eq hp h3 hs]
  unfold goes
  cases inR c.Hour p.Light.Low p.Light.High <;> cases decide (p.Draft ≤ p.Depth + tideAt p c - sw) <;> rfl
def swAt (p : TShipPass) (d : Int) : TSpan := (p.Swell[d.toNat]?).getD ⟨0, 0⟩
theorem sw_ix {p : TShipPass} (hp : PassOk p) {d : Int} (hd : dayOk p d = true) : ix p.Swell d = some (swAt p d) ∧ 0 ≤ (swAt p d).Low ∧ (swAt p d).Low ≤ (swAt p d).High ∧ (swAt p d).High ≤ 1000 := by
  rw [dayOk_iff] at hd
  have hlt : d.toNat < p.Swell.length := by omega
  have ht : p.Swell[d.toNat]? = some (swAt p d) := by
    unfold swAt
    rw [List.getElem?_eq_getElem hlt]; rfl
  refine ⟨?_, hp.swell _ (List.mem_of_getElem? ht)⟩
  unfold ix
  rw [if_pos hd.1]; exact ht
def sureC (p : TShipPass) (c : TShipCall) : Bool := goes p c (swAt p c.Day).High
theorem callOk_day {p : TShipPass} {c : TShipCall} (h : callOk p c = true) : dayOk p c.Day = true := by
  unfold callOk at h
  rw [Bool.and_eq_true] at h; exact h.1
theorem f62_eq {p : TShipPass} (hp : PassOk p) {c : TShipCall} (hc : callOk p c = true) : f62 p c = some (sureC p c) := by
  obtain ⟨h1, h2⟩ := sw_ix hp (callOk_day hc)
  unfold f62
  simp only [h1, Option.bind_some, f102_eq hp hc (sw := (swAt p c.Day).High) (by omega)]; rfl
theorem f32_eq {p : TShipPass} (hp : PassOk p) {c : TShipCall} (hc : callOk p c = true) : f32 p c = some (sureC p c) := by
  obtain ⟨h1, h2⟩ := sw_ix hp (callOk_day hc)
  unfold f32
  simp only [h1, Option.bind_some, f64_eq hp hc (sw := (swAt p c.Day).High) (by omega)]; rfl
end Go.Proofs.YtoklmemeanmfdaaGreat.Sp
/-
  Ship's passes: hours, the first call from some hour on.
-/
namespace Go.Proofs.YtoklmemeanmfdaaGreat.Sp
open Go.RowKit
set_option linter.unusedSimpArgs false

theorem app_short {α : Type} (xs ys : List α) (h : xs.length + ys.length ≤ 1073741824) : app xs ys = some (xs ++ ys) := by simp [app, h]
/-- The hours of a day, of the first n, in which a ship can go through. -/
def hoursTo (p : TShipPass) (d sw : Int) (n : Nat) : List Int := ((List.range n).filter fun h => goes p ⟨d, (h : Nat)⟩ sw).map fun (h : Nat) => (h : Int)
abbrev hoursL (p : TShipPass) (d sw : Int) : List Int := hoursTo p d sw 24
/-! ### Lists -/
/-! ### All calls, by their numbers -/
def cAt (i : Nat) : TShipCall := ⟨((i / 24 : Nat) : Int), ((i % 24 : Nat) : Int)⟩
def pos (c : TShipCall) : Nat := c.Day.toNat * 24 + c.Hour.toNat
theorem cAt_pos {p : TShipPass} {c : TShipCall} (h : callOk p c = true) : cAt (pos c) = c ∧ pos c < 24 * p.Swell.length := by
  unfold callOk at h
  rw [Bool.and_eq_true, dayOk_iff, inR_iff] at h
  obtain ⟨d, hr⟩ := c
  simp only at h
  unfold cAt pos
  simp only
  refine ⟨?_, by omega⟩
  congr 1 <;> omega
theorem callOk_at {p : TShipPass} {i : Nat} (h : i < 24 * p.Swell.length) : callOk p (cAt i) = true := by
  unfold callOk cAt
  rw [Bool.and_eq_true, dayOk_iff, inR_iff]
  simp only
  omega
theorem next_at {i : Nat} (h : i < 1073741824) : nextC (cAt i) = cAt (i + 1) := by
  unfold nextC cAt
  simp only
  rw [wrap_id (x := ((i % 24 : Nat) : Int) + 1) (by omega) (by omega), wrap_id (x := ((i / 24 : Nat) : Int) + 1) (by omega) (by omega)]
  by_cases h24 : i % 24 = 23
  · have e : (((i % 24 : Nat) : Int) + 1 == 24) = true := by rw [beq_iff_eq]; omega
    rw [if_pos e]
    congr 1 <;> omega
  · have e : ¬ (((i % 24 : Nat) : Int) + 1 == 24) = true := by rw [beq_iff_eq]; omega
    rw [if_neg e]
    congr 1 <;> omega
/-- The calls from number i on in which a ship surely can go through. -/
def sureFrom (p : TShipPass) (i : Nat) : List TShipCall := ((List.range' i (24 * p.Swell.length - i)).map cAt).filter (sureC p)
theorem callsF_eq {p : TShipPass} (hp : PassOk p) : ∀ (m i k : Nat), i + m = 24 * p.Swell.length → m < k → callsF (f62 p) p.Swell.length k (cAt i) = some (((List.range' i m).map cAt).filter (sureC p))
  | _, _, 0, _, h => by omega
  | 0, i, k + 1, hi, _ => by
    unfold callsF
    have : ¬ (cAt i).Day < (p.Swell.length : Int) := by unfold cAt; simp only; omega
    rw [if_neg this]; rfl
  | m + 1, i, k + 1, hi, hk => by
    unfold callsF
    have h1 : (cAt i).Day < (p.Swell.length : Int) := by unfold cAt; simp only; omega
    have h2 := hp.ns
    rw [if_pos h1, f62_eq hp (callOk_at (by omega)), next_at (by omega), Option.bind_some, callsF_eq hp m (i + 1) k (by omega) (by omega), List.range'_succ, List.map_cons, List.filter_cons]
    rfl
theorem callsL_eq {p : TShipPass} (hp : PassOk p) {c : TShipCall} (hc : callOk p c = true) : callsL (f62 p) p.Swell.length c = some (sureFrom p (pos c)) := by
  obtain ⟨h1, h2⟩ := cAt_pos hc
  unfold callsL
  have := callsF_eq hp (24 * p.Swell.length - pos c) (pos c) (24 * p.Swell.length + 1) (by omega) (by omega)
  rw [h1] at this
  exact this
/-- The first call from some call on. -/
def firstC (p : TShipPass) (c : TShipCall) : Option TShipCall := (sureFrom p (pos c)).head?
/-! ### The document's way -/
end Go.Proofs.YtoklmemeanmfdaaGreat.Sp
/-
  Ship's hours.
-/
namespace Go.Proofs.YtoklmemeanmfdaaGreat.Sp
open Go.RowKit
set_option linter.unusedSimpArgs false

/-! ### What is open -/
theorem pos_cAt (i : Nat) : pos (cAt i) = i := by unfold pos cAt; simp only; omega
theorem firstC_none {p : TShipPass} {f : TShipCall} (h : firstC p f = none) {c : TShipCall} (hc : callOk p c = true) (hf : pos f ≤ pos c) : sureC p c = false := by
  unfold firstC sureFrom at h
  rw [List.head?_filter, List.find?_eq_none] at h
  obtain ⟨h1, h2⟩ := cAt_pos hc
  have := h c (List.mem_map.2 ⟨pos c, List.mem_range'_1.2 ⟨hf, by omega⟩, h1⟩)
  simpa using this
theorem firstC_some {p : TShipPass} {f n : TShipCall} (h : firstC p f = some n) : callOk p n = true ∧ pos f ≤ pos n ∧ sureC p n = true ∧ ∀ c, callOk p c = true → pos f ≤ pos c → pos c < pos n → sureC p c = false := by
  unfold firstC sureFrom at h
  rw [List.head?_filter, List.find?_eq_some_iff_getElem] at h
  obtain ⟨h1, i, hi, h2, h3⟩ := h
  rw [List.length_map, List.length_range'] at hi
  rw [List.getElem_map, List.getElem_range'] at h2
  rw [← h2, pos_cAt]
  refine ⟨callOk_at (by omega), by omega, by rw [h2]; exact h1, fun c hc hf hn => ?_⟩
  obtain ⟨q1, q2⟩ := cAt_pos hc
  have h4 := h3 (pos c - pos f) (by omega)
  rw [List.getElem_map, List.getElem_range', show pos f + 1 * (pos c - pos f) = pos c by omega, q1] at h4
  simpa using h4
end Go.Proofs.YtoklmemeanmfdaaGreat.Sp
/-
  Ship's stores, loads and truths: what is as defined, the program's way and the document's.
-/
namespace Go.Proofs.YtoklmemeanmfdaaGreat.Sp
open Go.RowKit
set_option linter.unusedSimpArgs false
set_option linter.unusedVariables false

/-! ### Short lists -/
/-! ### Stores -/
theorem f5_eq (g : TSpan) : f5 g = some (spanR g 1 60) := by
  unfold f5
  rw [f15_eq]; rfl
/-! ### Sums -/
/-! ### Loads -/
end Go.Proofs.YtoklmemeanmfdaaGreat.Sp
/-
  Ship's calls: the program's search, which keeps in mind what is in vain, and the document's.
-/
namespace Go.Proofs.YtoklmemeanmfdaaGreat.Sp
open Go.RowKit
set_option linter.unusedSimpArgs false
set_option linter.unusedVariables false

theorem lookM_upd {M : List ((Int × Int) × Bool)} {a b : Int × Int} {v : Bool} : lookM (updM M a v) b = if b = a then some v else lookM M b := by
  induction M with
  | nil =>
    unfold updM lookM
    by_cases h : b = a
    · subst h; simp
    · have : (b == a) = false := by simpa using h
      simp [this, h, lookM]
  | cons y l ih =>
    obtain ⟨k', v'⟩ := y
    unfold updM
    by_cases h1 : a = k'
    · subst h1
      simp only [beq_self_eq_true, if_true]
      unfold lookM
      by_cases h : b = a
      · subst h; simp
      · have : (b == a) = false := by simpa using h
        simp [this, h]
    · have h1' : (a == k') = false := by simpa using h1
      rw [h1']
      simp only [Bool.false_eq_true, if_false]
      unfold lookM
      by_cases h2 : b = k'
      · subst h2
        have : ¬ b = a := fun e => h1 e.symm
        simp [this]
      · have h2' : (b == k') = false := by simpa using h2
        rw [h2']
        simp only [Bool.false_eq_true, if_false]
        exact ih
theorem subL_popC {p : List TShipCall} {k : TShipCall} : subL (p ++ [k]) 0 (((p ++ [k]).length : Int) - 1) = some p := by
  unfold subL
  rw [if_pos ⟨by omega, by simp, by omega⟩]
  simp
/-- The first hour of a day. -/
def firstH (p : TShipPass) (d : Nat) : Option Int := (hoursL p (d : Int) (swAt p (d : Int)).High).head?
theorem firstH_eq (p : TShipPass) (d : Nat) : firstH p d = ((List.range 24).find? fun h => sureC p ⟨(d : Int), (h : Nat)⟩).map fun h : Nat => (h : Int) := by
  unfold firstH hoursL hoursTo
  rw [List.head?_map, List.head?_filter]; rfl
theorem firstH_some {p : TShipPass} {d : Nat} {h : Int} (e : firstH p d = some h) : 0 ≤ h ∧ h ≤ 23 ∧ sureC p ⟨(d : Int), h⟩ = true ∧ ∀ h', 0 ≤ h' → h' < h → sureC p ⟨(d : Int), h'⟩ = false := by
  rw [firstH_eq, Option.map_eq_some_iff] at e
  obtain ⟨k, h1, rfl⟩ := e
  rw [List.find?_range_eq_some] at h1
  obtain ⟨q1, q2, q3⟩ := h1
  rw [List.mem_range] at q2
  refine ⟨by omega, by omega, q1, fun h' h0 hlt => ?_⟩
  have := q3 h'.toNat (by omega)
  rw [Int.toNat_of_nonneg h0] at this
  simpa using this
theorem firstH_none {p : TShipPass} {d : Nat} (e : firstH p d = none) {h : Int} (h0 : 0 ≤ h) (h1 : h ≤ 23) : sureC p ⟨(d : Int), h⟩ = false := by
  rw [firstH_eq, Option.map_eq_none_iff, List.find?_eq_none] at e
  have := e h.toNat (by rw [List.mem_range]; omega)
  rw [Int.toNat_of_nonneg h0] at this
  simpa using this
/-- The first call from a day on tells the day's first hour. -/
theorem day_first {p : TShipPass} {d : Nat} (hd : d < p.Swell.length) : match firstC p ⟨(d : Int), 0⟩ with
    | none => firstH p d = none
    | some y => if y.Day = (d : Int) then firstH p d = some y.Hour else firstH p d = none := by
  have hpos : pos ⟨(d : Int), 0⟩ = 24 * d := by unfold pos; simp only; omega
  have ok : ∀ h : Int, 0 ≤ h → h ≤ 23 → callOk p ⟨(d : Int), h⟩ = true := fun h h0 h1 => by
    unfold callOk
    rw [Bool.and_eq_true, dayOk_iff, inR_iff]
    exact ⟨⟨by simp only; omega, by simp only; omega⟩, h0, h1⟩
  cases hc : firstC p ⟨(d : Int), 0⟩ with
  | none =>
    simp only
    cases hf : firstH p d with
    | none => rfl
    | some h =>
      obtain ⟨q1, q2, q3, _⟩ := firstH_some hf
      have := firstC_none hc (ok h q1 q2) (by rw [hpos]; unfold pos; simp only; omega)
      rw [q3] at this; cases this
  | some y =>
    obtain ⟨y1, y2, y3, y4⟩ := firstC_some hc
    have y1' := y1
    unfold callOk at y1'
    rw [Bool.and_eq_true, dayOk_iff, inR_iff] at y1'
    simp only
    by_cases hy : y.Day = (d : Int)
    · rw [if_pos hy]
      have ey : (⟨(d : Int), y.Hour⟩ : TShipCall) = y := by rw [← hy]
      cases hf : firstH p d with
      | none =>
        have := firstH_none hf y1'.2.1 y1'.2.2
        rw [ey, y3] at this; cases this
      | some h =>
        obtain ⟨q1, q2, q3, q4⟩ := firstH_some hf
        congr 1
        rcases Int.lt_trichotomy h y.Hour with h3 | h3 | h3
        · have := y4 ⟨(d : Int), h⟩ (ok h q1 q2) (by rw [hpos]; unfold pos; simp only; omega) (by unfold pos; simp only [hy]; omega)
          rw [q3] at this; cases this
        · exact h3
        · have := q4 y.Hour y1'.2.1 h3
          rw [ey, y3] at this; cases this
    · rw [if_neg hy]
      cases hf : firstH p d with
      | none => rfl
      | some h =>
        obtain ⟨q1, q2, q3, _⟩ := firstH_some hf
        have h5 : (d : Int) ≤ y.Day := by
          rw [hpos] at y2
          unfold pos at y2
          omega
        have := y4 ⟨(d : Int), h⟩ (ok h q1 q2) (by rw [hpos]; unfold pos; simp only; omega) (by unfold pos; simp only; omega)
        rw [q3] at this; cases this
/-- The first calls of so many ships, from a day on. -/
def stepS (p : TShipPass) (f : Nat → Option (List TShipCall)) (e : Nat) : Option (List TShipCall) := (firstH p e).bind fun h => (f e).map fun l => (⟨(e : Int), h⟩ : TShipCall) :: l
def cntD (p : TShipPass) (lo hi d : Nat) : Nat := min (d + hi + 1) p.Swell.length - (d + lo)
def srch (p : TShipPass) (lo hi : Nat) : Nat → Nat → Option (List TShipCall)
  | 0, _ => some []
  | k + 1, d => (List.range' (d + lo) (cntD p lo hi d)).findSome? (stepS p (srch p lo hi k))
/-- What is marked as being in vain is so. -/
def Sound (p : TShipPass) (lo hi : Nat) (M : List ((Int × Int) × Bool)) : Prop := ∀ d k : Nat, (lookM M ((d : Int), (k : Int))).getD false = true → srch p lo hi k d = none
def found (o : Option (List TShipCall)) (M : List ((Int × Int) × Bool)) (out : List TShipCall) : Bool × List ((Int × Int) × Bool) × List TShipCall := match o with
  | some r => (true, M, out ++ r)
  | none => (false, M, out)
/-- One day of the search. -/
theorem day_round {p : TShipPass} (hp : PassOk p) {gap : TSpan} {lo hi k d e : Nat} (hgap : gap.Low = (lo : Int) ∧ gap.High = (hi : Int)) (hb : d ≤ 60 ∧ lo ≤ 60 ∧ hi ≤ 60 ∧ k ≤ 100) (he : e ≤ d + hi) (hn : e < p.Swell.length)
    {rec : TSpot → List ((Int × Int) × Bool) → List TShipCall → Option (Bool × List ((Int × Int) × Bool) × List TShipCall)} {M : List ((Int × Int) × Bool)} {out : List TShipCall} (ho : out.length ≤ 1000) (f : Nat → Option (List TShipCall)) {Ok : List ((Int × Int) × Bool) → Prop} (hM : Ok M)
    (hrec : ∀ out', out'.length ≤ out.length + 1 → ∃ M', Ok M' ∧ rec ⟨(e : Int), (k : Int)⟩ M out' = some (found (f e) M' out')) :
    ∃ M', Ok M' ∧ f29_b0 rec ⟨(d : Int), ((k + 1 : Nat) : Int)⟩ gap p ((e : Int), false, out, M) = some ((stepS p f e).elim (.inl (((e + 1 : Nat) : Int), false, out, M')) fun r => .inr (.inr (true, M', out ++ r))) := by
  have hns := hp.ns
  have hok : callOk p ⟨(e : Int), 0⟩ = true := by
    unfold callOk
    rw [Bool.and_eq_true, dayOk_iff, inR_iff]
    exact ⟨⟨by simp only; omega, by simp only; omega⟩, by show (0 : Int) ≤ 0; omega, by show (0 : Int) ≤ 23; omega⟩
  have hdf := day_first hn
  have hcl := callsL_eq hp hok
  unfold f29_b0
  rw [if_pos (by simp only [decide_eq_true_eq]; rw [hgap.2, wrap_id (by omega) (by omega)]; omega)]
  simp only
  rw [if_neg (by simp only [decide_eq_true_eq]; omega), hcl, Option.bind_some]
  have hw : IntKind.i64.wrap ((e : Int) + 1) = ((e + 1 : Nat) : Int) := by rw [wrap_id] <;> omega
  have hwl : IntKind.i64.wrap (((k + 1 : Nat) : Int) - 1) = (k : Int) := by rw [wrap_id] <;> omega
  unfold firstC at hdf
  cases hl : sureFrom p (pos ⟨(e : Int), 0⟩) with
  | nil =>
    rw [hl] at hdf
    have hs : stepS p f e = none := by
      unfold stepS
      simp only [List.head?_nil] at hdf
      rw [hdf]; rfl
    refine ⟨M, hM, ?_⟩
    rw [hs]
    simp only [rg, Option.bind_some, Sum.elim_inl, hw, Option.elim_none]
  | cons y l =>
    rw [hl] at hdf
    simp only [List.head?_cons] at hdf
    by_cases hy : y.Day = (e : Int)
    · rw [if_pos hy] at hdf
      have ey : (⟨(e : Int), y.Hour⟩ : TShipCall) = y := by rw [← hy]
      have hs : stepS p f e = (f e).map fun l => y :: l := by
        unfold stepS
        rw [hdf, Option.bind_some, ey]
      obtain ⟨M', j1, j2⟩ := hrec (out ++ [y]) (by simp)
      refine ⟨M', j1, ?_⟩
      have hne : (y.Day != (e : Int)) = false := by simp [hy]
      rw [hs]
      simp only [rg, f29_b1, hne, Bool.false_eq_true, if_false]
      rw [app_short _ _ (by simp; omega), Option.bind_some, hwl, j2, Option.bind_some]
      cases hf : f e with
      | some r =>
        simp only [found, if_true, Option.map_some]
        simp
      | none =>
        have hwo : IntKind.i64.wrap ((((out ++ [y]).length : Nat) : Int) - 1) = (((out ++ [y]).length : Nat) : Int) - 1 := by rw [wrap_id] <;> simp <;> omega
        simp only [found, Bool.false_eq_true, if_false, Option.map_none, hwo, subL_popC, Option.bind_some]
        simp [hw]
    · rw [if_neg hy] at hdf
      have hs : stepS p f e = none := by
        unfold stepS
        rw [hdf]; rfl
      refine ⟨M, hM, ?_⟩
      have hne : (y.Day != (e : Int)) = true := by simp [hy]
      rw [hs]
      simp only [rg, f29_b1, hne, if_true]
      simp [hw]
/-- All days of the search. -/
theorem days_round {p : TShipPass} (hp : PassOk p) {gap : TSpan} {lo hi k d : Nat} (hgap : gap.Low = (lo : Int) ∧ gap.High = (hi : Int)) (hb : d ≤ 60 ∧ lo ≤ 60 ∧ hi ≤ 60 ∧ k ≤ 100)
    {rec : TSpot → List ((Int × Int) × Bool) → List TShipCall → Option (Bool × List ((Int × Int) × Bool) × List TShipCall)} {out : List TShipCall} (ho : out.length ≤ 1000) (f : Nat → Option (List TShipCall)) {Ok : List ((Int × Int) × Bool) → Prop}
    (hrec : ∀ (e : Nat) M out', e < p.Swell.length → Ok M → out'.length ≤ out.length + 1 → ∃ M', Ok M' ∧ rec ⟨(e : Int), (k : Int)⟩ M out' = some (found (f e) M' out')) :
    ∀ (m e : Nat) (M : List ((Int × Int) × Bool)), e ≤ 200 → m = min (d + hi + 1) p.Swell.length - e → Ok M →
      ∃ M', Ok M' ∧ lp (f29_b0 rec ⟨(d : Int), ((k + 1 : Nat) : Int)⟩ gap p) ((e : Int), false, out, M) = some (((List.range' e m).findSome? (stepS p f)).elim (.inl (false, out, M')) fun r => .inr (true, M', out ++ r))
  | 0, e, M, he, hm, hM => by
    refine ⟨M, hM, ?_⟩
    rw [lp_eq]
    have e1 : f29_b0 rec ⟨(d : Int), ((k + 1 : Nat) : Int)⟩ gap p ((e : Int), false, out, M) = some (.inr (.inl (false, out, M))) := by
      unfold f29_b0
      have hw : IntKind.i64.wrap ((d : Int) + gap.High) = ((d + hi : Nat) : Int) := by rw [hgap.2, wrap_id] <;> omega
      simp only [hw]
      by_cases h1 : e ≤ d + hi
      · rw [if_pos (by simp only [decide_eq_true_eq]; omega), if_pos (by simp only [decide_eq_true_eq]; omega)]; rfl
      · rw [if_neg (by simp only [decide_eq_true_eq]; omega)]
    rw [e1]; rfl
  | m + 1, e, M, he, hm, hM => by
    obtain ⟨M1, j1, j2⟩ := day_round (out := out) hp hgap hb (e := e) (by omega) (by omega) ho f hM (fun out' h => hrec e M out' (by omega) hM h)
    rw [lp_eq, j2, List.range'_succ, List.findSome?_cons]
    cases hs : stepS p f e with
    | some r => exact ⟨M1, j1, rfl⟩
    | none =>
      obtain ⟨M2, j3, j4⟩ := days_round hp hgap hb ho f hrec m (e + 1) M1 (by have := hp.ns; omega) (by omega) j1
      exact ⟨M2, j3, j4⟩
theorem f29_eq {p : TShipPass} (hp : PassOk p) {gap : TSpan} {lo hi : Nat} (hgap : gap.Low = (lo : Int) ∧ gap.High = (hi : Int)) (hb : lo ≤ 60 ∧ hi ≤ 60) : ∀ (k d : Nat) (M : List ((Int × Int) × Bool)) (out : List TShipCall), k ≤ 100 → d ≤ 60 → out.length + k ≤ 1000 → Sound p lo hi M →
    ∃ M', Sound p lo hi M' ∧ f29 gap p (k + 1) ⟨(d : Int), (k : Int)⟩ M out = some (found (srch p lo hi k d) M' out)
  | 0, d, M, out, _, _, _, hM => ⟨M, hM, by
      show f29_F gap p (f29 gap p 0) ⟨(d : Int), ((0 : Nat) : Int)⟩ M out = _
      unfold f29_F
      have e0 : (((0 : Nat) : Int) == 0) = true := rfl
      rw [if_pos e0]
      simp [srch, found]⟩
  | k + 1, d, M, out, hk, hd, ho, hM => by
    have hun : f29 gap p (k + 1 + 1) ⟨(d : Int), ((k + 1 : Nat) : Int)⟩ M out = f29_F gap p (f29 gap p (k + 1)) ⟨(d : Int), ((k + 1 : Nat) : Int)⟩ M out := rfl
    rw [hun]
    unfold f29_F
    have e0 : (((k + 1 : Nat) : Int) == 0) = false := by rw [beq_eq_false_iff_ne]; omega
    simp only [e0, Bool.false_eq_true, if_false]
    by_cases hlk : (lookM M ((d : Int), ((k + 1 : Nat) : Int))).getD false = true
    · exact ⟨M, hM, by rw [if_pos hlk, hM d (k + 1) hlk]; rfl⟩
    · rw [if_neg hlk]
      have hw : IntKind.i64.wrap ((d : Int) + gap.Low) = ((d + lo : Nat) : Int) := by rw [hgap.1, wrap_id] <;> omega
      rw [hw]
      obtain ⟨M1, j1, j2⟩ := days_round (out := out) hp hgap (d := d) (k := k) ⟨hd, hb.1, hb.2, by omega⟩ (by omega) (srch p lo hi k) (Ok := Sound p lo hi)
        (rec := f29 gap p (k + 1)) (fun e M out' he hM' hl => f29_eq hp hgap hb k e M out' (by omega) (by have := hp.ns; omega) (by omega) hM') (cntD p lo hi d) (d + lo) M (by omega) rfl hM
      have hsr : srch p lo hi (k + 1) d = (List.range' (d + lo) (cntD p lo hi d)).findSome? (stepS p (srch p lo hi k)) := rfl
      rw [j2, hsr]
      cases hf : (List.range' (d + lo) (cntD p lo hi d)).findSome? (stepS p (srch p lo hi k)) with
      | some r => exact ⟨M1, j1, by simp [found]⟩
      | none =>
        refine ⟨updM M1 ((d : Int), ((k + 1 : Nat) : Int)) true, ?_, by simp [found]⟩
        intro j l hj
        rw [lookM_upd] at hj
        by_cases e : ((j : Int), (l : Int)) = ((d : Int), ((k + 1 : Nat) : Int))
        · have e1 : j = d := by have := congrArg Prod.fst e; simp at this; omega
          have e2 : l = k + 1 := by have := congrArg Prod.snd e; simp at this; omega
          subst e1; subst e2
          rw [hsr, hf]
        · rw [if_neg e] at hj; exact j1 j l hj
def planA (o : Option (List TShipCall)) : List TShipCall × Int := o.elim ([], 5) fun r => (r, 0)
theorem f8_eq (p : TShipPass) (g : TSpan) (many : Int) (hs : passShort p) : f8 p g many = some (if (passOk p && (spanR g 1 60 && inR many 1 8)) = true then planA (srch p g.Low.toNat g.High.toNat many.toNat 0) else ([], 2)) := by
  unfold f8
  rw [f26_eq p hs, f27_eq, f28_eq]
  cases hp : passOk p with
  | false => rfl
  | true =>
    cases hg : spanR g 1 60 with
    | false => rfl
    | true =>
      cases hm : inR many 1 8 with
      | false => rfl
      | true =>
        have hg' := hg
        unfold spanR at hg'
        simp only [Bool.and_eq_true, decide_eq_true_eq] at hg'
        rw [inR_iff] at hm
        obtain ⟨M, _, j⟩ := f29_eq (passOk_iff hp) (gap := g) (lo := g.Low.toNat) (hi := g.High.toNat) (by omega) (by omega) many.toNat 0 [] [] (by omega) (by omega) (by simp; omega) (by intro a b h; cases h)
        rw [show ((many.toNat : Nat) : Int) = many by omega] at j
        simp only [Option.bind_some, Bool.not_true, Bool.false_eq_true, if_false, Bool.and_self, if_true]
        rw [show (⟨((0 : Nat) : Int), many⟩ : TSpot) = ⟨0, many⟩ from rfl] at j
        rw [j, Option.bind_some]
        cases srch p g.Low.toNat g.High.toNat many.toNat 0 <;> simp [found, planA]
/-! ### The document's search -/
theorem f6_eq (many : Int) : f6 many = some (inR many 1 8) := by
  unfold f6
  rw [f14_eq]; rfl
theorem srch_len {p : TShipPass} {lo hi : Nat} : ∀ (k d : Nat) (r : List TShipCall), srch p lo hi k d = some r → r.length = k
  | 0, d, r, h => by unfold srch at h; cases h; rfl
  | k + 1, d, r, h => by
    unfold srch at h
    obtain ⟨e, _, h2⟩ := List.exists_of_findSome?_eq_some h
    unfold stepS at h2
    obtain ⟨x, _, h4⟩ := Option.bind_eq_some_iff.1 h2
    obtain ⟨l, h5, rfl⟩ := Option.map_eq_some_iff.1 h4
    simp [srch_len k e l h5]
end Go.Proofs.YtoklmemeanmfdaaGreat.Sp
