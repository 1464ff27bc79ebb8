/-
  Ship's passes: what is as defined, the program's way and the document's; when a ship can go through.
-/
import Derived.Test.YtajejmbnmphngaaPu
import Derived.Test.YtajejmbnmphngaaGn
namespace Go.Proofs.Ytajejmbnmphngaa
open Go.RowKit
set_option linter.unusedSimpArgs false

def inR (x a b : Int) : Bool := decide (a ≤ x) && decide (x ≤ b)
theorem inR_iff {x a b : Int} : inR x a b = true ↔ a ≤ x ∧ x ≤ b := by simp [inR]
theorem f62_eq (x a b : Int) : f62 x a b = some (inR x a b) := by
  unfold f62 inR
  by_cases h : a ≤ x <;> simp [h]
theorem f65_eq (x a b : Int) : f65 x a b = some (inR x a b) := f62_eq x a b
def spanR (s : TSpan) (a b : Int) : Bool := decide (a ≤ s.Low) && (decide (s.Low ≤ s.High) && decide (s.High ≤ b))
theorem spanR_iff {s : TSpan} {a b : Int} : spanR s a b = true ↔ a ≤ s.Low ∧ s.Low ≤ s.High ∧ s.High ≤ b := by simp [spanR]
theorem f61_eq (s : TSpan) (a b : Int) : f61 s a b = some (spanR s a b) := by
  unfold f61 spanR
  by_cases h : a ≤ s.Low <;> by_cases h' : s.Low ≤ s.High <;> simp [h, h']
theorem f66_eq (s : TSpan) (a b : Int) : f66 s a b = some (spanR s a b) := f61_eq s a b
/-- 'slices.ContainsFunc'. -/
theorem find_lp {α : Type} {body : Int → Option (Int ⊕ (Unit ⊕ Int))} (xs : List α) (p : α → Bool) (hl : xs.length ≤ 1073741824)
    (h1 : ∀ (k : Nat) (y : α), xs[k]? = some y → body (k : Int) = some (if p y = true then .inr (.inr (k : Int)) else .inl (IntKind.i64.wrap ((k : Int) + 1)))) (h2 : body (xs.length : Int) = some (.inr (.inl ()))) :
    ∃ r : Unit ⊕ Int, lp body 0 = some r ∧ (match r with | .inl _ => xs.any p = false | .inr i => xs.any p = true ∧ 0 ≤ i) := by
  have h : lp body ((0 : Nat) : Int) = goL (fun k y (_ : Unit) => some (if p y = true then .inr (.inr (k : Int)) else .inl ())) (fun _ => .inl ()) 0 xs () := by
    refine lp_goL (fun k _ => (k : Int)) xs _ _ ?_ ?_ ()
    · intro k t y hy
      rw [h1 k y hy, wrap_nat (get_lt hy) hl]
      by_cases h : p y = true <;> simp [h]
    · intro t; exact h2
  have h3 : ∀ (ys : List α) (k : Nat), ∃ r : Unit ⊕ Int, goL (fun k y (_ : Unit) => some (if p y = true then .inr (.inr (k : Int)) else .inl ())) (fun _ => .inl ()) k ys () = some r ∧ (match r with | .inl _ => ys.any p = false | .inr i => ys.any p = true ∧ 0 ≤ i) := by
    intro ys
    induction ys with
    | nil => intro k; exact ⟨_, rfl, rfl⟩
    | cons y ys ih =>
      intro k
      by_cases hy : p y = true
      · exact ⟨.inr k, by simp only [goL, hy, if_true], by simp [hy]⟩
      · obtain ⟨r, q1, q2⟩ := ih (k + 1)
        refine ⟨r, by simp only [goL, hy]; exact q1, ?_⟩
        have e : (y :: ys).any p = ys.any p := by simp [hy]
        rw [e]; exact q2
  obtain ⟨r, q1, q2⟩ := h3 xs 0
  exact ⟨r, h.trans q1, q2⟩
theorem f85_eq (xs : List Int) (p : Int → Bool) (hl : xs.length ≤ 1073741824) : f85 xs (fun z => some (p z)) = some (xs.any p) := by
  obtain ⟨r, h1, h2⟩ := find_lp (body := f108_b0 xs fun z => some (p z)) xs p hl (fun k y hy => by
    unfold f108_b0
    rw [if_pos (by simpa using get_lt hy), ix_nat, hy]
    by_cases h : p y = true <;> simp [h]) (by unfold f108_b0; simp)
  unfold f85 f108
  rw [h1]
  cases r with
  | inl _ => simp only [Option.bind_some, Sum.elim_inl, h2]; rfl
  | inr i => simp only [Option.bind_some, Sum.elim_inr, h2.1]; simp [h2.2]
theorem f87_eq (xs : List TSpan) (p : TSpan → Bool) (hl : xs.length ≤ 1073741824) : f87 xs (fun z => some (p z)) = some (xs.any p) := by
  obtain ⟨r, h1, h2⟩ := find_lp (body := f109_b0 xs fun z => some (p z)) xs p hl (fun k y hy => by
    unfold f109_b0
    rw [if_pos (by simpa using get_lt hy), ix_nat, hy]
    by_cases h : p y = true <;> simp [h]) (by unfold f109_b0; simp)
  unfold f87 f109
  rw [h1]
  cases r with
  | inl _ => simp only [Option.bind_some, Sum.elim_inl, h2]; rfl
  | inr i => simp only [Option.bind_some, Sum.elim_inr, h2.1]; simp [h2.2]
theorem any_not {α : Type} (l : List α) (p : α → Bool) : (l.any fun x => !p x) = !l.all p := by
  induction l with
  | nil => rfl
  | cons a l ih => simp only [List.any_cons, List.all_cons, ih]; cases p a <;> simp
/-- A loop that goes on as long as all is well. -/
theorem all_lp {α ρ : Type} {body : Int → Option (Int ⊕ ρ)} (xs : List α) (p : α → Bool) (b r : ρ) (hl : xs.length ≤ 1073741824)
    (h1 : ∀ (k : Nat) (y : α), xs[k]? = some y → body (k : Int) = some (if p y = true then .inl (IntKind.i64.wrap ((k : Int) + 1)) else .inr b)) (h2 : body (xs.length : Int) = some (.inr r)) : lp body 0 = some (if xs.all p = true then r else b) := by
  have h := lp_all xs (fun _ => p) b r (fun k => (k : Int)) (fun k y hy => by rw [h1 k y hy, wrap_nat (get_lt hy) hl]) h2
  have e : allI (fun _ => p) 0 xs = xs.all p := by
    have : ∀ (l : List α) (k : Nat), allI (fun _ => p) k l = l.all p := by
      intro l
      induction l with
      | nil => intro k; rfl
      | cons a l ih => intro k; simp [allI, ih]
    exact this _ _
  rw [e] at h
  exact h
def swellOk (s : TSpan) : Bool := spanR s 0 1000
def passOk (p : TShipPass) : Bool := p.Tides.all (fun t => inR t (-1000) 1000) && (p.Swell.all swellOk && (inR (p.Tides.length : Int) 1 50 && (inR p.Depth 0 1000 && (inR p.Draft 0 1000 && (inR (p.Swell.length : Int) 1 60 && spanR p.Light 0 23)))))
abbrev passShort (p : TShipPass) : Prop := p.Tides.length ≤ 60 ∧ p.Swell.length ≤ 70
theorem f16_eq (p : TShipPass) : f16 p = some (decide (passShort p)) := by
  unfold f16 passShort
  by_cases h : p.Tides.length ≤ 60
  · have : ((p.Tides.length : Int) ≤ 60) := by omega
    simp [h, this]
    omega
  · have : ¬ ((p.Tides.length : Int) ≤ 60) := by omega
    simp [h, this]
theorem f60_eq (p : TShipPass) (hs : passShort p) : f60 p = some (passOk p) := by
  unfold f60
  have e1 : (fun (z0 : Int) => f86 z0) = fun z => some (!inR z (-1000) 1000) := by
    funext z; unfold f86; rw [f62_eq]; rfl
  have e2 : (fun (z0 : TSpan) => f88 z0) = fun z => some (!swellOk z) := by
    funext z; unfold f88; rw [f61_eq]; rfl
  rw [e1, e2, f85_eq _ _ (by have := hs.1; omega), f87_eq _ _ (by have := hs.2; omega), any_not, any_not]
  simp only [f62_eq, f61_eq, Option.bind_some]
  unfold passOk
  cases p.Tides.all (fun t => inR t (-1000) 1000) <;> cases p.Swell.all swellOk <;> cases inR (p.Tides.length : Int) 1 50 <;> cases inR p.Depth 0 1000 <;> cases inR p.Draft 0 1000 <;> cases inR (p.Swell.length : Int) 1 60 <;> cases spanR p.Light 0 23 <;> rfl
theorem f19_eq (p : TShipPass) (hs : passShort p) : f19 p = some (passOk p) := by
  unfold f19
  have h1 : lp (f19_b0 p) 0 = some (if p.Tides.all (fun t => inR t (-1000) 1000) = true then .inl () else .inr false) := by
    refine all_lp p.Tides _ _ _ (by have := hs.1; omega) (fun k y hy => ?_) (by unfold f19_b0; simp)
    unfold f19_b0
    rw [if_pos (by simpa using get_lt hy), ix_nat, hy]
    simp only [Option.bind_some, f65_eq]
    cases inR y (-1000) 1000 <;> simp
  have h2 : lp (f19_b1 p) 0 = some (if p.Swell.all swellOk = true then .inl () else .inr false) := by
    refine all_lp p.Swell _ _ _ (by have := hs.2; omega) (fun k y hy => ?_) (by unfold f19_b1; simp)
    unfold f19_b1
    rw [if_pos (by simpa using get_lt hy), ix_nat, hy]
    simp only [Option.bind_some, f66_eq]
    unfold swellOk
    cases spanR y 0 1000 <;> simp
  rw [h1, h2]
  simp only [f65_eq, f66_eq, Option.bind_some]
  unfold passOk
  cases p.Tides.all (fun t => inR t (-1000) 1000) <;> cases p.Swell.all swellOk <;> cases inR (p.Tides.length : Int) 1 50 <;> cases inR p.Depth 0 1000 <;> cases inR p.Draft 0 1000 <;> cases inR (p.Swell.length : Int) 1 60 <;> cases spanR p.Light 0 23 <;> rfl
theorem f47_eq (p : TShipPass) (hs : passShort p) : f47 p = some (if passOk p = true then 0 else 2) := by
  unfold f47
  rw [f60_eq p hs]
  cases passOk p <;> rfl
structure PassOk (p : TShipPass) : Prop where
  tides : ∀ t ∈ p.Tides, -1000 ≤ t ∧ t ≤ 1000
  swell : ∀ s ∈ p.Swell, 0 ≤ s.Low ∧ s.Low ≤ s.High ∧ s.High ≤ 1000
  nt : 1 ≤ p.Tides.length ∧ p.Tides.length ≤ 50
  depth : 0 ≤ p.Depth ∧ p.Depth ≤ 1000
  draft : 0 ≤ p.Draft ∧ p.Draft ≤ 1000
  ns : 1 ≤ p.Swell.length ∧ p.Swell.length ≤ 60
  light : 0 ≤ p.Light.Low ∧ p.Light.Low ≤ p.Light.High ∧ p.Light.High ≤ 23
theorem passOk_iff {p : TShipPass} (h : passOk p = true) : PassOk p := by
  unfold passOk at h
  simp only [Bool.and_eq_true, List.all_eq_true, inR_iff, spanR_iff, swellOk] at h
  obtain ⟨h1, h2, h3, h4, h5, h6, h7⟩ := h
  exact ⟨h1, h2, by omega, h4, h5, by omega, h7⟩
/-! ### Days and calls -/
def dayOk (p : TShipPass) (d : Int) : Bool := decide (0 ≤ d) && decide (d < (p.Swell.length : Int))
theorem dayOk_iff {p : TShipPass} {d : Int} : dayOk p d = true ↔ 0 ≤ d ∧ d < (p.Swell.length : Int) := by simp [dayOk]
theorem wrap_pred {n : Nat} (h : n ≤ 1073741824) : IntKind.i64.wrap ((n : Int) - 1) = (n : Int) - 1 := by rw [wrap_id] <;> omega
theorem inR_pred (d : Int) (n : Nat) : inR d 0 ((n : Int) - 1) = (decide (0 ≤ d) && decide (d < (n : Int))) := by
  unfold inR
  congr 1
  rw [Bool.eq_iff_iff]; simp; omega
def callOk (p : TShipPass) (c : TShipCall) : Bool := dayOk p c.Day && inR c.Hour 0 23
theorem f44_eq (p : TShipPass) (d : Int) (hs : passShort p) : f44 p d = some (dayOk p d) := by
  unfold f44
  rw [wrap_pred (by have := hs.2; omega), f65_eq, inR_pred]; rfl
theorem f50_eq (p : TShipPass) (c : TShipCall) (hs : passShort p) : f50 p c = some (callOk p c) := by
  unfold f50
  rw [f44_eq _ _ hs, f65_eq]
  unfold callOk
  cases dayOk p c.Day <;> rfl
theorem f82_eq (p : TShipPass) (c : TShipCall) (hs : passShort p) : f82 p c = some (callOk p c) := by
  unfold f82
  rw [wrap_pred (by have := hs.2; omega), f62_eq, inR_pred, f62_eq]
  unfold callOk dayOk
  cases decide (0 ≤ c.Day) && decide (c.Day < (p.Swell.length : Int)) <;> rfl
/-! ### When a ship can go through -/
def tideAt (p : TShipPass) (c : TShipCall) : Int := (p.Tides[((c.Day * 24 + c.Hour) % (p.Tides.length : Int)).toNat]?).getD 0
def goes (p : TShipPass) (c : TShipCall) (sw : Int) : Bool := inR c.Hour p.Light.Low p.Light.High && decide (p.Draft ≤ p.Depth + tideAt p c - sw)
theorem tide_ix {p : TShipPass} (hp : PassOk p) {c : TShipCall} (hc : callOk p c = true) :
    remI (IntKind.i64.wrap ((IntKind.i64.wrap (c.Day * 24)) + c.Hour)) (p.Tides.length : Int) = some ((c.Day * 24 + c.Hour) % (p.Tides.length : Int)) ∧ ix p.Tides ((c.Day * 24 + c.Hour) % (p.Tides.length : Int)) = some (tideAt p c) ∧ -1000 ≤ tideAt p c ∧ tideAt p c ≤ 1000 := by
  unfold callOk at hc
  rw [Bool.and_eq_true, dayOk_iff, inR_iff] at hc
  have h1 := hp.nt
  have h2 := hp.ns
  have hlen : (p.Tides.length : Int) ≠ 0 := by omega
  have hm0 := Int.emod_nonneg (c.Day * 24 + c.Hour) hlen
  have hm1 := Int.emod_lt_of_pos (c.Day * 24 + c.Hour) (show (0 : Int) < (p.Tides.length : Int) by omega)
  have hlt : ((c.Day * 24 + c.Hour) % (p.Tides.length : Int)).toNat < p.Tides.length := by omega
  have ht : p.Tides[((c.Day * 24 + c.Hour) % (p.Tides.length : Int)).toNat]? = some (tideAt p c) := by
    unfold tideAt
    rw [List.getElem?_eq_getElem hlt]; rfl
  refine ⟨?_, ?_, hp.tides _ (List.mem_of_getElem? ht)⟩
  · rw [wrap_id (x := c.Day * 24) (by omega) (by omega), wrap_id (by omega) (by omega)]
    unfold remI
    rw [if_neg hlen, Int.tmod_eq_emod_of_nonneg (by omega)]
  · unfold ix
    rw [if_pos hm0]; exact ht
theorem deep_eq {p : TShipPass} (hp : PassOk p) {t sw : Int} (ht : -1000 ≤ t ∧ t ≤ 1000) (hs : 0 ≤ sw ∧ sw ≤ 1000) : IntKind.i64.wrap ((IntKind.i64.wrap (p.Depth + t)) - sw) = p.Depth + t - sw := by
  have := hp.depth
  rw [wrap_id (x := p.Depth + t) (by omega) (by omega), wrap_id (by omega) (by omega)]
theorem f81_eq {p : TShipPass} (hp : PassOk p) {c : TShipCall} (hc : callOk p c = true) {sw : Int} (hs : 0 ≤ sw ∧ sw ≤ 1000) : f81 ⟨p, sw⟩ c = some (goes p c sw) := by
  obtain ⟨h1, h2, h3⟩ := tide_ix hp hc
  unfold f81 f106 f107
  simp only [f62_eq, Option.bind_some, h1, h2, deep_eq hp h3 hs]
  unfold goes
  cases inR c.Hour p.Light.Low p.Light.High <;> cases decide (p.Draft ≤ p.Depth + tideAt p c - sw) <;> rfl
theorem f83_eq {p : TShipPass} (hp : PassOk p) {c : TShipCall} (hc : callOk p c = true) {sw : Int} (hs : 0 ≤ sw ∧ sw ≤ 1000) : f83 p c sw = some (goes p c sw) := by
  obtain ⟨h1, h2, h3⟩ := tide_ix hp hc
  unfold f83
  simp only [f65_eq, Option.bind_some, h1, h2, deep_eq hp h3 hs]
  unfold goes
  cases inR c.Hour p.Light.Low p.Light.High <;> cases decide (p.Draft ≤ p.Depth + tideAt p c - sw) <;> rfl
def swAt (p : TShipPass) (d : Int) : TSpan := (p.Swell[d.toNat]?).getD ⟨0, 0⟩
theorem sw_ix {p : TShipPass} (hp : PassOk p) {d : Int} (hd : dayOk p d = true) : ix p.Swell d = some (swAt p d) ∧ 0 ≤ (swAt p d).Low ∧ (swAt p d).Low ≤ (swAt p d).High ∧ (swAt p d).High ≤ 1000 := by
  rw [dayOk_iff] at hd
  have hlt : d.toNat < p.Swell.length := by omega
  have ht : p.Swell[d.toNat]? = some (swAt p d) := by
    unfold swAt
    rw [List.getElem?_eq_getElem hlt]; rfl
  refine ⟨?_, hp.swell _ (List.mem_of_getElem? ht)⟩
  unfold ix
  rw [if_pos hd.1]; exact ht
def sureC (p : TShipPass) (c : TShipCall) : Bool := goes p c (swAt p c.Day).High
theorem callOk_day {p : TShipPass} {c : TShipCall} (h : callOk p c = true) : dayOk p c.Day = true := by
  unfold callOk at h
  rw [Bool.and_eq_true] at h; exact h.1
theorem f80_eq {p : TShipPass} (hp : PassOk p) {c : TShipCall} (hc : callOk p c = true) : f80 p c = some (sureC p c) := by
  obtain ⟨h1, h2⟩ := sw_ix hp (callOk_day hc)
  unfold f80
  simp only [h1, Option.bind_some, f81_eq hp hc (sw := (swAt p c.Day).High) (by omega)]; rfl
theorem f84_eq {p : TShipPass} (hp : PassOk p) {c : TShipCall} (hc : callOk p c = true) : f84 p c = some (sureC p c) := by
  obtain ⟨h1, h2⟩ := sw_ix hp (callOk_day hc)
  unfold f84
  simp only [h1, Option.bind_some, f83_eq hp hc (sw := (swAt p c.Day).High) (by omega)]; rfl
end Go.Proofs.Ytajejmbnmphngaa
