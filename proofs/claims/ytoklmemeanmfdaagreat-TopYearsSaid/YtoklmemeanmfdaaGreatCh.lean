/-
  The first calls, as a book of the land: what is so of the calls that ship's search finds.
-/
import Derived.Test.YtoklmemeanmfdaaGreatSp
import Derived.Test.YtoklmemeanmfdaaGreatLk
namespace Go.Proofs.YtoklmemeanmfdaaGreat
open Go.RowKit
set_option linter.unusedVariables false
set_option linter.unusedSimpArgs false

/-- Calls one after the other, each as far behind the one ahead of it as the gap says. -/
def ChainC (p : TShipPass) (lo hi : Nat) : Nat → List TShipCall → Prop
  | _, [] => True
  | d, c :: l => ∃ (e : Nat) (h : Int), c = ⟨(e : Int), h⟩ ∧ d + lo ≤ e ∧ e ≤ d + hi ∧ e < p.Swell.length ∧ 0 ≤ h ∧ h ≤ 23 ∧ Sp.sureC p c = true ∧ ChainC p lo hi e l
theorem srch_chain {p : TShipPass} {lo hi : Nat} : ∀ (k d : Nat) (r : List TShipCall), Sp.srch p lo hi k d = some r → ChainC p lo hi d r
  | 0, d, r, h => by unfold Sp.srch at h; cases h; trivial
  | k + 1, d, r, h => by
    unfold Sp.srch at h
    obtain ⟨e, hm, h2⟩ := List.exists_of_findSome?_eq_some h
    unfold Sp.stepS at h2
    obtain ⟨x, h3, h4⟩ := Option.bind_eq_some_iff.1 h2
    obtain ⟨l, h5, rfl⟩ := Option.map_eq_some_iff.1 h4
    rw [List.mem_range'_1] at hm
    unfold Sp.cntD at hm
    obtain ⟨q1, q2, q3, _⟩ := Sp.firstH_some h3
    exact ⟨e, x, rfl, by omega, by omega, by omega, q1, q2, q3, srch_chain k e l h5⟩
theorem drop_cons {α : Type} {l : List α} {i : Nat} {c : α} {r : List α} (h : l.drop i = c :: r) : l[i]? = some c ∧ l.drop (i + 1) = r ∧ i < l.length := by
  have h1 : l[i]? = some c := by
    have := congrArg (·[0]?) h
    simpa using this
  exact ⟨h1, by rw [← List.tail_drop, h]; rfl, get_lt h1⟩
theorem f14_eq (x a b : Int) : f14 x a b = some (Sp.inR x a b) := Sp.f14_eq x a b
/-- The document's look at them: they are calls for the gap. -/
theorem are_loop {p : TShipPass} (hp : Sp.PassOk p) (hs : Sp.passShort p) {g : TSpan} {lo hi : Nat} (hg : g.Low = (lo : Int) ∧ g.High = (hi : Int)) (hb : lo ≤ 60 ∧ hi ≤ 60) (full : List TShipCall) (hl : full.length ≤ 100) :
    ∀ (r : List TShipCall) (d i : Nat), ChainC p lo hi d r → full.drop i = r → d ≤ 100 → lp (f9_b0 p g full) ((d : Int), (i : Int)) = some (.inl ())
  | [], d, i, _, hd, _ => by
    have : full.length ≤ i := by simpa using hd
    rw [lp_eq]
    unfold f9_b0
    rw [if_neg (by simp; omega)]
  | c :: r, d, i, hc, hd, hd2 => by
    obtain ⟨e, h, rfl, h1, h2, h3, h4, h5, h6, h7⟩ := hc
    obtain ⟨k1, k2, k3⟩ := drop_cons hd
    have hcall : Sp.callOk p ⟨(e : Int), h⟩ = true := by
      unfold Sp.callOk
      rw [Bool.and_eq_true, Sp.dayOk_iff, Sp.inR_iff]
      exact ⟨⟨by show (0 : Int) ≤ (e : Int); omega, by show (e : Int) < _; omega⟩, h4, h5⟩
    have hlen := hs.2
    have ih := are_loop hp hs hg hb full hl r e (i + 1) h7 k2 (by omega)
    have hw : IntKind.i64.wrap ((e : Int) - (d : Int)) = (e : Int) - (d : Int) := by rw [wrap_id] <;> omega
    have hin : Sp.inR ((e : Int) - (d : Int)) g.Low g.High = true := by rw [Sp.inR_iff]; omega
    have hi1 : IntKind.i64.wrap ((i : Int) + 1) = ((i + 1 : Nat) : Int) := by rw [wrap_id] <;> omega
    have hbody : f9_b0 p g full ((d : Int), (i : Int)) = some (.inl ((e : Int), ((i + 1 : Nat) : Int))) := by
      unfold f9_b0
      rw [if_pos (by simpa using k3)]
      simp only [ix_nat, k1, Option.bind_some, Sp.f31_eq p _ hs, hcall, Sp.f32_eq hp hcall, h6, Bool.not_true, Bool.false_eq_true, if_false, f14_eq, hw, hin, hi1]
    rw [lp_eq, hbody]
    exact ih
theorem are_calls {p : TShipPass} (hp : Sp.PassOk p) (hs : Sp.passShort p) {g : TSpan} {lo hi : Nat} (hg : g.Low = (lo : Int) ∧ g.High = (hi : Int)) (hb : lo ≤ 60 ∧ hi ≤ 60) {n : Nat} {r : List TShipCall} (hr : ChainC p lo hi 0 r) (hn : r.length = n) (hl : n ≤ 100) :
    f9 p g (n : Int) r = some true := by
  unfold f9
  have h := are_loop hp hs hg hb r (by omega) r 0 0 hr (by simp) (by omega)
  rw [show ((0 : Int), (0 : Int)) = (((0 : Nat) : Int), ((0 : Nat) : Int)) from rfl, h]
  simp [hn]
/-! ### The days of the calls -/
def dayL (r : List TShipCall) : List Int := r.map fun c => c.Day
theorem chain_days {p : TShipPass} {lo hi : Nat} : ∀ (r : List TShipCall) (d i : Nat) (c : TShipCall), ChainC p lo hi d r → r[i]? = some c → 0 ≤ c.Day ∧ c.Day < (p.Swell.length : Int)
  | [], d, i, c, _, h => by simp at h
  | x :: r, d, 0, c, ⟨e, h, he, h1, h2, h3, _⟩, hi => by
    cases hi
    subst he
    exact ⟨by show (0 : Int) ≤ (e : Int); omega, by show (e : Int) < _; omega⟩
  | x :: r, d, i + 1, c, ⟨e, h, he, h1, h2, h3, h4, h5, h6, h7⟩, hi => chain_days r e i c h7 (by simpa using hi)
theorem chain_gap {p : TShipPass} {lo hi : Nat} : ∀ (r : List TShipCall) (d i : Nat) (c c' : TShipCall), ChainC p lo hi d r → r[i]? = some c → r[i + 1]? = some c' → (lo : Int) ≤ c'.Day - c.Day ∧ c'.Day - c.Day ≤ (hi : Int)
  | [], d, i, c, c', _, h, _ => by simp at h
  | [x], d, 0, c, c', _, _, h => by simp at h
  | x :: y :: r, d, 0, c, c', ⟨e, h, he, h1, h2, h3, h4, h5, h6, e', h', he', q1, q2, _⟩, k1, k2 => by
    have k1 : x = c := by simpa using k1
    have k2 : y = c' := by simpa using k2
    subst k1; subst k2; subst he; subst he'
    show (lo : Int) ≤ (e' : Int) - (e : Int) ∧ (e' : Int) - (e : Int) ≤ (hi : Int)
    omega
  | x :: r, d, i + 1, c, c', ⟨e, h, he, h1, h2, h3, h4, h5, h6, h7⟩, k1, k2 => chain_gap r e i c c' h7 (by simpa using k1) (by simpa using k2)
/-! ### The book -/
def memC (g : TSpan) (i : Nat) : TLandMemory := ⟨(i : Int), ((i + 1 : Nat) : Int), g⟩
def memL (g : TSpan) (n : Nat) : List TLandMemory := (List.range (n - 1)).map (memC g)
def bookC (g : TSpan) (n : Nat) : TLandBook := ⟨[⟨-1, -1⟩], List.replicate n ⟨0, 0⟩, memL g n⟩
def ordL (n : Nat) : List Int := La.castL (List.range n)
theorem memL_len (g : TSpan) (n : Nat) : (memL g n).length = n - 1 := by simp [memL]
theorem memL_succ (g : TSpan) (n : Nat) : memL g (n + 2) = memL g (n + 1) ++ [memC g n] := by
  unfold memL
  show (List.range (n + 1)).map (memC g) = (List.range n).map (memC g) ++ [memC g n]
  rw [List.range_succ, List.map_append]; rfl
theorem ordL_succ (n : Nat) : ordL (n + 1) = ordL n ++ [(n : Int)] := by
  unfold ordL La.castL
  rw [List.range_succ, List.map_append]; rfl
theorem ordL_len (n : Nat) : (ordL n).length = n := by simp [ordL, La.castL]
theorem rep_succ {α : Type} (n : Nat) (x : α) : List.replicate (n + 1) x = List.replicate n x ++ [x] := List.replicate_succ'
/-- The loop that writes the book. -/
theorem book_loop (g : TSpan) (r : List TShipCall) (hl : r.length ≤ 100) (u : Int) : lp (f3_b0 g (r.length : Int) (r, u)) ([], [], 0, ⟨[⟨-1, -1⟩], [], []⟩) = some (dayL r, ordL r.length, bookC g r.length) := by
  have h := La.lp_cnt (body := f3_b0 g (r.length : Int) (r, u)) r.length (fun k (t : List Int × List Int × TLandBook) => t = (dayL (r.take k), ordL k, bookC g k)) (fun k t => (t.1, t.2.1, (k : Int), t.2.2)) id (fun k t hk ht => ?_) (fun t ht => ?_) (t := ([], [], ⟨[⟨-1, -1⟩], [], []⟩)) rfl
  · obtain ⟨t', h1, h2⟩ := h
    have h1' : lp (f3_b0 g (r.length : Int) (r, u)) ([], [], 0, ⟨[⟨-1, -1⟩], [], []⟩) = some t' := h1
    rw [h1', h2, List.take_of_length_le (Nat.le_refl _)]
  · subst ht
    obtain ⟨c, hc⟩ : ∃ c, r[k]? = some c := ⟨r[k], List.getElem?_eq_getElem hk⟩
    refine ⟨(dayL (r.take (k + 1)), ordL (k + 1), bookC g (k + 1)), ?_, rfl⟩
    have hd : dayL (r.take (k + 1)) = dayL (r.take k) ++ [c.Day] := by
      unfold dayL
      rw [La.take_snoc hc, List.map_append]; rfl
    have hdl : (dayL (r.take k)).length ≤ 100 := by unfold dayL; simp; omega
    have hw : IntKind.i64.wrap ((k : Int) + 1) = ((k + 1 : Nat) : Int) := by rw [wrap_id] <;> omega
    have a1 : app (bookC g k).Events [(⟨0, 0⟩ : TLandEvent)] = some (List.replicate (k + 1) ⟨0, 0⟩) := by
      rw [rep_succ, La.app_short _ _ (by show (List.replicate k (⟨0, 0⟩ : TLandEvent)).length + 1 ≤ _; rw [List.length_replicate]; omega)]; rfl
    have a2 : app (dayL (r.take k)) [c.Day] = some (dayL (r.take (k + 1))) := by rw [hd, La.app_short _ _ (by simp; omega)]
    have a3 : app (ordL k) [(k : Int)] = some (ordL (k + 1)) := by rw [ordL_succ, La.app_short _ _ (by rw [ordL_len]; simp; omega)]
    show f3_b0 g (r.length : Int) (r, u) (dayL (r.take k), ordL k, (k : Int), bookC g k) = some (.inl (dayL (r.take (k + 1)), ordL (k + 1), ((k + 1 : Nat) : Int), bookC g (k + 1)))
    unfold f3_b0
    rw [if_pos (by simpa using hk)]
    simp only [a1, a2, a3, ix_nat, hc, Option.bind_some, hw]
    cases k with
    | zero => rfl
    | succ k =>
      rw [if_pos (by simp)]
      have hp : IntKind.i64.wrap (((k + 1 : Nat) : Int) - 1) = (k : Int) := by rw [wrap_id] <;> omega
      have a4 : app (bookC g (k + 1)).Memories [(⟨IntKind.i64.wrap (((k + 1 : Nat) : Int) - 1), ((k + 1 : Nat) : Int), g⟩ : TLandMemory)] = some (memL g (k + 2)) := by
        rw [hp, memL_succ, La.app_short _ _ (by show (memL g (k + 1)).length + 1 ≤ _; rw [memL_len]; omega)]; rfl
      simp only [a4, Option.bind_some]
      rfl
  · subst ht
    show f3_b0 g (r.length : Int) (r, u) (dayL (r.take r.length), ordL r.length, (r.length : Int), bookC g r.length) = _
    unfold f3_b0
    rw [if_neg (by simp)]
    rfl
end Go.Proofs.YtoklmemeanmfdaaGreat
