/-
  The worst chain of a kind; the statements BaneTrue and BaneLevels, in plain Lean.
-/
import Derived.Test.YtgplafckddpnkaaS10
namespace Go.Proofs.Ytgplafckddpnkaa
open Go.RowKit
set_option linter.unusedVariables false
set_option linter.unusedSimpArgs false

/-! ### Chains -/
def chainF (nx : Nat → Option Nat) : Nat → Nat → List Int
  | 0, _ => []
  | k + 1, i => (i : Int) :: (nx i).elim [] fun j => chainF nx k j
theorem chain_len {nx : Nat → Option Nat} (hd : ∀ i j, nx i = some j → j < i) : ∀ (k i : Nat), i < k → (chainF nx k i).length ≤ i + 1
  | 0, i, h => by omega
  | k + 1, i, h => by
    unfold chainF
    cases hn : nx i with
    | none => simp
    | some j =>
      have h1 := hd i j hn
      have := chain_len hd k j (by omega)
      simp only [Option.elim_some, List.length_cons]
      omega
theorem lp_chain {nx : Nat → Option Nat} {body : List Int → Option (List Int ⊕ List Int)} {n : Nat} (hd : ∀ i j, nx i = some j → j < i)
    (hb : ∀ (i : Nat) (pre : List Int), i < n → pre.length ≤ 100 → body (pre ++ [(i : Int)]) = some ((nx i).elim (.inr (pre ++ [(i : Int)])) fun j => .inl (pre ++ [(i : Int)] ++ [(j : Int)]))) :
    ∀ (k i : Nat) (pre : List Int), i < k → i < n → pre.length + i ≤ 100 → lp body (pre ++ [(i : Int)]) = some (pre ++ chainF nx k i)
  | 0, i, _, h, _, _ => by omega
  | k + 1, i, pre, hk, hn, hp => by
    rw [lp_eq, hb i pre hn (by omega)]
    unfold chainF
    cases hx : nx i with
    | none => rfl
    | some j =>
      have h1 := hd i j hx
      have := lp_chain hd hb k j (pre ++ [(i : Int)]) (by omega) (by omega) (by simp; omega)
      simp only [Option.elim_some]
      rw [this]
      simp
/-- A chain's members: each is a kind, and is followed by the one that it eats most of. -/
theorem chain_get {nx : Nat → Option Nat} {n : Nat} (hd : ∀ i j, nx i = some j → j < i) : ∀ (k i : Nat), i < k → i < n → ∀ (m : Nat) (y : Int), (chainF nx k i)[m]? = some y → ∃ a : Nat, y = (a : Int) ∧ a < n ∧
    ((nx a = none ∧ m + 1 = (chainF nx k i).length) ∨ ∃ b : Nat, nx a = some b ∧ (chainF nx k i)[m + 1]? = some (b : Int))
  | 0, i, h, _, _, _, _ => by omega
  | k + 1, i, hk, hn, 0, y, h => by
    unfold chainF at h ⊢
    simp at h
    refine ⟨i, h.symm, hn, ?_⟩
    cases hx : nx i with
    | none => left; simp
    | some j =>
      right
      have h1 := hd i j hx
      refine ⟨j, rfl, ?_⟩
      cases k with
      | zero => omega
      | succ k => simp [chainF]
  | k + 1, i, hk, hn, m + 1, y, h => by
    unfold chainF at h ⊢
    cases hx : nx i with
    | none => rw [hx] at h; simp at h
    | some j =>
      rw [hx] at h
      have h1 := hd i j hx
      simp only [Option.elim_some, List.getElem?_cons_succ, List.length_cons] at h ⊢
      obtain ⟨a, h2, h3, h4⟩ := chain_get (n := n) hd k j (by omega) (by omega) m y h
      refine ⟨a, h2, h3, ?_⟩
      rcases h4 with ⟨h5, h6⟩ | h5
      · exact .inl ⟨h5, by omega⟩
      · exact .inr h5
/-! ### The prey that brings most -/
def val (L : List Int) (b : TBaneBite) : Int := w64 ((w64 (b.Share.High * L.getD b.Prey.toNat 0)).tdiv 1000)
def pickS (L : List Int) (bs : List TBaneBite) : Int × Int := bs.foldl (fun s b => if s.1 < val L b then (val L b, b.Prey) else s) (-1, -1)
theorem pick_snoc (L : List Int) (bs : List TBaneBite) (b : TBaneBite) : pickS L (bs ++ [b]) = if (pickS L bs).1 < val L b then (val L b, b.Prey) else pickS L bs := by
  unfold pickS
  rw [List.foldl_append]; rfl
def b0 : TBaneBite := ⟨0, ⟨0, 0⟩⟩
def bi (L : List Int) (bs : List TBaneBite) : Nat → Nat
  | 0 => 0
  | k + 1 => if val L (bs.getD (bi L bs k) b0) < val L (bs.getD k b0) then k else bi L bs k
theorem bi_lt (L : List Int) (bs : List TBaneBite) : ∀ k, bi L bs (k + 1) ≤ k
  | 0 => by unfold bi; split <;> simp [bi]
  | k + 1 => by
    have := bi_lt L bs k
    rw [bi]; split <;> omega
theorem pick_bi {L : List Int} {bs : List TBaneBite} (hv : ∀ b ∈ bs, 0 ≤ val L b) : ∀ k, k < bs.length → pickS L (bs.take (k + 1)) = (val L (bs.getD (bi L bs (k + 1)) b0), (bs.getD (bi L bs (k + 1)) b0).Prey)
  | 0, h => by
    have hg : bs[0]? = some bs[0] := List.getElem?_eq_getElem h
    have h0 := hv bs[0] (List.getElem_mem h)
    have e : bs.getD 0 b0 = bs[0] := by simp [List.getD_eq_getElem?_getD, hg]
    rw [take_snoc hg, pick_snoc]
    have e1 : bi L bs (0 + 1) = 0 := by simp [bi]
    have e2 : pickS L (bs.take 0) = (-1, -1) := by simp [pickS]
    rw [e1, e2, e, if_pos (by show (-1 : Int) < _; omega)]
  | k + 1, h => by
    have ih := pick_bi hv k (by omega)
    have hg : bs[k + 1]? = some bs[k + 1] := List.getElem?_eq_getElem h
    have e : bs.getD (k + 1) b0 = bs[k + 1] := by simp [List.getD_eq_getElem?_getD, hg]
    have e4 : bi L bs (k + 1 + 1) = if val L (bs.getD (bi L bs (k + 1)) b0) < val L (bs.getD (k + 1) b0) then k + 1 else bi L bs (k + 1) := rfl
    rw [take_snoc hg, pick_snoc, ih, e4, e]
    simp only
    split
    · rw [e]
    · rfl
/-! ### The greatest levels are no less than nothing -/
def topL (w : TBaneWeb) : List Int := plays w (endT w true) w.Fish.length
theorem top_bound {w : TBaneWeb} (hw : webOk w = true) (j : Nat) : 0 ≤ (topL w).getD j 0 ∧ (topL w).getD j 0 ≤ 1000000000000 := by
  have h7 := web_len hw
  have ht := endT_ok w true hw
  have key := levA_le (base := fun i => (endT w true).Bases.getD i 0) (base' := fun i => (endT w true).Bases.getD i 0) (sh := fun i k => ((endT w true).Shares.getD i []).getD k 0) (sh' := fun i k => ((endT w true).Shares.getD i []).getD k 0) (ps := preysW w) (cap := fun _ m => m) (cap' := fun _ m => m) h7
    (fun i hi => by have := truth_base hw ht i hi; omega) (fun i hi k => by have := truth_share hw ht i hi k; omega) (fun i hi => preysW_len hw i hi)
    (fun i hi m' h0 hm' => ⟨h0, hm', Int.le_refl _⟩) w.Fish.length (Nat.le_refl _) j
  rw [← plays_lev] at key
  have hp : (1000000 : Int) * 7 ^ w.Fish.length ≤ 1000000000000 := by
    have : w.Fish.length = 0 ∨ w.Fish.length = 1 ∨ w.Fish.length = 2 ∨ w.Fish.length = 3 ∨ w.Fish.length = 4 ∨ w.Fish.length = 5 ∨ w.Fish.length = 6 ∨ w.Fish.length = 7 := by omega
    rcases this with e | e | e | e | e | e | e | e <;> rw [e] <;> decide
  unfold topL
  omega
theorem val_nonneg {w : TBaneWeb} (hw : webOk w = true) {i : Nat} {f : TBaneFish} (hf : w.Fish[i]? = some f) : ∀ b ∈ f.Bites, 0 ≤ val (topL w) b := by
  intro b hb
  have hs := spanOk_iff.1 (shares_of hw hf b hb)
  have ht := top_bound hw b.Prey.toNat
  exact (term_le (s := b.Share.High) (s' := b.Share.High) (o := (topL w).getD b.Prey.toNat 0) (o' := (topL w).getD b.Prey.toNat 0) (M := 1000000000000) (by omega) (by omega) (by omega) ht.1 (by omega) ht.2 (by omega)).1
/-! ### The next one -/
def nxtF (w : TBaneWeb) (f : TBaneFish) : Option Nat := if f.Bites = [] then none else some (pickS (topL w) f.Bites).2.toNat
def nxt (w : TBaneWeb) (i : Nat) : Option Nat := (w.Fish[i]?).bind (nxtF w)
theorem top_len (w : TBaneWeb) : (topL w).length = w.Fish.length := plays_len _ _ _
theorem pick_mem {w : TBaneWeb} (hw : webOk w = true) {i : Nat} {f : TBaneFish} (hf : w.Fish[i]? = some f) (hne : f.Bites ≠ []) : ∃ k b, k + 1 = f.Bites.length ∧ bi (topL w) f.Bites (k + 1) ≤ k ∧ f.Bites[bi (topL w) f.Bites (k + 1)]? = some b ∧ (pickS (topL w) f.Bites).2 = b.Prey ∧ b ∈ f.Bites := by
  have hl : 0 < f.Bites.length := List.length_pos_iff.2 hne
  have hb := bi_lt (topL w) f.Bites (f.Bites.length - 1)
  have hp := pick_bi (val_nonneg hw hf) (f.Bites.length - 1) (by omega)
  rw [show f.Bites.length - 1 + 1 = f.Bites.length by omega, List.take_length] at hp
  have hg := getD_get b0 (show bi (topL w) f.Bites f.Bites.length < f.Bites.length by rw [show f.Bites.length - 1 + 1 = f.Bites.length by omega] at hb; omega)
  refine ⟨f.Bites.length - 1, f.Bites.getD (bi (topL w) f.Bites f.Bites.length) b0, by omega, hb, ?_, by rw [hp], List.mem_of_getElem? hg⟩
  rw [show f.Bites.length - 1 + 1 = f.Bites.length by omega]
  exact hg
theorem nxt_lt {w : TBaneWeb} (hw : webOk w = true) (i j : Nat) (h : nxt w i = some j) : j < i := by
  unfold nxt at h
  obtain ⟨f, hf, h1⟩ := Option.bind_eq_some_iff.1 h
  unfold nxtF at h1
  split at h1
  · cases h1
  · rename_i hne
    obtain ⟨k, b, _, _, _, h2, h3⟩ := pick_mem hw hf hne
    cases h1
    have := (preys_of hw hf).1 b h3
    omega
theorem f111_eq {w : TBaneWeb} (hs : webShort w) (hw : webOk w = true) {i : Nat} (hi : i < w.Fish.length) : f111 ⟨w, 0⟩ (i : Int) (topL w) = some ((nxt w i).elim (.inr (i : Int)) fun j => .inl (j : Int)) := by
  obtain ⟨f, hf⟩ : ∃ f, w.Fish[i]? = some f := ⟨_, List.getElem?_eq_getElem hi⟩
  obtain ⟨q1, q2, q3⟩ := preys_of hw hf
  have h12 := hs.1
  have hpn : preysIn (topL w).length f.Bites := by
    intro b hb
    have := q1 b hb
    rw [top_len]; omega
  have hl : lp (f111_b0 (topL w) f) ((-1), (-1), 0) = some (pickS (topL w) f.Bites).2 := by
    rw [show (((-1 : Int), (-1 : Int), (0 : Int)) : Int × Int × Int) = (fun k : Nat => ((pickS (topL w) (f.Bites.take k)).1, (pickS (topL w) (f.Bites.take k)).2, (k : Int))) 0 from rfl,
      lp_thru f.Bites (pickS (topL w) f.Bites).2 (fun k => ((pickS (topL w) (f.Bites.take k)).1, (pickS (topL w) (f.Bites.take k)).2, (k : Int))) ?_ ?_]
    · intro k b hb
      have hk := get_lt hb
      unfold f111_b0
      rw [if_pos (by simpa using hk)]
      simp only [ix_nat, hb, Option.bind_some, ix_prey hpn (List.mem_of_getElem? hb), wrap_nat hk (by omega), take_snoc hb, pick_snoc]
      have e : IntKind.i64.wrap ((IntKind.i64.wrap (b.Share.High * (topL w).getD b.Prey.toNat 0)).tdiv 1000) = val (topL w) b := rfl
      rw [e]
      by_cases h : (pickS (topL w) (f.Bites.take k)).1 < val (topL w) b
      · simp [h]
      · simp [h]
    · unfold f111_b0
      rw [if_neg (by simp), List.take_length]
  unfold f111
  simp only [ix_nat, hf, Option.bind_some, hl]
  unfold nxt nxtF
  rw [hf]
  simp only [Option.bind_some]
  by_cases hne : f.Bites = []
  · rw [hne]; rfl
  · rw [if_neg hne]
    obtain ⟨k, b, _, _, _, h2, h3⟩ := pick_mem hw hf hne
    have h4 := q1 b h3
    rw [h2, if_neg (by simp only [decide_eq_true_eq]; omega), Option.elim_some, Int.toNat_of_nonneg h4.1]
theorem last_ix (pre : List Int) (x : Int) (h : pre.length ≤ 100) : ix (pre ++ [x]) (IntKind.i64.wrap (((pre ++ [x]).length : Int) - 1)) = some x := by
  have e : IntKind.i64.wrap (((pre ++ [x]).length : Int) - 1) = ((pre.length : Nat) : Int) := by
    rw [List.length_append, wrap_id] <;> simp <;> omega
  rw [e, ix_nat]; simp
theorem f94_eq {w : TBaneWeb} (hs : webShort w) (hw : webOk w = true) {i : Nat} (hi : i < w.Fish.length) : f94 ⟨w, 0⟩ (topL w) [(i : Int)] = some (chainF (nxt w) (i + 1) i) := by
  have h12 := hs.1
  unfold f94
  have := lp_chain (body := f94_b0 ⟨w, 0⟩ (topL w)) (n := w.Fish.length) (nxt_lt hw) (fun i pre hi hp => by
    unfold f94_b0
    rw [last_ix pre _ hp, Option.bind_some, f111_eq hs hw hi, Option.bind_some]
    cases nxt w i with
    | none => rfl
    | some j =>
      simp only [Option.elim_some, Sum.elim_inl]
      rw [app_short _ _ (by simp; omega)]; rfl) (i + 1) i [] (by omega) hi (by simp; omega)
  simpa using this
theorem f48_eq (w : TBaneWeb) (x : Int) (hs : webShort w) : f48 w x = some (inR x 0 ((w.Fish.length : Int) - 1)) := by
  have h12 := hs.1
  unfold f48
  rw [wrap_id (by omega) (by omega), f69_eq]; rfl
def worst (w : TBaneWeb) (x : Int) : List Int := chainF (nxt w) (x.toNat + 1) x.toNat
theorem f58_eq (w : TBaneWeb) (x : Int) (hs : webShort w) : f58 w x = some (if (webOk w && inR x 0 ((w.Fish.length : Int) - 1)) = true then (worst w x, 0) else ([], 2)) := by
  have h12 := hs.1
  unfold f58
  rw [f65_eq w hs, wrap_id (by omega) (by omega), f66_eq]
  cases hw : webOk w with
  | false => rfl
  | true =>
    cases hx : inR x 0 ((w.Fish.length : Int) - 1) with
    | false => rfl
    | true =>
      rw [inR_iff] at hx
      simp only [Option.bind_some, Bool.not_true, Bool.false_eq_true, if_false, Bool.and_self, if_true, f72_eq w 0 hs hw]
      rw [hiL_none w (bitI 0) (fun i _ => bit_zero i) _ (Nat.le_refl _)]
      have := f94_eq hs hw (i := x.toNat) (by omega)
      rw [Int.toNat_of_nonneg hx.1] at this
      unfold topL at this
      rw [this]; rfl
/-! ### The document's chain -/
theorem f62_loop {w : TBaneWeb} (hs : webShort w) (hw : webOk w = true) {i : Nat} {f : TBaneFish} (hf : w.Fish[i]? = some f) (hne : f.Bites ≠ []) : lp (f62_b1 (topL w) f) (0, 1) = some ((bi (topL w) f.Bites f.Bites.length : Nat) : Int) := by
  obtain ⟨q1, q2, q3⟩ := preys_of hw hf
  have hi := get_lt hf
  have hpn : preysIn (topL w).length f.Bites := by
    intro b hb
    have := q1 b hb
    rw [top_len]; omega
  have hl : 0 < f.Bites.length := List.length_pos_iff.2 hne
  have e1 : bi (topL w) f.Bites (0 + 1) = 0 := by simp [bi]
  have htl : f.Bites.tail.length + 1 = f.Bites.length := by rw [List.length_tail]; omega
  rw [show (((0 : Int), (1 : Int)) : Int × Int) = (fun k : Nat => (((bi (topL w) f.Bites (k + 1) : Nat) : Int), ((k + 1 : Nat) : Int))) 0 by simp [e1],
    lp_thru f.Bites.tail ((bi (topL w) f.Bites f.Bites.length : Nat) : Int) (fun k => (((bi (topL w) f.Bites (k + 1) : Nat) : Int), ((k + 1 : Nat) : Int))) ?_ ?_]
  · intro k b hb
    have hb' : f.Bites[k + 1]? = some b := by rw [List.getElem?_tail] at hb; exact hb
    have hk := get_lt hb'
    have hlt := bi_lt (topL w) f.Bites k
    have hg := getD_get b0 (show bi (topL w) f.Bites (k + 1) < f.Bites.length by omega)
    unfold f62_b1
    rw [if_pos (by simp only [decide_eq_true_eq]; omega)]
    simp only [ix_nat, hb', hg, Option.bind_some, ix_prey hpn (List.mem_of_getElem? hb'), ix_prey hpn (List.mem_of_getElem? hg), wrap_nat hk (by omega)]
    have e2 : ∀ c : TBaneBite, IntKind.i64.wrap ((IntKind.i64.wrap (c.Share.High * (topL w).getD c.Prey.toNat 0)).tdiv 1000) = val (topL w) c := fun _ => rfl
    have e3 : f.Bites.getD (k + 1) b0 = b := by simp [List.getD_eq_getElem?_getD, hb']
    have e4 : bi (topL w) f.Bites (k + 1 + 1) = if val (topL w) (f.Bites.getD (bi (topL w) f.Bites (k + 1)) b0) < val (topL w) (f.Bites.getD (k + 1) b0) then k + 1 else bi (topL w) f.Bites (k + 1) := rfl
    rw [e2, e2, e4, e3]
    by_cases h : val (topL w) (f.Bites.getD (bi (topL w) f.Bites (k + 1)) b0) < val (topL w) b
    · simp only [h, decide_true, if_true, Option.bind_some]
    · simp only [h, decide_false, Bool.false_eq_true, if_false, Option.bind_some]
  · unfold f62_b1
    rw [if_neg (by simp only [decide_eq_true_eq]; omega), htl]
theorem f62_eq {w : TBaneWeb} (hs : webShort w) (hw : webOk w = true) {x : Int} (hx : 0 ≤ x ∧ x < (w.Fish.length : Int)) : f62 w x = some (worst w x) := by
  have h12 := hs.1
  unfold f62
  simp only [f26_eq w true hs, Option.bind_some, f24_eq w _ hs hw (endT_ok w true hw)]
  have e : plays w (endT w true) w.Fish.length = topL w := rfl
  rw [e]
  have := lp_chain (body := f62_b0 w (topL w)) (n := w.Fish.length) (nxt_lt hw) (fun i pre hi hp => by
    obtain ⟨f, hf⟩ : ∃ f, w.Fish[i]? = some f := ⟨_, List.getElem?_eq_getElem hi⟩
    unfold f62_b0
    rw [last_ix pre _ hp, Option.bind_some, ix_nat, hf, Option.bind_some]
    unfold nxt nxtF
    rw [hf, Option.bind_some]
    by_cases hne : f.Bites = []
    · rw [if_neg (by simp [hne]), if_pos hne]; rfl
    · have hl : 0 < f.Bites.length := List.length_pos_iff.2 hne
      rw [if_pos (by simpa using hl), if_neg hne, f62_loop hs hw hf hne]
      obtain ⟨k, b, h1, _, h3, h4, h5⟩ := pick_mem hw hf hne
      rw [h1] at h3
      have h6 := (preys_of hw hf).1 b h5
      rw [Option.bind_some, ix_nat, h3, Option.bind_some, app_short _ _ (by simp; omega), h4, Option.elim_some, Int.toNat_of_nonneg h6.1]; rfl) (x.toNat + 1) x.toNat [] (by omega) (by omega) (by simp; omega)
  rw [Int.toNat_of_nonneg hx.1] at this
  simp only [List.nil_append] at this
  rw [this]; rfl
theorem f60_refl (a : List TSpan) (ha : a.length ≤ 1073741824) : f60 a a = some true := by
  unfold f60
  rw [if_neg (by simp)]
  have h := lp_thru (body := f60_b0 a a) a (Sum.inl ()) (fun k => (k : Int)) (fun k y hy => by
    have hk := get_lt hy
    unfold f60_b0
    rw [if_pos (by simpa using hk), ix_nat, hy, wrap_nat hk ha]
    simp) (by unfold f60_b0; simp)
  rw [show (0 : Int) = ((0 : Nat) : Int) from rfl, h]; rfl
theorem spans_len (a b : List Int) : (spansL a b).length = min a.length b.length := by simp [spansL]
theorem f61_eq {w : TBaneWeb} (hs : webShort w) (hw : webOk w = true) : f61 w = some (spansL (plays w (endT w false) w.Fish.length) (plays w (endT w true) w.Fish.length)) := by
  unfold f61
  simp only [f26_eq w true hs, f26_eq w false hs, Option.bind_some, f24_eq w _ hs hw (endT_ok w true hw), f24_eq w _ hs hw (endT_ok w false hw)]
  obtain ⟨a, ha⟩ : ∃ a, a = plays w (endT w false) w.Fish.length := ⟨_, rfl⟩
  obtain ⟨b, hb⟩ : ∃ b, b = plays w (endT w true) w.Fish.length := ⟨_, rfl⟩
  have la : a.length = w.Fish.length := by rw [ha, plays_len]
  have lb : b.length = w.Fish.length := by rw [hb, plays_len]
  have h12 := hs.1
  rw [← ha, ← hb]
  have hz : ∀ k, k < w.Fish.length → (spansL a b)[k]? = some ⟨a.getD k 0, b.getD k 0⟩ := fun k hk => by
    simp [spansL, List.getElem?_zip_eq_some, show k < a.length by omega, show k < b.length by omega]
  rw [show (([], (0 : Int)) : List TSpan × Int) = (fun k : Nat => ((spansL a b).take k, (k : Int))) 0 from rfl, lp_thru a (spansL a b) (fun k => ((spansL a b).take k, (k : Int))) ?_ ?_]
  · rfl
  · intro k f hf
    have hk := get_lt hf
    unfold f61_b0
    rw [if_pos (by simpa using hk)]
    simp only [ix_nat, getD_get 0 (show k < a.length by omega), getD_get 0 (show k < b.length by omega), Option.bind_some, wrap_nat hk (by omega)]
    rw [app_short _ _ (by simp; omega), take_snoc (hz k (by omega))]
    rfl
  · unfold f61_b0
    rw [if_neg (by simp), List.take_of_length_le (by rw [spans_len]; omega)]
theorem f59_eq (w : TBaneWeb) (hs : webShort w) : f59 w = some (if webOk w = true then 0 else 2) := by
  unfold f59
  rw [f65_eq w hs]
  cases webOk w <;> rfl
theorem worst_len {w : TBaneWeb} (hw : webOk w = true) {x : Int} (hx : 0 ≤ x) : (worst w x).length ≤ x.toNat + 1 := chain_len (nxt_lt hw) _ _ (by omega)
theorem baneLevels (w : TBaneWeb) (x : Int) (_ : okTBaneWeb w) (_ : okI x) : f16 w x = some true := by
  obtain ⟨a, ha, hws⟩ := f17_eq w
  unfold f16
  rw [ha, known_pure]
  cases a with
  | false => simp
  | true =>
    have hs := hws rfl
    have h12 := hs.1
    simp only [Option.bind_some, Bool.not_true, Bool.false_eq_true, if_false, f59_eq w hs, f25_eq w hs, f58_eq w x hs, f21_eq w hs, f48_eq w x hs]
    cases hw : webOk w with
    | false => simp; rfl
    | true =>
      simp only [if_true, Bool.true_and, Bool.not_true, Bool.false_eq_true, if_false, f61_eq hs hw, Option.bind_some]
      rw [f60_refl _ (by rw [spans_len, plays_len]; omega)]
      cases hx : inR x 0 ((w.Fish.length : Int) - 1) with
      | false => simp
      | true =>
        rw [inR_iff] at hx
        rw [f62_eq hs hw (by omega)]
        have := worst_len hw hx.1
        simp [f23_eq _ _ (show (worst w x).length ≤ 1073741824 by omega)]
theorem worst_head {w : TBaneWeb} {x : Int} (hx : 0 ≤ x) : (worst w x)[0]? = some x := by
  unfold worst chainF
  simp [Int.toNat_of_nonneg hx]
theorem worst_pos {w : TBaneWeb} {x : Int} : 0 < (worst w x).length := by
  unfold worst chainF; simp
theorem any_bites {l : List Int} (hl : l.length ≤ 100) {f : TBaneFish} (hf : f.Bites.length ≤ 10) {m : Nat} {z : Int} (hz : l[m + 1]? = some z) (hm : ∃ b ∈ f.Bites, b.Prey = z) : lp (f15_b2 (m : Int) (l, 0) f) (false, 0) = some true := by
  have hw : IntKind.i64.wrap ((m : Int) + 1) = ((m + 1 : Nat) : Int) := by have := get_lt hz; rw [wrap_id] <;> omega
  have h := lp_thru (body := f15_b2 (m : Int) (l, 0) f) f.Bites (f.Bites.any fun b => b.Prey == z) (fun k => ((f.Bites.take k).any fun b => b.Prey == z, (k : Int))) (fun k b hb => by
    have hk := get_lt hb
    unfold f15_b2
    rw [if_pos (by simpa using hk)]
    simp only [hw, ix_nat, hb, hz, Option.bind_some, wrap_nat hk (by omega), take_snoc hb, List.any_append, List.any_cons, List.any_nil, Bool.or_false]
    cases (f.Bites.take k).any fun b => b.Prey == z <;> simp) (by unfold f15_b2; rw [if_neg (by simp), List.take_length])
  have e : (f.Bites.any fun b => b.Prey == z) = true := by
    obtain ⟨b, h1, h2⟩ := hm
    rw [List.any_eq_true]
    exact ⟨b, h1, by simp [h2]⟩
  rw [e] at h
  exact h
theorem baneTrue (w : TBaneWeb) (t : TBaneTruth) (x : Int) (_ : okTBaneWeb w) (_ : okTBaneTruth t) (_ : okI x) : f15 w t x = some true := by
  obtain ⟨a, ha, hws⟩ := f17_eq w
  obtain ⟨b, hb, hts⟩ := f18_eq t
  unfold f15
  rw [ha, hb, known_pure]
  cases a with
  | false => simp
  | true =>
    cases b with
    | false => simp
    | true =>
      have hs := hws rfl
      have h12 := hs.1
      simp only [Option.bind_some, Bool.not_true, Bool.false_eq_true, if_false, f21_eq w hs, f22_eq w t hs, f48_eq w x hs]
      cases hw : webOk w with
      | false => simp
      | true =>
        cases ht : truthOk w t with
        | false => simp
        | true =>
          cases hx : inR x 0 ((w.Fish.length : Int) - 1) with
          | false => simp
          | true =>
            have hx' := inR_iff.1 hx
            simp only [f25_eq w hs, f20_eq w t hs, f58_eq w x hs, hw, ht, hx, Option.bind_some, Bool.not_true, Bool.false_eq_true, if_false, Bool.and_self, if_true, show ((0 : Int) != 0) = false from rfl]
            have hwl := worst_len hw hx'.1
            have hwp := worst_pos (w := w) (x := x)
            have h7 := web_len hw
            obtain ⟨A, hA⟩ : ∃ A, A = plays w (endT w false) w.Fish.length := ⟨_, rfl⟩
            obtain ⟨B, hB⟩ : ∃ B, B = plays w (endT w true) w.Fish.length := ⟨_, rfl⟩
            obtain ⟨P, hP⟩ : ∃ P, P = plays w t w.Fish.length := ⟨_, rfl⟩
            have la : A.length = w.Fish.length := by rw [hA, plays_len]
            have lb : B.length = w.Fish.length := by rw [hB, plays_len]
            have lp' : P.length = w.Fish.length := by rw [hP, plays_len]
            have hmid := truth_mid w t hw ht
            rw [← hA, ← hB, ← hP] at hmid
            rw [← hA, ← hB, ← hP]
            have ls : (spansL A B).length = w.Fish.length := by rw [spans_len]; omega
            have hz : ∀ k, k < w.Fish.length → (spansL A B)[k]? = some ⟨A.getD k 0, B.getD k 0⟩ := fun k hk => by
              simp [spansL, List.getElem?_zip_eq_some, show k < A.length by omega, show k < B.length by omega]
            have c1 : (((spansL A B).length : Int) != (w.Fish.length : Int)) = false := by rw [ls]; simp
            have c2 : ((P.length : Int) != (w.Fish.length : Int)) = false := by rw [lp']; simp
            have c3 : (((worst w x).length : Int) == 0) = false := by rw [beq_eq_false_iff_ne]; omega
            have c4 : decide ((w.Fish.length : Int) < ((worst w x).length : Int)) = false := by rw [decide_eq_false_iff_not]; omega
            have c5 : ix (worst w x) 0 = some x := by rw [show (0 : Int) = ((0 : Nat) : Int) from rfl, ix_nat, worst_head hx'.1]
            simp only [c1, c2, c3, c4, c5, Option.bind_some, Bool.false_eq_true, if_false, bne_self_eq_false]
            have l1 : lp (f15_b0 (spansL A B, 0) (P, 0)) 0 = some (.inl ()) := by
              have h := lp_thru (body := f15_b0 (spansL A B, 0) (P, 0)) P (Sum.inl ()) (fun k => (k : Int)) (fun k y hy => by
                have hk := get_lt hy
                have hm := hmid k
                have e : P.getD k 0 = y := by simp [List.getD_eq_getElem?_getD, hy]
                rw [e] at hm
                unfold f15_b0
                rw [if_pos (by simpa using hk)]
                simp only [ix_nat, hy, hz k (by omega), Option.bind_some, wrap_nat hk (by omega)]
                rw [if_neg (by simp only [decide_eq_true_eq]; omega)]
                simp only [Option.bind_some]
                rw [if_neg (by simp only [decide_eq_true_eq]; omega)]) (by unfold f15_b0; simp)
              exact h
            rw [l1]
            simp only [Option.bind_some, Sum.elim_inl]
            have l2 : ∀ (d m : Nat), m + d + 1 = (worst w x).length → lp (f15_b1 w (worst w x, 0)) (m : Int) = some (.inr true) := by
              intro d
              induction d with
              | zero =>
                intro m hm
                obtain ⟨y, hy⟩ : ∃ y, (worst w x)[m]? = some y := ⟨_, List.getElem?_eq_getElem (by omega)⟩
                obtain ⟨a, h1, h2, h3⟩ := chain_get (n := w.Fish.length) (nxt_lt hw) (x.toNat + 1) x.toNat (by omega) (by omega) m y hy
                obtain ⟨f, hf⟩ : ∃ f, w.Fish[a]? = some f := ⟨_, List.getElem?_eq_getElem h2⟩
                have h4 : nxt w a = none := by
                  rcases h3 with h3 | ⟨b, _, h5⟩
                  · exact h3.1
                  · have : m + 1 < (worst w x).length := get_lt h5
                    omega
                have h5 : f.Bites = [] := by
                  unfold nxt nxtF at h4
                  rw [hf] at h4
                  simp only [Option.bind_some] at h4
                  split at h4
                  · assumption
                  · cases h4
                have hin : inR (a : Int) 0 ((w.Fish.length : Int) - 1) = true := by rw [inR_iff]; omega
                have hlast : ((m : Int) == IntKind.i64.wrap (((worst w x).length : Int) - 1)) = true := by
                  rw [beq_iff_eq, wrap_id] <;> omega
                rw [lp_eq]
                have e : f15_b1 w (worst w x, 0) (m : Int) = some (.inr (.inr true)) := by
                  unfold f15_b1
                  rw [if_pos (by simp only [decide_eq_true_eq]; omega)]
                  simp only [ix_nat, hy, Option.bind_some]
                  rw [h1, f48_eq w _ hs, hin]
                  simp only [Option.bind_some, Bool.not_true, Bool.false_eq_true, if_false, ix_nat, hf, hlast, if_true, h5, known_pure]
                  rfl
                rw [e]
              | succ d ih =>
                intro m hm
                obtain ⟨y, hy⟩ : ∃ y, (worst w x)[m]? = some y := ⟨_, List.getElem?_eq_getElem (by omega)⟩
                obtain ⟨a, h1, h2, h3⟩ := chain_get (n := w.Fish.length) (nxt_lt hw) (x.toNat + 1) x.toNat (by omega) (by omega) m y hy
                obtain ⟨f, hf⟩ : ∃ f, w.Fish[a]? = some f := ⟨_, List.getElem?_eq_getElem h2⟩
                obtain ⟨b, h4, h5⟩ : ∃ b : Nat, nxt w a = some b ∧ (worst w x)[m + 1]? = some (b : Int) := by
                  rcases h3 with h3 | h3
                  · have : m + 1 = (worst w x).length := h3.2
                    omega
                  · exact h3
                have hbm : ∃ c ∈ f.Bites, c.Prey = (b : Int) := by
                  unfold nxt nxtF at h4
                  rw [hf] at h4
                  simp only [Option.bind_some] at h4
                  split at h4
                  · cases h4
                  · rename_i hne
                    obtain ⟨k, c, _, _, _, g4, g5⟩ := pick_mem hw hf hne
                    have := (preys_of hw hf).1 c g5
                    cases h4
                    exact ⟨c, g5, by rw [g4]; omega⟩
                have hin : inR (a : Int) 0 ((w.Fish.length : Int) - 1) = true := by rw [inR_iff]; omega
                have hlast : ((m : Int) == IntKind.i64.wrap (((worst w x).length : Int) - 1)) = false := by
                  rw [beq_eq_false_iff_ne, wrap_id] <;> omega
                rw [lp_eq]
                have e : f15_b1 w (worst w x, 0) (m : Int) = some (.inl ((m + 1 : Nat) : Int)) := by
                  unfold f15_b1
                  rw [if_pos (by simp only [decide_eq_true_eq]; omega)]
                  simp only [ix_nat, hy, Option.bind_some]
                  rw [h1, f48_eq w _ hs, hin]
                  simp only [Option.bind_some, Bool.not_true, Bool.false_eq_true, if_false, ix_nat, hf, hlast]
                  rw [any_bites (by omega) (hs.2 f (List.mem_of_getElem? hf)) h5 hbm]
                  simp only [Option.bind_some, Bool.not_true, Bool.false_eq_true, if_false]
                  rw [wrap_nat (show m < (worst w x).length by omega) (by omega)]
                rw [e]
                exact ih (m + 1) (by omega)
            have := l2 ((worst w x).length - 1) 0 (by omega)
            rw [show ((0 : Nat) : Int) = 0 from rfl] at this
            rw [this]
            simp
end Go.Proofs.Ytgplafckddpnkaa
