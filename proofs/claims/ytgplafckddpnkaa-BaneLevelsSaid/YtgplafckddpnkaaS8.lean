/-
  Levels in two webs, one of which holds no less than the other.
-/
import Derived.Test.YtgplafckddpnkaaS7
namespace Go.Proofs.Ytgplafckddpnkaa
open Go.RowKit
set_option linter.unusedVariables false

def addsP (sh : Nat → Int) (out : List Int) : Nat → List Int → List Int
  | _, [] => []
  | k, p :: ps => w64 ((w64 (sh k * out.getD p.toNat 0)).tdiv 1000) :: addsP sh out (k + 1) ps
theorem adds_P (sh : Nat → Int) (out : List Int) : ∀ (bs : List TBaneBite) (k : Nat), adds sh out k bs = addsP sh out k (bs.map (·.Prey))
  | [], _ => rfl
  | b :: bs, k => by simp only [adds, addsP, List.map_cons, adds_P sh out bs]
theorem w64_id {x : Int} (h1 : 0 ≤ x) (h2 : x ≤ 9000000000000000000) : w64 x = x := wrap_id (by omega) (by omega)
theorem term_le {s s' o o' M : Int} (h0 : 0 ≤ s) (h1 : s ≤ s') (h2 : s' ≤ 1000) (g0 : 0 ≤ o) (g1 : o ≤ o') (g2 : o' ≤ M) (hM : M ≤ 1000000000000) :
    0 ≤ w64 ((w64 (s * o)).tdiv 1000) ∧ w64 ((w64 (s * o)).tdiv 1000) ≤ w64 ((w64 (s' * o')).tdiv 1000) ∧ w64 ((w64 (s' * o')).tdiv 1000) ≤ M := by
  have a0 : 0 ≤ s * o := Int.mul_nonneg h0 g0
  have a1 : s * o ≤ s' * o' := Int.mul_le_mul h1 g1 g0 (by omega)
  have a2 : s' * o' ≤ 1000 * M := Int.mul_le_mul h2 g2 (by omega) (by omega)
  generalize s * o = a at *
  generalize s' * o' = a' at *
  rw [w64_id a0 (by omega), w64_id (show 0 ≤ a' by omega) (by omega), Int.tdiv_eq_ediv_of_nonneg a0, Int.tdiv_eq_ediv_of_nonneg (show 0 ≤ a' by omega)]
  rw [w64_id (by omega) (by omega), w64_id (by omega) (by omega)]
  omega
theorem plus_le {sh sh' : Nat → Int} {out out' : List Int} {M : Int} (hM0 : 0 ≤ M) (hM : M ≤ 1000000000000) (hs : ∀ k, 0 ≤ sh k ∧ sh k ≤ sh' k ∧ sh' k ≤ 1000)
    (ho : ∀ j, 0 ≤ out.getD j 0 ∧ out.getD j 0 ≤ out'.getD j 0 ∧ out'.getD j 0 ≤ M) : ∀ (ps : List Int) (k : Nat) (b b' : Int), 0 ≤ b → b ≤ b' → b' + (ps.length : Int) * M ≤ 1000000000000000 →
    0 ≤ plus b (addsP sh out k ps) ∧ plus b (addsP sh out k ps) ≤ plus b' (addsP sh' out' k ps) ∧ plus b' (addsP sh' out' k ps) ≤ b' + (ps.length : Int) * M
  | [], k, b, b', h0, h1, h2 => by simp [addsP, plus]; omega
  | p :: ps, k, b, b', h0, h1, h2 => by
    obtain ⟨t0, t1, t2⟩ := term_le (hs k).1 (hs k).2.1 (hs k).2.2 (ho p.toNat).1 (ho p.toNat).2.1 (ho p.toNat).2.2 hM
    have e : (((p :: ps).length : Nat) : Int) * M = (ps.length : Int) * M + M := by rw [List.length_cons, Int.natCast_add, Int.add_mul]; simp
    have hn : 0 ≤ (ps.length : Int) * M := Int.mul_nonneg (by omega) hM0
    rw [e] at h2 ⊢
    have u : ∀ (n a : Int) (al : List Int), plus n (a :: al) = plus (w64 (n + a)) al := fun _ _ _ => rfl
    rw [addsP, addsP, u, u]
    generalize w64 ((w64 (sh k * out.getD p.toNat 0)).tdiv 1000) = x at *
    generalize w64 ((w64 (sh' k * out'.getD p.toNat 0)).tdiv 1000) = x' at *
    rw [w64_id (show 0 ≤ b + x by omega) (by omega), w64_id (show 0 ≤ b' + x' by omega) (by omega)]
    have ih := plus_le hM0 hM hs ho ps (k + 1) (b + x) (b' + x') (by omega) (by omega) (by omega)
    omega
/-- Levels. -/
def raw (base : Nat → Int) (sh : Nat → Nat → Int) (ps : Nat → List Int) (n : Nat) (out : List Int) : Int := plus (base n) (addsP (sh n) out 0 (ps n))
def levA (base : Nat → Int) (sh : Nat → Nat → Int) (ps : Nat → List Int) (cap : Nat → Int → Int) : Nat → List Int
  | 0 => []
  | n + 1 => levA base sh ps cap n ++ [cap n (raw base sh ps n (levA base sh ps cap n))]
theorem levA_len (base : Nat → Int) (sh : Nat → Nat → Int) (ps : Nat → List Int) (cap : Nat → Int → Int) : ∀ n, (levA base sh ps cap n).length = n
  | 0 => rfl
  | n + 1 => by simp [levA, levA_len base sh ps cap n]
theorem levA_get (base : Nat → Int) (sh : Nat → Nat → Int) (ps : Nat → List Int) (cap : Nat → Int → Int) (i : Nat) : ∀ n, i < n → (levA base sh ps cap n).getD i 0 = cap i (raw base sh ps i (levA base sh ps cap i))
  | 0, h => by omega
  | n + 1, h => by
    have hl := levA_len base sh ps cap n
    have e0 : levA base sh ps cap (n + 1) = levA base sh ps cap n ++ [cap n (raw base sh ps n (levA base sh ps cap n))] := rfl
    rw [e0]
    by_cases e : i = n
    · subst e
      rw [List.getD_eq_getElem?_getD, List.getElem?_append_right (by omega)]
      simp [hl]
    · have ih := levA_get base sh ps cap i n (by omega)
      rw [List.getD_eq_getElem?_getD, List.getElem?_append_left (by omega), ← List.getD_eq_getElem?_getD, ih]
theorem bound_step {n : Nat} (hn : n ≤ 6) : (1000000 : Int) + 6 * (1000000 * 7 ^ n) ≤ 1000000 * 7 ^ (n + 1) ∧ (1000000 : Int) * 7 ^ n ≤ 1000000 * 7 ^ (n + 1) ∧ (0 : Int) ≤ 1000000 * 7 ^ n ∧ (1000000 : Int) * 7 ^ n ≤ 200000000000 := by
  have : n = 0 ∨ n = 1 ∨ n = 2 ∨ n = 3 ∨ n = 4 ∨ n = 5 ∨ n = 6 := by omega
  rcases this with rfl | rfl | rfl | rfl | rfl | rfl | rfl <;> decide
theorem levA_le {base base' : Nat → Int} {sh sh' : Nat → Nat → Int} {ps : Nat → List Int} {cap cap' : Nat → Int → Int} {N : Nat} (hN : N ≤ 7)
    (hb : ∀ i, i < N → 0 ≤ base i ∧ base i ≤ base' i ∧ base' i ≤ 1000000) (hs : ∀ i, i < N → ∀ k, 0 ≤ sh i k ∧ sh i k ≤ sh' i k ∧ sh' i k ≤ 1000) (hp : ∀ i, i < N → (ps i).length ≤ 6)
    (hc : ∀ i, i < N → ∀ m', 0 ≤ raw base sh ps i (levA base sh ps cap i) → raw base sh ps i (levA base sh ps cap i) ≤ m' → 0 ≤ cap i (raw base sh ps i (levA base sh ps cap i)) ∧ cap i (raw base sh ps i (levA base sh ps cap i)) ≤ cap' i m' ∧ cap' i m' ≤ m') :
    ∀ n, n ≤ N → ∀ j, 0 ≤ (levA base sh ps cap n).getD j 0 ∧ (levA base sh ps cap n).getD j 0 ≤ (levA base' sh' ps cap' n).getD j 0 ∧ (levA base' sh' ps cap' n).getD j 0 ≤ 1000000 * 7 ^ n
  | 0, _, j => by simp [levA]
  | n + 1, hn, j => by
    have ih := levA_le hN hb hs hp hc n (by omega)
    obtain ⟨b1, b2, b3, b4⟩ := bound_step (show n ≤ 6 by omega)
    obtain ⟨h1, h2, h3⟩ := hb n (by omega)
    have h6 := hp n (by omega)
    have hm : ((ps n).length : Int) * (1000000 * 7 ^ n) ≤ 6 * (1000000 * 7 ^ n) := Int.mul_le_mul_of_nonneg_right (by omega) b3
    generalize (1000000 : Int) * 7 ^ n = M at *
    generalize (1000000 : Int) * 7 ^ (n + 1) = M' at *
    have key := plus_le b3 (by omega) (hs n (by omega)) ih (ps n) 0 (base n) (base' n) h1 h2 (by omega)
    have hcap := hc n (by omega) (raw base' sh' ps n (levA base' sh' ps cap' n)) key.1 key.2.1
    have l1 := levA_len base sh ps cap n
    have l2 := levA_len base' sh' ps cap' n
    have hj := ih j
    have key3 : raw base' sh' ps n (levA base' sh' ps cap' n) ≤ base' n + ((ps n).length : Int) * M := key.2.2
    by_cases e : j < n
    · have e1 : (levA base sh ps cap (n + 1)).getD j 0 = (levA base sh ps cap n).getD j 0 := by rw [levA, List.getD_eq_getElem?_getD, List.getElem?_append_left (by omega), ← List.getD_eq_getElem?_getD]
      have e2 : (levA base' sh' ps cap' (n + 1)).getD j 0 = (levA base' sh' ps cap' n).getD j 0 := by rw [levA, List.getD_eq_getElem?_getD, List.getElem?_append_left (by omega), ← List.getD_eq_getElem?_getD]
      rw [e1, e2]
      omega
    · by_cases e' : j = n
      · subst e'
        rw [levA_get _ _ _ _ j (j + 1) (by omega), levA_get _ _ _ _ j (j + 1) (by omega)]
        omega
      · have e1 : (levA base sh ps cap (n + 1)).getD j 0 = 0 := by
          rw [List.getD_eq_getElem?_getD, List.getElem?_eq_none (by rw [levA_len]; omega)]; rfl
        have e2 : (levA base' sh' ps cap' (n + 1)).getD j 0 = 0 := by
          rw [List.getD_eq_getElem?_getD, List.getElem?_eq_none (by rw [levA_len]; omega)]; rfl
        rw [e1, e2]
        omega
/-! ### As levels in a web -/
def preysW (w : TBaneWeb) (i : Nat) : List Int := (((w.Fish.map (·.Bites)).getD i []).map (·.Prey))
theorem plays_lev (w : TBaneWeb) (t : TBaneTruth) : ∀ n, plays w t n = levA (fun i => t.Bases.getD i 0) (fun i k => (t.Shares.getD i []).getD k 0) (preysW w) (fun _ m => m) n
  | 0 => rfl
  | n + 1 => by
    rw [plays, levA, ← plays_lev w t n]
    unfold raw
    rw [adds_P]
    rfl
def capW (w : TBaneWeb) (T : Nat → Bool) (i : Nat) (m : Int) : Int := if T i then (if (w.Fish.map (·.Pass)).getD i 0 < m then (w.Fish.map (·.Pass)).getD i 0 else m) else m
theorem hiL_lev (w : TBaneWeb) (T : Nat → Bool) : ∀ n, n ≤ w.Fish.length → hiL w T n = levA (fun i => (endT w true).Bases.getD i 0) (fun i k => ((endT w true).Shares.getD i []).getD k 0) (preysW w) (capW w T) n
  | 0, _ => rfl
  | n + 1, h => by
    have ih := hiL_lev w T n (by omega)
    have hf : w.Fish[n]? = some (w.Fish[n]'(by omega)) := List.getElem?_eq_getElem (by omega)
    have e1 : preysW w n = (w.Fish[n]'(by omega)).Bites.map (·.Prey) := by simp [preysW, hf]
    have e2 : (endT w true).Bases.getD n 0 = (w.Fish[n]'(by omega)).Base.High := by simp [endT, hf]
    have e3 : (endT w true).Shares.getD n [] = (w.Fish[n]'(by omega)).Bites.map (·.Share.High) := by simp [endT, hf]
    have e4 : (w.Fish.map (·.Pass)).getD n 0 = (w.Fish[n]'(by omega)).Pass := by simp [hf]
    rw [levA, ← ih]
    unfold raw capW
    simp only [e1, e2, e3, e4]
    rw [← adds_P, hiL]
    simp only [hf]
end Go.Proofs.Ytgplafckddpnkaa
