/-
  The statement BaneSafe, in plain Lean.
-/
import Derived.Test.YtgplafckddpnkaaS8
namespace Go.Proofs.Ytgplafckddpnkaa
open Go.RowKit
set_option linter.unusedVariables false

theorem web_len {w : TBaneWeb} (hw : webOk w = true) : w.Fish.length ≤ 7 := by
  unfold webOk at hw
  simp only [Bool.and_eq_true] at hw
  have := (inR_iff.1 hw.2.1).2
  omega
theorem pass_of {w : TBaneWeb} (hw : webOk w = true) {i : Nat} {f : TBaneFish} (hf : w.Fish[i]? = some f) : 0 ≤ f.Pass ∧ f.Pass ≤ 1000000 := by
  unfold webOk at hw
  simp only [Bool.and_eq_true] at hw
  have h := (allI_iff _ _ _).1 hw.1 i f hf
  unfold fishOk at h
  simp only [Bool.and_eq_true] at h
  exact inR_iff.1 h.2.2.1
theorem preysW_len {w : TBaneWeb} (hw : webOk w = true) (i : Nat) (hi : i < w.Fish.length) : (preysW w i).length ≤ 6 := by
  have hf : w.Fish[i]? = some (w.Fish[i]'hi) := List.getElem?_eq_getElem hi
  have e : preysW w i = (w.Fish[i]'hi).Bites.map (·.Prey) := by simp [preysW, hf]
  rw [e, List.length_map]
  exact (preys_of hw hf).2.1
/-- A truth lies between the two ends. -/
theorem truth_base {w : TBaneWeb} {t : TBaneTruth} (hw : webOk w = true) (ht : truthOk w t = true) (i : Nat) (hi : i < w.Fish.length) :
    0 ≤ (endT w false).Bases.getD i 0 ∧ (endT w false).Bases.getD i 0 ≤ t.Bases.getD i 0 ∧ t.Bases.getD i 0 ≤ (endT w true).Bases.getD i 0 ∧ (endT w true).Bases.getD i 0 ≤ 1000000 := by
  have hf : w.Fish[i]? = some (w.Fish[i]'hi) := List.getElem?_eq_getElem hi
  obtain ⟨_, _, q3⟩ := preys_of hw hf
  have q4 := spanOk_iff.1 q3
  unfold truthOk at ht
  simp only [Bool.and_eq_true] at ht
  have h := (allI_iff _ _ _).1 ht.2.2 i _ hf
  unfold truthAt at h
  simp only [Bool.and_eq_true, Nat.zero_add] at h
  have h1 := inR_iff.1 h.1
  have e1 : (endT w true).Bases.getD i 0 = (w.Fish[i]'hi).Base.High := by simp [endT, hf]
  have e2 : (endT w false).Bases.getD i 0 = (w.Fish[i]'hi).Base.Low := by simp [endT, hf]
  rw [e1, e2]
  omega
theorem truth_share {w : TBaneWeb} {t : TBaneTruth} (hw : webOk w = true) (ht : truthOk w t = true) (i : Nat) (hi : i < w.Fish.length) (k : Nat) :
    0 ≤ ((endT w false).Shares.getD i []).getD k 0 ∧ ((endT w false).Shares.getD i []).getD k 0 ≤ (t.Shares.getD i []).getD k 0 ∧ (t.Shares.getD i []).getD k 0 ≤ ((endT w true).Shares.getD i []).getD k 0 ∧ ((endT w true).Shares.getD i []).getD k 0 ≤ 1000 := by
  have hf : w.Fish[i]? = some (w.Fish[i]'hi) := List.getElem?_eq_getElem hi
  unfold truthOk at ht
  simp only [Bool.and_eq_true] at ht
  have h := (allI_iff _ _ _).1 ht.2.2 i _ hf
  unfold truthAt at h
  simp only [Bool.and_eq_true, Nat.zero_add, decide_eq_true_eq] at h
  have e1 : (endT w true).Shares.getD i [] = (w.Fish[i]'hi).Bites.map (·.Share.High) := by simp [endT, hf]
  have e2 : (endT w false).Shares.getD i [] = (w.Fish[i]'hi).Bites.map (·.Share.Low) := by simp [endT, hf]
  rw [e1, e2]
  by_cases hk : k < (w.Fish[i]'hi).Bites.length
  · have hb : (w.Fish[i]'hi).Bites[k]? = some ((w.Fish[i]'hi).Bites[k]'hk) := List.getElem?_eq_getElem hk
    have h2 := inR_iff.1 ((allI_iff _ _ _).1 h.2.2 k _ hb)
    rw [Nat.zero_add] at h2
    have h3 := spanOk_iff.1 (shares_of hw hf _ (List.mem_of_getElem? hb))
    have g1 : ((w.Fish[i]'hi).Bites.map (·.Share.High)).getD k 0 = ((w.Fish[i]'hi).Bites[k]'hk).Share.High := by simp [hb]
    have g2 : ((w.Fish[i]'hi).Bites.map (·.Share.Low)).getD k 0 = ((w.Fish[i]'hi).Bites[k]'hk).Share.Low := by simp [hb]
    rw [g1, g2]
    omega
  · have g1 : ((w.Fish[i]'hi).Bites.map (·.Share.High)).getD k 0 = 0 := by
      rw [List.getD_eq_getElem?_getD, List.getElem?_eq_none (by simp; omega)]; rfl
    have g2 : ((w.Fish[i]'hi).Bites.map (·.Share.Low)).getD k 0 = 0 := by
      rw [List.getD_eq_getElem?_getD, List.getElem?_eq_none (by simp; omega)]; rfl
    have g3 : (t.Shares.getD i []).getD k 0 = 0 := by
      rw [List.getD_eq_getElem?_getD, List.getElem?_eq_none (by rw [h.2.1]; omega)]; rfl
    rw [g1, g2, g3]
    omega
/-- In no truth does more stand than the greatest levels say. -/
theorem play_le_hi (w : TBaneWeb) (t : TBaneTruth) (hw : webOk w = true) (ht : truthOk w t = true) (T : Nat → Bool)
    (hT : ∀ i, i < w.Fish.length → T i = true → (plays w t w.Fish.length).getD i 0 ≤ (w.Fish.map (·.Pass)).getD i 0) (j : Nat) :
    0 ≤ (plays w t w.Fish.length).getD j 0 ∧ (plays w t w.Fish.length).getD j 0 ≤ (hiL w T w.Fish.length).getD j 0 := by
  have h7 := web_len hw
  have key := levA_le (base := fun i => t.Bases.getD i 0) (base' := fun i => (endT w true).Bases.getD i 0) (sh := fun i k => (t.Shares.getD i []).getD k 0) (sh' := fun i k => ((endT w true).Shares.getD i []).getD k 0) (ps := preysW w) (cap := fun _ m => m) (cap' := capW w T) h7
    (fun i hi => by have := truth_base hw ht i hi; omega) (fun i hi k => by have := truth_share hw ht i hi k; omega) (fun i hi => preysW_len hw i hi)
    (fun i hi m' h0 hm' => by
      have hx := hT i hi
      rw [plays_lev, levA_get _ _ _ _ i _ hi] at hx
      unfold capW
      cases hTi : T i with
      | true =>
        have := hx hTi
        simp only [if_true]
        split <;> omega
      | false => simp only [Bool.false_eq_true, if_false]; omega) w.Fish.length (Nat.le_refl _) j
  rw [← plays_lev, ← hiL_lev w T _ (Nat.le_refl _)] at key
  omega
theorem baneSafe (w : TBaneWeb) (t : TBaneTruth) (x2 x3 : List Int) (_ : okTBaneWeb w) (_ : okTBaneTruth t) (_ : ∀ y ∈ x2, okI y) (_ : ∀ y ∈ x3, okI y) : f9 w t x2 x3 = some true := by
  obtain ⟨a, ha, hws⟩ := f17_eq w
  obtain ⟨b, hb, hts⟩ := f18_eq t
  unfold f9
  rw [ha, hb, known_pure]
  cases a with
  | false => simp
  | true =>
    cases b with
    | false => simp
    | true =>
      have hs := hws rfl
      have h12 := hs.1
      rw [len_dec (l := x2) (c := 12) (n := 12) rfl, len_dec (l := x3) (c := 12) (n := 12) rfl]
      by_cases h1 : x2.length ≤ 12
      · by_cases h2 : x3.length ≤ 12
        · simp only [h1, h2, decide_true, Bool.not_true, Bool.false_eq_true, if_false, Option.bind_some]
          rw [f41_eq w x2 x3 hs (by omega) (by omega), f20_eq w t hs, f21_eq w hs, f22_eq w t hs, f43_eq x2 _ (by omega) (by omega), f43_eq x3 _ (by omega) (by omega)]
          cases hw : webOk w with
          | false => simp
          | true =>
            cases ht : truthOk w t with
            | false => simp
            | true =>
              cases hi : incr x2 (w.Fish.length : Int) with
              | false => simp
              | true =>
                cases hi2 : incr x3 (w.Fish.length : Int) with
                | false => simp
                | true =>
                  simp only [Bool.and_self, if_true, Bool.false_eq_true, if_false, Option.bind_some, Bool.not_true, bne_self_eq_false, plays_len]
                  have hl := plays_len w t w.Fish.length
                  have hplay := play_le_hi w t hw ht (fun i => x3.contains (i : Int))
                  obtain ⟨L, hL⟩ : ∃ L, L = plays w t w.Fish.length := ⟨_, rfl⟩
                  rw [← hL] at hl hplay ⊢
                  have h3 : lp (f9_b0 w x3 (L, 0)) 0 = some (if allI (fun _ y => !decide ((w.Fish.map (·.Pass)).getD y.toNat 0 < L.getD y.toNat 0)) 0 x3 = true then .inl () else .inr true) := by
                    refine lp_all x3 _ (Sum.inr true) (Sum.inl ()) (fun k => (k : Int)) ?_ ?_
                    · intro k y hy
                      have hk := get_lt hy
                      obtain ⟨q1, q2⟩ := (incr_iff.1 hi2).1 y (List.mem_of_getElem? hy)
                      have hf : w.Fish[y.toNat]? = some (w.Fish[y.toNat]'(by omega)) := List.getElem?_eq_getElem (by omega)
                      have e : (w.Fish.map (·.Pass)).getD y.toNat 0 = (w.Fish[y.toNat]'(by omega)).Pass := by simp [hf]
                      unfold f9_b0
                      rw [if_pos (by simpa using hk), ix_nat, hy, wrap_nat hk (by omega)]
                      simp only [Option.bind_some, ix_int q1, getD_get 0 (show y.toNat < L.length by omega), hf, known_pure]
                      rw [e]
                      cases decide ((w.Fish[y.toNat]'(by omega)).Pass < L.getD y.toNat 0) <;> simp
                    · unfold f9_b0
                      simp
                  rw [h3]
                  cases hall : allI (fun _ (y : Int) => !decide ((w.Fish.map (·.Pass)).getD y.toNat 0 < L.getD y.toNat 0)) 0 x3 with
                  | false => rfl
                  | true =>
                    have hpl := hplay fun i hi' hc => by
                      obtain ⟨k, hk⟩ := List.getElem?_of_mem (List.contains_iff_mem.1 hc)
                      have := (allI_iff _ _ _).1 hall k _ hk
                      simp only [Bool.not_eq_true', decide_eq_false_iff_not, Int.toNat_natCast] at this
                      omega
                    have h4 : lp (f9_b1 w x2 (sufW w x2 x3, 0) (L, 0)) 0 = some (.inl ()) := by
                      refine lp_thru x2 (Sum.inl ()) (fun k => (k : Int)) ?_ ?_
                      · intro k y hy
                        have hk := get_lt hy
                        obtain ⟨q1, q2⟩ := (incr_iff.1 hi).1 y (List.mem_of_getElem? hy)
                        unfold f9_b1
                        rw [if_pos (by simpa using hk), ix_nat, hy, wrap_nat hk (by omega)]
                        cases hsu : sufW w x2 x3 with
                        | false => simp
                        | true =>
                          unfold sufW sufB at hsu
                          have h5 := (allI_iff _ _ _).1 hsu k y hy
                          simp only [Bool.not_eq_true', decide_eq_false_iff_not] at h5
                          have h6 := (hpl y.toNat).2
                          have h7 : ¬ w.Limit < L.getD y.toNat 0 := by omega
                          simp only [if_true, Option.bind_some, ix_int q1, getD_get 0 (show y.toNat < L.length by omega), h7, decide_false, Bool.false_eq_true, if_false]
                      · unfold f9_b1
                        simp
                    simp only [if_true, Option.bind_some, Sum.elim_inl, h4]
        · simp [h1, h2]
      · simp [h1]
end Go.Proofs.Ytgplafckddpnkaa
