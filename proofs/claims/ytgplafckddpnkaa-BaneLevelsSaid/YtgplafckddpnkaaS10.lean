/-
  The statement BaneBetter, in plain Lean: narrower spans and one more test.
-/
import Derived.Test.YtgplafckddpnkaaS9
namespace Go.Proofs.Ytgplafckddpnkaa
open Go.RowKit
set_option linter.unusedVariables false

theorem plays_same {w w' : TBaneWeb} (h : preysW w = preysW w') (t : TBaneTruth) (n : Nat) : plays w t n = plays w' t n := by rw [plays_lev, plays_lev, h]
/-- The levels in a truth lie between those at the two ends. -/
theorem truth_mid (w : TBaneWeb) (t : TBaneTruth) (hw : webOk w = true) (ht : truthOk w t = true) (j : Nat) :
    0 ≤ (plays w (endT w false) w.Fish.length).getD j 0 ∧ (plays w (endT w false) w.Fish.length).getD j 0 ≤ (plays w t w.Fish.length).getD j 0 ∧ (plays w t w.Fish.length).getD j 0 ≤ (plays w (endT w true) w.Fish.length).getD j 0 := by
  have h7 := web_len hw
  have h2 := play_le_hi w t hw ht (fun _ => false) (fun i _ h => by cases h) j
  rw [hiL_none w _ (fun _ _ => rfl) _ (Nat.le_refl _)] at h2
  have key := levA_le (base := fun i => (endT w false).Bases.getD i 0) (base' := fun i => t.Bases.getD i 0) (sh := fun i k => ((endT w false).Shares.getD i []).getD k 0) (sh' := fun i k => (t.Shares.getD i []).getD k 0) (ps := preysW w) (cap := fun _ m => m) (cap' := fun _ m => m) h7
    (fun i hi => by have := truth_base hw ht i hi; omega) (fun i hi k => by have := truth_share hw ht i hi k; omega) (fun i hi => preysW_len hw i hi)
    (fun i hi m' h0 hm' => ⟨h0, hm', Int.le_refl _⟩) w.Fish.length (Nat.le_refl _) j
  rw [← plays_lev, ← plays_lev] at key
  omega
theorem capW_at (w : TBaneWeb) (T : Nat → Bool) (i : Nat) (m : Int) : capW w T i m = if T i then (if (w.Fish.map (·.Pass)).getD i 0 < m then (w.Fish.map (·.Pass)).getD i 0 else m) else m := rfl
/-- More tests, no greater levels. -/
theorem hiL_mono (w : TBaneWeb) (hw : webOk w = true) {T U : Nat → Bool} (h : ∀ i, i < w.Fish.length → T i = true → U i = true) (j : Nat) :
    (hiL w U w.Fish.length).getD j 0 ≤ (hiL w T w.Fish.length).getD j 0 := by
  have h7 := web_len hw
  have ht := endT_ok w true hw
  have key := levA_le (base := fun i => (endT w true).Bases.getD i 0) (base' := fun i => (endT w true).Bases.getD i 0) (sh := fun i k => ((endT w true).Shares.getD i []).getD k 0) (sh' := fun i k => ((endT w true).Shares.getD i []).getD k 0) (ps := preysW w) (cap := capW w U) (cap' := capW w T) h7
    (fun i hi => by have := truth_base hw ht i hi; omega) (fun i hi k => by have := truth_share hw ht i hi k; omega) (fun i hi => preysW_len hw i hi)
    (fun i hi m' h0 hm' => by
      have hf : w.Fish[i]? = some (w.Fish[i]'hi) := List.getElem?_eq_getElem hi
      have e : (w.Fish.map (·.Pass)).getD i 0 = (w.Fish[i]'hi).Pass := by simp [hf]
      have hp := pass_of hw hf
      have hi' := h i hi
      rw [capW_at w U, capW_at w T, e]
      cases hT : T i with
      | true =>
        rw [hi' hT]
        simp only [if_true]
        split <;> split <;> omega
      | false =>
        cases hU : U i <;> simp only [Bool.false_eq_true, if_false, if_true]
        · omega
        · split <;> omega) w.Fish.length (Nat.le_refl _) j
  rw [← hiL_lev w U _ (Nat.le_refl _), ← hiL_lev w T _ (Nat.le_refl _)] at key
  omega
/-- A narrower span. -/
def narS (a b : Int) (s : TSpan) : TSpan := ⟨IntKind.i64.wrap (s.Low + (IntKind.i64.wrap ((IntKind.i64.wrap ((IntKind.i64.wrap (s.High - s.Low)) * a)).tdiv 100))), IntKind.i64.wrap (s.Low + (IntKind.i64.wrap ((IntKind.i64.wrap ((IntKind.i64.wrap (s.High - s.Low)) * b)).tdiv 100)))⟩
theorem narS_in {a b : Int} {s : TSpan} {m : Int} (ha : 0 ≤ a) (hab : a ≤ b) (hb : b ≤ 100) (hm : m ≤ 1000000) (hs : spanOk s m = true) : s.Low ≤ (narS a b s).Low ∧ (narS a b s).Low ≤ (narS a b s).High ∧ (narS a b s).High ≤ s.High := by
  obtain ⟨h1, h2, h3⟩ := spanOk_iff.1 hs
  unfold narS
  simp only
  have e : IntKind.i64.wrap (s.High - s.Low) = s.High - s.Low := by rw [wrap_id] <;> omega
  rw [e]
  have d0 : 0 ≤ s.High - s.Low := by omega
  have m1 : 0 ≤ (s.High - s.Low) * a := Int.mul_nonneg d0 ha
  have m2 : (s.High - s.Low) * a ≤ (s.High - s.Low) * b := Int.mul_le_mul_of_nonneg_left hab d0
  have m3 : (s.High - s.Low) * b ≤ (s.High - s.Low) * 100 := Int.mul_le_mul_of_nonneg_left hb d0
  generalize (s.High - s.Low) * a = p at *
  generalize (s.High - s.Low) * b = q at *
  have w1 : IntKind.i64.wrap p = p := by rw [wrap_id] <;> omega
  have w2 : IntKind.i64.wrap q = q := by rw [wrap_id] <;> omega
  rw [w1, w2, Int.tdiv_eq_ediv_of_nonneg m1, Int.tdiv_eq_ediv_of_nonneg (show 0 ≤ q by omega)]
  have w3 : IntKind.i64.wrap (p / 100) = p / 100 := by rw [wrap_id] <;> omega
  have w4 : IntKind.i64.wrap (q / 100) = q / 100 := by rw [wrap_id] <;> omega
  rw [w3, w4]
  have w5 : IntKind.i64.wrap (s.Low + p / 100) = s.Low + p / 100 := by rw [wrap_id] <;> omega
  have w6 : IntKind.i64.wrap (s.Low + q / 100) = s.Low + q / 100 := by rw [wrap_id] <;> omega
  rw [w5, w6]
  omega
def narB (a b : Int) (x : TBaneBite) : TBaneBite := ⟨x.Prey, narS a b x.Share⟩
def narF (a b : Int) (f : TBaneFish) : TBaneFish := ⟨narS a b f.Base, f.Bites.map (narB a b), f.Pass, f.Cost⟩
def narW (a b : Int) (w : TBaneWeb) : TBaneWeb := ⟨w.Fish.map (narF a b), w.Limit⟩
theorem nar_short {a b : Int} {w : TBaneWeb} (hs : webShort w) : webShort (narW a b w) := by
  refine ⟨by simpa [narW] using hs.1, fun f hf => ?_⟩
  simp only [narW, List.mem_map] at hf
  obtain ⟨g, hg, rfl⟩ := hf
  simpa [narF] using hs.2 g hg
theorem nar_preys {a b : Int} {w : TBaneWeb} : preysW (narW a b w) = preysW w := by
  funext i
  unfold preysW narW
  cases h : w.Fish[i]? with
  | none => simp [h]
  | some f => simp [h, narF, narB, Function.comp_def]
theorem nar_ok {a b : Int} {w : TBaneWeb} (ha : 0 ≤ a) (hab : a ≤ b) (hb : b ≤ 100) (hw : webOk w = true) : webOk (narW a b w) = true := by
  have hsh := fun {i : Nat} {f : TBaneFish} (hf : w.Fish[i]? = some f) => shares_of hw hf
  unfold webOk at hw ⊢
  simp only [Bool.and_eq_true] at hw ⊢
  refine ⟨?_, by simpa [narW] using hw.2.1, hw.2.2⟩
  rw [allI_iff]
  intro i g hg
  simp only [narW, List.getElem?_map, Option.map_eq_some_iff] at hg
  obtain ⟨f, hf, rfl⟩ := hg
  have h := (allI_iff _ _ _).1 hw.1 i f hf
  unfold fishOk at h ⊢
  simp only [Bool.and_eq_true, decide_eq_true_eq] at h ⊢
  obtain ⟨h1, h2, h3, h4, h5⟩ := h
  have hn := narS_in ha hab hb (Int.le_refl _) h1
  have h1' := spanOk_iff.1 h1
  refine ⟨spanOk_iff.2 ⟨by simp only [narF]; omega, by simp only [narF]; omega, by simp only [narF]; omega⟩, by simpa [narF] using h2, h3, h4, ?_⟩
  rw [allI_iff]
  intro k c hc
  simp only [narF, List.getElem?_map, Option.map_eq_some_iff] at hc
  obtain ⟨d, hd, rfl⟩ := hc
  have q := (allI_iff _ _ _).1 h5 k d hd
  unfold biteOk at q ⊢
  simp only [Bool.and_eq_true] at q ⊢
  have hsd := hsh hf d (List.mem_of_getElem? hd)
  have hn2 := narS_in ha hab hb (by omega) hsd
  have hsd' := spanOk_iff.1 hsd
  have e : (((narF a b f).Bites.take (0 + k)).map (·.Prey)) = ((f.Bites.take (0 + k)).map (·.Prey)) := by
    simp only [narF, ← List.map_take, List.map_map]
    rfl
  refine ⟨q.1, ?_, spanOk_iff.2 ⟨by simp only [narB]; omega, by simp only [narB]; omega, by simp only [narB]; omega⟩⟩
  rw [e]
  exact q.2.1
/-- What is a truth of the narrower web is one of the web. -/
theorem nar_truth {a b : Int} {w : TBaneWeb} (ha : 0 ≤ a) (hab : a ≤ b) (hb : b ≤ 100) (hw : webOk w = true) (most : Bool) : truthOk w (endT (narW a b w) most) = true := by
  unfold truthOk
  simp only [Bool.and_eq_true, decide_eq_true_eq]
  refine ⟨by simp [endT, narW], by simp [endT, narW], ?_⟩
  rw [allI_iff]
  intro i f hf
  rw [Nat.zero_add]
  obtain ⟨_, _, q3⟩ := preys_of hw hf
  have hn := narS_in ha hab hb (Int.le_refl _) q3
  have e1 : (endT (narW a b w) most).Bases.getD i 0 = if most then (narS a b f.Base).High else (narS a b f.Base).Low := by simp [endT, narW, hf, narF]
  have e2 : (endT (narW a b w) most).Shares.getD i [] = f.Bites.map fun c => if most then (narS a b c.Share).High else (narS a b c.Share).Low := by simp [endT, narW, hf, narF, narB, Function.comp_def]
  unfold truthAt
  rw [e1, e2]
  simp only [Bool.and_eq_true, decide_eq_true_eq]
  refine ⟨inR_iff.2 (by cases most <;> simp <;> omega), by simp, ?_⟩
  rw [allI_iff]
  intro k c hc
  have hn2 := narS_in ha hab hb (show (1000 : Int) ≤ 1000000 by omega) (shares_of hw hf c (List.mem_of_getElem? hc))
  have e : (List.map (fun c : TBaneBite => if most then (narS a b c.Share).High else (narS a b c.Share).Low) f.Bites).getD (0 + k) 0 = if most then (narS a b c.Share).High else (narS a b c.Share).Low := by simp [hc]
  rw [e]
  exact inR_iff.2 (by cases most <;> simp <;> omega)
/-! ### The document's way of making it narrower -/
def mixB (a b : Int) (l : List TBaneBite) (k : Nat) : List TBaneBite := l.mapIdx fun i x => if i < k then narB a b x else x
theorem mixB_step {a b : Int} {l : List TBaneBite} {k : Nat} {x : TBaneBite} (h : l[k]? = some x) : (mixB a b l k).set k (narB a b x) = mixB a b l (k + 1) := by
  apply List.ext_getElem?
  intro i
  have hk := get_lt h
  rw [List.getElem?_set]
  unfold mixB
  rw [List.length_mapIdx, List.getElem?_mapIdx, List.getElem?_mapIdx]
  by_cases e : k = i
  · subst e
    have hx : l[k] = x := by have h' := h; rw [List.getElem?_eq_getElem hk] at h'; exact Option.some.inj h'
    simp [hk, hx]
  · rw [if_neg e]
    have : (i < k + 1) ↔ i < k := by omega
    simp only [this]
theorem mixB_zero {a b : Int} {l : List TBaneBite} : mixB a b l 0 = l := by
  unfold mixB
  apply List.ext_getElem?
  intro i
  rw [List.getElem?_mapIdx]
  cases l[i]? <;> simp
theorem mixB_all {a b : Int} {l : List TBaneBite} : mixB a b l l.length = l.map (narB a b) := by
  unfold mixB
  apply List.ext_getElem?
  intro i
  rw [List.getElem?_mapIdx, List.getElem?_map]
  cases h : l[i]? with
  | none => rfl
  | some x => have := get_lt h; simp [this]
theorem setIx_nat {α : Type} {xs : List α} {k : Nat} {y : α} (h : k < xs.length) : setIx xs (k : Int) y = some (xs.set k y) := by
  unfold setIx
  rw [if_pos ⟨by omega, by simpa using h⟩]
  rfl
theorem f11_b1_eq (a b : Int) (f : TBaneFish) (v : TBaneWeb) (hl : f.Bites.length ≤ 10) : lp (f11_b1 a b) (0, (⟨narS a b f.Base, f.Bites, f.Pass, f.Cost⟩ : TBaneFish), v) = some (narF a b f, v) := by
  have e0 : ((0 : Int), (⟨narS a b f.Base, f.Bites, f.Pass, f.Cost⟩ : TBaneFish), v) = (fun k : Nat => ((k : Int), (⟨narS a b f.Base, mixB a b f.Bites k, f.Pass, f.Cost⟩ : TBaneFish), v)) 0 := by
    simp only [mixB_zero]; rfl
  rw [e0]
  refine lp_thru f.Bites _ (fun k => ((k : Int), (⟨narS a b f.Base, mixB a b f.Bites k, f.Pass, f.Cost⟩ : TBaneFish), v)) ?_ ?_
  · intro k x hx
    have hk := get_lt hx
    have hml : (mixB a b f.Bites k).length = f.Bites.length := by simp [mixB]
    have hg : (mixB a b f.Bites k)[k]? = some x := by simp [mixB, List.getElem?_mapIdx, hx]
    unfold f11_b1
    have c : (k : Int) < ((mixB a b f.Bites k).length : Int) := by omega
    simp only [c, decide_true, if_true, ix_nat, hg, Option.bind_some, f49, wrap_nat hk (by omega)]
    rw [setIx_nat (by omega)]
    simp only [Option.bind_some]
    have := mixB_step (a := a) (b := b) hx
    unfold narB narS at this
    rw [this]
  · unfold f11_b1
    have hml : (mixB a b f.Bites f.Bites.length).length = f.Bites.length := by simp [mixB]
    have c : ¬ ((f.Bites.length : Nat) : Int) < ((mixB a b f.Bites f.Bites.length).length : Int) := by omega
    simp only [c, decide_false, Bool.false_eq_true, if_false]
    rw [mixB_all]
    rfl
def moreT (x2 : List Int) (x5 : Int) (n : Nat) : List Int := ((List.range n).filter fun i : Nat => (((i : Int) == x5) || x2.contains (i : Int))).map fun i : Nat => (i : Int)
theorem moreT_incr (x2 : List Int) (x5 : Int) (n : Nat) : incr (moreT x2 x5 n) (n : Int) = true := by
  rw [incr_iff]
  refine ⟨fun y hy => ?_, ?_⟩
  · simp only [moreT, List.mem_map, List.mem_filter, List.mem_range] at hy
    obtain ⟨i, ⟨h1, _⟩, rfl⟩ := hy
    omega
  · unfold moreT
    rw [List.pairwise_map]
    refine (List.Pairwise.filter _ List.pairwise_lt_range).imp ?_
    intro a b h; omega
theorem moreT_has {x2 : List Int} {x5 : Int} {n i : Nat} (hi : i < n) (h : x2.contains (i : Int) = true) : (moreT x2 x5 n).contains (i : Int) = true := by
  rw [List.contains_iff_mem]
  simp only [moreT, List.mem_map, List.mem_filter, List.mem_range]
  exact ⟨i, ⟨hi, by rw [h]; simp⟩, rfl⟩
theorem f11_b0_eq (w : TBaneWeb) (x2 : List Int) (a b x5 : Int) (hs : webShort w) (h2 : x2.length ≤ 12) : lp (f11_b0 w x2 a b x5) ([], 0, (⟨[], w.Limit⟩ : TBaneWeb)) = some (moreT x2 x5 w.Fish.length, narW a b w) := by
  have h12 := hs.1
  have hml : ∀ k, (moreT x2 x5 k).length ≤ k := fun k => by
    unfold moreT
    rw [List.length_map]
    exact Nat.le_trans (List.length_filter_le _ _) (by simp)
  refine lp_thru w.Fish _ (fun k => (moreT x2 x5 k, (k : Int), (⟨(narW a b w).Fish.take k, w.Limit⟩ : TBaneWeb))) ?_ ?_
  · intro k f hf
    have hk := get_lt hf
    have hg : (narW a b w).Fish[k]? = some (narF a b f) := by simp [narW, hf]
    have hll := hml k
    unfold f11_b0
    have c : (k : Int) < (w.Fish.length : Int) := by omega
    simp only [c, decide_true, if_true, ix_nat, hf, Option.bind_some, wrap_nat hk (by omega)]
    have hfl := hs.2 f (List.mem_of_getElem? hf)
    rw [app_short [] f.Bites (by simp; omega)]
    have e49 : f49 f.Base a b = some (narS a b f.Base) := rfl
    rw [e49]
    simp only [Option.bind_some, List.nil_append]
    rw [f11_b1_eq a b f _ hfl]
    simp only [Option.bind_some]
    have et : (⟨(⟨(narF a b f).Base.Low, (narF a b f).Base.High⟩ : TSpan), (narF a b f).Bites, (narF a b f).Pass, (narF a b f).Cost⟩ : TBaneFish) = narF a b f := rfl
    rw [et, app_short _ _ (by simp; omega), ← take_snoc hg, f38_eq x2 _ (by omega)]
    have hstep : moreT x2 x5 (k + 1) = moreT x2 x5 k ++ if (((k : Int) == x5) || x2.contains (k : Int)) = true then [(k : Int)] else [] := by
      unfold moreT
      rw [List.range_succ, List.filter_append, List.map_append]
      congr 1
      cases h : (((k : Int) == x5) || x2.contains (k : Int)) <;> simp only [List.filter_cons, h, List.filter_nil] <;> simp
    rw [hstep]
    cases h1 : ((k : Int) == x5) with
    | true =>
      simp only [if_true, Option.bind_some, Bool.true_or]
      rw [app_short _ _ (by simp; omega)]
      rfl
    | false =>
      simp only [Bool.false_eq_true, if_false, Option.bind_some, Bool.false_or]
      cases h2 : x2.contains (k : Int) with
      | true =>
        simp only [if_true]
        rw [app_short _ _ (by simp; omega)]
        rfl
      | false => simp
  · unfold f11_b0
    have c : ¬ ((w.Fish.length : Nat) : Int) < (w.Fish.length : Int) := by omega
    simp only [c, decide_false, Bool.false_eq_true, if_false]
    rw [List.take_of_length_le (by simp [narW])]
    rfl
theorem baneBetter (w : TBaneWeb) (x1 x2 : List Int) (x3 x4 x5 : Int) (_ : okTBaneWeb w) (_ : ∀ y ∈ x1, okI y) (_ : ∀ y ∈ x2, okI y) (_ : okI x3) (_ : okI x4) (_ : okI x5) : f11 w x1 x2 x3 x4 x5 = some true := by
  obtain ⟨a, ha, hws⟩ := f17_eq w
  unfold f11
  rw [ha, known_pure]
  cases a with
  | false => simp
  | true =>
    have hs := hws rfl
    have h12 := hs.1
    rw [len_dec (l := x1) (c := 12) (n := 12) rfl, len_dec (l := x2) (c := 12) (n := 12) rfl]
    by_cases h1 : x1.length ≤ 12
    · by_cases h2 : x2.length ≤ 12
      · simp only [h1, h2, decide_true, Bool.not_true, Bool.false_eq_true, if_false, Option.bind_some]
        rw [f21_eq w hs, f43_eq x1 _ (by omega) (by omega), f43_eq x2 _ (by omega) (by omega)]
        cases hw : webOk w with
        | false => simp
        | true =>
          cases hi : incr x1 (w.Fish.length : Int) with
          | false => simp
          | true =>
            cases hi2 : incr x2 (w.Fish.length : Int) with
            | false => simp
            | true =>
              by_cases h3 : x3 < 0
              · simp [h3]
              · by_cases h4 : x4 < x3
                · simp [h3, h4]
                · by_cases h5 : 100 < x4
                  · simp [h3, h4, h5]
                  · simp only [Bool.not_true, Bool.false_eq_true, if_false, Option.bind_some, h3, h4, h5, decide_false, f48, f69_eq]
                    cases inR x5 0 (IntKind.i64.wrap ((w.Fish.length : Int) - 1)) with
                    | false => simp
                    | true =>
                      simp only [Bool.not_true, Bool.false_eq_true, if_false]
                      rw [f11_b0_eq w x2 x3 x4 x5 hs h2, f25_eq w hs]
                      simp only [Option.bind_some]
                      have hml := incr_len (moreT_incr x2 x5 w.Fish.length)
                      have hwn := nar_ok (show 0 ≤ x3 by omega) (show x3 ≤ x4 by omega) (show x4 ≤ 100 by omega) hw
                      have hn : (narW x3 x4 w).Fish.length = w.Fish.length := by simp [narW]
                      have et : (⟨(narW x3 x4 w).Fish, (narW x3 x4 w).Limit⟩ : TBaneWeb) = narW x3 x4 w := rfl
                      rw [et, f25_eq _ (nar_short hs), f41_eq w x1 x2 hs (by omega) (by omega), f41_eq w x1 _ hs (by omega) (by omega), hw, hwn, hi, hi2, moreT_incr]
                      simp only [Bool.and_self, if_true, Option.bind_some, bne_self_eq_false, Bool.false_eq_true, if_false]
                      have hlow := fun j => (truth_mid w _ hw (nar_truth (show 0 ≤ x3 by omega) (show x3 ≤ x4 by omega) (show x4 ≤ 100 by omega) hw false) j).2.1
                      have hhigh := fun j => (truth_mid w _ hw (nar_truth (show 0 ≤ x3 by omega) (show x3 ≤ x4 by omega) (show x4 ≤ 100 by omega) hw true) j).2.2
                      have el := fun t => plays_same (w := narW x3 x4 w) (w' := w) nar_preys t (narW x3 x4 w).Fish.length
                      rw [el, el, hn]
                      have hsuf : sufW w x1 x2 = true → sufW w x1 (moreT x2 x5 w.Fish.length) = true := by
                        unfold sufW sufB
                        rw [allI_iff, allI_iff]
                        intro h j y hy
                        have := h j y hy
                        have hm := hiL_mono w hw (T := fun i => x2.contains (i : Int)) (U := fun i => (moreT x2 x5 w.Fish.length).contains (i : Int)) (fun i hi' hc => moreT_has hi' hc) y.toNat
                        simp only [Bool.not_eq_true', decide_eq_false_iff_not] at this ⊢
                        omega
                      obtain ⟨A, hA⟩ : ∃ A, A = plays w (endT w false) w.Fish.length := ⟨_, rfl⟩
                      obtain ⟨B, hB⟩ : ∃ B, B = plays w (endT w true) w.Fish.length := ⟨_, rfl⟩
                      obtain ⟨A', hA'⟩ : ∃ A', A' = plays w (endT (narW x3 x4 w) false) w.Fish.length := ⟨_, rfl⟩
                      obtain ⟨B', hB'⟩ : ∃ B', B' = plays w (endT (narW x3 x4 w) true) w.Fish.length := ⟨_, rfl⟩
                      have la : A.length = w.Fish.length := by rw [hA, plays_len]
                      have lb : B.length = w.Fish.length := by rw [hB, plays_len]
                      have la' : A'.length = w.Fish.length := by rw [hA', plays_len]
                      have lb' : B'.length = w.Fish.length := by rw [hB', plays_len]
                      rw [← hA, ← hA'] at hlow
                      rw [← hB, ← hB'] at hhigh
                      rw [← hA, ← hA', ← hB, ← hB']
                      have lz : (spansL A B).length = w.Fish.length := by simp [spansL]; omega
                      have lz' : (spansL A' B').length = w.Fish.length := by simp [spansL]; omega
                      have hz : ∀ k, k < w.Fish.length → (spansL A B)[k]? = some ⟨A.getD k 0, B.getD k 0⟩ := fun k hk => by
                        simp [spansL, List.getElem?_zip_eq_some, show k < A.length by omega, show k < B.length by omega]
                      have hz' : ∀ k, k < w.Fish.length → (spansL A' B')[k]? = some ⟨A'.getD k 0, B'.getD k 0⟩ := fun k hk => by
                        simp [spansL, List.getElem?_zip_eq_some, show k < A'.length by omega, show k < B'.length by omega]
                      have hl : lp (f11_b2 (spansL A B, 0) (spansL A' B', 0)) (0, narW x3 x4 w) = some (Sum.inl (narW x3 x4 w)) := by
                        refine lp_thru (List.range w.Fish.length) _ (fun k => ((k : Int), narW x3 x4 w)) ?_ ?_
                        · intro k y hy
                          have hk : k < w.Fish.length := by have := get_lt hy; simpa using this
                          have c1 : ¬ A'.getD k 0 < A.getD k 0 := by have := hlow k; omega
                          have c2 : ¬ B.getD k 0 < B'.getD k 0 := by have := hhigh k; omega
                          have c : (k : Int) < ((spansL A B).length : Int) := by omega
                          unfold f11_b2
                          simp only [c, decide_true, if_true, ix_nat, hz k hk, hz' k hk, Option.bind_some, wrap_nat hk (by omega), c1, c2, decide_false, Bool.false_eq_true, if_false]
                        · unfold f11_b2
                          have c : ¬ (((List.range w.Fish.length).length : Nat) : Int) < ((spansL A B).length : Int) := by rw [List.length_range]; omega
                          simp only [c, decide_false, Bool.false_eq_true, if_false]
                      have hq : (if sufW w x1 x2 = true then some (!sufW w x1 (moreT x2 x5 w.Fish.length)) else some false : Option Bool) = some false := by
                        cases h : sufW w x1 x2 with
                        | false => rfl
                        | true => rw [hsuf h]; rfl
                      rw [lz, lz', hq, hl]
                      simp
      · simp [h1, h2]
    · simp [h1]
end Go.Proofs.Ytgplafckddpnkaa
