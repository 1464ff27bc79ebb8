/-
  The least and greatest levels; the statement BaneSharp, in plain Lean.
-/
import Derived.Test.YtgplafckddpnkaaS2
import Derived.Test.YtgplafckddpnkaaSv
namespace Go.Proofs.Ytgplafckddpnkaa
open Go.RowKit
set_option linter.unusedVariables false

/-- The truth in which all is at one end. -/
def endT (w : TBaneWeb) (most : Bool) : TBaneTruth :=
  ⟨w.Fish.map fun f => if most then f.Base.High else f.Base.Low, w.Fish.map fun f => f.Bites.map fun b => if most then b.Share.High else b.Share.Low⟩
/-- The document's way there. -/
theorem f26_eq (w : TBaneWeb) (most : Bool) (hs : webShort w) : f26 w most = some (endT w most) := by
  have hone : ∀ (hi lo : Int), (if most = true then some hi else some lo : Option Int) = some (if most then hi else lo) := by intro hi lo; cases most <;> rfl
  have inner : ∀ (f : TBaneFish) (a b : TBaneTruth), f.Bites.length ≤ 10 → lp (f26_b1 most f) ([], 0, a, b) = some (f.Bites.map (fun b => if most then b.Share.High else b.Share.Low), a, b) := by
    intro f a b hl
    rw [show (([], (0 : Int), a, b) : List Int × Int × TBaneTruth × TBaneTruth) = (fun k : Nat => ((f.Bites.take k).map (fun b => if most then b.Share.High else b.Share.Low), (k : Int), a, b)) 0 from rfl,
      lp_thru f.Bites (f.Bites.map (fun b => if most then b.Share.High else b.Share.Low), a, b) (fun k => ((f.Bites.take k).map (fun b => if most then b.Share.High else b.Share.Low), (k : Int), a, b)) ?_ ?_]
    · intro k c hc
      have hk := get_lt hc
      unfold f26_b1
      rw [if_pos (by simpa using hk), ix_nat, hc]
      simp only [Option.bind_some, hone, wrap_nat hk (by omega)]
      rw [app_short _ _ (by simp; omega), take_snoc hc, List.map_append]
      rfl
    · unfold f26_b1
      rw [if_neg (by simp), List.take_length]
  unfold f26
  have h0 : ((0 : Int), (⟨[], []⟩ : TBaneTruth), (⟨[], []⟩ : TBaneTruth)) = (fun k : Nat => ((k : Int), (⟨((endT w most).Bases).take k, ((endT w most).Shares).take k⟩ : TBaneTruth), (⟨[], []⟩ : TBaneTruth))) 0 := rfl
  rw [h0, lp_thru w.Fish (endT w most, (⟨[], []⟩ : TBaneTruth)) (fun k => ((k : Int), (⟨((endT w most).Bases).take k, ((endT w most).Shares).take k⟩ : TBaneTruth), (⟨[], []⟩ : TBaneTruth))) ?_ ?_]
  · rfl
  · intro k f hf
    have hk := get_lt hf
    have h12 := hs.1
    have hb : (endT w most).Bases[k]? = some (if most then f.Base.High else f.Base.Low) := by simp [endT, hf]
    have hsh : (endT w most).Shares[k]? = some (f.Bites.map fun b => if most then b.Share.High else b.Share.Low) := by simp [endT, hf]
    unfold f26_b0
    rw [if_pos (by simpa using hk), ix_nat, hf]
    simp only [Option.bind_some, hone, inner f _ _ (hs.2 f (List.mem_of_getElem? hf)), wrap_nat hk (by omega)]
    rw [app_short _ _ (by simp; omega)]
    simp only [Option.bind_some]
    rw [app_short _ _ (by simp; omega), take_snoc hb, take_snoc hsh]
    rfl
  · unfold f26_b0
    have e1 : (endT w most).Bases.take w.Fish.length = (endT w most).Bases := List.take_of_length_le (by simp [endT])
    have e2 : (endT w most).Shares.take w.Fish.length = (endT w most).Shares := List.take_of_length_le (by simp [endT])
    rw [if_neg (by simp), e1, e2]
theorem spanOk_iff {s : TSpan} {m : Int} : spanOk s m = true ↔ 0 ≤ s.Low ∧ s.Low ≤ s.High ∧ s.High ≤ m := by simp [spanOk]
theorem shares_of {w : TBaneWeb} (hw : webOk w = true) {i : Nat} {f : TBaneFish} (hf : w.Fish[i]? = some f) : ∀ b ∈ f.Bites, spanOk b.Share 1000 = true := by
  unfold webOk at hw
  simp only [Bool.and_eq_true] at hw
  have h := (allI_iff _ _ _).1 hw.1 i f hf
  unfold fishOk at h
  simp only [Bool.and_eq_true, decide_eq_true_eq, Nat.zero_add] at h
  intro b hb
  obtain ⟨k, hk⟩ := List.getElem?_of_mem hb
  have h2 := (allI_iff _ _ _).1 h.2.2.2.2 k b hk
  unfold biteOk at h2
  simp only [Bool.and_eq_true] at h2
  exact h2.2.2
/-- It is a truth of the web. -/
theorem endT_ok (w : TBaneWeb) (most : Bool) (hw : webOk w = true) : truthOk w (endT w most) = true := by
  unfold truthOk
  simp only [Bool.and_eq_true, decide_eq_true_eq]
  refine ⟨by simp [endT], by simp [endT], ?_⟩
  rw [allI_iff]
  intro i f hf
  obtain ⟨_, _, q3⟩ := preys_of hw hf
  have hi := get_lt hf
  have hb : (endT w most).Bases.getD i 0 = if most then f.Base.High else f.Base.Low := by simp [endT, hf]
  have hsh : (endT w most).Shares.getD i [] = f.Bites.map fun b => if most then b.Share.High else b.Share.Low := by simp [endT, hf]
  unfold truthAt
  rw [Nat.zero_add, hb, hsh]
  simp only [Bool.and_eq_true, decide_eq_true_eq]
  have := spanOk_iff.1 q3
  refine ⟨inR_iff.2 (by cases most <;> simp <;> omega), by simp, ?_⟩
  rw [allI_iff]
  intro k b hbk
  have hb2 := spanOk_iff.1 (shares_of hw hf b (List.mem_of_getElem? hbk))
  have e : (List.map (fun b : TBaneBite => if most then b.Share.High else b.Share.Low) f.Bites).getD (0 + k) 0 = if most then b.Share.High else b.Share.Low := by simp [hbk]
  rw [e]
  exact inR_iff.2 (by cases most <;> simp <;> omega)
/-- The greatest levels with some tests. -/
def hiL (w : TBaneWeb) (T : Nat → Bool) : Nat → List Int
  | 0 => []
  | n + 1 => hiL w T n ++ [match w.Fish[n]? with
    | none => 0
    | some f => let m := plus f.Base.High (adds (fun k => ((f.Bites.map (·.Share.High)).getD k 0)) (hiL w T n) 0 f.Bites); if T n then (if f.Pass < m then f.Pass else m) else m]
theorem hiL_len (w : TBaneWeb) (T : Nat → Bool) : ∀ n, (hiL w T n).length = n
  | 0 => rfl
  | n + 1 => by simp [hiL, hiL_len w T n]
theorem plus_zero {b : Int} {al : List Int} (h0 : 0 ≤ b) (h1 : b ≤ 1000000) : plus 0 (b :: al) = plus b al := by
  unfold plus
  rw [List.foldl_cons]
  congr 1
  unfold w64
  rw [wrap_id] <;> omega
theorem f72_eq (w : TBaneWeb) (tests : Int) (hs : webShort w) (hw : webOk w = true) : f72 ⟨w, tests⟩ = some (hiL w (bitI tests) w.Fish.length) := by
  unfold f72
  rw [show (([], (0 : Int)) : List Int × Int) = (fun k : Nat => (hiL w (bitI tests) k, (k : Int))) 0 from rfl, lp_thru w.Fish (hiL w (bitI tests) w.Fish.length) (fun k => (hiL w (bitI tests) k, (k : Int))) ?_ ?_]
  · rfl
  · intro i f hf
    have hi := get_lt hf
    have h12 := hs.1
    obtain ⟨q1, q2, q3⟩ := preys_of hw hf
    have q4 := spanOk_iff.1 q3
    unfold f72_b0
    rw [if_pos (by simpa using hi)]
    simp only [ix_nat, hf, Option.bind_some, wrap_nat hi (by omega)]
    rw [f67_eq f f.Base.High (hiL w (bitI tests) i) _ (fun k => ((f.Bites.map (·.Share.High)).getD k 0)) (by rw [hiL_len]; exact q1) (by omega) (fun k hk => by
      unfold f98
      have : f.Bites[k]? = some f.Bites[k] := List.getElem?_eq_getElem hk
      simp [ix_nat, this])]
    rw [plus_zero (by omega) (by omega)]
    simp only [Option.bind_some, shr_nat]
    have hstep : hiL w (bitI tests) (i + 1) = hiL w (bitI tests) i ++ [if bitI tests i then (if f.Pass < plus f.Base.High (adds (fun k => ((f.Bites.map (·.Share.High)).getD k 0)) (hiL w (bitI tests) i) 0 f.Bites) then f.Pass else plus f.Base.High (adds (fun k => ((f.Bites.map (·.Share.High)).getD k 0)) (hiL w (bitI tests) i) 0 f.Bites)) else plus f.Base.High (adds (fun k => ((f.Bites.map (·.Share.High)).getD k 0)) (hiL w (bitI tests) i) 0 f.Bites)] := by
      rw [hiL]; simp only [hf]
    rw [hstep]
    unfold bitI
    have hlen : (hiL w (bitI tests) i).length + 1 ≤ 1073741824 := by rw [hiL_len]; omega
    by_cases hb : (andI .i64 (tests.fdiv (2 ^ min i 64)) 1 == 1) = true
    · simp only [hb, if_true, Option.bind_some]
      rw [app_short _ _ hlen]
      rfl
    · simp only [hb, if_false, Option.bind_some, Bool.false_eq_true]
      rw [app_short _ _ hlen]
      rfl
  · unfold f72_b0
    rw [if_neg (by simp)]
/-- The least levels are those in the truth in which there is least. -/
theorem f71_eq (w : TBaneWeb) (tests : Int) (hs : webShort w) (hw : webOk w = true) : f71 ⟨w, tests⟩ = some (plays w (endT w false) w.Fish.length) := by
  unfold f71
  rw [show (([], (0 : Int)) : List Int × Int) = (fun k : Nat => (plays w (endT w false) k, (k : Int))) 0 from rfl, lp_thru w.Fish (plays w (endT w false) w.Fish.length) (fun k => (plays w (endT w false) k, (k : Int))) ?_ ?_]
  · rfl
  · intro i f hf
    have hi := get_lt hf
    have h12 := hs.1
    obtain ⟨q1, q2, q3⟩ := preys_of hw hf
    have q4 := spanOk_iff.1 q3
    unfold f71_b0
    rw [if_pos (by simpa using hi)]
    simp only [ix_nat, hf, Option.bind_some, wrap_nat hi (by omega)]
    rw [f67_eq f f.Base.Low (plays w (endT w false) i) _ (fun k => ((endT w false).Shares.getD i []).getD k 0) (by rw [plays_len]; exact q1) (by omega) (fun k hk => by
      unfold f97
      have : f.Bites[k]? = some f.Bites[k] := List.getElem?_eq_getElem hk
      simp [ix_nat, this, endT, hf])]
    rw [plus_zero (by omega) (by omega)]
    simp only [Option.bind_some]
    rw [app_short _ _ (by simp [plays_len]; omega)]
    have e1 : (w.Fish.map (·.Bites)).getD i [] = f.Bites := by simp [hf]
    have e2 : (endT w false).Bases.getD i 0 = f.Base.Low := by simp [endT, hf]
    simp only [plays, e1, e2, Option.bind_some]
  · unfold f71_b0
    rw [if_neg (by simp)]
/-- Without tests the greatest levels are those in the truth in which there is most. -/
theorem hiL_none (w : TBaneWeb) (T : Nat → Bool) (hT : ∀ i, i < w.Fish.length → T i = false) : ∀ n, n ≤ w.Fish.length → hiL w T n = plays w (endT w true) n
  | 0, _ => rfl
  | n + 1, h => by
    have ih := hiL_none w T hT n (by omega)
    have hf : w.Fish[n]? = some (w.Fish[n]'(by omega)) := List.getElem?_eq_getElem (by omega)
    have e1 : (w.Fish.map (·.Bites)).getD n [] = (w.Fish[n]'(by omega)).Bites := by simp [hf]
    have e2 : (endT w true).Bases.getD n 0 = (w.Fish[n]'(by omega)).Base.High := by simp [endT, hf]
    have e3 : (endT w true).Shares.getD n [] = (w.Fish[n]'(by omega)).Bites.map (·.Share.High) := by simp [endT, hf]
    rw [hiL, plays, ih]
    simp only [hf, hT n (by omega), e1, e2, e3]
    rfl
theorem bit_zero (i : Nat) : bitI 0 i = false := by
  unfold bitI
  rw [Int.zero_fdiv]
  decide
/-- 'bane.Levels'. -/
def spansL (a b : List Int) : List TSpan := (a.zip b).map fun p => ⟨p.1, p.2⟩
theorem f25_eq (w : TBaneWeb) (hs : webShort w) : f25 w = some (if webOk w = true then (spansL (plays w (endT w false) w.Fish.length) (plays w (endT w true) w.Fish.length), 0) else ([], 2)) := by
  unfold f25
  rw [f65_eq w hs]
  cases hw : webOk w with
  | false => simp
  | true =>
    simp only [Option.bind_some, Bool.not_true, Bool.false_eq_true, if_false, if_true, f71_eq w 0 hs hw, f72_eq w 0 hs hw]
    rw [hiL_none w (bitI 0) (fun i _ => bit_zero i) _ (Nat.le_refl _)]
    obtain ⟨a, ha⟩ : ∃ a, a = plays w (endT w false) w.Fish.length := ⟨_, rfl⟩
    obtain ⟨b, hb⟩ : ∃ b, b = plays w (endT w true) w.Fish.length := ⟨_, rfl⟩
    have la : a.length = w.Fish.length := by rw [ha, plays_len]
    have lb : b.length = w.Fish.length := by rw [hb, plays_len]
    rw [← ha, ← hb]
    have hz : ∀ k, k < w.Fish.length → (spansL a b)[k]? = some ⟨a.getD k 0, b.getD k 0⟩ := fun k hk => by
      simp [spansL, List.getElem?_zip_eq_some, show k < a.length by omega, show k < b.length by omega]
    rw [show (([], (0 : Int), (a, b)) : List TSpan × Int × (List Int × List Int)) = (fun k : Nat => ((spansL a b).take k, (k : Int), (a, b))) 0 from rfl, lp_thru w.Fish (spansL a b, (a, b)) (fun k => ((spansL a b).take k, (k : Int), (a, b))) ?_ ?_]
    · rfl
    · intro k f hf
      have hk := get_lt hf
      have h12 := hs.1
      unfold f25_b0
      rw [if_pos (by simpa using hk)]
      simp only [ix_nat, getD_get 0 (show k < a.length by omega), getD_get 0 (show k < b.length by omega), Option.bind_some, wrap_nat hk (by omega)]
      rw [app_short _ _ (by simp; omega), take_snoc (hz k hk)]
      rfl
    · unfold f25_b0
      rw [if_neg (by simp), List.take_of_length_le (by simp [spansL]; omega)]
theorem baneSharp (w : TBaneWeb) (_ : okTBaneWeb w) : f4 w = some true := by
  obtain ⟨a, ha, hws⟩ := f17_eq w
  unfold f4
  rw [ha, known_pure]
  cases a with
  | false => simp
  | true =>
    have hs := hws rfl
    have h12 := hs.1
    rw [f21_eq w hs]
    cases hw : webOk w with
    | false => simp
    | true =>
      simp only [Option.bind_some, Bool.not_true, Bool.false_eq_true, if_false, f25_eq w hs, f26_eq w _ hs, f20_eq w _ hs, hw, endT_ok w _ hw, Bool.and_self, if_true]
      obtain ⟨a, ha'⟩ : ∃ a, a = plays w (endT w false) w.Fish.length := ⟨_, rfl⟩
      obtain ⟨b, hb'⟩ : ∃ b, b = plays w (endT w true) w.Fish.length := ⟨_, rfl⟩
      have la : a.length = w.Fish.length := by rw [ha', plays_len]
      have lb : b.length = w.Fish.length := by rw [hb', plays_len]
      rw [← ha', ← hb']
      have lz : (spansL a b).length = w.Fish.length := by simp [spansL]; omega
      have hz : ∀ k, k < w.Fish.length → (spansL a b)[k]? = some ⟨a.getD k 0, b.getD k 0⟩ := fun k hk => by
        simp [spansL, List.getElem?_zip_eq_some, show k < a.length by omega, show k < b.length by omega]
      have hl : lp (f4_b0 (spansL a b, 0) (a, 0) (b, 0)) 0 = some (Sum.inl ()) := by
        refine lp_thru (spansL a b) (Sum.inl ()) (fun k => (k : Int)) ?_ ?_
        · intro k s hk
          have hkl := get_lt hk
          rw [lz] at hkl
          have hs' := hz k hkl
          rw [hk] at hs'
          cases hs'
          unfold f4_b0
          rw [if_pos (by simp [lz]; exact hkl)]
          simp only [ix_nat, hk, getD_get 0 (show k < a.length by omega), getD_get 0 (show k < b.length by omega), Option.bind_some, wrap_nat hkl (by omega)]
          simp
        · unfold f4_b0
          rw [if_neg (by simp)]
      rw [hl]
      simp [la, lb, lz]
end Go.Proofs.Ytgplafckddpnkaa
