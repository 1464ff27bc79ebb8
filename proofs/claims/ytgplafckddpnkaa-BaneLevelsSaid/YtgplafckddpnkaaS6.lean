/-
  Tests in Bane's webs: the program's way and the document's; the statements BaneTests and BaneRivals, in plain Lean.
-/
import Derived.Test.YtgplafckddpnkaaS5
import Derived.Test.YtgplafckddpnkaaS3
namespace Go.Proofs.Ytgplafckddpnkaa
open Go.RowKit
set_option linter.unusedVariables false

theorem hiL_congr (w : TBaneWeb) {T U : Nat → Bool} : ∀ n, (∀ i, i < n → T i = U i) → hiL w T n = hiL w U n
  | 0, _ => rfl
  | n + 1, h => by rw [hiL, hiL, hiL_congr w n (fun i hi => h i (by omega)), h n (by omega)]
theorem share_high (f : TBaneFish) {k : Nat} {b : TBaneBite} (hb : f.Bites[k]? = some b) : (f.Bites.map (·.Share.High)).getD k 0 = b.Share.High := by simp [hb]
theorem f92_b1_eq (f : TBaneFish) (out : List Int) (i : Nat) (hp : preysIn out.length f.Bites) (hl : f.Bites.length ≤ 10) :
    lp (f92_b1 (out, (i : Int)) f) (f.Base.High, 0) = some (plus f.Base.High (adds (fun k => (f.Bites.map (·.Share.High)).getD k 0) out 0 f.Bites)) := by
  refine lp_thru f.Bites _ (fun k => (plus f.Base.High ((adds (fun k => (f.Bites.map (·.Share.High)).getD k 0) out 0 f.Bites).take k), (k : Int))) ?_ ?_
  · intro k b hb
    have hk := get_lt hb
    have ha := adds_get (fun k => (f.Bites.map (·.Share.High)).getD k 0) out f.Bites 0 k b hb
    rw [Nat.zero_add, share_high f hb] at ha
    unfold f92_b1
    rw [if_pos (by simpa using hk), ix_nat, hb]
    simp only [Option.bind_some, ix_prey hp (List.mem_of_getElem? hb), wrap_nat hk (by omega)]
    rw [take_snoc ha, plus_snoc]
    rfl
  · unfold f92_b1
    rw [if_neg (by simp), List.take_of_length_le (by rw [adds_len]; exact Nat.le_refl _)]
/-- The document's greatest levels. -/
theorem f92_eq (w : TBaneWeb) (l : List Int) (hs : webShort w) (hw : webOk w = true) (hl : l.length ≤ 1000) : f92 w l = some (hiL w (fun i => l.contains (i : Int)) w.Fish.length) := by
  unfold f92
  have h : lp (f92_b0 w l) ([], 0) = some (hiL w (fun i => l.contains (i : Int)) w.Fish.length) := by
    refine lp_thru w.Fish _ (fun k => (hiL w (fun i => l.contains (i : Int)) k, (k : Int))) ?_ ?_
    · intro i f hf
      have hi := get_lt hf
      have h12 := hs.1
      obtain ⟨q1, q2, q3⟩ := preys_of hw hf
      unfold f92_b0
      rw [if_pos (by simpa using hi)]
      simp only [ix_nat, hf, Option.bind_some, wrap_nat hi (by omega)]
      rw [f92_b1_eq f _ i (by rw [hiL_len]; exact q1) (by omega)]
      simp only [Option.bind_some, f38_eq l _ hl]
      have hstep : hiL w (fun i => l.contains (i : Int)) (i + 1) = hiL w (fun i => l.contains (i : Int)) i ++ [if l.contains (i : Int) then (if f.Pass < plus f.Base.High (adds (fun k => ((f.Bites.map (·.Share.High)).getD k 0)) (hiL w (fun i => l.contains (i : Int)) i) 0 f.Bites) then f.Pass else plus f.Base.High (adds (fun k => ((f.Bites.map (·.Share.High)).getD k 0)) (hiL w (fun i => l.contains (i : Int)) i) 0 f.Bites)) else plus f.Base.High (adds (fun k => ((f.Bites.map (·.Share.High)).getD k 0)) (hiL w (fun i => l.contains (i : Int)) i) 0 f.Bites)] := by
        rw [hiL]; simp only [hf]
      rw [hstep]
      have hlen : (hiL w (fun i => l.contains (i : Int)) i).length + 1 ≤ 1073741824 := by rw [hiL_len]; omega
      cases hb : l.contains (i : Int) with
      | true =>
        simp only [if_true, Option.bind_some]
        rw [app_short _ _ hlen]
        rfl
      | false =>
        simp only [if_false, Option.bind_some, Bool.false_eq_true]
        rw [app_short _ _ hlen]
        rfl
    · unfold f92_b0
      rw [if_neg (by simp)]
  rw [h]; rfl
/-! ### Which tests suffice -/
def sufB (w : TBaneWeb) (L : List Int) (pond : List Int) : Bool := allI (fun _ p => !decide (w.Limit < L.getD p.toNat 0)) 0 pond
def sufW (w : TBaneWeb) (pond l : List Int) : Bool := sufB w (hiL w (fun i => l.contains (i : Int)) w.Fish.length) pond
theorem f88_eq (w : TBaneWeb) (tests : Int) (pond : List Int) (hs : webShort w) (hw : webOk w = true) (hl : pond.length ≤ 1000) (hp : ∀ y ∈ pond, 0 ≤ y ∧ y < (w.Fish.length : Int)) :
    f88 ⟨w, tests⟩ pond = some (sufB w (hiL w (bitI tests) w.Fish.length) pond) := by
  unfold f88
  rw [f72_eq w tests hs hw]
  simp only [Option.bind_some]
  obtain ⟨L, hL⟩ : ∃ L, L = hiL w (bitI tests) w.Fish.length := ⟨_, rfl⟩
  have hLl : L.length = w.Fish.length := by rw [hL, hiL_len]
  rw [← hL]
  have h : lp (f116_b0 pond (fun z0 => f109 z0 L ⟨w, tests⟩)) 0 = goL (fun k y (_ : Unit) => some (if w.Limit < L.getD y.toNat 0 then .inr (.inr (k : Int)) else .inl ())) (fun _ => .inl ()) 0 pond () := by
    refine lp_goL (fun k _ => (k : Int)) pond _ _ ?_ ?_ ()
    · intro k t y hy
      have hk := get_lt hy
      obtain ⟨h1, h2⟩ := hp y (List.mem_of_getElem? hy)
      unfold f116_b0 f109
      rw [if_pos (by simpa using hk), ix_nat, hy, wrap_nat hk (by omega)]
      simp only [Option.bind_some, ix_int h1, getD_get 0 (show y.toNat < L.length by omega)]
      by_cases h : w.Limit < L.getD y.toNat 0
      · simp only [h, decide_true, if_true, Option.map_some, Sum.map_inr, id]
      · simp only [h, decide_false, Bool.false_eq_true, if_false, Option.map_some, Sum.map_inl]
    · intro t
      unfold f116_b0
      simp
  have h2 : ∀ (l : List Int) (k : Nat), ∃ r : Unit ⊕ Int, goL (fun k y (_ : Unit) => some (if w.Limit < L.getD y.toNat 0 then .inr (.inr (k : Int)) else .inl ())) (fun _ => .inl ()) k l () = some r ∧ (match r with | .inl _ => allI (fun _ p => !decide (w.Limit < L.getD p.toNat 0)) k l = true | .inr i => allI (fun _ p => !decide (w.Limit < L.getD p.toNat 0)) k l = false ∧ 0 ≤ i) := by
    intro l
    induction l with
    | nil => intro k; exact ⟨_, rfl, rfl⟩
    | cons y l ih =>
      intro k
      by_cases h : w.Limit < L.getD y.toNat 0
      · exact ⟨.inr k, by simp only [goL, h, if_true], by simp only [allI, h, decide_true, Bool.not_true, Bool.false_and]; exact ⟨trivial, by omega⟩⟩
      · obtain ⟨r, h1, h2⟩ := ih (k + 1)
        refine ⟨r, by simp only [goL, h, if_false]; exact h1, ?_⟩
        simp only [allI, h, decide_false, Bool.not_false, Bool.true_and]
        exact h2
  obtain ⟨r, h3, h4⟩ := h2 pond 0
  unfold f107 f116
  rw [h, h3]
  unfold sufB
  cases r with
  | inl _ => simp only at h4; rw [h4]; rfl
  | inr i => obtain ⟨h4, h5⟩ := h4; rw [h4]; simp [h5]
theorem f44_eq (w : TBaneWeb) (pond l : List Int) (hs : webShort w) (hw : webOk w = true) (hpl : pond.length ≤ 1000) (hp : ∀ y ∈ pond, 0 ≤ y ∧ y < (w.Fish.length : Int)) (hl : l.length ≤ 1000) :
    f44 w pond l = some (sufW w pond l) := by
  unfold f44
  rw [f92_eq w l hs hw hl]
  simp only [Option.bind_some]
  unfold sufW
  obtain ⟨L, hL⟩ : ∃ L, L = hiL w (fun i => l.contains (i : Int)) w.Fish.length := ⟨_, rfl⟩
  have hLl : L.length = w.Fish.length := by rw [hL, hiL_len]
  rw [← hL]
  have h : lp (f44_b0 w pond L) 0 = some (if sufB w L pond = true then .inl () else .inr false) := by
    refine lp_all pond _ (Sum.inr false) (Sum.inl ()) (fun k => (k : Int)) ?_ ?_
    · intro k y hy
      have hk := get_lt hy
      obtain ⟨h1, h2⟩ := hp y (List.mem_of_getElem? hy)
      unfold f44_b0
      rw [if_pos (by simpa using hk), ix_nat, hy, wrap_nat hk (by omega)]
      simp only [Option.bind_some, ix_int h1, getD_get 0 (show y.toNat < L.length by omega)]
      cases decide (w.Limit < L.getD y.toNat 0) <;> simp
    · unfold f44_b0
      simp
  rw [h]
  cases sufB w L pond <;> rfl
theorem suf_bits (w : TBaneWeb) (pond l : List Int) (hl : ∀ y ∈ l, 0 ≤ y ∧ y < (w.Fish.length : Int)) (hn : w.Fish.length ≤ 12) :
    sufB w (hiL w (bitI ((bitsN l : Nat) : Int)) w.Fish.length) pond = sufW w pond l := by
  have h1 : bitsN l < 2 ^ w.Fish.length := bits_lt hl
  have h2 := pow_small (show w.Fish.length ≤ 20 by omega)
  unfold sufW
  rw [hiL_congr w (U := fun i => l.contains (i : Int)) _ fun i hi => ?_]
  rw [bitI_nat _ _ (by have : (1048576 : Nat) < 2 ^ 62 := by decide
                       omega), bits_mem fun y hy => (hl y hy).1]
theorem lst_has {m n i : Nat} (hi : i < n) : (lst m n).contains (i : Int) = m.testBit i := by
  rw [Bool.eq_iff_iff, List.contains_iff_mem, mem_lst]
  exact ⟨fun ⟨j, _, h2, h3⟩ => by have : i = j := by omega
                                  subst this; exact h2, fun h => ⟨i, hi, h, rfl⟩⟩
theorem suf_lst (w : TBaneWeb) (pond : List Int) (m : Nat) (hm : m < 2 ^ w.Fish.length) (hn : w.Fish.length ≤ 12) :
    sufB w (hiL w (bitI (m : Int)) w.Fish.length) pond = sufW w pond (lst m w.Fish.length) := by
  have h2 := pow_small (show w.Fish.length ≤ 20 by omega)
  unfold sufW
  rw [hiL_congr w (U := fun i => (lst m w.Fish.length).contains (i : Int)) _ fun i hi => ?_]
  rw [bitI_nat _ _ (by have : (1048576 : Nat) < 2 ^ 62 := by decide
                       omega), lst_has hi]
/-- 'bane.Suffices'. -/
theorem f41_eq (w : TBaneWeb) (pond l : List Int) (hs : webShort w) (hpl : pond.length ≤ 1000) (hl : l.length ≤ 1000) :
    f41 w pond l = some (if (webOk w && (incr pond (w.Fish.length : Int) && incr l (w.Fish.length : Int))) = true then (sufW w pond l, 0) else (false, 2)) := by
  have h12 := hs.1
  unfold f41
  rw [f65_eq w hs, f86_eq pond _ hpl (by omega), f86_eq l _ hl (by omega)]
  cases hw : webOk w with
  | false => simp
  | true =>
    cases h1 : incr pond (w.Fish.length : Int) with
    | false => simp
    | true =>
      cases h2 : incr l (w.Fish.length : Int) with
      | false => simp
      | true =>
        simp only [Option.bind_some, Bool.not_true, Bool.false_eq_true, if_false, Bool.and_self, if_true]
        rw [f87_eq l _ hl (by omega) (incr_iff.1 h2).1]
        simp only [Option.bind_some]
        rw [f88_eq w _ pond hs hw hpl (incr_iff.1 h1).1, suf_bits w pond l (incr_iff.1 h2).1 h12]
        rfl
def costW (w : TBaneWeb) (l : List Int) : Int := costL (fun y => (w.Fish.map (·.Cost)).getD y.toNat 0) l
def bestW (w : TBaneWeb) (pond : List Int) : Option (List Int) := bestN (costW w) (fun m => sufW w pond (lst m w.Fish.length)) w.Fish.length (2 ^ w.Fish.length)
def answer (cost : List Int → Int) (o : Option (List Int)) : List Int × Int × Int := match o with
  | none => ([], 0, 5)
  | some l => (l, cost l, 0)
/-- 'bane.Tests'. -/
theorem f42_eq (w : TBaneWeb) (pond : List Int) (hs : webShort w) (hpl : pond.length ≤ 1000) :
    f42 w pond = some (if (webOk w && incr pond (w.Fish.length : Int)) = true then answer (costW w) (bestW w pond) else ([], 0, 2)) := by
  have h12 := hs.1
  unfold f42
  rw [f65_eq w hs, f86_eq pond _ hpl (by omega)]
  cases hw : webOk w with
  | false => simp
  | true =>
    cases h1 : incr pond (w.Fish.length : Int) with
    | false => simp
    | true =>
      simp only [Option.bind_some, Bool.not_true, Bool.false_eq_true, if_false, Bool.and_self, if_true]
      rw [f89_eq w _ (fun m => sufW w pond (lst m w.Fish.length)) (by omega) fun m hm => by
        unfold f91
        rw [f88_eq w _ pond hs hw hpl (incr_iff.1 h1).1, suf_lst w pond m hm h12]
        rfl]
      have e : bestN (costL (fun y => (w.Fish.map (·.Cost)).getD y.toNat 0)) (fun m => sufW w pond (lst m w.Fish.length)) w.Fish.length (2 ^ w.Fish.length) = bestW w pond := rfl
      rw [e]
      cases bestW w pond with
      | none => rfl
      | some l => rfl
theorem refStep_or (cost : List Int → Int) (H : List Int → Bool) (acc : Option (List Int)) (l : List Int) : refStep cost H acc l = some l ∨ refStep cost H acc l = acc := by
  unfold refStep
  exact if h : _ then .inl (if_pos h) else .inr (if_neg h)
/-- The document's best. -/
theorem f45_eq (w : TBaneWeb) (pond : List Int) (hs : webShort w) (hw : webOk w = true) (hpl : pond.length ≤ 1000) (hp : incr pond (w.Fish.length : Int) = true) :
    f45 w pond = some (match bestW w pond with | none => ([], false) | some l => (l, true)) := by
  have h12 := hs.1
  have h7 : w.Fish.length ≤ 7 := by
    unfold webOk at hw
    simp only [Bool.and_eq_true] at hw
    have := (inR_iff.1 hw.2.1).2
    omega
  have hb : bestW w pond = (allS w.Fish.length (w.Fish.length + 1)).foldl (refStep (costW w) (sufW w pond)) none := best_same (costW w) (sufW w pond) w.Fish.length
  rw [hb]
  obtain ⟨n, hn⟩ : ∃ n, n = w.Fish.length := ⟨_, rfl⟩
  obtain ⟨enc, henc⟩ : ∃ enc : Option (List Int) → List Int × Bool, enc = fun o => match o with | none => ([], false) | some l => (l, true) := ⟨_, rfl⟩
  have hres : ∀ o : Option (List Int), (match o with | none => ([], false) | some l => (l, true) : List Int × Bool) = enc o := fun o => by rw [henc]
  rw [hres, ← hn]
  have inner : ∀ (k : Nat) (acc : Option (List Int)), k ≤ n → (∀ l, acc = some l → incr l (n : Int) = true) → lp (f45_b1 w pond (setsL n k)) ((enc acc).1, (enc acc).2, 0) = some (enc ((setsL n k).foldl (refStep (costW w) (sufW w pond)) acc)) ∧ (∀ l, (setsL n k).foldl (refStep (costW w) (sufW w pond)) acc = some l → incr l (n : Int) = true) := by
    intro k acc hk hacc
    have hlen := Nat.le_trans (sets_len n k) (pow_le_big (n := n) (k := k) (by omega) (by omega))
    have hinv : ∀ (E : List (List Int)) (acc : Option (List Int)), (∀ l ∈ E, incr l (n : Int) = true) → (∀ l, acc = some l → incr l (n : Int) = true) → ∀ l, E.foldl (refStep (costW w) (sufW w pond)) acc = some l → incr l (n : Int) = true := by
      intro E
      induction E with
      | nil => intro acc _ h2; exact h2
      | cons x E ih =>
        intro acc h1 h2 l hl
        rw [List.foldl_cons] at hl
        refine ih _ (fun l hl => h1 l (by simp [hl])) ?_ l hl
        intro l' hl'
        rcases refStep_or (costW w) (sufW w pond) acc x with hc | hc
        · rw [hc] at hl'; cases hl'; exact h1 _ (by simp)
        · rw [hc] at hl'; exact h2 l' hl'
    have hall : ∀ l ∈ setsL n k, incr l (n : Int) = true := fun l hl => (mem_sets.1 hl).1
    refine ⟨?_, hinv _ acc hall hacc⟩
    refine lp_thru (setsL n k) _ (fun i => ((enc (((setsL n k).take i).foldl (refStep (costW w) (sufW w pond)) acc)).1, (enc (((setsL n k).take i).foldl (refStep (costW w) (sufW w pond)) acc)).2, (i : Int))) ?_ ?_
    · intro i p hp'
      have hi := get_lt hp'
      have hm := hall p (List.mem_of_getElem? hp')
      have hpl' : p.length ≤ 1000 := by have := incr_len hm; omega
      have hbest := hinv ((setsL n k).take i) acc (fun l hl => hall l (List.mem_of_mem_take hl)) hacc
      rw [take_snoc hp', List.foldl_append, List.foldl_cons, List.foldl_nil]
      generalize ((setsL n k).take i).foldl (refStep (costW w) (sufW w pond)) acc = B at hbest
      unfold f45_b1
      have c : (i : Int) < ((setsL n k).length : Int) := by omega
      simp only [c, decide_true, if_true, ix_nat, hp', Option.bind_some, wrap_nat hi (by omega)]
      rw [f44_eq w pond p hs hw hpl (incr_iff.1 hp).1 hpl']
      simp only [Option.bind_some]
      unfold refStep
      rw [henc]
      have hcp := f46_eq w p hpl' (by rw [← hn]; exact (incr_iff.1 hm).1)
      cases hsu : sufW w pond p with
      | false => cases B <;> simp
      | true =>
        cases B with
        | none => simp
        | some b =>
          have hbi := hbest b rfl
          have hcb := f46_eq w b (by have := incr_len hbi; omega) (by rw [← hn]; exact (incr_iff.1 hbi).1)
          simp only [Bool.not_true, Bool.false_eq_true, if_false, if_true, hcp, hcb, Option.bind_some, Bool.true_and]
          unfold costW
          by_cases hc : costL (fun y => (w.Fish.map (·.Cost)).getD y.toNat 0) p < costL (fun y => (w.Fish.map (·.Cost)).getD y.toNat 0) b
          · simp only [hc, decide_true, if_true, Option.bind_some]
          · simp only [hc, decide_false, Bool.false_eq_true, if_false, Option.bind_some]
    · unfold f45_b1
      simp
  have outer : ∀ k, k ≤ n + 1 → (∀ l, (allS n k).foldl (refStep (costW w) (sufW w pond)) none = some l → incr l (n : Int) = true) := by
    intro k
    induction k with
    | zero => intro _ l hl; simp [allS] at hl
    | succ k ih =>
      intro hk
      rw [allS, List.foldl_append]
      exact (inner k _ (by omega) (ih (by omega))).2
  unfold f45
  have h : lp (f45_b0 w pond) ([], false, 0) = some (enc ((allS n (n + 1)).foldl (refStep (costW w) (sufW w pond)) none)) := by
    have e0 : (([], false, 0) : List Int × Bool × Int) = (fun k : Nat => ((enc ((allS n k).foldl (refStep (costW w) (sufW w pond)) none)).1, (enc ((allS n k).foldl (refStep (costW w) (sufW w pond)) none)).2, (k : Int))) 0 := by rw [henc]; rfl
    rw [e0]
    refine lp_thru (List.range (n + 1)) _ (fun k => ((enc ((allS n k).foldl (refStep (costW w) (sufW w pond)) none)).1, (enc ((allS n k).foldl (refStep (costW w) (sufW w pond)) none)).2, (k : Int))) ?_ ?_
    · intro k y hy
      have hk : k < n + 1 := by have := get_lt hy; simpa using this
      unfold f45_b0
      rw [← hn]
      have c : (k : Int) ≤ (n : Int) := by omega
      simp only [c, decide_true, if_true, f85_eq n k (by omega) (by omega), Option.bind_some, wrap_nat hk (by omega)]
      rw [(inner k _ (by omega) (outer k (by omega))).1]
      simp only [Option.bind_some]
      rw [allS, List.foldl_append]
    · unfold f45_b0
      rw [← hn]
      have c : ¬ (((List.range (n + 1)).length : Nat) : Int) ≤ (n : Int) := by rw [List.length_range]; omega
      simp only [c, decide_false, Bool.false_eq_true, if_false]
      rw [List.length_range]
  rw [h]
  rfl
end Go.Proofs.Ytgplafckddpnkaa
