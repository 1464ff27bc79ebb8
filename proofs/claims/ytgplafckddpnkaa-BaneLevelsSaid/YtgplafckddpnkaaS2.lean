/-
  Bane's levels in truth; the statement BanePlays, in plain Lean.
-/
import Derived.Test.YtgplafckddpnkaaS1
import Derived.Test.YtgplafckddpnkaaOp
namespace Go.Proofs.Ytgplafckddpnkaa
open Go.RowKit
set_option linter.unusedVariables false

def w64 (x : Int) : Int := IntKind.i64.wrap x
/-- What comes of the bites, from bite k on. -/
def adds (sh : Nat → Int) (out : List Int) : Nat → List TBaneBite → List Int
  | _, [] => []
  | k, b :: bs => w64 ((w64 (sh k * out.getD b.Prey.toNat 0)).tdiv 1000) :: adds sh out (k + 1) bs
def plus (n : Int) (al : List Int) : Int := al.foldl (fun n a => w64 (n + a)) n
theorem adds_len (sh : Nat → Int) (out : List Int) : ∀ (bs : List TBaneBite) (k : Nat), (adds sh out k bs).length = bs.length
  | [], _ => rfl
  | b :: bs, k => by simp [adds, adds_len sh out bs]
theorem adds_get (sh : Nat → Int) (out : List Int) : ∀ (bs : List TBaneBite) (k j : Nat) (b : TBaneBite), bs[j]? = some b → (adds sh out k bs)[j]? = some (w64 ((w64 (sh (k + j) * out.getD b.Prey.toNat 0)).tdiv 1000))
  | [], _, _, _, h => by simp at h
  | c :: bs, k, 0, b, h => by simp at h; subst h; simp [adds]
  | c :: bs, k, j + 1, b, h => by
    simp at h
    have := adds_get sh out bs (k + 1) j b h
    simpa [adds, Nat.add_assoc, Nat.add_comm 1 j] using this
theorem take_snoc {α : Type} {xs : List α} {k : Nat} {y : α} (h : xs[k]? = some y) : xs.take (k + 1) = xs.take k ++ [y] := by rw [List.take_add_one, h]; rfl
theorem plus_snoc (n : Int) (al : List Int) (a : Int) : plus n (al ++ [a]) = w64 (plus n al + a) := by simp [plus]
/-- 'sum'. -/
theorem f96_eq (l : List Int) (hl : l.length ≤ 1073741824) : f96 l = some (plus 0 l) := by
  unfold f96
  rw [show ((0 : Int), (0 : Int)) = (fun k : Nat => (plus 0 (l.take k), (k : Int))) 0 from rfl, lp_thru l (plus 0 l) (fun k => (plus 0 (l.take k), (k : Int))) ?_ ?_]
  · rfl
  · intro k y hy
    have hk := get_lt hy
    unfold f96_b0
    rw [if_pos (by simpa using hk), ix_nat, hy]
    simp only [Option.bind_some, wrap_nat hk hl, take_snoc hy, plus_snoc]
    rfl
  · unfold f96_b0; simp
theorem ix_int {α : Type} {xs : List α} {i : Int} (h0 : 0 ≤ i) : ix xs i = xs[i.toNat]? := by simp [ix, h0]
def preysIn (n : Nat) (bs : List TBaneBite) : Prop := ∀ b ∈ bs, 0 ≤ b.Prey ∧ b.Prey.toNat < n
theorem ix_prey {out : List Int} {b : TBaneBite} {bs : List TBaneBite} (h : preysIn out.length bs) (hb : b ∈ bs) : ix out b.Prey = some (out.getD b.Prey.toNat 0) := by
  obtain ⟨h1, h2⟩ := h b hb
  rw [ix_int h1, List.getElem?_eq_getElem h2]
  simp [h2]
/-- 'level'. -/
theorem f67_eq (f : TBaneFish) (base : Int) (out : List Int) (x3 : Int → Option Int) (sh : Nat → Int) (hp : preysIn out.length f.Bites) (hl : f.Bites.length ≤ 10) (hsh : ∀ k, k < f.Bites.length → x3 (k : Int) = some (sh k)) :
    f67 f base out x3 = some (plus 0 (base :: adds sh out 0 f.Bites)) := by
  have h : lp (f67_b0 f out x3) ([base], 0) = some (base :: adds sh out 0 f.Bites) := by
    have e0 : (([base], (0 : Int)) : List Int × Int) = (fun k : Nat => (base :: (adds sh out 0 f.Bites).take k, (k : Int))) 0 := rfl
    rw [e0, lp_thru f.Bites (base :: adds sh out 0 f.Bites) (fun k => (base :: (adds sh out 0 f.Bites).take k, (k : Int))) ?_ ?_]
    · intro k b hb
      have hk := get_lt hb
      have ha := adds_get sh out f.Bites 0 k b hb
      rw [Nat.zero_add] at ha
      unfold f67_b0
      rw [if_pos (by simpa using hk), ix_nat, hb]
      simp only [Option.bind_some, ix_prey hp (List.mem_of_getElem? hb), hsh k hk, wrap_nat hk (by omega)]
      rw [app_short _ _ (by simp; omega), take_snoc ha]
      rfl
    · unfold f67_b0
      rw [if_neg (by simp), List.take_of_length_le (by rw [adds_len]; omega)]
  unfold f67
  rw [h]
  simp only [Option.bind_some]
  rw [f96_eq _ (by simp [adds_len]; omega)]
  rfl
/-- The document's loop over the bites. -/
theorem f24_b1_eq (w : TBaneWeb) (t : TBaneTruth) (out : List Int) (i : Nat) (f : TBaneFish) (base : Int) (s : List Int) (hf : w.Fish[i]? = some f) (hs : t.Shares[i]? = some s) (hp : preysIn out.length f.Bites) (hl : f.Bites.length ≤ 10) (hsl : s.length = f.Bites.length) :
    lp (f24_b1 (out, (i : Int)) w t) (base, 0) = some (plus base (adds (fun k => s.getD k 0) out 0 f.Bites)) := by
  rw [show (base, (0 : Int)) = (fun k : Nat => (plus base ((adds (fun k => s.getD k 0) out 0 f.Bites).take k), (k : Int))) 0 from rfl, lp_thru f.Bites (plus base (adds (fun k => s.getD k 0) out 0 f.Bites)) (fun k => (plus base ((adds (fun k => s.getD k 0) out 0 f.Bites).take k), (k : Int))) ?_ ?_]
  · intro k b hb
    have hk := get_lt hb
    have ha := adds_get (fun k => s.getD k 0) out f.Bites 0 k b hb
    rw [Nat.zero_add] at ha
    have hsk : s[k]? = some (s.getD k 0) := by rw [List.getElem?_eq_getElem (by omega)]; simp [show k < s.length by omega]
    unfold f24_b1
    simp only [ix_nat, hf, Option.bind_some]
    rw [if_pos (by simpa using hk)]
    simp only [hs, hsk, hb, Option.bind_some, ix_prey hp (List.mem_of_getElem? hb), wrap_nat hk (by omega), take_snoc ha, plus_snoc]
    rfl
  · unfold f24_b1
    simp only [ix_nat, hf, Option.bind_some]
    rw [if_neg (by simp), List.take_of_length_le (by rw [adds_len]; omega)]
/-- The levels of the first kinds, in truth. -/
def plays (w : TBaneWeb) (t : TBaneTruth) : Nat → List Int
  | 0 => []
  | n + 1 => plays w t n ++ [plus (t.Bases.getD n 0) (adds (fun k => (t.Shares.getD n []).getD k 0) (plays w t n) 0 ((w.Fish.map (·.Bites)).getD n []))]
theorem plays_len (w : TBaneWeb) (t : TBaneTruth) : ∀ n, (plays w t n).length = n
  | 0 => rfl
  | n + 1 => by simp [plays, plays_len w t n]
theorem preys_of {w : TBaneWeb} (hw : webOk w = true) {i : Nat} {f : TBaneFish} (hf : w.Fish[i]? = some f) : preysIn i f.Bites ∧ f.Bites.length ≤ 6 ∧ spanOk f.Base 1000000 = true := by
  unfold webOk at hw
  simp only [Bool.and_eq_true] at hw
  have h := (allI_iff _ _ _).1 hw.1 i f hf
  unfold fishOk at h
  simp only [Bool.and_eq_true, decide_eq_true_eq, Nat.zero_add] at h
  refine ⟨fun b hb => ?_, h.2.1, h.1⟩
  obtain ⟨k, hk⟩ := List.getElem?_of_mem hb
  have h2 := (allI_iff _ _ _).1 h.2.2.2.2 k b hk
  unfold biteOk at h2
  simp only [Bool.and_eq_true] at h2
  have := inR_iff.1 h2.1
  omega
def truthAt (w : TBaneWeb) (t : TBaneTruth) (i : Nat) (f : TBaneFish) : Bool :=
  inR (t.Bases.getD i 0) f.Base.Low f.Base.High && (decide ((t.Shares.getD i []).length = f.Bites.length) && allI (fun k (b : TBaneBite) => inR ((t.Shares.getD i []).getD k 0) b.Share.Low b.Share.High) 0 f.Bites)
def truthOk (w : TBaneWeb) (t : TBaneTruth) : Bool := decide (t.Bases.length = w.Fish.length) && (decide (t.Shares.length = w.Fish.length) && allI (truthAt w t) 0 w.Fish)
theorem getD_get {α : Type} {xs : List α} {i : Nat} (d : α) (h : i < xs.length) : xs[i]? = some (xs.getD i d) := by rw [List.getElem?_eq_getElem h]; simp [h]
theorem lens_beq {a b : Nat} : ((a : Int) != (b : Int)) = !decide (a = b) := by
  rw [Bool.eq_iff_iff]; simp; omega
theorem f22_eq (w : TBaneWeb) (t : TBaneTruth) (hs : webShort w) : f22 w t = some (truthOk w t) := by
  unfold f22 truthOk
  rw [lens_beq, lens_beq]
  by_cases h1 : t.Bases.length = w.Fish.length
  · by_cases h2 : t.Shares.length = w.Fish.length
    · simp only [h1, h2, decide_true, Bool.not_true, Bool.false_eq_true, if_false, Option.bind_some, Bool.true_and]
      have inner : ∀ (i : Nat) (f : TBaneFish), w.Fish[i]? = some f → f.Bites.length ≤ 10 → (t.Shares.getD i []).length = f.Bites.length → lp (f22_b1 (i : Int) t f) 0 = some (if allI (fun k (b : TBaneBite) => inR ((t.Shares.getD i []).getD k 0) b.Share.Low b.Share.High) 0 f.Bites = true then .inl () else .inr false) := by
        intro i f hf hl hsl
        have hi := get_lt hf
        have hsi := getD_get [] (show i < t.Shares.length by omega)
        refine lp_all f.Bites _ _ _ (fun k => (k : Int)) ?_ ?_
        · intro k b hb
          have hk := get_lt hb
          have hsk := getD_get 0 (show k < (t.Shares.getD i []).length by omega)
          unfold f22_b1
          rw [if_pos (by simpa using hk)]
          simp only [ix_nat, hsi, hsk, hb, Option.bind_some, f69_eq, wrap_nat hk (by omega)]
          cases inR ((t.Shares.getD i []).getD k 0) b.Share.Low b.Share.High <;> simp
        · unfold f22_b1; simp
      have outer : lp (f22_b0 w t) 0 = some (if allI (truthAt w t) 0 w.Fish = true then .inl () else .inr false) := by
        refine lp_all w.Fish _ _ _ (fun k => (k : Int)) ?_ ?_
        · intro i f hf
          have hi := get_lt hf
          have h12 := hs.1
          have hb := getD_get 0 (show i < t.Bases.length by omega)
          have hsi := getD_get [] (show i < t.Shares.length by omega)
          unfold f22_b0 truthAt
          rw [if_pos (by simpa using hi)]
          simp only [ix_nat, hf, hb, hsi, Option.bind_some, f69_eq, lens_beq, wrap_nat hi (by omega)]
          cases hin : inR (t.Bases.getD i 0) f.Base.Low f.Base.High with
          | false => simp
          | true =>
            by_cases hsl : (t.Shares.getD i []).length = f.Bites.length
            · simp only [hsl, decide_true, Bool.not_true, Bool.false_eq_true, if_false, Option.bind_some, inner i f hf (hs.2 f (List.mem_of_getElem? hf)) hsl, Bool.true_and]
              cases allI (fun k (b : TBaneBite) => inR ((t.Shares.getD i []).getD k 0) b.Share.Low b.Share.High) 0 f.Bites <;> simp
            · simp only [hsl, decide_false, Bool.not_false, Bool.not_true, Bool.false_eq_true, if_false, if_true, Option.bind_some, Bool.true_and, Bool.false_and]
        · unfold f22_b0; simp
      rw [outer]
      cases allI (truthAt w t) 0 w.Fish <;> simp
    · simp [h1, h2]
  · simp [h1]
/-- 'bane.Play'. -/
theorem f20_eq (w : TBaneWeb) (t : TBaneTruth) (hs : webShort w) : f20 w t = some (if (webOk w && truthOk w t) = true then (plays w t w.Fish.length, 0) else ([], 2)) := by
  unfold f20
  rw [f65_eq w hs, lens_beq, lens_beq]
  cases hw : webOk w with
  | false => simp
  | true =>
    simp only [Option.bind_some, Bool.not_true, Bool.false_eq_true, if_false, Bool.true_and]
    unfold truthOk
    by_cases h1 : t.Bases.length = w.Fish.length
    · by_cases h2 : t.Shares.length = w.Fish.length
      · simp only [h1, h2, decide_true, Bool.not_true, Bool.false_eq_true, if_false, Option.bind_some, Bool.true_and]
        have inner : ∀ (out : List Int) (i : Nat) (f : TBaneFish), w.Fish[i]? = some f → f.Bites.length ≤ 10 → (t.Shares.getD i []).length = f.Bites.length → lp (f20_b1 (out, (i : Int)) t f) 0 = some (if allI (fun k (b : TBaneBite) => inR ((t.Shares.getD i []).getD k 0) b.Share.Low b.Share.High) 0 f.Bites = true then .inl () else .inr ([], 2)) := by
          intro out i f hf hl hsl
          have hi := get_lt hf
          have hsi := getD_get [] (show i < t.Shares.length by omega)
          refine lp_all f.Bites _ _ _ (fun k => (k : Int)) ?_ ?_
          · intro k b hb
            have hk := get_lt hb
            have hsk := getD_get 0 (show k < (t.Shares.getD i []).length by omega)
            unfold f20_b1
            rw [if_pos (by simpa using hk)]
            simp only [ix_nat, hsi, hsk, hb, Option.bind_some, f66_eq, wrap_nat hk (by omega)]
            cases inR ((t.Shares.getD i []).getD k 0) b.Share.Low b.Share.High <;> simp
          · unfold f20_b1; simp
        have outer : lp (f20_b0 w t) ([], 0) = some (if allI (truthAt w t) 0 w.Fish = true then .inl (plays w t w.Fish.length) else .inr ([], 2)) := by
          refine lp_all w.Fish _ _ _ (fun k => (plays w t k, (k : Int))) ?_ ?_
          · intro i f hf
            have hi := get_lt hf
            have h12 := hs.1
            have hb := getD_get 0 (show i < t.Bases.length by omega)
            have hsi := getD_get [] (show i < t.Shares.length by omega)
            obtain ⟨q1, q2, q3⟩ := preys_of hw hf
            unfold f20_b0 truthAt
            rw [if_pos (by simpa using hi)]
            simp only [ix_nat, hf, hb, hsi, Option.bind_some, f66_eq, lens_beq, wrap_nat hi (by omega)]
            cases hin : inR (t.Bases.getD i 0) f.Base.Low f.Base.High with
            | false => simp
            | true =>
              by_cases hsl : (t.Shares.getD i []).length = f.Bites.length
              · simp only [hsl, decide_true, Bool.not_true, Bool.false_eq_true, if_false, Option.bind_some, inner (plays w t i) i f hf (hs.2 f (List.mem_of_getElem? hf)) hsl, Bool.true_and]
                cases hall : allI (fun k (b : TBaneBite) => inR ((t.Shares.getD i []).getD k 0) b.Share.Low b.Share.High) 0 f.Bites with
                | false => simp
                | true =>
                  simp only [if_true, Sum.elim_inl]
                  rw [f67_eq f (t.Bases.getD i 0) (plays w t i) _ (fun k => (t.Shares.getD i []).getD k 0) (by rw [plays_len]; exact q1) (by omega) (fun k hk => by
                    unfold f68
                    simp only [ix_nat, hsi, getD_get 0 (show k < (t.Shares.getD i []).length by omega), Option.bind_some])]
                  simp only [Option.bind_some]
                  rw [app_short _ _ (by simp [plays_len]; omega)]
                  have hbase : plus 0 (t.Bases.getD i 0 :: adds (fun k => (t.Shares.getD i []).getD k 0) (plays w t i) 0 f.Bites) = plus (t.Bases.getD i 0) (adds (fun k => (t.Shares.getD i []).getD k 0) (plays w t i) 0 f.Bites) := by
                    unfold plus
                    rw [List.foldl_cons]
                    congr 1
                    have := inR_iff.1 hin
                    unfold spanOk at q3
                    simp only [Bool.and_eq_true, decide_eq_true_eq] at q3
                    unfold w64
                    rw [wrap_id] <;> omega
                  rw [hbase]
                  have hbites : (w.Fish.map (·.Bites)).getD i [] = f.Bites := by
                    simp [hf]
                  simp only [plays, hbites, Option.bind_some]
              · simp only [hsl, decide_false, Bool.not_false, Bool.not_true, Bool.false_eq_true, if_false, if_true, Option.bind_some, Bool.true_and, Bool.false_and]
          · unfold f20_b0
            rw [if_neg (by simp)]
        rw [outer]
        cases allI (truthAt w t) 0 w.Fish <;> simp
      · simp [h1, h2]
    · simp [h1]
/-- 'ref.Play'. -/
theorem f24_eq (w : TBaneWeb) (t : TBaneTruth) (hs : webShort w) (hw : webOk w = true) (ht : truthOk w t = true) : f24 w t = some (plays w t w.Fish.length) := by
  unfold truthOk at ht
  simp only [Bool.and_eq_true, decide_eq_true_eq] at ht
  obtain ⟨h1, h2, h3⟩ := ht
  unfold f24
  rw [show (([], (0 : Int)) : List Int × Int) = (fun k : Nat => (plays w t k, (k : Int))) 0 from rfl, lp_thru w.Fish (plays w t w.Fish.length) (fun k => (plays w t k, (k : Int))) ?_ ?_]
  · rfl
  · intro i f hf
    have hi := get_lt hf
    have h12 := hs.1
    have hb := getD_get 0 (show i < t.Bases.length by omega)
    have hsi := getD_get [] (show i < t.Shares.length by omega)
    obtain ⟨q1, q2, q3⟩ := preys_of hw hf
    have ha := (allI_iff _ _ _).1 h3 i f hf
    unfold truthAt at ha
    simp only [Bool.and_eq_true, decide_eq_true_eq, Nat.zero_add] at ha
    unfold f24_b0
    rw [if_pos (by simpa using hi)]
    simp only [ix_nat, hb, Option.bind_some, wrap_nat hi (by omega)]
    rw [f24_b1_eq w t (plays w t i) i f _ _ hf hsi (by rw [plays_len]; exact q1) (by omega) ha.2.1]
    simp only [Option.bind_some]
    rw [app_short _ _ (by simp [plays_len]; omega)]
    have hbites : (w.Fish.map (·.Bites)).getD i [] = f.Bites := by simp [hf]
    simp only [plays, hbites, Option.bind_some]
  · unfold f24_b0
    rw [if_neg (by simp)]
theorem banePlays (w : TBaneWeb) (t : TBaneTruth) (_ : okTBaneWeb w) (_ : okTBaneTruth t) : f3 w t = some true := by
  obtain ⟨a, ha, hws⟩ := f17_eq w
  obtain ⟨b, hb, hts⟩ := f18_eq t
  unfold f3
  rw [ha, hb, known_pure]
  cases a with
  | false => simp
  | true =>
    cases b with
    | false => simp
    | true =>
      have hs := hws rfl
      rw [f20_eq w t hs, f21_eq w hs, f22_eq w t hs]
      cases hw : webOk w with
      | false => simp
      | true =>
        cases ht : truthOk w t with
        | false => simp
        | true =>
          have h12 := hs.1
          simp only [Bool.not_true, Bool.false_eq_true, if_false, if_true, Option.bind_some, Bool.and_self, f24_eq w t hs hw ht]
          rw [f23_eq _ _ (by rw [plays_len]; omega)]
          simp
end Go.Proofs.Ytgplafckddpnkaa
