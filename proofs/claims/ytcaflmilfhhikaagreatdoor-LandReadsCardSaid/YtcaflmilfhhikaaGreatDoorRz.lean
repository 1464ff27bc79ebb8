/-
  LandReads: which book any text is of; what is read is written the same (plain law).
-/
import Derived.Test.YtcaflmilfhhikaaGreatDoorRr
namespace Go.Proofs.YtcaflmilfhhikaaGreatDoor
open Go.RowKit Go.Lib
set_option linter.unusedVariables false

/-! ### A line -/
def wordF (kw w : Tex) : Option Int := if kw = kP then pnum w else num w
def stW (kw : Tex) (t : List Int) (y : Tex) : Option (List Int) := (wordF kw y).map fun n => t ++ [n]
def numsO (kw : Tex) (many : Nat) (x : Tex) : Option (List Int) := if (splL 32 x).tail.length = many ∧ (splL 32 x).headD [] = kw then (splL 32 x).tail.foldlM (stW kw) [] else none
theorem numsO_cons {x w : Tex} {ws : List Tex} (kw : Tex) (many : Nat) (hs : splL 32 x = w :: ws) : numsO kw many x = if ws.length = many ∧ w = kw then ws.foldlM (stW kw) [] else none := by
  unfold numsO
  rw [hs]
  rfl
theorem f34_eq (kw : Tex) (many : Nat) (x : Tex) (hl : x.length ≤ 1000000) (hm : many ≤ 10) : f34 x kw (many : Int) = some ((numsO kw many x).elim ([], false) fun ns => (ns, true)) := by
  unfold f34
  obtain ⟨w, ws, hs⟩ := splL_hd 32 x
  have hpl : ∀ y ∈ w :: ws, y.length ≤ 1000000 := fun y hy => Nat.le_trans (splL_piece 32 x y (by rw [hs]; exact hy)) hl
  have hwl : ws.length ≤ 1000001 := by have := splL_len 32 x; rw [hs] at this; simp only [List.length_cons] at this; omega
  rw [show f33 x 32 = some (splL 32 x) from f33_eq 32 x hl, Option.bind_some, numsO_cons kw many hs, hs]
  have hw1 : IntKind.i64.wrap ((many : Int) + 1) = ((many + 1 : Nat) : Int) := by rw [wrap_id] <;> omega
  have i0 : ix (w :: ws) 0 = some w := rfl
  rw [hw1, i0, Option.bind_some]
  by_cases h1 : ws.length = many
  · rw [if_neg (by simp [h1])]
    by_cases h2 : w = kw
    · subst h2
      rw [Option.bind_some, if_neg (by simp), if_pos ⟨h1, rfl⟩]
      have hlp : lp (f34_b0 w (w :: ws)) ([], 1) = some ((ws.foldlM (stW w) []).elim (.inr ([], false)) fun t => .inl t) := by
        refine lp_exit (body := f34_b0 w (w :: ws)) (fun k (t : List Int) => (t, ((k + 1 : Nat) : Int))) ws (fun k t => t.length = k) (stW w) (fun t => (.inl t : List Int ⊕ (List Int × Bool))) (.inr ([], false)) (fun k t y hy hI hst => ?_) (fun k t y t' hy hI hst => ?_) (fun t _ => ?_) [] rfl
        all_goals
          first
          | (have hk := get_lt hy
             have hyl := hpl y (List.mem_cons_of_mem _ (List.mem_of_getElem? hy))
             obtain ⟨n, e62, hn⟩ := f62_spec y hyl
             unfold f34_b0
             rw [if_pos (by simp only [List.length_cons, decide_eq_true_eq]; omega)]
             simp only [ix_nat, List.getElem?_cons_succ, hy, Option.bind_some, e62]
             unfold stW wordF at hst)
          | (unfold f34_b0
             rw [if_neg (by simp)])
        · -- the word is refused
          by_cases hp : w = kP
          · have hp' : (w == ([112, 101, 114, 115, 111, 110] : List UInt8)) = true := by simpa [kP] using hp
            rw [if_pos hp] at hst
            unfold pnum at hst
            simp only [hp', if_true, Option.bind_some]
            by_cases h45 : y = [45]
            · rw [if_pos h45] at hst; cases hst
            · rw [if_neg h45] at hst
              rw [if_neg (by simpa using h45)]
              cases hnum : num y with
              | none =>
                simp only [Option.isSome_none]
                cases (n == -1) <;> rfl
              | some m =>
                rw [hnum] at hst
                have := hn m hnum
                subst this
                have hm1 : n = -1 := by
                  by_cases e : n = -1
                  · exact e
                  · simp [e] at hst
                subst hm1
                rfl
          · have hp' : (w == ([112, 101, 114, 115, 111, 110] : List UInt8)) = false := by simpa [kP] using hp
            rw [if_neg hp] at hst
            simp only [hp', Bool.false_eq_true, if_false, Option.bind_some]
            cases hnum : num y with
            | none => rfl
            | some m => rw [hnum] at hst; cases hst
        · -- the word is taken
          have hw2 : IntKind.i64.wrap (((k + 1 : Nat) : Int) + 1) = ((k + 1 + 1 : Nat) : Int) := by rw [wrap_id] <;> omega
          have ea : ∀ q : Int, app t [q] = some (t ++ [q]) := fun q => by unfold app; rw [if_pos (by simp; omega)]
          obtain ⟨q, hq, rfl⟩ := Option.map_eq_some_iff.1 hst
          refine ⟨?_, by simp [hI]⟩
          by_cases hp : w = kP
          · have hp' : (w == ([112, 101, 114, 115, 111, 110] : List UInt8)) = true := by simpa [kP] using hp
            rw [if_pos hp] at hq
            unfold pnum at hq
            simp only [hp', if_true, Option.bind_some]
            by_cases h45 : y = [45]
            · rw [if_pos h45] at hq
              cases hq
              rw [if_pos (by simpa using h45)]
              simp only [Option.bind_some, Bool.not_true, Bool.false_eq_true, if_false, ea, hw2]
            · rw [if_neg h45] at hq
              rw [if_neg (by simpa using h45)]
              obtain ⟨m, hm1, hm2⟩ := Option.bind_eq_some_iff.1 hq
              have := hn m hm1
              subst this
              split at hm2
              · cases hm2
              · rename_i hne
                cases hm2
                have hne' : (n == -1) = false := by simpa using hne
                simp only [hne', hm1, Option.isSome_some, Bool.false_eq_true, if_false, Option.bind_some, Bool.not_true, ea, hw2]
          · have hp' : (w == ([112, 101, 114, 115, 111, 110] : List UInt8)) = false := by simpa [kP] using hp
            rw [if_neg hp] at hq
            have := hn q hq
            subst this
            simp only [hp', hq, Option.isSome_some, Bool.false_eq_true, if_false, Option.bind_some, Bool.not_true, ea, hw2]
      rw [hlp, Option.bind_some]
      cases ws.foldlM (stW w) [] <;> rfl
    · rw [Option.bind_some, if_pos (by simpa using h2), if_neg (fun h => h2 h.2)]
      rfl
  · rw [if_pos (by simp only [List.length_cons, bne_iff_ne, ne_eq]; omega), Option.bind_some, if_pos rfl, if_neg (fun h => h1 h.1)]
    rfl
theorem nums_per (x : Tex) : numsO kP 2 x = (perL x).map fun p => [p.Mother, p.Adopted] := by
  unfold perL
  obtain ⟨w, ws, hs⟩ := splL_hd 32 x
  rw [numsO_cons kP 2 hs, hs]
  have hw : ∀ y, wordF kP y = pnum y := fun y => if_pos rfl
  rcases ws with _ | ⟨a, _ | ⟨b, _ | ⟨c, r⟩⟩⟩
  · simp
  · simp
  · by_cases hk : w = kP
    · simp only [List.length_cons, List.length_nil, hk, and_self, if_true, List.foldlM_cons, List.foldlM_nil, stW, hw]
      cases pnum a with
      | none => rfl
      | some p => cases pnum b <;> rfl
    · simp [hk]
  · simp
theorem nums_eve (x : Tex) : numsO kE 2 x = (eveL x).map fun p => [p.Strip, p.Holder] := by
  unfold eveL
  obtain ⟨w, ws, hs⟩ := splL_hd 32 x
  rw [numsO_cons kE 2 hs, hs]
  have hw : ∀ y, wordF kE y = num y := fun y => if_neg (by decide)
  rcases ws with _ | ⟨a, _ | ⟨b, _ | ⟨c, r⟩⟩⟩
  · simp
  · simp
  · by_cases hk : w = kE
    · simp only [List.length_cons, List.length_nil, hk, and_self, if_true, List.foldlM_cons, List.foldlM_nil, stW, hw]
      cases num a with
      | none => rfl
      | some p => cases num b <;> rfl
    · simp [hk]
  · simp
theorem nums_mem (x : Tex) : numsO kM 4 x = (memL x).map fun p => [p.From, p.To, p.Years.Low, p.Years.High] := by
  unfold memL
  obtain ⟨w, ws, hs⟩ := splL_hd 32 x
  rw [numsO_cons kM 4 hs, hs]
  have hw : ∀ y, wordF kM y = num y := fun y => if_neg (by decide)
  rcases ws with _ | ⟨a, _ | ⟨b, _ | ⟨c, _ | ⟨d, _ | ⟨e, r⟩⟩⟩⟩⟩
  · simp
  · simp
  · simp
  · simp
  · by_cases hk : w = kM
    · simp only [List.length_cons, List.length_nil, hk, and_self, if_true, List.foldlM_cons, List.foldlM_nil, stW, hw]
      cases num a with
      | none => rfl
      | some p =>
        cases num b with
        | none => rfl
        | some q =>
          cases num c with
          | none => rfl
          | some r => cases num d <;> rfl
    · simp [hk]
  · simp
def headO (x : Tex) : Option (Int × Int × Int) := match splL 32 x with
  | [w, a, b, c] => if w = kL then (num a).bind fun p => (num b).bind fun q => (num c).map fun r => (p, q, r) else none
  | _ => none
theorem nums_head (x : Tex) : numsO kL 3 x = (headO x).map fun p => [p.1, p.2.1, p.2.2] := by
  unfold headO
  obtain ⟨w, ws, hs⟩ := splL_hd 32 x
  rw [numsO_cons kL 3 hs, hs]
  have hw : ∀ y, wordF kL y = num y := fun y => if_neg (by decide)
  rcases ws with _ | ⟨a, _ | ⟨b, _ | ⟨c, _ | ⟨d, r⟩⟩⟩⟩
  · simp
  · simp
  · simp
  · by_cases hk : w = kL
    · simp only [List.length_cons, List.length_nil, hk, and_self, if_true, List.foldlM_cons, List.foldlM_nil, stW, hw]
      cases num a with
      | none => rfl
      | some p =>
        cases num b with
        | none => rfl
        | some q => cases num c <;> rfl
    · simp [hk]
  · simp
end Go.Proofs.YtcaflmilfhhikaaGreatDoor
