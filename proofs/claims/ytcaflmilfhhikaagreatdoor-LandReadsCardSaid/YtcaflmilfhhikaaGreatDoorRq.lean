/-
  Plain: the lines of events and memories; the whole of a text as the program reads it.
-/
import Derived.Test.YtcaflmilfhhikaaGreatDoorRp
namespace Go.Proofs.YtcaflmilfhhikaaGreatDoor
open Go.RowKit Go.Lib
set_option linter.unusedVariables false

def eveL (l : Tex) : Option TLandEvent := match splL 32 l with
  | [w, a, b] => if w = kE then (num a).bind fun x => (num b).map fun y => ⟨x, y⟩ else none
  | _ => none
def memL (l : Tex) : Option TLandMemory := match splL 32 l with
  | [w, a, b, c, d] => if w = kM then (num a).bind fun x => (num b).bind fun y => (num c).bind fun z => (num d).map fun u => ⟨x, y, ⟨z, u⟩⟩ else none
  | _ => none
theorem eve_small {l : Tex} {p : TLandEvent} (h : eveL l = some p) : small p.Strip ∧ small p.Holder := by
  unfold eveL at h
  split at h
  · split at h
    · obtain ⟨x, h1, h2⟩ := Option.bind_eq_some_iff.1 h
      obtain ⟨y, h3, rfl⟩ := Option.map_eq_some_iff.1 h2
      exact ⟨num_small h1, num_small h3⟩
    · cases h
  · cases h
theorem mem_small {l : Tex} {p : TLandMemory} (h : memL l = some p) : small p.From ∧ small p.To ∧ small p.Years.Low ∧ small p.Years.High := by
  unfold memL at h
  split at h
  · split at h
    · obtain ⟨x, h1, h2⟩ := Option.bind_eq_some_iff.1 h
      obtain ⟨y, h3, h2⟩ := Option.bind_eq_some_iff.1 h2
      obtain ⟨z, h4, h2⟩ := Option.bind_eq_some_iff.1 h2
      obtain ⟨u, h5, rfl⟩ := Option.map_eq_some_iff.1 h2
      exact ⟨num_small h1, num_small h3, num_small h4, num_small h5⟩
    · cases h
  · cases h
def stE (lines : List Tex) (at_ : Nat) (k : Nat) (t : List TLandEvent) : Option (List TLandEvent) := (lines[at_ + k]?).bind fun l => (eveL l).map fun p => t ++ [p]
def stM (lines : List Tex) (at_ : Nat) (k : Nat) (t : List TLandMemory) : Option (List TLandMemory) := (lines[at_ + k]?).bind fun l => (memL l).map fun p => t ++ [p]
theorem b2_rel (lines : List Tex) (hl : ∀ l ∈ lines, l.length ≤ 1000000) (n at_ : Nat) (hn : n ≤ 100000) (hat : at_ ≤ 1000000) (ps : List TLandPerson) (ms : List TLandMemory) (bx : TLandBook) :
    Rel (lp (f29_b2 (n : Int) lines) ((at_ : Int), 0, ⟨⟨ps, [], ms⟩⟩, bx)) ((itN (stE lines at_) n 0 []).map fun t => (((at_ + n : Nat) : Int), (⟨⟨ps, t, ms⟩⟩ : TReader), bx)) := by
  refine lp_rel (body := f29_b2 (n : Int) lines) (fun k (t : List TLandEvent) => (((at_ + k : Nat) : Int), (k : Int), (⟨⟨ps, t, ms⟩⟩ : TReader), bx)) n (fun k t => t.length = k) (stE lines at_) _ (fun k t hk hI => ?_) (fun k t t' hk hI hst => ?_) (fun t _ => ?_) n 0 [] (by omega) rfl
  · unfold f29_b2 stE
    rw [if_pos (by simp; omega)]
    cases hl0 : lines[at_ + k]? with
    | none =>
      have hge := List.getElem?_eq_none_iff.1 hl0
      have ed : decide ((((at_ + k : Nat) : Int)) < (lines.length : Int)) = false := by simp; omega
      simp only [ed]
      exact ⟨_, rfl⟩
    | some l =>
      have hlt := get_lt hl0
      have hll := hl l (List.mem_of_getElem? hl0)
      have ed : decide ((((at_ + k : Nat) : Int)) < (lines.length : Int)) = true := by simp; omega
      have e58 : ∀ x : Tex, f58 true x = some (.inl ()) := fun _ => rfl
      have e58f : ∀ x : Tex, f58 false x = some (.inr x) := fun _ => rfl
      simp only [ed, e58, Option.bind_some, Sum.elim_inl, ix_nat, hl0, f59_one 32 l hll]
      obtain ⟨w, ws, hs⟩ := splL_hd 32 l
      have hpl : ∀ x ∈ w :: ws, x.length ≤ 1000000 := fun x hx => Nat.le_trans (splL_piece 32 l x (by rw [hs]; exact hx)) hll
      have i0 : ix (w :: ws) 0 = some w := rfl
      unfold eveL
      rw [hs]
      simp only [i0, Option.bind_some, subL_tail]
      by_cases hw : w = kE
      · have hw' : (w == ([101, 118, 101, 110, 116] : List UInt8)) = true := by simpa [kE] using hw
        simp only [hw', e58, Option.bind_some, Sum.elim_inl]
        rcases ws with _ | ⟨a, _ | ⟨b, _ | ⟨c, r⟩⟩⟩
        · exact ⟨_, rfl⟩
        · exact ⟨_, rfl⟩
        · have e2 : (((([a, b] : List Tex).length : Nat) : Int) == 2) = true := rfl
          have j0 : ix ([a, b] : List Tex) 0 = some a := rfl
          have j1 : ix ([a, b] : List Tex) 1 = some b := rfl
          simp only [e2, e58, Option.bind_some, Sum.elim_inl, j0, j1]
          refine RelB.of_eq (RelB.bind (f60_rel a (hpl a (by simp))) (h := fun x => (num b).bind fun y => some (.inl (((at_ + (k + 1) : Nat) : Int), ((k + 1 : Nat) : Int), (⟨⟨ps, t ++ [⟨x, y⟩], ms⟩⟩ : TReader), bx))) fun x _ => RelB.bind (f60_rel b (hpl b (by simp))) fun y _ => ?_) ?_
          · have ea : ∀ p : TLandEvent, app t [p] = some (t ++ [p]) := fun p => by unfold app; rw [if_pos (by simp; omega)]
            simp only [ea, Option.bind_some]
            have h1 : IntKind.i64.wrap (((at_ + k : Nat) : Int) + 1) = ((at_ + (k + 1) : Nat) : Int) := by rw [wrap_id] <;> omega
            have h2 : IntKind.i64.wrap ((k : Int) + 1) = ((k + 1 : Nat) : Int) := by rw [wrap_id] <;> omega
            rw [h1, h2]
            exact rfl
          · rw [if_pos hw]
            cases num a with
            | none => rfl
            | some x =>
              cases num b with
              | none => rfl
              | some y => rfl
        · have e2 : ((((a :: b :: c :: r : List Tex).length : Nat) : Int) == 2) = false := by
            simp only [List.length_cons, beq_eq_false_iff_ne, ne_eq]; omega
          simp only [e2, e58f]
          exact ⟨_, rfl⟩
      · have hw' : (w == ([101, 118, 101, 110, 116] : List UInt8)) = false := by simpa [kE] using hw
        simp only [hw', e58f]
        have : (match w :: ws with
          | [w, a, b] => if w = kE then (num a).bind fun x => (num b).map fun y => (⟨x, y⟩ : TLandEvent) else none
          | _ => none) = none := by
          split
          · rename_i heq
            injection heq with h1 h2
            subst h1
            rw [if_neg hw]
          · rfl
        rw [this]
        exact ⟨_, rfl⟩
  · unfold stE at hst
    obtain ⟨l, _, h2⟩ := Option.bind_eq_some_iff.1 hst
    obtain ⟨p, _, rfl⟩ := Option.map_eq_some_iff.1 h2
    simp [hI]
  · unfold f29_b2
    rw [if_neg (by simp)]
theorem b4_rel (a b c d : Tex) (ha : a.length ≤ 1000000) (hb : b.length ≤ 1000000) (hc : c.length ≤ 1000000) (hd : d.length ≤ 1000000) (r : TReader) (bx : TLandBook) (mp : Mpz) :
    Rel (lp (f29_b4 [a, b, c, d]) (0, Tb.zero 4, r, bx, mp)) (((num a).bind fun x => (num b).bind fun y => (num c).bind fun z => (num d).map fun u => tset (tset (tset (tset (Tb.zero 4) 0 x) 1 y) 2 z) 3 u).map fun t => (t, r, bx, mp)) := by
  have h := lp_rel (body := f29_b4 [a, b, c, d]) (fun k (t : Tb 4) => ((k : Int), t, r, bx, mp)) 4 (fun _ _ => True) (fun k t => (([a, b, c, d] : List Tex)[k]?).bind fun w => (num w).map fun x => tset t k x) (fun t => (t, r, bx, mp)) (fun k t hk _ => ?_) (fun _ _ _ _ _ _ => trivial) (fun t _ => ?_) 4 0 (Tb.zero 4) rfl trivial
  · refine Rel.of_eq h ?_
    simp [itN]
    cases num a <;> cases num b <;> cases num c <;> cases num d <;> rfl
  · unfold f29_b4
    rw [if_pos (by simp; omega)]
    simp only [ix_nat]
    obtain ⟨w, hw, hwl⟩ : ∃ w, ([a, b, c, d] : List Tex)[k]? = some w ∧ w.length ≤ 1000000 := by
      rcases (by omega : k = 0 ∨ k = 1 ∨ k = 2 ∨ k = 3) with rfl | rfl | rfl | rfl
      · exact ⟨a, rfl, ha⟩
      · exact ⟨b, rfl, hb⟩
      · exact ⟨c, rfl, hc⟩
      · exact ⟨d, rfl, hd⟩
    rw [hw]
    simp only [Option.bind_some]
    have hw1 : IntKind.i64.wrap ((k : Int) + 1) = ((k + 1 : Nat) : Int) := by rw [wrap_id] <;> omega
    refine RelB.of_eq (RelB.bind (f60_rel w hwl) (h := fun x => some (.inl (((k + 1 : Nat) : Int), tset t k x, r, bx, mp))) fun x _ => ?_) ?_
    · rw [ckI_nat hk]
      simp only [Option.bind_some]
      have e0 : 0 + k * 1 = k := by omega
      rw [e0, hw1]
      exact rfl
    · cases num w <;> rfl
  · unfold f29_b4
    rw [if_neg (by simp)]
theorem b3_rel (lines : List Tex) (hl : ∀ l ∈ lines, l.length ≤ 1000000) (n at_ : Nat) (hn : n ≤ 100000) (hat : at_ ≤ 1000000) (ps : List TLandPerson) (es : List TLandEvent) (bx : TLandBook) :
    Rel (lp (f29_b3 (n : Int) lines) ((at_ : Int), 0, ⟨⟨ps, es, []⟩⟩, bx)) ((itN (stM lines at_) n 0 []).map fun t => (((at_ + n : Nat) : Int), (⟨⟨ps, es, t⟩⟩ : TReader), bx)) := by
  refine lp_rel (body := f29_b3 (n : Int) lines) (fun k (t : List TLandMemory) => (((at_ + k : Nat) : Int), (k : Int), (⟨⟨ps, es, t⟩⟩ : TReader), bx)) n (fun k t => t.length = k) (stM lines at_) _ (fun k t hk hI => ?_) (fun k t t' hk hI hst => ?_) (fun t _ => ?_) n 0 [] (by omega) rfl
  · unfold f29_b3 stM
    rw [if_pos (by simp; omega)]
    cases hl0 : lines[at_ + k]? with
    | none =>
      have hge := List.getElem?_eq_none_iff.1 hl0
      have ed : decide ((((at_ + k : Nat) : Int)) < (lines.length : Int)) = false := by simp; omega
      simp only [ed]
      exact ⟨_, rfl⟩
    | some l =>
      have hlt := get_lt hl0
      have hll := hl l (List.mem_of_getElem? hl0)
      have ed : decide ((((at_ + k : Nat) : Int)) < (lines.length : Int)) = true := by simp; omega
      have e58 : ∀ x : Tex, f58 true x = some (.inl ()) := fun _ => rfl
      have e58f : ∀ x : Tex, f58 false x = some (.inr x) := fun _ => rfl
      simp only [ed, e58, Option.bind_some, Sum.elim_inl, ix_nat, hl0, f59_one 32 l hll]
      obtain ⟨w, ws, hs⟩ := splL_hd 32 l
      have hpl : ∀ x ∈ w :: ws, x.length ≤ 1000000 := fun x hx => Nat.le_trans (splL_piece 32 l x (by rw [hs]; exact hx)) hll
      have i0 : ix (w :: ws) 0 = some w := rfl
      unfold memL
      rw [hs]
      simp only [i0, Option.bind_some, subL_tail]
      by_cases hw : w = kM
      · have hw' : (w == ([109, 101, 109, 111, 114, 121] : List UInt8)) = true := by simpa [kM] using hw
        simp only [hw', e58, Option.bind_some, Sum.elim_inl]
        rcases ws with _ | ⟨a, _ | ⟨b, _ | ⟨c, _ | ⟨d, _ | ⟨e, r⟩⟩⟩⟩⟩
        · exact ⟨_, rfl⟩
        · exact ⟨_, rfl⟩
        · exact ⟨_, rfl⟩
        · exact ⟨_, rfl⟩
        · have e2 : (((([a, b, c, d] : List Tex).length : Nat) : Int) == 4) = true := rfl
          simp only [e2, e58, Option.bind_some, Sum.elim_inl]
          refine RelB.of_eq (RelB.bindm (b4_rel a b c d (hpl a (by simp)) (hpl b (by simp)) (hpl c (by simp)) (hpl d (by simp)) _ bx _) (h := fun tb => some (.inl (((at_ + (k + 1) : Nat) : Int), ((k + 1 : Nat) : Int), (⟨⟨ps, es, t ++ [⟨tget tb 0, tget tb 1, ⟨tget tb 2, tget tb 3⟩⟩]⟩⟩ : TReader), bx))) fun tb _ => ?_) ?_
          · have ea : ∀ p : TLandMemory, app t [p] = some (t ++ [p]) := fun p => by unfold app; rw [if_pos (by simp; omega)]
            simp only [ea, Option.bind_some]
            have h1 : IntKind.i64.wrap (((at_ + k : Nat) : Int) + 1) = ((at_ + (k + 1) : Nat) : Int) := by rw [wrap_id] <;> omega
            have h2 : IntKind.i64.wrap ((k : Int) + 1) = ((k + 1 : Nat) : Int) := by rw [wrap_id] <;> omega
            rw [h1, h2]
            exact rfl
          · rw [if_pos hw]
            cases num a with
            | none => rfl
            | some x =>
              cases num b with
              | none => rfl
              | some y =>
                cases num c with
                | none => rfl
                | some z =>
                  cases num d with
                  | none => rfl
                  | some u => rfl
        · have e2 : ((((a :: b :: c :: d :: e :: r : List Tex).length : Nat) : Int) == 4) = false := by
            simp only [List.length_cons, beq_eq_false_iff_ne, ne_eq]; omega
          simp only [e2, e58f]
          exact ⟨_, rfl⟩
      · have hw' : (w == ([109, 101, 109, 111, 114, 121] : List UInt8)) = false := by simpa [kM] using hw
        simp only [hw', e58f]
        have : (match w :: ws with
          | [w, a, b, c, d] => if w = kM then (num a).bind fun x => (num b).bind fun y => (num c).bind fun z => (num d).map fun u => (⟨x, y, ⟨z, u⟩⟩ : TLandMemory) else none
          | _ => none) = none := by
          split
          · rename_i heq
            injection heq with h1 h2
            subst h1
            rw [if_neg hw]
          · rfl
        rw [this]
        exact ⟨_, rfl⟩
  · unfold stM at hst
    obtain ⟨l, _, h2⟩ := Option.bind_eq_some_iff.1 hst
    obtain ⟨p, _, rfl⟩ := Option.map_eq_some_iff.1 h2
    simp [hI]
  · unfold f29_b3
    rw [if_neg (by simp)]
/-! ### The whole -/
def ckR (v : Int) (lines : List Tex) : Option Unit := if 0 ≤ v ∧ v ≤ (lines.length : Int) then some () else none
def readP (s : Tex) : Option TLandBook :=
  (if hasSuffix s [10] = true then some () else none).bind fun _ =>
  (if (splL 32 ((splL 10 (trimSuffix s [10])).headD [])).length = 4 ∧ (splL 32 ((splL 10 (trimSuffix s [10])).headD [])).headD [] = kL then some () else none).bind fun _ =>
  (num ((splL 32 ((splL 10 (trimSuffix s [10])).headD [])).getD 1 [])).bind fun p => (ckR p (splL 10 (trimSuffix s [10]))).bind fun _ => (itN (stP (splL 10 (trimSuffix s [10])) 1) p.toNat 0 []).bind fun ps =>
  (num ((splL 32 ((splL 10 (trimSuffix s [10])).headD [])).getD 2 [])).bind fun e => (ckR e (splL 10 (trimSuffix s [10]))).bind fun _ => (itN (stE (splL 10 (trimSuffix s [10])) (1 + p.toNat)) e.toNat 0 []).bind fun es =>
  (num ((splL 32 ((splL 10 (trimSuffix s [10])).headD [])).getD 3 [])).bind fun m => (ckR m (splL 10 (trimSuffix s [10]))).bind fun _ => (itN (stM (splL 10 (trimSuffix s [10])) (1 + p.toNat + e.toNat)) m.toNat 0 []).bind fun ms =>
  if textT ⟨ps, es, ms⟩ = s then some ⟨ps, es, ms⟩ else none
theorem stP_app (lines : List Tex) (at_ k : Nat) (t t' : List TLandPerson) (h : stP lines at_ k t = some t') : ∃ x, t' = t ++ [x] ∧ (small x.Mother ∧ small x.Adopted) := by
  obtain ⟨l, _, h2⟩ := Option.bind_eq_some_iff.1 h
  obtain ⟨p, h3, rfl⟩ := Option.map_eq_some_iff.1 h2
  exact ⟨p, rfl, per_small h3⟩
theorem stE_app (lines : List Tex) (at_ k : Nat) (t t' : List TLandEvent) (h : stE lines at_ k t = some t') : ∃ x, t' = t ++ [x] ∧ (small x.Strip ∧ small x.Holder) := by
  obtain ⟨l, _, h2⟩ := Option.bind_eq_some_iff.1 h
  obtain ⟨p, h3, rfl⟩ := Option.map_eq_some_iff.1 h2
  exact ⟨p, rfl, eve_small h3⟩
theorem stM_app (lines : List Tex) (at_ k : Nat) (t t' : List TLandMemory) (h : stM lines at_ k t = some t') : ∃ x, t' = t ++ [x] ∧ (small x.From ∧ small x.To ∧ small x.Years.Low ∧ small x.Years.High) := by
  obtain ⟨l, _, h2⟩ := Option.bind_eq_some_iff.1 h
  obtain ⟨p, h3, rfl⟩ := Option.map_eq_some_iff.1 h2
  exact ⟨p, rfl, mem_small h3⟩
theorem ckR_rel (v : Int) (lines : List Tex) (x y : Tex) : Rel ((if (decide (0 ≤ v)) = true then ((f58 (decide (v ≤ (lines.length : Int))) x).bind fun y49 => Sum.elim (fun v51 : Unit => some (.inl ())) (fun v52 : List UInt8 => some (.inr v52)) y49) else ((f58 false y).bind fun y53 => Sum.elim (fun v55 : Unit => some (.inl ())) (fun v56 : List UInt8 => some (.inr v56)) y53) : Option (Unit ⊕ (List UInt8)))) (ckR v lines) := by
  unfold ckR
  by_cases h0 : 0 ≤ v
  · rw [if_pos (by simpa using h0)]
    by_cases h1 : v ≤ (lines.length : Int)
    · rw [if_pos ⟨h0, h1⟩, show decide (v ≤ (lines.length : Int)) = true by simpa using h1]; exact rfl
    · rw [if_neg (fun h => h1 h.2), show decide (v ≤ (lines.length : Int)) = false by simpa using h1]; exact ⟨_, rfl⟩
  · rw [if_neg (by simpa using h0), if_neg (fun h => h0 h.1)]; exact ⟨_, rfl⟩
theorem trimS_len (s : Tex) : (trimSuffix s [10]).length ≤ s.length := by
  unfold trimSuffix
  split
  · simp only [List.length_take]; omega
  · exact Nat.le_refl _
theorem f29_rel (s : Tex) (hs : s.length ≤ 90000) : Rel (f29 s) (readP s) := by
  have htl := trimS_len s
  have e57 : f57 s ([10] : List UInt8) = some (trimSuffix s [10], hasSuffix s [10]) := by unfold f57; rw [if_pos (by omega)]
  have hln := splL_len 10 (trimSuffix s [10])
  have hpc : ∀ l ∈ splL 10 (trimSuffix s [10]), l.length ≤ 1000000 := fun l hl => by have := splL_piece 10 _ l hl; omega
  obtain ⟨l0, lr, hl⟩ := splL_hd 10 (trimSuffix s [10])
  unfold f29 readP
  rw [e57, Option.bind_some]
  refine Rel.bind (f58_rel _ _) fun _ _ => ?_
  rw [show f59 (trimSuffix s [10], hasSuffix s [10]).1 ([10] : List UInt8) = _ from f59_one 10 (trimSuffix s [10]) (by omega), Option.bind_some]
  rw [hl] at hln hpc ⊢
  have hl0 : l0.length ≤ 1000000 := hpc l0 (by simp)
  have i0 : ix (l0 :: lr) 0 = some l0 := rfl
  have hd0 : (l0 :: lr).headD [] = l0 := rfl
  rw [i0, Option.bind_some, f59_one 32 l0 hl0, Option.bind_some, hd0]
  have hpw : ∀ x ∈ splL 32 l0, x.length ≤ 1000000 := fun x hx => Nat.le_trans (splL_piece 32 l0 x hx) hl0
  refine Rel.bind ?_ fun _ hc => ?_
  · obtain ⟨w, ws, hw⟩ := splL_hd 32 l0
    rw [hw]
    have j0 : ix (w :: ws) 0 = some w := rfl
    have h0 : (w :: ws).headD [] = w := rfl
    rw [j0, h0, Option.bind_some]
    by_cases h4 : (w :: ws).length = 4
    · rw [if_pos (by rw [h4]; rfl)]
      by_cases hk : w = kL
      · rw [if_pos ⟨h4, hk⟩, show (w == ([108, 97, 110, 100] : List UInt8)) = true by simpa [kL] using hk]; exact rfl
      · rw [if_neg (fun h => hk h.2), show (w == ([108, 97, 110, 100] : List UInt8)) = false by simpa [kL] using hk]; exact ⟨_, rfl⟩
    · rw [if_neg (by simp only [beq_iff_eq]; omega), if_neg (fun h => h4 h.1)]; exact ⟨_, rfl⟩
  split at hc
  · rename_i h4
    obtain ⟨w, a, b, c, hw⟩ : ∃ w a b c, splL 32 l0 = [w, a, b, c] := by
      obtain ⟨q, hq⟩ : ∃ q, splL 32 l0 = q := ⟨_, rfl⟩
      have h5 := h4.1
      rw [hq] at h5 ⊢
      rcases q with _ | ⟨w, _ | ⟨a, _ | ⟨b, _ | ⟨c, _ | ⟨d, r⟩⟩⟩⟩⟩ <;> first | exact ⟨_, _, _, _, rfl⟩ | (simp at h5)
    rw [hw] at hpw ⊢
    have i1 : ix [w, a, b, c] 1 = some a := rfl
    have i2 : ix [w, a, b, c] 2 = some b := rfl
    have i3 : ix [w, a, b, c] 3 = some c := rfl
    have g1 : ([w, a, b, c] : List Tex).getD 1 [] = a := rfl
    have g2 : ([w, a, b, c] : List Tex).getD 2 [] = b := rfl
    have g3 : ([w, a, b, c] : List Tex).getD 3 [] = c := rfl
    rw [i1, Option.bind_some, g1, g2, g3]
    refine Rel.bind (f60_rel a (hpw a (by simp))) fun p hp => ?_
    refine Rel.bind (ckR_rel p (l0 :: lr) _ _) fun _ hcp => ?_
    have hp0 : 0 ≤ p := by
      unfold ckR at hcp
      split at hcp
      · rename_i h; exact h.1
      · cases hcp
    have hps := num_small hp
    have ep : ((p.toNat : Nat) : Int) = p := by omega
    have h1 := b0_rel (l0 :: lr) hpc p.toNat 1 (by have := hps.2; omega) (by decide) [] [] (⟨[], [], []⟩ : TLandBook)
    rw [ep] at h1
    refine Rel.bindm h1 fun ps hps' => ?_
    simp only [i2, Option.bind_some]
    refine Rel.bind (f60_rel b (hpw b (by simp))) fun e he => ?_
    refine Rel.bind (ckR_rel e (l0 :: lr) _ _) fun _ hce => ?_
    have he0 : 0 ≤ e := by
      unfold ckR at hce
      split at hce
      · rename_i h; exact h.1
      · cases hce
    have hes := num_small he
    have ee : ((e.toNat : Nat) : Int) = e := by omega
    have h2 := b2_rel (l0 :: lr) hpc e.toNat (1 + p.toNat) (by have := hes.2; omega) (by have := hps.2; omega) ps [] (⟨[], [], []⟩ : TLandBook)
    rw [ee] at h2
    refine Rel.bindm h2 fun es hes' => ?_
    simp only [i3, Option.bind_some]
    refine Rel.bind (f60_rel c (hpw c (by simp))) fun m hm => ?_
    refine Rel.bind (ckR_rel m (l0 :: lr) _ _) fun _ hcm => ?_
    have hm0 : 0 ≤ m := by
      unfold ckR at hcm
      split at hcm
      · rename_i h; exact h.1
      · cases hcm
    have hms := num_small hm
    have em : ((m.toNat : Nat) : Int) = m := by omega
    have h3 := b3_rel (l0 :: lr) hpc m.toNat (1 + p.toNat + e.toNat) (by have := hms.2; omega) (by have := hps.2; have := hes.2; omega) ps es (⟨[], [], []⟩ : TLandBook)
    rw [em] at h3
    refine Rel.bindm h3 fun ms hms' => ?_
    obtain ⟨xs, ex, lx, qx⟩ := itN_all (stP_app _ _) _ _ _ _ hps'
    obtain ⟨ys, ey, ly, qy⟩ := itN_all (stE_app _ _) _ _ _ _ hes'
    obtain ⟨zs, ez, lz, qz⟩ := itN_all (stM_app _ _) _ _ _ _ hms'
    rw [List.nil_append] at ex ey ez
    subst ex ey ez
    have hsm : Sm ⟨ps, es, ms⟩ := ⟨qx, qy, qz, by show ps.length ≤ _; have := hps.2; omega, by show es.length ≤ _; have := hes.2; omega, by show ms.length ≤ _; have := hms.2; omega⟩
    show Rel ((f23 (⟨ps, es, ms⟩ : TLandBook)).bind _) _
    rw [f23_eq hsm, Option.bind_some]
    by_cases ht : textT ⟨ps, es, ms⟩ = s
    · rw [if_pos ht, show (textT ⟨ps, es, ms⟩ == s) = true by simpa using ht]; exact rfl
    · rw [if_neg ht, show (textT ⟨ps, es, ms⟩ == s) = false by simpa using ht]; exact ⟨_, rfl⟩
  · cases hc
/-- What is read is the text of what it is read as. -/
theorem readP_text {s : Tex} {b : TLandBook} (h : readP s = some b) : textT b = s ∧ Sm b := by
  unfold readP at h
  obtain ⟨_, _, h⟩ := Option.bind_eq_some_iff.1 h
  obtain ⟨_, _, h⟩ := Option.bind_eq_some_iff.1 h
  obtain ⟨p, hp, h⟩ := Option.bind_eq_some_iff.1 h
  obtain ⟨_, hcp, h⟩ := Option.bind_eq_some_iff.1 h
  obtain ⟨ps, hps', h⟩ := Option.bind_eq_some_iff.1 h
  obtain ⟨e, he, h⟩ := Option.bind_eq_some_iff.1 h
  obtain ⟨_, hce, h⟩ := Option.bind_eq_some_iff.1 h
  obtain ⟨es, hes', h⟩ := Option.bind_eq_some_iff.1 h
  obtain ⟨m, hm, h⟩ := Option.bind_eq_some_iff.1 h
  obtain ⟨_, hcm, h⟩ := Option.bind_eq_some_iff.1 h
  obtain ⟨ms, hms', h⟩ := Option.bind_eq_some_iff.1 h
  split at h
  · rename_i ht
    have h := Option.some.inj h
    subst h
    obtain ⟨xs, ex, lx, qx⟩ := itN_all (stP_app _ _) _ _ _ _ hps'
    obtain ⟨ys, ey, ly, qy⟩ := itN_all (stE_app _ _) _ _ _ _ hes'
    obtain ⟨zs, ez, lz, qz⟩ := itN_all (stM_app _ _) _ _ _ _ hms'
    rw [List.nil_append] at ex ey ez
    subst ex ey ez
    have h1 := (num_small hp).2
    have h2 := (num_small he).2
    have h3 := (num_small hm).2
    exact ⟨ht, qx, qy, qz, by show ps.length ≤ _; omega, by show es.length ≤ _; omega, by show ms.length ≤ _; omega⟩
  · cases h
end Go.Proofs.YtcaflmilfhhikaaGreatDoor
