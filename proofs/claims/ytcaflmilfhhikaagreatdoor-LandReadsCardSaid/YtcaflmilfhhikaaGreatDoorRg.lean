/-
  LandReads: which book any text is of; what is read is written the same (plain law).
-/
import Derived.Test.YtcaflmilfhhikaaGreatDoorRf
import Derived.Test.YtcaflmilfhhikaaGreatDoorOp
namespace Go.Proofs.YtcaflmilfhhikaaGreatDoor
open Go.RowKit Go.Lib
set_option linter.unusedVariables false

theorem join_of {c : UInt8} {l a : Tex} {t : List Tex} (h : splL c l = a :: t) : l = a ++ t.flatMap (c :: ·) := by
  obtain ⟨a', t', h1, h2⟩ := splL_join c l
  rw [h1] at h
  cases h
  exact h2
theorem per_line {l : Tex} {p : TLandPerson} (h : perL l = some p) : l = pl p := by
  unfold perL at h
  split at h
  · rename_i w a b heq
    split at h
    · rename_i hw
      obtain ⟨x, h1, h2⟩ := Option.bind_eq_some_iff.1 h
      obtain ⟨y, h3, rfl⟩ := Option.map_eq_some_iff.1 h2
      rw [join_of heq, hw, pnum_word h1, pnum_word h3]
      simp [pl]
    · cases h
  · cases h
theorem eve_line {l : Tex} {p : TLandEvent} (h : eveL l = some p) : l = el p := by
  unfold eveL at h
  split at h
  · rename_i w a b heq
    split at h
    · rename_i hw
      obtain ⟨x, h1, h2⟩ := Option.bind_eq_some_iff.1 h
      obtain ⟨y, h3, rfl⟩ := Option.map_eq_some_iff.1 h2
      rw [join_of heq, hw, (num_word.1 h1).1, (num_word.1 h3).1]
      simp [el, wd]
    · cases h
  · cases h
theorem mem_line {l : Tex} {p : TLandMemory} (h : memL l = some p) : l = ml p := by
  unfold memL at h
  split at h
  · rename_i w a b c d heq
    split at h
    · rename_i hw
      obtain ⟨x, h1, h⟩ := Option.bind_eq_some_iff.1 h
      obtain ⟨y, h2, h⟩ := Option.bind_eq_some_iff.1 h
      obtain ⟨z, h3, h⟩ := Option.bind_eq_some_iff.1 h
      obtain ⟨u, h4, rfl⟩ := Option.map_eq_some_iff.1 h
      rw [join_of heq, hw, (num_word.1 h1).1, (num_word.1 h2).1, (num_word.1 h3).1, (num_word.1 h4).1]
      simp [ml, wd]
    · cases h
  · cases h
theorem head_line {l : Tex} {h : Int × Int × Int} (e : headO l = some h) : l = wd kL [h.1, h.2.1, h.2.2] := by
  unfold headO at e
  split at e
  · rename_i w a b c heq
    split at e
    · rename_i hw
      obtain ⟨x, h1, e⟩ := Option.bind_eq_some_iff.1 e
      obtain ⟨y, h2, e⟩ := Option.bind_eq_some_iff.1 e
      obtain ⟨z, h3, rfl⟩ := Option.map_eq_some_iff.1 e
      rw [join_of heq, hw, (num_word.1 h1).1, (num_word.1 h2).1, (num_word.1 h3).1]
      simp [wd]
    · cases e
  · cases e
/-- Where what is read stands. -/
theorem itN_at {α : Type} {lines : List Tex} {at_ : Nat} {step : Nat → List α → Option (List α)} {g : α → Tex} (hs : ∀ k t t', step k t = some t' → ∃ x, t' = t ++ [x] ∧ lines[at_ + k]? = some (g x)) :
    ∀ (m k : Nat) (t t' : List α), itN step m k t = some t' → ∃ xs, t' = t ++ xs ∧ xs.length = m ∧ ∀ j x, xs[j]? = some x → lines[at_ + (k + j)]? = some (g x)
  | 0, k, t, t', h => ⟨[], by simpa [itN] using h.symm, rfl, by simp⟩
  | m + 1, k, t, t', h => by
    obtain ⟨u, h1, h2⟩ := Option.bind_eq_some_iff.1 h
    obtain ⟨x, rfl, hq⟩ := hs k t u h1
    obtain ⟨xs, rfl, hl, hx⟩ := itN_at hs m (k + 1) _ t' h2
    refine ⟨x :: xs, by simp, by simp [hl], fun j y hy => ?_⟩
    cases j with
    | zero => simp at hy; subst hy; exact hq
    | succ j =>
      have := hx j y (by simpa using hy)
      rwa [show k + 1 + j = k + (j + 1) by omega] at this
theorem stP_at (lines : List Tex) (at_ k : Nat) (t t' : List TLandPerson) (h : stP lines at_ k t = some t') : ∃ x, t' = t ++ [x] ∧ lines[at_ + k]? = some (pl x) := by
  obtain ⟨l, h1, h2⟩ := Option.bind_eq_some_iff.1 h
  obtain ⟨p, h3, rfl⟩ := Option.map_eq_some_iff.1 h2
  exact ⟨p, rfl, by rw [h1, per_line h3]⟩
theorem stE_at (lines : List Tex) (at_ k : Nat) (t t' : List TLandEvent) (h : stE lines at_ k t = some t') : ∃ x, t' = t ++ [x] ∧ lines[at_ + k]? = some (el x) := by
  obtain ⟨l, h1, h2⟩ := Option.bind_eq_some_iff.1 h
  obtain ⟨p, h3, rfl⟩ := Option.map_eq_some_iff.1 h2
  exact ⟨p, rfl, by rw [h1, eve_line h3]⟩
theorem stM_at (lines : List Tex) (at_ k : Nat) (t t' : List TLandMemory) (h : stM lines at_ k t = some t') : ∃ x, t' = t ++ [x] ∧ lines[at_ + k]? = some (ml x) := by
  obtain ⟨l, h1, h2⟩ := Option.bind_eq_some_iff.1 h
  obtain ⟨p, h3, rfl⟩ := Option.map_eq_some_iff.1 h2
  exact ⟨p, rfl, by rw [h1, mem_line h3]⟩
theorem join_unl : ∀ (ls : List Tex) (z : Tex), ∃ a t, ls ++ [z] = a :: t ∧ a ++ t.flatMap (10 :: ·) = unl ls ++ z
  | [], z => ⟨z, [], rfl, by simp [unl]⟩
  | l :: ls, z => by
    obtain ⟨a, t, h1, h2⟩ := join_unl ls z
    refine ⟨l, ls ++ [z], rfl, ?_⟩
    rw [h1]
    have e : unl (l :: ls) = l ++ [10] ++ unl ls := by simp [unl]
    rw [e, List.flatMap_cons, List.append_assoc, List.append_assoc, ← h2]
    simp
theorem join_lines {s : Tex} {ls : List Tex} {z : Tex} (h : splL 10 s = ls ++ [z]) : s = unl ls ++ z := by
  obtain ⟨a, t, h1, h2⟩ := join_unl ls z
  rw [h1] at h
  rw [join_of h, h2]
theorem take_body (b : TLandBook) (x : Tex) : (bodyT b ++ x ++ [10]).take ((bodyT b ++ x ++ [10]).length - x.length - 1) = bodyT b := by
  have e : (bodyT b ++ x ++ [10]).length - x.length - 1 = (bodyT b).length := by simp; omega
  rw [e, List.append_assoc, List.take_left]
theorem body_pos (b : TLandBook) : 1 ≤ (bodyT b).length := by
  rw [bodyT_eq]
  simp
  omega
/-- What the document reads is the text of what it is read as. -/
theorem readQ_text {s : Tex} {b : TLandBook} (h : readQ s = some b) : textT b = s ∧ Sm b := by
  unfold readQ at h
  obtain ⟨⟨p, e, m⟩, hh, h⟩ := Option.bind_eq_some_iff.1 h
  obtain ⟨_, hc, h⟩ := Option.bind_eq_some_iff.1 h
  split at hc
  · rename_i hc4
    obtain ⟨c1, c2, c3, c4⟩ := hc4
    obtain ⟨ps, hps, h⟩ := Option.bind_eq_some_iff.1 h
    obtain ⟨es, hes, h⟩ := Option.bind_eq_some_iff.1 h
    obtain ⟨ms, hms, h⟩ := Option.bind_eq_some_iff.1 h
    split at h
    · rename_i hend
      have h := Option.some.inj h
      subst h
      simp only at *
      obtain ⟨hp, he, hm⟩ := head_small hh
      simp only at hp he hm
      obtain ⟨xs, ex, lx, qx⟩ := itN_all (stP_app _ _) _ _ _ _ hps
      obtain ⟨ys, ey, ly, qy⟩ := itN_all (stE_app _ _) _ _ _ _ hes
      obtain ⟨zs, ez, lz, qz⟩ := itN_all (stM_app _ _) _ _ _ _ hms
      obtain ⟨xs', ex', _, ax⟩ := itN_at (stP_at _ _) _ _ _ _ hps
      obtain ⟨ys', ey', _, ay⟩ := itN_at (stE_at _ _) _ _ _ _ hes
      obtain ⟨zs', ez', _, az⟩ := itN_at (stM_at _ _) _ _ _ _ hms
      rw [List.nil_append] at ex ey ez ex' ey' ez'
      subst ex ey ez
      subst ex' ey' ez'
      have hsm : Sm ⟨ps, es, ms⟩ := ⟨qx, qy, qz, by show ps.length ≤ _; have := hp.2; omega, by show es.length ≤ _; have := he.2; omega, by show ms.length ≤ _; have := hm.2; omega⟩
      refine ⟨?_, hsm⟩
      obtain ⟨l0, lr, hl⟩ := splL_hd 10 s
      have hd0 : (splL 10 s).headD [] = l0 := by rw [hl]; rfl
      rw [hd0] at hh
      have el0 : l0 = headL ⟨ps, es, ms⟩ := by
        rw [head_line hh]
        unfold headL
        show wd kL [p, e, m] = wd kL [(ps.length : Int), (es.length : Int), (ms.length : Int)]
        rw [show p = (ps.length : Int) by omega, show e = (es.length : Int) by omega, show m = (ms.length : Int) by omega]
      rw [← lx, ← ly, ← lz] at c4
      rw [← lx] at ay az hend
      rw [← ly] at az hend
      rw [← lz] at hend
      unfold endO at hend
      simp only [Bool.and_eq_true, decide_eq_true_eq, beq_iff_eq] at hend
      obtain ⟨d1, d2, d3⟩ := hend
      generalize hx : (splL 10 s).getD (1 + ps.length + es.length + ms.length) [] = x at d2 d3
      have hlines : splL 10 s = (linesT ⟨ps, es, ms⟩ ++ [x]) ++ [[]] := by
        apply List.ext_getElem?
        intro i
        have eX : (linesT (⟨ps, es, ms⟩ : TLandBook) ++ [x]) ++ [[]] = headL ⟨ps, es, ms⟩ :: (ps.map pl ++ (es.map el ++ (ms.map ml ++ [x, []]))) := by simp [linesT]
        rw [eX]
        by_cases i0 : i = 0
        · subst i0; rw [hl, el0]; rfl
        · obtain ⟨j, rfl⟩ : ∃ j, i = j + 1 := ⟨i - 1, by omega⟩
          rw [List.getElem?_cons_succ]
          by_cases i1 : j < ps.length
          · have hg : ps[j]? = some ps[j] := List.getElem?_eq_getElem i1
            have := ax j ps[j] hg
            rw [List.getElem?_append_left (by simpa using i1), List.getElem?_map, hg, ← show 1 + (0 + j) = j + 1 by omega, this]
            rfl
          · rw [List.getElem?_append_right (by simp; omega), List.length_map]
            by_cases i2 : j - ps.length < es.length
            · have hg : es[j - ps.length]? = some es[j - ps.length] := List.getElem?_eq_getElem i2
              have := ay (j - ps.length) _ hg
              rw [List.getElem?_append_left (by simpa using i2), List.getElem?_map, hg, ← show 1 + ps.length + (0 + (j - ps.length)) = j + 1 by omega, this]
              rfl
            · rw [List.getElem?_append_right (by simp; omega), List.length_map]
              by_cases i3 : j - ps.length - es.length < ms.length
              · have hg : ms[j - ps.length - es.length]? = some ms[j - ps.length - es.length] := List.getElem?_eq_getElem i3
                have := az (j - ps.length - es.length) _ hg
                rw [List.getElem?_append_left (by simpa using i3), List.getElem?_map, hg, ← show 1 + ps.length + es.length + (0 + (j - ps.length - es.length)) = j + 1 by omega, this]
                rfl
              · rw [List.getElem?_append_right (by simp; omega), List.length_map]
                by_cases i4 : j - ps.length - es.length - ms.length = 0
                · have hj : j + 1 = 1 + ps.length + es.length + ms.length := by omega
                  have hlt : 1 + ps.length + es.length + ms.length < (splL 10 s).length := by omega
                  rw [i4, hj, List.getElem?_eq_getElem hlt]
                  rw [List.getD_eq_getElem?_getD, List.getElem?_eq_getElem hlt] at hx
                  exact congrArg some hx
                · by_cases i5 : j - ps.length - es.length - ms.length = 1
                  · have hj : j + 1 = 1 + ps.length + es.length + ms.length + 1 := by omega
                    have hlt : 1 + ps.length + es.length + ms.length + 1 < (splL 10 s).length := by omega
                    rw [i5, hj, List.getElem?_eq_getElem hlt]
                    rw [List.getD_eq_getElem?_getD, List.getElem?_eq_getElem hlt] at d1
                    exact congrArg some d1
                  · rw [List.getElem?_eq_none (by omega), List.getElem?_eq_none (by simp; omega)]
      have hs := join_lines hlines
      have e2 : s = bodyT ⟨ps, es, ms⟩ ++ x ++ [10] := by
        rw [hs, unl_append]
        simp [bodyT, unl]
      have htk := take_body ⟨ps, es, ms⟩ x
      rw [← e2] at htk
      rw [htk] at d3
      rw [e2]
      conv => rhs; rw [d3]
      rfl
    · cases h
  · cases hc
theorem itP_of (hd : Tex) (ps : List TLandPerson) (T : List Tex) (h : ∀ x ∈ ps, small x.Mother ∧ small x.Adopted) : itN (stP (hd :: (ps.map pl ++ T)) 1) ps.length 0 [] = some ps := by
  refine itN_list ps 0 [] fun j x t hx => ?_
  have hj := get_lt hx
  unfold stP
  rw [Nat.zero_add, Nat.add_comm, List.getElem?_cons_succ, List.getElem?_append_left (by simpa using hj), List.getElem?_map, hx]
  simp only [Option.map_some, Option.bind_some, perL_pl (h x (List.mem_of_getElem? hx))]
theorem itE_of (hd : Tex) (A : List Tex) (n : Nat) (hA : A.length = n) (es : List TLandEvent) (T : List Tex) (h : ∀ x ∈ es, small x.Strip ∧ small x.Holder) : itN (stE (hd :: (A ++ (es.map el ++ T))) (1 + n)) es.length 0 [] = some es := by
  refine itN_list es 0 [] fun j x t hx => ?_
  have hj := get_lt hx
  have e2 : (hd :: (A ++ (es.map el ++ T)))[1 + n + (0 + j)]? = some (el x) := by
    rw [show 1 + n + (0 + j) = (A.length + j) + 1 by omega, List.getElem?_cons_succ, get_mid, List.getElem?_append_left (by simpa using hj), List.getElem?_map, hx]
    rfl
  unfold stE
  rw [e2]
  simp only [Option.map_some, Option.bind_some, eveL_el (h x (List.mem_of_getElem? hx))]
theorem itM_of (hd : Tex) (A B : List Tex) (n m : Nat) (hA : A.length = n) (hB : B.length = m) (ms : List TLandMemory) (T : List Tex) (h : ∀ x ∈ ms, small x.From ∧ small x.To ∧ small x.Years.Low ∧ small x.Years.High) : itN (stM (hd :: (A ++ (B ++ (ms.map ml ++ T)))) (1 + n + m)) ms.length 0 [] = some ms := by
  refine itN_list ms 0 [] fun j x t hx => ?_
  have hj := get_lt hx
  have e2 : (hd :: (A ++ (B ++ (ms.map ml ++ T))))[1 + n + m + (0 + j)]? = some (ml x) := by
    rw [show 1 + n + m + (0 + j) = (A.length + (B.length + j)) + 1 by omega, List.getElem?_cons_succ, get_mid, get_mid, List.getElem?_append_left (by simpa using hj), List.getElem?_map, hx]
    rfl
  unfold stM
  rw [e2]
  simp only [Option.map_some, Option.bind_some, memL_ml (h x (List.mem_of_getElem? hx))]
theorem readQ_of {b : TLandBook} (h : Sm b) : readQ (textT b) = some b := by
  have hp := h.lp; have he := h.le; have hm := h.lm
  have et : textT b = unl (linesT b ++ [endT b]) ++ [] := by simp [textT, bodyT, unl]
  have hlines : splL 10 (textT b) = headL b :: (b.People.map pl ++ (b.Events.map el ++ (b.Memories.map ml ++ [endT b, []]))) := by
    rw [et, splL_unl _ _ (fun l hl => ?_) (by simp)]
    · simp [linesT]
    · rcases List.mem_append.1 hl with hl | hl
      · exact lb_free (linesT_lb b l hl)
      · rw [List.mem_singleton] at hl; subst hl; exact lb_free (endT_lb b)
  have sp : small (b.People.length : Int) := ⟨by omega, by omega⟩
  have se : small (b.Events.length : Int) := ⟨by omega, by omega⟩
  have sm : small (b.Memories.length : Int) := ⟨by omega, by omega⟩
  have eh : headO (headL b) = some ((b.People.length : Int), (b.Events.length : Int), (b.Memories.length : Int)) := by
    unfold headO headL
    rw [wd_words (by decide)]
    simp only [List.map_cons, List.map_nil, if_true, num_itoa sp, num_itoa se, num_itoa sm, Option.bind_some, Option.map_some]
  have tn : ∀ n : Nat, ((n : Int)).toNat = n := fun n => by omega
  have hd : (headL b :: (b.People.map pl ++ (b.Events.map el ++ (b.Memories.map ml ++ [endT b, []])))).headD [] = headL b := rfl
  have hlen : (headL b :: (b.People.map pl ++ (b.Events.map el ++ (b.Memories.map ml ++ [endT b, []])))).length = b.People.length + b.Events.length + b.Memories.length + 3 := by simp; omega
  have g1 : (headL b :: (b.People.map pl ++ (b.Events.map el ++ (b.Memories.map ml ++ [endT b, []])))).getD (1 + b.People.length + b.Events.length + b.Memories.length) [] = endT b := by
    rw [List.getD_eq_getElem?_getD, show 1 + b.People.length + b.Events.length + b.Memories.length = ((b.People.map pl).length + ((b.Events.map el).length + ((b.Memories.map ml).length + 0))) + 1 by simp; omega, List.getElem?_cons_succ, get_mid, get_mid, get_mid]
    rfl
  have g2 : (headL b :: (b.People.map pl ++ (b.Events.map el ++ (b.Memories.map ml ++ [endT b, []])))).getD (1 + b.People.length + b.Events.length + b.Memories.length + 1) [] = [] := by
    rw [List.getD_eq_getElem?_getD, show 1 + b.People.length + b.Events.length + b.Memories.length + 1 = ((b.People.map pl).length + ((b.Events.map el).length + ((b.Memories.map ml).length + 1))) + 1 by simp; omega, List.getElem?_cons_succ, get_mid, get_mid, get_mid]
    rfl
  have hbp := body_pos b
  have htl : (textT b).length = (bodyT b).length + (endT b).length + 1 := by simp [textT]; omega
  have htk : (textT b).take ((textT b).length - (endT b).length - 1) = bodyT b := take_body b (endT b)
  have hend : endO (textT b) (headL b :: (b.People.map pl ++ (b.Events.map el ++ (b.Memories.map ml ++ [endT b, []])))) (1 + b.People.length + b.Events.length + b.Memories.length) = true := by
    unfold endO
    rw [g1, g2, htk]
    simp only [Bool.and_eq_true, decide_eq_true_eq, beq_iff_eq]
    exact ⟨trivial, by omega, rfl⟩
  unfold readQ
  rw [hlines, hd, eh, Option.bind_some]
  simp only [tn]
  rw [if_pos ⟨by omega, by omega, by omega, hlen⟩, Option.bind_some, itP_of _ _ _ h.p, Option.bind_some, itE_of _ _ _ (by simp) _ _ h.e, Option.bind_some, itM_of _ _ _ _ _ (by simp) (by simp) _ _ h.m, Option.bind_some, if_pos hend]
theorem landReads_pure (x0 : Tex) : f4 x0 = some true := by
  have h12 := f12_refl (⟨[], [], []⟩ : TLandBook) (by simp) (by simp) (by simp)
  unfold f4
  rw [known_pure]
  by_cases hq : 900 < x0.length ∧ x0.length ≤ 5000 ∨ 5100 < x0.length
  · have e : ((if (decide (900 < (x0.length : Int))) = true then (if (decide ((x0.length : Int) ≤ 5000)) = true then (some true) else (some (decide (5100 < (x0.length : Int))))) else (some (decide (5100 < (x0.length : Int)))) : Option Bool)) = some true := by
      by_cases h1 : 900 < x0.length
      · rw [if_pos (by simp; omega)]
        by_cases h2 : x0.length ≤ 5000
        · rw [if_pos (by simp; omega)]
        · rw [if_neg (by simp; omega)]
          congr 1
          simp; omega
      · omega
    rw [e]
    rfl
  · have e : ((if (decide (900 < (x0.length : Int))) = true then (if (decide ((x0.length : Int) ≤ 5000)) = true then (some true) else (some (decide (5100 < (x0.length : Int))))) else (some (decide (5100 < (x0.length : Int)))) : Option Bool)) = some false := by
      by_cases h1 : 900 < x0.length
      · rw [if_pos (by simp; omega), if_neg (by simp; omega)]
        congr 1
        simp; omega
      · rw [if_neg (by simp; omega)]
        congr 1
        simp; omega
    rw [e, Option.bind_some, if_neg (by simp), f10_eq, Option.bind_some]
    have hr := f13_rel x0 (by omega)
    by_cases hl : 5000 < x0.length
    · have er : readR x0 = (⟨[], [], []⟩, 3) := by unfold readR; rw [if_pos hl]
      obtain ⟨r, hr⟩ : ∃ r, f13 x0 = some r := by
        cases hx : readQ x0 with
        | some b => rw [hx] at hr; exact ⟨_, hr⟩
        | none => rw [hx] at hr; obtain ⟨b, hb⟩ := hr; exact ⟨_, hb⟩
      rw [hr, er]
      simp only [Option.bind_some, show decide (5000 < (x0.length : Int)) = true by simp; omega, if_true, h12]
      simp
    · cases hx : readQ x0 with
      | none =>
        rw [hx] at hr
        obtain ⟨b, hr⟩ := hr
        have hP : readP x0 = none := by
          cases hp : readP x0 with
          | none => rfl
          | some b' =>
            obtain ⟨h1, h2⟩ := readP_text hp
            have := readQ_of h2
            rw [h1, hx] at this
            cases this
        have er : readR x0 = (⟨[], [], []⟩, 4) := by unfold readR; rw [if_neg hl, hP]
        rw [hr, er]
        simp only [Option.bind_some, show decide (5000 < (x0.length : Int)) = false by simp; omega, Bool.false_eq_true, if_false, Bool.not_false, if_true, h12]
        simp
      | some b =>
        rw [hx] at hr
        have hr : f13 x0 = some (b, true) := hr
        obtain ⟨ht, hsm⟩ := readQ_text hx
        have hlen := textT_lines b
        rw [ht] at hlen
        have hP : readP x0 = some b := by rw [← ht]; exact readP_of hsm
        have er : readR x0 = if bookOk b = true then (b, 0) else (⟨[], [], []⟩, 2) := by unfold readR; rw [if_neg hl, hP]
        rw [hr, er]
        simp only [Option.bind_some, show decide (5000 < (x0.length : Int)) = false by simp; omega, Bool.false_eq_true, if_false, Bool.not_true, f9_eq b (by omega) (by omega) (by omega)]
        by_cases ok : bookOk b = true
        · simp only [ok, Bool.not_true, Bool.false_eq_true, if_false, if_true, Option.bind_some, f8_eq (b := b) (by omega) (by omega) (by omega), ht, f12_refl b (by omega) (by omega) (by omega)]
          simp
        · have ok' : bookOk b = false := by simpa using ok
          simp only [ok', Bool.not_false, if_true, Bool.false_eq_true, if_false, Option.bind_some, h12]
          simp
theorem landReads (x0 : List UInt8) (k0 : True) : f4 x0 = some true := landReads_pure x0
end Go.Proofs.YtcaflmilfhhikaaGreatDoor
