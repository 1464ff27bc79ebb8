/-
  Plain: the text of a book is read as the book.
-/
import Derived.Test.YtcaflmilfhhikaaGreatDoorRq
namespace Go.Proofs.YtcaflmilfhhikaaGreatDoor
open Go.RowKit Go.Lib
set_option linter.unusedVariables false

theorem nb32 : isNb 32 = false := rfl
theorem wd_words {w : Tex} (hw : (32 : UInt8) ∉ w) (ns : List Int) : splL 32 (wd w ns) = w :: ns.map itoa := by
  have e : wd w ns = w ++ (ns.map itoa).flatMap (32 :: ·) := by
    unfold wd
    rw [List.flatMap_map]
  rw [e, splL_words 32 _ _ hw fun x hx => ?_]
  obtain ⟨n, _, rfl⟩ := List.mem_map.1 hx
  exact itoa_free n nb32
theorem pw_free (n : Int) : (32 : UInt8) ∉ pw n := by
  unfold pw
  split
  · decide
  · exact itoa_free n nb32
theorem pl_words (p : TLandPerson) : splL 32 (pl p) = [kP, pw p.Mother, pw p.Adopted] := by
  have e : pl p = kP ++ ([pw p.Mother, pw p.Adopted] : List Tex).flatMap (32 :: ·) := by simp [pl]
  rw [e, splL_words 32 _ _ (by decide) fun x hx => ?_]
  simp only [List.mem_cons, List.not_mem_nil, or_false] at hx
  rcases hx with rfl | rfl <;> exact pw_free _
theorem perL_pl {p : TLandPerson} (h : small p.Mother ∧ small p.Adopted) : perL (pl p) = some p := by
  unfold perL
  rw [pl_words]
  simp only [if_true, pnum_pw h.1, pnum_pw h.2, Option.bind_some, Option.map_some]
theorem eveL_el {p : TLandEvent} (h : small p.Strip ∧ small p.Holder) : eveL (el p) = some p := by
  unfold eveL el
  rw [wd_words (by decide)]
  simp only [List.map_cons, List.map_nil, if_true, num_itoa h.1, num_itoa h.2, Option.bind_some, Option.map_some]
theorem memL_ml {p : TLandMemory} (h : small p.From ∧ small p.To ∧ small p.Years.Low ∧ small p.Years.High) : memL (ml p) = some p := by
  unfold memL ml
  rw [wd_words (by decide)]
  simp only [List.map_cons, List.map_nil, if_true, num_itoa h.1, num_itoa h.2.1, num_itoa h.2.2.1, num_itoa h.2.2.2, Option.bind_some, Option.map_some]
theorem suf_snoc (x : Tex) : hasSuffix (x ++ [10]) [10] = true ∧ trimSuffix (x ++ [10]) [10] = x := by
  have h : hasSuffix (x ++ [10]) [10] = true := by
    unfold hasSuffix
    rw [List.isSuffixOf_iff_suffix]
    exact List.suffix_append _ _
  refine ⟨h, ?_⟩
  unfold trimSuffix
  rw [if_pos h]
  simp
theorem get_mid {α : Type} (a b : List α) (k : Nat) : (a ++ b)[a.length + k]? = b[k]? := by
  rw [List.getElem?_append_right (by omega)]
  congr 1
  omega
theorem lines_eq (b : TLandBook) : splL 10 (trimSuffix (textT b) [10]) = headL b :: (b.People.map pl ++ (b.Events.map el ++ (b.Memories.map ml ++ [endT b]))) := by
  have e : trimSuffix (textT b) [10] = unl (linesT b) ++ endT b := (suf_snoc (bodyT b ++ endT b)).2
  rw [e, splL_unl _ _ (fun l hl => lb_free (linesT_lb b l hl)) (lb_free (endT_lb b))]
  simp [linesT]
theorem readP_of {b : TLandBook} (h : Sm b) : readP (textT b) = some b := by
  have hp := h.lp; have he := h.le; have hm := h.lm
  have e1 : hasSuffix (textT b) [10] = true := (suf_snoc (bodyT b ++ endT b)).1
  have eh : splL 32 (headL b) = [kL, itoa (b.People.length : Int), itoa (b.Events.length : Int), itoa (b.Memories.length : Int)] := by
    unfold headL
    rw [wd_words (by decide)]
    rfl
  have sp : small (b.People.length : Int) := ⟨by omega, by omega⟩
  have se : small (b.Events.length : Int) := ⟨by omega, by omega⟩
  have sm : small (b.Memories.length : Int) := ⟨by omega, by omega⟩
  have tn : ∀ n : Nat, ((n : Int)).toNat = n := fun n => by omega
  have hck : ∀ n : Nat, n ≤ b.People.length + b.Events.length + b.Memories.length → ckR (n : Int) (headL b :: (b.People.map pl ++ (b.Events.map el ++ (b.Memories.map ml ++ [endT b])))) = some () := fun n hn => by
    unfold ckR
    exact if_pos ⟨by omega, by
      simp only [List.length_cons, List.length_append, List.length_map, List.length_nil]
      omega⟩
  have iP : itN (stP (headL b :: (b.People.map pl ++ (b.Events.map el ++ (b.Memories.map ml ++ [endT b])))) 1) b.People.length 0 [] = some b.People := by
    refine itN_list b.People 0 [] fun j x t hx => ?_
    have hj := get_lt hx
    unfold stP
    rw [Nat.zero_add, Nat.add_comm, List.getElem?_cons_succ, List.getElem?_append_left (by simpa using hj), List.getElem?_map, hx]
    simp only [Option.map_some, Option.bind_some, perL_pl (h.p x (List.mem_of_getElem? hx))]
  have iE : itN (stE (headL b :: (b.People.map pl ++ (b.Events.map el ++ (b.Memories.map ml ++ [endT b])))) (1 + b.People.length)) b.Events.length 0 [] = some b.Events := by
    refine itN_list b.Events 0 [] fun j x t hx => ?_
    have hj := get_lt hx
    unfold stE
    have e2 : (headL b :: (b.People.map pl ++ (b.Events.map el ++ (b.Memories.map ml ++ [endT b]))))[1 + b.People.length + (0 + j)]? = some (el x) := by
      rw [show 1 + b.People.length + (0 + j) = ((b.People.map pl).length + j) + 1 by rw [List.length_map]; omega, List.getElem?_cons_succ, get_mid, List.getElem?_append_left (by simpa using hj), List.getElem?_map, hx]
      try rfl
    rw [e2]
    simp only [Option.map_some, Option.bind_some, eveL_el (h.e x (List.mem_of_getElem? hx))]
  have iM : itN (stM (headL b :: (b.People.map pl ++ (b.Events.map el ++ (b.Memories.map ml ++ [endT b])))) (1 + b.People.length + b.Events.length)) b.Memories.length 0 [] = some b.Memories := by
    refine itN_list b.Memories 0 [] fun j x t hx => ?_
    have hj := get_lt hx
    unfold stM
    have e2 : (headL b :: (b.People.map pl ++ (b.Events.map el ++ (b.Memories.map ml ++ [endT b]))))[1 + b.People.length + b.Events.length + (0 + j)]? = some (ml x) := by
      rw [show 1 + b.People.length + b.Events.length + (0 + j) = ((b.People.map pl).length + ((b.Events.map el).length + j)) + 1 by rw [List.length_map, List.length_map]; omega, List.getElem?_cons_succ, get_mid, get_mid, List.getElem?_append_left (by simpa using hj), List.getElem?_map, hx]
      try rfl
    rw [e2]
    simp only [Option.map_some, Option.bind_some, memL_ml (h.m x (List.mem_of_getElem? hx))]
  have hd : (headL b :: (b.People.map pl ++ (b.Events.map el ++ (b.Memories.map ml ++ [endT b])))).headD [] = headL b := rfl
  unfold readP
  rw [lines_eq, e1, hd, eh, if_pos rfl, Option.bind_some, if_pos ⟨rfl, rfl⟩, Option.bind_some]
  have g1 : ([kL, itoa (b.People.length : Int), itoa (b.Events.length : Int), itoa (b.Memories.length : Int)] : List Tex).getD 1 [] = itoa (b.People.length : Int) := rfl
  have g2 : ([kL, itoa (b.People.length : Int), itoa (b.Events.length : Int), itoa (b.Memories.length : Int)] : List Tex).getD 2 [] = itoa (b.Events.length : Int) := rfl
  have g3 : ([kL, itoa (b.People.length : Int), itoa (b.Events.length : Int), itoa (b.Memories.length : Int)] : List Tex).getD 3 [] = itoa (b.Memories.length : Int) := rfl
  rw [g1, g2, g3, num_itoa sp, Option.bind_some, hck _ (by omega), Option.bind_some, tn, iP, Option.bind_some, num_itoa se, Option.bind_some, hck _ (by omega), Option.bind_some, tn, iE, Option.bind_some, num_itoa sm, Option.bind_some, hck _ (by omega), Option.bind_some, tn, iM, Option.bind_some, if_pos rfl]
end Go.Proofs.YtcaflmilfhhikaaGreatDoor
