/-
  LandTold: the order in which memories are told does not matter (plain law).
-/
import Derived.Test.YtcaflmilfhhikaaDoorLo
import Derived.Test.YtcaflmilfhhikaaDoorLw
namespace Go.Proofs.YtcaflmilfhhikaaDoor
open Go.RowKit
set_option linter.unusedVariables false

theorem range_get {α : Type} (l : List α) (d : α) : (List.range l.length).map (fun k => l.getD k d) = l := by
  refine List.ext_getElem? fun i => ?_
  rw [List.getElem?_map]
  by_cases h : i < l.length
  · rw [List.getElem?_range h, List.getElem?_eq_getElem h]
    simp [h]
  · rw [List.getElem?_eq_none (by simp; omega), List.getElem?_eq_none (by omega)]
    rfl
theorem turned {b : TLandBook} {r i k : Nat} (hr : r ≤ b.Memories.length) (hi : i < b.Memories.length) (hk : k < b.Memories.length) {y40 y42 : TLandMemory} (h40 : (b.Memories.drop r ++ b.Memories.take r)[k]? = some y40) (h42 : (b.Memories.drop r ++ b.Memories.take r)[i]? = some y42) :
    ∃ τ, OrdB b ⟨b.People, b.Events, ((b.Memories.drop r ++ b.Memories.take r).set i y40).set k y42⟩ τ := by
  obtain ⟨n, hn⟩ : ∃ n, n = b.Memories.length := ⟨_, rfl⟩
  obtain ⟨g, hg⟩ : ∃ g : Nat → TLandMemory, g = fun k => b.Memories.getD k ⟨0, 0, ⟨0, 0⟩⟩ := ⟨_, rfl⟩
  have hM : (List.range n).map g = b.Memories := by rw [hn, hg]; exact range_get _ _
  obtain ⟨ix0, h0⟩ : ∃ ix0, ix0 = (List.range n).drop r ++ (List.range n).take r := ⟨_, rfl⟩
  have hl0 : ix0.length = n := by rw [h0]; simp; omega
  have hR : b.Memories.drop r ++ b.Memories.take r = ix0.map g := by rw [h0, List.map_append, List.map_drop, List.map_take, hM]
  have hp0 : ix0.Perm (List.range n) := by
    rw [h0]
    refine List.perm_append_comm.trans ?_
    rw [List.take_append_drop]
  have hi0 : i < ix0.length := by omega
  have hk0 : k < ix0.length := by omega
  have hp1 := @List.set_set_perm _ ix0 i k hi0 hk0
  obtain ⟨ix1, h1⟩ : ∃ ix1, ix1 = (ix0.set i ix0[k]).set k ix0[i] := ⟨_, rfl⟩
  rw [← h1] at hp1
  have hl1 : ix1.length = n := by rw [h1]; simp [hl0]
  have hx : ((b.Memories.drop r ++ b.Memories.take r).set i y40).set k y42 = ix1.map g := by
    rw [hR] at h40 h42 ⊢
    rw [List.getElem?_map, List.getElem?_eq_getElem hk0] at h40
    rw [List.getElem?_map, List.getElem?_eq_getElem hi0] at h42
    have e40 : g ix0[k] = y40 := Option.some.inj h40
    have e42 : g ix0[i] = y42 := Option.some.inj h42
    rw [h1, List.map_set, List.map_set, e40, e42]
  have hid : (List.range n).map (fun q => ix1.getD q 0) = ix1 := by rw [← hl1]; exact range_get _ _
  refine ⟨fun q => ix1.getD q 0, rfl, rfl, ?_, ?_, fun q hq => ?_⟩
  · rw [← hn, hid]
    exact hp1.trans hp0
  · show (((b.Memories.drop r ++ b.Memories.take r).set i y40).set k y42).length = _
    rw [hx, List.length_map, hl1, hn]
  · show (((b.Memories.drop r ++ b.Memories.take r).set i y40).set k y42)[q]? = _
    have hq1 : q < ix1.length := by omega
    have hlt : ix1[q] < n := List.mem_range.1 ((hp1.trans hp0).mem_iff.1 (List.getElem_mem hq1))
    rw [hx, List.getElem?_map, List.getElem?_eq_getElem hq1]
    have e : ix1.getD q 0 = ix1[q] := by simp [hq1]
    rw [e, ← hM, List.getElem?_map, List.getElem?_range hlt]
theorem landTold_pure (x0 : TLandBook) (x1 x2 x3 x4 : Int) : f7 x0 x1 x2 x3 x4 = some true := by
  unfold f7
  rw [f14_eq, Option.bind_some]
  by_cases hs : shortB x0 = true
  · obtain ⟨h1, h2, h3⟩ := bk_le hs
    rw [if_neg (by simp [hs]), f18_eq x0 h1 h2 h3, Option.bind_some, known_pure]
    by_cases ok : bookOk x0 = true
    · have hn := (book_parts ok).2.1.2
      rw [if_neg (by simp [ok])]
      by_cases hm : x0.Memories.length = 0
      · rw [if_pos (by simp [hm])]
        rfl
      · rw [if_neg (by simp; exact fun e => hm (by rw [e]; rfl))]
        by_cases c1 : x1 < 0
        · rw [if_pos (decide_eq_true c1)]; rfl
        · rw [if_neg (by simpa using c1)]
          by_cases c2 : x2 < 0
          · rw [if_pos (decide_eq_true c2)]; rfl
          · rw [if_neg (by simpa using c2)]
            by_cases c3 : (x0.Memories.length : Int) ≤ x2
            · rw [if_pos (decide_eq_true c3)]; rfl
            · rw [if_neg (by simpa using c3)]
              by_cases c4 : x3 < 0
              · rw [if_pos (decide_eq_true c4)]; rfl
              · rw [if_neg (by simpa using c4)]
                by_cases c5 : (x0.Memories.length : Int) ≤ x3
                · rw [if_pos (decide_eq_true c5)]; rfl
                · rw [if_neg (by simpa using c5), f33_eq, Option.bind_some]
                  by_cases hst : inR x4 0 5 = true
                  · obtain ⟨i, rfl⟩ : ∃ i : Nat, x2 = (i : Int) := ⟨x2.toNat, by omega⟩
                    obtain ⟨k, rfl⟩ : ∃ k : Nat, x3 = (k : Int) := ⟨x3.toNat, by omega⟩
                    have hr0 : 0 ≤ x1.tmod (x0.Memories.length : Int) := Int.tmod_nonneg _ (by omega)
                    have hr1 : x1.tmod (x0.Memories.length : Int) < (x0.Memories.length : Int) := Int.tmod_lt_of_pos _ (by omega)
                    obtain ⟨r, hr⟩ : ∃ r : Nat, x1.tmod (x0.Memories.length : Int) = (r : Int) := ⟨_, (Int.toNat_of_nonneg hr0).symm⟩
                    have erem : remI x1 (x0.Memories.length : Int) = some (r : Int) := by unfold remI; rw [if_neg (by omega), hr]
                    rw [hr] at hr0 hr1
                    have s1 : subL x0.Memories (r : Int) (x0.Memories.length : Int) = some (x0.Memories.drop r) := by
                      unfold subL
                      rw [if_pos (by omega), Int.toNat_natCast, Int.toNat_natCast, List.take_of_length_le (by simp)]
                    have s2 : subL x0.Memories 0 (r : Int) = some (x0.Memories.take r) := by
                      unfold subL
                      rw [if_pos (by omega)]
                      simp
                    have a1 : app [] (x0.Memories.drop r) = some (x0.Memories.drop r) := app_short _ _ (by simp; omega)
                    have a2 : app (x0.Memories.drop r) (x0.Memories.take r) = some (x0.Memories.drop r ++ x0.Memories.take r) := app_short _ _ (by simp; omega)
                    obtain ⟨R, hR⟩ : ∃ R, R = x0.Memories.drop r ++ x0.Memories.take r := ⟨_, rfl⟩
                    have hRl : R.length = x0.Memories.length := by rw [hR]; simp; omega
                    have g40 : R[k]? = some (R[k]'(by omega)) := List.getElem?_eq_getElem _
                    have g42 : R[i]? = some (R[i]'(by omega)) := List.getElem?_eq_getElem _
                    obtain ⟨y40, h40⟩ : ∃ y, y = R[k]'(by omega) := ⟨_, rfl⟩
                    obtain ⟨y42, h42⟩ : ∃ y, y = R[i]'(by omega) := ⟨_, rfl⟩
                    rw [← h40] at g40
                    rw [← h42] at g42
                    have t1 : setIx R (i : Int) y40 = some (R.set i y40) := by unfold setIx; rw [if_pos ⟨by omega, by rw [Int.toNat_natCast]; omega⟩]; rfl
                    have t2 : ∃ z, ix (R.set i y40) (k : Int) = some z := ⟨_, by rw [ix_nat]; exact List.getElem?_eq_getElem (by simp; omega)⟩
                    obtain ⟨z, t2⟩ := t2
                    have t3 : setIx (R.set i y40) (k : Int) y42 = some ((R.set i y40).set k y42) := by unfold setIx; rw [if_pos ⟨by omega, by rw [Int.toNat_natCast, List.length_set]; omega⟩]; rfl
                    obtain ⟨τ, hord⟩ := turned (b := x0) (r := r) (i := i) (k := k) (by omega) (by omega) (by omega) (by rw [← hR]; exact g40) (by rw [← hR]; exact g42)
                    rw [← hR] at hord a2
                    have u40 : ix R (k : Int) = some y40 := by rw [ix_nat]; exact g40
                    have u42 : ix R (i : Int) = some y42 := by rw [ix_nat]; exact g42
                    rw [hst, erem]
                    simp only [Option.bind_some, Bool.not_true, Bool.false_eq_true, if_false, s1, s2, a1, a2, u40, u42, t1, t2, t3]
                    obtain ⟨X, hX⟩ : ∃ X : TLandBook, X = ⟨x0.People, x0.Events, (R.set i y40).set k y42⟩ := ⟨_, rfl⟩
                    rw [← hX] at hord ⊢
                    have hsm := hord.same
                    have okx := hsm.ok ok
                    have p1 : X.People.length ≤ 1000 := by rw [hsm.people]; omega
                    have p2 : X.Events.length ≤ 1000 := by rw [hsm.events]; omega
                    have p3 : X.Memories.length ≤ 1000 := by rw [hsm.len]; omega
                    rw [f34_eq x0 h1 h2 h3, f34_eq X p1 p2 p3, f17_eq x0 h1 h2 h3, f17_eq X p1 p2 p3, f16_eq x0 h1 h2 h3, f16_eq X p1 p2 p3, f35_eq x0 x4 h1 h2 h3, f35_eq X x4 p1 p2 p3]
                    have hag := hsm.agree ok
                    have hdl := hord.drop ok
                    by_cases ha : agreeB x0 = true
                    · have hyl := hsm.years ok ha
                      have hln := hsm.line ok ha x4
                      have e36 := f36_same (yearsL x0) (by simp [yearsL]; omega)
                      have e20 := f20_same (l := (lineV x0 x4).1) (by
                        unfold lineV
                        rw [lin_iff ok ha]
                        have := linR_len x0 x4 x0.Events.length
                        split
                        · rename_i heq
                          split at heq
                          · cases heq
                            show (castL _).length ≤ 1000
                            rw [cast_len]; omega
                          · cases heq
                        · simp)
                      simp [ok, okx, ha, hag, hst, hyl, hln, hdl, e36, e20]
                    · have ha' : agreeB x0 = false := by simpa using ha
                      have hcl := hord.clash ok ha'
                      have e36 := f36_same [] (by simp)
                      have e20 := f20_same (l := []) (by simp)
                      simp [ok, okx, ha', hag, hst, hdl, hcl, e36, e20]
                  · have hst' : inR x4 0 5 = false := by simpa using hst
                    rw [hst']
                    rfl
    · have ok' : bookOk x0 = false := by simpa using ok
      rw [if_pos (by simp [ok'])]
      rfl
  · have hs' : shortB x0 = false := by simpa using hs
    rw [if_pos (by simp [hs']), known_pure]
    rfl
theorem landTold (x0 : TLandBook) (x1 x2 x3 x4 : Int) (k0 : okTLandBook x0) (k1 : okI x1) (k2 : okI x2) (k3 : okI x3) (k4 : okI x4) : f7 x0 x1 x2 x3 x4 = some true := landTold_pure x0 x1 x2 x3 x4
end Go.Proofs.YtcaflmilfhhikaaDoor
