/-
  The program's clash, and what it drops, are the document's.
-/
import Derived.Test.YtcaflmilfhhikaaDoorCl
namespace Go.Proofs.YtcaflmilfhhikaaDoor
open Go.RowKit
set_option linter.unusedVariables false

theorem lookM_upd1 {M : List (Int × Bool)} {a b : Int} {v : Bool} : lookM (updM M a v) b = if b = a then some v else lookM M b := by
  induction M with
  | nil =>
    unfold updM lookM
    by_cases h : b = a
    · subst h; simp
    · have : (b == a) = false := by simpa using h
      simp [this, h, lookM]
  | cons y l ih =>
    obtain ⟨k', v'⟩ := y
    unfold updM
    by_cases h1 : a = k'
    · subst h1
      simp only [beq_self_eq_true, if_true]
      unfold lookM
      by_cases h : b = a
      · subst h; simp
      · have : (b == a) = false := by simpa using h
        simp [this, h]
    · have h1' : (a == k') = false := by simpa using h1
      rw [h1']
      simp only [Bool.false_eq_true, if_false]
      unfold lookM
      by_cases h2 : b = k'
      · subst h2
        have : ¬ b = a := fun e => h1 e.symm
        simp [this]
      · have : (b == k') = false := by simpa using h2
        simp only [this, Bool.false_eq_true, if_false]
        exact ih
def MemoOk (b : TLandBook) (m : List (Int × Bool)) : Prop := ∀ s v, lookM m s = some v → v = agrS b (bitI s)
theorem MemoOk.nil (b : TLandBook) : MemoOk b [] := fun s v h => by cases h
theorem f53_eq (b : TLandBook) (ok : bookOk b = true) {m : List (Int × Bool)} (hm : MemoOk b m) (s : Int) : ∃ m', f53 b m s = some (agrS b (bitI s), m') ∧ MemoOk b m' := by
  obtain ⟨_, ⟨_, hn⟩, hl, hmm, hF⟩ := book_parts ok
  unfold f53
  cases hlk : lookM m s with
  | some v =>
    refine ⟨m, ?_, hm⟩
    rw [hm s v hlk]
    rfl
  | none =>
    obtain ⟨t', h1, h2⟩ := f79_eq b s hn (by omega) hmm (bitI s) fun k _ => f81_eq s k
    have e : ∃ t, f79 b s = some (t, agrS b (bitI s)) := by
      rw [h1]
      unfold agrS
      by_cases h : diagB (placesL b.Events.length) (passT (placesL b.Events.length) (firstT b (bitI s))) = true
      · rw [if_pos h, h]; exact ⟨_, rfl⟩
      · have h' : diagB (placesL b.Events.length) (passT (placesL b.Events.length) (firstT b (bitI s))) = false := by simpa using h
        rw [if_neg h, h']; exact ⟨_, rfl⟩
    obtain ⟨t, e⟩ := e
    refine ⟨updM m s (agrS b (bitI s)), ?_, fun s' v hv => ?_⟩
    · rw [e]; rfl
    · rw [lookM_upd1] at hv
      by_cases hs : s' = s
      · rw [if_pos hs] at hv
        subst hs
        exact (Option.some.inj hv).symm
      · rw [if_neg hs] at hv
        exact hm s' v hv
theorem best_eq {b : TLandBook} {pred : List (Int × Bool) → Int → Option (Bool × List (Int × Bool))} {Q : Int → Bool} : ∀ (xs : List Int) (m : List (Int × Bool)), MemoOk b m → (∀ m x, MemoOk b m → x ∈ xs → ∃ m', pred m x = some (Q x, m') ∧ MemoOk b m') →
    ∃ m', bestF pred xs m = some (match xs.find? Q with | none => (0, false, m') | some x => (x, true, m'))
  | [], m, hm, _ => ⟨m, rfl⟩
  | x :: xs, m, hm, hp => by
    obtain ⟨m1, e1, h1⟩ := hp m x hm (List.mem_cons_self ..)
    by_cases h : Q x = true
    · refine ⟨m1, ?_⟩
      unfold bestF rg bestB
      rw [e1, Option.bind_some, List.find?_cons, h]
      rfl
    · have h' : Q x = false := by simpa using h
      obtain ⟨m2, e2⟩ := best_eq (pred := pred) (Q := Q) xs m1 h1 fun m y hm hy => hp m y hm (List.mem_cons_of_mem _ hy)
      refine ⟨m2, ?_⟩
      rw [List.find?_cons, h', ← e2]
      unfold bestF
      rw [rg]
      unfold bestB
      rw [e1, h']
      rfl
theorem f58_eq (m n : Nat) (hm : m < 2 ^ 62) (hn : n ≤ 1000) : f58 (m : Int) (n : Int) = some (lst m n) := by
  unfold f58
  have h := lp_cnt (body := f58_b0 (m : Int) (n : Int)) n (fun k (t : List Int) => t = lst m k) (fun k t => (t, (k : Int))) id (fun k t hk ht => ?_) (fun t ht => ?_) (t := []) rfl
  · obtain ⟨t, h1, h2⟩ := h
    have h1' : lp (f58_b0 (m : Int) (n : Int)) ([], 0) = some t := h1
    rw [h1', Option.bind_some, h2]
  · subst ht
    have hl := lst_len m k
    refine ⟨lst m (k + 1), ?_, rfl⟩
    unfold f58_b0
    rw [if_pos (by simp only [decide_eq_true_eq]; omega)]
    simp only [f81_eq, Option.bind_some, bitI_nat _ _ hm, wrap_cnt (show k ≤ 1000 by omega)]
    rw [lst_succ]
    by_cases h : m.testBit k = true
    · rw [if_pos h, if_pos h, app_short _ _ (by rw [List.length_singleton]; omega)]; rfl
    · rw [if_neg h, if_neg h, List.append_nil]; rfl
  · unfold f58_b0
    rw [if_neg (by simp)]
    rfl
theorem anI_bit (a b j : Nat) (ha : a < 2 ^ 62) (hj : j < 62) : bitI (anI .i64 (a : Int) (b : Int)) j = (a.testBit j && !b.testBit j) := by
  have e : (BitVec.ofInt IntKind.i64.bits (a : Int) &&& ~~~ BitVec.ofInt IntKind.i64.bits (b : Int)).toNat ≤ a := by
    show (BitVec.ofInt 64 (a : Int) &&& ~~~ BitVec.ofInt 64 (b : Int)).toNat ≤ a
    rw [BitVec.toNat_and]
    refine Nat.le_trans Nat.and_le_left ?_
    rw [BitVec.ofInt_natCast, BitVec.toNat_ofNat]
    exact Nat.mod_le _ _
  have e2 : anI .i64 (a : Int) (b : Int) = (((BitVec.ofInt IntKind.i64.bits (a : Int) &&& ~~~ BitVec.ofInt IntKind.i64.bits (b : Int)).toNat : Nat) : Int) := by
    unfold anI
    exact wrap_id (by omega) (by omega)
  rw [e2, bitI_nat _ _ (by omega)]
  show (BitVec.ofInt 64 (a : Int) &&& ~~~ BitVec.ofInt 64 (b : Int)).toNat.testBit j = _
  rw [BitVec.testBit_toNat, BitVec.getLsbD_and, BitVec.getLsbD_not, BitVec.ofInt_natCast, BitVec.ofInt_natCast, BitVec.getLsbD_ofNat, BitVec.getLsbD_ofNat]
  have h64 : decide (j < 64) = true := decide_eq_true (by omega)
  rw [h64]
  simp
theorem inL_bits {n : Nat} {l : List Int} (h : incr l (n : Int) = true) (hn : n ≤ 15) (j : Nat) : bitI ((bitsN l : Nat) : Int) j = inL l j := by
  have h2 := two_small hn
  have h1 := bits_lt (incr_iff.1 h).1
  rw [bitI_nat _ _ (by omega), bits_mem fun y hy => ((incr_iff.1 h).1 y hy).1]
  rfl
theorem first_map (n : Nat) (hn : n ≤ 15) {Q : Int → Bool} {H : List Int → Bool} (hQ : ∀ l, incr l (n : Int) = true → Q ((bitsN l : Nat) : Int) = H l) : (setsAll n).find? Q = (firstS n H).map fun q => ((bitsN q : Nat) : Int) := by
  rw [setsAll_eq n hn, List.find?_map]
  unfold firstS
  have e : (allS n (n + 1)).find? (Q ∘ fun q => ((bitsN q : Nat) : Int)) = (allS n (n + 1)).find? H := by
    have key : ∀ (L : List (List Int)), (∀ l ∈ L, incr l (n : Int) = true) → L.find? (Q ∘ fun q => ((bitsN q : Nat) : Int)) = L.find? H := by
      intro L
      induction L with
      | nil => intro _; rfl
      | cons l L ih =>
        intro h
        rw [List.find?_cons, List.find?_cons, ih fun q hq => h q (List.mem_cons_of_mem _ hq)]
        show (match Q ((bitsN l : Nat) : Int) with | true => _ | false => _) = _
        rw [hQ l (h l (List.mem_cons_self ..))]
        cases H l <;> rfl
    exact key _ fun l hl => (mem_allS.1 hl).1
  rw [e]
theorem first_in {n : Nat} {H : List Int → Bool} {l : List Int} (h : firstS n H = some l) : incr l (n : Int) = true ∧ H l = true :=
  ⟨(mem_allS.1 (List.mem_of_find?_eq_some h)).1, List.find?_some h⟩
theorem found_list (n : Nat) (hn : n ≤ 10) (H : List Int → Bool) (m' : List (Int × Bool)) : f58 (match (firstS n H).map fun q => ((bitsN q : Nat) : Int) with | none => (0, false, m') | some x => (x, true, m') : Int × Bool × List (Int × Bool)).1 (n : Int) = some ((firstS n H).getD []) := by
  cases hf : firstS n H with
  | none =>
    show f58 ((0 : Nat) : Int) (n : Int) = some []
    rw [f58_eq 0 n (by decide) (by omega)]
    simp [lst]
  | some l =>
    have h := (first_in hf).1
    have h1 := bits_lt (incr_iff.1 h).1
    have h2 := two_small (show n ≤ 15 by omega)
    show f58 ((bitsN l : Nat) : Int) (n : Int) = some l
    rw [f58_eq _ n (by omega) (by omega), lst_bits h]
noncomputable def clashL (b : TLandBook) : List Int := (firstS b.Memories.length fun l => !agrS b (inL l)).getD []
noncomputable def dropL (b : TLandBook) : List Int := (firstS b.Memories.length fun l => agrS b fun j => !inL l j).getD []
theorem f16_eq (b : TLandBook) (h1 : b.People.length ≤ 1000) (h2 : b.Events.length ≤ 1000) (h3 : b.Memories.length ≤ 1000) : f16 b = some (if bookOk b = true then (if agreeB b = true then ([], 5) else (clashL b, 0)) else ([], 2)) := by
  unfold f16
  rw [f51_eq b h1 h2 h3, Option.bind_some]
  by_cases ok : bookOk b = true
  · have hl := (book_parts ok).2.2.1
    rw [if_neg (by simp [ok]), if_pos ok, f54_eq b hl, Option.bind_some]
    obtain ⟨m1, e1, k1⟩ := f53_eq b ok (MemoOk.nil b) ((2 ^ b.Memories.length - 1 : Nat) : Int)
    rw [e1, Option.bind_some]
    have ha : agrS b (bitI ((2 ^ b.Memories.length - 1 : Nat) : Int)) = agreeB b := rfl
    rw [ha]
    by_cases h : agreeB b = true
    · rw [if_pos h, if_pos h]
    · rw [if_neg h, if_neg h]
      obtain ⟨m2, e2⟩ := best_eq (b := b) (pred := predN b) (Q := fun x => !agrS b (bitI x)) (setsAll b.Memories.length) m1 k1 (fun m x hm _ => by
        obtain ⟨m', q1, q2⟩ := f53_eq b ok hm x
        exact ⟨m', by unfold predN; rw [q1]; rfl, q2⟩)
      have hck : ckM b.Memories = some () := by unfold ckM; rw [if_pos (by omega)]
      rw [hck, Option.bind_some, e2, Option.bind_some, first_map b.Memories.length (by omega) (H := fun l => !agrS b (inL l)) (fun l hl' => by rw [agrS_congr ok fun j _ => inL_bits hl' (by omega) j])]
      rw [found_list _ hl]
      rfl
  · have hf : bookOk b = false := by simpa using ok
    rw [if_pos (by simp [hf]), if_neg ok]
theorem f17_eq (b : TLandBook) (h1 : b.People.length ≤ 1000) (h2 : b.Events.length ≤ 1000) (h3 : b.Memories.length ≤ 1000) : f17 b = some (if bookOk b = true then (dropL b, 0) else ([], 2)) := by
  unfold f17
  rw [f51_eq b h1 h2 h3, Option.bind_some]
  by_cases ok : bookOk b = true
  · have hl := (book_parts ok).2.2.1
    have hck : ckM b.Memories = some () := by unfold ckM; rw [if_pos (by omega)]
    rw [if_neg (by simp [ok]), if_pos ok, hck, Option.bind_some, f54_eq b hl, Option.bind_some]
    obtain ⟨m2, e2⟩ := best_eq (b := b) (pred := predD b ((2 ^ b.Memories.length - 1 : Nat) : Int)) (Q := fun x => agrS b (bitI (anI .i64 ((2 ^ b.Memories.length - 1 : Nat) : Int) x))) (setsAll b.Memories.length) [] (MemoOk.nil b) (fun m x hm _ => by
      obtain ⟨m', q1, q2⟩ := f53_eq b ok hm (anI .i64 ((2 ^ b.Memories.length - 1 : Nat) : Int) x)
      exact ⟨m', q1, q2⟩)
    have h15 := two_small (show b.Memories.length ≤ 15 by omega)
    rw [e2, Option.bind_some, first_map b.Memories.length (by omega) (H := fun l => agrS b fun j => !inL l j) (fun l hl' => by
      refine agrS_congr ok fun j hj => ?_
      rw [anI_bit _ _ _ (by omega) (by omega), Nat.testBit_two_pow_sub_one, decide_eq_true hj, Bool.true_and, bits_mem fun y hy => ((incr_iff.1 hl').1 y hy).1]
      rfl)]
    rw [found_list _ hl]
    rfl
  · have hf : bookOk b = false := by simpa using ok
    rw [if_pos (by simp [hf]), if_neg ok]
end Go.Proofs.YtcaflmilfhhikaaDoor
