/-
  TopGuarded: what is asked first.
-/
import Derived.Test.YtdgkjgljkgjjiaaGreatDoorCi
import Derived.Test.YtdgkjgljkgjjiaaGreatDoorHg
import Derived.Test.YtdgkjgljkgjjiaaGreatDoorKnF
namespace Go.Proofs.YtdgkjgljkgjjiaaGreatDoor
open Go.RowKit
set_option linter.unusedVariables false
set_option maxRecDepth 20000

theorem iteE {c : Bool} {X : Option Bool} {R : Prop} (h : ∃ b, X = some b ∧ (b = true → R)) : ∃ b, (if c = true then X else some false) = some b ∧ (b = true → c = true ∧ R) := by
  cases c with
  | true => obtain ⟨b, h1, h2⟩ := h; exact ⟨b, h1, fun e => ⟨rfl, h2 e⟩⟩
  | false => exact ⟨false, rfl, fun h => by cases h⟩
theorem f13_loop (x : TCouncilAtoll) : ∀ (m k : Nat), k + m = 8 → ∃ q, lp (f13_b0 x) (k : Int) = some q ∧ (q = .inr false ∨ (q = .inl () ∧ ∀ i y, k ≤ i → i < 8 → x.Store.Lots[i]? = some y → y.Goods.length ≤ 8))
  | 0, k, h => by
    refine ⟨.inl (), ?_, .inr ⟨rfl, fun i y h1 h2 => by omega⟩⟩
    rw [lp_eq]
    unfold f13_b0
    by_cases h1 : (k : Int) < (x.Store.Lots.length : Int)
    · rw [if_pos (by simpa using h1), Option.bind_some, if_neg (by simp; omega)]
    · rw [if_neg (by simpa using h1)]; rfl
  | m + 1, k, h => by
    rw [lp_eq]
    unfold f13_b0
    by_cases h1 : k < x.Store.Lots.length
    · rw [if_pos (by simpa using h1), Option.bind_some, if_pos (by simp; omega)]
      have e : ix x.Store.Lots (k : Int) = some x.Store.Lots[k] := by unfold ix; rw [if_pos (by omega)]; first | simp [h1] | simpa using List.getElem?_eq_getElem h1
      rw [e, Option.bind_some]
      by_cases h2 : 8 < x.Store.Lots[k].Goods.length
      · rw [if_pos (by simp only [decide_eq_true_eq]; omega)]
        exact ⟨_, rfl, .inl rfl⟩
      · rw [if_neg (by simp only [decide_eq_true_eq]; omega)]
        obtain ⟨q, hq, hh⟩ := f13_loop x m (k + 1) (by omega)
        have hw : IntKind.i64.wrap ((k : Int) + 1) = ((k + 1 : Nat) : Int) := by rw [IntKind.wrap_i64]; omega
        rw [hw]
        refine ⟨q, hq, hh.imp id fun ⟨e1, e2⟩ => ⟨e1, fun i y h3 h4 h5 => ?_⟩⟩
        by_cases hi : i = k
        · subst hi
          rw [List.getElem?_eq_getElem h1] at h5
          cases h5
          omega
        · exact e2 i y (by omega) h4 h5
    · rw [if_neg (by simpa using h1)]
      refine ⟨.inl (), rfl, .inr ⟨rfl, fun i y h3 h4 h5 => ?_⟩⟩
      have := (List.getElem?_eq_some_iff.1 h5).1
      omega
/-- the lists of an atoll are short, or not -/
theorem f13_some (x : TCouncilAtoll) : ∃ b, f13 x = some b ∧ (b = true → Kl x ∧ x.Sea.Infested.length ≤ 10 ∧ x.Sea.Clean.length ≤ 10 ∧ x.Sea.Trips.length ≤ 8) := by
  obtain ⟨q, hq, hh⟩ := f13_loop x 8 0 rfl
  have hq : lp (f13_b0 x) 0 = some q := hq
  unfold f13
  rw [hq, Option.bind_some]
  rcases hh with rfl | ⟨rfl, hg⟩
  · exact ⟨false, rfl, fun h => by cases h⟩
  · rw [Sum.elim_inl]
    obtain ⟨b, h1, h2⟩ := iteE (c := decide ((x.Islet.Wells.length : Int) ≤ 8)) (iteE (c := decide ((x.Islet.Months.length : Int) ≤ 4)) (iteE (c := decide ((x.Book.People.length : Int) ≤ 12)) (iteE (c := decide ((x.Book.Events.length : Int) ≤ 9)) (iteE (c := decide ((x.Book.Memories.length : Int) ≤ 12))
      (iteE (c := decide ((x.Reef.Places.length : Int) ≤ 3)) (iteE (c := decide (x.Reef.Seasons ≤ 2)) (iteE (c := decide ((x.Sea.Infested.length : Int) ≤ 10)) (iteE (c := decide ((x.Sea.Clean.length : Int) ≤ 10)) (iteE (c := decide ((x.Sea.Trips.length : Int) ≤ 8)) (iteE (c := decide ((x.Store.Stock.length : Int) ≤ 8))
      (iteE (c := decide ((x.Store.Use.length : Int) ≤ 8)) (iteE (c := decide ((x.Store.Lots.length : Int) ≤ 8)) (iteE (c := decide ((x.System.Loads.length : Int) ≤ 7)) (iteE (c := decide (x.System.Days ≤ 4)) (iteE (c := decide ((x.Fishing.Roads.length : Int) ≤ 10)) (iteE (c := decide ((x.Fishing.Zones.length : Int) ≤ 5))
      (⟨decide ((x.Fishing.Berths.length : Int) ≤ 5), rfl, id⟩ : ∃ b, some (decide ((x.Fishing.Berths.length : Int) ≤ 5)) = some b ∧ (b = true → decide ((x.Fishing.Berths.length : Int) ≤ 5) = true))))))))))))))))))
    refine ⟨b, by rw [h1]; rfl, fun e => ?_⟩
    simp only [decide_eq_true_eq] at h2
    have h2 := h2 e
    refine ⟨⟨by omega, by omega, by omega, by omega, by omega, by omega, by omega, by omega, by omega, by omega, by omega, by omega, by omega, by omega, by omega, by omega, fun y hy => ?_⟩, by omega, by omega, by omega⟩
    obtain ⟨i, hi⟩ := List.getElem?_of_mem hy
    have hlt := (List.getElem?_eq_some_iff.1 hi).1
    have := hg i y (Nat.zero_le _) (by omega) hi
    omega
section
variable {P : Program} {F : Fr} {w : World} {od : Option Nat} {ty t u e : TypeId} {pos : String} {af : Array Edge} {gd : Option (Nat × Bool)} {X Y : Operand} {k : IntKind} {m n : Int} {q : Bool}
theorem tb_lss (h : decide (m < n) = q) (hx : ev F X = .int k m) (hy : ev F Y = .int k n) : (execOp (ev F) ⟨od, .binOp .lss t X Y u, ty, pos, af, gd⟩).run P w = .ok (.value (.bool q)) w := h ▸ rn_lss hx hy
theorem tb_neq (h : (m != n) = q) (hx : ev F X = .int k m) (hy : ev F Y = .int k n) : (execOp (ev F) ⟨od, .binOp .neq t X Y u, ty, pos, af, gd⟩).run P w = .ok (.value (.bool q)) w := h ▸ rn_neq hx hy
theorem rn_eqlNNc (hT : P.underlying t = some (.pointer e)) (hx : ev F X = .pointer none) (hy : ev F Y = .pointer none) : (execOp (ev F) ⟨od, .binOp .eql t X Y u, ty, pos, af, gd⟩).run P w = .ok (.value (.bool true)) w := by
  have h : ∀ d : Nat, (Op.equalIn (d + 1) t (.pointer none) (.pointer none)).run P w = .ok true w := fun d => by simp [Op.equalIn, run_underlying hT]
  simp [execOp, hx, hy, eqGuard, binOp, Op.equal, Op.maxDepth, h 9999]
end
theorem cb4c : callB Tryz.prog 4 = true := by kernel_rfl
theorem cb5c : callB Tryz.prog 5 = true := by kernel_rfl
theorem cb6c : callB Tryz.prog 6 = true := by kernel_rfl
theorem cb7c : callB Tryz.prog 7 = true := by kernel_rfl
theorem cb8c : callB Tryz.prog 8 = true := by kernel_rfl
theorem cb9c : callB Tryz.prog 9 = true := by kernel_rfl
theorem cb10c : callB Tryz.prog 10 = true := by kernel_rfl
theorem cb11c : callB Tryz.prog 11 = true := by kernel_rfl
theorem cb12c : callB Tryz.prog 12 = true := by kernel_rfl
/-- the sea of an atoll -/
theorem sea_cells {G : Gm} {cc : List Value} {x : TCouncilAtoll} (h : RTCouncilAtoll G cc x) : ∃ (a1 : Option Addr) (n1 c1 : Nat) (a2 : Option Addr) (n2 c2 : Nat) (a3 : Option Addr) (n3 c3 : Nat), (cc.drop 23).take 5 = [iV x.Sea.Islets, .slice a1 n1 c1, .slice a2 n2 c2, .slice a3 n3 c3, iV x.Sea.Wait] ∧
    RSl RInt 1 G a1 n1 c1 x.Sea.Infested ∧ RSl RInt 1 G a2 n2 c2 x.Sea.Clean ∧ RSl RTBaneTrip 4 G a3 n3 c3 x.Sea.Trips := by
  obtain ⟨b0, m0, d0, b1, m1, d1, b2, m2, d2, b3, m3, d3, b4, m4, d4, b5, m5, d5, b6, m6, d6, b7, m7, d7, b8, m8, d8, b9, m9, d9, b10, m10, d10, b11, m11, d11, b12, m12, d12, b13, m13, d13, b14, m14, d14, b15, m15, d15, rfl, h0, h1, h2, h3, h4, h5, h6, h7, h8, h9, h10, h11, h12, h13, h14, h15⟩ := h
  exact ⟨_, _, _, _, _, _, _, _, _, rfl, h6, h7, h8⟩
theorem f123_some (s : TBaneSea) (hs : Bn.seaShort s) : f123 s = some (if Bn.seaOk s = true then 0 else 2) := by
  unfold f123
  rw [Bn.f22_eq s hs, Option.bind_some]
  cases Bn.seaOk s <;> rfl
end Go.Proofs.YtdgkjgljkgjjiaaGreatDoor
