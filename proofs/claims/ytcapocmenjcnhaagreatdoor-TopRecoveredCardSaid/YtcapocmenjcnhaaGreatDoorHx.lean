/-
 TopRecovered: what is asked first.
-/
import Derived.Test.YtcapocmenjcnhaaGreatDoorSx
import Derived.Test.YtcapocmenjcnhaaGreatDoorRz
import Derived.Test.YtcapocmenjcnhaaGreatDoorKnF
set_option linter.unusedVariables false
set_option linter.unusedSimpArgs false
namespace Go.Proofs.YtcapocmenjcnhaaGreatDoor
open Go.RowKit
set_option maxRecDepth 20000
theorem ziL (x : zJ) : ∀ (m k : Nat), k + m = 8 → ∃ q, lp (zdN x) (k : Int) = some q ∧ (q = .inr false ∨ (q = .inl () ∧ ∀ i y, k ≤ i → i < 8 → x.Store.Lots[i]? = some y → y.Goods.length ≤ 8))
 | 0, k, h => by
  refine ⟨.inl (), ?_, .inr ⟨rfl, fun i y h1 h2 => by omega⟩⟩
  rw [zbU]
  unfold zdN
  by_cases h1 : (k : Int) < (x.Store.Lots.length : Int)
  ·rw [if_pos (by simpa using h1), Option.bind_some, if_neg (by simp; omega)]
  ·rw [if_neg (by simpa using h1)]; rfl
 | m + 1, k, h => by
  rw [zbU]
  unfold zdN
  by_cases h1 : k < x.Store.Lots.length
  ·rw [if_pos (by simpa using h1), Option.bind_some, if_pos (by simp; omega)]
   have e : ix x.Store.Lots (k : Int) = some x.Store.Lots[k] := by unfold ix; rw [if_pos (by omega)]; first | simp [h1] | simpa using List.getElem?_eq_getElem h1
   rw [e, Option.bind_some]
   by_cases h2 : 8 < x.Store.Lots[k].Goods.length
   ·rw [if_pos (by simp only [decide_eq_true_eq]; omega)]
    exact ⟨_, rfl, .inl rfl⟩
   ·rw [if_neg (by simp only [decide_eq_true_eq]; omega)]
    obtain ⟨q, hq, hh⟩ := ziL x m (k + 1) (by omega)
    have hw : IntKind.i64.wrap ((k : Int) + 1) = ((k + 1 : Nat) : Int) := by rw [IntKind.wrap_i64]; omega
    rw [hw]
    refine ⟨q, hq, hh.imp id fun ⟨e1, e2⟩ => ⟨e1, fun i y h3 h4 h5 => ?_⟩⟩
    by_cases hi : i = k
    ·subst hi
     rw [List.getElem?_eq_getElem h1] at h5
     cases h5
     omega
    ·exact e2 i y (by omega) h4 h5
  ·rw [if_neg (by simpa using h1)]
   refine ⟨.inl (), rfl, .inr ⟨rfl, fun i y h3 h4 h5 => ?_⟩⟩
   have := (List.getElem?_eq_some_iff.1 h5).1
   omega
theorem zto (x : zJ) : ∃ b, f13 x = some b ∧ (b = true → Kl x ∧ x.Reef.Places.length ≤ 3 ∧ x.Reef.Seasons ≤ 2) := by
 obtain ⟨q, hq, hh⟩ := ziL x 8 0 rfl
 have hq : lp (zdN x) 0 = some q := hq
 unfold f13
 rw [hq, Option.bind_some]
 rcases hh with rfl | ⟨rfl, hg⟩
 ·exact ⟨false, rfl, fun h => by cases h⟩
 ·rw [Sum.elim_inl]
  obtain ⟨b, h1, h2⟩ := jJ (c := decide ((x.Islet.Wells.length : Int) ≤ 8)) (jJ (c := decide ((x.Islet.Months.length : Int) ≤ 4)) (jJ (c := decide ((x.Book.People.length : Int) ≤ 12)) (jJ (c := decide ((x.Book.Events.length : Int) ≤ 9)) (jJ (c := decide ((x.Book.Memories.length : Int) ≤ 12))
   (jJ (c := decide ((x.Reef.Places.length : Int) ≤ 3)) (jJ (c := decide (x.Reef.Seasons ≤ 2)) (jJ (c := decide ((x.Sea.Infested.length : Int) ≤ 10)) (jJ (c := decide ((x.Sea.Clean.length : Int) ≤ 10)) (jJ (c := decide ((x.Sea.Trips.length : Int) ≤ 8)) (jJ (c := decide ((x.Store.Stock.length : Int) ≤ 8))
   (jJ (c := decide ((x.Store.Use.length : Int) ≤ 8)) (jJ (c := decide ((x.Store.Lots.length : Int) ≤ 8)) (jJ (c := decide ((x.System.Loads.length : Int) ≤ 7)) (jJ (c := decide (x.System.Days ≤ 4)) (jJ (c := decide ((x.Fishing.Roads.length : Int) ≤ 10)) (jJ (c := decide ((x.Fishing.Zones.length : Int) ≤ 5))
   (⟨decide ((x.Fishing.Berths.length : Int) ≤ 5), rfl, id⟩ : ∃ b, some (decide ((x.Fishing.Berths.length : Int) ≤ 5)) = some b ∧ (b = true → decide ((x.Fishing.Berths.length : Int) ≤ 5) = true))))))))))))))))))
  refine ⟨b, by rw [h1]; rfl, fun e => ?_⟩
  simp only [decide_eq_true_eq] at h2
  have h2 := h2 e
  refine ⟨⟨by omega, by omega, by omega, by omega, by omega, by omega, by omega, by omega, by omega, by omega, by omega, by omega, by omega, by omega, by omega, by omega, fun y hy => ?_⟩, by omega, by omega⟩
  obtain ⟨i, hi⟩ := List.getElem?_of_mem hy
  have hlt := (List.getElem?_eq_some_iff.1 hi).1
  have := hg i y (Nat.zero_le _) (by omega) hi
  omega
section
variable {P : Program} {F : Fr} {w : World} {od : Option Nat} {ty t u e : TypeId} {pos : String} {af : Array Edge} {gd : Option (Nat × Bool)} {X Y : Operand} {k : IntKind} {m n : Int} {q : Bool}
theorem zrY (hT : P.underlying t = some (.pointer e)) (hx : ev F X = .pointer none) (hy : ev F Y = .pointer none) : (execOp (ev F) ⟨od, .binOp .eql t X Y u, ty, pos, af, gd⟩).run P w = .ok (.value (.bool true)) w := by
 have h : ∀ d : Nat, (Op.equalIn (d + 1) t (.pointer none) (.pointer none)).run P w = .ok true w := fun d => by simp [Op.equalIn, run_underlying hT]
 simp [execOp, hx, hy, eqGuard, binOp, Op.equal, Op.maxDepth, h 9999]
end
theorem zpQ : zN Tryz.prog 4 = true := by kernel_rfl
theorem zpd : zN Tryz.prog 5 = true := by kernel_rfl
theorem zlA : zN Tryz.prog 6 = true := by kernel_rfl
theorem zAJ : zN Tryz.prog 7 = true := by kernel_rfl
theorem zAH : zN Tryz.prog 8 = true := by kernel_rfl
theorem zpO : zN Tryz.prog 9 = true := by kernel_rfl
theorem zng : zN Tryz.prog 10 = true := by kernel_rfl
theorem zy3 : zN Tryz.prog 11 = true := by kernel_rfl
theorem zy2 : zN Tryz.prog 12 = true := by kernel_rfl
theorem zrt {G : Gm} {cc : List Value} {x : zJ} (h : qh G cc x) : ∃ (a1 : Option Addr) (n1 c1 : Nat), (cc.drop 20).take 3 = [.slice a1 n1 c1, iV x.Reef.Miss, iV x.Reef.Seasons] ∧ RSl zE 12 G a1 n1 c1 x.Reef.Places := by
 obtain ⟨b0, m0, d0, b1, m1, d1, b2, m2, d2, b3, m3, d3, b4, m4, d4, b5, m5, d5, b6, m6, d6, b7, m7, d7, b8, m8, d8, b9, m9, d9, b10, m10, d10, b11, m11, d11, b12, m12, d12, b13, m13, d13, b14, m14, d14, b15, m15, d15, rfl, h0, h1, h2, h3, h4, h5, h6, h7, h8, h9, h10, h11, h12, h13, h14, h15⟩ := h
 exact ⟨_, _, _, rfl, h5⟩
end Go.Proofs.YtcapocmenjcnhaaGreatDoor
/-
 TopRecovered: its walk.
-/
namespace Go.Proofs.YtcapocmenjcnhaaGreatDoor
open Go.RowKit
set_option maxRecDepth 20000
theorem CoR.coW {G : Gm} {w : World} {B b : Nat} {cc : List Value} {L : List Row} {va vp : Value} {r : qz} {mo : Int} (h : CoR G cc va vp r mo) (hO : Owns G w B (rowC b cc :: L)) : CoW w b va := ⟨zx hO (k := 0) rfl h.c60, zx hO (k := 0) rfl h.c61⟩
theorem zrl (o : Option (Nat × Int)) : ∃ v0 v1 v2 : Int, zhc o = .tuple #[iV v0, iV v1, iV v2] ∧ ((o = none ∧ v2 = 5) ∨ (o ≠ none ∧ v2 = 0)) := by
 cases o with
 | none => exact ⟨0, 0, 5, rfl, .inl ⟨rfl, rfl⟩⟩
 | some p => obtain ⟨i, d⟩ := p; exact ⟨(i : Int), d, 0, rfl, .inr ⟨by simp, rfl⟩⟩
set_option maxHeartbeats 8000000 in
theorem zyH {G0 : Gm} {w0 : World} (hS0 : Sat G0 w0) {cc : List Value} {x : zJ} (hA : qh G0 cc x) (ok : q9 x) {ay : Option Addr} {ny cy : Nat} {ys : List Int} (hy : RSl zW 1 G0 ay ny cy ys)
  {ta tb td : Option Addr} {ma ka mb kb md kd : Nat} {t : qT} (ht1 : RSl zW 1 G0 ta ma ka t.Starts) (ht2 : RSl (yd zW 1) 1 G0 tb mb kb t.Grows) (ht3 : RSl (yd zW 1) 1 G0 td md kd t.Takes)
  {el : TypeId} {fz : Nat × Nat} (hW : w0.heap[1]? = some (.cells Ev.pw.toArray el fz)) : Calls Tryz.prog 3 [.agg cc.toArray, .slice ay ny cy, .agg #[.slice ta ma ka, .slice tb mb kb, .slice td md kd]].toArray w0 (qQ w0 (.bool true)) := by
 have hS := Since.start hS0
 have hO := xw G0 w0
 have h2B : 2 ≤ w0.heap.size := (Array.getElem?_eq_some_iff.1 hW).1
 have kn : ∀ {w : World}, Below w0.heap.size w0 w → Calls Tryz.prog 6 [].toArray w (qQ w (.bool true)) := fun {w} hb => Ev.known20_ok w (by rw [hb.block 1 (by omega)]; exact hW)
 have hl := zlo hA
 obtain ⟨t16, t50⟩ := zi4 hA
 have okM : okI x.Money := ok.2.2.2.2.2.2.2.2
 obtain ⟨bb1, e13, hKl⟩ := zto x
 obtain ⟨r26, e26, hr26⟩ : ∃ r, (bb1 = true → zhK x.Reef = some r) ∧ (bb1 = true → r = 0 → f24 x.Reef = some true ∧ ReefOk x.Reef) := by
  cases bb1 with
  | false => exact ⟨(0 : Int), (fun h => by cases h), (fun h => by cases h)⟩
  | true =>
   obtain ⟨_, k1, k2⟩ := hKl rfl
   obtain ⟨e, h1, h2⟩ := zsw x.Reef (by omega)
   exact ⟨e, fun _ => h1, fun _ => h2⟩
 obtain ⟨b14, e0, e1, e3, e4, e5, e6, hD⟩ := zxL hS0 hA ok
 refine z8 (N := 228) (qS _ _) Tryz.func3 rfl rfl rfl rfl (zc (zb (zp rfl (zI (v := fun b => pV b) (cs := cc) (e := 49) (z6 rfl) hS.sat rfl fun b3 G1 w1 hg1 hc3 => ?_))))
 have hS := hS.grow hg1
 have hO := hO.grow hg1
 refine zp rfl (zI (v := fun b => pV b) (cs := [.slice ta ma ka, .slice tb mb kb, .slice td md kd]) (e := 52) (z6 rfl) hS.sat rfl fun b5 G1' w1' hg1' hc5 => ?_)
 have hS := hS.grow hg1'
 have hO := hO.grow hg1'
 have le1 := hg1.le.trans hg1'.le
 have hc3 := hc3.mono hg1'.le
 have hA := qD _ _ _ _ le1 hA
 have hD := hD.mono le1
 obtain ⟨a1, n1, c1, hse, h1⟩ := zrt hA
 have hA20 : cc[20]? = some (.slice a1 n1 c1) := by have := congrArg (fun l : List Value => l[0]?) hse; simpa [List.getElem?_take, List.getElem?_drop] using this
 refine za (ze (v := .bool false) rfl) rfl (zd (zc (zb (za (zw (cs := cc) zcU rfl hl fun j v hj => hS.sat.cell (hc3 j v hj)) rfl ?_))))
 refine zp rfl (yq (fi := []) (al := [.agg cc.toArray]) (ca := []) zpQ (zox hS hO hA ok e13 e26 (fun h => (hKl h).1) hD) rfl rfl rfl fun v G2 w2 L2 le2 hS hO hv => ?_)
 have hc3 := hc3.mono le2
 have hc5 := hc5.mono le2
 rcases hv with ⟨rfl, e2, _⟩ | ⟨hop, b, cc', ap, np, cpp, pc, rfl, rfl, hnp, hcs, hpc⟩
 ·rw [e2] at hO
  refine za (ze (v := .pointer none) rfl) rfl (zd (zc (zc (zb (za (zf (v := .pointer none) rfl) rfl (za (zrY Tryz.underlying53 rfl rfl) rfl ?_))))))
  refine wr 30 rfl (zd (qf true rfl rfl (zc (zb ?_))))
  refine zp rfl (zu zlA (kn hS.below) rfl rfl fun w3 hb => ?_)
  refine za (ze (v := .bool true) rfl) rfl (zd (zH ?_))
  exact ⟨rfl, (hS.keep hb).below⟩
 have hop2 := hop
 unfold opE at hop2
 simp only [Bool.and_eq_true, decide_eq_true_eq] at hop2
 obtain ⟨hb1, hb2, hE0⟩ := hop2
 obtain ⟨h24, hRO⟩ := hr26 hb1 (zsD hE0)
 obtain ⟨_, k1, k2⟩ := hKl hb1
 have hRO' := hRO
 obtain ⟨hOk, kP, m0, m1, kS, _⟩ := hRO'
 have hs : x.Reef.Seasons = (np : Int) := by omega
 have hw := hRO.worth
 have le12 := le1.trans le2
 have hy := hy.mono zm le12
 have ht1 := ht1.mono zm le12
 have ht2 := ht2.mono (zO zm) le12
 have ht3 := ht3.mono (zO zm) le12
 have hA := qD _ _ _ _ le2 hA
 have hD := hD.mono le2
 have h1 := h1.mono zl le2
 have sec : ∀ {w : World} {G : Gm}, Gle G2 G → Sat G w → ∀ (j : Nat) v, [Value.slice a1 n1 c1, iV x.Reef.Miss, iV x.Reef.Seasons][j]? = some v → w.cell? ⟨b3, 0 + 20 + j, none⟩ = some v := fun le hw j v hj => hw.cell (le.cell (hc3.drop_take 20 3 j v (by rw [hse]; exact hj)))
 have moc : ∀ {w : World} {G : Gm}, Gle G2 G → Sat G w → w.cell? ⟨b3, 0 + 50, none⟩ = some (iV x.Money) := fun le hw => hw.cell (le.cell (hc3 50 _ t50))
 have tru : ∀ {w : World} {G : Gm}, Gle G2 G → Sat G w → ∀ (j : Nat) v, [Value.slice ta ma ka, .slice tb mb kb, .slice td md kd][j]? = some v → w.cell? ⟨b5, 0 + j, none⟩ = some v := fun le hw j v hj => hw.cell (le.cell (hc5 j v hj))
 refine za (ze (v := pV b) rfl) rfl (zd (zc (zc (qx (fun F w => ∃ Fb q, F = qC Fb [(1, .slice ay ny cy), (3, pV b3), (5, pV b5), (7, pV b), (56, .bool q)] ∧ Since w0.heap.size G0 w0 G2 w ∧ Owns G2 w w0.heap.size [rowC b cc', jG 0 (.slice none 0 0) [], yt ap np cpp pc] ∧
  (q = false → ∃ m, ys = yj m ∧ xk x.Reef m)) ?_ ?_))))
 ·have out : ∀ {Fb : Fr} {w : World}, Since w0.heap.size G0 w0 G2 w → Owns G2 w w0.heap.size [rowC b cc', jG 0 (.slice none 0 0) [], yt ap np cpp pc] → ∃ Fb' q, qC Fb [(1, Value.slice ay ny cy), (3, pV b3), (5, pV b5), (7, pV b), (56, .bool true)] = qC Fb' [(1, Value.slice ay ny cy), (3, pV b3), (5, pV b5), (7, pV b), (56, .bool q)] ∧ Since w0.heap.size G0 w0 G2 w ∧ Owns G2 w w0.heap.size [rowC b cc', jG 0 (.slice none 0 0) [], yt ap np cpp pc] ∧
   (q = false → ∃ m, ys = yj m ∧ xk x.Reef m) := fun hS hO => ⟨_, true, rfl, hS, hO, fun h => by cases h⟩
  refine zb (za (zf (v := pV b) rfl) rfl (za (zdq Tryz.underlying53 rfl rfl) rfl (wr 2 rfl (zo rfl rfl rfl rfl (za (qu (m := ys.length) s24 rfl rfl hy.1) rfl (zo rfl rfl rfl rfl ?_))))))
  rcases qo (decide ((8 : Int) < (ys.length : Int))) with q1 | q1
  ·exact za (zdk q1 rfl rfl) rfl (wr 26 rfl (zd ⟨_, true, zi _ _ ⟨rfl, rfl, rfl, rfl, rfl, trivial⟩, hS, hO, fun h => by cases h⟩))
  obtain ⟨q5, e5', i5⟩ := zow (r := x.Reef) (l := ys) (by omega) (by simp only [decide_eq_false_iff_not] at q1; omega)
  refine za (zdk q1 rfl rfl) rfl (wr 2 rfl (zo rfl rfl rfl rfl (za (zj xP rfl) rfl (zo rfl rfl rfl rfl (za (zw (cs := [.slice a1 n1 c1, iV x.Reef.Miss, iV x.Reef.Seasons]) zec rfl rfl (sec (Gle.refl _) hS.sat)) rfl (wr 1 rfl (zo rfl rfl rfl rfl ?_)))))))
  refine zp rfl (zu zpd (zmZ hS.sat h1 hy e5') rfl rfl fun w3 hb => ?_)
  have hS := hS.keep hb
  have hO := hO.below hb
  cases q5 with
  | false => exact zo rfl rfl rfl rfl (za (qI rfl) rfl (wr 19 rfl (zd ⟨_, true, zi _ _ ⟨rfl, rfl, rfl, rfl, rfl, trivial⟩, hS, hO, fun h => by cases h⟩)))
  | true =>
  have hpl := i5.1 rfl
  refine zo rfl rfl rfl rfl (za (qI rfl) rfl (wr 2 rfl (zo rfl rfl rfl rfl (za (zj zia rfl) rfl (zo rfl rfl rfl rfl (za (zk n24 rfl (tru (Gle.refl _) hS.sat 0 _ rfl)) rfl (zo rfl rfl rfl rfl (za (qu (m := t.Starts.length) s24 rfl rfl ht1.1) rfl (zo rfl rfl rfl rfl ?_)))))))))
  rcases qo (decide ((8 : Int) < (t.Starts.length : Int))) with q1 | q1
  ·exact za (zdk q1 rfl rfl) rfl (wr 13 rfl (zd ⟨_, true, zi _ _ ⟨rfl, rfl, rfl, rfl, rfl, trivial⟩, hS, hO, fun h => by cases h⟩))
  refine za (zdk q1 rfl rfl) rfl (wr 2 rfl (zo rfl rfl rfl rfl (za (zj zeT rfl) rfl (zo rfl rfl rfl rfl (za (zk n50 rfl (tru (Gle.refl _) hS.sat 1 _ rfl)) rfl (zo rfl rfl rfl rfl (za (qu (m := t.Grows.length) s50 rfl rfl ht2.1) rfl (zo rfl rfl rfl rfl ?_))))))))
  rcases qo (decide ((8 : Int) < (t.Grows.length : Int))) with q1 | q1
  ·exact za (zdk q1 rfl rfl) rfl (wr 7 rfl (zd ⟨_, true, zi _ _ ⟨rfl, rfl, rfl, rfl, rfl, trivial⟩, hS, hO, fun h => by cases h⟩))
  refine za (zdk q1 rfl rfl) rfl (wr 2 rfl (zo rfl rfl rfl rfl (za (zj zeS rfl) rfl (zo rfl rfl rfl rfl (za (zk n50 rfl (tru (Gle.refl _) hS.sat 2 _ rfl)) rfl (zo rfl rfl rfl rfl (za (qu (m := t.Takes.length) s50 rfl rfl ht3.1) rfl (zo rfl rfl rfl rfl ?_))))))))
  refine za (zdp rfl rfl) rfl ?_
  rcases qo (decide ((8 : Int) < (t.Takes.length : Int))) with q1 | q1
  ·rw [q1]
   exact wr 1 rfl (zd ⟨_, true, zi _ _ ⟨rfl, rfl, rfl, rfl, rfl, trivial⟩, hS, hO, fun h => by cases h⟩)
  ·rw [q1]
   exact wr 1 rfl (zd ⟨_, false, zi _ _ ⟨rfl, rfl, rfl, rfl, rfl, trivial⟩, hS, hO, fun _ => hpl⟩)
 rintro F w ⟨Fb, q, rfl, hS, hO, hq⟩
 refine z7 rfl (fun hb => ?_) (fun hb => zD ?_)
 ·refine zc (zb (zp rfl (zu zlA (kn hS.below) rfl rfl fun w3 hb => za (ze (v := .bool true) rfl) rfl (zd (zH ?_)))))
  exact ⟨rfl, (hS.keep hb).below⟩
 obtain ⟨m, rfl, hpm⟩ := hq hb
 have hml := zc5 hs hpm
 refine zc (zb (za (zj xP rfl) rfl (za (zw (cs := [.slice a1 n1 c1, iV x.Reef.Miss, iV x.Reef.Seasons]) zec rfl rfl (sec (Gle.refl _) hS.sat)) rfl ?_)))
 refine zp rfl (zS zAJ (zvA hS.sat h1 hRO h24 hs k1 (by omega)) rfl rfl fun v G3 w3 hg3 hv => ?_)
 have hS := hS.grow hg3
 have hO := hO.grow hg3
 have hcs := hcs.grow hg3.le
 have hpc := hpc.mono zm hg3.le
 obtain ⟨ra, rn, rc, n, e, rfl, hE⟩ : ∃ (ra : Option Addr) (rn rc : Nat) (n e : Int), v = .tuple #[.slice ra rn rc, iV n, iV e] ∧ ((e = 0 ∧ ∃ l, xk x.Reef l ∧ vD x.Reef np l = none ∧ (∀ m, xk x.Reef m → vD x.Reef np m = none → n ≤ z9 x.Reef.Places m np) ∧ n = z9 x.Reef.Places l np ∧ RSl zW 1 G3 ra rn rc (yj l)) ∨ (e = 5 ∧ ∀ m, xk x.Reef m → vD x.Reef np m ≠ none)) := by
  rcases hv with ⟨l, ra, rn, rc, i1, i2, i3, rfl, i4⟩ | ⟨i1, rfl⟩
  ·exact ⟨ra, rn, rc, _, 0, rfl, .inl ⟨rfl, l, i1, i2, i3, rfl, i4⟩⟩
  ·exact ⟨none, 0, 0, 0, 5, rfl, .inr ⟨rfl, i1⟩⟩
 refine za (zf (v := .tuple #[.slice ra rn rc, iV n, iV e]) rfl) rfl (za (zT rfl rfl) rfl (za (zT rfl rfl) rfl (za (zT rfl rfl) rfl (za (ze (v := .slice ra rn rc) rfl) rfl (za (ze (v := iV n) rfl) rfl (za (ze (v := iV e) rfl) rfl (zd ?_)))))))
 refine zc (zb (za (zw (cs := cc) zcU rfl hl fun j v hj => hS.sat.cell (hg3.le.cell (hc3 j v hj))) rfl ?_))
 refine zp rfl (yq (fi := []) (al := [.agg cc.toArray]) (ca := []) zpQ (zox hS hO (qD _ _ _ _ hg3.le hA) ok e13 e26 (fun h => (hKl h).1) (hD.mono hg3.le)) rfl rfl rfl fun v G4 w4 L4 le4 hS hO hv => ?_)
 rcases hv with ⟨_, _, hno⟩ | ⟨_, bq, ccq, apq, npq, cpq, pcq, rfl, rfl, hnq, hcq, hpq⟩
 ·rw [hop] at hno; cases hno
 obtain rfl : npq = np := by rw [hnq, hnp]
 have le24 := hg3.le.trans le4
 have hcs := hcs.grow le4
 have hpc := hpc.mono zm le4
 have h1 := h1.mono zl le24
 have hy := hy.mono zm le24
 have hcst : ∀ l, xk x.Reef l → 0 ≤ z9 x.Reef.Places l npq ∧ z9 x.Reef.Places l npq ≤ 16000000 := fun l hp => by
  have := zau hw (by omega) l npq
  omega
 have hmx : x.Money ≤ 9223372036854775807 ∧ -9223372036854775808 ≤ x.Money := by unfold okI at okM; omega
 have e05 : e = 0 ∨ e = 5 := hE.imp (·.1) (·.1)
 obtain ⟨mc, hmc⟩ : ∃ mc, mc = z9 x.Reef.Places m npq := ⟨_, rfl⟩
 have hcm := hcst m hpm
 rw [← hmc] at hcm
 refine za (ze (v := pV bq) rfl) rfl (zd (zc (zc (qx (fun F w => ∃ Fb, F = qC Fb [(1, .slice ay ny cy), (3, pV b3), (5, pV b5), (7, pV b), (8, .slice ra rn rc), (9, iV n), (10, iV e), (11, pV bq), (76, .bool false)] ∧ Since w0.heap.size G0 w0 G4 w ∧ Owns G4 w w0.heap.size [rowC bq ccq, jG 0 (.slice none 0 0) [], yt apq npq cpq pcq, rowC b cc', jG 0 (.slice none 0 0) [], yt ap npq cpp pc]) ?_ ?_))))
 ·refine zb (za (zf (v := pV bq) rfl) rfl (za (zdq Tryz.underlying53 rfl rfl) rfl (wr 2 rfl (zo rfl rfl rfl rfl ?_))))
  rcases e05 with rfl | rfl
  ·exact za (xC (q := false) rfl rfl rfl) rfl (wr 5 rfl (zd ⟨_, zi _ _ ⟨rfl, rfl, rfl, rfl, rfl, rfl, rfl, rfl, rfl, trivial⟩, hS, hO⟩))
  ·exact za (xC (q := true) rfl rfl rfl) rfl (wr 2 rfl (zo rfl rfl rfl rfl (za (xC (q := false) rfl rfl rfl) rfl (wr 2 rfl (zd ⟨_, zi _ _ ⟨rfl, rfl, rfl, rfl, rfl, rfl, rfl, rfl, rfl, trivial⟩, hS, hO⟩)))))
 rintro F w ⟨Fb, rfl, hS, hO⟩
 refine zV false rfl rfl (zD ?_)
 refine zc (zb (za (zj xP rfl) rfl (za (zw (cs := [.slice a1 n1 c1, iV x.Reef.Miss, iV x.Reef.Seasons]) zec rfl rfl (sec le24 hS.sat)) rfl (wr 1 rfl ?_))))
 refine zp rfl (zu zAH (zyE hS.sat h1 hy (r := mc) (by rw [zyF hw (by omega) (by omega) hpm.2, hml, hmc])) rfl rfl fun w5 hb => ?_)
 have hS := hS.keep hb
 have hO := hO.below hb
 refine za (ze (v := iV mc) rfl) rfl (zd ?_)
 refine zc (qx (fun F w => ∃ Fb G, F = qC Fb [(1, .slice ay ny cy), (3, pV b3), (5, pV b5), (7, pV b), (8, .slice ra rn rc), (9, iV n), (10, iV e)] ∧ Gle G4 G ∧ Since w0.heap.size G0 w0 G w ∧ Owns G w w0.heap.size [rowC b cc', jG 0 (.slice none 0 0) [], yt ap npq cpp pc]) ?_ ?_)
 ·refine zc (zb (wr 1 rfl (za (zj zcf rfl) rfl (za (zk n3 rfl (moc le24 hS.sat)) rfl (za (zdo rfl rfl) rfl (zd (z7 rfl (fun hb => ?_) (fun hb => zD ?_))))))))
  ·have hle : mc ≤ x.Money := of_decide_eq_true hb
   obtain ⟨v0, v1, v2, hsv, hv2⟩ := zrl (vD x.Reef npq m)
   refine zc (zb (wr 1 rfl (za (zw (cs := cc) zcU rfl hl fun j v hj => hS.sat.cell (le24.cell (hc3 j v hj))) rfl (wr 1 rfl ?_))))
   refine zp rfl (yq (fi := []) (al := [pV bq, .agg cc.toArray, .slice ay ny cy]) (ca := []) zpO (zov (v0 := v0) (v1 := v1) (v2 := v2) (l := m) (xs0 := []) hS hO h2B hcq (by omega) rfl (Rd.nil _ _ _) hpq hl hA20 h1 hy hml (by omega) (by omega) hpm.2 hw hmx.1 (by rw [← hmc]; exact hle) (fun G w le hs' a1 n1 c1 a n c i1 i2 => by rw [← hsv]; exact zh6 hs' i1 i2 hRO h24 hs hpm)) rfl rfl rfl fun v G6 w6 L6 le6 hS hO hv => ?_)
   obtain ⟨rfl, ccz, nz, adz, cpz, acz, pcz, hL6, hcz⟩ := hv
   rw [hL6] at hO
   rw [← hmc] at hcz
   have wM : IntKind.i64.wrap (x.Money - mc) = x.Money - mc := wrap_in ⟨by omega, by omega⟩
   refine za (zf (v := .tuple #[iV v0, iV v1, iV v2]) rfl) rfl (za (zT rfl rfl) rfl (za (zT rfl rfl) rfl (za (zT rfl rfl) rfl (za (ze (v := iV v0) rfl) rfl (za (ze (v := iV v1) rfl) rfl (za (ze (v := iV v2) rfl) rfl (zd ?_)))))))
   refine zc (qx (fun F w => ∃ Fb, F = qC Fb [(1, .slice ay ny cy), (3, pV b3), (5, pV b5), (7, pV b), (8, .slice ra rn rc), (9, iV n), (10, iV e), (118, .bool false)] ∧ Since w0.heap.size G0 w0 G6 w ∧ Owns G6 w w0.heap.size (rowC bq ccz :: jG nz (.slice adz nz cpz) acz :: yt apq npq cpq pcz :: [rowC b cc', jG 0 (.slice none 0 0) [], yt ap npq cpp pc])) ?_ ?_)
   ·rcases hv2 with ⟨hlm, rfl⟩ | ⟨hlm, rfl⟩
    ·rcases hE with ⟨rfl, l, hpl, hlk, hbest, hn, hr⟩ | ⟨rfl, hno⟩
     ·have hnm : decide (mc < n) = false := decide_eq_false (by have := hbest m hpm hlm; omega)
      refine zb (wr 1 rfl (za (xC (q := true) rfl rfl rfl) rfl (wr 2 rfl (zo rfl rfl rfl rfl (za (xC (q := false) rfl rfl rfl) rfl (wr 3 rfl (zo rfl rfl rfl rfl (za (zw (cs := cc) zcU rfl hl fun j v hj => hS.sat.cell ((le24.trans le6).cell (hc3 j v hj))) rfl (wr 1 rfl (zo rfl rfl rfl rfl ?_))))))))))
      refine zp rfl (zu zng (zjV hS.sat (hcz.coW hO) (zx hO (k := 0) rfl hcz.c50) t50 wM) rfl rfl fun w7 hb => ?_)
      have hS := hS.keep hb
      have hO := hO.below hb
      refine zo rfl rfl rfl rfl (za (qI rfl) rfl (wr 3 rfl (zo rfl rfl rfl rfl (za (zg8 (q := true) rfl rfl rfl) rfl (wr 2 rfl (zo rfl rfl rfl rfl (za (xC (q := false) rfl rfl rfl) rfl (wr 3 rfl (zo rfl rfl rfl rfl (za (zlJ hnm rfl rfl) rfl (wr 3 rfl (zd ?_))))))))))))
      exact ⟨_, zi _ _ ⟨rfl, rfl, rfl, rfl, rfl, rfl, rfl, rfl, trivial⟩, hS, hO⟩
     ·exact absurd hlm (hno m hpm)
    ·refine zb (wr 1 rfl (za (xC (q := false) rfl rfl rfl) rfl (wr 6 rfl (zo rfl rfl rfl rfl (za (zw (cs := cc) zcU rfl hl fun j v hj => hS.sat.cell ((le24.trans le6).cell (hc3 j v hj))) rfl (wr 1 rfl (zo rfl rfl rfl rfl ?_)))))))
     refine zp rfl (zu zng (zjV hS.sat (hcz.coW hO) (zx hO (k := 0) rfl hcz.c50) t50 wM) rfl rfl fun w7 hb => ?_)
     have hS := hS.keep hb
     have hO := hO.below hb
     refine zo rfl rfl rfl rfl (za (qI rfl) rfl (wr 3 rfl (zo rfl rfl rfl rfl (za (zg8 (q := false) rfl rfl rfl) rfl (wr 4 rfl (jv rfl rfl rfl rfl (jv rfl rfl rfl rfl (jv rfl rfl rfl rfl (wr 3 rfl (zd ?_))))))))))
     exact ⟨_, zi _ _ ⟨rfl, rfl, rfl, rfl, rfl, rfl, rfl, rfl, trivial⟩, hS, hO⟩
   ·rintro F w ⟨Fb, rfl, hS, hO⟩
    exact zV false rfl rfl (zD ⟨_, G6, zi _ _ ⟨rfl, rfl, rfl, rfl, rfl, rfl, rfl, trivial⟩, le6, hS, ((hO.drop 0).drop 0).drop 0⟩)
  ·exact ⟨_, G4, zi _ _ ⟨rfl, rfl, rfl, rfl, rfl, rfl, rfl, trivial⟩, Gle.refl _, hS, ((hO.drop 0).drop 0).drop 0⟩
 rintro F w ⟨Fb, G5, rfl, le45, hS, hO⟩
 have le25 := le24.trans le45
 have hcs := hcs.grow le45
 have hpc := hpc.mono zm le45
 have h1 := h1.mono zl le45
 rcases hE with ⟨rfl, l, hpl, hlk, hbest, hn, hr⟩ | ⟨rfl, hno⟩
 ·have hr := hr.mono zm (le4.trans le45)
  have hll := zc5 hs hpl
  have hcl := hcst l hpl
  rw [← hn] at hcl
  obtain ⟨q5, e5', i5⟩ := zow (r := x.Reef) (l := yj l) (by omega) (by rw [List.length_map]; omega)
  obtain rfl : q5 = true := i5.2 ⟨l, rfl, hpl⟩
  refine zc (zc (zb (wr 1 rfl (za (xC (q := false) rfl rfl rfl) rfl (wr 1 rfl (zo rfl rfl rfl rfl (za (zj xP rfl) rfl (zo rfl rfl rfl rfl (za (zw (cs := [.slice a1 n1 c1, iV x.Reef.Miss, iV x.Reef.Seasons]) zec rfl rfl (sec le25 hS.sat)) rfl (wr 1 rfl (zo rfl rfl rfl rfl ?_)))))))))))
  refine zp rfl (zu zpd (zmZ hS.sat h1 hr e5') rfl rfl fun w7 hb => ?_)
  have hS := hS.keep hb
  have hO := hO.below hb
  refine zo rfl rfl rfl rfl (za (qI rfl) rfl (wr 3 rfl (zo rfl rfl rfl rfl (za (zj zcf rfl) rfl (zo rfl rfl rfl rfl (za (zk n3 rfl (moc le25 hS.sat)) rfl (zo rfl rfl rfl rfl (za (zdp rfl rfl) rfl (wr 1 rfl (zd (z7 rfl (fun hb => ?_) (fun hb => zD ?_))))))))))))
  ·refine zc (zb (wr 1 rfl (za (zg8 (q := false) rfl rfl rfl) rfl (wr 1 rfl (zo rfl rfl rfl rfl (za (zj xP rfl) rfl (zo rfl rfl rfl rfl (za (zw (cs := [.slice a1 n1 c1, iV x.Reef.Miss, iV x.Reef.Seasons]) zec rfl rfl (sec le25 hS.sat)) rfl (wr 1 rfl (zo rfl rfl rfl rfl ?_))))))))))
   refine zp rfl (zu zpd (zmZ hS.sat h1 hr e5') rfl rfl fun w8 hb => ?_)
   have hS := hS.keep hb
   refine wr 2 rfl (zo rfl rfl rfl rfl (zp rfl (zu zlA (kn hS.below) rfl rfl fun w9 hb => ?_)))
   refine za (yH (v := .bool true) rfl rfl rfl) rfl (za (ze (v := .bool true) rfl) rfl (zd (zH ?_)))
   exact ⟨rfl, (hS.keep hb).below⟩
  have hle : n ≤ x.Money := by simp only [decide_eq_false_iff_not] at hb; omega
  refine zc (zb (wr 1 rfl (za (zw (cs := cc) zcU rfl hl fun j v hj => hS.sat.cell (le25.cell (hc3 j v hj))) rfl (wr 1 rfl ?_))))
  refine zp rfl (yq (fi := []) (al := [pV b, .agg cc.toArray, .slice ra rn rc]) (ca := []) zpO (zov (v0 := 0) (v1 := 0) (v2 := 5) (l := l) (xs0 := []) hS hO h2B hcs (by omega) rfl (Rd.nil _ _ _) hpc hl hA20 h1 hr hll (by omega) (by omega) hpl.2 hw hmx.1 (by rw [← hn]; exact hle) (fun G w le hs' a1 n1 c1 a n c i1 i2 => by have := zh6 hs' i1 i2 hRO h24 hs hpl; rw [hlk] at this; exact this)) rfl rfl rfl fun v G6 w6 L6 le6 hS hO hv => ?_)
  obtain ⟨rfl, ccz, nz, adz, cpz, acz, pcz, hL6, hcz⟩ := hv
  rw [hL6] at hO
  rw [← hn] at hcz
  have le26 := le25.trans le6
  have h1 := h1.mono zl le6
  have hr := hr.mono zm le6
  have ht1 := ht1.mono zm le26
  have ht2 := ht2.mono (zO zm) le26
  have ht3 := ht3.mono (zO zm) le26
  have wM : IntKind.i64.wrap (x.Money - n) = x.Money - n := wrap_in ⟨by omega, by omega⟩
  refine za (zf (v := .tuple #[iV 0, iV 0, iV 5]) rfl) rfl (za (zT rfl rfl) rfl (za (zT rfl rfl) rfl (za (zT rfl rfl) rfl (za (ze (v := iV 0) rfl) rfl (za (ze (v := iV 0) rfl) rfl (za (ze (v := iV 5) rfl) rfl (zd ?_)))))))
  refine zc (zc (zb (wr 1 rfl (za (xC (q := false) rfl rfl rfl) rfl (wr 2 rfl (zo rfl rfl rfl rfl (za (zw (cs := cc) zcU rfl hl fun j v hj => hS.sat.cell (le26.cell (hc3 j v hj))) rfl (wr 1 rfl (zo rfl rfl rfl rfl ?_)))))))))
  refine zp rfl (zu zng (zjV hS.sat (hcz.coW hO) (zx hO (k := 0) rfl hcz.c50) t50 wM) rfl rfl fun w7 hb => ?_)
  have hS := hS.keep hb
  have hO := hO.below hb
  refine zo rfl rfl rfl rfl (za (qI rfl) rfl (wr 1 rfl (zd (zV false rfl rfl (zD ?_)))))
  obtain ⟨qt, et, it⟩ := ztp (r := x.Reef) (l := l) (t := t) hRO hs hpl
  refine zc (zc (zb (za (zj xP rfl) rfl (za (zw (cs := [.slice a1 n1 c1, iV x.Reef.Miss, iV x.Reef.Seasons]) zec rfl rfl (sec le26 hS.sat)) rfl (wr 1 rfl (za (zw (cs := [.slice ta ma ka, .slice tb mb kb, .slice td md kd]) g52 rfl rfl (tru le26 hS.sat)) rfl ?_))))))
  refine zp rfl (zu zy3 (zxE hS.sat h1 hr ht1 ht2 ht3 et) rfl rfl fun w8 hb => ?_)
  have hS := hS.keep hb
  have hO := hO.below hb
  refine za (qI rfl) rfl (zd (z7 rfl (fun hb => ?_) (fun hb => zD ?_)))
  ·refine zc (zb (zp rfl (zu zlA (kn hS.below) rfl rfl fun w3 hb => za (ze (v := .bool true) rfl) rfl (zd (zH ?_)))))
   exact ⟨rfl, (hS.keep hb).below⟩
  have hti := it (by simpa using hb)
  refine zc (zb (za (zj xP rfl) rfl (za (zw (cs := [.slice a1 n1 c1, iV x.Reef.Miss, iV x.Reef.Seasons]) zec rfl rfl (sec le26 hS.sat)) rfl (wr 1 rfl (za (zw (cs := [.slice ta ma ka, .slice tb mb kb, .slice td md kd]) g52 rfl rfl (tru le26 hS.sat)) rfl ?_)))))
  refine zp rfl (zS zy2 (zt0 hS.sat h1 hr ht1 ht2 ht3 hRO h24 hs hpl hti) rfl rfl fun v G8 w9 hg8 hv => ?_)
  obtain ⟨pa, pn, pq, l0, l1, l2, l3, l4, rfl, hp⟩ := hv
  have hS := hS.grow hg8
  have hO := hO.grow hg8
  have le28 := le26.trans hg8.le
  have h1 := h1.mono zl hg8.le
  obtain ⟨fl1, fl2⟩ := zqK (ps := x.Reef.Places) (Gr := t.Grows) (Tk := t.Takes) (X := t.Starts) (S := npq) (by omega)
  have hfl : (qn x.Reef.Places t.Grows t.Takes t.Starts npq).length = x.Reef.Places.length := by rw [yY]; exact hti.1
  refine za (zf (v := .tuple #[.slice pa pn pq, .agg #[iV l0, iV l1, iV l2, iV l3, iV l4], iV 0]) rfl) rfl (za (zT rfl rfl) rfl (za (zT rfl rfl) rfl (za (zT rfl rfl) rfl ?_)))
  refine zp rfl (zY (v := fun b => pV b) (cs := [iV 0, iV 0, iV 0, iV 0, iV 0]) (e := 66) (by kernel_rfl) hS.sat hO rfl 5 1 rfl (by decide) fun b20 w10 hb hO => ?_)
  have hS := hS.keep hb
  refine za (ze (v := .slice pa pn pq) rfl) rfl ?_
  refine zp rfl (zM (k := 0) (off := 0) (vs := [iV l0, iV l1, iV l2, iV l3, iV l4]) z66 hS hO rfl rfl rfl rfl rfl (fun u hu => by simp at hu; rcases hu with rfl | rfl | rfl | rfl | rfl <;> rfl) (Nat.le_of_ble_eq_true rfl) fun w11 hS hO => ?_)
  refine za (ze (v := iV 0) rfl) rfl (zd ?_)
  have hS := hS.keep (zn w11)
  have nS : (((yk x.Reef.Places t.Grows t.Takes t.Starts npq).length : Int) != x.Reef.Seasons) = false := by rw [fl1, hs]; simp
  have nP : (((qn x.Reef.Places t.Grows t.Takes t.Starts npq).length : Int) != (x.Reef.Places.length : Int)) = false := by rw [hfl]; simp
  have wS : IntKind.i64.wrap (((yk x.Reef.Places t.Grows t.Takes t.Starts npq).length : Int) - 1) = ((npq - 1 : Nat) : Int) := by rw [fl1, wrap_in ⟨by omega, by omega⟩]; omega
  have ixS : ix (yk x.Reef.Places t.Grows t.Takes t.Starts npq) ((npq - 1 : Nat) : Int) = some (qn x.Reef.Places t.Grows t.Takes t.Starts npq) := (qm _ _).trans fl2
  refine zc (zc (zQ qA (fun _ w => Sat G8 w) (.fl 0 (.fl 1 (.fl 2 (.fl 3 (.fl 4 (.fl 5 (.fl 6 (.fl 7 (.fl 8 (.fl 9 (.fl 10 (.fl 11 (.fl 12 (.fl 13 (.fl 14 (.fl 15 (.fl 16 (.fl 17 (.fl 18 (.fl 19 (.fl 20 (.fl 21 (.fl 22 (.fl 23 (.nil))))))))))))))))))))))))) (by kernel_rfl) rfl (by kernel_rfl) (fun _ => hS.sat) ?_))
  refine zh rfl (fun w hw => zf (v := iV 0) rfl) rfl (zh rfl (fun w hw => xC (q := false) rfl rfl rfl) rfl (zh rfl (fun w hw => zf (v := .bool false) rfl) rfl (zX rfl rfl (b := false) rfl rfl rfl (fun w hw => zf (v := .slice pa pn pq) rfl) rfl (zX rfl rfl (b := false) rfl rfl rfl (fun w hw => qu (m := (yk x.Reef.Places t.Grows t.Takes t.Starts npq).length) s50 rfl rfl hp.1) rfl ?_))))
  refine zX rfl rfl (b := false) rfl rfl rfl (fun w hw => zj xP rfl) rfl (zX rfl rfl (b := false) rfl rfl rfl (fun w hw => zj zaQ rfl) rfl (zX rfl rfl (b := false) rfl rfl rfl (fun w hw => zk n3 rfl (sec le28 hw 2 _ rfl)) rfl (zX rfl rfl (b := false) rfl rfl rfl (fun w hw => xC nS rfl rfl) rfl ?_)))
  refine zh rfl (fun w hw => xg (v := .bool false) rfl rfl rfl) rfl (zh rfl (fun w hw => zf (v := .bool false) rfl) rfl (zX rfl rfl (b := false) rfl rfl rfl (fun w hw => zf (v := .slice pa pn pq) rfl) rfl (zX rfl rfl (b := false) rfl rfl rfl (fun w hw => zf (v := .slice pa pn pq) rfl) rfl ?_)))
  refine zX rfl rfl (b := false) rfl rfl rfl (fun w hw => qu (m := (yk x.Reef.Places t.Grows t.Takes t.Starts npq).length) s50 rfl rfl hp.1) rfl (zX rfl rfl (b := false) rfl rfl rfl (fun w hw => zlI wS rfl rfl) rfl ?_)
  refine kM rfl rfl (b' := false) rfl rfl rfl s50 hp ixS rfl rfl rfl ?_
  rintro bx ox _ hcx _ ⟨fa, fn, fc, rfl, hfs⟩
  refine zX rfl rfl (b := false) rfl rfl rfl (fun w hw => zk n24 rfl (hw.cell (hcx 0 _ rfl))) rfl (zX rfl rfl (b := false) rfl rfl rfl (fun w hw => qu (m := (qn x.Reef.Places t.Grows t.Takes t.Starts npq).length) s24 rfl rfl hfs.1) rfl ?_)
  refine zX rfl rfl (b := false) rfl rfl rfl (fun w hw => zj xP rfl) rfl (zX rfl rfl (b := false) rfl rfl rfl (fun w hw => zj jL rfl) rfl (zX rfl rfl (b := false) rfl rfl rfl (fun w hw => zk n33 rfl (sec le28 hw 0 _ rfl)) rfl (zX rfl rfl (b := false) rfl rfl rfl (fun w hw => qu (m := x.Reef.Places.length) s33 rfl rfl h1.1) rfl (zX rfl rfl (b := false) rfl rfl rfl (fun w hw => xC nP rfl rfl) rfl ?_))))
  refine zh rfl (fun w hw => xg (v := .bool false) rfl rfl rfl) rfl (qk (zV false rfl rfl (zD ?_)))
  refine zc (zc (zb (za (ze (v := iV 0) rfl) rfl (zd ?_))))
  refine zB (qZ (qJ x.Reef.Places.length (fun i F w => ∃ Fb, F = qC Fb [(3, pV b3), (19, .slice pa pn pq), (22, iV (i : Int))] ∧ Since w0.heap.size G0 w0 G8 w) ?_ ?_ x.Reef.Places.length 0 _ _ (by omega) ⟨_, zi _ _ ⟨rfl, rfl, rfl, trivial⟩, hS⟩))
  ·rintro i F w hi ⟨Fb, rfl, hS⟩
   have hpi := List.getElem?_eq_getElem hi
   have hxi := List.getElem?_eq_getElem (l := qn x.Reef.Places t.Grows t.Takes t.Starts npq) (i := i) (by omega)
   have hpx : ix x.Reef.Places (i : Int) = some x.Reef.Places[i] := (qm _ _).trans hpi
   have hxx : ix (qn x.Reef.Places t.Grows t.Takes t.Starts npq) (i : Int) = some ((qn x.Reef.Places t.Grows t.Takes t.Starts npq)[i]'(by omega)) := (qm _ _).trans hxi
   have hgoal := zuh hRO hs hti hlk hpi hxi
   have hnl : decide ((qn x.Reef.Places t.Grows t.Takes t.Starts npq)[i]'(by omega) < x.Reef.Places[i].Goal) = false := decide_eq_false (by omega)
   refine zc (zc (zb (wr 1 rfl (za (zj xP rfl) rfl (za (zj jL rfl) rfl (za (zk n33 rfl (sec le28 hS.sat 0 _ rfl)) rfl (za (qu (m := x.Reef.Places.length) s33 rfl rfl h1.1) rfl (za (qa rfl rfl) rfl (zd (qf (decide ((i : Int) < (x.Reef.Places.length : Int))) (decide_eq_true (by omega)) rfl (zD ?_)))))))))))
   have hS := hS.keep (zn w)
   refine zc (zB (zc (zQ qA (fun _ w => Sat G8 w) (.fl 0 (.fl 1 (.fl 2 (.fl 3 (.fl 4 (.fl 5 (.fl 6 (.fl 7 (.fl 8 (.fl 9 (.fl 10 (.fl 11 (.fl 12 (.fl 13 (.fl 14 (.fl 15 (.fl 16 (.nil)))))))))))))))))) (by kernel_rfl) rfl (by kernel_rfl) (fun _ => hS.sat) ?_)))
   refine zh rfl (fun w hw => zf (v := .slice pa pn pq) rfl) rfl (zh rfl (fun w hw => zf (v := .slice pa pn pq) rfl) rfl (zh rfl (fun w hw => qu (m := (yk x.Reef.Places t.Grows t.Takes t.Starts npq).length) s50 rfl rfl hp.1) rfl (zh rfl (fun w hw => zlI wS rfl rfl) rfl (xH rfl s50 hp ixS rfl rfl rfl ?_))))
   rintro bx ox _ hcx _ ⟨fa, fn, fc, rfl, hfs⟩
   refine zh rfl (fun w hw => zk n24 rfl (hw.cell (hcx 0 _ rfl))) rfl (zh rfl (fun w hw => zf (v := iV (i : Int)) rfl) rfl (xH rfl s24 hfs hxx rfl rfl rfl ?_))
   rintro bz oz _ hcz _ ⟨⟩
   refine zh rfl (fun w hw => zk n3 rfl (hw.cell (hcz 0 _ rfl))) rfl (zh rfl (fun w hw => zj xP rfl) rfl (zh rfl (fun w hw => zj jL rfl) rfl (zh rfl (fun w hw => zk n33 rfl (sec le28 hw 0 _ rfl)) rfl (zh rfl (fun w hw => zf (v := iV (i : Int)) rfl) rfl (xH rfl s33 h1 hpx rfl rfl rfl ?_)))))
   rintro bp op _ hcp _ ⟨⟩
   refine zh rfl (fun w hw => zj zoc rfl) rfl (zh rfl (fun w hw => zk n3 rfl (hw.cell (hcp 10 _ rfl))) rfl (zh rfl (fun w hw => zlJ hnl rfl rfl) rfl (qk (zV false rfl rfl (zD ?_)))))
   refine zb (wr 1 rfl (za (qO rfl rfl) rfl (za (ze (v := iV ((i + 1 : Nat) : Int)) (congrArg iV (yQ (by omega)))) rfl (zd ?_))))
   exact ⟨_, zi _ _ ⟨rfl, rfl, rfl, trivial⟩, hS⟩
  ·rintro F w ⟨Fb, rfl, hS⟩
   refine qP (zc (zc (zb (wr 1 rfl (za (zj xP rfl) rfl (za (zj jL rfl) rfl (za (zk n33 rfl (sec le28 hS.sat 0 _ rfl)) rfl (za (qu (m := x.Reef.Places.length) s33 rfl rfl h1.1) rfl (za (qa rfl rfl) rfl (zd (zV (decide ((x.Reef.Places.length : Int) < (x.Reef.Places.length : Int))) (decide_eq_false (by omega)) rfl (ql rfl ?_))))))))))))
   refine zc (zb (zp rfl (zu zlA (kn hS.below) rfl rfl fun w3 hb => za (ze (v := .bool true) rfl) rfl (zd (zH ?_)))))
   exact ⟨rfl, (hS.keep hb).below⟩
 ·refine zc (zc (zb (wr 1 rfl (za (xC (q := true) rfl rfl rfl) rfl (wr 13 rfl (zd (qf true rfl rfl (zc (zb ?_)))))))))
  refine wr 1 rfl (za (zg8 (q := true) rfl rfl rfl) rfl (wr 7 rfl (zo rfl rfl rfl rfl (zp rfl (zu zlA (kn hS.below) rfl rfl fun w4 hb => ?_)))))
  refine za (yH (v := .bool true) rfl rfl rfl) rfl (za (ze (v := .bool true) rfl) rfl (zd (zH ?_)))
  exact ⟨rfl, (hS.keep hb).below⟩
end Go.Proofs.YtcapocmenjcnhaaGreatDoor
