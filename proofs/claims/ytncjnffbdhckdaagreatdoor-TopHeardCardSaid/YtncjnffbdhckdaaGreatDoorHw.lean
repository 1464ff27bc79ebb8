/-
 TopHeard: its walk.
-/
import Derived.Test.YtncjnffbdhckdaaGreatDoorHv
namespace Go.Proofs.YtncjnffbdhckdaaGreatDoor
open Go.RowKit
set_option linter.unusedVariables false
set_option maxRecDepth 20000
theorem sl24h : slB Tryz.prog 24 = some (3, 1, 8) := by kernel_rfl
theorem sl29h : slB Tryz.prog 29 = some (63, 2, 16) := by kernel_rfl
theorem na29h : naB Tryz.prog 29 = true := by kernel_rfl
theorem kf63_0 : fldB Tryz.prog 63 0 = some 0 := by kernel_rfl
theorem fd32_1h : fldB Tryz.prog 32 1 = some 1 := by kernel_rfl
theorem CoS.grow' {G G' : Gm} {cc : List Value} {va : Value} {bk : TLandBook} (h : CoS G cc va bk) (le : Gle G G') : CoS G' cc va bk := by
 obtain ⟨a1, n1, c1, a2, n2, c2, a3, n3, c3, q1, q2, q3, h1, h2, h3⟩ := h.book
 exact ⟨h.len, h.c60, h.c61, a1, n1, c1, a2, n2, c2, a3, n3, c3, q1, q2, q3, h1.mono RTLandPerson_mono le, h2.mono RTLandEvent_mono le, h3.mono RTLandMemory_mono le⟩
theorem tb_eqlB {P : Program} {F : Fr} {w : World} {od : Option Nat} {ty t u : TypeId} {pos : String} {af : Array Edge} {gd : Option (Nat × Bool)} {X Y : Operand} {a b q : Bool} (ht : P.underlying t = some .bool) (h : (a == b) = q) (hx : ev F X = .bool a) (hy : ev F Y = .bool b) : (execOp (ev F) ⟨od, .binOp .eql t X Y u, ty, pos, af, gd⟩).run P w = .ok (.value (.bool q)) w := h ▸ rn_eqlB ht hx hy
theorem tb_not {P : Program} {F : Fr} {w : World} {od : Option Nat} {ty t : TypeId} {pos : String} {af : Array Edge} {gd : Option (Nat × Bool)} {X : Operand} {b q : Bool} (h : (!b) = q) (hx : ev F X = .bool b) : (execOp (ev F) ⟨od, .unOp .not t X, ty, pos, af, gd⟩).run P w = .ok (.value (.bool q)) w := h ▸ rn_not hx
set_option maxHeartbeats 4000000 in
theorem f3_ok {G0 : Gm} {w0 : World} (hS0 : Sat G0 w0) {cc : List Value} {x : TCouncilAtoll} (hA : RTCouncilAtoll G0 cc x) (ok : okTCouncilAtoll x) {ay : Option Addr} {ny cy : Nat} {ys : List Int} (hy : RSl RInt 1 G0 ay ny cy ys) {st fr tt ot : Int}
  {el : TypeId} {fz : Nat × Nat} (hW : w0.heap[1]? = some (.cells Ev.pw.toArray el fz)) : Calls Tryz.prog 3 [.agg cc.toArray, .slice ay ny cy, iV st, iV fr, iV tt, iV ot].toArray w0 (RetV w0 (.bool true)) := by
 have hS := Since.start hS0
 have hO := own0 G0 w0
 have h2B : 2 ≤ w0.heap.size := (Array.getElem?_eq_some_iff.1 hW).1
 have kn : ∀ {w : World}, Below w0.heap.size w0 w → Calls Tryz.prog 9 [].toArray w (RetV w (.bool true)) := fun {w} hb => Ev.known20_ok w (by rw [hb.block 1 (by omega)]; exact hW)
 have hl := atl_len hA
 obtain ⟨bb1, e12, hKl⟩ := f12_some x
 obtain ⟨r26, e26, hr26⟩ : ∃ r, (bb1 = true → f26 x.Book = some r) ∧ (bb1 = true → r = 0 → La.bookOk x.Book = true) := by
  refine ⟨if La.bookOk x.Book = true then 0 else 2, fun h => ?_, fun h => ?_⟩
  ·obtain ⟨_, _, k1, k2, k3, _⟩ := hKl h
   exact f26_some _ k1 k2 k3
  ·split
   ·exact fun _ => by assumption
   ·exact fun h => absurd h (by decide)
 have hylen : ys.length ≤ 9223372036854775807 := by
  have h1 := hy.1
  have h2 := hy.2.1.1
  have e : maxLen = 9223372036854775807 := rfl
  omega
 refine enter1 (N := 268) (shutV _ _) Tryz.func3 rfl rfl rfl rfl (zQ (zR (zO rfl (OpP_newF (v := fun b => pV b) (cs := cc) (e := 49) (rn_boxA rfl) hS.sat rfl fun b6 G1 w1 hg1 hc6 => ?_))))
 have hS := hS.grow hg1
 have hO := hO.grow hg1
 have hA := RTCouncilAtoll_mono _ _ _ _ hg1.le hA
 have hy := hy.mono RInt_mono hg1.le
 obtain ⟨a1, n1, c1, a2, n2, c2, a3, n3, c3, hbk, h1, h2, h3⟩ := book_of hA
 refine zV (zA (v := .bool false) rfl) rfl (zN (zQ (zR (zV (rn_loadA (cs := cc) ka49 rfl hl fun j v hj => hS.sat.cell (hc6 j v hj)) rfl ?_))))
 refine zO rfl (OpP_lent (fi := []) (al := [.agg cc.toArray]) (ca := []) cb4c (f4_ok hS hO hA ok e12 e26 hKl) rfl rfl rfl fun v G2 w2 L2 le2 hS hO hv => ?_)
 have hc6 := hc6.mono le2
 rcases hv with ⟨rfl, e2⟩ | ⟨hb1, hr0, b, cc', rfl, rfl, hcs⟩
 ·have e2 := e2.symm
  subst e2
  refine zV (zA (v := .pointer none) rfl) rfl (zN (zQ (zQ (zR (zV (zm (v := .pointer none) rfl) rfl (zV (rn_eqlNNc Tryz.underlying50 rfl rfl) rfl ?_))))))
  refine wr 61 rfl (zN (WC_condT true rfl rfl (zQ (zR ?_))))
  refine zO rfl (zC cb9c (kn hS.below) rfl rfl fun w3 hb => ?_)
  refine zV (zA (v := .bool true) rfl) rfl (zN (zr ?_))
  exact ⟨rfl, (hS.keep hb).below⟩
 have okb := hr26 hb1 hr0
 have hKl := hKl hb1
 obtain ⟨_, _, k1, k2, k3, _⟩ := hKl
 have hy := hy.mono RInt_mono le2
 have h1 := h1.mono RTLandPerson_mono le2
 have h2 := h2.mono RTLandEvent_mono le2
 have h3 := h3.mono RTLandMemory_mono le2
 have bkc : ∀ {w : World}, Sat G2 w → ∀ (j : Nat) v, [Value.slice a1 n1 c1, .slice a2 n2 c2, .slice a3 n3 c3][j]? = some v → w.cell? ⟨b6, 0 + 17 + j, none⟩ = some v := fun hw j v hj => hw.cell (hc6.drop_take 17 3 j v (by rw [hbk]; exact hj))
 refine zV (zA (v := pV b) rfl) rfl (zN (zQ (zQ (zM (fun F w => ∃ Fb q, F = upds Fb [(1, .slice ay ny cy), (2, iV st), (3, iV fr), (4, iV tt), (5, iV ot), (6, pV b6), (13, pV b), (91, .bool q)] ∧ Since w0.heap.size G0 w0 G2 w ∧ Owns G2 w w0.heap.size [rowC b cc', rowA 0 (.slice none 0 0) []] ∧
  (q = false → ys.length ≤ 10 ∧ La.truthB x.Book ys = true ∧ La.allT x.Book ys = true ∧ La.inR st 0 5 = true ∧ La.inR fr 0 ((x.Book.Events.length : Int) - 1) = true ∧ La.inR tt 0 ((x.Book.Events.length : Int) - 1) = true ∧ fr ≠ tt ∧ -1000 ≤ ot ∧ ot ≤ 1000 ∧ x.Book.Memories.length + ys.length ≤ 10)) ?_ ?_))))
 ·refine zR (zV (zm (v := pV b) rfl) rfl (zV (rn_eqlSNc Tryz.underlying50 rfl rfl) rfl (wr 2 rfl (zY rfl rfl rfl rfl (zV (rn_len (m := ys.length) sl24h rfl rfl hy.1) rfl ?_)))))
  have fin : ∀ {Fb : Fr} {w : World}, Since w0.heap.size G0 w0 G2 w → Owns G2 w w0.heap.size [rowC b cc', rowA 0 (.slice none 0 0) []] → AllEq Fb [(1, .slice ay ny cy), (2, iV st), (3, iV fr), (4, iV tt), (5, iV ot), (6, pV b6), (13, pV b), (91, .bool true)] →
    ∃ Fb' q, Fb = upds Fb' [(1, .slice ay ny cy), (2, iV st), (3, iV fr), (4, iV tt), (5, iV ot), (6, pV b6), (13, pV b), (91, .bool q)] ∧ Since w0.heap.size G0 w0 G2 w ∧ Owns G2 w w0.heap.size [rowC b cc', rowA 0 (.slice none 0 0) []] ∧
    (q = false → ys.length ≤ 10 ∧ La.truthB x.Book ys = true ∧ La.allT x.Book ys = true ∧ La.inR st 0 5 = true ∧ La.inR fr 0 ((x.Book.Events.length : Int) - 1) = true ∧ La.inR tt 0 ((x.Book.Events.length : Int) - 1) = true ∧ fr ≠ tt ∧ -1000 ≤ ot ∧ ot ≤ 1000 ∧ x.Book.Memories.length + ys.length ≤ 10) :=
   fun hS hO he => ⟨_, true, zu _ _ he, hS, hO, fun h => by cases h⟩
  rcases bcases (decide (10 < (ys.length : Int))) with q1 | q1
  ·exact zY rfl rfl rfl rfl (zV (tb_gtr q1 rfl rfl) rfl (wr 57 rfl (zN (fin hS hO ⟨rfl, rfl, rfl, rfl, rfl, rfl, rfl, rfl, trivial⟩))))
  refine zY rfl rfl rfl rfl (zV (tb_gtr q1 rfl rfl) rfl (wr 3 rfl (zY rfl rfl rfl rfl (zV (rn_loadA (cs := [.slice a1 n1 c1, .slice a2 n2 c2, .slice a3 n3 c3]) ag32 rfl rfl (bkc hS.sat)) rfl (wr 1 rfl (zY rfl rfl rfl rfl ?_))))))
  obtain ⟨t2, q2⟩ : ∃ t, La.truthB x.Book ys = t := ⟨_, rfl⟩
  refine zO rfl (zC cb5c (f5_ok hS.sat h1 h2 h3 hy (by rw [La.f5_eq x.Book ys hylen, q2])) rfl rfl fun w3 hb => ?_)
  have hS := hS.keep hb
  have hO := hO.below hb
  cases t2 with
  | false => exact wr 51 rfl (zN (fin hS hO ⟨rfl, rfl, rfl, rfl, rfl, rfl, rfl, rfl, trivial⟩))
  | true =>
  refine wr 4 rfl (zY rfl rfl rfl rfl (zV (rn_loadA (cs := [.slice a1 n1 c1, .slice a2 n2 c2, .slice a3 n3 c3]) ag32 rfl rfl (bkc hS.sat)) rfl (wr 1 rfl (zY rfl rfl rfl rfl ?_))))
  obtain ⟨t3, q3⟩ : ∃ t, La.allT x.Book ys = t := ⟨_, rfl⟩
  refine zO rfl (zC cb6c (f6_ok hS.sat h1 h2 h3 hy (by rw [La.f6_eq x.Book okb ys q2, q3])) rfl rfl fun w4 hb => ?_)
  have hS := hS.keep hb
  have hO := hO.below hb
  cases t3 with
  | false => exact wr 44 rfl (zN (fin hS hO ⟨rfl, rfl, rfl, rfl, rfl, rfl, rfl, rfl, trivial⟩))
  | true =>
  refine wr 4 rfl (zY rfl rfl rfl rfl ?_)
  obtain ⟨t4, q4⟩ : ∃ t, La.inR st 0 5 = t := ⟨_, rfl⟩
  refine zO rfl (zC cb7c (f7_ok hS.sat (by rw [La.f7_eq st, q4])) rfl rfl fun w5 hb => ?_)
  have hS := hS.keep hb
  have hO := hO.below hb
  cases t4 with
  | false => exact wr 39 rfl (zN (fin hS hO ⟨rfl, rfl, rfl, rfl, rfl, rfl, rfl, rfl, trivial⟩))
  | true =>
  refine wr 4 rfl (zY rfl rfl rfl rfl (zV (rn_loadA (cs := [.slice a1 n1 c1, .slice a2 n2 c2, .slice a3 n3 c3]) ag32 rfl rfl (bkc hS.sat)) rfl (wr 1 rfl (zY rfl rfl rfl rfl ?_))))
  obtain ⟨t5, q5⟩ : ∃ t, La.inR fr 0 ((x.Book.Events.length : Int) - 1) = t := ⟨_, rfl⟩
  refine zO rfl (zC cb8c (f8_ok hS.sat h1 h2 h3 (by rw [La.f8_eq x.Book fr k2, q5])) rfl rfl fun w6 hb => ?_)
  have hS := hS.keep hb
  have hO := hO.below hb
  cases t5 with
  | false => exact wr 32 rfl (zN (fin hS hO ⟨rfl, rfl, rfl, rfl, rfl, rfl, rfl, rfl, trivial⟩))
  | true =>
  refine wr 4 rfl (zY rfl rfl rfl rfl (zV (rn_loadA (cs := [.slice a1 n1 c1, .slice a2 n2 c2, .slice a3 n3 c3]) ag32 rfl rfl (bkc hS.sat)) rfl (wr 1 rfl (zY rfl rfl rfl rfl ?_))))
  obtain ⟨t6, q6⟩ : ∃ t, La.inR tt 0 ((x.Book.Events.length : Int) - 1) = t := ⟨_, rfl⟩
  refine zO rfl (zC cb8c (f8_ok hS.sat h1 h2 h3 (by rw [La.f8_eq x.Book tt k2, q6])) rfl rfl fun w7 hb => ?_)
  have hS := hS.keep hb
  have hO := hO.below hb
  cases t6 with
  | false => exact wr 25 rfl (zN (fin hS hO ⟨rfl, rfl, rfl, rfl, rfl, rfl, rfl, rfl, trivial⟩))
  | true =>
  refine wr 5 rfl (zY rfl rfl rfl rfl ?_)
  rcases bcases (fr == tt) with q7 | q7
  ·exact zV (tb_eql q7 rfl rfl) rfl (wr 19 rfl (zN (fin hS hO ⟨rfl, rfl, rfl, rfl, rfl, rfl, rfl, rfl, trivial⟩)))
  refine zV (tb_eql q7 rfl rfl) rfl (wr 3 rfl (zY rfl rfl rfl rfl ?_))
  rcases bcases (decide (ot < -1000)) with q8 | q8
  ·exact zV (tb_lss q8 rfl rfl) rfl (wr 15 rfl (zN (fin hS hO ⟨rfl, rfl, rfl, rfl, rfl, rfl, rfl, rfl, trivial⟩)))
  refine zV (tb_lss q8 rfl rfl) rfl (wr 3 rfl (zY rfl rfl rfl rfl ?_))
  rcases bcases (decide (1000 < ot)) with q9 | q9
  ·exact zV (tb_gtr q9 rfl rfl) rfl (wr 11 rfl (zN (fin hS hO ⟨rfl, rfl, rfl, rfl, rfl, rfl, rfl, rfl, trivial⟩)))
  refine zV (tb_gtr q9 rfl rfl) rfl (wr 4 rfl (zY rfl rfl rfl rfl (zV (zL na30c rfl (bkc hS.sat 2 _ rfl)) rfl (zY rfl rfl rfl rfl (zV (rn_len (m := x.Book.Memories.length) sl30 rfl rfl h3.1) rfl (wr 1 rfl (zY rfl rfl rfl rfl (zV (rn_len (m := ys.length) sl24h rfl rfl hy.1) rfl
   (zY rfl rfl rfl rfl (zV (tb_add (r := (x.Book.Memories.length : Int) + ys.length) (by rw [IntKind.wrap_i64]; simp only [decide_eq_false_iff_not] at q1; omega) rfl rfl) rfl (zY rfl rfl rfl rfl ?_)))))))))))
  rcases bcases (decide (10 < (x.Book.Memories.length : Int) + ys.length)) with q10 | q10
  ·exact zV (tb_gtr q10 rfl rfl) rfl (wr 1 rfl (zN (fin hS hO ⟨rfl, rfl, rfl, rfl, rfl, rfl, rfl, rfl, trivial⟩)))
  refine zV (tb_gtr q10 rfl rfl) rfl (wr 1 rfl (zN ?_))
  simp only [decide_eq_false_iff_not, beq_eq_false_iff_ne, ne_eq] at q1 q7 q8 q9 q10
  exact ⟨_, false, zu _ _ ⟨rfl, rfl, rfl, rfl, rfl, rfl, rfl, rfl, trivial⟩, hS, hO, fun _ => ⟨by omega, q2, q3, q4, q5, q6, q7, by omega, by omega, by omega⟩⟩
 rintro F w ⟨Fb, q, rfl, hS, hO, hq⟩
 refine zT rfl (fun hb => ?_) (fun hb => zP ?_)
 ·refine zQ (zR (zO rfl (zC cb9c (kn hS.below) rfl rfl fun w3 hb => zV (zA (v := .bool true) rfl) rfl (zN (zr ?_)))))
  exact ⟨rfl, (hS.keep hb).below⟩
 obtain ⟨g1, g2, g3, g4, g5, g6, g7, g8, g9, g10⟩ := hq hb
 obtain ⟨n, hn⟩ : ∃ n, x.Book.Events.length = n + 1 := ⟨x.Book.Events.length - 1, by have := (La.book_parts okb).2.1.1; omega⟩
 have hn7 : n < 7 := by have := (La.book_parts okb).2.1.2; omega
 have hyl : ys.length = n + 1 := by rw [La.truth_len g2, hn]
 have htr : La.Tr x.Book (La.yv ys) := (La.tr_iff okb).1 ((La.truth_all okb g2).1 g3)
 have hm9 : x.Book.Memories.length + n < 10 := by omega
 have yat : ∀ e, e < n + 1 → ix ys (e : Int) = some (La.yv ys e) ∧ 0 ≤ La.yv ys e ∧ La.yv ys e ≤ 1000 := fun e he => La.yv_at g2 (by omega)
 obtain ⟨f0, rfl, hf0⟩ : ∃ f0 : Nat, fr = (f0 : Int) ∧ f0 < n + 1 := ⟨fr.toNat, by rw [La.inR_iff] at g5; omega, by rw [La.inR_iff] at g5; omega⟩
 obtain ⟨t0, rfl, ht0⟩ : ∃ t0 : Nat, tt = (t0 : Int) ∧ t0 < n + 1 := ⟨tt.toNat, by rw [La.inR_iff] at g6; omega, by rw [La.inR_iff] at g6; omega⟩
 refine zQ (zQ (zR (zV (zA (v := iV 1) rfl) rfl (zN ?_))))
 refine zb (WC_loopI (WI_rounds n (fun i F w => ∃ Fb G cc1 ad cp ac xs, F = upds Fb [(1, .slice ay ny cy), (2, iV st), (3, iV (f0 : Int)), (4, iV (t0 : Int)), (5, iV ot), (6, pV b6), (13, pV b), (14, iV ((i + 1 : Nat) : Int))] ∧ Gle G2 G ∧ Since w0.heap.size G0 w0 G w ∧
  Owns G w w0.heap.size [rowC b cc1, rowA i (.slice ad i cp) ac] ∧ CoS G cc1 (.slice ad i cp) (La.tellB x.Book (La.yv ys) i) ∧ i = xs.length ∧ Rd RAct 1 G ac xs) ?_ ?_ n 0 _ _ (by omega) ⟨_, G2, _, none, 0, [], [], zu _ _ ⟨rfl, rfl, rfl, rfl, rfl, rfl, rfl, rfl, trivial⟩, Gle.refl _, hS, hO, hcs, rfl, Rd.nil _ _ _⟩))
 ·rintro i F w hi ⟨Fb, G, cc1, ad, cp, ac, xs, rfl, le, hS, hO, hcs, hxs, hrd⟩
  have hy := hy.mono RInt_mono le
  obtain ⟨y1, y2, y3⟩ := yat (i + 1) (by omega)
  obtain ⟨y4, y5, y6⟩ := yat i (by omega)
  obtain ⟨t1, t2⟩ := La.tell_ok okb htr i (by omega) (by omega)
  obtain ⟨t3, t4⟩ := La.tell_ok okb htr (i + 1) (by omega) (by omega)
  have tl := La.tell_len (b := x.Book) (ys := La.yv ys) i
  have tl' := La.tell_len (b := x.Book) (ys := La.yv ys) (i + 1)
  have tp := La.tell_people (b := x.Book) (ys := La.yv ys) i
  have te := La.tell_events (b := x.Book) (ys := La.yv ys) i
  have tp' := La.tell_people (b := x.Book) (ys := La.yv ys) (i + 1)
  have te' := La.tell_events (b := x.Book) (ys := La.yv ys) (i + 1)
  refine zQ (zQ (zR (wr 2 rfl (zV (rn_len (m := ys.length) sl24h rfl rfl hy.1) rfl (zV (tb_lss (q := true) (by simp only [decide_eq_true_eq]; omega) rfl rfl) rfl (zN (WC_condT true rfl rfl (zP ?_))))))))
  have hS := hS.keep (below_drew w)
  have hO := hO.below (below_drew w)
  refine zQ (zb (zQ (WC_regionD mixedO (fun _ w => Sat G w) (.fl 0 (.fl 1 (.fl 2 (.fl 3 (.fl 4 (.fl 5 (.fl 6 (.fl 7 (.fl 8 (.fl 9 (.fl 10 .nil))))))))))) (by kernel_rfl) rfl (by kernel_rfl) (fun _ => hS.sat) ?_)))
  refine zD rfl (fun w hw => zm rfl) rfl (zD rfl (fun w hw => zm rfl) rfl (WD_idx rfl sl24h hy y1 rfl rfl rfl fun q1 o1 s1 kk1 _ r1 => ?_))
  cases r1
  refine zD rfl (fun w hw => zL kn3 rfl (hw.cell (kk1 0 _ rfl))) rfl (zD rfl (fun w hw => zm rfl) rfl (zD rfl (fun w hw => zm rfl) rfl (zD rfl (fun w hw => tb_sub (r := (i : Int)) (by rw [IntKind.wrap_i64]; omega) rfl rfl) rfl (WD_idx rfl sl24h hy y4 rfl rfl rfl fun q2 o2 s2 kk2 _ r2 => ?_))))
  cases r2
  refine zD rfl (fun w hw => zL kn3 rfl (hw.cell (kk2 0 _ rfl))) rfl (zD rfl (fun w hw => tb_sub (r := La.yv ys (i + 1) - La.yv ys i) (by rw [IntKind.wrap_i64]; omega) rfl rfl) rfl (zD rfl (fun w hw => zA (v := iV (La.yv ys (i + 1) - La.yv ys i)) rfl) rfl (zI ?_)))
  refine zQ (zR (wr 2 rfl (zV (tb_sub (r := (i : Int)) (by rw [IntKind.wrap_i64]; omega) rfl rfl) rfl (wr 3 rfl (zV (v := .agg #[iV (La.yv ys (i + 1) - La.yv ys i), iV (La.yv ys (i + 1) - La.yv ys i)]) (by kernel_rfl) rfl
   (zV (v := .agg (mC (La.exM (i : Int) ((i + 1 : Nat) : Int) (La.yv ys (i + 1) - La.yv ys i))).toArray) (by kernel_rfl) rfl ?_))))))
  refine zO rfl (OpP_lent (fi := []) (al := [pV b, .agg (mC (La.exM (i : Int) ((i + 1 : Nat) : Int) (La.yv ys (i + 1) - La.yv ys i))).toArray]) (ca := []) cb10c (f10_ok (x := La.exM (i : Int) ((i + 1 : Nat) : Int) (La.yv ys (i + 1) - La.yv ys i)) hS hO h2B hcs (by omega) hxs hrd (by omega)
   ((f26_some _ (by show _ ≤ _; rw [tp]; exact k1) (by show _ ≤ _; rw [te]; exact k2) (by show 1 ≤ 1000; decide)).trans (by rw [if_pos (La.alone_ok t1 (La.step_ok htr (by omega)))]))
   ((La.f31_eq (La.tellB x.Book (La.yv ys) (i + 1)) (by rw [tp']; exact k1) (by rw [te']; exact k2) (by rw [tl']; omega)).trans (by rw [if_pos t3, if_pos ((La.agree_tr t3).2 ⟨_, t4⟩)]))) rfl rfl rfl fun v G3 w3 L3 le3 hS hO hv => ?_)
  rcases hv with ⟨hr, _⟩ | ⟨_, rfl, cc2, ad', cp', ac', rfl, hcs', hrd'⟩
  ·exact absurd rfl hr
  refine zV (zA (v := iV 0) rfl) rfl (zN (zQ (zR (wr 2 rfl (zN (WC_condF false rfl rfl (zP ?_)))))))
  refine zR (wr 1 rfl (zV (tb_add (r := ((i + 1 + 1 : Nat) : Int)) (by rw [IntKind.wrap_i64]; omega) rfl rfl) rfl (zV (zA (v := iV ((i + 1 + 1 : Nat) : Int)) rfl) rfl (zN ?_))))
  exact ⟨_, G3, cc2, ad', cp', ac', _, zu _ _ ⟨rfl, rfl, rfl, rfl, rfl, rfl, rfl, rfl, trivial⟩, le.trans le3, hS, hO, hcs', by simp [hxs], hrd'⟩
 rintro F w ⟨Fb, G, cc1, ad, cp, ac, xs, rfl, le, hS, hO, hcs, hxs, hrd⟩
 have hy := hy.mono RInt_mono le
 refine WI_step (zQ (zQ (zR (wr 2 rfl (zV (rn_len (m := ys.length) sl24h rfl rfl hy.1) rfl (zV (tb_lss (q := false) (by simp only [decide_eq_false_iff_not]; omega) rfl rfl) rfl (zN (WC_condF false rfl rfl (WC_exit rfl ?_)))))))))
 obtain ⟨a4, n4, c4, a5, n5, c5, a6, n6, c6, h17, h18, h19, h4, h5, h6⟩ := hcs.book
 obtain ⟨o1, o2⟩ := La.tell_ok okb htr n (by omega) (by omega)
 have tp := La.tell_people (b := x.Book) (ys := La.yv ys) n
 have te := La.tell_events (b := x.Book) (ys := La.yv ys) n
 have tl := La.tell_len (b := x.Book) (ys := La.yv ys) n
 have e34 : f34 (La.tellB x.Book (La.yv ys) n) st = some (La.lineV (La.tellB x.Book (La.yv ys) n) st) := by
  rw [La.f34_eq _ _ (by rw [tp]; exact k1) (by rw [te]; exact k2) (by rw [tl]; omega), o1, g4, if_pos (show (true && true) = true from rfl), if_pos ((La.agree_tr o1).2 ⟨_, o2⟩)]
 have hline := La.heard_line okb htr hn (by omega) st
 generalize La.lineV (La.tellB x.Book (La.yv ys) n) st = rl at e34 hline
 refine zQ (zR (wr 2 rfl ?_))
 refine zO rfl (OpP_callG cb11c (f11_ok (bk := La.tellB x.Book (La.yv ys) n) hS.sat h4 h5 h6 (.of hO h17 h18 h19 hcs.c60 hcs.c61) e34) rfl rfl fun v G4 w4 hg4 hv => ?_)
 obtain ⟨ra, rn, rc, rfl, hrl⟩ := hv
 have hS := hS.grow hg4
 have hO := hO.grow hg4
 have le4 := le.trans hg4.le
 have hy := hy.mono RInt_mono hg4.le
 have hcs : CoS G4 cc1 (.slice ad n cp) (La.tellB x.Book (La.yv ys) n) := ⟨hcs.len, hcs.c60, hcs.c61, a4, n4, c4, a5, n5, c5, a6, n6, c6, h17, h18, h19, h4.mono RTLandPerson_mono hg4.le, h5.mono RTLandEvent_mono hg4.le, h6.mono RTLandMemory_mono hg4.le⟩
 have hrd := hrd.mono RAct_mono hg4.le
 refine zV (zm (v := .tuple #[.slice ra rn rc, iV rl.2.1, iV rl.2.2]) rfl) rfl (zV (zX rfl rfl) rfl (zV (zX rfl rfl) rfl (zV (zX rfl rfl) rfl (zV (zA (v := .slice ra rn rc) rfl) rfl (zV (zA (v := iV rl.2.1) rfl) rfl (zV (zA (v := iV rl.2.2) rfl) rfl (zN ?_)))))))
 refine zQ (zR (zV (zA (v := .slice none 0 0) rfl) rfl (zN (zQ (zR (zV (zA (v := .bool false) rfl) rfl (zN ?_)))))))
 refine zQ (zQ (zR (zV (zA (v := iV 0) rfl) rfl (zN ?_))))
 have hO := hO.cons_nil 3 1
 refine zb (WC_loopI (WI_rounds (n + 1) (fun j F w => ∃ Fb G aa ca cells, F = upds Fb [(1, .slice ay ny cy), (2, iV st), (3, iV (f0 : Int)), (4, iV (t0 : Int)), (5, iV ot), (6, pV b6), (13, pV b), (17, .slice ra rn rc), (19, iV rl.2.2), (20, .slice aa (La.allA x.Book st j).length ca), (21, .bool (La.twA x.Book (La.yv ys) st j)), (22, iV (j : Int))] ∧
  Gle G4 G ∧ Since w0.heap.size G0 w0 G w ∧ Owns G w w0.heap.size [⟨3, 1, (La.allA x.Book st j).length, .slice aa (La.allA x.Book st j).length ca, cells⟩, rowC b cc1, rowA n (.slice ad n cp) ac] ∧ Rd RInt 1 G cells (La.castL (La.allA x.Book st j))) ?_ ?_ (n + 1) 0 _ _ (by omega)
  ⟨_, G4, none, 0, [], zu _ _ ⟨rfl, rfl, rfl, rfl, rfl, rfl, rfl, rfl, rfl, rfl, rfl, rfl, trivial⟩, Gle.refl _, hS, hO, Rd.nil _ _ _⟩))
 ·rintro j F w hj ⟨Fb, G, aa, ca, cells, rfl, le5, hS, hO, hrd2⟩
  have hy := hy.mono RInt_mono le5
  have h2 := h2.mono RTLandEvent_mono (le4.trans le5)
  have ls : Gle G2 G := le4.trans le5
  obtain ⟨y1, y2, y3⟩ := yat j hj
  obtain ⟨evt, v1, v2, v3, v4⟩ := La.event_at okb (e := j) (by omega)
  have asu := La.allA_succ x.Book st j
  have alen := La.allA_len x.Book st j
  refine zQ (zQ (zR (wr 2 rfl (zV (rn_len (m := ys.length) sl24h rfl rfl hy.1) rfl (zV (tb_lss (q := true) (by simp only [decide_eq_true_eq]; omega) rfl rfl) rfl (zN (WC_condT true rfl rfl (zP ?_))))))))
  refine zQ (zM (fun F w => ∃ Fb G aa ca cells, F = upds Fb [(1, .slice ay ny cy), (2, iV st), (3, iV (f0 : Int)), (4, iV (t0 : Int)), (5, iV ot), (6, pV b6), (13, pV b), (17, .slice ra rn rc), (19, iV rl.2.2), (20, .slice aa (La.allA x.Book st (j + 1)).length ca), (21, .bool (La.twA x.Book (La.yv ys) st (j + 1))), (22, iV (j : Int))] ∧
   Gle G4 G ∧ Since w0.heap.size G0 w0 G w ∧ Owns G w w0.heap.size [⟨3, 1, (La.allA x.Book st (j + 1)).length, .slice aa (La.allA x.Book st (j + 1)).length ca, cells⟩, rowC b cc1, rowA n (.slice ad n cp) ac] ∧ Rd RInt 1 G cells (La.castL (La.allA x.Book st (j + 1)))) ?_ ?_)
  ·refine zb (zQ (zQ (zR (wr 2 rfl (zV (zL na29h rfl (hS.sat.cell ((hc6.drop_take 17 3).mono ls 1 _ (by rw [hbk]; rfl)))) rfl (wr 1 rfl (WL_idx sl29h h2 v1 rfl rfl rfl fun q1 o1 s1 kk1 _ r1 => ?_)))))))
   cases r1
   refine zV (zF kf63_0 rfl) rfl (zV (zL kn3 rfl (hS.sat.cell (kk1 0 _ rfl))) rfl (wr 1 rfl ?_))
   rcases bcases (evt.Strip != st) with q1 | q1
   ·refine zV (tb_neq q1 rfl rfl) rfl (zN (WC_condT true rfl rfl (WC_exit rfl ?_)))
    have q2 : (La.stp x.Book j != st) = true := by rw [← v3]; exact q1
    have q3 : (La.stp x.Book j == st) = false := by rw [bne] at q2; simpa using q2
    rw [if_pos q2] at asu
    have tw : La.twA x.Book (La.yv ys) st (j + 1) = La.twA x.Book (La.yv ys) st j := by
     show (La.twA x.Book (La.yv ys) st j || (La.stp x.Book j == st && (La.allA x.Book st j).any fun k => La.yv ys k == La.yv ys j)) = _
     rw [q3, Bool.false_and, Bool.or_false]
    rw [asu, tw]
    exact ⟨_, G, aa, ca, cells, zu _ _ ⟨rfl, rfl, rfl, rfl, rfl, rfl, rfl, rfl, rfl, rfl, rfl, rfl, trivial⟩, le5, hS, hO, hrd2⟩
   ·refine zV (tb_neq q1 rfl rfl) rfl (zN (WC_condF false rfl rfl (zP ?_)))
    have q2 : (La.stp x.Book j != st) = false := by rw [← v3]; exact q1
    have q3 : (La.stp x.Book j == st) = true := by rw [bne] at q2; simpa using q2
    rw [if_neg (by rw [q2]; decide)] at asu
    have asl : (La.allA x.Book st (j + 1)).length = (La.allA x.Book st j).length + 1 := by rw [asu]; simp
    have tw : La.twA x.Book (La.yv ys) st (j + 1) = (La.twA x.Book (La.yv ys) st j || (La.allA x.Book st j).any fun k => La.yv ys k == La.yv ys j) := by
     show (La.twA x.Book (La.yv ys) st j || (La.stp x.Book j == st && (La.allA x.Book st j).any fun k => La.yv ys k == La.yv ys j)) = _
     rw [q3, Bool.true_and]
    refine zQ (zQ (zR (zV (zA (v := iV 0) rfl) rfl (zN ?_))))
    refine zb (WC_loopI (WI_rounds (La.allA x.Book st j).length (fun k F w => ∃ Fb, F = upds Fb [(1, .slice ay ny cy), (2, iV st), (3, iV (f0 : Int)), (4, iV (t0 : Int)), (5, iV ot), (6, pV b6), (13, pV b), (17, .slice ra rn rc), (19, iV rl.2.2), (20, .slice aa (La.allA x.Book st j).length ca), (21, .bool (La.twA x.Book (La.yv ys) st j || ((La.allA x.Book st j).take k).any fun k => La.yv ys k == La.yv ys j)), (22, iV (j : Int)), (23, iV (k : Int))] ∧
     Since w0.heap.size G0 w0 G w ∧ Owns G w w0.heap.size [⟨3, 1, (La.allA x.Book st j).length, .slice aa (La.allA x.Book st j).length ca, cells⟩, rowC b cc1, rowA n (.slice ad n cp) ac]) ?_ ?_ (La.allA x.Book st j).length 0 _ _ (by omega)
     ⟨_, zu _ _ ⟨rfl, rfl, rfl, rfl, rfl, rfl, rfl, rfl, rfl, rfl, by show Value.bool _ = _; rw [List.take_zero, List.any_nil, Bool.or_false], rfl, rfl, trivial⟩, hS, hO⟩))
    ·rintro k F w hk ⟨Fb, rfl, hS, hO⟩
     obtain ⟨e, he⟩ : ∃ e, (La.allA x.Book st j)[k]? = some e := ⟨_, List.getElem?_eq_getElem hk⟩
     have hej := (La.mem_allA.1 (List.mem_of_getElem? he)).1
     obtain ⟨z1, z2, z3⟩ := yat e (by omega)
     have tk : (La.allA x.Book st j).take (k + 1) = (La.allA x.Book st j).take k ++ [e] := La.take_snoc he
     refine zQ (zQ (zR (wr 2 rfl (zV (rn_len (m := (La.allA x.Book st j).length) sl24h rfl rfl rfl) rfl (zV (tb_lss (q := true) (by simp only [decide_eq_true_eq]; omega) rfl rfl) rfl (zN (WC_condT true rfl rfl (zP ?_))))))))
     have hS := hS.keep (below_drew w)
     have hO := hO.below (below_drew w)
     have new : (La.twA x.Book (La.yv ys) st j || ((La.allA x.Book st j).take (k + 1)).any fun k => La.yv ys k == La.yv ys j) = ((La.twA x.Book (La.yv ys) st j || ((La.allA x.Book st j).take k).any fun k => La.yv ys k == La.yv ys j) || (La.yv ys e == La.yv ys j)) := by
      rw [tk, List.any_append, List.any_cons, List.any_nil, Bool.or_false, Bool.or_assoc]
     generalize (La.twA x.Book (La.yv ys) st j || ((La.allA x.Book st j).take k).any fun k => La.yv ys k == La.yv ys j) = q0 at new
     refine zQ (zb (zM (fun F w => ∃ Fb, F = upds Fb [(1, .slice ay ny cy), (2, iV st), (3, iV (f0 : Int)), (4, iV (t0 : Int)), (5, iV ot), (6, pV b6), (13, pV b), (17, .slice ra rn rc), (19, iV rl.2.2), (20, .slice aa (La.allA x.Book st j).length ca), (21, .bool (q0 || (La.yv ys e == La.yv ys j))), (22, iV (j : Int)), (23, iV (k : Int))] ∧
      Since w0.heap.size G0 w0 G w ∧ Owns G w w0.heap.size [⟨3, 1, (La.allA x.Book st j).length, .slice aa (La.allA x.Book st j).length ca, cells⟩, rowC b cc1, rowA n (.slice ad n cp) ac])
      (WC_regionD mixedO (fun _ w => Sat G w ∧ Owns G w w0.heap.size [⟨3, 1, (La.allA x.Book st j).length, .slice aa (La.allA x.Book st j).length ca, cells⟩, rowC b cc1, rowA n (.slice ad n cp) ac]) (.fl 0 (.fl 1 (.fl 2 (.fl 3 (.fl 4 (.fl 5 (.fl 6 (.fl 7 (.fl 8 (.fl 9 (.fl 10 (.fl 11 (.fl 12 (.fl 13 (.fl 14 (.fl 15 .nil)))))))))))))))) (by kernel_rfl) rfl (by kernel_rfl) (fun _ => ⟨hS.sat, hO⟩) ?_) ?_))
     ·refine zD rfl (fun w hw => zm rfl) rfl (zD rfl (fun w hw => zm rfl) rfl ?_)
      cases q0 with
      | true =>
       refine zK rfl rfl rfl rfl rfl rfl (zK rfl rfl rfl rfl rfl rfl (zK rfl rfl rfl rfl rfl rfl (zK rfl rfl rfl rfl rfl rfl (zK rfl rfl rfl rfl rfl rfl (zK rfl rfl rfl rfl rfl rfl (zK rfl rfl rfl rfl rfl rfl (zK rfl rfl rfl rfl rfl rfl (zK rfl rfl rfl rfl rfl rfl (zK rfl rfl rfl rfl rfl rfl (zK rfl rfl rfl rfl rfl rfl (zK rfl rfl rfl rfl rfl rfl (?_))))))))))))
       refine zD rfl (fun w hw => rn_pickT (v := .bool true) rfl rfl rfl) rfl (zD rfl (fun w hw => zA (v := .bool true) rfl) rfl (zI ?_))
       exact ⟨_, zu _ _ ⟨rfl, rfl, rfl, rfl, rfl, rfl, rfl, rfl, rfl, rfl, rfl, rfl, rfl, trivial⟩, hS, hO⟩
      | false =>
       refine zB rfl rfl rfl rfl rfl (fun w hw => zm rfl) rfl (zB rfl rfl rfl rfl rfl (fun w hw => zm rfl) rfl (zB rfl rfl rfl rfl rfl (fun w hw => zm rfl) rfl (WD_idxOY rfl rfl rfl rfl rfl sl24h hO (k := 0) rfl (La.cast_len _).symm hrd2 (La.cast_ix he) rfl rfl rfl fun q1 o1 s1 ha _ kk1 r1 => ?_)))
       cases r1
       refine zB rfl rfl rfl rfl rfl (fun w hw => zL kn3 rfl (own_cellB hw.2 (k := 0) rfl ha _ 0 (kk1 0 _ rfl))) rfl (WD_idxY rfl rfl rfl rfl rfl sl24h hy z1 rfl rfl rfl fun q2 o2 s2 kk2 _ r2 => ?_)
       cases r2
       refine zB rfl rfl rfl rfl rfl (fun w hw => zL kn3 rfl (hw.1.cell (kk2 0 _ rfl))) rfl (zB rfl rfl rfl rfl rfl (fun w hw => zm rfl) rfl (zB rfl rfl rfl rfl rfl (fun w hw => zm rfl) rfl (WD_idxY rfl rfl rfl rfl rfl sl24h hy y1 rfl rfl rfl fun q3 o3 s3 kk3 _ r3 => ?_)))
       cases r3
       refine zB rfl rfl rfl rfl rfl (fun w hw => zL kn3 rfl (hw.1.cell (kk3 0 _ rfl))) rfl (zB rfl rfl rfl rfl rfl (fun w hw => rn_eql rfl rfl) rfl ?_)
       refine zD rfl (fun w hw => rn_pickF (v := .bool (La.yv ys e == La.yv ys j)) rfl rfl rfl) rfl (zD rfl (fun w hw => zA (v := .bool (La.yv ys e == La.yv ys j)) rfl) rfl (zI ?_))
       exact ⟨_, zu _ _ ⟨rfl, rfl, rfl, rfl, rfl, rfl, rfl, rfl, rfl, rfl, rfl, rfl, rfl, trivial⟩, hS, hO⟩
     ·rintro F w ⟨Fb, rfl, hS, hO⟩
      refine zR (wr 1 rfl (zV (tb_add (r := ((k + 1 : Nat) : Int)) (by rw [IntKind.wrap_i64]; omega) rfl rfl) rfl (zV (zA (v := iV ((k + 1 : Nat) : Int)) rfl) rfl (zN ?_))))
      rw [new]
      exact ⟨_, zu _ _ ⟨rfl, rfl, rfl, rfl, rfl, rfl, rfl, rfl, rfl, rfl, rfl, rfl, rfl, trivial⟩, hS, hO⟩
    ·rintro F w ⟨Fb, rfl, hS, hO⟩
     refine WI_step (zQ (zQ (zR (wr 2 rfl (zV (rn_len (m := (La.allA x.Book st j).length) sl24h rfl rfl rfl) rfl (zV (tb_lss (q := false) (by simp only [decide_eq_false_iff_not]; omega) rfl rfl) rfl (zN (WC_condF false rfl rfl (WC_exit rfl ?_)))))))))
     rw [List.take_length, ← tw]
     refine zR (wr 2 rfl ?_)
     refine zO rfl (OpP_newF (v := fun b => .slice (some ⟨b, 0, none⟩) 1 1) (cs := [iV (j : Int)]) (e := 3) (by kernel_rfl) hS.sat rfl fun bq G6 w6 hg6 hcq => ?_)
     have hS := hS.grow hg6
     have hO := hO.grow hg6
     refine zO rfl (OpP_append (k := 0) sl24h RInt_one hS hO rfl (La.cast_len _).symm (hrd2.mono RInt_mono hg6.le) (RSl.of_rd hcq (Rd.cons (c := [iV (j : Int)]) rfl rfl (Rd.nil _ _ _)) rfl (show 1 ≤ maxLen by decide)) (app_s (La.castL (La.allA x.Book st j)) [(j : Int)] (by rw [La.cast_len]; simp; omega)) rfl rfl rfl rfl rfl fun a9 c9 w9 ac9 hS hO hr9 => ?_)
     have hzl : (La.castL (La.allA x.Book st j) ++ [(j : Int)]).length = (La.allA x.Book st (j + 1)).length := by rw [List.length_append, La.cast_len, asl]; rfl
     have hcl : La.castL (La.allA x.Book st j) ++ [(j : Int)] = La.castL (La.allA x.Book st (j + 1)) := by rw [asu]; unfold La.castL; rw [List.map_append]; rfl
     rw [hzl] at hO ⊢
     rw [hcl] at hr9
     refine zV (zA (v := .slice a9 (La.allA x.Book st (j + 1)).length c9) rfl) rfl (zN ?_)
     exact ⟨_, G6, a9, c9, ac9, zu _ _ ⟨rfl, rfl, rfl, rfl, rfl, rfl, rfl, rfl, rfl, rfl, rfl, rfl, trivial⟩, le5.trans hg6.le, hS, hO, hr9⟩
  ·rintro F w ⟨Fb, G, aa, ca, cells, rfl, le6, hS, hO, hrd2⟩
   refine zR (wr 1 rfl (zV (tb_add (r := ((j + 1 : Nat) : Int)) (by rw [IntKind.wrap_i64]; omega) rfl rfl) rfl (zV (zA (v := iV ((j + 1 : Nat) : Int)) rfl) rfl (zN ?_))))
   exact ⟨_, G, aa, ca, cells, zu _ _ ⟨rfl, rfl, rfl, rfl, rfl, rfl, rfl, rfl, rfl, rfl, rfl, rfl, trivial⟩, le6, hS, hO, hrd2⟩
 rintro F w ⟨Fb, G, aa, ca, cells, rfl, le5, hS, hO, hrd2⟩
 have hy := hy.mono RInt_mono le5
 refine WI_step (zQ (zQ (zR (wr 2 rfl (zV (rn_len (m := ys.length) sl24h rfl rfl hy.1) rfl (zV (tb_lss (q := false) (by simp only [decide_eq_false_iff_not]; omega) rfl rfl) rfl (zN (WC_condF false rfl rfl (WC_exit rfl ?_)))))))))
 have ls : Gle G2 G := le4.trans le5
 have h1 := h1.mono RTLandPerson_mono ls
 have h2 := h2.mono RTLandEvent_mono ls
 have h3 := h3.mono RTLandMemory_mono ls
 have bkc : ∀ {w : World}, Sat G w → ∀ (j : Nat) v, [Value.slice a1 n1 c1, .slice a2 n2 c2, .slice a3 n3 c3][j]? = some v → w.cell? ⟨b6, 0 + 17 + j, none⟩ = some v := fun hw j v hj => bkc (hw.le ls) j v hj
 have hrl := hrl.mono RInt_mono le5
 refine zQ (zM (fun F w => ∃ Fb, F = upds Fb [(1, .slice ay ny cy), (3, iV (f0 : Int)), (4, iV (t0 : Int)), (5, iV ot), (13, pV b)] ∧ Since w0.heap.size G0 w0 G w ∧ Owns G w w0.heap.size [rowC b cc1, rowA n (.slice ad n cp) ac]) ?_ ?_)
 ·refine zQ (zR (zV (zm (v := .bool (La.twA x.Book (La.yv ys) st (n + 1))) rfl) rfl (zN ?_)))
  rcases hline with ⟨htw, rfl⟩ | ⟨htw, L, fo, rfl, hL1, hL2, hL3⟩
  ·refine WC_condT _ htw rfl (zQ (zR (wr 1 rfl (zV (tb_neq (q := false) (by decide) rfl rfl) rfl (wr 2 rfl (zY rfl rfl rfl rfl (zV (rn_len (m := 0) sl24h rfl rfl hrl.1) rfl (zY rfl rfl rfl rfl (zV (tb_neq (q := false) (by decide) rfl rfl) rfl (wr 1 rfl (zN (WC_condF false rfl rfl (zP ?_)))))))))))))
   exact ⟨_, zu _ _ ⟨rfl, rfl, rfl, rfl, rfl, trivial⟩, hS, hO.drop 0⟩
  ·refine WC_condF _ htw rfl (zQ (zQ (zR (wr 1 rfl (zV (tb_neq (q := false) rfl rfl rfl) rfl (wr 2 rfl (zY rfl rfl rfl rfl (zV (rn_len (m := L.length) sl24h rfl rfl (hrl.1.trans (La.cast_len L))) rfl (wr 1 rfl (zY rfl rfl rfl rfl (zV (rn_len (m := (La.allA x.Book st (n + 1)).length) sl24h rfl rfl rfl) rfl
    (zY rfl rfl rfl rfl (zV (tb_neq (q := false) (by rw [hL1]; simp) rfl rfl) rfl (wr 1 rfl (zN (WC_condF false rfl rfl (zP ?_)))))))))))))))))
   refine zQ (zR (zV (zA (v := iV 0) rfl) rfl (zN ?_)))
   refine zb (WC_loopI (WI_rounds L.length (fun k F w => ∃ Fb, F = upds Fb [(1, .slice ay ny cy), (2, iV st), (3, iV (f0 : Int)), (4, iV (t0 : Int)), (5, iV ot), (6, pV b6), (13, pV b), (17, .slice ra rn rc), (24, iV (k : Int))] ∧ Since w0.heap.size G0 w0 G w ∧ Owns G w w0.heap.size [⟨3, 1, (La.allA x.Book st (n + 1)).length, .slice aa (La.allA x.Book st (n + 1)).length ca, cells⟩, rowC b cc1, rowA n (.slice ad n cp) ac]) ?_ ?_ L.length 0 _ _ (by omega)
    ⟨_, zu _ _ ⟨rfl, rfl, rfl, rfl, rfl, rfl, rfl, rfl, rfl, trivial⟩, hS, hO⟩))
   ·rintro k F w hk ⟨Fb, rfl, hS, hO⟩
    obtain ⟨e, he⟩ : ∃ e, L[k]? = some e := ⟨_, List.getElem?_eq_getElem hk⟩
    obtain ⟨he1, he2⟩ := hL2 e (List.mem_of_getElem? he)
    obtain ⟨z1, z2, z3⟩ := yat e he1
    obtain ⟨evt, v1, v2, v3, v4⟩ := La.event_at okb (e := e) (by omega)
    refine zQ (zQ (zR (wr 2 rfl (zV (rn_len (m := L.length) sl24h rfl rfl (hrl.1.trans (La.cast_len L))) rfl (zV (tb_lss (q := true) (by simp only [decide_eq_true_eq]; omega) rfl rfl) rfl (zN (WC_condT true rfl rfl (zP ?_))))))))
    have hS := hS.keep (below_drew w)
    have hO := hO.below (below_drew w)
    refine zQ (zb (zQ (zM (fun F w => ∃ Fb, F = upds Fb [(1, .slice ay ny cy), (2, iV st), (3, iV (f0 : Int)), (4, iV (t0 : Int)), (5, iV ot), (6, pV b6), (13, pV b), (17, .slice ra rn rc), (24, iV (k : Int)), (233, .bool false)] ∧ Since w0.heap.size G0 w0 G w ∧ Owns G w w0.heap.size [⟨3, 1, (La.allA x.Book st (n + 1)).length, .slice aa (La.allA x.Book st (n + 1)).length ca, cells⟩, rowC b cc1, rowA n (.slice ad n cp) ac])
     (WC_regionD mixedO (fun _ w => Sat G w) (.fl 0 (.fl 1 (.fl 2 (.fl 3 (.fl 4 (.fl 5 (.on 6 (.fl 7 (.fl 8 (.fl 9 (.fl 10 (.fl 11 (.fl 12 (.fl 13 (.fl 14 (.fl 15 (.fl 16 (.fl 17 (.fl 18 (.fl 19 (.fl 20 (.fl 21 (.fl 22 (.fl 23 (.fl 24 (.fl 25 (.fl 26 (.fl 27 (.fl 28 (.fl 29 (.fl 30 (.fl 31 (.fl 32 (.fl 33 (.fl 34 (.fl 35 (.fl 36 (.fl 37 (.fl 38 (.fl 39 (.fl 40 (.fl 41 (.fl 42 (.fl 43 .nil)))))))))))))))))))))))))))))))))))))))))))) (by kernel_rfl) rfl (by kernel_rfl) (fun _ => hS.sat) ?_) ?_)))
    ·refine zD rfl (fun w hw => zF fd49_2 rfl) rfl (zD rfl (fun w hw => rn_loadA (cs := [.slice a1 n1 c1, .slice a2 n2 c2, .slice a3 n3 c3]) ag32 rfl rfl (bkc hw)) rfl (zD rfl (fun w hw => zm rfl) rfl (zD rfl (fun w hw => zm rfl) rfl (WD_idx rfl sl24h hrl (La.cast_ix he) rfl rfl rfl fun q1 o1 s1 kk1 _ r1 => ?_))))
     cases r1
     refine zD rfl (fun w hw => zL kn3 rfl (hw.cell (kk1 0 _ rfl))) rfl ?_
     refine zE rfl rfl (zC cb8c (f8_ok (r := true) hS.sat h1 h2 h3 (by rw [La.f8_eq x.Book (e : Int) k2, La.inR_iff.2 (by omega)])) rfl rfl fun w hb => ⟨fun _ _ => (hS.keep hb).sat, ?_⟩)
     have hS := hS.keep hb
     have hO := hO.below hb
     refine zD rfl (fun w hw => tb_not (b := true) (q := false) rfl rfl) rfl (zD (v := .bool false) rfl (fun w hw => zm rfl) rfl (zB rfl rfl rfl rfl rfl (fun w hw => zF fd49_2 rfl) rfl (zB rfl rfl rfl rfl rfl (fun w hw => zF fd32_1h rfl) rfl (zB rfl rfl rfl rfl rfl (fun w hw => zL na29h rfl (bkc hw 1 _ rfl)) rfl
      (zB rfl rfl rfl rfl rfl (fun w hw => zm rfl) rfl (zB rfl rfl rfl rfl rfl (fun w hw => zm rfl) rfl (WD_idxY rfl rfl rfl rfl rfl sl24h hrl (La.cast_ix he) rfl rfl rfl fun q1 o1 s1 kk1 _ r1 => ?_)))))))
     cases r1
     refine zB rfl rfl rfl rfl rfl (fun w hw => zL kn3 rfl (hw.cell (kk1 0 _ rfl))) rfl (WD_idxY rfl rfl rfl rfl rfl sl29h h2 v1 rfl rfl rfl fun q2 o2 s2 kk2 _ r2 => ?_)
     cases r2
     refine zB rfl rfl rfl rfl rfl (fun w hw => zF kf63_0 rfl) rfl (zB rfl rfl rfl rfl rfl (fun w hw => zL kn3 rfl (hw.cell (kk2 0 _ rfl))) rfl (zB rfl rfl rfl rfl rfl (fun w hw => zm rfl) rfl (zB rfl rfl rfl rfl rfl (fun w hw => tb_neq (q := false) (by rw [v3, he2]; simp) rfl rfl) rfl
      (zD rfl (fun w hw => rn_pickF (v := .bool false) rfl rfl rfl) rfl (zD (v := .bool false) rfl (fun w hw => zm rfl) rfl (zB rfl rfl rfl rfl rfl (fun w hw => zm rfl) rfl ?_))))))
     rcases Nat.eq_zero_or_pos k with hk0 | hk0
     ·refine zB rfl rfl rfl rfl rfl (fun w hw => tb_gtr (q := false) (by rw [hk0]; rfl) rfl rfl) rfl (zB rfl rfl rfl rfl rfl (fun w hw => zm rfl) rfl (zK rfl rfl rfl rfl rfl rfl (zK rfl rfl rfl rfl rfl rfl (zK rfl rfl rfl rfl rfl rfl (zK rfl rfl rfl rfl rfl rfl (zK rfl rfl rfl rfl rfl rfl (zK rfl rfl rfl rfl rfl rfl (zK rfl rfl rfl rfl rfl rfl (zK rfl rfl rfl rfl rfl rfl (zK rfl rfl rfl rfl rfl rfl (zK rfl rfl rfl rfl rfl rfl (zK rfl rfl rfl rfl rfl rfl (zK rfl rfl rfl rfl rfl rfl (zK rfl rfl rfl rfl rfl rfl (zK rfl rfl rfl rfl rfl rfl (zK rfl rfl rfl rfl rfl rfl (zK rfl rfl rfl rfl rfl rfl (?_))))))))))))))))))
      refine zB rfl rfl rfl rfl rfl (fun w hw => rn_pickF (v := .bool false) rfl rfl rfl) rfl (zD rfl (fun w hw => rn_pickF (v := .bool false) rfl rfl rfl) rfl (zI ?_))
      exact ⟨_, zu _ _ ⟨rfl, rfl, rfl, rfl, rfl, rfl, rfl, rfl, rfl, rfl, trivial⟩, hS, hO⟩
     ·obtain ⟨k', rfl⟩ : ∃ k', k = k' + 1 := ⟨k - 1, by omega⟩
      obtain ⟨e', he'⟩ : ∃ e', L[k']? = some e' := ⟨_, List.getElem?_eq_getElem (by omega)⟩
      obtain ⟨he3, he4⟩ := hL2 e' (List.mem_of_getElem? he')
      obtain ⟨z4, z5, z6⟩ := yat e' he3
      have hlt : La.yv ys e' < La.yv ys e := by
       have h7 := List.pairwise_iff_getElem.1 hL3 k' (k' + 1) (by omega) hk (by omega)
       rw [List.getElem?_eq_getElem hk, Option.some.injEq] at he
       rw [List.getElem?_eq_getElem (by omega), Option.some.injEq] at he'
       rw [he, he'] at h7
       exact h7
      refine zB rfl rfl rfl rfl rfl (fun w hw => tb_gtr (q := true) (by simp only [decide_eq_true_eq]; omega) rfl rfl) rfl (zB rfl rfl rfl rfl rfl (fun w hw => zm rfl) rfl (zB rfl rfl rfl rfl rfl (fun w hw => zm rfl) rfl (zB rfl rfl rfl rfl rfl (fun w hw => zm rfl) rfl (zB rfl rfl rfl rfl rfl (fun w hw => zm rfl) rfl
       (WD_idxY rfl rfl rfl rfl rfl sl24h hrl (La.cast_ix he) rfl rfl rfl fun q1 o1 s1 kk1 _ r1 => ?_)))))
      cases r1
      refine zB rfl rfl rfl rfl rfl (fun w hw => zL kn3 rfl (hw.cell (kk1 0 _ rfl))) rfl (WD_idxY rfl rfl rfl rfl rfl sl24h hy z1 rfl rfl rfl fun q2 o2 s2 kk2 _ r2 => ?_)
      cases r2
      refine zB rfl rfl rfl rfl rfl (fun w hw => zL kn3 rfl (hw.cell (kk2 0 _ rfl))) rfl (zB rfl rfl rfl rfl rfl (fun w hw => zm rfl) rfl (zB rfl rfl rfl rfl rfl (fun w hw => zm rfl) rfl (zB rfl rfl rfl rfl rfl (fun w hw => zm rfl) rfl
       (zB rfl rfl rfl rfl rfl (fun w hw => tb_sub (r := (k' : Int)) (by rw [IntKind.wrap_i64]; have := hL1; have := La.allA_len x.Book st (n + 1); omega) rfl rfl) rfl (WD_idxY rfl rfl rfl rfl rfl sl24h hrl (La.cast_ix he') rfl rfl rfl fun q3 o3 s3 kk3 _ r3 => ?_)))))
      cases r3
      refine zB rfl rfl rfl rfl rfl (fun w hw => zL kn3 rfl (hw.cell (kk3 0 _ rfl))) rfl (WD_idxY rfl rfl rfl rfl rfl sl24h hy z4 rfl rfl rfl fun q4 o4 s4 kk4 _ r4 => ?_)
      cases r4
      refine zB rfl rfl rfl rfl rfl (fun w hw => zL kn3 rfl (hw.cell (kk4 0 _ rfl))) rfl (zB rfl rfl rfl rfl rfl (fun w hw => tb_leq (q := false) (by simp only [decide_eq_false_iff_not]; omega) rfl rfl) rfl ?_)
      refine zB rfl rfl rfl rfl rfl (fun w hw => rn_pickT (v := .bool false) rfl rfl rfl) rfl (zD rfl (fun w hw => rn_pickF (v := .bool false) rfl rfl rfl) rfl (zI ?_))
      exact ⟨_, zu _ _ ⟨rfl, rfl, rfl, rfl, rfl, rfl, rfl, rfl, rfl, rfl, trivial⟩, hS, hO⟩
    ·rintro F w ⟨Fb, rfl, hS, hO⟩
     refine WC_condF false rfl rfl (zP (zR (wr 1 rfl (zV (tb_add (r := ((k + 1 : Nat) : Int)) (by rw [IntKind.wrap_i64]; have := hL1; have := La.allA_len x.Book st (n + 1); omega) rfl rfl) rfl (zV (zA (v := iV ((k + 1 : Nat) : Int)) rfl) rfl (zN ?_))))))
     exact ⟨_, zu _ _ ⟨rfl, rfl, rfl, rfl, rfl, rfl, rfl, rfl, rfl, trivial⟩, hS, hO⟩
   ·rintro F w ⟨Fb, rfl, hS, hO⟩
    refine WI_step (zQ (zQ (zR (wr 2 rfl (zV (rn_len (m := L.length) sl24h rfl rfl (hrl.1.trans (La.cast_len L))) rfl (zV (tb_lss (q := false) (by simp only [decide_eq_false_iff_not]; omega) rfl rfl) rfl (zN (WC_condF false rfl rfl (WC_exit rfl ?_)))))))))
    exact ⟨_, zu _ _ ⟨rfl, rfl, rfl, rfl, rfl, trivial⟩, hS, hO.drop 0⟩
 rintro F w ⟨Fb, rfl, hS, hO⟩
 obtain ⟨z1, z2, z3⟩ := yat t0 ht0
 obtain ⟨z4, z5, z6⟩ := yat f0 hf0
 have hS := hS.keep (below_drew w)
 have hO := hO.below (below_drew w)
 refine zQ (WC_regionD mixedO (fun _ w => Sat G w) (.fl 0 (.fl 1 (.fl 2 (.fl 3 (.fl 4 (.fl 5 (.fl 6 (.fl 7 (.fl 8 (.fl 9 .nil)))))))))) (by kernel_rfl) rfl (by kernel_rfl) (fun _ => hS.sat) ?_)
 refine zD rfl (fun w hw => zm rfl) rfl (zD rfl (fun w hw => zm rfl) rfl (WD_idx rfl sl24h hy z1 rfl rfl rfl fun q1 oo1 s1 kk1 _ r1 => ?_))
 cases r1
 refine zD rfl (fun w hw => zL kn3 rfl (hw.cell (kk1 0 _ rfl))) rfl (zD rfl (fun w hw => zm rfl) rfl (zD rfl (fun w hw => zm rfl) rfl (WD_idx rfl sl24h hy z4 rfl rfl rfl fun q2 oo2 s2 kk2 _ r2 => ?_)))
 cases r2
 refine zD rfl (fun w hw => zL kn3 rfl (hw.cell (kk2 0 _ rfl))) rfl (zD rfl (fun w hw => tb_sub (r := La.yv ys t0 - La.yv ys f0) (by rw [IntKind.wrap_i64]; omega) rfl rfl) rfl (zD rfl (fun w hw => zA (v := iV (La.yv ys t0 - La.yv ys f0)) rfl) rfl (zI ?_)))
 refine zQ (zR (wr 5 rfl (zV (v := .agg #[iV ot, iV ot]) (by kernel_rfl) rfl (zV (v := .agg (mC (La.exM (f0 : Int) (t0 : Int) ot)).toArray) (by kernel_rfl) rfl ?_))))
 obtain ⟨p1, p2⟩ := La.heard_more okb htr hn hm9 hf0 ht0 (by omega) (o := ot) ⟨g8, g9⟩
 have hcs := hcs.grow' le5
 have e31 : f31 (La.moreB (La.tellB x.Book (La.yv ys) n) (La.exM (f0 : Int) (t0 : Int) ot)) = some (if ot = La.yv ys t0 - La.yv ys f0 then (La.earlyL (La.moreB (La.tellB x.Book (La.yv ys) n) (La.exM (f0 : Int) (t0 : Int) ot)), 0) else ([], 7)) := by
  rw [La.f31_eq _ (by show (La.tellB x.Book (La.yv ys) n).People.length ≤ 1000; rw [tp]; exact k1) (by show (La.tellB x.Book (La.yv ys) n).Events.length ≤ 1000; rw [te]; exact k2) (by show ((La.tellB x.Book (La.yv ys) n).Memories ++ [_]).length ≤ 1000; simp; omega), if_pos p1, p2]
  by_cases h : ot = La.yv ys t0 - La.yv ys f0
  ·rw [if_pos (by simpa using h), if_pos h]
  ·rw [if_neg (by simpa using h), if_neg h]
 refine zO rfl (OpP_lent (fi := []) (al := [pV b, .agg (mC (La.exM (f0 : Int) (t0 : Int) ot)).toArray]) (ca := []) cb10c (f10_ok (x := La.exM (f0 : Int) (t0 : Int) ot) hS hO h2B hcs (by omega) hxs (hrd.mono RAct_mono le5) (by omega)
  ((f26_some _ (by show _ ≤ _; rw [tp]; exact k1) (by show _ ≤ _; rw [te]; exact k2) (by show 1 ≤ 1000; decide)).trans (by rw [if_pos (La.alone_ok o1 (La.exM_ok (by rw [te]; omega) (by rw [te]; omega) (by omega) ⟨g8, g9⟩))])) e31) rfl rfl rfl fun v G5 w5 L5 le6 hS hO hv => ?_)
 obtain ⟨q, hq2, rfl⟩ : ∃ q : Bool, (ot == La.yv ys t0 - La.yv ys f0) = q ∧ v = iV (cond q 0 7) := by
  refine ⟨_, rfl, ?_⟩
  by_cases h : ot = La.yv ys t0 - La.yv ys f0
  ·rw [if_pos h] at hv
   rcases hv with ⟨h0, _⟩ | ⟨_, rfl, _⟩
   ·exact absurd rfl h0
   ·rw [show (ot == La.yv ys t0 - La.yv ys f0) = true by simpa using h]; rfl
  ·rw [if_neg h] at hv
   rcases hv with ⟨_, rfl, _⟩ | ⟨h0, _⟩
   ·rw [show (ot == La.yv ys t0 - La.yv ys f0) = false by simpa using h]; rfl
   ·exact absurd h0 (by decide)
 refine zV (zA (v := iV (cond q 0 7)) rfl) rfl (zN (zQ (zR ?_)))
 refine wr 1 rfl (zV (tb_eql (q := q) (by cases q <;> rfl) rfl rfl) rfl (wr 2 rfl (zV (tb_eql (q := q) hq2 rfl rfl) rfl (zV (tb_eqlB (a := q) (b := q) (q := true) un4c (by simp) rfl rfl) rfl (wr 2 rfl ?_)))))
 cases q with
 | true =>
  refine zY rfl rfl rfl rfl (zV (tb_eql (q := true) rfl rfl rfl) rfl (wr 6 rfl (zY rfl rfl rfl rfl (zO rfl (zC cb9c (kn hS.below) rfl rfl fun w9 hb => zV (rn_pickT (v := .bool true) rfl rfl rfl) rfl (zV (zA (v := .bool true) rfl) rfl (zN (zr ?_))))))))
  exact ⟨rfl, (hS.keep hb).below⟩
 | false =>
  refine zY rfl rfl rfl rfl (zV (tb_eql (q := false) rfl rfl rfl) rfl (wr 2 rfl (zY rfl rfl rfl rfl (zV (tb_eql (q := true) rfl rfl rfl) rfl (wr 3 rfl (zY rfl rfl rfl rfl (zO rfl (zC cb9c (kn hS.below) rfl rfl fun w9 hb => zV (rn_pickT (v := .bool true) rfl rfl rfl) rfl (zV (zA (v := .bool true) rfl) rfl (zN (zr ?_)))))))))))
  exact ⟨rfl, (hS.keep hb).below⟩
end Go.Proofs.YtncjnffbdhckdaaGreatDoor
