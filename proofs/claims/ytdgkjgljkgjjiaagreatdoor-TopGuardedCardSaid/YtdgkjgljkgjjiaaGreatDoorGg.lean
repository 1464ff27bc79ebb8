/-
  The list of guards, with one less: slices.DeleteFunc over a copy.
-/
import Derived.Test.YtdgkjgljkgjjiaaGreatDoorGx
import Derived.Test.YtdgkjgljkgjjiaaGreatDoorPl
namespace Go.Proofs.YtdgkjgljkgjjiaaGreatDoor
open Go.RowKit
set_option linter.unusedVariables false
set_option maxRecDepth 20000
section
variable {κ : Ctx} {p : List PanicEntry → Fr → World → Prop} {P : Program} {N : Nat} {F : Fr} {w : World} {K : Fr → World → Prop} {ty : TypeId} {pos : String} {af : Array Edge} {gd : Option (Nat × Bool)} {G G0 : Gm} {w0 : World} {B : Nat} {L : List Row}
theorem OpP_effN {op : Op} {v : Value} {w' : World} (hrun : (execOp (ev F) ⟨none, op, ty, pos, af, gd⟩).run P w = .ok (.value v) w') (hk : Keeps κ.ex w w') (h : K F w') : OpP κ P N p ⟨none, op, ty, pos, af, gd⟩ F w K := by
  refine ⟨notDefer (fun _ h => by cases h) hrun, fun a wI h1 h3 => ?_⟩
  unfold Oper.wp
  rw [eval_frOf, h3, hrun]
  refine ⟨h1.put hk _ _, ?_⟩
  show K (frOf a) w'
  rw [h3]; exact h
/-- 'clear' of the end of a slice of the call's own -/
theorem OpP_clear {T e bytes k n cap g o off m cap' : Nat} {X : Operand} {cells : List Value} {z : Value}
    (hT : slB P T = some (e, 1, bytes)) (hz : ∀ w, (zeroValue e).run P w = .ok z w) (hz1 : z.cells = #[z]) (hone : z.oneCell' = true) (hS : Since B G0 w0 G w) (hO : Owns G w B L) (hk : L[k]? = some ⟨e, 1, n, .slice (some ⟨g, o, none⟩) n cap, cells⟩)
    (hX : ev F X = .slice (some ⟨g, o + off, none⟩) (m + 1) cap') (hfit : off + (m + 1) ≤ cells.length)
    (h : ∀ w', Since B G0 w0 G w' → Owns G w' B (L.set k ⟨e, 1, n, .slice (some ⟨g, o, none⟩) n cap, splice cells off (List.replicate (m + 1) z)⟩) → K F w') :
    OpP κ P N p ⟨none, .call { callee := .builtin .clear, args := #[X], argTypes := #[T] }, ty, pos, af, gd⟩ F w K := by
  have hc := hO.each _ (List.mem_of_getElem? hk)
  obtain ⟨w', hr, q1, q2, q3, q4, q5, q6⟩ := run_storeOwn (P := P) (ad := ⟨g, o + off, none⟩) (vs := List.replicate (m + 1) z) (hc.1 : ORow w B e 1 (.slice (some ⟨g, o, none⟩) n cap) n cells) rfl (by simpa using hfit) (fun u hu => by rw [List.eq_of_mem_replicate hu]; exact hone)
  have hdiff : ∀ b, b < w.heap.size → blkOf (Value.slice (some ⟨g, o, none⟩) n cap) ≠ some b → w'.heap[b]? = w.heap[b]? := fun b _ hne => q6 b (fun e => hne (by subst e; rfl))
  have hsat : Sat G w' := sat_write hS.sat hc hdiff
  have hbel : Below B w w' := ⟨q3, q4, q5, q2, fun b hb => q6 b (fun e => by have := (hc.lt (g := g) rfl).1; omega)⟩
  obtain ⟨ht, _⟩ := slB_spec hT
  refine OpP_effN (v := .tuple #[]) (w' := w') ?_ (keeps_row hc q2 hdiff) (h w' (hS.write hsat hbel) (hO.write hk q2 hdiff ⟨q1, hc.2⟩ fun g hg => .inl hg))
  have hzc : (Builtin.zeroCells z.cells (m + 1)).toList = List.replicate (m + 1) z := by
    rw [hz1]
    simp [Builtin.zeroCells]
    apply List.ext_getElem
    · simp
    · intro i h1 h2
      simp [Nat.mod_one]
  have hcl : ∀ ty, (Builtin.clear_ #[T] ty #[.slice (some ⟨g, o + off, none⟩) (m + 1) cap']).run P w = .ok (.tuple #[]) w' := fun ty => by
    simp [Builtin.clear_, run_underlying ht, hz, hzc, hr]
  simp only [execOp, resolve, invoke, builtin, Sem.run_bind, Sem.run_pure, Result.andThen_ok, List.map_toArray, List.map_cons, List.map_nil, hX, hcl]
end
theorem cb103c : callB Tryz.prog 103 = true := by kernel_rfl
theorem cb104c : callB Tryz.prog 104 = true := by kernel_rfl
theorem cb169c : callB Tryz.prog 169 = true := by kernel_rfl
theorem sz3c : szB Tryz.prog 3 = some 1 := by kernel_rfl
theorem zero3 (w : World) : (zeroValue 3).run Tryz.prog w = .ok (iV 0) w := by kernel_rfl
/-- whether a number is the one -/
theorem f104_ok {w0 : World} {d : Nat} {n x : Int} (hd : w0.cell? ⟨d, 0, none⟩ = some (iV n)) : Calls Tryz.prog 104 #[iV x, pV d] w0 (RetV w0 (.bool (x == n))) := by
  refine enter1 (N := 7) (shutV _ _) Tryz.func104 rfl rfl rfl rfl (WC_seq (WC_region (WL_val (rn_assign (v := .bool false) rfl) rfl (WL_nil (WC_seq (WC_region (wr 1 rfl (WL_val (rn_load na3c rfl hd) rfl (WL_val (rn_eql rfl rfl) rfl (wr 1 rfl (WL_nil (WC_ret ?_)))))))))))) 
  exact ⟨rfl, Below.refl _ _⟩
/-- where a number lies first -/
theorem f169_at {pre post : List Int} {x : Int} (hx : x ∉ pre) (hl : (pre ++ x :: post).length ≤ 1000) : f169 (pre ++ x :: post) (fun y => some (y == x)) = some (pre.length : Int) := by
  unfold f169
  have key : lp (f169_b0 (pre ++ x :: post) (fun y => some (y == x))) 0 = some (.inr (pre.length : Int)) := by
    have step : ∀ (d k : Nat), k + d = pre.length → lp (f169_b0 (pre ++ x :: post) (fun y => some (y == x))) (k : Int) = some (.inr (pre.length : Int)) := by
      intro d
      induction d with
      | zero =>
        intro k hk
        rw [lp_eq]
        unfold f169_b0
        have hk : k = pre.length := by omega
        subst hk
        rw [if_pos (by simp; omega), ix_nat, List.getElem?_append_right (Nat.le_refl _)]
        simp
      | succ d ih =>
        intro k hk
        have hlt : k < pre.length := by omega
        rw [lp_eq]
        unfold f169_b0
        rw [if_pos (by simp; omega), ix_nat, List.getElem?_append_left hlt, List.getElem?_eq_getElem hlt]
        have hne : (pre[k] == x) = false := by rw [beq_eq_false_iff_ne]; intro e; exact hx (e ▸ List.getElem_mem hlt)
        simp only [List.length_append, List.length_cons] at hl
        simp only [Option.bind_some, hne, Bool.false_eq_true, if_false]
        rw [wrap_nat hlt (by omega)]
        exact ih (k + 1) (by omega)
    exact step pre.length 0 (by omega)
  rw [key]
  rfl
/-- the list on the way: what is kept, then what was there -/
def mid (pre : List Int) (x : Int) (post : List Int) (t : Nat) : List Int := pre ++ post.take t ++ (x :: post).drop t
theorem mid_len (pre : List Int) (x : Int) (post : List Int) {t : Nat} (ht : t ≤ post.length) : (mid pre x post t).length = (pre ++ x :: post).length := by
  unfold mid
  simp only [List.length_append, List.length_take, List.length_drop, List.length_cons]
  omega
theorem mid_at (pre : List Int) (x : Int) (post : List Int) {t : Nat} (ht : t < post.length) : (mid pre x post t)[pre.length + 1 + t]? = some post[t] := by
  unfold mid
  rw [List.getElem?_append_right (by simp; omega), List.getElem?_drop]
  have : t + (pre.length + 1 + t - (pre ++ post.take t).length) = t + 1 := by simp; omega
  rw [this, List.getElem?_cons_succ, List.getElem?_eq_getElem ht]
theorem mid_set (pre : List Int) (x : Int) (post : List Int) {t : Nat} (ht : t < post.length) : (mid pre x post t).set (pre.length + t) post[t] = mid pre x post (t + 1) := by
  unfold mid
  have hl : pre.length + t = (pre ++ post.take t).length := by simp; omega
  have e : ((x :: post).drop t).set 0 post[t] = post[t] :: (x :: post).drop (t + 1) := by
    rw [List.drop_eq_getElem_cons (by simp; omega)]
    rfl
  rw [hl, List.set_append_right _ _ (Nat.le_refl _), Nat.sub_self, e, List.take_succ_eq_append_getElem ht]
  simp only [List.append_assoc, List.singleton_append]
theorem mid_all (pre : List Int) (x : Int) (post : List Int) : (mid pre x post post.length).take (pre ++ post).length = pre ++ post := by
  unfold mid
  rw [List.take_length, List.take_left]
section
variable {B : Nat} {G0 : Gm} {w0 : World} {Gc : Gm} {wc : World} {L : List Row} {a1 : Option Addr} {n1 c1 : Nat} {pre post : List Int} {x : Int}
theorem f103_ok {cells : List Value} (hS : Since B G0 w0 Gc wc) (hO : Owns Gc wc B (⟨3, 1, (pre ++ x :: post).length, .slice a1 (pre ++ x :: post).length c1, cells⟩ :: L)) (hrd : Rd RInt 1 Gc cells (pre ++ x :: post)) (hx : x ∉ pre) (hp : x ∉ post) (hl : (pre ++ x :: post).length ≤ 9) {d : Nat} (hd : Cells Gc d 0 [iV x]) :
    Calls Tryz.prog 103 [.slice a1 (pre ++ x :: post).length c1, .func (.func 104) #[] [pV d].toArray].toArray wc (RetO B G0 w0 Gc wc (fun G' L' v => L' = L ∧ ∃ a m c, v = .slice a m c ∧ RSl RInt 1 G' a m c (pre ++ post))) := by
  have hcl : ∀ {G : Gm} {w : World} (y : Int), Gle Gc G → Sat G w → Calls Tryz.prog 104 #[iV y, pV d] w (RetV w (.bool (y == x))) := fun y le hw => f104_ok (hw.cell (le.cell (hd 0 _ rfl)))
  have hn9 : pre.length + 1 + post.length ≤ 9 := by simpa [Nat.add_comm, Nat.add_left_comm] using hl
  have hN : (pre ++ x :: post).length = pre.length + 1 + post.length := by simp; omega
  refine enterL (N := 42) (rs := [.tmp 4]) hO.base Tryz.func103 rfl rfl rfl rfl (WC_seq (WC_region (wr 1 rfl (WL_nil (WC_seq (WC_region (wr 2 rfl ?_)))))))
  obtain ⟨Gs, les, hSs, _, hsl⟩ := hO.freezeS hS RInt_mono (k := 0) rfl hrd rfl
  refine WL_op rfl (OpP_callV cb169c (f169_ok hSs.sat (fi2 := []) (ca2 := [pV d]) hsl ⟨cb104c, fun G1 w1 hle hw y r hr => by cases hr; exact hcl y (les.trans hle) hw⟩ (f169_at hx (by omega))) rfl rfl fun w1 hb => ?_)
  have hS := hS.keep hb
  have hO := hO.below hb
  refine wr 1 rfl (WL_nil (WC_seq (WC_seq (WC_region (wr 1 rfl (WL_val (rn_eql rfl rfl) rfl (WL_nil (WC_condF ((pre.length : Int) == -1) (by rw [beq_eq_false_iff_ne]; omega) rfl (WC_skip ?_)))))))))
  refine WC_seq (WC_seq (WC_region (wr 3 rfl (WL_nil ?_))))
  have w1p : IntKind.i64.wrap ((pre.length : Int) + 1) = ((pre.length + 1 + 0 : Nat) : Int) := by rw [IntKind.wrap_i64]; omega
  refine WC_block (WC_loopI (WI_rounds post.length (fun t F w => ∃ Fb cells', F = upds Fb [(0, .slice a1 (pre ++ x :: post).length c1), (1, .func (.func 104) #[] [pV d].toArray), (5, iV ((pre.length + t : Nat) : Int)), (6, iV ((pre.length + 1 + t : Nat) : Int))] ∧ Since B G0 w0 Gc w ∧
    Owns Gc w B (⟨3, 1, (pre ++ x :: post).length, .slice a1 (pre ++ x :: post).length c1, cells'⟩ :: L) ∧ Rd RInt 1 Gc cells' (mid pre x post t)) ?_ ?_ post.length 0 _ _ (by omega) ⟨_, cells, upds_self _ _ ⟨rfl, rfl, rfl, congrArg iV w1p, trivial⟩, hS, hO, by simpa [mid] using hrd⟩))
  · rintro t F w ht ⟨Fb, cells', rfl, hS, hO, hrd⟩
    have hml : (pre ++ x :: post).length = (mid pre x post t).length := (mid_len pre x post (by omega)).symm
    have hv : ix (mid pre x post t) ((pre.length + 1 + t : Nat) : Int) = some post[t] := by rw [ix_nat]; exact mid_at pre x post ht
    refine WC_seq (WC_seq (WC_region (wr 2 rfl (WL_val (rn_len (m := (pre ++ x :: post).length) sl24c rfl rfl rfl) rfl (WL_val (rn_lss rfl rfl) rfl (WL_nil (WC_condT (decide (((pre.length + 1 + t : Nat) : Int) < ((pre ++ x :: post).length : Int))) (decide_eq_true (by omega)) rfl (WC_skip ?_))))))))
    refine WC_seq (WC_block (WC_seq (WC_region (wr 2 rfl ?_))))
    refine WL_idxO sl24c hO (k := 0) rfl hml hrd hv rfl rfl rfl ?_
    rintro b2 o2 _ hb2 _ hcb2 ⟨⟩
    refine WL_val (rn_load na3c rfl (own_cellB hO (k := 0) rfl hb2 _ 0 (hcb2 0 _ rfl))) rfl (wr 1 rfl (WL_nil (WC_seq (WC_region (wr 2 rfl ?_)))))
    refine WL_op rfl (OpP_callVF (fi := []) (al := [iV post[t]]) (ca := [pV d]) cb104c (hcl post[t] (Gle.refl _) hS.sat) rfl rfl rfl fun w3 hb3 => ?_)
    have hS := hS.keep hb3
    have hO := hO.below hb3
    have hne : (post[t] == x) = false := by rw [beq_eq_false_iff_ne]; intro e; exact hp (e ▸ List.getElem_mem ht)
    rw [hne]
    refine wr 1 rfl (WL_nil (WC_condT true rfl rfl (WC_seq (WC_region (wr 3 rfl ?_)))))
    obtain ⟨y0, hy0⟩ : ∃ y, ix (mid pre x post t) ((pre.length + t : Nat) : Int) = some y := ⟨_, by rw [ix_nat]; exact List.getElem?_eq_getElem (by omega)⟩
    refine WL_idxO sl24c hO (k := 0) rfl hml hrd hy0 rfl rfl rfl ?_
    rintro b4 o4 _ hb4 _ hcb4 ⟨⟩
    have hst : setIx (mid pre x post t) ((pre.length + t : Nat) : Int) post[t] = some (mid pre x post (t + 1)) := by
      unfold setIx
      rw [if_pos ⟨by omega, by omega⟩]
      exact congrArg some (mid_set pre x post ht)
    refine WL_op rfl (OpP_storeE (vs := [iV post[t]]) (cs := [iV y0]) (j := 0) (y := post[t]) sz3c hS hO (k := 0) rfl hml rfl hrd hb4 rfl hcb4 hst rfl rfl rfl rfl rfl (one_all rfl) (Nat.le_of_ble_eq_true rfl) (fun w5 cells5 hS hO hrd => ?_))
    have hO : Owns Gc w5 B (⟨3, 1, (pre ++ x :: post).length, .slice a1 (pre ++ x :: post).length c1, cells5⟩ :: L) := hO
    refine WL_nil (WC_region (wr 3 rfl (WL_nil (WC_region (wr 3 rfl (WL_nil ?_))))))
    have wi : IntKind.i64.wrap (((pre.length + t : Nat) : Int) + 1) = ((pre.length + (t + 1) : Nat) : Int) := by rw [IntKind.wrap_i64]; omega
    have wj : IntKind.i64.wrap (((pre.length + 1 + t : Nat) : Int) + 1) = ((pre.length + 1 + (t + 1) : Nat) : Int) := by rw [IntKind.wrap_i64]; omega
    exact ⟨_, cells5, upds_self _ _ ⟨rfl, rfl, congrArg iV wi, congrArg iV wj, trivial⟩, hS, hO, hrd⟩
  · rintro F w ⟨Fb, cells', rfl, hS, hO, hrd⟩
    have hml : (pre ++ x :: post).length = (mid pre x post post.length).length := (mid_len pre x post (Nat.le_refl _)).symm
    refine WI_step (WC_seq (WC_seq (WC_region (wr 2 rfl (WL_val (rn_len (m := (pre ++ x :: post).length) sl24c rfl rfl rfl) rfl (WL_val (rn_lss rfl rfl) rfl (WL_nil (WC_condF (decide (((pre.length + 1 + post.length : Nat) : Int) < ((pre ++ x :: post).length : Int))) (decide_eq_false (by omega)) rfl (WC_exit rfl ?_)))))))))
    obtain ⟨g, o, rfl⟩ : ∃ g o, a1 = some ⟨g, o, none⟩ := by
      obtain ⟨Gs, les, hSs, _, hsl⟩ := hO.freezeS hS RInt_mono (k := 0) rfl hrd hml
      obtain ⟨b, off, cs, h1, _⟩ := hsl.2.2 0 _ (List.getElem?_eq_getElem (by omega))
      exact ⟨b, off, h1⟩
    have hcap : (pre ++ x :: post).length ≤ c1 := by
      obtain ⟨Gs, les, hSs, _, hsl⟩ := hO.freezeS hS RInt_mono (k := 0) rfl hrd hml
      exact hsl.2.1.2
    have hcw : cells'.length = (pre ++ x :: post).length := by rw [hrd.1, ← hml, Nat.mul_one]
    refine WC_seq (WC_region (wr 2 rfl ?_))
    have hsn : sliced (some ⟨g, o, none⟩) (((pre.length + post.length : Nat) : Int)).toNat (pre ++ x :: post).length c1 1 = .slice (some ⟨g, o + (pre.length + post.length), none⟩) (0 + 1) (c1 - (pre.length + post.length)) := by
      have e1 : (pre ++ x :: post).length - (pre.length + post.length) = 0 + 1 := by omega
      unfold sliced
      rw [Int.toNat_natCast, if_neg (by omega), e1]
      simp [Addr.add]
    refine WL_val ((rn_sliceL sl24c rfl rfl (by omega) (by omega) w).trans (by rw [hsn])) rfl ?_
    obtain ⟨y0, hy0⟩ : ∃ y, (mid pre x post post.length)[pre.length + post.length]? = some y := ⟨_, List.getElem?_eq_getElem (by omega)⟩
    obtain ⟨cs0, q1, q2, q3⟩ := hrd.2 _ _ hy0
    cases q3
    have hrd2 := hrd.set (i := pre.length + post.length) (k := 0) (vs := [iV 0]) (y := 0) (by omega) q1 q2 (Nat.le_refl _) (rfl : RInt Gc (splice [iV y0] 0 [iV 0]) 0)
    have hrd2 : Rd RInt 1 Gc (splice cells' (pre.length + post.length) (List.replicate (0 + 1) (iV 0))) ((mid pre x post post.length).set (pre.length + post.length) 0) := by
      have : (pre.length + post.length) * 1 + 0 = pre.length + post.length := by omega
      rw [this] at hrd2
      exact hrd2
    refine WL_op rfl (OpP_clear sl24c zero3 rfl rfl hS hO (k := 0) rfl rfl (by omega) fun w6 hS hO => ?_)
    have hO : Owns Gc w6 B (⟨3, 1, (pre ++ x :: post).length, .slice (some ⟨g, o, none⟩) (pre ++ x :: post).length c1, splice cells' (pre.length + post.length) (List.replicate (0 + 1) (iV 0))⟩ :: L) := hO
    obtain ⟨G7, le7, hS, hO, hs7⟩ := hO.freezeS hS RInt_mono (k := 0) rfl hrd2 (by rw [List.length_set]; exact hml)
    have hO : Owns G7 w6 B L := hO
    have hsub : subL ((mid pre x post post.length).set (pre.length + post.length) 0) 0 ((pre.length + post.length : Nat) : Int) = some (pre ++ post) := by
      unfold subL
      rw [if_pos ⟨by omega, by omega, by rw [List.length_set]; omega⟩]
      congr 1
      show (((mid pre x post post.length).set (pre.length + post.length) 0).drop 0).take (((pre.length + post.length : Nat) : Int).toNat - 0) = _
      rw [Int.toNat_natCast, Nat.sub_zero, List.drop_zero, List.take_set_of_le (Nat.le_refl _)]
      have := mid_all pre x post
      rw [List.length_append] at this
      exact this
    obtain ⟨a8, n8, c8, h8, hs8⟩ := hs7.sub hsub (q := pre.length + post.length) (Int.toNat_natCast _)
    have h8 : sliced (some ⟨g, o, none⟩) 0 (((pre.length + post.length : Nat) : Int)).toNat c1 1 = .slice a8 n8 c8 := by rw [Int.toNat_natCast]; exact h8
    refine WL_nil (WC_seq (WC_region (wr 2 rfl ?_)))
    refine WL_val ((rn_sliceH sl24c rfl rfl (by omega) (by omega) hcap w6).trans (by rw [h8])) rfl ?_
    refine wr 1 rfl (WL_nil (WC_ret ?_))
    exact ⟨[.slice a8 n8 c8], ⟨rfl, trivial⟩, G7, _, le7, hS, hO, rfl, _, _, _, rfl, hs8⟩
/-- a list without a number that is in it -/
theorem f43_ok (hS : Since B G0 w0 Gc wc) (hO : Owns Gc wc B L) (h1 : RSl RInt 1 Gc a1 n1 c1 (pre ++ x :: post)) (hx : x ∉ pre) (hp : x ∉ post) (hl : (pre ++ x :: post).length ≤ 9) :
    Calls Tryz.prog 43 [.slice a1 n1 c1, iV x].toArray wc (RetO B G0 w0 Gc wc (fun G' L' v => L' = L ∧ ∃ a m c, v = .slice a m c ∧ RSl RInt 1 G' a m c (pre ++ post))) := by
  refine enterL (N := 9) (rs := [.tmp 4]) hO.base Tryz.func43 rfl rfl rfl rfl (WC_seq (WC_region ?_))
  refine WL_op rfl (OpP_newF (v := fun b => pV b) (cs := [iV x]) (e := 3) (by kernel_rfl) hS.sat rfl fun d G1 w1 hg hd => ?_)
  have hS := hS.grow hg
  have hO := hO.grow hg
  refine wr 1 rfl (WL_nil (WC_seq (WC_region (wr 1 rfl ?_))))
  refine WL_op rfl (OpP_lent (fi := []) (al := [.slice a1 n1 c1]) (ca := []) cb97c (f97_own hS hO (h1.mono RInt_mono hg.le) (by omega)) rfl rfl rfl fun v G2 w2 L2 le2 hS hO hv => ?_)
  obtain ⟨a2, c2, cells, rfl, rfl, hr⟩ := hv
  refine WL_val (rn_func (vs := []) (us := [pV d]) rfl rfl) rfl ?_
  refine WL_op rfl (OpP_lent (fi := []) (al := [.slice a2 (pre ++ x :: post).length c2, .func (.func 104) #[] [pV d].toArray]) (ca := []) cb103c (f103_ok hS hO hr hx hp hl (hd.mono le2)) rfl rfl rfl fun v G3 w3 L3 le3 hS hO hv => ?_)
  obtain ⟨hL, a3, m3, c3, rfl, hr3⟩ := hv
  rw [hL] at hO
  refine wr 1 rfl (WL_nil (WC_ret ?_))
  exact ⟨[.slice a3 m3 c3], ⟨rfl, trivial⟩, G3, _, (hg.le.trans le2).trans le3, hS, hO, rfl, _, _, _, rfl, hr3⟩
end
end Go.Proofs.YtdgkjgljkgjjiaaGreatDoor
