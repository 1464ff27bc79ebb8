/-
  Loops that are unrolled; calls that are walked into; slices of slices.
-/
import Derived.Test.YtcaflmilfhhikaaGreatDoorBaseH
import Derived.Laws.Slices
namespace Go.Proofs.YtcaflmilfhhikaaGreatDoor
open Go.RowKit

section
variable {κ : Ctx} {P : Program} {N : Nat} {n r : Fr → World → Prop} {x : List (Nat × (Fr → World → Prop))} {p : List PanicEntry → Fr → World → Prop} {F : Fr} {w : World}
/-! ### A loop, round by round -/
def WI (κ : Ctx) (P : Program) (N : Nat) (c : Code) (Q : Post) (F : Fr) (w : World) : Prop :=
  ∀ (a : Act) (wI : World), St κ N wI a w → frOf a = F → ∀ (b : Frame) (k : List Item) (cs : List Frame), b.roundOf = (FW κ.ro).round → (FW κ.ro).fn b.fn → (FW κ.ro).room (cs.length + 1 + 0) →
    ∃ e a' w', Q.act κ N wI e a' w' ∧ ArrivesIn (Machine.fenced P (FW κ.ro)) P (lone (b.atR a (.code c :: .inLoop c :: k)) cs w) b k cs e a' w'
theorem WC_loopI {c : Code} (h : WI κ P N c ⟨n, r, x, p⟩ F w) : WC κ P N (.loop c) ⟨n, r, x, p⟩ F w := by
  intro a wI h1 h3 b k cs hro hfn hroom
  obtain ⟨e, a', w', hq, harr⟩ := h a wI h1 h3 b k cs hro hfn hroom
  exact ⟨e, a', w', hq, .of_steps (.one (fenced_calm hfn hroom rfl) stepR_loop) harr⟩
theorem WI_step {c : Code} (h : WC κ P N c ⟨WI κ P N c ⟨n, r, x, p⟩, r, x, p⟩ F w) : WI κ P N c ⟨n, r, x, p⟩ F w := by
  intro a wI h1 h3 b k cs hro hfn hroom
  obtain ⟨e, a₁, w₁, ⟨p1, p3⟩, harr⟩ := h a wI h1 h3 b (.inLoop c :: k) cs hro hfn hroom
  cases e with
  | normal =>
    obtain ⟨e₂, a₂, w₂, hq₂, harr₂⟩ := p3 a₁ wI p1 rfl b k cs hro hfn hroom
    exact ⟨e₂, a₂, w₂, hq₂, .of_steps (StepsIn.trans harr (.one (fenced_calm hfn hroom rfl) stepR_inLoop)) harr₂⟩
  | exit id => exact ⟨.exit id, a₁, w₁, ⟨p1, p3⟩, .pass (x := .inLoop c) rfl (fun _ _ => .inl (by simp)) harr⟩
  | ret => exact ⟨.ret, a₁, w₁, ⟨p1, p3⟩, .pass (x := .inLoop c) rfl (fun _ _ => .inl (by simp)) harr⟩
  | goto l => exact p3.elim
  | panic ch => exact ⟨.panic ch, a₁, w₁, ⟨p1, p3⟩, .pass (x := .inLoop c) rfl (fun _ _ => .inl (by simp)) harr⟩
  | outgrown => exact p3.elim
end

/-! ### Calls that are walked into -/
section
variable {κ : Ctx} {p : List PanicEntry → Fr → World → Prop} {P : Program} {N N' : Nat} {F : Fr} {w : World} {K : Fr → World → Prop} {d : Nat} {ty : TypeId} {pos : String} {af : Array Edge} {gd : Option (Nat × Bool)}
theorem enterN {f : FuncId} {fn : Func} {c : Code} {al : List Value} {S : Value → World → Prop} (hf : P.funcs[f]? = some fn) (hb : fn.body = some c) (hn : fn.ntmps = N) (hN : Nat.ble al.length N = true)
    {T : Fr → World → Prop} (hT : ∀ (tmps : Array Value) w', T (fun t => tmps.getD t undef) w' → ∃ v, (results fn tmps).run P w' = .ok v w' ∧ S v w')
    (h : WC ⟨none, none, w.heap.size, true, []⟩ P N c ⟨T, T, [], fun _ _ _ => False⟩ (nthD al) w) : Calls P f al.toArray w fun e w' => ∃ v, e = .returned v ∧ Keeps none w w' ∧ S v w' := by
  have hle := Nat.le_of_ble_eq_true hN
  have h0 : CallsIn Fence.wide 0 P f al.toArray w fun e w' => ∃ v, e = .returned v ∧ Keeps none w w' ∧ S v w' := by
    refine callsIn_of_wp hf hb trivial (wpIn_mono (h _ w ⟨?_, Calm.nil _ _, Keeps.refl _, Nat.le_refl _⟩ ?_) ?_)
    · simp [hn]; omega
    · exact frOf_enter al _ _
    · rintro e a' w' ⟨p1, p3⟩
      cases e with
      | normal =>
        obtain ⟨v, h1, h2⟩ := hT a'.tmps w' p3
        exact ⟨p1.calm.none rfl, v, h1, v, rfl, p1.keep, h2⟩
      | ret =>
        obtain ⟨v, h1, h2⟩ := hT a'.tmps w' p3
        exact ⟨p1.calm.none rfl, v, h1, v, rfl, p1.keep, h2⟩
      | exit k => obtain ⟨K, hK, _⟩ := p3; cases hK
      | goto l => exact p3.elim
      | panic c => exact p3.elim
      | outgrown => exact p3.elim
  exact callsIn_wide.1 h0
theorem OpP_in {k : Nat} {args : Array Operand} {ats : Array TypeId} {al : List Value} (hk : callB P k = true) (ha : args.toList.map (ev F) = al) (hd : Nat.blt d N = true)
    (hc : Calls P k al.toArray w fun e w' => ∃ v, e = .returned v ∧ Keeps none w w' ∧ K (upd F d v) w') : OpP κ P N p ⟨some d, .call { callee := .value (.func k), args := args, argTypes := ats }, ty, pos, af, gd⟩ F w K :=
  OpP_enter (rn_call hk ha) hd hc fun _ _ ⟨v, h1, h2, h3⟩ => ⟨v, h1, h2.weak, h3⟩
variable {f : FuncId} {fn : Func} {c : Code} {args : Array Operand} {ats : Array TypeId}
theorem OpP_in0 (al : List Value) (hk : callB P f = true) (hf : P.funcs[f]? = some fn) (hb : fn.body = some c) (hr : fn.results = #[]) (hn : fn.ntmps = N') (hN : Nat.ble al.length N' = true) (ha : args.toList.map (ev F) = al) (hd : Nat.blt d N = true)
    (h : WC ⟨none, none, w.heap.size, true, []⟩ P N' c ⟨fun _ w' => K (upd F d (.tuple #[])) w', fun _ w' => K (upd F d (.tuple #[])) w', [], fun _ _ _ => False⟩ (nthD al) w) : OpP κ P N p ⟨some d, .call { callee := .value (.func f), args := args, argTypes := ats }, ty, pos, af, gd⟩ F w K :=
  OpP_in hk ha hd (enterN (S := fun v w' => K (upd F d v) w') hf hb hn hN (fun tmps w' h => ⟨.tuple #[], by simp [results, hr], h⟩) h)
theorem OpP_in1 {t : Nat} (al : List Value) (hk : callB P f = true) (hf : P.funcs[f]? = some fn) (hb : fn.body = some c) (hr : fn.results = #[.tmp t]) (hn : fn.ntmps = N') (hN : Nat.ble al.length N' = true) (ha : args.toList.map (ev F) = al) (hd : Nat.blt d N = true)
    (h : WC ⟨none, none, w.heap.size, true, []⟩ P N' c ⟨fun F' w' => ∃ v, F' t = v ∧ K (upd F d v) w', fun F' w' => ∃ v, F' t = v ∧ K (upd F d v) w', [], fun _ _ _ => False⟩ (nthD al) w) : OpP κ P N p ⟨some d, .call { callee := .value (.func f), args := args, argTypes := ats }, ty, pos, af, gd⟩ F w K :=
  OpP_in hk ha hd (enterN (S := fun v w' => K (upd F d v) w') hf hb hn hN (fun tmps w' ⟨v, h1, h2⟩ => ⟨_, results_tmp hr _ _ _, by
    have e : tmps.getD t undef = v := h1
    show K (upd F d (tmps.getD t undef)) w'
    rw [e]; exact h2⟩) h)
theorem OpP_in2 {t u : Nat} (al : List Value) (hk : callB P f = true) (hf : P.funcs[f]? = some fn) (hb : fn.body = some c) (hr : fn.results = #[.tmp t, .tmp u]) (hn : fn.ntmps = N') (hN : Nat.ble al.length N' = true) (ha : args.toList.map (ev F) = al) (hd : Nat.blt d N = true)
    (h : WC ⟨none, none, w.heap.size, true, []⟩ P N' c ⟨fun F' w' => ∃ v v', F' t = v ∧ F' u = v' ∧ K (upd F d (.tuple #[v, v'])) w', fun F' w' => ∃ v v', F' t = v ∧ F' u = v' ∧ K (upd F d (.tuple #[v, v'])) w', [], fun _ _ _ => False⟩ (nthD al) w) : OpP κ P N p ⟨some d, .call { callee := .value (.func f), args := args, argTypes := ats }, ty, pos, af, gd⟩ F w K :=
  OpP_in hk ha hd (enterN (S := fun v w' => K (upd F d v) w') hf hb hn hN (fun tmps w' ⟨v, v', h1, h2, h3⟩ => ⟨_, results_tmp2 hr _ _ _, by
    have e : tmps.getD t undef = v := h1
    have e' : tmps.getD u undef = v' := h2
    show K (upd F d (.tuple #[tmps.getD t undef, tmps.getD u undef])) w'
    rw [e, e']; exact h3⟩) h)
end

/-! ### Slices of slices -/
def subL {α : Type} (xs : List α) (l h : Int) : Option (List α) := if 0 ≤ l ∧ l ≤ h ∧ h ≤ (xs.length : Int) then some ((xs.drop l.toNat).take (h.toNat - l.toNat)) else none
theorem subL_some {α : Type} {xs zs : List α} {l h : Int} (e : subL xs l h = some zs) : 0 ≤ l ∧ l ≤ h ∧ h ≤ (xs.length : Int) ∧ zs = (xs.drop l.toNat).take (h.toNat - l.toNat) := by
  unfold subL at e
  split at e
  · rename_i h0; exact ⟨h0.1, h0.2.1, h0.2.2, (Option.some.inj e).symm⟩
  · cases e
theorem subL_len {α : Type} {xs zs : List α} {l h : Int} (e : subL xs l h = some zs) : h.toNat - l.toNat = zs.length := by
  obtain ⟨h1, h2, h3, rfl⟩ := subL_some e
  simp only [List.length_take, List.length_drop]
  omega
section
variable {κ : Ctx} {P : Program} {N : Nat} {F : Fr} {d : Option Nat} {ty : TypeId} {pos : String} {af : Array Edge} {gd : Option (Nat × Bool)} {T e sz bytes n c : Nat} {X : Operand} {ad : Option Addr}
theorem elem_of {P : Program} {T e sz bytes : Nat} (hT : slB P T = some (e, sz, bytes)) : P.underlying T = some (.slice (P.elem T)) ∧ ∀ w, (sizeOf (P.elem T)).run P w = .ok sz w := by
  obtain ⟨hu, i, z, hi, _, rfl, _⟩ := slB_spec hT
  have he : P.elem T = e := by simp [Program.elem, hu]
  rw [he]
  exact ⟨hu, fun w => by simp [sizeOf, typeInfo, hi]⟩
theorem rn_sliceLH {L H : Operand} {k k' : IntKind} {l h : Int} (hT : slB P T = some (e, sz, bytes)) (hx : ev F X = .slice ad n c) (hl : ev F L = .int k l) (hh : ev F H = .int k' h) (h0 : 0 ≤ l) (h1 : l ≤ h) (h2 : h ≤ (n : Int)) (hc : n ≤ c) (w : World) :
    (execOp (ev F) ⟨d, .slice T X (some L) (some H) none, ty, pos, af, gd⟩).run P w = .ok (.value (sliced ad l.toNat h.toNat c sz)) w := by
  obtain ⟨q1, q2⟩ := elem_of hT
  simp [execOp, hx, hl, hh, run_sliceAt_slice _ _ _ _ _ _ q1, run_slice_lh w T ad n c q1 k k' l h h0 h1 (by omega), q2, Result.andThen]
theorem rn_sliceL {L : Operand} {k : IntKind} {l : Int} (hT : slB P T = some (e, sz, bytes)) (hx : ev F X = .slice ad n c) (hl : ev F L = .int k l) (h0 : 0 ≤ l) (h1 : l ≤ (n : Int)) (w : World) :
    (execOp (ev F) ⟨d, .slice T X (some L) none none, ty, pos, af, gd⟩).run P w = .ok (.value (sliced ad l.toNat n c sz)) w := by
  obtain ⟨q1, q2⟩ := elem_of hT
  simp [execOp, hx, hl, run_sliceAt_slice _ _ _ _ _ _ q1, run_slice_l w T ad n c q1 k l h0 h1, q2, Result.andThen]
theorem rn_sliceH {H : Operand} {k' : IntKind} {h : Int} (hT : slB P T = some (e, sz, bytes)) (hx : ev F X = .slice ad n c) (hh : ev F H = .int k' h) (h1 : 0 ≤ h) (h2 : h ≤ (n : Int)) (hc : n ≤ c) (w : World) :
    (execOp (ev F) ⟨d, .slice T X none (some H) none, ty, pos, af, gd⟩).run P w = .ok (.value (sliced ad 0 h.toNat c sz)) w := by
  obtain ⟨q1, q2⟩ := elem_of hT
  simp [execOp, hx, hh, run_sliceAt_slice _ _ _ _ _ _ q1, run_slice_h w T ad n c q1 k' h h1 (by omega), q2, Result.andThen]
theorem rn_sliceA (hT : slB P T = some (e, sz, bytes)) (hx : ev F X = .slice ad n c) (w : World) :
    (execOp (ev F) ⟨d, .slice T X none none none, ty, pos, af, gd⟩).run P w = .ok (.value (sliced ad 0 n c sz)) w := by
  obtain ⟨q1, q2⟩ := elem_of hT
  simp [execOp, hx, run_sliceAt_slice _ _ _ _ _ _ q1, run_slice_all w T ad n c q1, q2, Result.andThen]
/-- A slice of a slice that is read. -/
theorem RSl.sub {α : Type} {R : Gm → List Value → α → Prop} {G : Gm} {xs zs : List α} {l h : Int} (hs : RSl R sz G ad n c xs) (e : subL xs l h = some zs) {q : Nat} (hq : h.toNat = q) :
    ∃ a' n' c', sliced ad l.toNat q c sz = .slice a' n' c' ∧ RSl R sz G a' n' c' zs := by
  subst hq
  obtain ⟨h0, h1, h2, rfl⟩ := subL_some e
  obtain ⟨p1, ⟨p2, p2'⟩, p3⟩ := hs
  refine ⟨_, _, _, rfl, ?_, ⟨by omega, by omega⟩, fun i y hy => ?_⟩
  · simp only [List.length_take, List.length_drop]; omega
  · rw [List.getElem?_take] at hy
    split at hy
    · rename_i hi
      rw [List.getElem?_drop] at hy
      obtain ⟨b, off, cs, q1, q2, q3, q4⟩ := p3 _ _ hy
      refine ⟨b, off + l.toNat * sz, cs, ?_, ?_, q3, q4⟩
      · rw [if_neg (by omega), q1]
        simp [add_addr]
      · have : off + l.toNat * sz + i * sz = off + (l.toNat + i) * sz := by rw [Nat.add_mul]; omega
        rw [this]; exact q2
    · cases hy
/-- A slice of the call's own that is cut: it takes the place of what it was cut from. -/
theorem Owns.resl {α : Type} {R : Gm → List Value → α → Prop} {G : Gm} {w : World} {B : Nat} {L : List Row} {k n' : Nat} {cells : List Value} {xs zs : List α} {l h : Int} (hO : Owns G w B L) (hk : L[k]? = some ⟨e, sz, n', .slice ad n c, cells⟩) (hn : n' = xs.length) (hrd : Rd R sz G cells xs) (hz : subL xs l h = some zs) {q : Nat} (hq : h.toNat = q) :
    n = n' ∧ n ≤ c ∧ ∃ a' c' cells', sliced ad l.toNat q c sz = .slice a' zs.length c' ∧ Owns G w B (L.set k ⟨e, sz, zs.length, .slice a' zs.length c', cells'⟩) ∧ Rd R sz G cells' zs := by
  subst hq
  have hl := subL_len hz
  obtain ⟨h0, h1, h2, rfl⟩ := subL_some hz
  have hc := hO.each _ (List.mem_of_getElem? hk)
  have h3 : ORow w B e sz (.slice ad n c) n' cells := hc.1
  have hsub : Rd R sz G ((cells.drop (l.toNat * sz)).take ((h.toNat - l.toNat) * sz)) ((xs.drop l.toNat).take (h.toNat - l.toNat)) := by
    refine ⟨?_, fun i y hy => ?_⟩
    · simp only [List.length_take, List.length_drop, hrd.1, ← Nat.sub_mul]
      rw [← Nat.mul_min_mul_right] 
    · rw [List.getElem?_take] at hy
      split at hy
      · rename_i hi
        rw [List.getElem?_drop] at hy
        obtain ⟨cs, q1, q2, q3⟩ := hrd.2 _ _ hy
        refine ⟨cs, q1, fun j u hj => ?_, q3⟩
        have hjs : j < sz := by rw [← q1]; exact (List.getElem?_eq_some_iff.1 hj).1
        have hb : i * sz + sz ≤ (h.toNat - l.toNat) * sz := by rw [← Nat.succ_mul]; exact Nat.mul_le_mul_right _ hi
        rw [List.getElem?_take, if_pos (by omega), List.getElem?_drop, ← Nat.add_assoc, ← Nat.add_mul]
        exact q2 j u hj
      · cases hy
  rcases h3.2 with ⟨hv, hz0⟩ | ⟨g, o, cap, cur, hv, hbg, hg, hnc, hcm, hcs, htake⟩ | ⟨_, hv, _⟩
  · cases hv
    subst hz0
    have e1 : l.toNat = 0 := by omega
    have e2 : h.toNat = 0 := by omega
    have hxs : xs = [] := List.eq_nil_of_length_eq_zero hn.symm
    refine ⟨rfl, Nat.le_refl _, none, 0, _, ?_, ?_, hsub⟩
    · rw [← hl, e1, e2]; rfl
    · have hlen : ((xs.drop l.toNat).take (h.toNat - l.toNat)).length = 0 := by rw [hxs]; simp
      refine hO.write (c' := ⟨e, sz, _, _, _⟩) hk (Nat.le_refl _) (fun _ _ _ => rfl) ⟨⟨hsub.1, .inl ⟨by rw [hlen], hlen⟩⟩, fun g hg => ?_⟩ fun g hg => ?_
      · simp [blkOf] at hg
      · simp [blkOf] at hg
  · cases hv
    refine ⟨rfl, hnc, _, _, _, (by rw [← hl]; rfl), ?_, hsub⟩
    have hxl := h3.1
    have hob : ∀ g', blkOf (Value.slice (if c = l.toNat then some ⟨g, o, none⟩ else (some (⟨g, o, none⟩ : Addr)).map (·.add (l.toNat * sz))) ((xs.drop l.toNat).take (h.toNat - l.toNat)).length (c - l.toNat)) = some g' → g' = g := fun g' hg' => by
      split at hg'
      · simpa [blkOf, eq_comm] using hg'
      · simpa [blkOf, add_addr, eq_comm] using hg'
    refine hO.write (c' := ⟨e, sz, _, _, _⟩) hk (Nat.le_refl _) (fun _ _ _ => rfl) ⟨⟨hsub.1, .inr (.inl ?_)⟩, fun g' hg' => ?_⟩ fun g' hg' => ?_
    · have htk : ∀ q, ((cur.toList.drop (o + l.toNat * sz)).take ((h.toNat - l.toNat) * sz))[q]? = ((cells.drop (l.toNat * sz)).take ((h.toNat - l.toNat) * sz))[q]? := fun q => by
        rw [List.getElem?_take, List.getElem?_take]
        split
        · rename_i hq
          rw [List.getElem?_drop, List.getElem?_drop, ← htake, List.getElem?_take, if_pos, List.getElem?_drop, Nat.add_assoc]
          have : l.toNat * sz + (h.toNat - l.toNat) * sz = h.toNat * sz := by rw [← Nat.add_mul]; congr 1; omega
          have h4 : h.toNat * sz ≤ n * sz := Nat.mul_le_mul_right _ (by omega)
          omega
        · rfl
      have hle : ((xs.drop l.toNat).take (h.toNat - l.toNat)).length ≤ c - l.toNat := by rw [← hl]; omega
      by_cases hcl : c = l.toNat
      · refine ⟨g, o, c - l.toNat, cur, by rw [if_pos hcl], hbg, hg, hle, by omega, ?_, ?_⟩
        · show o + (c - l.toNat) * sz ≤ cur.size
          rw [hcl, Nat.sub_self, Nat.zero_mul]
          omega
        · have : ((xs.drop l.toNat).take (h.toNat - l.toNat)).length = 0 := by rw [← hl]; omega
          have e0 : (h.toNat - l.toNat) = 0 := by omega
          rw [this, e0]; simp
      · refine ⟨g, o + l.toNat * sz, c - l.toNat, cur, by rw [if_neg hcl]; simp [add_addr], hbg, hg, hle, by omega, ?_, ?_⟩
        · show o + l.toNat * sz + (c - l.toNat) * sz ≤ cur.size
          have : l.toNat * sz + (c - l.toNat) * sz = c * sz := by rw [← Nat.add_mul]; congr 1; omega
          omega
        · rw [← hl]
          exact List.ext_getElem? htk
    · rw [hob g' hg']; exact hc.2 g rfl
    · rw [hob g' hg']; exact .inl rfl
  · cases hv
end
end Go.Proofs.YtcaflmilfhhikaaGreatDoor
