/-
 A drawn region whose last operation but one calls yield, which may panic.
-/
import Derived.Test.YtihedfkcccaonaaGreatDoorBsC
import Derived.OrdersIn
import Derived.Test.YtihedfkcccaonaaGreatDoorRy
import Derived.RecoverIn
import Derived.RangeFuncLeaves
namespace Go.Proofs.YtihedfkcccaonaaGreatDoor
open Go.RowKit
def Unl (l : List Bool) : Nat := (l.filter (!·)).length
theorem zb9 : ∀ (l : List Bool) (i : Nat), l[i]? = some false → Unl (l.set i true) + 1 = Unl l
 | [], i, h => by simp at h
 | x :: l, 0, h => by
  have : x = false := by simpa using h
  subst this
  simp [Unl]
 | x :: l, i + 1, h => by
  have ih := zb9 l i (by simpa using h)
  cases x <;> simp [Unl] at ih ⊢ <;> omega
theorem zoA (p : Nat → Bool) : ∀ (d m : Nat), m ≤ d → p m = false → ∃ i, i ≤ m ∧ p i = false ∧ ∀ k, k < i → p k = true
 | 0, m, hd, h => ⟨m, Nat.le_refl _, h, fun k hk => by omega⟩
 | d + 1, m, hd, h => by
  by_cases hex : ∃ k, k < m ∧ p k = false
  ·obtain ⟨k, hk, hp⟩ := hex
   obtain ⟨i, h1, h2, h3⟩ := zoA p d k (by omega) hp
   exact ⟨i, by omega, h2, h3⟩
  ·refine ⟨m, Nat.le_refl _, h, fun k hk => ?_⟩
   cases hp : p k with
   | true => rfl
   | false => exact absurd ⟨k, hk, hp⟩ hex
theorem zlz {l : Array Bool} {i : Nat} (hi : i < l.size) (b : Bool) (h : l.getD i (!b) = b ∨ l.getD i b = b) (c : Bool) : l.getD i c = b := by
 simp [hi] at h ⊢
 exact h
def zt1 (ops : Array Oper) (m : Nat) : Bool := (List.range m).all fun i => match ops[i]? with
 | some o => o.after.all fun e => Nat.blt e.on i
 | none => false
section
variable {κ : Ctx} {P : Program} {N : Nat} {ops : Array Oper} {Q : Exit → Act → World → Prop} {F : Fr} {w wI : World} {m : Nat} {dst : Nat → Nat} {val : Nat → Value}
theorem zhY (hsz : ops.size = m + 2) (hback : zt1 ops (m + 1) = true)
  (hop : ∀ i, i < m → ∃ op ty pos af, ops[i]? = some ⟨some (dst i), op, ty, pos, af, none⟩ ∧ Nat.blt (dst i) N = true ∧ ∀ F' : Fr, (∀ k, k < m → (af.any fun e => Region.binds .any e && Nat.beq e.on k) = true → F' (dst k) = val k) → (∀ t, (∀ k, k < m → dst k ≠ t) → F' t = F t) → (execOp (ev F') ⟨some (dst i), op, ty, pos, af, none⟩).run P w = .ok (.value (val i)) w)
  (hinj : ∀ i k, i < m → k < m → dst i = dst k → i = k) (hm : ∀ i, i < m → jR ops ops.size m i = true)
  (hz : ∃ o, ops[m + 1]? = some o ∧ ∃ e ∈ o.after, Region.binds .any e = true ∧ e.on = m)
  (hy : ∀ (fuel : Nat) a (listed : Array Bool), St κ N wI a w → (∀ i, i < m → yO a (dst i) = val i) → (∀ t, (∀ k, k < m → dst k ≠ t) → yO a t = F t) → listed = (List.replicate m true ++ [false, false]).toArray → 1 ≤ fuel → wpOpIn (FW κ.ro) 0 P ops Q m (wpAnyIn (FW κ.ro) 0 P .any ops Q fuel (listed.setIfInBounds m true)) a w) :
  ∀ (fuel : Nat) (listed : Array Bool) (a : Act), Unl listed.toList ≤ fuel → St κ N wI a w → listed.size = ops.size → Closed ops listed → (∀ i, i < m → listed.getD i false = true → yO a (dst i) = val i) → (∀ t, (∀ k, k < m → dst k ≠ t) → yO a t = F t) → listed.getD m false = false → wpAnyIn (FW κ.ro) 0 P .any ops Q fuel listed a w := by
 have toL : ∀ (l : Array Bool) i, i < l.size → l.getD i false = false → l.toList[i]? = some false := fun l i hi h => by
  simp [hi] at h
  simp [hi, h]
 intro fuel
 induction fuel with
 | zero =>
  intro listed a hu st hs hcl hv ho hm0
  have := zb9 listed.toList m (toL _ _ (by omega) hm0)
  omega
 | succ fuel ih =>
  intro listed a hu st hs hcl hv ho hm0
  refine ⟨fun h => ?_, fun i hi => ?_⟩
  ·obtain ⟨i, h1, h2, h3⟩ := zoA (fun i => listed.getD i false) m m (Nat.le_refl _) hm0
   have hi : i ∈ Region.ready .any ops listed := by
    have hb := List.all_eq_true.1 hback i (List.mem_range.2 (by omega))
    cases hoi : ops[i]? with
    | none => rw [hoi] at hb; cases hb
    | some o =>
     rw [hoi] at hb
     refine mem_ready.2 ⟨zlz (by omega) false (.inr h2) true, o, hoi, fun e he _ => ?_⟩
     have hb := Array.all_eq_true_iff_forall_mem.1 hb e he
     exact h3 e.on (za8 hb)
   rw [h] at hi
   cases hi
  ·obtain ⟨hun, o, hoi, hall⟩ := mem_ready.1 hi
   have hlt : i < ops.size := (Array.getElem?_eq_some_iff.1 hoi).1
   have hun' : listed.getD i false = false := zlz (by omega) false (.inl hun) false
   have hm1 : listed.getD (m + 1) false = false := by
    obtain ⟨o1, ho1, e, he, hb, hon⟩ := hz
    cases hc : listed.getD (m + 1) false with
    | false => rfl
    | true => have := hcl _ o1 ho1 hc e he hb; rw [hon, hm0] at this; cases this
   rcases Nat.lt_trichotomy i m with hlm | rfl | hgm
   ·obtain ⟨op, ty, pos, af, h1, hd, hrun⟩ := hop i hlm
    have : o = ⟨some (dst i), op, ty, pos, af, none⟩ := nQs (hoi.symm.trans h1)
    subst this
    have hdl := st.lt hd
    refine wpOpIn_step hoi fun K' hK' => ?_
    rw [if_pos (by rfl)]
    refine ⟨fun _ _ => trivial, ?_⟩
    rw [zf3 (ρ := (FW κ.ro).round) (w' := w) (nx := .value (val i)) (fun _ h => by cases h) (by
     rw [qT]
     refine hrun _ (fun k hk hk2 => hv k hk ?_) ho
     obtain ⟨j, hj, hb⟩ := Array.any_eq_true.1 hk2
     simp only [Bool.and_eq_true] at hb
     have hl := hall af[j] (Array.getElem_mem hj) hb.1
     rwa [nQe hb.2] at hl)]
    refine hK' _ _ (ih _ _ ?_ (st.puts _ _) (by rw [Array.size_setIfInBounds]; exact hs) (hcl.set hi) ?_ ?_ ?_)
    ·have := zb9 listed.toList i (toL _ _ (by omega) hun')
     rw [Array.toList_setIfInBounds]
     omega
    ·intro k hk hlk
     show yO (a.put (some (dst i)) (val i)) (dst k) = val k
     rw [qY a (dst i) (val i) hdl]
     unfold upd
     cases hb : Nat.beq (dst k) (dst i) with
     | true =>
      have := hinj k i hk hlm (nQe hb)
      subst this
      rfl
     | false =>
      refine hv k hk ?_
      have hne : i ≠ k := fun e => by subst e; simp at hb
      rw [getD_set_ne false hne] at hlk
      exact hlk
    ·intro t ht
     show yO (a.put (some (dst i)) (val i)) t = F t
     rw [qY a (dst i) (val i) hdl]
     unfold upd
     cases hb : Nat.beq t (dst i) with
     | true => exact absurd (nQe hb).symm (ht i hlm)
     | false => exact ho t ht
    ·rw [getD_set_ne false (by omega)]; exact hm0
   ·have hl : ∀ k, k < i → listed.getD k false = true := fun k hk => vC hcl ops.size i k (fun o' ho' e he hb => by
     have : o' = o := nQs (ho'.symm.trans hoi)
     subst this
     exact hall e he hb) (hm k hk)
    have hL : listed = (List.replicate i true ++ [false, false]).toArray := by
     refine Array.ext (by simp; omega) fun k h1 h2 => ?_
     have hg : ∀ b, listed.getD k false = b → listed[k] = b := fun b hb => by simpa [h1] using hb
     rcases Nat.lt_trichotomy k i with hk | rfl | hk
     ·rw [hg true (hl k hk)]; simp [List.getElem_append_left, hk]
     ·rw [hg false hm0]; simp
     ·have : k = i + 1 := by omega
      subst this
      rw [hg false hm1]; simp
    refine hy fuel a listed st (fun k hk => hv k hk (hl k hk)) ho hL ?_
    have u1 := zb9 listed.toList i (toL _ _ (by omega) hun')
    have u2 := zb9 (listed.toList.set i true) (i + 1) (by rw [List.getElem?_set_ne (by omega)]; exact toL _ _ (by omega) hm1)
    omega
   ·have hi1 : i = m + 1 := by omega
    subst hi1
    obtain ⟨o1, ho1, e, he, hb, hon⟩ := hz
    have : o = o1 := nQs (hoi.symm.trans ho1)
    subst this
    have := hall e he hb
    rw [hon, hm0] at this
    cases this
end
section
variable {κ : Ctx} {P : Program} {N : Nat} {n r : Fr → World → Prop} {x : List (Nat × (Fr → World → Prop))} {p : List PanicEntry → Fr → World → Prop} {F : Fr} {w : World} {m : Nat} {dst : Nat → Nat} {val : Nat → Value}
theorem zkE {id dy dz : Nat} {l : List Oper} {X : Operand} {args : Array Operand} {ats : Array TypeId} {ty zty : TypeId} {pos zpos : String} {af zaf : Array Edge} {zop : Op} (hmx : P.follows .mixedOrders = true) (hsz : l.toArray.size = m + 2) (hback : zt1 l.toArray (m + 1) = true)
  (hop : ∀ i, i < m → ∃ op ty pos af, l.toArray[i]? = some ⟨some (dst i), op, ty, pos, af, none⟩ ∧ Nat.blt (dst i) N = true ∧ ∀ F' : Fr, (∀ k, k < m → (af.any fun e => Region.binds .any e && Nat.beq e.on k) = true → F' (dst k) = val k) → (∀ t, (∀ k, k < m → dst k ≠ t) → F' t = F t) → (execOp (ev F') ⟨some (dst i), op, ty, pos, af, none⟩).run P w.drew = .ok (.value (val i)) w.drew)
  (hinj : ∀ i k, i < m → k < m → dst i = dst k → i = k) (hm : ((List.range m).all fun i => jR l.toArray l.toArray.size m i) = true)
  (hyo : l.toArray[m]? = some ⟨some dy, .call { callee := .value X, args := args, argTypes := ats }, ty, pos, af, none⟩) (hzo : l.toArray[m + 1]? = some ⟨some dz, zop, zty, zpos, zaf, none⟩) (hza : ∃ e ∈ zaf, Region.binds .any e = true ∧ e.on = m)
  (hdy : Nat.blt dy N = true) (hdz : Nat.blt dz N = true)
  (hr1 : Region.ready .any l.toArray ((List.replicate m true ++ [false, false]).toArray.setIfInBounds m true) = [m + 1]) (hr2 : Region.ready .any l.toArray (((List.replicate m true ++ [false, false]).toArray.setIfInBounds m true).setIfInBounds (m + 1) true) = [])
  (hY : ∀ F' : Fr, (∀ i, i < m → F' (dst i) = val i) → (∀ t, (∀ k, k < m → dst k ≠ t) → F' t = F t) → ∃ (j : Nat) (al : List Value) (R : Ending → World → Prop), YieldAt Fence.wide 0 P j al.toArray w.drew R ∧ ev F' X = .func (.yield j) #[] #[] ∧ args.toList.map (ev F') = al ∧
   ∀ e w', R e w' → (∃ v zv, e = .returned v ∧ Keeps κ.ex w.drew w' ∧ (execOp (ev (upd F' dy v)) ⟨some dz, zop, zty, zpos, zaf, none⟩).run P w' = .ok (.value zv) w' ∧ n (upd (upd F' dy v) dz zv) w') ∨ (∃ ch, e = .panicked ch ∧ Keeps κ.ex w.drew w' ∧ p ch F' w')) :
  WC κ P N (.region id l.toArray true) ⟨n, r, x, p⟩ F w := by
 intro a wI h1 h3
 have hw : w.drew = { w with drawn := w.drawn + 1 } := rfl
 have h1' : St κ N wI a w.drew := ⟨h1.size, h1.calm.keep (Keeps.drew _), h1.keep.trans (Keeps.drew _), h1.base⟩
 have hrep : ∀ j, (Array.replicate l.toArray.size false).getD j false = false := fun j => by
  rcases Nat.lt_or_ge j l.toArray.size with h' | h'
  ·simp at h'; simp [h']
  ·simp at h'; simp [h']
 refine wpIn_mono (wpIn_region_any hmx (Q := LQ κ N wI p n) ?_) ?_
 ·rw [← hw]
  refine zhY (wI := wI) (F := F) (m := m) (dst := dst) (val := val) hsz hback hop hinj (fun i hi => List.all_eq_true.1 hm i (List.mem_range.2 hi)) ⟨_, hzo, hza⟩ ?_ _ _ a ?_ h1' (by simp) (fun j o _ hl => by rw [hrep] at hl; cases hl) (fun i _ h => by rw [hrep] at h; cases h) (fun t _ => by rw [h3]) (hrep m)
  ·intro fuel a2 listed st hv ho hL hf
   subst hL
   obtain ⟨fuel, rfl⟩ : ∃ f, fuel = f + 1 := ⟨fuel - 1, by omega⟩
   obtain ⟨j, al, R, ⟨fn, tmps, assign, body, hrun, hround⟩, hx, ha, hpost⟩ := hY (yO a2) hv ho
   refine wpOpIn_step hyo fun K' hK' => ?_
   rw [if_pos (by rfl)]
   refine ⟨fun _ _ => trivial, ?_⟩
   have h0 : Array.map (ev (yO a2)) args = al.toArray := by rw [← ha]; exact Array.ext' (by rw [Array.toList_map])
   rw [zf3 (ρ := (FW κ.ro).round) (w' := w.drew) (nx := .round j fn tmps assign body) (fun _ h => by cases h) (by
    rw [qT]
    simp [execOp, resolve, hx, Deferred.ofValue, h0, invoke, hrun])]
   refine ⟨fun h => (by cases h), RoundIn.mono (R := R) hround fun e w' hR => ?_⟩
   rcases hpost e w' hR with ⟨v, zv, rfl, hk, hz, hn⟩ | ⟨ch, rfl, hk, hp⟩
   ·have st2 := st.put hk (some dy) v
    have e1 : yO (a2.put (some dy) v) = upd (yO a2) dy v := qY a2 dy v (st.lt hdy)
    refine hK' _ _ (wpAnyIn_all hr1 (by simp) fun i hi => ?_)
    obtain rfl : i = m + 1 := by simpa using hi
    refine wpOpIn_step hzo fun K2 hK2 => ?_
    rw [if_pos (by rfl)]
    refine ⟨fun _ _ => trivial, ?_⟩
    rw [zf3 (ρ := (FW κ.ro).round) (w' := w') (nx := .value zv) (fun _ h => by cases h) (by rw [qT, e1]; exact hz)]
    refine hK2 _ _ (wpAnyIn_done hr2 ⟨st2.puts _ _, ?_⟩ _)
    show n (yO ((a2.put (some dy) v).put (some dz) zv)) w'
    rw [qY _ dz zv (st2.lt hdz), e1]
    exact hn
   ·exact ⟨⟨st.size, st.calm.keep hk, st.keep.trans hk, Nat.le_trans st.base hk.size⟩, hp⟩
  ·simp only [Unl]
   exact Nat.le_trans (List.length_filter_le _ _) (by simp)
 ·rintro e a' w' ⟨p1, p3⟩
  cases e with
  | normal => exact ⟨p1, p3⟩
  | panic c => exact ⟨p1, p3⟩
  | ret => exact p3.elim
  | exit k => exact p3.elim
  | goto l => exact p3.elim
  | outgrown => exact p3.elim
end
def WCf (f : FuncId) (κ : Ctx) (P : Program) (N : Nat) (c : Code) (Q : Post) (F : Fr) (w : World) : Prop :=
  ∀ (a : Act) (wI : World), St κ N wI a w → yO a = F → ∀ (b : Frame) (k : List Item) (cs : List Frame), b.roundOf = none → b.fn = f →
    ∃ e a' w', Q.act κ N wI e a' w' ∧ ArrivesIn (Machine.fenced P Fence.wide) P (lone (b.atR a (.code c :: k)) cs w) b k cs e a' w'
section
variable {κ : Ctx} {P : Program} {N : Nat} {n r : Fr → World → Prop} {x : List (Nat × (Fr → World → Prop))} {p : List PanicEntry → Fr → World → Prop} {F : Fr} {w : World} {f : FuncId}
theorem zae {c : Code} {Q : Post} (h : WC κ P N c Q F w) (hκ : κ.ro = none := by rfl) : WCf f κ P N c Q F w := fun a wI h1 h3 b k cs hro _ =>
  h a wI h1 h3 b k cs (by rw [hro]; exact hκ.symm) trivial (fun d hd => by cases hd)
theorem kq {c d : Code} (h : WCf f κ P N c ⟨WCf f κ P N d ⟨n, r, x, p⟩, r, x, p⟩ F w) : WCf f κ P N (.seq c d) ⟨n, r, x, p⟩ F w := by
  intro a wI h1 h3 b k cs hro hfn
  have h0 := fenced_wide P (lone (b.atR a (.code (.seq c d) :: k)) cs w)
  obtain ⟨e, a1, w1, ⟨p1, p2⟩, harr⟩ := h a wI h1 h3 b (.code d :: k) cs hro hfn
  cases e with
  | normal =>
    obtain ⟨e2, a2, w2, q2, arr2⟩ := p2 a1 wI p1 rfl b k cs hro hfn
    exact ⟨e2, a2, w2, q2, .of_steps (.head h0 stepR_seq harr) arr2⟩
  | ret => exact ⟨.ret, a1, w1, ⟨p1, p2⟩, .of_steps (.one h0 stepR_seq) (.pass (x := .code d) rfl (fun _ _ => .inl (by simp)) harr)⟩
  | exit id => exact ⟨.exit id, a1, w1, ⟨p1, p2⟩, .of_steps (.one h0 stepR_seq) (.pass (x := .code d) rfl (fun _ _ => .inl (by simp)) harr)⟩
  | panic ch => exact ⟨.panic ch, a1, w1, ⟨p1, p2⟩, .of_steps (.one h0 stepR_seq) (.pass (x := .code d) rfl (fun _ _ => .inl (by simp)) harr)⟩
  | goto l => exact p2.elim
  | outgrown => exact p2.elim
theorem zgP {id : Nat} {c : Code} (h : WCf f κ P N c ⟨n, fun _ _ => False, [], p⟩ F w) : WCf f κ P N (.block id c) ⟨n, r, x, p⟩ F w := by
  intro a wI h1 h3 b k cs hro hfn
  have h0 := fenced_wide P (lone (b.atR a (.code (.block id c) :: k)) cs w)
  obtain ⟨e, a1, w1, ⟨p1, p2⟩, harr⟩ := h a wI h1 h3 b (.inBlock id :: k) cs hro hfn
  cases e with
  | normal => exact ⟨.normal, a1, w1, ⟨p1, p2⟩, .head h0 stepR_block (StepsIn.trans harr (.one (fenced_wide _ _) stepR_inBlock))⟩
  | panic ch =>
    obtain ⟨todo, hs⟩ := harr
    exact ⟨.panic ch, a1, w1, ⟨p1, p2⟩, todo, .head h0 stepR_block hs⟩
  | ret => exact p2.elim
  | exit id => obtain ⟨K, hK, _⟩ := p2; cases hK
  | goto l => exact p2.elim
  | outgrown => exact p2.elim
theorem ziY {fn : Func} {c : Code} {al : List Value} {R : Ending → World → Prop} (S : Fr → World → Prop) (Q : List PanicEntry → Fr → World → Prop) (hf : P.funcs[f]? = some fn) (hb : fn.body = some c) (hn : fn.ntmps = N) (hN : Nat.ble al.length N = true)
    (hS : ∀ (tmps : Array Value) w' w'', S (fun t => tmps.getD t undef) w' → Shut w.heap.size w' w'' → Keeps none w w'' → ∃ v, (results fn tmps).run P w'' = .ok v w'' ∧ R (.returned v) w'')
    (hQ : ∀ ch F w' w'', Q ch F w' → Shut w.heap.size w' w'' → Keeps none w w'' → R (.panicked ch) w'')
    (h : WCf f ⟨none, none, w.heap.size, false, []⟩ P N c ⟨S, S, [], Q⟩ (kJ al) w) : Calls P f al.toArray w R := by
  have hle := nQl hN
  refine (callsIn_wide (n := 0)).1 ⟨trivial, fun cs hr => ?_⟩
  have kk : ∀ w' w'', Keeps none w w' → Shut w.heap.size w' w'' → Keeps none w w'' := fun w' w'' hk hw => ⟨Nat.le_trans hk.size (Nat.le_of_eq hw.size.symm), fun D o hD hDo ho =>
    (hw.low D (Array.getElem?_eq_some_iff.1 hDo).1).trans (hk.same D o hD hDo ho)⟩
  let b : Frame := { (default : Frame) with fn := f, kind := .normal, roundOf := none }
  have henter : Frame.enter P f al.toArray .normal = b.atR { tmps := al.toArray ++ Array.replicate (fn.ntmps - al.toArray.size) undef, defers := [] } [.code c] := by
    simp [Frame.enter, Frame.atR, hf, hb, b]
  obtain ⟨e, a', w', ⟨p1, p3⟩, harr⟩ := h { tmps := al.toArray ++ Array.replicate (fn.ntmps - al.toArray.size) undef, defers := [] } w ⟨by simp [hn]; omega, Calm.nil _ _, Keeps.refl _, Nat.le_refl _⟩ (jC al _ _) b [] cs rfl rfl
  rw [← henter] at harr
  cases e with
  | normal =>
    obtain ⟨e', w'', fr', hR, hs, hfn, hl⟩ := leaves_stepsInM (P := P) (F := Fence.wide) (n := 0) (R := R) a'.defers .returning w' { b.atR a' [] with mode := .returning } cs rfl rfl rfl hf rfl trivial (room_wide _) (xG rfl _ _ p1.calm fun w'' hw => hS _ _ _ p3 hw (kk _ _ p1.keep hw))
    exact ⟨e', w'', fr', hR, ComesIn.of_steps (StepsIn.trans harr (.one (fenced_wide _ _) (stepR_end rfl))) hs, hfn, hl⟩
  | ret =>
    obtain ⟨todo, hs0⟩ := harr.1 rfl
    obtain ⟨e', w'', fr', hR, hs, hfn, hl⟩ := leaves_stepsInM (P := P) (F := Fence.wide) (n := 0) (R := R) a'.defers .returning w' { b.atR a' todo with mode := .returning } cs rfl rfl rfl hf rfl trivial (room_wide _) (xG rfl _ _ p1.calm fun w'' hw => hS _ _ _ p3 hw (kk _ _ p1.keep hw))
    exact ⟨e', w'', fr', hR, ComesIn.of_steps hs0 hs, hfn, hl⟩
  | panic ch =>
    obtain ⟨todo, hs0⟩ := harr
    obtain ⟨e', w'', fr', hR, hs, hfn, hl⟩ := leaves_stepsInM (P := P) (F := Fence.wide) (n := 0) (R := R) a'.defers (.panicking ch) w' { b.atR a' todo with mode := .panicking ch } cs rfl rfl rfl hf rfl trivial (room_wide _) (zbB rfl _ _ p1.calm fun w'' hw => hQ _ _ _ _ p3 hw (kk _ _ p1.keep hw))
    exact ⟨e', w'', fr', hR, ComesIn.of_steps hs0 hs, hfn, hl⟩
  | exit k => obtain ⟨K, hK, _⟩ := p3; cases hK
  | goto l => exact p3.elim
  | outgrown => exact p3.elim
end
def zt5 (P : Program) (k : Nat) (fi ca : List Value) (G : Gm) {α : Type} (enc : α → List Value) (xs : List α) (rows : Nat → Row) : Prop :=
  ∀ (l B : Nat) (G0 : Gm) (w0 : World) (J : Gm → List Row → Nat → World → Prop) (Jp : List PanicEntry → World → Prop) (G1 : Gm) (L1 : List Row) (w : World), Gle G G1 → Since B G0 w0 G1 w → Owns G1 w B (rows 0 :: L1) →
    (∀ G L k w G' w', J G L k w → Gle G G' → Keeps none w w' → J G' L k w') →
    (∀ G L k w x, Gle G1 G → J G L k w → Since B G0 w0 G w → Owns G w B (rows (k + 1) :: L) → xs[k]? = some x → YieldAt Fence.wide 0 P l (enc x).toArray w fun e w' =>
      Keeps (some l) w w' ∧ ((e = .returned (.bool true) ∧ ∃ G' L', Gle G G' ∧ Since B G0 w0 G' w' ∧ Owns G' w' B (rows (k + 1) :: L') ∧ J G' L' (k + 1) w') ∨ (∃ ch, e = .panicked ch ∧ Jp ch w'))) →
    J G1 L1 0 w → Calls P k (fi ++ [Value.func (.yield l) #[] #[]] ++ ca).toArray w fun e w' => Keeps (some l) w w' ∧ (((∃ v, e = .returned v) ∧ ∃ G' L', Gle G1 G' ∧ Since B G0 w0 G' w' ∧ Owns G' w' B (rows xs.length :: L') ∧ J G' L' xs.length w') ∨ (∃ ch, e = .panicked ch ∧ Jp ch w'))
section
variable {κ : Ctx} {P : Program} {N : Nat} {n r : Fr → World → Prop} {x : List (Nat × (Fr → World → Prop))} {p : List PanicEntry → Fr → World → Prop} {F : Fr} {w : World} {f : FuncId}
theorem znM {l : Nat} {fn : Func} {tmps : Array Value} {ac bd : Code} {R : Ending → World → Prop} (hfn : P.funcs[f]? = some fn)
    (h : ac.wpIn (FW (some l)) 0 P (Exit.then (fun a1 w1 => ∃ w2, (Instr.beginRound l).run P w1 = .ok () w2 ∧ bd.wpIn (FW (some l)) 0 P (fun e a w => ∃ ch, e = .panic ch ∧ a.defers = [] ∧ R (.panicked ch) w) a1 w2) (fun _ _ _ => False)) { tmps := tmps, defers := [] } w) : RoundIn Fence.wide 0 P l f tmps ac bd w R := by
  refine ⟨trivial, fun c cs hr => ?_⟩
  let b : Frame := { (default : Frame) with fn := f, kind := .normal, roundOf := some l }
  have hb0 : Frame.round l f tmps ac bd .normal = b.atR { tmps := tmps, defers := [] } [.code ac, .beginRound, .code bd] := by
    simp [Frame.round, Frame.atR, b]
  obtain ⟨e, a1, w1, hq, h1⟩ := h b [.beginRound, .code bd] (c :: cs) rfl trivial (fun d hd => by cases hd)
  rw [hb0]
  cases e with
  | normal =>
    obtain ⟨w2, hbr, hbd⟩ := hq
    obtain ⟨e2, a2, w3, ⟨ch, rfl, hd, hR⟩, todo, h2⟩ := hbd b [] (c :: cs) rfl trivial (fun d hd => by cases hd)
    have s1 : StepsIn (Machine.fenced P Fence.wide) P (lone (b.atR a1 [.beginRound, .code bd]) (c :: cs) w1) (lone (b.atR a1 [.code bd]) (c :: cs) w2) := .one (fenced_wide _ _) (stepR_beginRound rfl hbr)
    have hl : Frame.leaving P { b.atR a2 todo with mode := .panicking ch } w3 (.panicked ch) := ⟨rfl, hd, fn, hfn⟩
    exact ⟨.panicked ch, w3, hR, StepsIn.trans h1 (StepsIn.trans s1 (StepsIn.trans h2 (.one (fenced_wide _ _) (step_leave_panicked hl))))⟩
  | exit id => exact hq.elim
  | goto t => exact hq.elim
  | ret => exact hq.elim
  | panic chain => exact hq.elim
  | outgrown => exact hq.elim
theorem zgO {α : Type} {fn0 : Func} {g : Operand} {ps : Array Tmp} {assign body : Code} {G0 G : Gm} {w0 : World} {B : Nat} {L : List Row} {k : Nat} {fi ca : List Value} {enc : α → List Value} {xs : List α} {rows : Nat → Row}
    (hf : P.funcs[f]? = some fn0) (hk : zJ P k = true) (it : zt5 P k fi ca G enc xs rows) (hg : ev F g = .func (.func k) fi.toArray ca.toArray) (hps : ∀ y, (enc y).length = ps.size) (hpN : (ps.toList.all fun q => Nat.blt q N) = true)
    (bad : Nat → Bool) (Ψ : Nat → Gm → List Row → Prop) (Pp : Nat → List PanicEntry → Gm → List Row → Prop) (hΨ : ∀ i G G' L, Gle G G' → Ψ i G L → Ψ i G' L)
    (hS : Since B G0 w0 G w) (hO : Owns G w B (rows 0 :: L)) (h0 : Ψ 0 G L)
    (round : ∀ (l i : Nat) (y : α) (G' : Gm) (w' : World) (L' : List Row), xs[i]? = some y → Gle G G' → Since B G0 w0 G' w' → Owns G' w' B (rows (i + 1) :: L') → Ψ i G' L' →
      WC ⟨some l, none, 0, true, []⟩ P N assign ⟨fun F1 w1 => ∀ w2, FixStep B w1 w2 → WC ⟨some l, none, 0, true, []⟩ P N body
        ⟨fun _ w3 => bad i = false ∧ ∃ G3 L3, Gle G' G3 ∧ Since B G0 w0 G3 w3 ∧ Owns G3 w3 B (rows (i + 1) :: L3) ∧ Ψ (i + 1) G3 L3, fun _ _ => False, [],
         fun ch _ w3 => bad i = true ∧ ∃ G3 L3, Gle G' G3 ∧ Since B G0 w0 G3 w3 ∧ Owns G3 w3 B (rows (i + 1) :: L3) ∧ Pp i ch G3 L3⟩ F1 w2,
        fun _ _ => False, [], fun _ _ _ => False⟩ (params F (ps.toList.zip (enc y))) w')
    (done : ∀ G' w' L', (∀ i, i < xs.length → bad i = false) → Gle G G' → Since B G0 w0 G' w' → Owns G' w' B (rows xs.length :: L') → Ψ xs.length G' L' → n F w')
    (pan : ∀ i ch G' w' L', i < xs.length → bad i = true → (∀ j, j < i → bad j = false) → Gle G G' → Since B G0 w0 G' w' → Owns G' w' B (rows (i + 1) :: L') → Pp i ch G' L' → p ch F w')
    (hex : κ.ex = none := by rfl) (hnm : κ.nm = false := by rfl) (hdf : κ.df = [] := by rfl) : WCf f κ P N (.rangeFunc g ps assign body) ⟨n, r, x, p⟩ F w := by
  intro a wI st hF b kk cs hro hfn
  have hev : a.eval g = .func (.func k) fi.toArray ca.toArray := by rw [qT, hF]; exact hg
  obtain ⟨rec, hrec⟩ : ∃ rec : LoopState → Option Code → Loop, rec = fun st pe => { state := st, pending := pe, fn := f, tmps := a.tmps, params := ps, assign, body, defers := w.heap.size } := ⟨_, rfl⟩
  obtain ⟨W1, hW1⟩ : ∃ W1, (w.alloc (.deferred (some []))).alloc (.loop (rec .ready none)) = W1 := ⟨_, rfl⟩
  have hL1 : W1.heap[w.heap.size + 1]? = some (.loop (rec .ready none)) := by
    rw [← hW1]; have := World.alloc_heap_new (w.alloc (.deferred (some []))) (.loop (rec .ready none)); rwa [World.size_alloc] at this
  have hK1 : W1.heap[w.heap.size]? = some (.deferred (some [])) := by
    rw [← hW1]; exact (Below.heap_alloc _ _ _ (by simp)).trans (World.alloc_heap_new w _)
  have hb1 : Below w.heap.size w W1 := by
    rw [← hW1]; exact ((Below.refl _ w).alloc (Nat.le_refl _) _).alloc (by simp) _
  have hBl : B ≤ w.heap.size + 1 := Nat.le_succ_of_le hS.base
  have kept : ∀ (w' : World), Keeps (some (w.heap.size + 1)) W1 w' → Keeps none w w' := fun w' hk' => ⟨Nat.le_trans hb1.size hk'.size, fun D o _ hD ho => by
    have hlt := (Array.getElem?_eq_some_iff.1 hD).1
    exact hk'.same D o (by simp; omega) ((hb1.block D hlt).trans hD) ho⟩
  have putK : ∀ (w' : World) (o : Obj), Keeps none w w' → Keeps none w (w'.putObj (w.heap.size + 1) o) := fun w' o hk' => ⟨by simpa using hk'.size, fun D o' h hD ho => by
    have hlt := (Array.getElem?_eq_some_iff.1 hD).1
    exact (World.putObj_heap_other (by omega)).trans (hk'.same D o' h hD ho)⟩
  have hst : ∀ (w2 : World), Keeps none w w2 → w2.heap[w.heap.size]? = some (.deferred (some [])) → St κ N wI { a with defers := [{ target := .collected w.heap.size, args := #[] }] ++ a.defers } w2 := fun w2 h1 hD2 => by
    have h2 : Keeps κ.ex w w2 := by rw [hex]; exact h1
    have hc := st.calm.keep h2
    refine ⟨st.size, ⟨fun d hd => ?_, List.pairwise_cons.2 ⟨fun e he => ?_, hc.apart⟩, fun h => by rw [hnm] at h; cases h⟩, st.keep.trans h2, Nat.le_trans st.base h2.size⟩
    · rcases List.mem_cons.1 hd with rfl | hd
      · exact .inr ⟨_, rfl, hD2, by rw [hex]; simp, st.base⟩
      · exact hc.each d hd
    · obtain ⟨D, hD, hD2, _, _⟩ := (st.calm.each e he).resolve_left (by rw [hdf]; simp)
      have hlt := (Array.getElem?_eq_some_iff.1 hD2).1
      rw [hD]
      intro h
      injection h with h
      omega
  have he : (Instr.enterLoop b.fn a.tmps ps assign body b.roundOf).run P w = .ok (w.heap.size + 1, [{ target := .collected w.heap.size, args := #[] }]) W1 := by
    rw [hfn, hro, ← hW1, hrec]; exact run_enterLoop_outer _ _ _ _ _
  have hres : (resolve a.eval (rangeCall g (w.heap.size + 1)) 0).run P W1 = .ok { target := .fn (.func k) ca.toArray, args := fi.toArray ++ #[.func (.yield (w.heap.size + 1)) #[] #[]] } W1 := by
    simp only [resolve, hev]
    simp [go_sem, Deferred.ofValue]
  have hinv : (invoke (.fn (.func k) ca.toArray) (fi.toArray ++ #[.func (.yield (w.heap.size + 1)) #[] #[]])).run P W1 = .ok (.enter k (fi ++ [Value.func (.yield (w.heap.size + 1)) #[] #[]] ++ ca).toArray) W1 := by
    unfold zJ at hk
    split at hk
    · rename_i fn' hf'
      simp only [Bool.and_eq_true, Bool.not_eq_true'] at hk
      obtain ⟨c, hb⟩ := Option.isSome_iff_exists.1 hk.2
      have hn : ¬ fn'.name = "runtime.NumGoroutine" := by simpa using hk.1
      simp [invoke, callFunc, hf', hn, hb]
    · cases hk
  have henter := stepR_rangeFunc (P := P) (b := b) (a := a) (k := kk) (cs := cs) (w := w) he hres hinv
  have hS1 : Since B G0 w0 G W1 := by rw [← hW1]; exact (hS.alloc _).alloc _
  have hO1 : Owns G W1 B (rows 0 :: L) := by rw [← hW1]; exact (hO.alloc _).alloc _
  have hcall := it (w.heap.size + 1) B G0 w0
    (fun G' L' i w' => (∀ j, j < i → bad j = false) ∧ Gle G G' ∧ Ψ i G' L' ∧ Keeps (some (w.heap.size + 1)) W1 w' ∧ w'.heap[w.heap.size + 1]? = some (.loop (rec .ready none)))
    (fun ch w' => ∃ i G' L', i < xs.length ∧ bad i = true ∧ (∀ j, j < i → bad j = false) ∧ Gle G G' ∧ Since B G0 w0 G' w' ∧ Owns G' w' B (rows (i + 1) :: L') ∧ Pp i ch G' L' ∧ Keeps (some (w.heap.size + 1)) W1 w')
    G L W1 (Gle.refl G) hS1 hO1
    (by
      rintro G1 L' i w1 G2 w2 ⟨h1, h2, h5, h6, h7⟩ hle hkp
      exact ⟨h1, h2.trans hle, hΨ _ _ _ _ hle h5, h6.trans hkp.weak, hkp.same _ _ (by simp) h7 rfl⟩)
    (by
      rintro G1 L' i w1 y _ ⟨h1, h2, h5, h6, h7⟩ h3 h4 hy
      have hsz : (enc y).toArray.size = (rec .ready none).params.size := by rw [hrec]; simpa using hps y
      have hyr := run_yield (P := P) (args := (enc y).toArray) h7 hsz
      rw [hrec] at hyr
      have hilt : i < xs.length := (List.getElem?_eq_some_iff.1 hy).1
      have hfold : (ps.zip (enc y).toArray).foldl (fun tmps (t, a) => tmps.setIfInBounds t a) a.tmps = (ps.toList.zip (enc y)).foldl (fun t (q : Tmp × Value) => t.setIfInBounds q.1 q.2) a.tmps := by
        rw [← Array.foldl_toList, Array.toList_zip]
      have hall : ∀ q ∈ ps.toList.zip (enc y), q.1 < a.tmps.size := fun q hq => by
        have h8 := List.all_eq_true.1 hpN q.1 (List.of_mem_zip hq).1
        rw [st.size]; exact za8 h8
      have hround := round (w.heap.size + 1) i y G1 w1 L' hy h2 h3 h4 h5 ⟨(ps.toList.zip (enc y)).foldl (fun t (q : Tmp × Value) => t.setIfInBounds q.1 q.2) a.tmps, []⟩ w1
        ⟨(zdD _ _).trans st.size, Calm.nil _ _, .refl _, Nat.zero_le _⟩ ((zdM _ _ _ a.defers hall).trans (by rw [← hF]))
      refine ⟨f, _, assign, body, hyr, ?_⟩
      simp only []
      rw [hfold]
      cases hbad : bad i with
      | true =>
        refine znM hf (wpIn_mono hround ?_)
        rintro e a1 w2 ⟨st1, post⟩
        cases e with
        | normal =>
          have hl2 := st1.keep.same _ _ (by simp) h7 rfl
          refine ⟨_, run_beginRound hl2 (by rw [hrec]), ?_⟩
          have hfix : FixStep B w2 (w2.putObj (w.heap.size + 1) (.loop { rec .ready none with state := .busy })) := .put hBl hl2 rfl _
          have hd1 := st1.calm.none rfl
          have hcalm : Calm ⟨some (w.heap.size + 1), none, 0, true, []⟩ a1.defers (w2.putObj (w.heap.size + 1) (.loop { rec .ready none with state := .busy })) := by rw [hd1]; exact Calm.nil _ _
          refine wpIn_mono (post _ hfix a1 _ ⟨st1.size, hcalm, .refl _, Nat.zero_le _⟩ rfl) ?_
          rintro e a3 w3 ⟨st3, post3⟩
          cases e with
          | panic ch =>
            obtain ⟨_, G3, L3, q1, q2, q3, q4⟩ := post3
            have hkp : Keeps (some (w.heap.size + 1)) w1 w3 := (st1.keep.weak.trans (.put rfl)).trans st3.keep.weak
            exact ⟨ch, rfl, st3.calm.none rfl, hkp, .inr ⟨ch, rfl, i, G3, L3, hilt, hbad, h1, h2.trans q1, q2, q3, q4, h6.trans hkp⟩⟩
          | normal => rw [post3.1] at hbad; cases hbad
          | ret => exact post3.elim
          | exit id => obtain ⟨K, hK, _⟩ := post3; cases hK
          | goto l => exact post3.elim
          | outgrown => exact post3.elim
        | ret => exact post.elim
        | exit id => obtain ⟨K, hK, _⟩ := post; cases hK
        | goto l => exact post.elim
        | panic c => exact post.elim
        | outgrown => exact post.elim
      | false =>
        refine roundIn_of_wpIn (F := Fence.wide) trivial (wpIn_mono hround ?_)
        rintro e a1 w2 ⟨st1, post⟩
        cases e with
        | normal =>
          have hl2 := st1.keep.same _ _ (by simp) h7 rfl
          refine ⟨_, run_beginRound hl2 (by rw [hrec]), ?_⟩
          have hfix : FixStep B w2 (w2.putObj (w.heap.size + 1) (.loop { rec .ready none with state := .busy })) := .put hBl hl2 rfl _
          have hd1 := st1.calm.none rfl
          have hcalm : Calm ⟨some (w.heap.size + 1), none, 0, true, []⟩ a1.defers (w2.putObj (w.heap.size + 1) (.loop { rec .ready none with state := .busy })) := by rw [hd1]; exact Calm.nil _ _
          refine wpIn_mono (post _ hfix a1 _ ⟨st1.size, hcalm, .refl _, Nat.zero_le _⟩ rfl) ?_
          rintro e a3 w3 ⟨st3, post3⟩
          have hl2' : (w2.putObj (w.heap.size + 1) (.loop { rec .ready none with state := .busy })).heap[w.heap.size + 1]? = some (.loop { rec .ready none with state := .busy }) := World.putObj_heap_same (Array.getElem?_eq_some_iff.1 hl2).1
          have hl3 := st3.keep.same _ _ (by simp) hl2' rfl
          cases e with
          | normal =>
            obtain ⟨_, G3, L3, q1, q2, q3, q4⟩ := post3
            have f1 := run_endRound (P := P) none hl3
            have f3 : FixStep B w3 (w3.putObj (w.heap.size + 1) (.loop (rec .ready none))) := .put hBl hl3 rfl _
            have f2 : Keeps (some (w.heap.size + 1)) w1 (w3.putObj (w.heap.size + 1) (.loop (rec .ready none))) := ((st1.keep.weak.trans (.put rfl)).trans st3.keep.weak).trans (.put rfl)
            refine ⟨_, w3.putObj (w.heap.size + 1) (.loop (rec .ready none)), by rw [hrec] at f1 ⊢; exact f1, f2, .inl ⟨rfl, G3, L3, q1, q2.fix f3, q3.fix f3, fun j hj => ?_, h2.trans q1, q4, h6.trans f2, World.putObj_heap_same (Array.getElem?_eq_some_iff.1 hl3).1⟩⟩
            rcases Nat.lt_or_ge j i with h' | h'
            · exact h1 j h'
            · obtain rfl : j = i := by omega
              exact hbad
          | panic ch => rw [post3.1] at hbad; cases hbad
          | ret => exact post3.elim
          | exit id => obtain ⟨K, hK, _⟩ := post3; cases hK
          | goto l => exact post3.elim
          | outgrown => exact post3.elim
        | ret => exact post.elim
        | exit id => obtain ⟨K, hK, _⟩ := post; cases hK
        | goto l => exact post.elim
        | panic c => exact post.elim
        | outgrown => exact post.elim)
    ⟨fun j hj => by omega, Gle.refl G, h0, .refl _, hL1⟩
  obtain ⟨e, w3, fr, ⟨hkeep, hR⟩, hsteps, hfnr, hleave⟩ := ((callsIn_wide (n := 0)).2 hcall).2 (b.atR { a with defers := [{ target := .collected w.heap.size, args := #[] }] ++ a.defers } (.inRangeFunc (w.heap.size + 1) :: kk) :: cs) (room_wide _)
  rcases hR with ⟨⟨v, rfl⟩, G2, L', hle2, h3, h4, h1, h2, h5, h6, h7⟩ | ⟨ch, rfl, i, G2, L', hi, hbad, h1, h2, h3, h4, h5, h6⟩
  · have hend : (Instr.endLoop (w.heap.size + 1)).run P w3 = .ok none (w3.putObj (w.heap.size + 1) (.loop { rec .ready none with state := .exhausted })) := by
      have := run_endLoop (P := P) h7 (by rw [hrec]; simp)
      rw [hrec] at this ⊢
      exact this
    have hfix : FixStep B w3 (w3.putObj (w.heap.size + 1) (.loop { rec .ready none with state := .exhausted })) := .put hBl h7 rfl _
    refine ⟨.normal, { a with defers := [{ target := .collected w.heap.size, args := #[] }] ++ a.defers }, w3.putObj (w.heap.size + 1) (.loop { rec .ready none with state := .exhausted }), ⟨hst _ (putK _ _ (kept _ hkeep)) ((World.putObj_heap_other (by omega)).trans (hkeep.same _ _ (by simp) hK1 rfl)), ?_⟩, ?_⟩
    · show n (yO a) _
      rw [hF]
      exact done G2 _ L' h1 h2 (h3.fix hfix) (h4.fix hfix) h5
    · refine .head (fenced_wide _ _) henter (StepsIn.trans hsteps (.head (fenced_wide _ _) ?_ (.one (fenced_wide _ _) (stepR_endRangeFunc hend))))
      rw [← finish_atR_inRangeFunc (w.heap.size + 1) v]
      exact step_leave_returned hleave
  · refine ⟨.panic ch, { a with defers := [{ target := .collected w.heap.size, args := #[] }] ++ a.defers }, w3, ⟨hst _ (kept _ hkeep) (hkeep.same _ _ (by simp) hK1 rfl), ?_⟩, .inRangeFunc (w.heap.size + 1) :: kk, .head (fenced_wide _ _) henter (StepsIn.trans hsteps (.one (fenced_wide _ _) ?_))⟩
    · show p ch (yO a) _
      rw [hF]
      exact pan i ch G2 _ L' hi hbad h1 h2 h3 h4 h5
    · rw [← Frame.raise_atR]
      exact step_leave_panicked hleave
end
set_option maxRecDepth 20000
section
variable {κ : Ctx} {p : List PanicEntry → Fr → World → Prop} {P : Program} {N : Nat} {F : Fr} {w : World} {K : Fr → World → Prop} {ty : TypeId} {pos : String} {af : Array Edge} {gd : Option (Nat × Bool)}
theorem zdA {d k : Nat} {X : Operand} {args : Array Operand} {ats : Array TypeId} {al fi ca : List Value} {B : Nat} {G0 : Gm} {w0 : World} {Gc : Gm} {Φ : Gm → List Row → Value → Prop} (hk : zJ P k = true) (hc : Calls P k (fi ++ al ++ ca).toArray w (jP B G0 w0 Gc w Φ)) (hx : ev F X = .func (.func k) fi.toArray ca.toArray) (ha : args.toList.map (ev F) = al) (hd : Nat.blt d N = true)
  (h : ∀ v G' w' L', Keeps none w w' → Gle Gc G' → Since B G0 w0 G' w' → Owns G' w' B L' → Φ G' L' v → K (upd F d v) w') : OpP κ P N p ⟨some d, .call { callee := .value X, args := args, argTypes := ats }, ty, pos, af, gd⟩ F w K :=
 jd (zci hk hx ha) hd hc fun _ _ ⟨v, h1, h2, G', L', q1, q2, q3, q4⟩ => ⟨v, h1, h2.weak, h v G' _ L' h2 q1 q2 q3 q4⟩
theorem zsN {f : FuncId} {fn : Func} {c : Code} {al : List Value} {R : Ending → World → Prop} {l : Nat} (hf : P.funcs[f]? = some fn) (hb : fn.body = some c) (hr : fn.results = #[]) (hn : fn.ntmps = N) (hN : Nat.ble al.length N = true)
  (h : WC ⟨none, some l, w.heap.size, true, []⟩ P N c ⟨fun _ w' => Keeps (some l) w w' → R (.returned (.tuple #[])) w', fun _ w' => Keeps (some l) w w' → R (.returned (.tuple #[])) w', [], fun ch _ w' => Keeps (some l) w w' → R (.panicked ch) w'⟩ (kJ al) w) : Calls P f al.toArray w R := by
 have hle := nQl hN
 have hres : ∀ (tmps : Array Value) w', (results fn tmps).run P w' = .ok (.tuple #[]) w' := by
  intro tmps w'
  simp [results, hr]
 have h0 : CallsIn Fence.wide 0 P f al.toArray w R := by
  refine callsIn_of_wp hf hb trivial (wpIn_mono (h _ w ⟨?_, Calm.nil _ _, Keeps.refl _, Nat.le_refl _⟩ ?_) ?_)
  ·simp [hn]; omega
  ·exact jC al _ _
  ·rintro e a' w' ⟨p1, p3⟩
   cases e with
   | normal => exact ⟨p1.calm.none rfl, _, hres _ _, p3 p1.keep⟩
   | ret => exact ⟨p1.calm.none rfl, _, hres _ _, p3 p1.keep⟩
   | exit k => obtain ⟨K, hK, _⟩ := p3; cases hK
   | goto l => exact p3.elim
   | panic c => exact ⟨p1.calm.none rfl, p3 p1.keep⟩
   | outgrown => exact p3.elim
 exact callsIn_wide.1 h0
end
section
variable {P : Program} {F : Fr} {w : World} {d : Option Nat} {X : Operand} {ty : TypeId} {pos : String} {af : Array Edge} {gd : Option (Nat × Bool)} {b : Nat}
theorem zk1 (hx : ev F X = pV b) : (execOp (ev F) ⟨d, .nilCheck X, ty, pos, af, gd⟩).run P w = .ok (.value (pV b)) w := by
 simp only [execOp, hx]; rfl
theorem znN {Y : Operand} {u v : Int} (hx : ev F X = iV u) (hy : ev F Y = iV v) : (execOp (ev F) ⟨d, .build 71 #[(0, X), (1, Y)], ty, pos, af, gd⟩).run Tryz.prog w = .ok (.value (.agg #[iV u, iV v])) w := by
 simp only [execOp, List.map_toArray, List.map_cons, List.map_nil, hx, hy]
 kernel_rfl
end
structure DSt where
 day : Int
 en : Int
 ca : Int
 l0 : Int
 l1 : Int
 l2 : Int
 l3 : Int
 l4 : Int
 l5 : Int
abbrev rowD (b : Nat) (S : jQ) (s : DSt) : Row := rowR b S s.day s.en s.ca s.l0 s.l1 s.l2 s.l3 s.l4 s.l5
def zgV (S : jQ) (en : Int) (x : UInt8) : Int := if S.size * S.q < en + yK S x * S.p then S.size * S.q else en + yK S x * S.p
def qQ (S : jQ) (d : Nat) (x : UInt8) (s : DSt) : DSt := ⟨d, zgV S s.en x, s.ca, s.l0, s.l1 + yK S x * S.p, s.l2, s.l3 + (s.en + yK S x * S.p) - zgV S s.en x, s.l4, s.l5⟩
def zgE (S : jQ) (ls : List zE) (o : Nat) (s : DSt) : DSt := ⟨s.day, (yI ls o s.en s.l2 ls.length).1, ((yI ls o s.en s.l2 ls.length).2.1 : Nat), s.l0, s.l1, (yI ls o s.en s.l2 ls.length).2.2, s.l3, s.l4, s.l5⟩
def zyb (S : jQ) (s : DSt) : DSt := ⟨s.day, s.en - s.en * S.fade / 1000, s.ca, s.l0, s.l1, s.l2, s.l3, s.l4 + s.en * S.fade / 1000, s.l5⟩
def zi1 (S : jQ) (ls : List zE) (o d : Nat) (x : UInt8) (s : DSt) : DSt := zyb S (zgE S ls o (qQ S d x s))
def stK (S : jQ) (ls : List zE) (o : Nat) (s0 : DSt) : Nat → DSt
 | 0 => s0
 | k + 1 => match S.wt[k]? with
  | some x => zi1 S ls o k x (stK S ls o s0 k)
  | none => stK S ls o s0 k
structure SysOk (S : jQ) : Prop where
 cl : 0 ≤ S.cloudy ∧ S.cloudy ≤ S.sunny
 su : S.sunny ≤ 1000000
 sz : 0 ≤ S.size ∧ S.size ≤ 1000000
 fd : 0 ≤ S.fade ∧ S.fade ≤ 1000
 st : 0 ≤ S.start ∧ S.start ≤ 1000
 pp : 0 ≤ S.p ∧ S.p ≤ 12
 qq : 0 ≤ S.q ∧ S.q ≤ 8
theorem SysOk.hold {S : jQ} (h : SysOk S) : 0 ≤ S.size * S.q ∧ S.size * S.q ≤ 8000000 := by
 have h1 := Int.mul_nonneg h.sz.1 h.qq.1
 have h2 := Int.mul_le_mul h.sz.2 h.qq.2 h.qq.1 (by decide)
 exact ⟨h1, by omega⟩
theorem SysOk.given {S : jQ} (h : SysOk S) (x : UInt8) : 0 ≤ yK S x * S.p ∧ yK S x * S.p ≤ 12000000 := by
 have h3 := h.cl
 have h4 := h.su
 have he : 0 ≤ yK S x ∧ yK S x ≤ 1000000 := by unfold yK; split <;> omega
 have h1 := Int.mul_nonneg he.1 h.pp.1
 have h2 := Int.mul_le_mul he.2 h.pp.2 h.pp.1 (by decide)
 exact ⟨h1, by omega⟩
structure BdD (s : DSt) (k : Nat) : Prop where
 en : 0 ≤ s.en ∧ s.en ≤ 8000000
 l1 : 0 ≤ s.l1 ∧ s.l1 ≤ 20000000 * (k : Int)
 l2 : 0 ≤ s.l2 ∧ s.l2 ≤ 5000000 * (k : Int)
 l3 : 0 ≤ s.l3 ∧ s.l3 ≤ 20000000 * (k : Int)
 l4 : 0 ≤ s.l4 ∧ s.l4 ≤ 8000000 * (k : Int)
section
variable {S : jQ} {ls : List zE} {o : Nat} {s0 : DSt}
theorem zdq {s : DSt} {k d : Nat} {x : UInt8} (h : SysOk S) (hs : BdD s k) : (0 ≤ (qQ S d x s).en ∧ (qQ S d x s).en ≤ 8000000) ∧ s.l1 ≤ (qQ S d x s).l1 ∧ (qQ S d x s).l1 ≤ s.l1 + 12000000 ∧ s.l3 ≤ (qQ S d x s).l3 ∧ (qQ S d x s).l3 ≤ s.l3 + 20000000 := by
 have h1 := h.hold
 have h2 := h.given x
 have h3 := hs.en
 have he : 0 ≤ zgV S s.en x ∧ zgV S s.en x ≤ 8000000 ∧ zgV S s.en x ≤ s.en + yK S x * S.p := by
  unfold zgV
  split <;> omega
 refine ⟨⟨he.1, he.2.1⟩, ?_, ?_, ?_, ?_⟩
 ·show s.l1 ≤ s.l1 + yK S x * S.p; omega
 ·show s.l1 + yK S x * S.p ≤ _; omega
 ·show s.l3 ≤ s.l3 + (s.en + yK S x * S.p) - zgV S s.en x; omega
 ·show s.l3 + (s.en + yK S x * S.p) - zgV S s.en x ≤ _; omega
theorem zlS {e f : Int} (he : 0 ≤ e) (hf : 0 ≤ f ∧ f ≤ 1000) : 0 ≤ e * f / 1000 ∧ e * f / 1000 ≤ e := by
 have m0 : 0 ≤ e * f := Int.mul_nonneg he hf.1
 have m2 : e * f ≤ e * 1000 := Int.mul_le_mul_of_nonneg_left hf.2 he
 omega
theorem zsR {s : DSt} {k d : Nat} {x : UInt8} (h : SysOk S) (hl : zhV ls) (hs : BdD s k) : BdD (zi1 S ls o d x s) (k + 1) := by
 obtain ⟨⟨e1, e2⟩, q1, q2, q3, q4⟩ := zdq (d := d) (x := x) h hs
 have hfew := hl.few
 have hh1 := hs.l1
 have hh2 := hs.l2
 have hh3 := hs.l3
 have hh4 := hs.l4
 obtain ⟨k1, k2, _, k4, k5⟩ := zaF hl (off := o) (u := s.l2) e1 ls.length
 have hf := zlS k1 h.fd
 refine ⟨⟨?_, ?_⟩, ⟨?_, ?_⟩, ⟨?_, ?_⟩, ⟨?_, ?_⟩, ⟨?_, ?_⟩⟩
 ·show 0 ≤ (yI ls o (qQ S d x s).en s.l2 ls.length).1 - (yI ls o (qQ S d x s).en s.l2 ls.length).1 * S.fade / 1000; omega
 ·show (yI ls o (qQ S d x s).en s.l2 ls.length).1 - (yI ls o (qQ S d x s).en s.l2 ls.length).1 * S.fade / 1000 ≤ _
  omega
 ·show 0 ≤ (qQ S d x s).l1; omega
 ·show (qQ S d x s).l1 ≤ _; omega
 ·show 0 ≤ (yI ls o (qQ S d x s).en s.l2 ls.length).2.2; omega
 ·show (yI ls o (qQ S d x s).en s.l2 ls.length).2.2 ≤ _; omega
 ·show 0 ≤ (qQ S d x s).l3; omega
 ·show (qQ S d x s).l3 ≤ _; omega
 ·show 0 ≤ s.l4 + (yI ls o (qQ S d x s).en s.l2 ls.length).1 * S.fade / 1000; omega
 ·show s.l4 + (yI ls o (qQ S d x s).en s.l2 ls.length).1 * S.fade / 1000 ≤ _
  omega
theorem BdD.succ {s : DSt} {k : Nat} (h : BdD s k) : BdD s (k + 1) := by
 obtain ⟨h1, h2, h3, h4, h5⟩ := h
 exact ⟨h1, by omega, by omega, by omega, by omega⟩
theorem zjF (h : SysOk S) (hl : zhV ls) (hs : BdD s0 0) : ∀ k, BdD (stK S ls o s0 k) k
 | 0 => hs
 | k + 1 => by
  have ih := zjF h hl hs k
  unfold stK
  split
  ·exact zsR h hl ih
  ·exact ih.succ
end
abbrev zx9 (S : jQ) (ls : List zE) (o : Nat) (s0 : DSt) (k : Nat) : List Value := [iV (k : Int), .agg #[iV (stK S ls o s0 (k + 1)).en, iV (stK S ls o s0 (k + 1)).ca]]
theorem zf7 : qx Tryz.prog 45 6 = some 6 := by kernel_rfl
theorem zyk : zJ Tryz.prog 92 = true := by kernel_rfl
theorem zyj : zJ Tryz.prog 93 = true := by kernel_rfl
theorem zyi : zJ Tryz.prog 94 = true := by kernel_rfl
set_option maxHeartbeats 4000000 in
theorem zpy {G : Gm} {b D : Nat} {S : jQ} {ls : List zE} {o : Nat} {s0 : DSt} (hl : RSl zO 3 G S.la S.ln S.lc ls) (hok : SysOk S) (hls : zhV ls) (ho : S.off = (o : Int)) (ho2 : o < 32) (hD : S.days = (D : Int)) (hD2 : D ≤ 10) (hw : S.wt.length = D) (hs0 : BdD s0 0) :
  zt5 Tryz.prog 40 [pV b] [] G (zx9 S ls o s0) (List.range D) (fun k => rowD b S (stK S ls o s0 k)) := by
 intro l B G0 w0 J Jp G1 L1 w hle hS hO hmono hy h0
 have hsys := hok.hold
 refine zsN (l := l) (N := 46) Tryz.func40 rfl rfl rfl rfl ?_
 refine zd (zb (za (zc (v := pV b) rfl) rfl (za (v := pV b) (by kernel_rfl) rfl (za (zk zbK rfl) rfl (za (zk zf7 rfl) rfl (za (v := iV (D : Int)) (by rw [← hD]; exact zo n3 rfl (zr hO (k := 0) rfl rfl)) rfl (za (zc (v := iV 0) rfl) rfl (ze ?_))))))))
 refine zp (qh (qN D (fun i F w' => ∃ Fb G L, F = qi Fb [(0, pV b), (1, .func (.yield l) #[] #[]), (11, iV (D : Int)), (12, iV (i : Int))] ∧ Gle G1 G ∧ Since B G0 w0 G w' ∧ Owns G w' B (rowD b S (stK S ls o s0 i) :: L) ∧ J G L i w') ?_ ?_ D 0 _ _ (by omega) ⟨_, G1, L1, zi _ _ ⟨rfl, rfl, rfl, rfl, trivial⟩, Gle.refl _, hS, hO, h0⟩))
 ·rintro i F w' hi ⟨Fb, G2, L, rfl, le, hS, hO, hJ⟩
  have hiw : i < S.wt.length := by omega
  have hst : stK S ls o s0 (i + 1) = zi1 S ls o i S.wt[i] (stK S ls o s0 i) := by
   conv => lhs; unfold stK
   rw [List.getElem?_eq_getElem hiw]
  have hbd := zjF (o := o) hok hls hs0 i
  have hen := hy
  generalize hx : S.wt[i] = x at hst
  generalize hs : stK S ls o s0 i = s at hO hst hbd
  have hgx := hok.given x
  obtain ⟨⟨e1, e2⟩, q1, q2, q3, q4⟩ := zdq (d := i) (x := x) hok hbd
  obtain ⟨k1, k2, _, k4, k5⟩ := zaF hls (off := o) (u := s.l2) e1 ls.length
  have hb1 := hbd.en
  have hb2 := hbd.l1
  have hb3 := hbd.l2
  have hb4 := hbd.l3
  have hb5 := hbd.l4
  have hfd := hok.fd
  refine zd (zb (za (zN rfl rfl) rfl (ze (zd (zQ (decide ((i : Int) < (D : Int))) (decide_eq_true (by omega)) rfl (zq ?_))))))
  refine zd (zZ (fun F w' => ∃ Fb G L, F = qi Fb [(0, pV b), (1, .func (.yield l) #[] #[]), (11, iV (D : Int)), (12, iV (i : Int))] ∧ Gle G1 G ∧ Since B G0 w0 G w' ∧ Owns G w' B (rowD b S (stK S ls o s0 (i + 1)) :: L) ∧ J G L (i + 1) w') ?_ ?_)
  ·refine zp (zd (zb (za (zc (v := iV (i : Int)) rfl) rfl (za (zf (v := iV (i : Int)) rfl) rfl (ze ?_)))))
   refine zd (zb (za (zc (v := pV b) rfl) rfl (za (zc (v := iV (i : Int)) rfl) rfl (za (v := pV b) (by kernel_rfl) rfl (za (zk znT rfl) rfl ?_)))))
   refine zm rfl (zkI (vs := [iV (i : Int)]) z3 hS hO (k := 0) rfl rfl rfl rfl rfl (zU rfl) (nQl rfl) fun w1 hk1 hS hO => ze ?_)
   have hO : Owns G2 w1 B (rowR b S i s.en s.ca s.l0 s.l1 s.l2 s.l3 s.l4 s.l5 :: L) := hO
   have hJ := hmono _ _ _ _ _ _ hJ (Gle.refl _) hk1
   refine zd (zd (zb (za (zc (v := pV b) rfl) rfl (za (v := .func (.func 92) #[pV b] #[]) (yu (vs := [pV b]) (us := []) rfl rfl) rfl (za (zc (v := pV b) rfl) rfl (za (v := .func (.func 93) #[pV b] #[]) (yu (vs := [pV b]) (us := []) rfl rfl) rfl (za (zc (v := pV b) rfl) rfl (za (v := .func (.func 94) #[pV b] #[]) (yu (vs := [pV b]) (us := []) rfl rfl) rfl (za (v := .agg #[.func (.func 92) #[pV b] #[], .func (.func 93) #[pV b] #[], .func (.func 94) #[pV b] #[]]) (by kernel_rfl) rfl (za (zc (v := iV 0) rfl) rfl (ze ?_)))))))))))
   refine zZ (fun F w' => ∃ Fb G3, F = qi Fb [(0, pV b), (1, .func (.yield l) #[] #[]), (4, iV (i : Int)), (11, iV (D : Int)), (12, iV (i : Int))] ∧ Gle G2 G3 ∧ Since B G0 w0 G3 w' ∧ Owns G3 w' B (rowD b S (stK S ls o s0 (i + 1)) :: L) ∧ J G3 L i w') ?_ ?_
   ·let R4 : Nat → Fr → World → Prop := fun j F w' => ∃ Fb G3, F = qi Fb [(0, pV b), (1, .func (.yield l) #[] #[]), (4, iV (i : Int)), (11, iV (D : Int)), (12, iV (i : Int)), (25, .agg #[.func (.func 92) #[pV b] #[], .func (.func 93) #[pV b] #[], .func (.func 94) #[pV b] #[]]), (26, iV (j : Int))] ∧ Gle G2 G3 ∧ Since B G0 w0 G3 w' ∧ Owns G3 w' B (rowD b S (match j with | 0 => ⟨i, s.en, s.ca, s.l0, s.l1, s.l2, s.l3, s.l4, s.l5⟩ | 1 => qQ S i x s | 2 => zgE S ls o (qQ S i x s) | _ => zi1 S ls o i x s) :: L) ∧ J G3 L i w'
    refine zp (qh (qN 3 R4 ?_ ?_ 3 0 _ _ (by omega) ⟨_, G2, zi _ _ ⟨rfl, rfl, rfl, rfl, rfl, rfl, rfl, trivial⟩, Gle.refl _, hS, hO, hJ⟩))
    ·rintro j F w2 hj ⟨Fb, G3, rfl, le3, hS, hO, hJ⟩
     have hj3 : j = 0 ∨ j = 1 ∨ j = 2 := by omega
     refine zd (zb (za (zN rfl rfl) rfl (ze (zd (zQ (decide ((j : Int) < 3)) (decide_eq_true (by omega)) rfl (zq ?_))))))
     have fin : ∀ F w3 G4, F 0 = pV b → F 1 = .func (.yield l) #[] #[] → F 4 = iV (i : Int) → F 11 = iV (D : Int) → F 12 = iV (i : Int) → F 25 = .agg #[.func (.func 92) #[pV b] #[], .func (.func 93) #[pV b] #[], .func (.func 94) #[pV b] #[]] → F 26 = iV (j : Int) → Keeps none w2 w3 → Gle G3 G4 → Since B G0 w0 G4 w3 → Owns G4 w3 B (rowD b S (match j + 1 with | 0 => ⟨i, s.en, s.ca, s.l0, s.l1, s.l2, s.l3, s.l4, s.l5⟩ | 1 => qQ S i x s | 2 => zgE S ls o (qQ S i x s) | _ => zi1 S ls o i x s) :: L) → ∃ Fb, F = qi Fb [(0, pV b), (1, .func (.yield l) #[] #[]), (4, iV (i : Int)), (11, iV (D : Int)), (12, iV (i : Int)), (25, .agg #[.func (.func 92) #[pV b] #[], .func (.func 93) #[pV b] #[], .func (.func 94) #[pV b] #[]]), (26, iV (j : Int))] ∧ ∃ G4, Gle G2 G4 ∧ Since B G0 w0 G4 w3 ∧ Owns G4 w3 B (rowD b S (match j + 1 with | 0 => ⟨i, s.en, s.ca, s.l0, s.l1, s.l2, s.l3, s.l4, s.l5⟩ | 1 => qQ S i x s | 2 => zgE S ls o (qQ S i x s) | _ => zi1 S ls o i x s) :: L) ∧ J G4 L i w3 :=
      fun F w3 G4 a0 a1 a2 a3 a4 a5 a6 hk hg hS hO => ⟨_, zi _ _ ⟨a0, a1, a2, a3, a4, a5, a6, trivial⟩, G4, le3.trans hg, hS, hO, hmono _ _ _ _ _ _ hJ hg hk⟩
     refine zd (zZ (fun F w3 => ∃ Fb, F = qi Fb [(0, pV b), (1, .func (.yield l) #[] #[]), (4, iV (i : Int)), (11, iV (D : Int)), (12, iV (i : Int)), (25, .agg #[.func (.func 92) #[pV b] #[], .func (.func 93) #[pV b] #[], .func (.func 94) #[pV b] #[]]), (26, iV (j : Int))] ∧ ∃ G4, Gle G2 G4 ∧ Since B G0 w0 G4 w3 ∧ Owns G4 w3 B (rowD b S (match j + 1 with | 0 => ⟨i, s.en, s.ca, s.l0, s.l1, s.l2, s.l3, s.l4, s.l5⟩ | 1 => qQ S i x s | 2 => zgE S ls o (qQ S i x s) | _ => zi1 S ls o i x s) :: L) ∧ J G4 L i w3) ?_ ?_)
     ·have hls3 := hl.mono zx ((hle.trans le).trans le3)
      rcases hj3 with rfl | rfl | rfl
      ·have hO : Owns G3 w2 B (rowD b S ⟨i, s.en, s.ca, s.l0, s.l1, s.l2, s.l3, s.l4, s.l5⟩ :: L) := hO
       refine zp (zd (zb (za (v := .func (.func 92) #[pV b] #[]) (by kernel_rfl) rfl (za (zf (v := .func (.func 92) #[pV b] #[]) rfl) rfl (ze (zb (za (zc (v := .func (.func 92) #[pV b] #[]) rfl) rfl ?_)))))))
       refine zm rfl (zdA (fi := [pV b]) (al := []) (ca := []) zyk (zvR (x := x) (g := yK S x * S.p) (h := S.size * S.q) (e' := zgV S s.en x) hS hO (by rw [← hx]; exact yo hiw) rfl rfl rfl (by omega) (by omega) (by show 0 ≤ s.en ∧ s.en ≤ 1000000000; omega) (by show -100000000000 ≤ s.l1 ∧ s.l1 ≤ 100000000000; omega) (by show -100000000000 ≤ s.l3 ∧ s.l3 ≤ 100000000000; omega)) rfl rfl rfl fun v G4 w3 L4 hk hg hS hO hv => ze ?_)
       subst hv
       exact fin _ _ G4 rfl rfl rfl rfl rfl rfl rfl hk hg hS hO
      ·have hO : Owns G3 w2 B (rowD b S (qQ S i x s) :: L) := hO
       refine zp (zd (zb (za (v := .func (.func 93) #[pV b] #[]) (by kernel_rfl) rfl (za (zf (v := .func (.func 93) #[pV b] #[]) rfl) rfl (ze (zb (za (zc (v := .func (.func 93) #[pV b] #[]) rfl) rfl ?_)))))))
       refine zm rfl (zdA (fi := [pV b]) (al := []) (ca := []) zyj (zvQ hS hO hls3 hls ho ho2 (by omega) (by show -100000000000 ≤ s.l2 ∧ s.l2 ≤ 100000000000; omega)) rfl rfl rfl fun v G4 w3 L4 hk hg hS hO hv => ze ?_)
       subst hv
       exact fin _ _ G4 rfl rfl rfl rfl rfl rfl rfl hk hg hS hO
      ·have hO : Owns G3 w2 B (rowD b S (zgE S ls o (qQ S i x s)) :: L) := hO
       refine zp (zd (zb (za (v := .func (.func 94) #[pV b] #[]) (by kernel_rfl) rfl (za (zf (v := .func (.func 94) #[pV b] #[]) rfl) rfl (ze (zb (za (zc (v := .func (.func 94) #[pV b] #[]) rfl) rfl ?_)))))))
       refine zm rfl (zdA (fi := [pV b]) (al := []) (ca := []) zyi (zvP hS hO (by show 0 ≤ (yI ls o (qQ S i x s).en s.l2 ls.length).1 ∧ (yI ls o (qQ S i x s).en s.l2 ls.length).1 ≤ 1000000000; omega) hfd (by show -100000000000 ≤ s.l4 ∧ s.l4 ≤ 100000000000; omega)) rfl rfl rfl fun v G4 w3 L4 hk hg hS hO hv => ze ?_)
       subst hv
       exact fin _ _ G4 rfl rfl rfl rfl rfl rfl rfl hk hg hS hO
     ·rintro F w3 ⟨Fb, rfl, G4, g1, hS, hO, hJ⟩
      refine zb (za (v := iV ((j + 1 : Nat) : Int)) (zX (m := j) (n := 1) rfl rfl (by omega)) rfl (za (zc (v := iV ((j + 1 : Nat) : Int)) rfl) rfl (ze ?_)))
      exact ⟨_, G4, zi _ _ ⟨rfl, rfl, rfl, rfl, rfl, rfl, rfl, trivial⟩, g1, hS, hO, hJ⟩
    ·rintro F w3 ⟨Fb, G3, rfl, le3, hS, hO, hJ⟩
     refine qg (zd (zb (za (zN rfl rfl) rfl (ze (zd (zH (decide (((3 : Nat) : Int) < 3)) (decide_eq_false (by omega)) rfl (zW rfl ?_)))))))
     exact ⟨_, G3, zi _ _ ⟨rfl, rfl, rfl, rfl, rfl, trivial⟩, le3, hS, by rw [hst]; exact hO, hJ⟩
   ·rintro F w3 ⟨Fb, G3, rfl, le3, hS, hO, hJ⟩
    have hS := hS.keep (zj w3)
    have hO := hO.below (zj w3)
    have hJ := hmono _ _ _ _ _ _ hJ (Gle.refl _) (Keeps.drew (X := none) w3)
    refine zd (zkE (m := 11) (dst := fun i => 32 + i) (val := fun q => match q with
     | 0 => .func (.yield l) #[] #[] | 1 => iV (i : Int) | 2 => pV b | 3 => pV b | 4 => .pointer (some ⟨b, 16, none⟩) | 5 => iV (stK S ls o s0 (i + 1)).en | 6 => pV b | 7 => pV b | 8 => .pointer (some ⟨b, 17, none⟩) | 9 => iV (stK S ls o s0 (i + 1)).ca | _ => .agg #[iV (stK S ls o s0 (i + 1)).en, iV (stK S ls o s0 (i + 1)).ca]) qw rfl (by kernel_rfl) ?_ (fun i k _ _ h => by omega) (by kernel_rfl) rfl rfl ⟨{ on := 11, ground := .data }, by simp, rfl, rfl⟩ rfl rfl (by kernel_rfl) (by kernel_rfl) ?_)
    ·intro j hj
     have hj' : j = 0 ∨ j = 1 ∨ j = 2 ∨ j = 3 ∨ j = 4 ∨ j = 5 ∨ j = 6 ∨ j = 7 ∨ j = 8 ∨ j = 9 ∨ j = 10 := by omega
     rcases hj' with rfl | rfl | rfl | rfl | rfl | rfl | rfl | rfl | rfl | rfl | rfl
     ·exact ⟨_, _, _, _, rfl, rfl, fun F' hv hot => zc ((hot 1 (fun k _ => by omega)).trans rfl)⟩
     ·exact ⟨_, _, _, _, rfl, rfl, fun F' hv hot => zc ((hot 4 (fun k _ => by omega)).trans rfl)⟩
     ·exact ⟨_, _, _, _, rfl, rfl, fun F' hv hot => zc ((hot 0 (fun k _ => by omega)).trans rfl)⟩
     ·exact ⟨_, _, _, _, rfl, rfl, fun F' hv hot => zk1 (hv 2 (by decide) (by kernel_rfl))⟩
     ·exact ⟨_, _, _, _, rfl, rfl, fun F' hv hot => zk jA (hv 3 (by decide) (by kernel_rfl))⟩
     ·exact ⟨_, _, _, _, rfl, rfl, fun F' hv hot => zo n3 (hv 4 (by decide) (by kernel_rfl)) (zr hO (k := 0) rfl rfl)⟩
     ·exact ⟨_, _, _, _, rfl, rfl, fun F' hv hot => zc ((hot 0 (fun k _ => by omega)).trans rfl)⟩
     ·exact ⟨_, _, _, _, rfl, rfl, fun F' hv hot => zk1 (hv 6 (by decide) (by kernel_rfl))⟩
     ·exact ⟨_, _, _, _, rfl, rfl, fun F' hv hot => zk zhe (hv 7 (by decide) (by kernel_rfl))⟩
     ·exact ⟨_, _, _, _, rfl, rfl, fun F' hv hot => zo n3 (hv 8 (by decide) (by kernel_rfl)) (zr hO (k := 0) rfl rfl)⟩
     ·exact ⟨_, _, _, _, rfl, rfl, fun F' hv hot => znN (hv 5 (by decide) (by kernel_rfl)) (hv 9 (by decide) (by kernel_rfl))⟩
    ·intro F' hv hot
     refine ⟨l, zx9 S ls o s0 i, _, hy G3 L i _ i (le.trans le3) hJ hS hO (List.getElem?_range hi), hv 0 (by decide), ?_, ?_⟩
     ·show [F' 33, F' 42] = _
      rw [show F' 33 = _ from hv 1 (by decide), show F' 42 = _ from hv 10 (by decide)]
      rfl
     ·rintro e w4 ⟨hkeep, ⟨rfl, G4, L4, le4, hS, hO, hJ⟩ | ⟨ch, rfl, hjp⟩⟩
      ·refine .inl ⟨.bool true, .bool false, rfl, hkeep, qE (b := true) rfl, zH false rfl rfl (zq ?_)⟩
       exact ⟨_, G4, L4, zi _ _ ⟨(hot 0 (fun k _ => by omega)).trans rfl, (hot 1 (fun k _ => by omega)).trans rfl, (hot 11 (fun k _ => by omega)).trans rfl, (hot 12 (fun k _ => by omega)).trans rfl, trivial⟩, (le.trans le3).trans le4, hS, hO, hJ⟩
      ·exact .inr ⟨ch, rfl, hkeep, fun hkp => ⟨hkp, .inr ⟨ch, rfl, hjp⟩⟩⟩
  ·rintro F w3 ⟨Fb, G3, L3, rfl, le3, hS, hO, hJ⟩
   refine zb (za (v := iV ((i + 1 : Nat) : Int)) (zX (m := i) (n := 1) rfl rfl (by omega)) rfl (za (zc (v := iV ((i + 1 : Nat) : Int)) rfl) rfl (ze ?_)))
   exact ⟨_, G3, L3, zi _ _ ⟨rfl, rfl, rfl, rfl, trivial⟩, le3, hS, hO, hJ⟩
 ·rintro F w3 ⟨Fb, G3, L3, rfl, le3, hS, hO, hJ⟩
  refine qg (zd (zb (za (zN rfl rfl) rfl (ze (zd (zH (decide ((D : Int) < (D : Int))) (decide_eq_false (by omega)) rfl (zW rfl ?_)))))))
  intro hkp
  exact ⟨hkp, .inl ⟨⟨_, rfl⟩, G3, L3, le3, hS, by rw [List.length_range]; exact hO, by rw [List.length_range]; exact hJ⟩⟩
def dnL (l : zE) (c i : Nat) : Bool := l.Must && decide (c / 2 ^ i % 2 = 0)
def dnB (ls : List zE) (c : Nat) : Bool := (List.range ls.length).any fun i => match ls[i]? with
 | some l => dnL l c i
 | none => false
theorem zi0 {ls : List zE} {c i : Nat} (h : i < ls.length) (hd : dnL ls[i] c i = true) : dnB ls c = true :=
 List.any_eq_true.2 ⟨i, List.mem_range.2 h, by rw [List.getElem?_eq_getElem h]; exact hd⟩
theorem zm7 {ls : List zE} {c : Nat} (h : ∀ i (hi : i < ls.length), dnL ls[i] c i = false) : dnB ls c = false := by
 cases hb : dnB ls c with
 | false => rfl
 | true =>
  obtain ⟨i, hi, hd⟩ := List.any_eq_true.1 hb
  have hi := List.mem_range.1 hi
  rw [List.getElem?_eq_getElem hi] at hd
  have hd : dnL ls[i] c i = true := hd
  rw [h i hi] at hd
  cases hd
section
variable {S : jQ} {ls : List zE} {o : Nat} {s0 : DSt}
theorem znH (hok : SysOk S) (hls : zhV ls) (hs : BdD s0 0) {k : Nat} (hk : k < S.wt.length) : ∃ c : Nat, (stK S ls o s0 (k + 1)).ca = (c : Int) ∧ c < 32 := by
 have e : stK S ls o s0 (k + 1) = zi1 S ls o k S.wt[k] (stK S ls o s0 k) := by
  conv => lhs; unfold stK
  rw [List.getElem?_eq_getElem hk]
 obtain ⟨⟨e1, e2⟩, _⟩ := zdq (d := k) (x := S.wt[k]) hok (zjF (o := o) hok hls hs k)
 have h := (zaF hls (off := o) (u := (stK S ls o s0 k).l2) e1 ls.length).2.2.1
 refine ⟨_, by rw [e]; rfl, Nat.lt_of_lt_of_le h ?_⟩
 exact Nat.pow_le_pow_right (by decide) hls.few
end
def zhL (S : jQ) (ls : List zE) (o : Nat) (s0 : DSt) (k : Nat) : Bool := dnB ls (stK S ls o s0 (k + 1)).ca.toNat
def kQ (S : jQ) (ls : List zE) (o : Nat) (s0 : DSt) (D : Nat) : Bool := (List.range D).any (zhL S ls o s0)
theorem zhQ {S : jQ} {ls : List zE} {o : Nat} {s0 : DSt} {D : Nat} (h : ∀ i, i < D → zhL S ls o s0 i = false) : kQ S ls o s0 D = false := by
 cases hb : kQ S ls o s0 D with
 | false => rfl
 | true =>
  obtain ⟨i, hi, hd⟩ := List.any_eq_true.1 hb
  rw [h i (List.mem_range.1 hi)] at hd
  cases hd
abbrev ziZ (d i : Int) : List PanicEntry := [{ v := .iface 179 (.agg #[iV d, iV i]), recovered := false }]
abbrev zmr (b : Nat) (en ca : Int) : Row := ⟨71, 2, 1, .slice (some ⟨b, 0, none⟩) 1 1, [iV en, iV ca]⟩
theorem zxw : naB Tryz.prog 109 = true := by kernel_rfl
theorem z71 : szB Tryz.prog 71 = some 2 := by kernel_rfl
theorem ztk : qx Tryz.prog 71 1 = some 1 := by kernel_rfl
theorem zut : qx Tryz.prog 115 2 = some 2 := by kernel_rfl
theorem ztR : zJ Tryz.prog 40 = true := by kernel_rfl
section
variable {B : Nat} {G0 Gc : Gm} {w0 wc : World} {Lq : List Row} {b D : Nat} {S : jQ} {ls : List zE} {o : Nat} {s0 : DSt}
set_option maxHeartbeats 4000000 in
theorem zst (hS : Since B G0 w0 Gc wc) (hO : Owns Gc wc B (rowD b S s0 :: Lq)) (hl : RSl zO 3 Gc S.la S.ln S.lc ls) (hok : SysOk S) (hls : zhV ls) (ho : S.off = (o : Int)) (ho2 : o < 32) (hD : S.days = (D : Int)) (hD2 : D ≤ 10) (hw : S.wt.length = D) (hs0 : BdD s0 0) :
  Calls Tryz.prog 166 [pV b].toArray wc (fun e w' => Keeps none wc w' ∧ ∃ G', Gle Gc G' ∧ Since B G0 w0 G' w' ∧ Owns G' w' B Lq ∧ ((e = .returned (.tuple #[]) ∧ kQ S ls o s0 D = false) ∨ (∃ d i : Int, e = .panicked (ziZ d i) ∧ kQ S ls o s0 D = true))) := by
 have hB := hO.base
 refine ziY (N := 36) (fun _ w' => ∃ G', Gle Gc G' ∧ Since B G0 w0 G' w' ∧ Owns G' w' B Lq ∧ kQ S ls o s0 D = false) (fun ch _ w' => ∃ G', Gle Gc G' ∧ Since B G0 w0 G' w' ∧ Owns G' w' B Lq ∧ ∃ d i, ch = ziZ d i ∧ kQ S ls o s0 D = true) Tryz.func166 rfl rfl rfl ?_ ?_ ?_
 ·rintro tmps w' w'' ⟨G', h1, h2, h3, h4⟩ hs hk
  exact ⟨.tuple #[], by simp [results, Tryz.results166], hk, G', h1, h2.fix (hs.fix hB), h3.fix (hs.fix hB), .inl ⟨rfl, h4⟩⟩
 ·rintro ch F w' w'' ⟨G', h1, h2, h3, d, i, rfl, h4⟩ hs hk
  exact ⟨hk, G', h1, h2.fix (hs.fix hB), h3.fix (hs.fix hB), .inr ⟨d, i, rfl, h4⟩⟩
 refine kq (zae (zb (zm rfl (zP (v := fun b => pV b) (cs := [pV b]) (e := 109) (zhb rfl rfl) hS.sat rfl fun b1 G1 w1 hg1 hc1 => ze ?_))))
 have hS := hS.grow hg1
 have hO := hO.grow hg1
 have hl := hl.mono zx hg1.le
 refine kq (zae (zb (za (zo zxw rfl (hS.sat.cell (hc1 0 _ rfl))) rfl (za (v := .func (.func 40) #[pV b] #[]) (yu (vs := [pV b]) (us := []) rfl rfl) rfl (ze ?_)))))
 refine zgP (zgO (fi := [pV b]) (ca := []) (L := Lq) Tryz.func166 ztR (zpy hl hok hls ho ho2 hD hD2 hw hs0) rfl (fun y => rfl) rfl (zhL S ls o s0) (fun _ _ L => L = Lq) (fun _ ch _ L => L = Lq ∧ ∃ d i, ch = ziZ d i) (fun _ _ _ _ _ h => h) hS hO rfl ?_ ?_ ?_)
 ·rintro l k y G2 w2 L2 hy le2 hS hO rfl
  have hk : k < D := by have := (List.getElem?_eq_some_iff.1 hy).1; rwa [List.length_range] at this
  obtain rfl : y = k := by rw [List.getElem?_range hk] at hy; exact (nQs hy).symm
  obtain ⟨c, hca, hc32⟩ := znH (o := o) hok hls hs0 (show y < S.wt.length by omega)
  have hbk : zhL S ls o s0 y = dnB ls c := by unfold zhL; rw [hca]; rfl
  rw [hbk]
  have hl := hl.mono zx le2
  have hc1 := hc1.mono le2
  have hnl : S.ln = ls.length := hl.1
  have hfew := hls.few
  show WC _ _ _ _ _ (params _ (#[8, 9].toList.zip [iV (y : Int), .agg #[iV (stK S ls o s0 (y + 1)).en, iV (stK S ls o s0 (y + 1)).ca]])) _
  generalize stK S ls o s0 (y + 1) = s at hO hca ⊢
  refine zd (zb (za (zf (v := iV (y : Int)) rfl) rfl (ze (zb ?_))))
  refine zm rfl (z7 (v := fun b => pV b) (cs := [iV 0, iV 0]) (e := 71) (by kernel_rfl) hS.sat hO rfl 2 1 rfl (by decide) fun b3 w3 hb hO => ?_)
  have hS := hS.keep hb
  refine zm rfl (zG (vs := [iV s.en, iV s.ca]) z71 hS hO (k := 0) rfl rfl rfl rfl rfl (yt rfl rfl) (nQl rfl) fun w4 hS hO => ze ?_)
  have hO : Owns G2 w4 B (zmr b3 s.en s.ca :: rowD b S s :: L2) := hO
  intro w5 hfix
  have hS := hS.fix hfix
  have hO := hO.fix hfix
  refine zp (zd (zb (za (zo zxw rfl (hS.sat.cell (hc1 0 _ rfl))) rfl (za (v := pV b) (by kernel_rfl) rfl (za (zk zbK rfl) rfl (za (zk ztm rfl) rfl (za (zo n43 rfl (zr hO (k := 1) rfl rfl)) rfl (za (ji (m := ls.length) s43 rfl rfl hnl) rfl (za (zc (v := iV 0) rfl) rfl (ze ?_))))))))))
  refine zp (qh (qN ls.length (fun i F w => ∃ Fb, F = qi Fb [(1, pV b1), (2, iV (y : Int)), (3, pV b3), (14, .slice S.la S.ln S.lc), (15, iV (ls.length : Int)), (16, iV (i : Int))] ∧ Since B G0 w0 G2 w ∧ Owns G2 w B (zmr b3 s.en s.ca :: rowD b S s :: L2) ∧ ∀ j (hj : j < ls.length), j < i → dnL ls[j] c j = false) ?_ ?_ ls.length 0 _ _ (by omega) ⟨_, zi _ _ ⟨rfl, rfl, rfl, rfl, rfl, rfl, trivial⟩, hS, hO, fun j _ h => by omega⟩))
  ·rintro i F w6 hi ⟨Fb, rfl, hS, hO, hprev⟩
   refine zd (zb (za (zN rfl rfl) rfl (ze (zd (zQ (decide ((i : Int) < (ls.length : Int))) (decide_eq_true (by omega)) rfl (zq ?_))))))
   refine zd (zZ (fun F w => ∃ Fb, F = qi Fb [(1, pV b1), (2, iV (y : Int)), (3, pV b3), (14, .slice S.la S.ln S.lc), (15, iV (ls.length : Int)), (16, iV (i : Int))] ∧ Since B G0 w0 G2 w ∧ Owns G2 w B (zmr b3 s.en s.ca :: rowD b S s :: L2) ∧ dnL ls[i] c i = false) ?_ ?_)
   ·refine zp (zd (zb (za (zc (v := iV (i : Int)) rfl) rfl (zb0 s43 hl (yo hi) rfl rfl rfl ?_))))
    rintro bp op _ hcp _ ⟨⟩
    refine za (zu zx0 (cs := [iV ls[i].Need, iV ls[i].Keep, .bool ls[i].Must]) rfl rfl fun j v hj => hS.sat.cell (hcp j v hj)) rfl ?_
    refine zm rfl (z7 (v := fun b => pV b) (cs := [iV 0, iV 0, .bool false]) (e := 115) (by kernel_rfl) hS.sat hO rfl 3 1 rfl (by decide) fun b5 w7 hb hO => ?_)
    have hS := hS.keep hb
    refine za (zf (v := iV (i : Int)) rfl) rfl ?_
    refine zm rfl (zG (vs := [iV ls[i].Need, iV ls[i].Keep, .bool ls[i].Must]) zwZ hS hO (k := 0) rfl rfl rfl rfl rfl (zf0 rfl rfl rfl) (nQl rfl) fun w8 hS hO => ze ?_)
    have hO : Owns G2 w8 B (zg4 b5 ls[i] :: zmr b3 s.en s.ca :: rowD b S s :: L2) := hO
    refine zd (zb (za (zk zut rfl) rfl (za (zo n4 rfl (zr hO (k := 0) rfl rfl)) rfl (za (zc (v := .bool ls[i].Must) rfl) rfl ?_))))
    by_cases hm : ls[i].Must = true
    ·have hcb : c / 2 ^ i < 64 := Nat.lt_of_le_of_lt (Nat.div_le_self _ _) (by omega)
     refine zl rfl hm rfl rfl (za (zk ztk rfl) rfl ?_)
     refine zl rfl hm rfl rfl (za (v := iV (c : Int)) (by rw [← hca]; exact zo n3 rfl (zr hO (k := 1) rfl rfl)) rfl ?_)
     refine zl rfl hm rfl rfl (za (zc (v := iV (i : Int)) rfl) rfl ?_)
     refine zl rfl hm rfl rfl (za (zg7 rfl rfl (zgZ (by omega))) rfl ?_)
     refine zl rfl hm rfl rfl (za (zjU rfl rfl) rfl ?_)
     rw [zhR hcb]
     by_cases hbit : c / 2 ^ i % 2 = 0
     ·refine zl rfl hm rfl rfl (za (v := .bool true) ((xu (m := ((c / 2 ^ i % 2 : Nat) : Int)) (n := 0) rfl rfl).trans (by rw [hbit]; rfl)) rfl ?_)
      refine za (yy (v := .bool true) rfl hm rfl) rfl (ze (zQ true rfl rfl ?_))
      refine zb (za (zc (v := iV (y : Int)) rfl) rfl (za (zc (v := iV (i : Int)) rfl) rfl (za (v := .agg #[iV (y : Int), iV (i : Int)]) (by kernel_rfl) rfl (za (v := .iface 179 (.agg #[iV (y : Int), iV (i : Int)])) (by kernel_rfl) rfl (zm rfl (znn rfl ⟨_, _, rfl⟩ ?_))))))
      exact ⟨zi0 hi (by unfold dnL; rw [hm, hbit]; rfl), G2, L2, Gle.refl _, hS, (hO.drop 0).drop 0, rfl, _, _, rfl⟩
     ·have hbit1 : c / 2 ^ i % 2 = 1 := by omega
      refine zl rfl hm rfl rfl (za (v := .bool false) ((xu (m := ((c / 2 ^ i % 2 : Nat) : Int)) (n := 0) rfl rfl).trans (by rw [hbit1]; rfl)) rfl ?_)
      refine za (yy (v := .bool false) rfl hm rfl) rfl (ze (zH false rfl rfl (zq ?_)))
      exact ⟨_, zi _ _ ⟨rfl, rfl, rfl, rfl, rfl, rfl, trivial⟩, hS, hO.drop 0, by unfold dnL; rw [hbit1]; simp⟩
    ·have hm : ls[i].Must = false := by simpa using hm
     refine qd rfl hm rfl rfl rfl (qd rfl hm rfl rfl rfl (qd rfl hm rfl rfl rfl (qd rfl hm rfl rfl rfl (qd rfl hm rfl rfl rfl (qd rfl hm rfl rfl rfl ?_)))))
     refine za (xc (v := .bool false) rfl hm rfl) rfl (ze (zH false rfl rfl (zq ?_)))
     exact ⟨_, zi _ _ ⟨rfl, rfl, rfl, rfl, rfl, rfl, trivial⟩, hS, hO.drop 0, by unfold dnL; rw [hm]; rfl⟩
   ·rintro F w9 ⟨Fb, rfl, hS, hO, hnow⟩
    refine zb (za (v := iV ((i + 1 : Nat) : Int)) (zX (m := i) (n := 1) rfl rfl (by omega)) rfl (za (zc (v := iV ((i + 1 : Nat) : Int)) rfl) rfl (ze ?_)))
    refine ⟨_, zi _ _ ⟨rfl, rfl, rfl, rfl, rfl, rfl, trivial⟩, hS, hO, fun j hj hji => ?_⟩
    rcases Nat.lt_or_ge j i with h | h
    ·exact hprev j hj h
    ·obtain rfl : j = i := by omega
     exact hnow
  ·rintro F w9 ⟨Fb, rfl, hS, hO, hprev⟩
   refine qg (zd (zb (za (zN rfl rfl) rfl (ze (zd (zH (decide ((ls.length : Int) < (ls.length : Int))) (decide_eq_false (by omega)) rfl (zW rfl ?_)))))))
   exact ⟨zm7 fun i hi => hprev i hi hi, G2, L2, Gle.refl _, hS, hO.drop 0, rfl⟩
 ·rintro G2 w2 L2 hall le2 hS2 hO2 hL
  rw [List.length_range] at hall
  subst hL
  exact ⟨G2, hg1.le.trans le2, hS2, hO2.drop 0, zhQ hall⟩
 ·rintro i ch G2 w2 L2 hi hbad _ le2 hS2 hO2 ⟨hL, d, j, rfl⟩
  subst hL
  exact ⟨G2, hg1.le.trans le2, hS2, hO2.drop 0, d, j, rfl, List.any_eq_true.2 ⟨i, List.mem_range.2 (by rwa [List.length_range] at hi), hbad⟩⟩
end
theorem zf5 {P : Program} {k : Nat} {fi ca : Array Value} {w : World} (hk : zJ P k = true) : (invoke (.fn (.func k) ca) fi).run P w = .ok (.enter k (fi ++ ca)) w := by
 unfold zJ at hk
 split at hk
 ·rename_i fn hf
  simp only [Bool.and_eq_true, Bool.not_eq_true'] at hk
  obtain ⟨c, hb⟩ := Option.isSome_iff_exists.1 hk.2
  have hn : ¬ fn.name = "runtime.NumGoroutine" := by simpa using hk.1
  simp [invoke, callFunc, hf, hn, hb]
 ·cases hk
theorem CallsDIn.imp {F : Fence} {n : Nat} {P : Program} {f : FuncId} {args : Array Value} {u : FrameMode} {w : World} {R R' : Ending → FrameMode → World → Prop} (h : CallsDIn F n P f args u w R) (k : ∀ e u' w', R e u' w' → R' e u' w') : CallsDIn F n P f args u w R' :=
 ⟨h.1, fun c cs h1 h2 => let ⟨e, u', w', fr, h3, h4⟩ := h.2 c cs h1 h2; ⟨e, u', w', fr, k _ _ _ h3, h4⟩⟩
theorem zmu {v : Value} (w : World) (e : Operand → Value) (he : e (.tmp 5) = .iface 179 v) (hn : e (.const .nilIface) = .nilIface) (d : Option Nat) (pos : String) (af : Array Edge) (gd : Option (Nat × Bool)) :
  (execOp e ⟨d, .binOp .eql 20 (.tmp 5) (.const .nilIface) 20, 4, pos, af, gd⟩).run Tryz.prog w = .ok (.value (.bool false)) w := by
 simp [execOp, he, hn, go_sem]
theorem zjS (w : World) (e : Operand → Value) (he : e (.tmp 5) = .nilIface) (hn : e (.const .nilIface) = .nilIface) (d : Option Nat) (pos : String) (af : Array Edge) (gd : Option (Nat × Bool)) :
  (execOp e ⟨d, .binOp .eql 20 (.tmp 5) (.const .nilIface) 20, 4, pos, af, gd⟩).run Tryz.prog w = .ok (.value (.bool true)) w := by
 simp [execOp, he, hn, go_sem]
theorem zw4 : Tryz.prog.underlying 179 = some (.struct (Tryz.prog.fieldsOf 179)) := by kernel_rfl
theorem zmt {v : Value} (w : World) (e : Operand → Value) (he : e (.tmp 5) = .iface 179 v) (d : Option Nat) (pos : String) (af : Array Edge) (gd : Option (Nat × Bool)) :
  (execOp e ⟨d, .typeAssert (.tmp 5) 20 179 true, 0, pos, af, gd⟩).run Tryz.prog w = .ok (.value (.tuple #[v, .bool true])) w := by
 simp only [execOp, he, Instr.typeAssert, Sem.run_bind, run_underlying zw4, Result.andThen_ok]
 simp
theorem zqP : szB Tryz.prog 179 = some 2 := by kernel_rfl
theorem z4' : szB Tryz.prog 4 = some 1 := by kernel_rfl
theorem zuV : agB Tryz.prog 179 = some 2 := by kernel_rfl
theorem zyM : zJ Tryz.prog 165 = true := by kernel_rfl
theorem zAE : zJ Tryz.prog 166 = true := by kernel_rfl
abbrev rowAt (b : Nat) (i d : Int) : Row := ⟨179, 2, 1, .slice (some ⟨b, 0, none⟩) 1 1, [iV i, iV d]⟩
abbrev js (b : Nat) (x : Bool) : Row := ⟨4, 1, 1, .slice (some ⟨b, 0, none⟩) 1 1, [.bool x]⟩
theorem zpI (b2 b3 : Nat) (w : World) :
  CallsDIn Fence.wide 0 Tryz.prog 165 #[pV b2, pV b3] .returning w fun e u' w' => e = .returned (.tuple #[]) ∧ u' = .returning ∧ w' = w := by
 refine callsDIn_of_wpSIn Tryz.func165 rfl trivial fun c₀ cs hu => ?_
 apply wpSIn_seq
 apply wpSIn_region
 simp [wpOpsSIn, go_sem, recoverD, hu, Tryz.ntmps165, Exit.thenS]
 refine wpSIn_of_wpIn rfl ?_
 refine wpIn_mono (zp (κ := ⟨none, none, 0, true, []⟩) (N := 12) (n := fun _ w' => w' = w) (r := fun _ w' => w' = w) (x := []) (p := fun _ _ _ => False) (F := yO _) (w := w) ?_ _ w ⟨by simp, Calm.nil _ _, Keeps.refl _, Nat.zero_le _⟩ rfl) ?_
 ·refine zd (zb (za (zjS w _ rfl rfl _ _ _ _) rfl (ze (zQ true rfl rfl (zb (za (zf rfl) rfl (ze rfl)))))))
 ·rintro e a' w' ⟨p1, p3⟩
  have hd := p1.calm.none rfl
  cases e with
  | normal => exact ⟨hd, _, rfl, _, by simp [results, Tryz.results165], rfl, hu, p3⟩
  | ret => exact ⟨hd, _, rfl, _, by simp [results, Tryz.results165], rfl, hu, p3⟩
  | exit k => obtain ⟨K, hK, _⟩ := p3; cases hK
  | goto l => exact p3.elim
  | panic c => exact p3.elim
  | outgrown => exact p3.elim
theorem zpH {B : Nat} {G0 : Gm} {w0 : World} {G : Gm} {Lq : List Row} (b2 b3 : Nat) (i d : Int) (w : World) (hS : Since B G0 w0 G w) (hO : Owns G w B (js b3 false :: rowAt b2 0 0 :: Lq)) :
  CallsDIn Fence.wide 0 Tryz.prog 165 #[pV b2, pV b3] (.panicking (ziZ i d)) w fun e u' w' => e = .returned (.tuple #[]) ∧ u' = .panicking [{ v := .iface 179 (.agg #[iV i, iV d]), recovered := true }] ∧ Keeps none w w' ∧ Since B G0 w0 G w' ∧ Owns G w' B (js b3 true :: rowAt b2 i d :: Lq) := by
 refine callsDIn_of_wpSIn Tryz.func165 rfl trivial fun c₀ cs hu => ?_
 apply wpSIn_seq
 apply wpSIn_region
 simp [wpOpsSIn, go_sem, recoverD, hu, Tryz.ntmps165, Exit.thenS]
 refine wpSIn_of_wpIn rfl ?_
 refine wpIn_mono (zp (κ := ⟨none, none, 0, true, []⟩) (N := 12) (n := fun _ w' => Since B G0 w0 G w' ∧ Owns G w' B (js b3 true :: rowAt b2 i d :: Lq)) (r := fun _ w' => Since B G0 w0 G w' ∧ Owns G w' B (js b3 true :: rowAt b2 i d :: Lq)) (x := []) (p := fun _ _ _ => False) (F := yO _) (w := w) ?_ _ w ⟨by simp, Calm.nil _ _, Keeps.refl _, Nat.zero_le _⟩ rfl) ?_
 ·refine zd (zb (za (zmu w _ rfl rfl _ _ _ _) rfl (ze (zH false rfl rfl ?_))))
  refine zd (zb (za (zmt w _ rfl _ _ _ _) rfl (za (v := .bool true) (zL (vs := #[.agg #[iV i, iV d], .bool true]) rfl rfl) rfl (za (v := .agg #[iV i, iV d]) (zL (vs := #[.agg #[iV i, iV d], .bool true]) rfl rfl) rfl (ze (zQ true rfl rfl ?_))))))
  refine zd (zb (zm rfl (z7 (v := fun b => pV b) (cs := [iV 0, iV 0]) (e := 179) (by kernel_rfl) hS.sat hO rfl 2 1 rfl (by decide) fun b4 w4 hb hO => ?_)))
  have hS := hS.keep hb
  refine zm rfl (zG (vs := [iV i, iV d]) zqP hS hO (k := 0) rfl rfl rfl rfl rfl (zU rfl) (nQl rfl) fun w5 hS hO => ze ?_)
  have hO : Owns G w5 B (rowAt b4 i d :: js b3 false :: rowAt b2 0 0 :: Lq) := hO
  refine zb (za (zu zuV (cs := [iV i, iV d]) rfl rfl (qX hO (k := 0) rfl 0 2)) rfl ?_)
  refine zm rfl (zG (vs := [iV i, iV d]) zqP hS hO (k := 2) rfl rfl rfl rfl rfl (zU rfl) (nQl rfl) fun w6 hS hO => ?_)
  refine zm rfl (zG (vs := [.bool true]) z4' hS hO (k := 1) rfl rfl rfl rfl rfl (zU rfl) (nQl rfl) fun w7 hS hO => ze ?_)
  exact ⟨hS, hO.drop 0⟩
 ·rintro e a' w' ⟨p1, p3⟩
  have hd := p1.calm.none rfl
  cases e with
  | normal => exact ⟨hd, _, rfl, _, by simp [results, Tryz.results165], rfl, rfl, p1.keep, p3⟩
  | ret => exact ⟨hd, _, rfl, _, by simp [results, Tryz.results165], rfl, rfl, p1.keep, p3⟩
  | exit k => obtain ⟨K, hK, _⟩ := p3; cases hK
  | goto l => exact p3.elim
  | panic c => exact p3.elim
  | outgrown => exact p3.elim
section
variable {B : Nat} {G0 Gc : Gm} {w0 wc : World} {Lq : List Row} {b D : Nat} {S : jQ} {ls : List zE} {o : Nat} {s0 : DSt}
set_option maxHeartbeats 1000000 in
theorem zvU (hS : Since B G0 w0 Gc wc) (hO : Owns Gc wc B (rowD b S s0 :: Lq)) (hl : RSl zO 3 Gc S.la S.ln S.lc ls) (hok : SysOk S) (hls : zhV ls) (ho : S.off = (o : Int)) (ho2 : o < 32) (hD : S.days = (D : Int)) (hD2 : D ≤ 10) (hw : S.wt.length = D) (hs0 : BdD s0 0) :
  Calls Tryz.prog 81 [pV b].toArray wc (jP B G0 w0 Gc wc (fun G' L' v => L' = Lq ∧ ∃ d i : Int, v = .tuple #[.agg #[iV d, iV i], .bool (kQ S ls o s0 D)])) := by
 obtain ⟨r, hr⟩ : ∃ r, r = kQ S ls o s0 D := ⟨_, rfl⟩
 rw [← hr]
 obtain ⟨Q, hQd⟩ : ∃ Q : Deferred → List PanicEntry → Fr → World → Prop, Q = fun d ch F w' => ∃ b2 b3 i fi G, d = { target := .fn (.func 165) #[pV b2, pV b3], args := #[] } ∧ r = true ∧ ch = ziZ i fi ∧ F 2 = pV b2 ∧ F 3 = pV b3 ∧ Gle Gc G ∧ Since B G0 w0 G w' ∧ Owns G w' B (js b3 false :: rowAt b2 0 0 :: Lq) := ⟨_, rfl⟩
 obtain ⟨Z, hZd⟩ : ∃ Z : Deferred → Fr → World → Prop, Z = fun d F w' => ∃ b2 b3 G, d = { target := .fn (.func 165) #[pV b2, pV b3], args := #[] } ∧ r = false ∧ F 2 = pV b2 ∧ F 3 = pV b3 ∧ Gle Gc G ∧ Since B G0 w0 G w' ∧ Owns G w' B (js b3 false :: rowAt b2 0 0 :: Lq) := ⟨_, rfl⟩
 refine zpW (N := 8) (fun d F w => Z d F w) (fun d ch F w => Q d ch F w) Tryz.func81 rfl rfl rfl ?_ ?_ ?_
 ·rintro d tmps w' hk h
  subst hZd
  obtain ⟨b2, b3, G, rfl, hf, h2, h3, le, hS, hO⟩ := h
  refine ⟨by simp, .inr ⟨fun h => (by cases h), _, _, 165, #[pV b2, pV b3], rfl, zf5 zyM, fun _ _ => trivial, CallsDIn.imp (zpI b2 b3 w') ?_⟩⟩
  rintro e u' w'' ⟨rfl, rfl, rfl⟩
  exact ⟨_, zaw (rs := [.cell 2 179, .cell 3 4]) (vs := [.agg #[iV 0, iV 0], .bool false]) rfl ⟨⟨_, h2, vi (cs := [iV 0, iV 0]) zuV rfl (qX hO (k := 1) rfl 0 2)⟩, ⟨_, h3, zoB n4 (zr hO (k := 0) rfl rfl)⟩, trivial⟩, _, rfl, hk, G, Lq, le, hS, (hO.drop 0).drop 0, rfl, 0, 0, by rw [hf]; rfl⟩
 ·rintro d ch tmps w' hk h
  subst hQd
  obtain ⟨b2, b3, i, fi, G, rfl, hf, rfl, h2, h3, le, hS, hO⟩ := h
  refine ⟨by simp, .inr ⟨fun h => (by cases h), _, _, 165, #[pV b2, pV b3], rfl, zf5 zyM, fun _ _ => trivial, CallsDIn.imp (zpH b2 b3 i fi w' hS hO) ?_⟩⟩
  rintro e u' w'' ⟨rfl, rfl, hk2, hS, hO⟩
  exact ⟨_, zaw (rs := [.cell 2 179, .cell 3 4]) (vs := [.agg #[iV i, iV fi], .bool true]) rfl ⟨⟨_, h2, vi (cs := [iV i, iV fi]) zuV rfl (qX hO (k := 1) rfl 0 2)⟩, ⟨_, h3, zoB n4 (zr hO (k := 0) rfl rfl)⟩, trivial⟩, _, rfl, hk.trans hk2, G, Lq, le, hS, (hO.drop 0).drop 0, rfl, i, fi, by rw [hf]; rfl⟩
 ·refine zb ?_
  refine zm rfl (z7 (v := fun b => pV b) (cs := [iV 0, iV 0]) (e := 179) (by kernel_rfl) hS.sat hO rfl 2 1 rfl (by decide) fun b2 w2 hb hO => ?_)
  have hS := hS.keep hb
  refine zm rfl (z7 (v := fun b => pV b) (cs := [.bool false]) (e := 4) (by kernel_rfl) hS.sat hO rfl 1 1 rfl (by decide) fun b3 w3 hb hO => ze ?_)
  have hS := hS.keep hb
  have hO : Owns Gc w3 B (js b3 false :: rowAt b2 0 0 :: rowD b S s0 :: Lq) := hO
  refine zs7 (yu (vs := []) (us := [pV b2, pV b3]) rfl rfl) rfl ?_
  refine znj (d := { target := .fn (.func 165) #[pV b2, pV b3], args := #[] }) (fun D => by simp) (by simp [execOp, resolve, ev, Deferred.ofValue, upd]) ?_
  refine zd (zb (za (zc (v := pV b) rfl) rfl ?_))
  have hO2 : Owns Gc w3 B (rowD b S s0 :: js b3 false :: rowAt b2 0 0 :: Lq) := hO.perm (List.perm_middle (l₁ := [js b3 false, rowAt b2 0 0]))
  refine zm rfl (zkJ (zcj zAE rfl) rfl (zst hS hO2 hl hok hls ho ho2 hD hD2 hw hs0) fun e w4 hR => ?_)
  obtain ⟨hk, G, le, hS, hO, ⟨rfl, hf⟩ | ⟨i, fi, rfl, hf⟩⟩ := hR
  ·refine .inl ⟨_, rfl, hk, ze ?_⟩
   refine zd (zb (za (v := .agg #[iV 0, iV 0]) (by kernel_rfl) rfl ?_))
   refine zm rfl (zG (vs := [iV 0, iV 0]) zqP hS hO (k := 1) rfl rfl rfl rfl rfl (zU rfl) (nQl rfl) fun w6 hS hO => ?_)
   refine zm rfl (zG (vs := [.bool false]) z4' hS hO (k := 0) rfl rfl rfl rfl rfl (zU rfl) (nQl rfl) fun w7 hS hO => ze (zF ?_))
   subst hZd
   exact ⟨b2, b3, G, rfl, hr.trans hf, rfl, rfl, le, hS, hO⟩
  ·refine .inr ⟨_, rfl, hk, ?_⟩
   subst hQd
   exact ⟨b2, b3, i, fi, G, rfl, hr.trans hf, rfl, rfl, rfl, le, hS, hO⟩
end
end Go.Proofs.YtihedfkcccaonaaGreatDoor
