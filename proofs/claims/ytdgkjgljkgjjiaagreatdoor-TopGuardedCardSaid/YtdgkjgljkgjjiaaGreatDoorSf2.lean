/-
 Regions: in the text's order, and in any order.
-/
import Derived.Test.YtdgkjgljkgjjiaaGreatDoorSf1
namespace Go.Proofs.YtdgkjgljkgjjiaaGreatDoor.Sf
open Go.RowKit
set_option linter.unusedVariables false
theorem Rep.val {c : Cx} {ρ : Env} {β : Nat → Nat} {G : Gm} {st : S} {F : Fr} {w : World} (h : Rep c ρ β G st F w) {d : Nat} {a : Av} {v : Value} (ha : gam (shp c.sh) ρ β G F a v) (ho : a.old st.n st.M.length = true) : Rep c ρ β G ⟨put d a 0 st.A, st.M, st.H, st.n⟩ (upd F d v) w :=
 ⟨h.sat, put_ok h.fr ha, fun t => put_old ho st.A 0 t h.fo, h.me, h.ft⟩
theorem Rep.grow {c : Cx} {ρ : Env} {β : Nat → Nat} {G G' : Gm} {st : S} {F : Fr} {w w' : World} (h : Rep c ρ β G st F w) (g : Grow G w G' w') : Rep c ρ β G' st F w' :=
 ⟨g.sat, fun t => gam_old (fun _ _ => rfl) (fun _ _ => rfl) g.le (h.fo t) (h.fr t), h.fo, h.me.old (Nat.le_refl _) (fun _ _ => rfl) (fun _ _ => rfl) g.le, h.ft⟩
theorem scal_gam {c : Cx} {ρ : Env} {β : Nat → Nat} {G G' : Gm} {F : Fr} {a : Av} {v : Value} (hs : (a.isInt || a.isBool) = true) (h : gam (shp c.sh) ρ β G F a v) : gam (shp c.sh) ρ β G' F a v := by
 cases a <;> first | exact h | cases hs
/-- A box more. -/
theorem Rep.box {c : Cx} {ρ : Env} {β : Nat → Nat} {G G' : Gm} {st : S} {F : Fr} {w w' : World} (h : Rep c ρ β G st F w) (g : Grow G w G' w') {l l' : List Av} {n' b : Nat} {cs : List Value} (hz : Zip (gam (shp c.sh) ρ β G F) l cs)
  (hp : ∀ a ∈ l, a.old st.n st.M.length = true ∧ a.isGd = false) (hn : nms st.n l = (l', n')) (hc : Cells G' b 0 cs) :
  ∃ ρ' β', Ext st.n st.M.length ρ β G w ρ' β' G' w' ∧ st.n ≤ n' ∧ β' st.M.length = b ∧ Rep c ρ' β' G' ⟨st.A, st.M ++ [l'], st.H, n'⟩ F w' := by
 obtain ⟨ρ', p1, p2, p3, p4⟩ := nms_ok (F := u0) (m := st.M.length) hn (hz.imp fun a v ha hv => gam_frame (hp a ha).2 hv) hp
 have hβ : ∀ j, j < st.M.length → (fun j => if j = st.M.length then b else β j) j = β j := fun j hj => by show (if j = st.M.length then b else β j) = _; rw [if_neg (by omega)]
 have hl : (st.M ++ [l']).length = st.M.length + 1 := by simp
 have hG := g.le
 have hb : (fun j => if j = st.M.length then b else β j) st.M.length = b := if_pos rfl
 refine ⟨ρ', fun j => if j = st.M.length then b else β j, ⟨p1, hβ, g⟩, p2, hb, g.sat, ?_, ?_, ?_, fun f hf => ⟨ft_old p1 (h.ft f hf).2 (h.ft f hf).1, Ft.old_mono p2 (h.ft f hf).2⟩⟩
 ·exact fun t => gam_old p1 hβ hG (h.fo t) (h.fr t)
 ·exact fun t => Av.old_mono p2 (by rw [hl]; omega) (h.fo t)
 ·intro j l hj
  show (∀ a ∈ l, a.old n' (st.M ++ [l']).length = true ∧ a.isGd = false) ∧ _
  rw [hl]
  by_cases hlt : j < st.M.length
  ·have hj' : st.M[j]? = some l := by rw [← List.getElem?_append_left (l₂ := [l']) hlt]; exact hj
   obtain ⟨h1, cs, h2, h3, h4⟩ := h.me j l hj'
   refine ⟨fun a ha => ⟨Av.old_mono p2 (Nat.le_succ _) (h1 a ha).1, (h1 a ha).2⟩, cs, ?_, h3, fun i a v e1 e2 => ?_⟩
   ·rw [hβ j hlt]; exact h2.mono hG
   ·exact gam_old p1 hβ hG (h1 a (List.mem_of_getElem? e1)).1 (h4 i a v e1 e2)
  ·have hj0 := (List.getElem?_eq_some_iff.1 hj).1
   rw [hl] at hj0
   obtain rfl : j = st.M.length := by omega
   have : l' = l := by
    have hj : (st.M ++ [l'])[st.M.length]? = some l := hj
    simpa using hj
   subst this
   refine ⟨fun a ha => ⟨Av.old_mono (Nat.le_refl _) (Nat.le_succ _) (p3 a ha).1, (p3 a ha).2⟩, cs, by rw [hb]; exact hc, p4.len.symm, fun i a v e1 e2 => ?_⟩
   exact gam_old (fun _ _ => rfl) hβ hG (p3 a (List.mem_of_getElem? e1)).1 (p4.get i a v e1 e2)
theorem boolish_gam {sh : Nat → Option (List Ck)} {ρ : Env} {β : Nat → Nat} {G : Gm} {F : Fr} : ∀ {a : Av} {v : Value}, boolish a = true → gam sh ρ β G F a v → (∃ b, v = .bool b) ∨ v = undef := by
 intro a
 induction a with
 | gd g w a ih =>
  intro v hb h
  rcases h with h | h
  ·exact ih hb h.2
  ·exact .inr h.2
 | _ => intro v hb h; exact .inl (gam_bool hb h)
theorem cond_some {α : Type} {b : Bool} {x : Option α} {r : α} (h : cond b x none = some r) : b = true ∧ x = some r := by
 cases b with
 | true => exact ⟨rfl, h⟩
 | false => cases h
section
variable {c : Cx} {call : CallT} {κ : Ctx} {ops : Array Oper} {N : Nat} {p : List PanicEntry → Fr → World → Prop} {K : Fr → World → Prop} {l : List Oper} {st st' : S} {d : Nat} {op : Op} {g : Option (Nat × Bool)} {ty : TypeId} {pos : String} {af : Array Edge}
 {ρ : Env} {β : Nat → Nat} {G : Gm} {F : Fr} {w : World}
/-- An operation without a guard. -/
theorem step_op (hcall : CallOk c call) {C : Kn} {H : List Ft} {a : Av} {M : List (List Av)} {n : Nat} (hR : Rep c ρ β G st F w) (hC : KnOk F C) (hH : ∀ f ∈ H, FtOk ρ f ∧ f.old st.n = true) (hd : Nat.blt d N = true)
  (h : opA c call st.A C st.M H st.n op = some (a, M, n))
  (hk : ∀ ρ' β' G' v w', Ext st.n st.M.length ρ β G w ρ' β' G' w' → st.n ≤ n → st.M.length ≤ M.length → Rep c ρ' β' G' ⟨st.A, M, st.H, n⟩ F w' → gam (shp c.sh) ρ' β' G' F a v → K (upd F d v) w') :
  OpP κ c.P N p ⟨some d, op, ty, pos, af, g⟩ F w K := by
 cases opA_ok hR.fr hR.fo hC (fun f hf => (hH f hf).1) hR.me h with
 | val v hv run =>
  exact OpP_val (run w hR.sat (some d) ty pos af g) hd (hk _ _ _ _ _ (.refl hR.sat) (Nat.le_refl _) (Nat.le_refl _) hR hv)
 | box T X l l' n' cs e hz hp hn hv =>
  subst e
  have hrun : (execOp (ev F) ⟨some d, .box T X, ty, pos, af, g⟩).run c.P w = .ok (.value ((fun b => pV b) w.heap.size)) (w.alloc (.cells cs.toArray T)) := by
   rcases hv with hv | ⟨v, rfl, hv, h1⟩
   ·exact rn_boxA hv
   ·exact rn_box1 hv h1
  refine OpP_newF (v := fun b => pV b) hrun hR.sat hd fun b G' w' hg hc => ?_
  obtain ⟨ρ', β', h1, h2, hb, h3⟩ := hR.box hg hz hp hn hc
  refine hk ρ' β' G' (pV b) w' h1 h2 (by simp) h3 ?_
  show pV b = .pointer (some ⟨β' st.M.length, 0, none⟩)
  rw [hb]
 | call k avs al hz hp hc _ run =>
  obtain ⟨h1, h2, h3⟩ := hcall k avs st.M H st.n a hc ρ β G w al hR.sat hz hp hR.me hH
  refine OpP_enter (run w (some d) ty pos af g) hd h1 fun e w'' ⟨v, G', e1, hg, hv⟩ => ⟨v, e1, .below hg.below, ?_⟩
  exact hk ρ β G' v w'' ⟨fun _ _ => rfl, fun _ _ => rfl, hg⟩ (Nat.le_refl _) (Nat.le_refl _) (hR.grow hg) (gam_frame (F' := F) h3 hv)
theorem stepA_none {st1 : S} {bx : Bool} (h : stepA c call ops N bx st d op none = some st1) : ∃ a M n, opA c call st.A [] st.M st.H st.n op = some (a, M, n) ∧ Nat.blt d N = true ∧ a.old n M.length = true ∧ a.isGd = false ∧ (bx = true ∨ ((pureOp op = true ∨ (a.isInt || a.isBool) = true) ∧ M.length = st.M.length ∧ n = st.n)) ∧ st1 = ⟨put d a 0 st.A, M, st.H, n⟩ := by
 unfold stepA at h
 obtain ⟨hd, h⟩ := cond_some h
 split at h
 ·split at h
  ·rename_i a M n ha
   obtain ⟨h1, h2⟩ := cond_some h
   cases h2
   obtain ⟨h1, h3⟩ := and2 h1
   obtain ⟨h3, h4⟩ := and2 h3
   refine ⟨a, M, n, ha, hd, h1, not1 h3, ?_, rfl⟩
   rcases or2 h4 with h4 | h4
   ·exact .inl h4
   ·obtain ⟨h5, h6⟩ := and2 h4
    obtain ⟨h6, h7⟩ := and2 h6
    exact .inr ⟨or2 h5, nbeq h6, nbeq h7⟩
  ·cases h
 ·rename_i e; cases e
theorem stepA_some {st1 : S} {j : Nat} {w bx : Bool} (h : stepA c call ops N bx st d op (some (j, w)) = some st1) : ∃ g a M n, (ops[j]?).bind (·.dst) = some g ∧ Nat.blt g N = true ∧ boolish (at_ st.A g) = true ∧
  opA c call st.A (chase st.A 4 g w) st.M (fts st.A (chase st.A 4 g w) (chase st.A 4 g w) ++ st.H) st.n op = some (a, M, n) ∧ Nat.blt d N = true ∧ a.old st.n st.M.length = true ∧ a.isGd = false ∧ (bx = true ∨ (pureOp op = true ∨ (a.isInt || a.isBool) = true)) ∧ M.length = st.M.length ∧ st1 = ⟨put d (.gd g w a) 0 st.A, st.M, st.H, st.n⟩ := by
 unfold stepA at h
 obtain ⟨hd, h⟩ := cond_some h
 split at h
 ·rename_i e; cases e
 ·rename_i j' w' e
  cases e
  split at h
  ·rename_i g hg
   obtain ⟨h1, h⟩ := cond_some h
   obtain ⟨h1, h2⟩ := and2 h1
   obtain ⟨_, h3⟩ := and2 h2
   split at h
   ·rename_i a M n ha
    obtain ⟨h4, h5⟩ := cond_some h
    cases h5
    obtain ⟨h4, h6⟩ := and2 h4
    obtain ⟨h6, h7⟩ := and2 h6
    obtain ⟨h7, h8⟩ := and2 h7
    obtain ⟨h8, h9⟩ := and2 h8
    have e1 := nbeq h8
    have e2 := nbeq h9
    exact ⟨g, a, M, n, hg, h1, h3, ha, hd, by rw [← e1, ← e2]; exact h4, not1 h6, (or2 h7).imp id or2, e1, rfl⟩
   ·cases h
  ·cases h
/-- The guard does not let it pass. -/
theorem Rep.skip (hR : Rep c ρ β G st F w) {g : Nat} {a : Av} {wt : Bool} (ho : a.old st.n st.M.length = true) (hg : F g ≠ .bool wt) : Rep c ρ β G ⟨put d (.gd g wt a) 0 st.A, st.M, st.H, st.n⟩ (upd F d undef) w :=
 hR.val (.inr ⟨hg, rfl⟩) ho
theorem guard_cases (hR : Rep c ρ β G st F w) {g : Nat} (hb : boolish (at_ st.A g) = true) (wt : Bool) : F g = .bool wt ∨ F g = .bool (!wt) ∨ F g = undef := by
 rcases boolish_gam hb (hR.fr g) with ⟨b, h⟩ | h
 ·rw [h]; cases b <;> cases wt <;> simp
 ·exact .inr (.inr h)
theorem res_same {H : List Ft} {C : Kn} {a : Av} {M : List (List Av)} {n : Nat} (hR : Rep c ρ β G st F w) (hC : KnOk F C) (hH : ∀ f ∈ H, FtOk ρ f) (h : opA c call st.A C st.M H st.n op = some (a, M, n)) (hl : M.length = st.M.length) : M = st.M ∧ n = st.n := by
 cases opA_ok hR.fr hR.fo hC hH hR.me h with
 | val => exact ⟨rfl, rfl⟩
 | box T X l l' n' cs => simp at hl
 | call => exact ⟨rfl, rfl⟩
theorem kn_facts (hR : Rep c ρ β G st F w) {g : Nat} {wt : Bool} (hg : F g = .bool wt) : KnOk F (chase st.A 4 g wt) ∧ ∀ f ∈ fts st.A (chase st.A 4 g wt) (chase st.A 4 g wt) ++ st.H, FtOk ρ f ∧ f.old st.n = true := by
 have hC := chase_ok hR.fr 4 g wt hg
 refine ⟨hC, fun f hf => ?_⟩
 rcases List.mem_append.1 hf with h | h
 ·exact ⟨fts_ok hR.fr hC (fun _ h => h) f h, fts_old hR.fo _ _ f h⟩
 ·exact hR.ft f h
/-- An operation of a region in the text's order. -/
theorem stepA_WL {bx : Bool} (hcall : CallOk c call) (h : stepA c call ops N bx st d op g = some st') (hR : Rep c ρ β G st F w)
  (hk : ∀ ρ' β' G' F' w', Ext st.n st.M.length ρ β G w ρ' β' G' w' → st.n ≤ st'.n → st.M.length ≤ st'.M.length → Rep c ρ' β' G' st' F' w' → WL κ c.P N ops p K l F' w') : WL κ c.P N ops p K (⟨some d, op, ty, pos, af, g⟩ :: l) F w := by
 cases g with
 | none =>
  obtain ⟨a, M, n, ha, hd, ho, hg, _, rfl⟩ := stepA_none h
  exact WL_op rfl (step_op hcall hR (C := []) (fun _ h => by cases h) hR.ft hd ha fun ρ' β' G' v w' h1 h2 h3 h4 h5 => hk ρ' β' G' _ w' h1 h2 h3 (h4.val h5 ho))
 | some q =>
  obtain ⟨j, wt⟩ := q
  obtain ⟨g, a, M, n, hj, hg, hb, ha, hd, ho, hgd, _, hl, rfl⟩ := stepA_some h
  rcases guard_cases hR hb wt with hv | hv | hv
  ·obtain ⟨hC, hH⟩ := kn_facts hR hv
   obtain ⟨rfl, rfl⟩ := res_same hR hC (fun f hf => (hH f hf).1) ha hl
   exact WL_guardY hj rfl hv hg (WL_op rfl (step_op hcall hR hC hH hd ha fun ρ' β' G' v w' h1 h2 h3 h4 h5 => hk ρ' β' G' _ w' h1 h2 h3 (h4.val (.inl ⟨hv, h5⟩) ho)))
  ·exact WL_guardN hj rfl hv hd hg (hk ρ β G _ w (.refl hR.sat) (Nat.le_refl _) (Nat.le_refl _) (hR.skip ho (by rw [hv]; cases wt <;> simp)))
  ·exact WL_guardU hj hv hd hg (hk ρ β G _ w (.refl hR.sat) (Nat.le_refl _) (Nat.le_refl _) (hR.skip ho (by rw [hv]; unfold undef; simp)))
end
end Go.Proofs.YtdgkjgljkgjjiaaGreatDoor.Sf
/-
 Regions: in any order; blocks that are laid and filled.
-/
namespace Go.Proofs.YtdgkjgljkgjjiaaGreatDoor.Sf
open Go.RowKit
set_option linter.unusedVariables false
section
variable {c : Cx} {call : CallT} {κ : Ctx} {ops : Array Oper} {N : Nat} {K : Fr → World → Prop} {l : List Oper} {st st' : S} {d : Nat} {op : Op} {g : Option (Nat × Bool)} {ty : TypeId} {pos : String} {af : Array Edge}
 {ρ : Env} {β : Nat → Nat} {G : Gm} {F : Fr} {w : World}
theorem Rep.at {w' : World} (hR : Rep c ρ β G st F w) (h : Sat G w') : Rep c ρ β G st F w' := ⟨h, hR.fr, hR.fo, hR.me, hR.ft⟩
theorem step_D {p : List PanicEntry → Fr → World → Prop} (hcall : CallOk c call) {C : Kn} {H : List Ft} {a : Av} {M : List (List Av)} {n : Nat} (hR : Rep c ρ β G st F w) (hC : KnOk F C) (hH : ∀ f ∈ H, FtOk ρ f ∧ f.old st.n = true) (hd : Nat.blt d N = true)
  (h : opA c call st.A C st.M H st.n op = some (a, M, n)) (hl : M.length = st.M.length) (hs : pureOp op = true ∨ (a.isInt || a.isBool) = true)
  (hk : ∀ v w', Below w.heap.size w w' → Sat G w' → gam (shp c.sh) ρ β G F a v → K (upd F d v) w') : OpP κ c.P N p ⟨some d, op, ty, pos, af, g⟩ F w K := by
 cases opA_ok hR.fr hR.fo hC (fun f hf => (hH f hf).1) hR.me h with
 | val v hv run => exact OpP_val (run w hR.sat (some d) ty pos af g) hd (hk v w (Below.refl _ _) hR.sat hv)
 | box T X l l' n' cs e hz hp hn hv => simp at hl
 | call k avs al hz hp hc hop run =>
  have hs : (a.isInt || a.isBool) = true := hs.resolve_left (by rw [hop]; simp)
  obtain ⟨h1, h2, h3⟩ := hcall k avs st.M H st.n a hc ρ β G w al hR.sat hz hp hR.me hH
  refine OpP_enter (run w (some d) ty pos af g) hd h1 fun e w'' ⟨v, G', e1, hg, hv⟩ => ⟨v, e1, .below hg.below, ?_⟩
  exact hk v w'' hg.below (hg.sat.le hg.le) (scal_gam hs (gam_frame (F' := F) h3 hv))
theorem step_P (hp : pureOp op = true) {C : Kn} {H : List Ft} {a : Av} {M : List (List Av)} {n : Nat} (hR : Rep c ρ β G st F w) (hC : KnOk F C) (hH : ∀ f ∈ H, FtOk ρ f ∧ f.old st.n = true)
  (h : opA c call st.A C st.M H st.n op = some (a, M, n)) (hl : M.length = st.M.length) :
  ∃ v, gam (shp c.sh) ρ β G F a v ∧ ∀ w, Sat G w → ∀ d ty pos af gd, (execOp (ev F) ⟨d, op, ty, pos, af, gd⟩).run c.P w = .ok (.value v) w := by
 cases opA_ok hR.fr hR.fo hC (fun f hf => (hH f hf).1) hR.me h with
 | val v hv run => exact ⟨v, hv, run⟩
 | box T X l l' n' cs e hz hp hn hv => simp at hl
 | call k avs al hz hp' hc hop run => rw [hop] at hp; cases hp
variable {p : List PanicEntry → World → Prop} {fl : List Nat} {r : OT} {i : Nat}
theorem ot_dst {j g : Nat} (h : (ops[j]?).bind (·.dst) = some g) : (ops.toList[j]?).bind (·.dst) = some g := by simpa using h
theorem stepA_fl (hp : pureOp op = true) (h : stepA c call ops N false st d op g = some st') (hi : ops.toList[i]? = some ⟨some d, op, ty, pos, af, g⟩) (hR : Rep c ρ β G st F w)
  (hk : ∀ F', Rep c ρ β G st' F' w → st'.n = st.n → st'.M = st.M → WD κ c.P N p ops (fun _ w => Sat G w) fl K r F' w) : WD κ c.P N p ops (fun _ w => Sat G w) fl K (.fl i r) F w := by
 cases g with
 | none =>
  obtain ⟨a, M, n, ha, hd, ho, hg, hs, rfl⟩ := stepA_none h
  obtain ⟨_, hl, rfl⟩ := hs.resolve_left (by simp)
  obtain ⟨rfl, _⟩ := res_same hR (C := []) (fun _ h => by cases h) (fun f hf => (hR.ft f hf).1) ha hl
  obtain ⟨v, hv, run⟩ := step_P hp hR (C := []) (fun _ h => by cases h) hR.ft ha hl
  exact WD_val hi (fun w hw => run w hw _ _ _ _ _) hd (hk _ (hR.val hv ho) rfl rfl)
 | some q =>
  obtain ⟨j, wt⟩ := q
  obtain ⟨g, a, M, n, hj, hg, hb, ha, hd, ho, hgd, _, hl, rfl⟩ := stepA_some h
  rcases guard_cases hR hb wt with hv | hv | hv
  ·obtain ⟨hC, hH⟩ := kn_facts hR hv
   obtain ⟨v, hv', run⟩ := step_P hp hR hC hH ha hl
   exact WD_valY hi (ot_dst hj) rfl hv hg (fun w hw => run w hw _ _ _ _ _) hd (hk _ (hR.val (.inl ⟨hv, hv'⟩) ho) rfl rfl)
  ·exact WD_skip hi (ot_dst hj) rfl hv hg hd (hk _ (hR.skip ho (by rw [hv]; cases wt <;> simp)) rfl rfl)
  ·exact WD_undefN hi (ot_dst hj) hv hg hd (hk _ (hR.skip ho (by rw [hv]; unfold undef; simp)) rfl rfl)
theorem stepA_on (hcall : CallOk c call) (h : stepA c call ops N false st d op g = some st') (hi : ops.toList[i]? = some ⟨some d, op, ty, pos, af, g⟩) (hR : Rep c ρ β G st F w)
  (hk : ∀ F' w', Below w.heap.size w w' → Rep c ρ β G st' F' w' → st'.n = st.n → st'.M = st.M → WD κ c.P N p ops (fun _ w => Sat G w) fl K r F' w') : WD κ c.P N p ops (fun _ w => Sat G w) fl K (.on i r) F w := by
 cases g with
 | none =>
  obtain ⟨a, M, n, ha, hd, ho, hg, hs, rfl⟩ := stepA_none h
  obtain ⟨hs', hl, rfl⟩ := hs.resolve_left (by simp)
  obtain ⟨rfl, _⟩ := res_same hR (C := []) (fun _ h => by cases h) (fun f hf => (hR.ft f hf).1) ha hl
  exact WD_op hi rfl (step_D hcall hR (C := []) (fun _ h => by cases h) hR.ft hd ha hl hs' fun v w' hb hS hv => ⟨fun _ _ => hS, hk _ w' hb ((hR.at hS).val hv ho) rfl rfl⟩)
 | some q =>
  obtain ⟨j, wt⟩ := q
  obtain ⟨g, a, M, n, hj, hg, hb, ha, hd, ho, hgd, hs, hl, rfl⟩ := stepA_some h
  rcases guard_cases hR hb wt with hv | hv | hv
  ·obtain ⟨hC, hH⟩ := kn_facts hR hv
   exact WD_opY hi rfl (ot_dst hj) rfl hv hg (step_D hcall hR hC hH hd ha hl (hs.resolve_left (by simp)) fun v w' hb hS hv' => ⟨fun _ _ => hS, hk _ w' hb ((hR.at hS).val (.inl ⟨hv, hv'⟩) ho) rfl rfl⟩)
  ·exact WD_skipS hi (ot_dst hj) rfl hv hg hd (fun _ _ => hR.sat) (hk _ w (Below.refl _ _) (hR.skip ho (by rw [hv]; cases wt <;> simp)) rfl rfl)
  ·exact WD_undefS hi (ot_dst hj) hv hg hd (fun _ _ => hR.sat) (hk _ w (Below.refl _ _) (hR.skip ho (by rw [hv]; unfold undef; simp)) rfl rfl)
theorem opsD_ok (hcall : CallOk c call) : ∀ (r : OT) {st st' : S} {F : Fr} {w : World}, opsD c call ops N r st = some st' → Rep c ρ β G st F w →
  (∀ F' w', Below w.heap.size w w' → Rep c ρ β G st' F' w' → st'.n = st.n → st'.M = st.M → K F' w') → WD κ c.P N p ops (fun _ w => Sat G w) fl K r F w
 | .nil, st, st', F, w, h, hR, hk => by cases h; exact WD_nil (hk F w (Below.refl _ _) hR rfl rfl)
 | .fl i r, st, st', F, w, h, hR, hk => by
  unfold opsD at h
  split at h
  ·rename_i d op ty pos af g hi
   obtain ⟨hp, h⟩ := cond_some h
   split at h
   ·rename_i st1 h1
    exact stepA_fl hp h1 hi hR fun F' hR' e1 e2 => opsD_ok hcall r h hR' fun F2 w2 hb hR2 e3 e4 => hk F2 w2 hb hR2 (e3.trans e1) (e4.trans e2)
   ·cases h
  ·cases h
 | .on i r, st, st', F, w, h, hR, hk => by
  unfold opsD at h
  split at h
  ·rename_i d op ty pos af g hi
   split at h
   ·rename_i st1 h1
    exact stepA_on hcall h1 hi hR fun F' w' hb hR' e1 e2 => opsD_ok hcall r h hR' fun F2 w2 hb2 hR2 e3 e4 => hk F2 w2 (hb.trans (hb2.mono hb.size)) hR2 (e3.trans e1) (e4.trans e2)
   ·cases h
  ·cases h
 | .two _ _ _ _, st, st', F, w, h, hR, hk => by cases h
end
section
variable {c : Cx} {call : CallT} {κ : Ctx} {ops : Array Oper} {N : Nat} {n r : Fr → World → Prop} {x : List (Nat × (Fr → World → Prop))} {st st' : S} {ρ : Env} {β : Nat → Nat} {G : Gm} {F : Fr} {w : World}
theorem drawA_ok (hm : c.P.follows .mixedOrders = true) (hcall : CallOk c call) (hro : κ.ro = none) {id : Nat} (h : drawA c call ops N st = some st') (hR : Rep c ρ β G st F w)
  (hk : ∀ F' w', Ext st.n st.M.length ρ β G w ρ β G w' → Rep c ρ β G st' F' w' → st'.n = st.n → st'.M = st.M → n F' w') : WC κ c.P N (.region id ops true) ⟨n, r, x, fun _ _ _ => False⟩ F w := by
 unfold drawA at h
 replace h : cond (Region.noSelect ops && (Nat.beq (sched ops ops.size (Array.replicate ops.size false)).len ops.size && ordOk ops (sched ops ops.size (Array.replicate ops.size false)) (Array.replicate ops.size false))) (opsD c call ops N (sched ops ops.size (Array.replicate ops.size false)) st) none = some st' := h
 generalize sched ops ops.size (Array.replicate ops.size false) = ot at h
 obtain ⟨h1, h⟩ := cond_some h
 obtain ⟨h1, h2⟩ := and2 h1
 obtain ⟨h2, h3⟩ := and2 h2
 have e : ops = ops.toList.toArray := by simp
 have hsz : ops.size = ops.toList.length := by simp
 have hd : Below w.heap.size w w.drew := below_drew w
 have hS : Sat G w.drew := hR.sat.below hd
 have key : WC κ c.P N (.region id ops.toList.toArray true) ⟨n, r, x, fun c _ w => (fun _ _ => False : List PanicEntry → World → Prop) c w⟩ F w := by
  refine WC_regionD hm (fun _ w => Sat G w) ot (by rw [← e]; exact h1) (by rw [← hsz]; exact nbeq h2) (by rw [← e, ← hsz]; exact h3) (fun _ => hS) ?_ hro
  rw [← e]
  exact opsD_ok hcall ot h (hR.at hS) fun F' w' hb hR' e1 e2 => hk F' w' ⟨fun _ _ => rfl, fun _ _ => rfl, (Grow.of_below hR.sat hd).trans (Grow.of_below hS hb)⟩ hR' e1 e2
 rw [← e] at key
 exact key
end
theorem upd_comm {F : Fr} {a b : Nat} {u v : Value} (h : a ≠ b) : upd (upd F a u) b v = upd (upd F b v) a u := by
 funext i
 show cond (Nat.beq i b) v (cond (Nat.beq i a) u (F i)) = cond (Nat.beq i a) u (cond (Nat.beq i b) v (F i))
 cases h1 : Nat.beq i a with
 | false => rfl
 | true => cases h2 : Nat.beq i b with
  | false => rfl
  | true => exact absurd ((nbeq h1).symm.trans (nbeq h2)) h
theorem ev_upd {F : Fr} {d : Nat} {u : Value} {x : Operand} (h : notT d x = true) : ev (upd F d u) x = ev F x := by
 cases x with
 | tmp t =>
  have : Nat.beq t d = false := not1 h
  show cond (Nat.beq t d) u (F t) = F t
  rw [this]; rfl
 | _ => rfl
section
variable {c : Cx} {call : CallT} {κ : Ctx} {ops : Array Oper} {N : Nat} {p : List PanicEntry → Fr → World → Prop} {K : Fr → World → Prop} {l : List Oper} {st st' : S} {d T : Nat} {ty : TypeId} {pos : String} {af : Array Edge}
 {ρ : Env} {β : Nat → Nat} {G : Gm} {F : Fr} {w : World}
theorem rn_alloc {P : Program} {i : TypeInfo} {z : Value} {od : Option Nat} {gd : Option (Nat × Bool)} (hi : P.info? T = some i) (hz : i.zero = some z) :
  (execOp (ev F) ⟨od, .alloc T, ty, pos, af, gd⟩).run P w = .ok (.value ((fun b => pV b) w.heap.size)) (w.alloc (.cells z.cells T)) := by
 simp [execOp, Instr.alloc, zeroValue, typeInfo, hi, hz, newVar]; rfl
theorem sizeT_ok {P : Program} {k : Nat} (h : sizeT P T = some k) : ∃ i z, P.info? T = some i ∧ i.zero = some z ∧ z.cells.size = k ∧ i.size = k := by
 unfold sizeT at h
 split at h
 ·rename_i i hi
  split at h
  ·rename_i z hz
   obtain ⟨h1, h2⟩ := cond_some h
   cases h2
   exact ⟨i, z, hi, hz, nbeq h1, rfl⟩
  ·cases h
 ·cases h
theorem fill2_alloc (h : fill2 c N st d T l = some st') : ∃ k, sizeT c.P T = some k ∧ Nat.blt d N = true := by
 unfold fill2 at h
 split at h
 ·obtain ⟨_, h⟩ := cond_some h
  split at h
  ·rename_i k hk
   obtain ⟨_, h⟩ := cond_some h
   unfold fillA at h
   exact ⟨k, hk, (cond_some h).1⟩
  ·cases h
 ·cases h
theorem fill2_ok (h : fill2 c N st d T l = some st') (hR : Rep c ρ β G st F w) {k : Nat} {z : List Value} (hk' : sizeT c.P T = some k) (hz : z.length = k) {b : Nat} {w1 : World} (hS : Since w.heap.size G w G w1)
  (hO : Owns G w1 w.heap.size [⟨T, k, 1, .slice (some ⟨b, 0, none⟩) 1 1, z⟩])
  (hk : ∀ ρ' β' G' F' w', Ext st.n st.M.length ρ β G w ρ' β' G' w' → st.n ≤ st'.n → st.M.length ≤ st'.M.length → Rep c ρ' β' G' st' F' w' → K F' w') : WL κ c.P N ops p K l (upd F d (pV b)) w1 := by
 unfold fill2 at h
 split at h
 ·rename_i T' d' x ty pos af
  obtain ⟨h0, h9⟩ := cond_some h
  obtain ⟨h1, h2⟩ := and2 h0
  obtain ⟨h2', h3⟩ := and2 h2
  have e1 := nbeq h1
  have e2 := nbeq h2'
  clear h h0 h1 h2 h2'
  subst e1
  subst e2
  rw [hk'] at h9
  obtain ⟨hck, h8⟩ := cond_some h9
  unfold fillA at h8
  obtain ⟨hd, h7⟩ := cond_some h8
  unfold cellsN at hck
  split at h7
  ·rename_i cl hcl
   rw [hcl] at hck
   have hck := nbeq hck
   cases e : nms st.n cl with
   | mk l' n' =>
    rw [e] at h7
    cases h7
    obtain ⟨i, zv, hi, _, _, hik⟩ := sizeT_ok hk'
    have hsz : szB c.P T = some k := by unfold szB; rw [hi]; exact congrArg some hik
    obtain ⟨cs, q1, q2, q3, q4⟩ := cells1_ok hcl (avO_gam hR.fr (C := []) (fun _ h => by cases h) x) (avO_plain hR.fo [] x).2
    have hlen : cs.length = k := q1.len.symm.trans hck
    have hvc : (ev F x).cells.toList = cs := by
     rcases q3 with q3 | ⟨q3, q5⟩
     ·rw [q3]; rfl
     ·rw [q5, q3]
    refine WL_op rfl (OpP_store (k := 0) (off := 0) (vs := cs) hsz hS hO rfl (by show cond (Nat.beq d d) _ _ = _; rw [Nat.beq_refl]; rfl) (ev_upd h3) hvc hlen q4 (by rw [hz, hlen]; omega) fun w2 hS hO => WL_nil ?_)
    obtain ⟨G3, le3, hS, _, hc, _⟩ := hO.freeze hS (k := 0) rfl
    have hc : Cells G3 b 0 (splice z 0 cs) := hc b 0 1 1 rfl
    have hsp : splice z 0 cs = cs := by
     unfold splice
     rw [List.take_zero, List.nil_append, List.drop_eq_nil_of_le (by omega), List.append_nil]
    rw [hsp] at hc
    obtain ⟨ρ', β', r1, r2, r3, r4⟩ := hR.box hS.toGrow q1 q2 e hc
    refine hk ρ' β' G3 _ w2 r1 r2 (by simp) (r4.val (a := .box st.M.length 0) ?_ ?_)
    ·show pV b = .pointer (some ⟨β' st.M.length, 0, none⟩)
     rw [r3]
    ·exact blt_of (by simp)
  ·cases h7
 ·cases h
theorem assign_step {e : Nat} {y : Operand} (h : stepA c call ops N true st e (.assign y) none = some st') : Nat.blt e N = true ∧ st' = ⟨put e (avO st.A [] y) 0 st.A, st.M, st.H, st.n⟩ ∧ (avO st.A [] y).old st.n st.M.length = true := by
 obtain ⟨a, M, n, ha, hd, ho, hg, _, rfl⟩ := stepA_none h
 cases ha
 exact ⟨hd, rfl, ho⟩
theorem ops1_ok (hcall : CallOk c call) : ∀ (l : List Oper) {st st' : S} {ρ : Env} {β : Nat → Nat} {G : Gm} {F : Fr} {w : World}, ops1 c call ops N l st = some st' → Rep c ρ β G st F w →
  (∀ ρ' β' G' F' w', Ext st.n st.M.length ρ β G w ρ' β' G' w' → st.n ≤ st'.n → st.M.length ≤ st'.M.length → Rep c ρ' β' G' st' F' w' → K F' w') → WL κ c.P N ops p K l F w := by
 intro l
 induction l with
 | nil =>
  intro st st' ρ β G F w h hR hk
  cases h
  exact WL_nil (hk ρ β G F w (.refl hR.sat) (Nat.le_refl _) (Nat.le_refl _) hR)
 | cons o l ih =>
  intro st st' ρ β G F w h hR hk
  have alc : ∀ {d T : Nat} {ty : TypeId} {pos : String} {af : Array Edge} {l : List Oper} {i : TypeInfo} {z : Value} {k : Nat}, c.P.info? T = some i → i.zero = some z → z.cells.size = k → Nat.blt d N = true →
    (∀ b w1, Since w.heap.size G w G w1 → Owns G w1 w.heap.size [⟨T, k, 1, .slice (some ⟨b, 0, none⟩) 1 1, z.cells.toList⟩] → WL κ c.P N ops p K l (upd F d (pV b)) w1) → WL κ c.P N ops p K (⟨some d, .alloc T, ty, pos, af, none⟩ :: l) F w := by
   intro d T ty pos af l i z k hi hz hs hd hh
   refine WL_op rfl (OpP_newO (v := fun b => pV b) (cs := z.cells.toList) (e := T) (by rw [Array.toArray_toList]; exact rn_alloc hi hz) hR.sat (own0 G w) hd k 1 (by simp [hs]) (by decide) fun b w1 hb hO => hh b w1 ((Since.start hR.sat).keep hb) hO)
  unfold ops1 at h
  split at h
  ·rename_i d T hal
   unfold allocOf at hal
   split at hal
   ·cases hal
    unfold tailA at h
    split at h
    ·obtain ⟨k, hk', hd⟩ := fill2_alloc h
     obtain ⟨i, z, hi, hz, h1, h2⟩ := sizeT_ok hk'
     exact alc hi hz h1 hd fun b w1 hS hO => fill2_ok h hR hk' (by simpa using h1) hS hO hk
    ·rename_i e y ty pos af s
     obtain ⟨h1, h⟩ := cond_some h
     obtain ⟨h1, h2⟩ := and2 h1
     split at h
     ·rename_i st1 hst
      obtain ⟨k, hk', hd⟩ := fill2_alloc h
      obtain ⟨i, z, hi, hz, h3, h4⟩ := sizeT_ok hk'
      obtain ⟨he, rfl, ho⟩ := assign_step hst
      refine alc hi hz h3 hd fun b w1 hS hO => WL_val (rn_assign (v := ev F y) (ev_upd h2)) he ?_
      have hne : d ≠ e := fun e' => by subst e'; simp at h1
      rw [upd_comm hne]
      exact fill2_ok h (hR.val (d := e) (avO_gam hR.fr (C := []) (fun _ h => by cases h) y) ho) hk' (by simpa using h3) hS hO hk
     ·cases h
    ·cases h
   ·cases hal
  ·split at h
   ·split at h
    ·rename_i st1 hst
     exact stepA_WL hcall hst hR fun ρ1 β1 G1 F1 w1 x1 n1 m1 R1 => ih h R1 fun ρ2 β2 G2 F2 w2 x2 n2 m2 R2 => hk ρ2 β2 G2 F2 w2 (x1.trans x2 n1 m1) (Nat.le_trans n1 n2) (Nat.le_trans m1 m2) R2
    ·cases h
   ·cases h
end
end Go.Proofs.YtdgkjgljkgjjiaaGreatDoor.Sf
/-
 Code: what the look at it tells is so.
-/
namespace Go.Proofs.YtdgkjgljkgjjiaaGreatDoor.Sf
open Go.RowKit
set_option linter.unusedVariables false
def ExecOk (c : Cx) (ex : Nat → Nat → Code → S → Option Out) : Prop := ∀ N rt code st o, ex N rt code st = some o → ∀ (κ : Ctx) (n r : Fr → World → Prop) (x : List (Nat × (Fr → World → Prop))) ρ β G F w, κ.ro = none → Rep c ρ β G st F w →
 (∀ s, o.nm = some s → ∀ ρ' β' G' F' w', Ext st.n st.M.length ρ β G w ρ' β' G' w' → st.n ≤ s.n → st.M.length ≤ s.M.length → Rep c ρ' β' G' s F' w' → n F' w') →
 (∀ id s, (id, s) ∈ o.xs → ∃ K, look x id = some K ∧ ∀ ρ' β' G' F' w', Ext st.n st.M.length ρ β G w ρ' β' G' w' → st.n ≤ s.n → st.M.length ≤ s.M.length → Rep c ρ' β' G' s F' w' → K F' w') →
 (∀ a ∈ o.rs, ∀ ρ' β' G' F' w', Ext st.n st.M.length ρ β G w ρ' β' G' w' → gam (shp c.sh) ρ' β' G' F' a (F' rt) → r F' w') → WC κ c.P N code ⟨n, r, x, fun _ _ _ => False⟩ F w
/-- One state says less than another. -/
def Cov (c : Cx) (b t s : S) : Prop := ∀ ρ β G F w ρ' β' G' F' w', Rep c ρ β G b F w → Ext b.n b.M.length ρ β G w ρ' β' G' w' → b.n ≤ t.n → b.M.length ≤ t.M.length → Rep c ρ' β' G' t F' w' → Rep c ρ' β' G' s F' w' ∧ b.n ≤ s.n ∧ b.M.length ≤ s.M.length
theorem Cov.refl {c : Cx} {b t : S} : Cov c b t t := fun ρ β G F w ρ' β' G' F' w' h1 h2 h3 h4 h5 => ⟨h5, h3, h4⟩
theorem Cov.trans {c : Cx} {b t s u : S} (h : Cov c b t s) (k : Cov c b s u) : Cov c b t u := fun ρ β G F w ρ' β' G' F' w' h1 h2 h3 h4 h5 => by
 obtain ⟨q1, q2, q3⟩ := h _ _ _ _ _ _ _ _ _ _ h1 h2 h3 h4 h5
 exact k _ _ _ _ _ _ _ _ _ _ h1 h2 q2 q3 q1
theorem Rep.base {c : Cx} {b : S} {ρ ρ' : Env} {β β' : Nat → Nat} {G G' : Gm} {F F' : Fr} {w w' : World} {A : List Av} (h : Rep c ρ β G b F w) (x : Ext b.n b.M.length ρ β G w ρ' β' G' w') (hS : Sat G' w') (hA : ∀ i, gam (shp c.sh) ρ' β' G' F' (at_ A i) (F' i)) (ho : ∀ i, (at_ A i).old b.n b.M.length = true) :
  Rep c ρ' β' G' ⟨A, b.M, b.H, b.n⟩ F' w' :=
 ⟨hS, hA, ho, h.me.old (Nat.le_refl _) x.s x.b x.g.le, fun f hf => ⟨ft_old x.s (h.ft f hf).2 (h.ft f hf).1, (h.ft f hf).2⟩⟩
theorem at_map {f : Av → Av} (hf : f .top = .top) : ∀ (A : List Av) (i : Nat), at_ (A.map f) i = f (at_ A i)
 | [], _ => hf.symm
 | _ :: _, 0 => rfl
 | _ :: l, i + 1 => at_map hf l i
theorem cov_gen {c : Cx} {b t : S} : Cov c b t (genS b t) := fun ρ β G F w ρ' β' G' F' w' h1 h2 h3 h4 h5 => by
 refine ⟨h1.base h2 h5.sat (fun i => ?_) (fun i => ?_), Nat.le_refl _, Nat.le_refl _⟩
 ·rw [at_map (by rfl)]; exact gen_gam (h5.fr i)
 ·rw [at_map (by rfl)]; exact (gen_old _).1
theorem at_zipJ {n m : Nat} : ∀ (A B : List Av) (i : Nat), at_ (zipJ n m A B) i = .top ∨ at_ (zipJ n m A B) i = join n m (at_ A i) (at_ B i)
 | [], _, _ => .inl rfl
 | _ :: _, [], _ => .inl rfl
 | _ :: _, _ :: _, 0 => .inr rfl
 | _ :: l, _ :: r, i + 1 => at_zipJ l r i
theorem cov_joinL {c : Cx} {b s t : S} : Cov c b s (joinS b s t) := fun ρ β G F w ρ' β' G' F' w' h1 h2 h3 h4 h5 => by
 refine ⟨h1.base h2 h5.sat (fun i => ?_) (fun i => ?_), Nat.le_refl _, Nat.le_refl _⟩
 ·rcases at_zipJ (n := b.n) (m := b.M.length) s.A t.A i with e | e <;> rw [e]
  ·exact trivial
  ·exact jn_left (gen_gam (h5.fr i))
 ·rcases at_zipJ (n := b.n) (m := b.M.length) s.A t.A i with e | e <;> rw [e]
  ·rfl
  ·exact (jn_old (gen_old _) (gen_old _)).1
theorem cov_joinR {c : Cx} {b s t : S} : Cov c b t (joinS b s t) := fun ρ β G F w ρ' β' G' F' w' h1 h2 h3 h4 h5 => by
 refine ⟨h1.base h2 h5.sat (fun i => ?_) (fun i => ?_), Nat.le_refl _, Nat.le_refl _⟩
 ·rcases at_zipJ (n := b.n) (m := b.M.length) s.A t.A i with e | e <;> rw [e]
  ·exact trivial
  ·exact jn_right (gen_gam (h5.fr i))
 ·rcases at_zipJ (n := b.n) (m := b.M.length) s.A t.A i with e | e <;> rw [e]
  ·rfl
  ·exact (jn_old (gen_old _) (gen_old _)).1
theorem joinO_left {c : Cx} {b s : S} (t : Option S) : ∃ u, joinO b (some s) t = some u ∧ Cov c b s u := by
 cases t with
 | none => exact ⟨s, rfl, .refl⟩
 | some t => exact ⟨_, rfl, cov_joinL⟩
theorem joinO_right {c : Cx} {b t : S} (s : Option S) : ∃ u, joinO b s (some t) = some u ∧ Cov c b t u := by
 cases s with
 | none => exact ⟨t, rfl, .refl⟩
 | some s => exact ⟨_, rfl, cov_joinR⟩
theorem outOf_left {c : Cx} {b : S} {id : Nat} : ∀ (xs : List (Nat × S)) {s : S}, ∃ u, outOf b id (some s) xs = some u ∧ Cov c b s u
 | [], s => ⟨s, rfl, .refl⟩
 | (k, t) :: l, s => by
  show ∃ u, outOf b id (cond (Nat.beq k id) (joinO b (some s) (some t)) (some s)) l = some u ∧ _
  cases Nat.beq k id with
  | false => exact outOf_left l
  | true =>
   obtain ⟨u, h1, h2⟩ := outOf_left (c := c) (b := b) (id := id) l (s := joinS b s t)
   exact ⟨u, h1, cov_joinL.trans h2⟩
theorem outOf_mem {c : Cx} {b : S} {id : Nat} : ∀ (xs : List (Nat × S)) (s : Option S) {t : S}, (id, t) ∈ xs → ∃ u, outOf b id s xs = some u ∧ Cov c b t u
 | [], _, _, h => by cases h
 | (k, t') :: l, s, t, h => by
  show ∃ u, outOf b id (cond (Nat.beq k id) (joinO b s (some t')) s) l = some u ∧ _
  rcases List.mem_cons.1 h with e | h
  ·cases e
   rw [Nat.beq_refl]
   obtain ⟨u, h1, h2⟩ := joinO_right (c := c) (b := b) s
   obtain ⟨v, h3, h4⟩ := outOf_left (c := c) (b := b) (id := id) l (s := u)
   exact ⟨v, by rw [← h3, ← h1]; rfl, h2.trans h4⟩
  ·exact outOf_mem l _ h
theorem others_mem {id : Nat} : ∀ {xs : List (Nat × S)} {k : Nat} {t : S}, (k, t) ∈ xs → Nat.beq k id = false → (k, t) ∈ others id xs
 | [], _, _, h, _ => by cases h
 | (k', t') :: l, k, t, h, hk => by
  show (k, t) ∈ cond (Nat.beq k' id) (others id l) ((k', t') :: others id l)
  rcases List.mem_cons.1 h with e | h
  ·cases e
   rw [hk]; exact List.mem_cons_self
  ·cases Nat.beq k' id with
   | true => exact others_mem h hk
   | false => exact List.mem_cons_of_mem _ (others_mem h hk)
/-! ### Loops -/
theorem at_len : ∀ {A : List Av} {i : Nat}, A.length ≤ i → at_ A i = .top
 | [], _, _ => rfl
 | _ :: _, 0, h => by simp at h
 | _ :: l, i + 1, h => at_len (A := l) (by simpa using h)
theorem headA_len (i n msk : Nat) : ∀ (A : List Av) (k : Nat), (headA i n msk k A).length = A.length
 | [], _ => rfl
 | _ :: l, k => by show (headA i n msk (k + 1) l).length + 1 = l.length + 1; rw [headA_len i n msk l]
theorem headA_at (i n msk : Nat) : ∀ (A : List Av) (k t : Nat), t < A.length → (k + t = i ∧ at_ (headA i n msk k A) t = .sym n) ∨ (k + t ≠ i ∧ (at_ (headA i n msk k A) t = (at_ A t).wk ∨ at_ (headA i n msk k A) t = at_ A t))
 | [], _, _, h => by simp at h
 | a :: l, k, 0, _ => by
  show (k + 0 = i ∧ cond (Nat.beq k i) _ _ = _) ∨ (k + 0 ≠ i ∧ (cond (Nat.beq k i) _ _ = _ ∨ cond (Nat.beq k i) _ _ = _))
  rw [Nat.add_zero]
  cases h : Nat.beq k i with
  | true => exact .inl ⟨nbeq h, rfl⟩
  | false =>
   refine .inr ⟨fun e => by subst e; simp at h, ?_⟩
   show cond _ a.wk a = a.wk ∨ cond _ a.wk a = a
   cases (a.isGd || Nat.beq (Nat.land (Nat.shiftRight msk k) 1) 1) with
   | true => exact .inl rfl
   | false => exact .inr rfl
 | a :: l, k, t + 1, h => by
  have := headA_at i n msk l (k + 1) t (by simpa using h)
  rw [show k + 1 + t = k + (t + 1) by omega] at this
  exact this
theorem stays_at {i n : Nat} : ∀ {A B : List Av} {k t : Nat}, stays i n k A B = true → t < A.length → (k + t = i → ∃ q, at_ B t = .inc n q ∧ q.old n = true) ∧ (k + t ≠ i → sub (at_ B t) (at_ A t) = true)
 | [], _, _, _, _, h => by simp at h
 | _ :: _, [], _, _, h, _ => by cases h
 | a :: l, b :: r, k, 0, h, _ => by
  obtain ⟨h1, _⟩ := and2 h
  cases hb : Nat.beq k i with
  | true =>
   rw [hb] at h1
   refine ⟨fun _ => ?_, fun e => absurd (nbeq hb) (by simpa using e)⟩
   replace h1 : incQ n b = true := h1
   unfold incQ at h1
   split at h1
   ·rename_i s q
    obtain ⟨h2, h3⟩ := and2 h1
    exact ⟨q, by show Av.inc s q = _; rw [nbeq h2], h3⟩
   ·cases h1
  | false =>
   rw [hb] at h1
   exact ⟨fun e => by subst e; simp at hb, fun _ => h1⟩
 | a :: l, b :: r, k, t + 1, h, hl => by
  have := stays_at (t := t) (and2 h).2 (by simpa using hl)
  rw [show k + 1 + t = k + (t + 1) by omega] at this
  exact this
section
variable {c : Cx} {ex : Nat → Nat → Code → S → Option Out}
theorem loop_ok (hex : ExecOk c ex) {N rt i msk k0 : Nat} {b : Code} {st : S} {nm : Option S} {xs : List (Nat × S)} {rs : List Av} (hi : at_ st.A i = .lit (.ofNat k0))
  (h : ex N rt b ⟨headA i st.n msk 0 st.A, st.M, .nn st.n :: st.H, st.n + 1⟩ = some ⟨nm, xs, rs⟩) (hs : ∀ s, nm = some s → stays i st.n 0 (headA i st.n msk 0 st.A) s.A = true)
  {κ : Ctx} {n r : Fr → World → Prop} {x : List (Nat × (Fr → World → Prop))} {ρ : Env} {β : Nat → Nat} {G : Gm} {F : Fr} {w : World} (hro : κ.ro = none) (hR : Rep c ρ β G st F w)
  (hx : ∀ id s, (id, s) ∈ xs → ∃ K, look x id = some K ∧ ∀ ρ' β' G' F' w', Ext st.n st.M.length ρ β G w ρ' β' G' w' → Rep c ρ' β' G' (genS st s) F' w' → K F' w')
  (hr : ∀ a ∈ rs, ∀ ρ' β' G' F' w', Ext st.n st.M.length ρ β G w ρ' β' G' w' → gam (shp c.sh) ρ' β' G' F' a (F' rt) → r F' w') : WC κ c.P N (.loop b) ⟨n, r, x, fun _ _ _ => False⟩ F w := by
 have hil : i < st.A.length := by
  rcases Nat.lt_or_ge i st.A.length with h | h
  ·exact h
  ·rw [at_len h] at hi; cases hi
 have hold : ∀ t, t ≠ i → (at_ (headA i st.n msk 0 st.A) t).old st.n st.M.length = true := fun t ht => by
  rcases Nat.lt_or_ge t st.A.length with hl | hl
  ·rcases headA_at i st.n msk st.A 0 t hl with ⟨e, _⟩ | ⟨_, e | e⟩
   ·omega
   ·rw [e]; exact wk_old _
   ·rw [e]; exact hR.fo t
  ·rw [at_len (by rw [headA_len]; exact hl)]; rfl
 have hiat : at_ (headA i st.n msk 0 st.A) i = .sym st.n := by
  rcases headA_at i st.n msk st.A 0 i hil with ⟨_, e⟩ | ⟨e, _⟩
  ·exact e
  ·omega
 -- what holds at the head
 have mk : ∀ {ρ' : Env} {β' : Nat → Nat} {G' : Gm} {F' : Fr} {w' : World} {k : Int}, Ext st.n st.M.length ρ β G w ρ' β' G' w' → (∀ t, t ≠ i → gam (shp c.sh) ρ' β' G' F' (at_ (headA i st.n msk 0 st.A) t) (F' t)) → F' i = iV k → ρ' st.n = iV k → 0 ≤ k → InR k →
   Rep c ρ' β' G' ⟨headA i st.n msk 0 st.A, st.M, .nn st.n :: st.H, st.n + 1⟩ F' w' := by
  intro ρ' β' G' F' w' k e1 e2 e3 e4 e5 e6
  refine ⟨e1.g.sat, fun t => ?_, fun t => ?_, ?_, fun f hf => ?_⟩
  ·by_cases ht : t = i
   ·subst ht
    rw [hiat]
    exact ⟨by rw [e3, e4], k, e3, e6⟩
   ·exact e2 t ht
  ·by_cases ht : t = i
   ·subst ht
    show (at_ (headA t st.n msk 0 st.A) t).old (st.n + 1) st.M.length = true
    rw [hiat]
    exact blt_of (Nat.lt_succ_self _)
   ·exact Av.old_mono (Nat.le_succ _) (Nat.le_refl _) (hold t ht)
  ·intro j l hj
   obtain ⟨h1, h2⟩ := (hR.me.old (Nat.le_refl _) e1.s e1.b e1.g.le) j l hj
   exact ⟨fun a ha => ⟨Av.old_mono (Nat.le_succ _) (Nat.le_refl _) (h1 a ha).1, (h1 a ha).2⟩, h2⟩
  ·rcases List.mem_cons.1 hf with rfl | hf
   ·refine ⟨?_, blt_of (Nat.lt_succ_self _)⟩
    show 0 ≤ intV (ρ' st.n)
    rw [e4]; exact e5
   ·exact ⟨ft_old e1.s (hR.ft f hf).2 (hR.ft f hf).1, Ft.old_mono (Nat.le_succ _) (hR.ft f hf).2⟩
 -- the rounds
 have round : ∀ (m : Nat) {ρ' : Env} {β' : Nat → Nat} {G' : Gm} {F' : Fr} {w' : World} {k : Int}, (∀ s q, nm = some s → at_ s.A i = .inc st.n q → (bv ρ q - k).toNat ≤ m) → Ext st.n st.M.length ρ β G w ρ' β' G' w' →
   (∀ t, t ≠ i → gam (shp c.sh) ρ' β' G' F' (at_ (headA i st.n msk 0 st.A) t) (F' t)) → F' i = iV k → ρ' st.n = iV k → 0 ≤ k → InR k → WI κ c.P N b ⟨n, r, x, fun _ _ _ => False⟩ F' w' := by
  intro m
  induction m with
  | zero =>
   intro ρ' β' G' F' w' k hm e1 e2 e3 e4 e5 e6
   refine WI_step (hex N rt b _ _ h κ _ r x ρ' β' G' F' w' hro (mk e1 e2 e3 e4 e5 e6) (fun s hsn ρ2 β2 G2 F2 w2 x2 n2 m2 R2 => ?_) (fun id s hxs => ?_) fun a ha ρ2 β2 G2 F2 w2 x2 hg => hr a ha ρ2 β2 G2 F2 w2 (e1.trans x2 (Nat.le_succ _) (Nat.le_refl _)) hg)
   ·replace hsn : nm = some s := hsn
    exfalso
    obtain ⟨q, hq, hqo⟩ := (stays_at (t := i) (hs s hsn) (by rw [headA_len]; exact hil)).1 (by omega)
    have hgm := R2.fr i
    rw [hq] at hgm
    obtain ⟨k', g1, g2, g3, g4, g5⟩ := hgm
    have : ρ2 st.n = ρ' st.n := x2.s st.n (Nat.lt_succ_self _)
    rw [this, e4] at g2
    cases g2
    have hb : bv ρ2 q = bv ρ q := by rw [bv_old (n := st.n) (fun s hs => x2.s s (Nat.lt_succ_of_lt hs)) hqo, bv_old e1.s hqo]
    have := hm s q hsn hq
    rw [hb] at g4
    omega
   ·obtain ⟨K, hK, hh⟩ := hx id s hxs
    refine ⟨K, hK, fun ρ2 β2 G2 F2 w2 x2 n2 m2 R2 => ?_⟩
    have x3 := e1.trans x2 (Nat.le_succ _) (Nat.le_refl _)
    exact hh ρ2 β2 G2 F2 w2 x3 (cov_gen _ _ _ _ _ _ _ _ _ _ hR x3 (Nat.le_of_succ_le n2) m2 R2).1
  | succ m ih =>
   intro ρ' β' G' F' w' k hm e1 e2 e3 e4 e5 e6
   refine WI_step (hex N rt b _ _ h κ _ r x ρ' β' G' F' w' hro (mk e1 e2 e3 e4 e5 e6) (fun s hsn ρ2 β2 G2 F2 w2 x2 n2 m2 R2 => ?_) (fun id s hxs => ?_) fun a ha ρ2 β2 G2 F2 w2 x2 hg => hr a ha ρ2 β2 G2 F2 w2 (e1.trans x2 (Nat.le_succ _) (Nat.le_refl _)) hg)
   ·replace hsn : nm = some s := hsn
    have hst := hs s hsn
    obtain ⟨q, hq, hqo⟩ := (stays_at (t := i) hst (by rw [headA_len]; exact hil)).1 (by omega)
    have hgm := R2.fr i
    rw [hq] at hgm
    obtain ⟨k', g1, g2, g3, g4, g5⟩ := hgm
    have : ρ2 st.n = ρ' st.n := x2.s st.n (Nat.lt_succ_self _)
    rw [this, e4] at g2
    cases g2
    have hb : bv ρ2 q = bv ρ q := by rw [bv_old (n := st.n) (fun s hs => x2.s s (Nat.lt_succ_of_lt hs)) hqo, bv_old e1.s hqo]
    have hlow : ∀ s, s < st.n → (fun s => if s = st.n then iV (k + 1) else ρ2 s) s = ρ2 s := fun s hs => by show (if s = st.n then _ else _) = _; rw [if_neg (by omega)]
    have x3 := e1.trans x2 (Nat.le_succ _) (Nat.le_refl _)
    refine ih (ρ' := fun s => if s = st.n then iV (k + 1) else ρ2 s) (β' := β2) (G' := G2) (k := k + 1) (fun s' q' e7 e8 => ?_) ⟨fun s hs => (hlow s hs).trans (x3.s s hs), x3.b, x3.g⟩ (fun t ht => ?_) g1 (if_pos rfl) (by omega) g5
    ·have := hm s' q' e7 e8
     rw [hsn] at e7
     cases e7
     rw [hq] at e8
     cases e8
     rw [hb] at g4
     omega
    ·rcases Nat.lt_or_ge t st.A.length with hl | hl
     ·have hsub := (stays_at (t := t) hst (by rw [headA_len]; exact hl)).2 (by omega)
      exact gam_old hlow (fun _ _ => rfl) (Gle.refl _) (hold t ht) (sub_gam hsub (R2.fr t))
     ·rw [at_len (by rw [headA_len]; exact hl)]; exact trivial
   ·obtain ⟨K, hK, hh⟩ := hx id s hxs
    refine ⟨K, hK, fun ρ2 β2 G2 F2 w2 x2 n2 m2 R2 => ?_⟩
    have x3 := e1.trans x2 (Nat.le_succ _) (Nat.le_refl _)
    exact hh ρ2 β2 G2 F2 w2 x3 (cov_gen _ _ _ _ _ _ _ _ _ _ hR x3 (Nat.le_of_succ_le n2) m2 R2).1
 have hF := hR.fr i
 rw [hi] at hF
 obtain ⟨f1, f2⟩ := hF
 have hlow : ∀ s, s < st.n → (fun s => if s = st.n then iV (k0 : Int) else ρ s) s = ρ s := fun s hs => by show (if s = st.n then _ else _) = _; rw [if_neg (by omega)]
 refine WC_loopI ?_
 have e1 : Ext st.n st.M.length ρ β G w (fun s => if s = st.n then iV (k0 : Int) else ρ s) β G w := ⟨hlow, fun _ _ => rfl, .refl hR.sat⟩
 have e2 : ∀ t, t ≠ i → gam (shp c.sh) (fun s => if s = st.n then iV (k0 : Int) else ρ s) β G F (at_ (headA i st.n msk 0 st.A) t) (F t) := fun t ht => by
  refine gam_old (n := st.n) (m := st.M.length) hlow (fun _ _ => rfl) (Gle.refl _) (hold t ht) ?_
  rcases Nat.lt_or_ge t st.A.length with hl | hl
  ·rcases headA_at i st.n msk st.A 0 t hl with ⟨e, _⟩ | ⟨_, e | e⟩
   ·omega
   ·rw [e]; exact gam_wk (hR.fr t)
   ·rw [e]; exact hR.fr t
  ·rw [at_len (by rw [headA_len]; exact hl)]; exact trivial
 cases hnm : nm with
 | none => exact round 0 (fun s q e => by rw [hnm] at e; cases e) e1 e2 f1 (if_pos rfl) (Int.natCast_nonneg _) f2
 | some s =>
  obtain ⟨q, hq, hqo⟩ := (stays_at (t := i) (hs s hnm) (by rw [headA_len]; exact hil)).1 (by omega)
  refine round (bv ρ q - (k0 : Int)).toNat (fun s' q' e e' => ?_) e1 e2 f1 (if_pos rfl) (Int.natCast_nonneg _) f2
  rw [hnm] at e
  cases e
  rw [hq] at e'
  cases e'
  exact Nat.le_refl _
end
end Go.Proofs.YtdgkjgljkgjjiaaGreatDoor.Sf
/-
 Calls; all code: what the look at it tells is so.
-/
namespace Go.Proofs.YtdgkjgljkgjjiaaGreatDoor.Sf
open Go.RowKit
set_option linter.unusedVariables false
theorem joinR_ok {sh : Nat → Option (List Ck)} {ρ : Env} {β : Nat → Nat} {G : Gm} {F : Fr} {n m : Nat} : ∀ {l : List Av} {a : Av}, joinR n m l = some a → (a.old n m = true ∧ a.isGd = false) ∧ ∀ b ∈ l, ∀ v, gam sh ρ β G F b v → gam sh ρ β G F a v
 | [], _, h => by cases h
 | [b], a, h => by
  cases h
  exact ⟨gen_old b, fun b' hb v hv => by simp at hb; subst hb; exact gen_gam hv⟩
 | b :: b' :: l, a, h => by
  obtain ⟨a', h1, rfl⟩ := Option.map_eq_some_iff.1 (show (joinR n m (b' :: l)).map (join n m b) = some a from h)
  obtain ⟨h2, h3⟩ := joinR_ok (sh := sh) (ρ := ρ) (β := β) (G := G) (F := F) h1
  refine ⟨jn_old (gen_old b) (gen_old a'), fun c hc v hv => ?_⟩
  rcases List.mem_cons.1 hc with rfl | hc
  ·exact jn_left (gen_gam hv)
  ·exact jn_right (gen_gam (h3 c hc v hv))
theorem at_pad : ∀ (N : Nat) (l : List Av) (i : Nat), at_ (pad N l) i = at_ l i
 | 0, _, _ => rfl
 | N + 1, [], 0 => rfl
 | N + 1, [], i + 1 => at_pad N [] i
 | N + 1, _ :: _, 0 => rfl
 | N + 1, _ :: l, i + 1 => at_pad N l i
theorem at_some : ∀ {l : List Av} {i : Nat}, i < l.length → l[i]? = some (at_ l i)
 | [], _, h => by simp at h
 | _ :: _, 0, _ => rfl
 | _ :: l, i + 1, h => by rw [List.getElem?_cons_succ]; exact at_some (l := l) (by simpa using h)
theorem nthD_some : ∀ {l : List Value} {i : Nat}, i < l.length → l[i]? = some (nthD l i)
 | [], _, h => by simp at h
 | _ :: _, 0, _ => rfl
 | _ :: l, i + 1, h => by rw [List.getElem?_cons_succ]; exact nthD_some (l := l) (by simpa using h)
theorem callA_ok {c : Cx} {ex : Nat → Nat → Code → S → Option Out} (hex : ExecOk c ex) : CallOk c (callA c ex) := by
 intro k avs M H n a h ρ β G w al hS hz hp hM hH
 unfold callA at h
 split at h
 ·rename_i fn hfn
  split at h
  ·rename_i code t hb hr
   cases e : nms n avs with
   | mk avs' n1 =>
    rw [e] at h
    obtain ⟨hc, h⟩ := cond_some (show cond (Nat.ble avs'.length fn.ntmps && (allB (fun a => !a.isGd) avs' && Nat.blt t fn.ntmps)) (match ex fn.ntmps t code ⟨pad fn.ntmps avs', M, H, n1⟩ with
     | some ⟨nm, [], rs⟩ => joinR n M.length (match nm with | some s => at_ s.A t :: rs | none => rs)
     | _ => none) none = some a from h)
    obtain ⟨c1, c2⟩ := and2 hc
    split at h
    ·rename_i nm rs hexe
     obtain ⟨ρ1, p1, p2, p3, p4⟩ := nms_ok (F := u0) (m := M.length) e hz hp
     obtain ⟨⟨o1, o2⟩, hj⟩ := joinR_ok (sh := shp c.sh) (ρ := ρ) (β := β) (G := G) (F := u0) h
     refine ⟨?_, o1, o2⟩
     have hlen : avs'.length = al.length := p4.len
     have hres : fn.results = #[.tmp t] := Array.ext' hr
     have init : Rep c ρ1 β G ⟨pad fn.ntmps avs', M, H, n1⟩ (nthD al) w := by
      refine ⟨hS, fun i => ?_, fun i => ?_, ?_, fun f hf => ⟨ft_old p1 (hH f hf).2 (hH f hf).1, Ft.old_mono p2 (hH f hf).2⟩⟩
      ·rw [at_pad]
       rcases Nat.lt_or_ge i avs'.length with hi | hi
       ·have h1 := at_some hi
        exact gam_frame (p3 _ (List.mem_of_getElem? h1)).2 (p4.get i _ _ h1 (nthD_some (by omega)))
       ·rw [at_len hi]; exact trivial
      ·show (at_ (pad fn.ntmps avs') i).old n1 M.length = true
       rw [at_pad]
       rcases Nat.lt_or_ge i avs'.length with hi | hi
       ·exact (p3 _ (List.mem_of_getElem? (at_some hi))).1
       ·rw [at_len hi]; rfl
      ·intro j l hj
       obtain ⟨h1, h2⟩ := (hM.old (Nat.le_refl _) p1 (fun _ _ => rfl) (Gle.refl _)) j l hj
       exact ⟨fun a ha => ⟨Av.old_mono p2 (Nat.le_refl _) (h1 a ha).1, (h1 a ha).2⟩, h2⟩
     -- what is answered
     have fin : ∀ b, (∀ ρ' β' G' F' v, gam (shp c.sh) ρ' β' G' F' b v → gam (shp c.sh) ρ' β' G' F' a v) → ∀ ρ' β' G' F' w', Ext n1 M.length ρ1 β G w ρ' β' G' w' → gam (shp c.sh) ρ' β' G' F' b (F' t) → RetG G w (fun G' v => gam (shp c.sh) ρ β G' u0 a v) (.returned (F' t)) w' := by
      intro b hb ρ' β' G' F' w' x hg
      refine ⟨_, G', rfl, x.g, ?_⟩
      refine gam_frame (F := F') o2 (gam_old (n := n) (m := M.length) (fun s hs => ?_) (fun j hj => (x.b j hj).symm) (Gle.refl _) o1 (hb _ _ _ _ _ hg))
      rw [x.s s (by omega), p1 s hs]
     have cov : ∀ b, b ∈ (match nm with | some s => at_ s.A t :: rs | none => rs) → ∀ ρ' β' G' F' v, gam (shp c.sh) ρ' β' G' F' b v → gam (shp c.sh) ρ' β' G' F' a v := fun b hb ρ' β' G' F' v hv => (joinR_ok h).2 b hb v hv
     refine enter1 (shutG _ _ _) hfn hb hres rfl (by rw [← hlen]; exact c1) ?_
     refine hex _ _ _ _ _ hexe _ _ _ _ ρ1 β G (nthD al) w rfl init (fun s hs ρ' β' G' F' w' x n2 m2 R => ?_) (fun id s hs => by cases hs) fun b hb ρ' β' G' F' w' x hg => ?_
     ·replace hs : nm = some s := hs
      refine fin (at_ s.A t) (cov _ ?_) ρ' β' G' F' w' x (R.fr t)
      rw [hs]; exact List.mem_cons_self
     ·refine fin b (cov b ?_) ρ' β' G' F' w' x hg
      cases nm with
      | none => exact hb
      | some s => exact List.mem_cons_of_mem _ hb
    ·cases h
  ·cases h
 ·cases h
theorem exec_ok {c : Cx} (hm : c.P.follows .mixedOrders = true) : ∀ k, ExecOk c (exec c k) := by
 intro k
 induction k with
 | zero => intro N rt code st o h; cases h
 | succ k ih =>
  have hcall := callA_ok ih
  intro N rt code st o h κ n r x ρ β G F w hro hR hn hx hr
  unfold exec at h
  split at h
  ·cases h
   exact WC_skip (hn st rfl ρ β G F w (.refl hR.sat) (Nat.le_refl _) (Nat.le_refl _) hR)
  ·rename_i id ops
   obtain ⟨s, h1, rfl⟩ := Option.map_eq_some_iff.1 h
   have e : ops = ops.toList.toArray := by simp
   have key : WL κ c.P N ops.toList.toArray (fun _ _ _ => False) n ops.toList F w := by
    rw [← e]
    exact ops1_ok hcall ops.toList h1 hR fun ρ' β' G' F' w' a b d e => hn s rfl ρ' β' G' F' w' a b d e
   have := WC_region (id := id) (r := r) (x := x) key
   rw [← e] at this
   exact this
  ·rename_i id ops
   obtain ⟨s, h1, rfl⟩ := Option.map_eq_some_iff.1 h
   exact drawA_ok hm hcall hro h1 hR fun F' w' a b e1 e2 => hn s rfl ρ β G F' w' a (by omega) (by rw [e2]; exact Nat.le_refl _) b
  ·rename_i a b
   split at h
   ·rename_i s xs rs h1
    split at h
    ·rename_i nm ys qs h2
     cases h
     refine WC_seq (ih N rt a st _ h1 κ _ r x ρ β G F w hro hR (fun s' hs ρ1 β1 G1 F1 w1 x1 n1 m1 R1 => ?_) (fun id s' hs => hx id s' (List.mem_append_left _ hs)) fun a' ha => hr a' (List.mem_append_left _ ha))
     cases hs
     refine ih N rt b s _ h2 κ n r x ρ1 β1 G1 F1 w1 hro R1 (fun s' hs ρ2 β2 G2 F2 w2 x2 n2 m2 R2 => hn s' hs ρ2 β2 G2 F2 w2 (x1.trans x2 n1 m1) (Nat.le_trans n1 n2) (Nat.le_trans m1 m2) R2) (fun id s' hs => ?_) fun a' ha ρ2 β2 G2 F2 w2 x2 hg => hr a' (List.mem_append_right _ ha) ρ2 β2 G2 F2 w2 (x1.trans x2 n1 m1) hg
     obtain ⟨K, hK, hh⟩ := hx id s' (List.mem_append_right _ hs)
     exact ⟨K, hK, fun ρ2 β2 G2 F2 w2 x2 n2 m2 R2 => hh ρ2 β2 G2 F2 w2 (x1.trans x2 n1 m1) (Nat.le_trans n1 n2) (Nat.le_trans m1 m2) R2⟩
    ·cases h
   ·rename_i o' hno
    cases ho : exec c k N rt a st with
    | none => rw [ho] at h; cases h
    | some o1 =>
     rw [ho] at h
     cases h
     obtain ⟨nm, xs, rs⟩ := o
     cases nm with
     | some s => exact absurd ho (hno s xs rs)
     | none => exact WC_seq (ih N rt a st _ ho κ _ r x ρ β G F w hro hR (fun s' hs => by cases hs) hx hr)
  ·rename_i t a b
   obtain ⟨hb, h⟩ := cond_some h
   split at h
   ·rename_i n1 x1 r1 n2 x2 r2 h1 h2
    cases h
    have hg := hR.fr t
    obtain ⟨q, hq⟩ := gam_bool hb hg
    rw [hq] at hg
    have side : ∀ w', q = w' → Rep c ρ β G ⟨st.A, st.M, factOf w' (at_ st.A t) ++ st.H, st.n⟩ F w := fun w' e => by
     subst e
     refine ⟨hR.sat, hR.fr, hR.fo, hR.me, fun f hf => ?_⟩
     rcases List.mem_append.1 hf with h | h
     ·exact ⟨factOf_ok hg f h, factOf_old (hR.fo t) f h⟩
     ·exact hR.ft f h
    refine WC_cond (b := q) hq (fun e => ?_) fun e => ?_
    ·refine ih N rt a _ _ h1 κ n r x ρ β G F w hro (side true e) (fun s hs ρ2 β2 G2 F2 w2 x2' n2' m2 R2 => ?_) (fun id s hs => hx id s (List.mem_append_left _ hs)) fun a' ha => hr a' (List.mem_append_left _ ha)
     cases hs
     obtain ⟨u, hu, hc⟩ := joinO_left (c := c) (b := st) (s := s) n2
     obtain ⟨q1, q2, q3⟩ := hc _ _ _ _ _ _ _ _ _ _ hR x2' n2' m2 R2
     exact hn u hu ρ2 β2 G2 F2 w2 x2' q2 q3 q1
    ·refine ih N rt b _ _ h2 κ n r x ρ β G F w hro (side false e) (fun s hs ρ2 β2 G2 F2 w2 x2' n2' m2 R2 => ?_) (fun id s hs => hx id s (List.mem_append_right _ hs)) fun a' ha => hr a' (List.mem_append_right _ ha)
     cases hs
     obtain ⟨u, hu, hc⟩ := joinO_right (c := c) (b := st) (t := s) n1
     obtain ⟨q1, q2, q3⟩ := hc _ _ _ _ _ _ _ _ _ _ hR x2' n2' m2 R2
     exact hn u hu ρ2 β2 G2 F2 w2 x2' q2 q3 q1
   ·cases h
  ·rename_i id b
   split at h
   ·rename_i nm xs rs h1
    cases h
    refine WC_block (ih N rt b st _ h1 κ n r ((id, n) :: x) ρ β G F w hro hR (fun s hs ρ2 β2 G2 F2 w2 x2 n2 m2 R2 => ?_) (fun k s hs => ?_) hr)
    ·replace hs : nm = some s := hs
     subst hs
     obtain ⟨u, hu, hc⟩ := outOf_left (c := c) (b := st) (id := id) xs (s := s)
     obtain ⟨q1, q2, q3⟩ := hc _ _ _ _ _ _ _ _ _ _ hR x2 n2 m2 R2
     exact hn u hu ρ2 β2 G2 F2 w2 x2 q2 q3 q1
    ·cases hk : Nat.beq k id with
     | true =>
      obtain rfl := nbeq hk
      refine ⟨n, by simp [look], fun ρ2 β2 G2 F2 w2 x2 n2 m2 R2 => ?_⟩
      obtain ⟨u, hu, hc⟩ := outOf_mem (c := c) (b := st) (id := k) xs nm hs
      obtain ⟨q1, q2, q3⟩ := hc _ _ _ _ _ _ _ _ _ _ hR x2 n2 m2 R2
      exact hn u hu ρ2 β2 G2 F2 w2 x2 q2 q3 q1
     | false =>
      obtain ⟨K, hK, hh⟩ := hx k s (others_mem hs hk)
      refine ⟨K, ?_, hh⟩
      have : Nat.beq id k = false := by
       cases hb : Nat.beq id k with
       | false => rfl
       | true => rw [nbeq hb] at hk; simp at hk
      show cond (Nat.beq id k) _ _ = _
      rw [this]; exact hK
   ·cases h
  ·rename_i b
   split at h
   ·rename_i i hi
    obtain ⟨hl, h⟩ := cond_some h
    split at h
    ·rename_i nm xs rs h1
     obtain ⟨hs, h⟩ := cond_some h
     cases h
     obtain ⟨k0, hk0⟩ : ∃ k0, at_ st.A i = .lit (.ofNat k0) := by
      unfold lit0 at hl
      split at hl
      ·rename_i k0 e; exact ⟨k0, e⟩
      ·cases hl
     refine loop_ok ih hk0 h1 (fun s e => ?_) hro hR (fun id s hxs => ?_) hr
     ·subst e; exact hs
     ·obtain ⟨K, hK, hh⟩ := hx id (genS st s) (List.mem_map.2 ⟨(id, s), hxs, rfl⟩)
      exact ⟨K, hK, fun ρ2 β2 G2 F2 w2 x2 R2 => hh ρ2 β2 G2 F2 w2 x2 (Nat.le_refl _) (Nat.le_refl _) R2⟩
    ·cases h
   ·cases h
  ·rename_i id
   cases h
   obtain ⟨K, hK, hh⟩ := hx id st List.mem_cons_self
   exact WC_exit hK (hh ρ β G F w (.refl hR.sat) (Nat.le_refl _) (Nat.le_refl _) hR)
  ·cases h
   exact WC_ret (hr _ List.mem_cons_self ρ β G F w (.refl hR.sat) (hR.fr rt))
  ·cases h
/-- A function that the look passes answers, whatever it is given of such a kind. -/
theorem safe_ok {c : Cx} (hm : c.P.follows .mixedOrders = true) {fuel f n : Nat} {avs : List Av} {a : Av} (h : safe c fuel f n avs = some a) (hp : allB (fun a => a.old n 0 && !a.isGd) avs = true) {ρ : Env} {G : Gm} {w : World} {al : List Value} (hS : Sat G w)
  (hz : Zip (gam (shp c.sh) ρ (fun _ => 0) G u0) avs al) : Calls c.P f al.toArray w (RetG G w fun G' v => gam (shp c.sh) ρ (fun _ => 0) G' u0 a v) :=
 (callA_ok (exec_ok hm fuel) f avs [] [] n a h _ _ G w al hS hz (fun a ha => by
  obtain ⟨h1, h2⟩ := and2 (allB_mem hp a ha)
  exact ⟨h1, not1 h2⟩) (fun j l hj => by simp at hj) (fun f hf => by cases hf)).1
end Go.Proofs.YtdgkjgljkgjjiaaGreatDoor.Sf
