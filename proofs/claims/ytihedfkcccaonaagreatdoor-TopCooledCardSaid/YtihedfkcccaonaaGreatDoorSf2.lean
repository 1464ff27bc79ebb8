/-
 Regions: in the text's order.
-/
import Derived.Test.YtihedfkcccaonaaGreatDoorSf1
namespace Go.Proofs.YtihedfkcccaonaaGreatDoor.Sf
open Go.RowKit
def Then (K : Nat) (G : Gm) (s s' : PS) (Q Q' : Fr → World → Prop) : Prop := ∀ γ G1 F w, Wd K G s.m γ G1 w → FrS K s.m.length γ s.f F →
 (∀ γ' G2 F' w', Nx s.m.length γ G1 w γ' G2 w' → Wd K G s'.m γ' G2 w' → FrS K s'.m.length γ' s'.f F' → Q' F' w') → Q F w
theorem Then.refl {K : Nat} {G : Gm} {s : PS} {Q : Fr → World → Prop} : Then K G s s Q Q := fun γ G1 F w hW hF h => h γ G1 F w (.refl hW.sat) hW hF
theorem Then.trans {K : Nat} {G : Gm} {s s1 s2 : PS} {Q Q1 Q2 : Fr → World → Prop} (h : Then K G s s1 Q Q1) (k : Then K G s1 s2 Q1 Q2) (hm : s.m.length ≤ s1.m.length) : Then K G s s2 Q Q2 := fun γ G1 F w hW hF hh =>
 h γ G1 F w hW hF fun γ1 G2 F1 w1 n1 hW1 hF1 => k γ1 G2 F1 w1 hW1 hF1 fun γ2 G3 F2 w2 n2 hW2 hF2 => hh γ2 G3 F2 w2 (n1.trans n2 hm) hW2 hF2
theorem xn {K m : Nat} {γ : Nat → Nat} {F0 F : Fr} {d : Nat} {u v : Value} (h : FrS K m γ F0 F) (hv : Sm K m γ u v) : FrS K m γ (upd F0 d u) (upd F d v) := fun t => by
 show Sm K m γ (cond (Nat.beq t d) u (F0 t)) (cond (Nat.beq t d) v (F t))
 cases Nat.beq t d with
 | true => exact hv
 | false => exact h t
theorem ziF {K m m' : Nat} {γ γ' : Nat → Nat} {F0 F : Fr} (hm : m ≤ m') (hγ : ∀ i, i < m → γ' i = γ i) (h : FrS K m γ F0 F) : FrS K m' γ' F0 F := fun t => (h t).mono hm hγ
theorem Rep.val {c : Cx} {K : Nat} {G : Gm} {st : S} {s : PS} (h : Rep c K G st s) {d : Nat} {a : Av} {v : Value} (ha : gam (shp c.sh) s.r s.b G s.f a v) (ho : a.old st.n st.M.length = true) : Rep c K G ⟨put d a 0 st.A, st.M, st.H, st.n⟩ ⟨s.r, s.b, s.m, upd s.f d v⟩ :=
 ⟨zuw h.fr ha, fun t => zk7 ho st.A 0 t h.fo, h.me, h.ft⟩
theorem Rep.boxes {c : Cx} {K : Nat} {G : Gm} {st : S} {s : PS} (h : Rep c K G st s) : ∀ j, j < st.M.length → ∃ i, s.b j = K + i := fun j hj => by
 obtain ⟨_, i, _, h1, _⟩ := h.me j _ (List.getElem?_eq_getElem hj)
 exact ⟨i, h1⟩
theorem Rep.box {c : Cx} {K : Nat} {G : Gm} {st : S} {s : PS} (h : Rep c K G st s) {l l' : List Av} {n' : Nat} {cs : List Value} (hz : Zip (gam (shp c.sh) s.r s.b G s.f) l cs)
  (hp : ∀ a ∈ l, a.old st.n st.M.length = true ∧ a.isGd = false) (hn : nms st.n l = (l', n')) :
  ∃ r' b', Ext st.n st.M.length s ⟨r', b', s.m ++ [cs], s.f⟩ ∧ st.n ≤ n' ∧ b' st.M.length = K + s.m.length ∧ Rep c K G ⟨st.A, st.M ++ [l'], st.H, n'⟩ ⟨r', b', s.m ++ [cs], s.f⟩ := by
 obtain ⟨ρ', p1, p2, p3, p4⟩ := zj4 (F := u0) (m := st.M.length) hn (hz.imp fun a v ha hv => ja (hp a ha).2 hv) hp
 have hβ : ∀ j, j < st.M.length → (fun j => if j = st.M.length then K + s.m.length else s.b j) j = s.b j := fun j hj => by show (if j = st.M.length then _ else s.b j) = _; rw [if_neg (by omega)]
 have hl : (st.M ++ [l']).length = st.M.length + 1 := by simp
 have hb : (fun j => if j = st.M.length then K + s.m.length else s.b j) st.M.length = K + s.m.length := if_pos rfl
 refine ⟨ρ', fun j => if j = st.M.length then K + s.m.length else s.b j, ⟨p1, hβ, [cs], rfl⟩, p2, hb, ?_, ?_, ?_, fun f hf => ⟨zdj p1 (h.ft f hf).2 (h.ft f hf).1, Ft.old_mono p2 (h.ft f hf).2⟩⟩
 ·exact fun t => kl p1 hβ (Gle.refl _) (h.fo t) (h.fr t)
 ·exact fun t => Av.old_mono p2 (by rw [hl]; omega) (h.fo t)
 ·intro j l hj
  show (∀ a ∈ l, a.old n' (st.M ++ [l']).length = true ∧ a.isGd = false) ∧ _
  rw [hl]
  by_cases hlt : j < st.M.length
  ·have hj' : st.M[j]? = some l := by rw [← List.getElem?_append_left (l₂ := [l']) hlt]; exact hj
   obtain ⟨h1, i, cs', h2, h5, h3, h4⟩ := h.me j l hj'
   have hi := (List.getElem?_eq_some_iff.1 h5).1
   refine ⟨fun a ha => ⟨Av.old_mono p2 (Nat.le_succ _) (h1 a ha).1, (h1 a ha).2⟩, i, cs', (hβ j hlt).trans h2, by rw [List.getElem?_append_left hi]; exact h5, h3, fun i a v e1 e2 => ?_⟩
   exact kl p1 hβ (Gle.refl _) (h1 a (List.mem_of_getElem? e1)).1 (h4 i a v e1 e2)
  ·have hj0 := (List.getElem?_eq_some_iff.1 hj).1
   rw [hl] at hj0
   obtain rfl : j = st.M.length := by omega
   have : l' = l := by
    have hj : (st.M ++ [l'])[st.M.length]? = some l := hj
    simpa using hj
   subst this
   refine ⟨fun a ha => ⟨Av.old_mono (Nat.le_refl _) (Nat.le_succ _) (p3 a ha).1, (p3 a ha).2⟩, s.m.length, cs, hb, by simp, p4.len.symm, fun i a v e1 e2 => ?_⟩
   exact kl (fun _ _ => rfl) hβ (Gle.refl _) (p3 a (List.mem_of_getElem? e1)).1 (p4.get i a v e1 e2)
theorem Wd.box {K : Nat} {G : Gm} {m : List (List Value)} {γ : Nat → Nat} {G1 G2 : Gm} {w w' : World} {b : Nat} {cs cs' : List Value} (h : Wd K G m γ G1 w) (g : Grow G1 w G2 w') (hc : Cells G2 b 0 cs') (hz : Zip (Sm K m.length γ) cs cs') :
  ∃ γ', Nx m.length γ G1 w γ' G2 w' ∧ γ' m.length = b ∧ Wd K G (m ++ [cs]) γ' G2 w' := by
 obtain ⟨γ', hγ, hb⟩ : ∃ γ' : Nat → Nat, (∀ i, i < m.length → γ' i = γ i) ∧ γ' m.length = b := ⟨fun i => if i = m.length then b else γ i, fun i hi => if_neg (by omega), if_pos rfl⟩
 have hl : m.length ≤ (m ++ [cs]).length := by simp
 refine ⟨γ', ⟨hγ, g⟩, hb, g.sat, h.le.trans g.le, fun i cs1 hi => ?_⟩
 by_cases hlt : i < m.length
 ·rw [List.getElem?_append_left hlt] at hi
  obtain ⟨cs2, h1, h2⟩ := h.bx i cs1 hi
  exact ⟨cs2, by rw [hγ i hlt]; exact h1.mono g.le, h2.imp fun a b _ h => h.mono hl hγ⟩
 ·have hi0 := (List.getElem?_eq_some_iff.1 hi).1
  rw [List.length_append, List.length_singleton] at hi0
  obtain rfl : i = m.length := by omega
  have : cs = cs1 := by simpa using hi
  subst this
  exact ⟨cs', by rw [hb]; exact hc, hz.imp fun a b _ h => h.mono hl hγ⟩
theorem zjf {sh : Nat → Option (List Ck)} {ρ : Env} {β : Nat → Nat} {G : Gm} {F : Fr} : ∀ {a : Av} {v : Value}, zcM a = true → gam sh ρ β G F a v → (∃ b, v = .bool b) ∨ v = undef := by
 intro a
 induction a with
 | gd g w a ih =>
  intro v hb h
  rcases h with h | h
  ·exact ih hb h.2
  ·exact .inr h.2
 | _ => intro v hb h; exact .inl (xP hb h)
section
variable {c : Cx} {K : Nat} {G : Gm} {call : CallT} {ops : Array Oper} {N : Nat} {st st' : S} {s : PS} {d : Nat} {op : Op} {g : Option (Nat × Bool)}
theorem zkU (hK : Bd K G) (hcall : zb5 c K G call) {C : Kn} {H : List Ft} {a : Av} {M : List (List Av)} {n : Nat} (hR : Rep c K G st s) (hC : zfK s.f C) (hH : ∀ f ∈ H, zbw s.r f ∧ f.old st.n = true)
  (h : opA c call st.A C st.M H st.n op = some (a, M, n)) :
  ∃ s' v0, s'.f = s.f ∧ Ext st.n st.M.length s s' ∧ st.n ≤ n ∧ st.M.length ≤ M.length ∧ Rep c K G ⟨st.A, M, st.H, n⟩ s' ∧ gam (shp c.sh) s'.r s'.b G s.f a v0 ∧
   ∀ {κ : Ctx} {p : List PanicEntry → Fr → World → Prop} {Q : Fr → World → Prop} {g : Option (Nat × Bool)} {ty : TypeId} {pos : String} {af : Array Edge} {γ : Nat → Nat} {G1 : Gm} {F : Fr} {w : World}, Nat.blt d N = true → Wd K G s.m γ G1 w → FrS K s.m.length γ s.f F →
    (∀ γ' G2 v w', Nx s.m.length γ G1 w γ' G2 w' → Wd K G s'.m γ' G2 w' → FrS K s'.m.length γ' s.f F → Sm K s'.m.length γ' v0 v → Q (upd F d v) w') → OpP κ c.P N p ⟨some d, op, ty, pos, af, g⟩ F w Q := by
 cases zhk hK hR.fr hR.fo hC (fun f hf => (hH f hf).1) hR.me hR.boxes h with
 | val v hv run =>
  refine ⟨s, v, rfl, .refl, Nat.le_refl _, Nat.le_refl _, hR, hv, fun hd hW hF hh => ?_⟩
  obtain ⟨v', h1, h2⟩ := run _ _ _ _ hW hF
  exact zY (h2 _ hW.sat _ _ _ _ _) hd (hh _ _ _ _ (.refl hW.sat) hW hF h1)
 | box T X l l' n' cs e hz hp hn hv =>
  subst e
  obtain ⟨r', b', x1, x2, x3, x4⟩ := hR.box hz hp hn
  refine ⟨⟨r', b', s.m ++ [cs], s.f⟩, .pointer (some ⟨K + s.m.length, 0, none⟩), rfl, x1, x2, by simp, x4, ?_, fun {κ p Q g ty pos af γ G1 F w} hd hW hF hh => ?_⟩
  ·show _ = Value.pointer (some ⟨b' st.M.length, 0, none⟩)
   rw [x3]
  ·obtain ⟨cs', z1, z2⟩ := hv γ F hF
   have hrun : (execOp (ev F) ⟨some d, .box T X, ty, pos, af, g⟩).run c.P w = .ok (.value ((fun b => pV b) w.heap.size)) (w.alloc (.cells cs'.toArray T)) := by
    rcases z2 with hv | ⟨v, rfl, hv, h1⟩
    ·exact qu hv
    ·exact zhb hv h1
   refine zP (v := fun b => pV b) hrun hW.sat hd fun b G' w' hg hc => ?_
   obtain ⟨γ', y1, y2, y3⟩ := hW.box hg hc z1
   exact hh γ' G' (pV b) w' y1 y3 (ziF (by simp) y1.g hF) (.inl (.inr ⟨s.m.length, 0, by simp, rfl, by rw [y2]⟩))
 | call k avs al hz hp hc _ run =>
  obtain ⟨v0, h1, ⟨_, h3⟩, h4, h5⟩ := hcall k avs st.M H st.n a hc s al hz hp hR.me hH
  refine ⟨s, v0, rfl, .refl, Nat.le_refl _, Nat.le_refl _, hR, ja (F' := s.f) h3 h1, fun {κ p Q g ty pos af γ G1 F w} hd hW hF hh => ?_⟩
  obtain ⟨al', z1, z2⟩ := run γ F hF
  refine jd (z2 w (some d) ty pos af g) hd (h5 γ G1 w al' hW z1) fun e w'' ⟨v, G', e1, hg, hv⟩ => ⟨v, e1, .below hg.below, ?_⟩
  subst hv
  exact hh γ G' v w'' ⟨fun _ _ => rfl, hg⟩ (hW.grow hg) hF (.of h4)
theorem vE {st1 : S} {bx : Bool} (h : zag c call ops N bx st d op none = some st1) : ∃ a M n, opA c call st.A [] st.M st.H st.n op = some (a, M, n) ∧ Nat.blt d N = true ∧ a.old n M.length = true ∧ a.isGd = false ∧ (bx = true ∨ ((zaz op = true ∨ (a.isInt || a.isBool) = true) ∧ M.length = st.M.length ∧ n = st.n)) ∧ st1 = ⟨put d a 0 st.A, M, st.H, n⟩ := by
 unfold zag at h
 obtain ⟨hd, h⟩ := z8 h
 split at h
 ·split at h
  ·rename_i a M n ha
   obtain ⟨h1, h2⟩ := z8 h
   cases h2
   obtain ⟨h1, h3⟩ := yC h1
   obtain ⟨h3, h4⟩ := yC h3
   refine ⟨a, M, n, ha, hd, h1, zrk h3, ?_, rfl⟩
   rcases or2 h4 with h4 | h4
   ·exact .inl h4
   ·obtain ⟨h5, h6⟩ := yC h4
    obtain ⟨h6, h7⟩ := yC h6
    exact .inr ⟨or2 h5, xF h6, xF h7⟩
  ·cases h
 ·rename_i e; cases e
theorem zbH {st1 : S} {j : Nat} {w bx : Bool} (h : zag c call ops N bx st d op (some (j, w)) = some st1) : ∃ g a M n, (ops[j]?).bind (·.dst) = some g ∧ Nat.blt g N = true ∧ zcM (at_ st.A g) = true ∧
  opA c call st.A (jY st.A 4 g w) st.M (fts st.A (jY st.A 4 g w) (jY st.A 4 g w) ++ st.H) st.n op = some (a, M, n) ∧ Nat.blt d N = true ∧ a.old st.n st.M.length = true ∧ a.isGd = false ∧ (bx = true ∨ (zaz op = true ∨ (a.isInt || a.isBool) = true)) ∧ M.length = st.M.length ∧ st1 = ⟨put d (.gd g w a) 0 st.A, st.M, st.H, st.n⟩ := by
 unfold zag at h
 obtain ⟨hd, h⟩ := z8 h
 split at h
 ·rename_i e; cases e
 ·rename_i j' w' e
  cases e
  split at h
  ·rename_i g hg
   obtain ⟨h1, h⟩ := z8 h
   obtain ⟨h1, h2⟩ := yC h1
   obtain ⟨_, h3⟩ := yC h2
   split at h
   ·rename_i a M n ha
    obtain ⟨h4, h5⟩ := z8 h
    cases h5
    obtain ⟨h4, h6⟩ := yC h4
    obtain ⟨h6, h7⟩ := yC h6
    obtain ⟨h7, h8⟩ := yC h7
    obtain ⟨h8, h9⟩ := yC h8
    have e1 := xF h8
    have e2 := xF h9
    exact ⟨g, a, M, n, hg, h1, h3, ha, hd, by rw [← e1, ← e2]; exact h4, zrk h6, (or2 h7).imp id or2, e1, rfl⟩
   ·cases h
  ·cases h
theorem Rep.skip (hR : Rep c K G st s) {g : Nat} {a : Av} {wt : Bool} (ho : a.old st.n st.M.length = true) (hg : s.f g ≠ .bool wt) : Rep c K G ⟨put d (.gd g wt a) 0 st.A, st.M, st.H, st.n⟩ ⟨s.r, s.b, s.m, upd s.f d undef⟩ :=
 hR.val (.inr ⟨hg, rfl⟩) ho
theorem zaK (hR : Rep c K G st s) {g : Nat} (hb : zcM (at_ st.A g) = true) (wt : Bool) : s.f g = .bool wt ∨ s.f g = .bool (!wt) ∨ s.f g = undef := by
 rcases zjf hb (hR.fr g) with ⟨b, h⟩ | h
 ·rw [h]; cases b <;> cases wt <;> simp
 ·exact .inr (.inr h)
theorem zey (hK : Bd K G) {H : List Ft} {C : Kn} {a : Av} {M : List (List Av)} {n : Nat} (hR : Rep c K G st s) (hC : zfK s.f C) (hH : ∀ f ∈ H, zbw s.r f) (h : opA c call st.A C st.M H st.n op = some (a, M, n)) (hl : M.length = st.M.length) : M = st.M ∧ n = st.n := by
 cases zhk hK hR.fr hR.fo hC hH hR.me hR.boxes h with
 | val => exact ⟨rfl, rfl⟩
 | box T X l l' n' cs => simp at hl
 | call => exact ⟨rfl, rfl⟩
theorem zeW (hR : Rep c K G st s) {g : Nat} {wt : Bool} (hg : s.f g = .bool wt) : zfK s.f (jY st.A 4 g wt) ∧ ∀ f ∈ fts st.A (jY st.A 4 g wt) (jY st.A 4 g wt) ++ st.H, zbw s.r f ∧ f.old st.n = true := by
 have hC := zfu hR.fr 4 g wt hg
 refine ⟨hC, fun f hf => ?_⟩
 rcases List.mem_append.1 hf with h | h
 ·exact ⟨zph hR.fr hC (fun _ h => h) f h, zlB hR.fo _ _ f h⟩
 ·exact hR.ft f h
theorem yJ {K : Nat} : flat K undef := trivial
theorem znG {bx : Bool} (hK : Bd K G) (hcall : zb5 c K G call) (h : zag c call ops N bx st d op g = some st') (hR : Rep c K G st s) :
  ∃ s', Ext st.n st.M.length s s' ∧ st.n ≤ st'.n ∧ st.M.length ≤ st'.M.length ∧ Rep c K G st' s' ∧
   ∀ {κ : Ctx} {p : List PanicEntry → Fr → World → Prop} {Q : Fr → World → Prop} {l : List Oper} {ty : TypeId} {pos : String} {af : Array Edge}, Then K G s s' (WL κ c.P N ops p Q (⟨some d, op, ty, pos, af, g⟩ :: l)) (WL κ c.P N ops p Q l) := by
 cases g with
 | none =>
  obtain ⟨a, M, n, ha, hd, ho, hg, _, rfl⟩ := vE h
  obtain ⟨s', v0, e1, x1, x2, x3, x4, x5, x6⟩ := zkU (N := N) (d := d) hK hcall hR (C := []) (fun _ h => by cases h) hR.ft ha
  rw [← e1] at x5
  refine ⟨⟨s'.r, s'.b, s'.m, upd s'.f d v0⟩, ⟨x1.er, x1.eb, x1.em⟩, x2, x3, x4.val x5 ho, fun γ G1 F w hW hF hh => zm rfl (x6 hd hW hF fun γ' G2 v w' n1 hW' hF' hv => hh γ' G2 _ w' n1 hW' (xn (by rw [e1]; exact hF') hv))⟩
 | some q =>
  obtain ⟨j, wt⟩ := q
  obtain ⟨g, a, M, n, hj, hg, hb, ha, hd, ho, hgd, _, hl, rfl⟩ := zbH h
  rcases zaK hR hb wt with hv | hv | hv
  ·obtain ⟨hC, hH⟩ := zeW hR hv
   obtain ⟨rfl, rfl⟩ := zey hK hR hC (fun f hf => (hH f hf).1) ha hl
   obtain ⟨s', v0, e1, x1, x2, x3, x4, x5, x6⟩ := zkU (N := N) (d := d) hK hcall hR hC hH ha
   rw [← e1] at x5 hv
   refine ⟨⟨s'.r, s'.b, s'.m, upd s'.f d v0⟩, ⟨x1.er, x1.eb, x1.em⟩, x2, x3, x4.val (.inl ⟨hv, x5⟩) ho, fun γ G1 F w hW hF hh => zl hj rfl (((hF g).flat (by rw [← e1, hv]; trivial)).trans (by rw [← e1]; exact hv)) hg (zm rfl (x6 hd hW hF fun γ' G2 v w' n1 hW' hF' hv => hh γ' G2 _ w' n1 hW' (xn (by rw [e1]; exact hF') hv)))⟩
  ·refine ⟨⟨s.r, s.b, s.m, upd s.f d undef⟩, ⟨fun _ _ => rfl, fun _ _ => rfl, [], by simp⟩, Nat.le_refl _, Nat.le_refl _, hR.skip ho (by rw [hv]; cases wt <;> simp), fun γ G1 F w hW hF hh => qd hj rfl (((hF g).flat (by rw [hv]; trivial)).trans hv) hd hg (hh γ G1 _ w (.refl hW.sat) hW (xn hF (.of yJ)))⟩
  ·refine ⟨⟨s.r, s.b, s.m, upd s.f d undef⟩, ⟨fun _ _ => rfl, fun _ _ => rfl, [], by simp⟩, Nat.le_refl _, Nat.le_refl _, hR.skip ho (by rw [hv]; unfold undef; simp), fun γ G1 F w hW hF hh => zbp hj (((hF g).flat (by rw [hv]; exact yJ)).trans hv) hd hg (hh γ G1 _ w (.refl hW.sat) hW (xn hF (.of yJ)))⟩
end
theorem Wd.at {K : Nat} {G : Gm} {m : List (List Value)} {γ : Nat → Nat} {G1 : Gm} {w w' : World} (h : Wd K G m γ G1 w) (hS : Sat G1 w') : Wd K G m γ G1 w' := ⟨hS, h.le, h.bx⟩
theorem zc6 {ops : Array Oper} {j g : Nat} (h : (ops[j]?).bind (·.dst) = some g) : (ops.toList[j]?).bind (·.dst) = some g := by simpa using h
section
variable {c : Cx} {K : Nat} {G : Gm} {call : CallT} {ops : Array Oper} {N : Nat} {st st' : S} {s : PS} {d : Nat} {op : Op} {g : Option (Nat × Bool)}
theorem znF (hK : Bd K G) (hp : zaz op = true) (h : zag c call ops N false st d op g = some st') (hR : Rep c K G st s) :
  ∃ s', Ext st.n st.M.length s s' ∧ s'.m = s.m ∧ Rep c K G st' s' ∧ st'.n = st.n ∧ st'.M = st.M ∧
   ∀ {κ : Ctx} {p : List PanicEntry → World → Prop} {Q : Fr → World → Prop} {fl : List Nat} {r : OT} {i : Nat} {ty : TypeId} {pos : String} {af : Array Edge} {γ : Nat → Nat} {G1 : Gm} {F : Fr} {w : World}, ops.toList[i]? = some ⟨some d, op, ty, pos, af, g⟩ → Wd K G s.m γ G1 w → FrS K s.m.length γ s.f F →
    (∀ F', FrS K s.m.length γ s'.f F' → WD κ c.P N p ops (fun _ w => Sat G1 w) fl Q r F' w) → WD κ c.P N p ops (fun _ w => Sat G1 w) fl Q (.fl i r) F w := by
 have E0 : ∀ f, Ext st.n st.M.length s ⟨s.r, s.b, s.m, f⟩ := fun f => ⟨fun _ _ => rfl, fun _ _ => rfl, [], by simp⟩
 have pure : ∀ {C : Kn} {H : List Ft} {a : Av} {M : List (List Av)} {n : Nat}, zfK s.f C → (∀ f ∈ H, zbw s.r f ∧ f.old st.n = true) → opA c call st.A C st.M H st.n op = some (a, M, n) → M.length = st.M.length →
   ∃ v, gam (shp c.sh) s.r s.b G s.f a v ∧ ∀ γ G1 F w, Wd K G s.m γ G1 w → FrS K s.m.length γ s.f F → ∃ v', Sm K s.m.length γ v v' ∧ ∀ w', Sat G1 w' → ∀ d ty pos af gd, (execOp (ev F) ⟨d, op, ty, pos, af, gd⟩).run c.P w' = .ok (.value v') w' := by
  intro C H a M n hC hH ha hl
  cases zhk hK hR.fr hR.fo hC (fun f hf => (hH f hf).1) hR.me hR.boxes ha with
  | val v hv run => exact ⟨v, hv, run⟩
  | box T X l l' n' cs e hz hp hn hv => simp at hl
  | call k avs al hz hp' hc hop run => rw [hop] at hp; cases hp
 cases g with
 | none =>
  obtain ⟨a, M, n, ha, hd, ho, hg, hs, rfl⟩ := vE h
  obtain ⟨_, hl, rfl⟩ := hs.resolve_left (by simp)
  obtain ⟨rfl, _⟩ := zey hK hR (C := []) (fun _ h => by cases h) (fun f hf => (hR.ft f hf).1) ha hl
  obtain ⟨v, hv, run⟩ := pure (C := []) (fun _ h => by cases h) hR.ft ha hl
  refine ⟨⟨s.r, s.b, s.m, upd s.f d v⟩, E0 _, rfl, hR.val hv ho, rfl, rfl, fun hi hW hF hh => ?_⟩
  obtain ⟨v', h1, h2⟩ := run _ _ _ _ hW hF
  exact zh hi (fun w hw => h2 w hw _ _ _ _ _) hd (hh _ (xn hF h1))
 | some q =>
  obtain ⟨j, wt⟩ := q
  obtain ⟨g, a, M, n, hj, hg, hb, ha, hd, ho, hgd, _, hl, rfl⟩ := zbH h
  rcases zaK hR hb wt with hv | hv | hv
  ·obtain ⟨hC, hH⟩ := zeW hR hv
   obtain ⟨v, hv', run⟩ := pure hC hH ha hl
   refine ⟨⟨s.r, s.b, s.m, upd s.f d v⟩, E0 _, rfl, hR.val (.inl ⟨hv, hv'⟩) ho, rfl, rfl, fun hi hW hF hh => ?_⟩
   obtain ⟨v', h1, h2⟩ := run _ _ _ _ hW hF
   exact qF hi (zc6 hj) rfl (((hF g).flat (by rw [hv]; trivial)).trans hv) hg (fun w hw => h2 w hw _ _ _ _ _) hd (hh _ (xn hF h1))
  ·exact ⟨⟨s.r, s.b, s.m, upd s.f d undef⟩, E0 _, rfl, hR.skip ho (by rw [hv]; cases wt <;> simp), rfl, rfl, fun hi hW hF hh => ye hi (zc6 hj) rfl (((hF g).flat (by rw [hv]; trivial)).trans hv) hg hd (hh _ (xn hF (.of yJ)))⟩
  ·exact ⟨⟨s.r, s.b, s.m, upd s.f d undef⟩, E0 _, rfl, hR.skip ho (by rw [hv]; unfold undef; simp), rfl, rfl, fun hi hW hF hh => znl hi (zc6 hj) (((hF g).flat (by rw [hv]; exact yJ)).trans hv) hg hd (hh _ (xn hF (.of yJ)))⟩
theorem znE (hK : Bd K G) (hcall : zb5 c K G call) (h : zag c call ops N false st d op g = some st') (hR : Rep c K G st s) :
  ∃ s', Ext st.n st.M.length s s' ∧ s'.m = s.m ∧ Rep c K G st' s' ∧ st'.n = st.n ∧ st'.M = st.M ∧
   ∀ {κ : Ctx} {p : List PanicEntry → World → Prop} {Q : Fr → World → Prop} {fl : List Nat} {r : OT} {i : Nat} {ty : TypeId} {pos : String} {af : Array Edge} {γ : Nat → Nat} {G1 : Gm} {F : Fr} {w : World}, ops.toList[i]? = some ⟨some d, op, ty, pos, af, g⟩ → Wd K G s.m γ G1 w → FrS K s.m.length γ s.f F →
    (∀ F' w', Below w.heap.size w w' → Sat G1 w' → FrS K s.m.length γ s'.f F' → WD κ c.P N p ops (fun _ w => Sat G1 w) fl Q r F' w') → WD κ c.P N p ops (fun _ w => Sat G1 w) fl Q (.on i r) F w := by
 have E0 : ∀ f, Ext st.n st.M.length s ⟨s.r, s.b, s.m, f⟩ := fun f => ⟨fun _ _ => rfl, fun _ _ => rfl, [], by simp⟩
 have one : ∀ {C : Kn} {H : List Ft} {a : Av} {M : List (List Av)} {n : Nat}, zfK s.f C → (∀ f ∈ H, zbw s.r f ∧ f.old st.n = true) → opA c call st.A C st.M H st.n op = some (a, M, n) → M.length = st.M.length →
   ∃ v, gam (shp c.sh) s.r s.b G s.f a v ∧ ∀ {κ : Ctx} {p : List PanicEntry → Fr → World → Prop} {Q : Fr → World → Prop} {g : Option (Nat × Bool)} {ty : TypeId} {pos : String} {af : Array Edge} {γ : Nat → Nat} {G1 : Gm} {F : Fr} {w : World}, Nat.blt d N = true → Wd K G s.m γ G1 w → FrS K s.m.length γ s.f F →
    (∀ v' w', Below w.heap.size w w' → Sat G1 w' → Sm K s.m.length γ v v' → Q (upd F d v') w') → OpP κ c.P N p ⟨some d, op, ty, pos, af, g⟩ F w Q := by
  intro C H a M n hC hH ha hl
  cases zhk hK hR.fr hR.fo hC (fun f hf => (hH f hf).1) hR.me hR.boxes ha with
  | val v hv run =>
   refine ⟨v, hv, fun hd hW hF hh => ?_⟩
   obtain ⟨v', h1, h2⟩ := run _ _ _ _ hW hF
   exact zY (h2 _ hW.sat _ _ _ _ _) hd (hh v' _ (Below.refl _ _) hW.sat h1)
  | box T X l l' n' cs e hz hp hn hv => simp at hl
  | call k avs al hz hp hc hop run =>
   obtain ⟨v0, h1, ⟨_, h3⟩, h4, h5⟩ := hcall k avs st.M H st.n a hc s al hz hp hR.me hH
   refine ⟨v0, ja h3 h1, fun {κ p Q g ty pos af γ G1 F w} hd hW hF hh => ?_⟩
   obtain ⟨al', z1, z2⟩ := run γ F hF
   refine jd (z2 w (some d) ty pos af g) hd (h5 γ G1 w al' hW z1) fun e w'' ⟨v, G', e1, hg, hv⟩ => ⟨v, e1, .below hg.below, ?_⟩
   subst hv
   exact hh v w'' hg.below (hg.sat.le hg.le) (.of h4)
 cases g with
 | none =>
  obtain ⟨a, M, n, ha, hd, ho, hg, hs, rfl⟩ := vE h
  obtain ⟨_, hl, rfl⟩ := hs.resolve_left (by simp)
  obtain ⟨rfl, _⟩ := zey hK hR (C := []) (fun _ h => by cases h) (fun f hf => (hR.ft f hf).1) ha hl
  obtain ⟨v, hv, run⟩ := one (C := []) (fun _ h => by cases h) hR.ft ha hl
  exact ⟨⟨s.r, s.b, s.m, upd s.f d v⟩, E0 _, rfl, hR.val hv ho, rfl, rfl, fun hi hW hF hh => zD hi rfl (run hd hW hF fun v' w' hb hS hv => ⟨fun _ _ => hS, hh _ w' hb hS (xn hF hv)⟩)⟩
 | some q =>
  obtain ⟨j, wt⟩ := q
  obtain ⟨g, a, M, n, hj, hg, hb, ha, hd, ho, hgd, hs, hl, rfl⟩ := zbH h
  rcases zaK hR hb wt with hv | hv | hv
  ·obtain ⟨hC, hH⟩ := zeW hR hv
   obtain ⟨v, hv', run⟩ := one hC hH ha hl
   exact ⟨⟨s.r, s.b, s.m, upd s.f d v⟩, E0 _, rfl, hR.val (.inl ⟨hv, hv'⟩) ho, rfl, rfl, fun hi hW hF hh => zkD hi rfl (zc6 hj) rfl (((hF g).flat (by rw [hv]; trivial)).trans hv) hg (run hd hW hF fun v' w' hb hS hv => ⟨fun _ _ => hS, hh _ w' hb hS (xn hF hv)⟩)⟩
  ·exact ⟨⟨s.r, s.b, s.m, upd s.f d undef⟩, E0 _, rfl, hR.skip ho (by rw [hv]; cases wt <;> simp), rfl, rfl, fun {κ p Q fl r i ty pos af γ G1 F w} hi hW hF hh => zjp hi (zc6 hj) rfl (((hF g).flat (by rw [hv]; trivial)).trans hv) hg hd (fun _ _ => hW.sat) (hh _ w (Below.refl _ _) hW.sat (xn hF (.of yJ)))⟩
  ·exact ⟨⟨s.r, s.b, s.m, upd s.f d undef⟩, E0 _, rfl, hR.skip ho (by rw [hv]; unfold undef; simp), rfl, rfl, fun {κ p Q fl r i ty pos af γ G1 F w} hi hW hF hh => znk hi (zc6 hj) (((hF g).flat (by rw [hv]; exact yJ)).trans hv) hg hd (fun _ _ => hW.sat) (hh _ w (Below.refl _ _) hW.sat (xn hF (.of yJ)))⟩
theorem zhh (hK : Bd K G) (hcall : zb5 c K G call) : ∀ (r : OT) {st st' : S} {s : PS}, zjY c call ops N r st = some st' → Rep c K G st s →
  ∃ s', Ext st.n st.M.length s s' ∧ s'.m = s.m ∧ Rep c K G st' s' ∧ st'.n = st.n ∧ st'.M = st.M ∧
   ∀ {κ : Ctx} {p : List PanicEntry → World → Prop} {Q : Fr → World → Prop} {fl : List Nat} {γ : Nat → Nat} {G1 : Gm} {F : Fr} {w : World}, Wd K G s.m γ G1 w → FrS K s.m.length γ s.f F →
    (∀ F' w', Below w.heap.size w w' → Sat G1 w' → FrS K s.m.length γ s'.f F' → Q F' w') → WD κ c.P N p ops (fun _ w => Sat G1 w) fl Q r F w
 | .nil, st, st', s, h, hR => by
  cases h
  exact ⟨s, .refl, rfl, hR, rfl, rfl, fun {κ p Q fl γ G1 F w} hW hF hh => qp (hh F w (Below.refl _ _) hW.sat hF)⟩
 | .fl i r, st, st', s, h, hR => by
  unfold zjY at h
  split at h
  ·rename_i d op ty pos af g hi
   obtain ⟨hp, h⟩ := z8 h
   split at h
   ·rename_i st1 h1
    obtain ⟨s1, x1, m1, R1, e1, e2, T1⟩ := znF hK hp h1 hR
    obtain ⟨s2, x2, m2, R2, e3, e4, T2⟩ := zhh hK hcall r h R1
    refine ⟨s2, x1.trans x2 (by omega) (by rw [e2]; exact Nat.le_refl _), m2.trans m1, R2, e3.trans e1, e4.trans e2, fun {κ p Q fl γ G1 F w} hW hF hh => T1 hi hW hF fun F' hF' => T2 (by rw [m1]; exact hW) (by rw [m1]; exact hF') fun F2 w2 hb hS hF2 => hh F2 w2 hb hS (by rw [m1] at hF2; exact hF2)⟩
   ·cases h
  ·cases h
 | .on i r, st, st', s, h, hR => by
  unfold zjY at h
  split at h
  ·rename_i d op ty pos af g hi
   split at h
   ·rename_i st1 h1
    obtain ⟨s1, x1, m1, R1, e1, e2, T1⟩ := znE hK hcall h1 hR
    obtain ⟨s2, x2, m2, R2, e3, e4, T2⟩ := zhh hK hcall r h R1
    refine ⟨s2, x1.trans x2 (by omega) (by rw [e2]; exact Nat.le_refl _), m2.trans m1, R2, e3.trans e1, e4.trans e2, fun {κ p Q fl γ G1 F w} hW hF hh => T1 hi hW hF fun F' w' hb hS hF' => T2 (by rw [m1]; exact hW.at hS) (by rw [m1]; exact hF') fun F2 w2 hb2 hS2 hF2 => hh F2 w2 (hb.trans (hb2.mono hb.size)) hS2 (by rw [m1] at hF2; exact hF2)⟩
   ·cases h
  ·cases h
 | .two _ _ _ _, st, st', s, h, hR => by cases h
theorem zpZ (hm : c.P.follows .mixedOrders = true) (hK : Bd K G) (hcall : zb5 c K G call) (h : zp0 c call ops N st = some st') (hR : Rep c K G st s) :
  ∃ s', Ext st.n st.M.length s s' ∧ Rep c K G st' s' ∧ st'.n = st.n ∧ st'.M = st.M ∧ ∀ {κ : Ctx} {n r : Fr → World → Prop} {x : List (Nat × (Fr → World → Prop))} {id : Nat}, κ.ro = none → Then K G s s' (WC κ c.P N (.region id ops true) ⟨n, r, x, fun _ _ _ => False⟩) n := by
 unfold zp0 at h
 replace h : cond (Region.noSelect ops && (Nat.beq (zeu ops ops.size (Array.replicate ops.size false)).len ops.size && ordOk ops (zeu ops ops.size (Array.replicate ops.size false)) (Array.replicate ops.size false))) (zjY c call ops N (zeu ops ops.size (Array.replicate ops.size false)) st) none = some st' := h
 generalize zeu ops ops.size (Array.replicate ops.size false) = ot at h
 obtain ⟨h1, h⟩ := z8 h
 obtain ⟨h1, h2⟩ := yC h1
 obtain ⟨h2, h3⟩ := yC h2
 obtain ⟨s', x1, m1, R1, e1, e2, T1⟩ := zhh hK hcall ot h hR
 refine ⟨s', x1, R1, e1, e2, fun {κ n r x id} hro γ G1 F w hW hF hh => ?_⟩
 have e : ops = ops.toList.toArray := by simp
 have hsz : ops.size = ops.toList.length := by simp
 have hd : Below w.heap.size w w.drew := zj w
 have hS : Sat G1 w.drew := hW.sat.below hd
 have key : WC κ c.P N (.region id ops.toList.toArray true) ⟨n, r, x, fun c _ w => (fun _ _ => False : List PanicEntry → World → Prop) c w⟩ F w := by
  refine zM hm (fun _ w => Sat G1 w) ot (by rw [← e]; exact h1) (by rw [← hsz]; exact xF h2) (by rw [← e, ← hsz]; exact h3) (fun _ => hS) ?_ hro
  rw [← e]
  exact T1 (hW.at hS) hF fun F' w' hb hS' hF' => hh γ G1 F' w' ⟨fun _ _ => rfl, (Grow.of_below hW.sat hd).trans (Grow.of_below hS hb)⟩ (by rw [m1]; exact hW.at hS') (by rw [m1]; exact hF')
 rw [← e] at key
 exact key
end
theorem znx {F : Fr} {a b : Nat} {u v : Value} (h : a ≠ b) : upd (upd F a u) b v = upd (upd F b v) a u := by
 funext i
 show cond (Nat.beq i b) v (cond (Nat.beq i a) u (F i)) = cond (Nat.beq i a) u (cond (Nat.beq i b) v (F i))
 cases h1 : Nat.beq i a with
 | false => rfl
 | true => cases h2 : Nat.beq i b with
  | false => rfl
  | true => exact absurd ((xF h1).symm.trans (xF h2)) h
theorem zpP {F : Fr} {d : Nat} {u : Value} {x : Operand} (h : notT d x = true) : ev (upd F d u) x = ev F x := by
 cases x with
 | tmp t =>
  have : Nat.beq t d = false := zrk h
  show cond (Nat.beq t d) u (F t) = F t
  rw [this]; rfl
 | _ => rfl
section
variable {c : Cx} {K : Nat} {G : Gm} {call : CallT} {ops : Array Oper} {N : Nat} {l : List Oper} {st st' : S} {s : PS} {d T : Nat} {ty : TypeId} {pos : String} {af : Array Edge} {F : Fr} {w : World}
theorem znO {P : Program} {i : TypeInfo} {z : Value} {od : Option Nat} {gd : Option (Nat × Bool)} (hi : P.info? T = some i) (hz : i.zero = some z) :
  (execOp (ev F) ⟨od, .alloc T, ty, pos, af, gd⟩).run P w = .ok (.value ((fun b => pV b) w.heap.size)) (w.alloc (.cells z.cells T)) := by
 simp [execOp, Instr.alloc, zeroValue, typeInfo, hi, hz, newVar]; rfl
theorem zes {P : Program} {k : Nat} (h : zic P T = some k) : ∃ i z, P.info? T = some i ∧ i.zero = some z ∧ z.cells.size = k ∧ i.size = k := by
 unfold zic at h
 split at h
 ·rename_i i hi
  split at h
  ·rename_i z hz
   obtain ⟨h1, h2⟩ := z8 h
   cases h2
   exact ⟨i, z, hi, hz, xF h1, rfl⟩
  ·cases h
 ·cases h
theorem zdN (h : zgC c N st d T l = some st') : ∃ k, zic c.P T = some k ∧ Nat.blt d N = true := by
 unfold zgC at h
 split at h
 ·obtain ⟨_, h⟩ := z8 h
  split at h
  ·rename_i k hk
   obtain ⟨_, h⟩ := z8 h
   unfold zpl at h
   exact ⟨k, hk, (z8 h).1⟩
  ·cases h
 ·cases h
theorem ziP (h : zgC c N st d T l = some st') (hR : Rep c K G st s) :
  ∃ s', Ext st.n st.M.length s s' ∧ st.n ≤ st'.n ∧ st.M.length ≤ st'.M.length ∧ Rep c K G st' s' ∧
   ∀ {κ : Ctx} {p : List PanicEntry → Fr → World → Prop} {Q : Fr → World → Prop} {γ : Nat → Nat} {G1 : Gm} {F : Fr} {w w1 : World} {k b : Nat} {z : List Value}, Wd K G s.m γ G1 w → FrS K s.m.length γ s.f F → zic c.P T = some k → z.length = k → Since w.heap.size G1 w G1 w1 →
    Owns G1 w1 w.heap.size [⟨T, k, 1, .slice (some ⟨b, 0, none⟩) 1 1, z⟩] → (∀ γ' G2 F' w', Nx s.m.length γ G1 w γ' G2 w' → Wd K G s'.m γ' G2 w' → FrS K s'.m.length γ' s'.f F' → Q F' w') → WL κ c.P N ops p Q l (upd F d (pV b)) w1 := by
 unfold zgC at h
 split at h
 ·rename_i T' d' x ty pos af
  obtain ⟨h0, h9⟩ := z8 h
  obtain ⟨h1, h2⟩ := yC h0
  obtain ⟨h2', h3⟩ := yC h2
  have e1 := xF h1
  have e2 := xF h2'
  clear h h0 h1 h2 h2'
  subst e1
  subst e2
  split at h9
  ·rename_i k0 hk0
   obtain ⟨hck, h8⟩ := z8 h9
   obtain ⟨hck, hox⟩ := yC hck
   unfold zpl at h8
   obtain ⟨hd, h7⟩ := z8 h8
   unfold zp9 at hck
   split at h7
   ·rename_i cl hcl
    rw [hcl] at hck
    have hck := xF hck
    cases e : nms st.n cl with
    | mk l' n' =>
     rw [e] at h7
     cases h7
     obtain ⟨i, zv, hi, _, _, hik⟩ := zes hk0
     have hsz : szB c.P T = some k0 := by unfold szB; rw [hi]; exact congrArg some hik
     obtain ⟨cs, q1, q2, q3, q4⟩ := zgH hcl (zcN hR.fr (C := []) (fun _ h => by cases h) x) (vz hR.fo [] x).2
     have hlen : cs.length = k0 := q1.len.symm.trans hck
     obtain ⟨r', b', x1, x2, x3, x4⟩ := hR.box q1 q2 e
     refine ⟨⟨r', b', s.m ++ [cs], upd s.f d (.pointer (some ⟨K + s.m.length, 0, none⟩))⟩, ⟨x1.er, x1.eb, x1.em⟩, x2, by simp, x4.val (a := .box st.M.length 0) (by show _ = Value.pointer (some ⟨b' st.M.length, 0, none⟩); rw [x3]) (jo (by simp)), ?_⟩
     intro κ p Q γ G1 F w w1 k b z hW hF hk' hz hS hO hh
     rw [hk0] at hk'
     cases hk'
     obtain ⟨cs', z1, z2, z3⟩ := zia (zai hF hox) q3 q4
     have hlen' : cs'.length = k0 := z1.len.symm.trans hlen
     have hvc : (ev F x).cells.toList = cs' := by
      rcases z2 with z2 | ⟨z2, z5⟩
      ·rw [z2]; rfl
      ·rw [z5, z2]
     refine zm rfl (zG (k := 0) (off := 0) (vs := cs') hsz hS hO rfl (by show cond (Nat.beq d d) _ _ = _; rw [Nat.beq_refl]; rfl) (zpP h3) hvc hlen' z3 (by rw [hz, hlen']; omega) fun w2 hS hO => ze ?_)
     obtain ⟨G3, le3, hS, _, hc, _⟩ := hO.freeze hS (k := 0) rfl
     have hc : Cells G3 b 0 (qD z 0 cs') := hc b 0 1 1 rfl
     have hsp : qD z 0 cs' = cs' := by
      unfold qD
      rw [List.take_zero, List.nil_append, List.drop_eq_nil_of_le (by omega), List.append_nil]
     rw [hsp] at hc
     obtain ⟨γ', y1, y2, y3⟩ := hW.box hS.toGrow hc z1
     exact hh γ' G3 _ w2 y1 y3 (xn (ziF (by simp) y1.g hF) (.inl (.inr ⟨s.m.length, 0, by simp, rfl, by rw [y2]⟩)))
   ·cases h7
  ·cases h9
 ·cases h
theorem zjm {e : Nat} {y : Operand} (h : zag c call ops N true st e (.assign y) none = some st') : Nat.blt e N = true ∧ okO y = true ∧ st' = ⟨put e (avO st.A [] y) 0 st.A, st.M, st.H, st.n⟩ ∧ (avO st.A [] y).old st.n st.M.length = true := by
 obtain ⟨a, M, n, ha, hd, ho, hg, _, rfl⟩ := vE h
 obtain ⟨h1, h2⟩ := z8 (show cond (okO y) (some (avO st.A [] y, st.M, st.n)) none = some (a, M, n) from ha)
 cases h2
 exact ⟨hd, h1, rfl, ho⟩
theorem zre (hK : Bd K G) (hcall : zb5 c K G call) : ∀ (l : List Oper) {st st' : S} {s : PS}, zrf c call ops N l st = some st' → Rep c K G st s →
  ∃ s', Ext st.n st.M.length s s' ∧ st.n ≤ st'.n ∧ st.M.length ≤ st'.M.length ∧ Rep c K G st' s' ∧ ∀ {κ : Ctx} {p : List PanicEntry → Fr → World → Prop} {Q : Fr → World → Prop}, Then K G s s' (WL κ c.P N ops p Q l) Q := by
 intro l
 induction l with
 | nil =>
  intro st st' s h hR
  cases h
  exact ⟨s, .refl, Nat.le_refl _, Nat.le_refl _, hR, fun γ G1 F w hW hF hh => ze (hh γ G1 F w (.refl hW.sat) hW hF)⟩
 | cons o l ih =>
  intro st st' s h hR
  have alc : ∀ {κ : Ctx} {p : List PanicEntry → Fr → World → Prop} {Q : Fr → World → Prop} {F : Fr} {w : World} {G1 : Gm} {d T : Nat} {ty : TypeId} {pos : String} {af : Array Edge} {l : List Oper} {i : TypeInfo} {z : Value} {k : Nat}, Sat G1 w → c.P.info? T = some i → i.zero = some z → z.cells.size = k → Nat.blt d N = true →
    (∀ b w1, Since w.heap.size G1 w G1 w1 → Owns G1 w1 w.heap.size [⟨T, k, 1, .slice (some ⟨b, 0, none⟩) 1 1, z.cells.toList⟩] → WL κ c.P N ops p Q l (upd F d (pV b)) w1) → WL κ c.P N ops p Q (⟨some d, .alloc T, ty, pos, af, none⟩ :: l) F w := by
   intro κ p Q F w G1 d T ty pos af l i z k hs hi hz hk hd hh
   refine zm rfl (z7 (v := fun b => pV b) (cs := z.cells.toList) (e := T) (by rw [Array.toArray_toList]; exact znO hi hz) hs (je G1 w) hd k 1 (by simp [hk]) (by decide) fun b w1 hb hO => hh b w1 ((Since.start hs).keep hb) hO)
  unfold zrf at h
  split at h
  ·rename_i d T hal
   unfold zme at hal
   split at hal
   ·cases hal
    unfold ztf at h
    split at h
    ·obtain ⟨k, hk', hd⟩ := zdN h
     obtain ⟨i, z, hi, hz, h1, h2⟩ := zes hk'
     obtain ⟨s', x1, x2, x3, x4, x5⟩ := ziP (ops := ops) h hR
     exact ⟨s', x1, x2, x3, x4, fun γ G1 F w hW hF hh => alc hW.sat hi hz h1 hd fun b w1 hS hO => x5 hW hF hk' (by simpa using h1) hS hO hh⟩
    ·rename_i e y ty pos af s'
     obtain ⟨h1, h⟩ := z8 h
     obtain ⟨h1, h2⟩ := yC h1
     split at h
     ·rename_i st1 hst
      obtain ⟨k, hk', hd⟩ := zdN h
      obtain ⟨i, z, hi, hz, h3, h4⟩ := zes hk'
      obtain ⟨he, hoy, rfl, ho⟩ := zjm hst
      obtain ⟨s2, x1, x2, x3, x4, x5⟩ := ziP (ops := ops) h (hR.val (d := e) (zcN hR.fr (C := []) (fun _ h => by cases h) y) ho)
      have hne : d ≠ e := fun e' => by subst e'; simp at h1
      refine ⟨s2, ⟨x1.er, x1.eb, x1.em⟩, x2, x3, x4, fun γ G1 F w hW hF hh => alc hW.sat hi hz h3 hd fun b w1 hS hO => za (zf (v := ev F y) (zpP h2)) he ?_⟩
      rw [znx hne]
      exact x5 hW (xn hF (zai hF hoy)) hk' (by simpa using h3) hS hO hh
     ·cases h
    ·cases h
   ·cases hal
  ·split at h
   ·split at h
    ·rename_i st1 hst
     obtain ⟨s1, x1, n1, m1, R1, T1⟩ := znG hK hcall hst hR
     obtain ⟨s2, x2, n2, m2, R2, T2⟩ := ih h R1
     exact ⟨s2, x1.trans x2 n1 m1, Nat.le_trans n1 n2, Nat.le_trans m1 m2, R2, Then.trans T1 T2 x1.len⟩
    ·cases h
   ·cases h
end
inductive Oc where
 | nm
 | xt (id : Nat)
 | rt
def tgt (n r : Fr → World → Prop) (x : List (Nat × (Fr → World → Prop))) : Oc → Option (Fr → World → Prop)
 | .nm => some n
 | .xt id => zeU x id
 | .rt => some r
def zkK (c : Cx) (K : Nat) (G : Gm) (st : S) (rt : Nat) (o : Out) (s : PS) : Oc → Prop
 | .nm => ∃ t, o.nm = some t ∧ st.n ≤ t.n ∧ st.M.length ≤ t.M.length ∧ Rep c K G t s
 | .xt id => ∃ t, (id, t) ∈ o.xs ∧ st.n ≤ t.n ∧ st.M.length ≤ t.M.length ∧ Rep c K G t s
 | .rt => ∃ a ∈ o.rs, gam (shp c.sh) s.r s.b G s.f a (s.f rt)
def zkL (c : Cx) (K : Nat) (G : Gm) (ex : Nat → Nat → Code → S → Option Out) : Prop := ∀ N rt code st o, ex N rt code st = some o → ∀ s, Rep c K G st s → ∃ k s', Ext st.n st.M.length s s' ∧ zkK c K G st rt o s' k ∧
 ∀ (κ : Ctx) (n r : Fr → World → Prop) (x : List (Nat × (Fr → World → Prop))) Q, κ.ro = none → tgt n r x k = some Q → Then K G s s' (WC κ c.P N code ⟨n, r, x, fun _ _ _ => False⟩) Q
def Cov (c : Cx) (K : Nat) (G : Gm) (b t u : S) : Prop := ∀ s s', Rep c K G b s → Ext b.n b.M.length s s' → b.n ≤ t.n → b.M.length ≤ t.M.length → Rep c K G t s' → Rep c K G u s' ∧ b.n ≤ u.n ∧ b.M.length ≤ u.M.length
theorem Cov.refl {c : Cx} {K : Nat} {G : Gm} {b t : S} : Cov c K G b t t := fun s s' h1 h2 h3 h4 h5 => ⟨h5, h3, h4⟩
theorem Cov.trans {c : Cx} {K : Nat} {G : Gm} {b t s u : S} (h : Cov c K G b t s) (k : Cov c K G b s u) : Cov c K G b t u := fun s0 s1 h1 h2 h3 h4 h5 => by
 obtain ⟨q1, q2, q3⟩ := h _ _ h1 h2 h3 h4 h5
 exact k _ _ h1 h2 q2 q3 q1
theorem Rep.base {c : Cx} {K : Nat} {G : Gm} {b : S} {s s' : PS} {A : List Av} (h : Rep c K G b s) (x : Ext b.n b.M.length s s') (hA : ∀ i, gam (shp c.sh) s'.r s'.b G s'.f (at_ A i) (s'.f i)) (ho : ∀ i, (at_ A i).old b.n b.M.length = true) :
  Rep c K G ⟨A, b.M, b.H, b.n⟩ s' :=
 ⟨hA, ho, h.me.old (Nat.le_refl _) x.er x.eb x.em, fun f hf => ⟨zdj x.er (h.ft f hf).2 (h.ft f hf).1, (h.ft f hf).2⟩⟩
theorem zkB {f : Av → Av} (hf : f .top = .top) : ∀ (A : List Av) (i : Nat), at_ (A.map f) i = f (at_ A i)
 | [], _ => hf.symm
 | _ :: _, 0 => rfl
 | _ :: l, i + 1 => zkB hf l i
theorem zsU {c : Cx} {K : Nat} {G : Gm} {b t : S} : Cov c K G b t (ziD b t) := fun s0 s1 h1 h2 h3 h4 h5 => by
 refine ⟨h1.base h2 (fun i => ?_) (fun i => ?_), Nat.le_refl _, Nat.le_refl _⟩
 ·rw [zkB (by rfl)]; exact zbb (h5.fr i)
 ·rw [zkB (by rfl)]; exact (kT _).1
theorem zcP {n m : Nat} : ∀ (A B : List Av) (i : Nat), at_ (zqO n m A B) i = .top ∨ at_ (zqO n m A B) i = zrs n m (at_ A i) (at_ B i)
 | [], _, _ => .inl rfl
 | _ :: _, [], _ => .inl rfl
 | _ :: _, _ :: _, 0 => .inr rfl
 | _ :: l, _ :: r, i + 1 => zcP l r i
theorem zgF {c : Cx} {K : Nat} {G : Gm} {b s t : S} : Cov c K G b s (zlt b s t) := fun s0 s1 h1 h2 h3 h4 h5 => by
 refine ⟨h1.base h2 (fun i => ?_) (fun i => ?_), Nat.le_refl _, Nat.le_refl _⟩
 ·rcases zcP (n := b.n) (m := b.M.length) s.A t.A i with e | e <;> rw [e]
  ·exact trivial
  ·exact zlu (zbb (h5.fr i))
 ·rcases zcP (n := b.n) (m := b.M.length) s.A t.A i with e | e <;> rw [e]
  ·rfl
  ·exact (zkl (kT _) (kT _)).1
theorem znb {c : Cx} {K : Nat} {G : Gm} {b s t : S} : Cov c K G b t (zlt b s t) := fun s0 s1 h1 h2 h3 h4 h5 => by
 refine ⟨h1.base h2 (fun i => ?_) (fun i => ?_), Nat.le_refl _, Nat.le_refl _⟩
 ·rcases zcP (n := b.n) (m := b.M.length) s.A t.A i with e | e <;> rw [e]
  ·exact trivial
  ·exact ziA (zbb (h5.fr i))
 ·rcases zcP (n := b.n) (m := b.M.length) s.A t.A i with e | e <;> rw [e]
  ·rfl
  ·exact (zkl (kT _) (kT _)).1
theorem zkk {c : Cx} {K : Nat} {G : Gm} {b s : S} (t : Option S) : ∃ u, zgu b (some s) t = some u ∧ Cov c K G b s u := by
 cases t with
 | none => exact ⟨s, rfl, .refl⟩
 | some t => exact ⟨_, rfl, zgF⟩
theorem zdK {c : Cx} {K : Nat} {G : Gm} {b t : S} (s : Option S) : ∃ u, zgu b s (some t) = some u ∧ Cov c K G b t u := by
 cases s with
 | none => exact ⟨t, rfl, .refl⟩
 | some s => exact ⟨_, rfl, znb⟩
theorem vJ {c : Cx} {K : Nat} {G : Gm} {b : S} {id : Nat} : ∀ (xs : List (Nat × S)) {s : S}, ∃ u, zge b id (some s) xs = some u ∧ Cov c K G b s u
 | [], s => ⟨s, rfl, .refl⟩
 | (k, t) :: l, s => by
  show ∃ u, zge b id (cond (Nat.beq k id) (zgu b (some s) (some t)) (some s)) l = some u ∧ _
  cases Nat.beq k id with
  | false => exact vJ l
  | true =>
   obtain ⟨u, h1, h2⟩ := vJ (c := c) (K := K) (G := G) (b := b) (id := id) l (s := zlt b s t)
   exact ⟨u, h1, zgF.trans h2⟩
theorem zgd {c : Cx} {K : Nat} {G : Gm} {b : S} {id : Nat} : ∀ (xs : List (Nat × S)) (s : Option S) {t : S}, (id, t) ∈ xs → ∃ u, zge b id s xs = some u ∧ Cov c K G b t u
 | [], _, _, h => by cases h
 | (k, t') :: l, s, t, h => by
  show ∃ u, zge b id (cond (Nat.beq k id) (zgu b s (some t')) s) l = some u ∧ _
  rcases List.mem_cons.1 h with e | h
  ·cases e
   rw [Nat.beq_refl]
   obtain ⟨u, h1, h2⟩ := zdK (c := c) (K := K) (G := G) (b := b) s
   obtain ⟨v, h3, h4⟩ := vJ (c := c) (K := K) (G := G) (b := b) (id := id) l (s := u)
   exact ⟨v, by rw [← h3, ← h1]; rfl, h2.trans h4⟩
  ·exact zgd l _ h
theorem zbL {id : Nat} : ∀ {xs : List (Nat × S)} {k : Nat} {t : S}, (k, t) ∈ xs → Nat.beq k id = false → (k, t) ∈ zc5 id xs
 | [], _, _, h, _ => by cases h
 | (k', t') :: l, k, t, h, hk => by
  show (k, t) ∈ cond (Nat.beq k' id) (zc5 id l) ((k', t') :: zc5 id l)
  rcases List.mem_cons.1 h with e | h
  ·cases e
   rw [hk]; exact List.mem_cons_self
  ·cases Nat.beq k' id with
   | true => exact zbL h hk
   | false => exact List.mem_cons_of_mem _ (zbL h hk)
theorem zbZ : ∀ {A : List Av} {i : Nat}, A.length ≤ i → at_ A i = .top
 | [], _, _ => rfl
 | _ :: _, 0, h => by simp at h
 | _ :: l, i + 1, h => zbZ (A := l) (by simpa using h)
theorem x9 (i n msk : Nat) : ∀ (A : List Av) (k : Nat), (jv i n msk k A).length = A.length
 | [], _ => rfl
 | _ :: l, k => by show (jv i n msk (k + 1) l).length + 1 = l.length + 1; rw [x9 i n msk l]
theorem zcC (i n msk : Nat) : ∀ (A : List Av) (k t : Nat), t < A.length → (k + t = i ∧ at_ (jv i n msk k A) t = .sym n) ∨ (k + t ≠ i ∧ (at_ (jv i n msk k A) t = (at_ A t).wk ∨ at_ (jv i n msk k A) t = at_ A t))
 | [], _, _, h => by simp at h
 | a :: l, k, 0, _ => by
  show (k + 0 = i ∧ cond (Nat.beq k i) _ _ = _) ∨ (k + 0 ≠ i ∧ (cond (Nat.beq k i) _ _ = _ ∨ cond (Nat.beq k i) _ _ = _))
  rw [Nat.add_zero]
  cases h : Nat.beq k i with
  | true => exact .inl ⟨xF h, rfl⟩
  | false =>
   refine .inr ⟨fun e => by subst e; simp at h, ?_⟩
   show cond _ a.wk a = a.wk ∨ cond _ a.wk a = a
   cases (a.isGd || Nat.beq (Nat.land (Nat.shiftRight msk k) 1) 1) with
   | true => exact .inl rfl
   | false => exact .inr rfl
 | a :: l, k, t + 1, h => by
  have := zcC i n msk l (k + 1) t (by simpa using h)
  rw [show k + 1 + t = k + (t + 1) by omega] at this
  exact this
theorem zar {i n : Nat} : ∀ {A B : List Av} {k t : Nat}, stays i n k A B = true → t < A.length → (k + t = i → ∃ q, at_ B t = .inc n q ∧ q.old n = true) ∧ (k + t ≠ i → sub (at_ B t) (at_ A t) = true)
 | [], _, _, _, _, h => by simp at h
 | _ :: _, [], _, _, h, _ => by cases h
 | a :: l, b :: r, k, 0, h, _ => by
  obtain ⟨h1, _⟩ := yC h
  cases hb : Nat.beq k i with
  | true =>
   rw [hb] at h1
   refine ⟨fun _ => ?_, fun e => absurd (xF hb) (by simpa using e)⟩
   replace h1 : zuT n b = true := h1
   unfold zuT at h1
   split at h1
   ·rename_i s q
    obtain ⟨h2, h3⟩ := yC h1
    exact ⟨q, by show Av.inc s q = _; rw [xF h2], h3⟩
   ·cases h1
  | false =>
   rw [hb] at h1
   exact ⟨fun e => by subst e; simp at hb, fun _ => h1⟩
 | a :: l, b :: r, k, t + 1, h, hl => by
  have := zar (t := t) (yC h).2 (by simpa using hl)
  rw [show k + 1 + t = k + (t + 1) by omega] at this
  exact this
section
variable {c : Cx} {K : Nat} {G : Gm} {ex : Nat → Nat → Code → S → Option Out}
theorem zro (hex : zkL c K G ex) {N rt i msk k0 : Nat} {b : Code} {st : S} {nm : Option S} {xs : List (Nat × S)} {rs : List Av} (hi : at_ st.A i = .lit (.ofNat k0))
  (h : ex N rt b ⟨jv i st.n msk 0 st.A, st.M, .nn st.n :: st.H, st.n + 1⟩ = some ⟨nm, xs, rs⟩) (hs : ∀ s, nm = some s → stays i st.n 0 (jv i st.n msk 0 st.A) s.A = true) {s : PS} (hR : Rep c K G st s) :
  ∃ k s', Ext st.n st.M.length s s' ∧ zkK c K G st rt ⟨none, xs.map fun p => (p.1, ziD st p.2), rs⟩ s' k ∧
   ∀ (κ : Ctx) (n r : Fr → World → Prop) (x : List (Nat × (Fr → World → Prop))) Q, κ.ro = none → tgt n r x k = some Q → Then K G s s' (WC κ c.P N (.loop b) ⟨n, r, x, fun _ _ _ => False⟩) Q := by
 have hil : i < st.A.length := by
  rcases Nat.lt_or_ge i st.A.length with h | h
  ·exact h
  ·rw [zbZ h] at hi; cases hi
 have hold : ∀ t, t ≠ i → (at_ (jv i st.n msk 0 st.A) t).old st.n st.M.length = true := fun t ht => by
  rcases Nat.lt_or_ge t st.A.length with hl | hl
  ·rcases zcC i st.n msk st.A 0 t hl with ⟨e, _⟩ | ⟨_, e | e⟩
   ·omega
   ·rw [e]; exact zjA _
   ·rw [e]; exact hR.fo t
  ·rw [zbZ (by rw [x9]; exact hl)]; rfl
 have hiat : at_ (jv i st.n msk 0 st.A) i = .sym st.n := by
  rcases zcC i st.n msk st.A 0 i hil with ⟨_, e⟩ | ⟨e, _⟩
  ·exact e
  ·omega
 have mk : ∀ {s1 : PS} {k : Int}, Ext st.n st.M.length s s1 → (∀ t, t ≠ i → gam (shp c.sh) s1.r s1.b G s1.f (at_ (jv i st.n msk 0 st.A) t) (s1.f t)) → s1.f i = iV k → s1.r st.n = iV k → 0 ≤ k → InR k →
   Rep c K G ⟨jv i st.n msk 0 st.A, st.M, .nn st.n :: st.H, st.n + 1⟩ s1 := by
  intro s1 k e1 e2 e3 e4 e5 e6
  refine ⟨fun t => ?_, fun t => ?_, ?_, fun f hf => ?_⟩
  ·by_cases ht : t = i
   ·subst ht
    rw [hiat]
    exact ⟨by rw [e3, e4], k, e3, e6⟩
   ·exact e2 t ht
  ·by_cases ht : t = i
   ·subst ht
    show (at_ (jv t st.n msk 0 st.A) t).old (st.n + 1) st.M.length = true
    rw [hiat]
    exact jo (Nat.lt_succ_self _)
   ·exact Av.old_mono (Nat.le_succ _) (Nat.le_refl _) (hold t ht)
  ·intro j l hj
   obtain ⟨h1, h2⟩ := (hR.me.old (Nat.le_refl _) e1.er e1.eb e1.em) j l hj
   exact ⟨fun a ha => ⟨Av.old_mono (Nat.le_succ _) (Nat.le_refl _) (h1 a ha).1, (h1 a ha).2⟩, h2⟩
  ·rcases List.mem_cons.1 hf with rfl | hf
   ·refine ⟨?_, jo (Nat.lt_succ_self _)⟩
    show 0 ≤ kR (s1.r st.n)
    rw [e4]; exact e5
   ·exact ⟨zdj e1.er (hR.ft f hf).2 (hR.ft f hf).1, Ft.old_mono (Nat.le_succ _) (hR.ft f hf).2⟩
 have out : ∀ {s1 s2 : PS} {k : Oc}, Ext st.n st.M.length s s1 → Ext (st.n + 1) st.M.length s1 s2 → k ≠ .nm → zkK c K G ⟨jv i st.n msk 0 st.A, st.M, .nn st.n :: st.H, st.n + 1⟩ rt ⟨nm, xs, rs⟩ s2 k →
   zkK c K G st rt ⟨none, xs.map fun p => (p.1, ziD st p.2), rs⟩ s2 k := fun {s1 s2 k} x1 x2 hk hf => by
  have x3 := x1.trans x2 (Nat.le_succ _) (Nat.le_refl _)
  cases k with
  | nm => exact absurd rfl hk
  | rt => exact hf
  | xt id =>
   obtain ⟨t, h1, h2, h3, h4⟩ := hf
   obtain ⟨q1, q2, q3⟩ := zsU (b := st) (t := t) _ _ hR x3 (Nat.le_of_succ_le h2) h3 h4
   exact ⟨ziD st t, List.mem_map.2 ⟨(id, t), h1, rfl⟩, q2, q3, q1⟩
 have round : ∀ (m : Nat) {s1 : PS} {k : Int}, (∀ t q, nm = some t → at_ t.A i = .inc st.n q → (bv s.r q - k).toNat ≤ m) → Ext st.n st.M.length s s1 →
   (∀ t, t ≠ i → gam (shp c.sh) s1.r s1.b G s1.f (at_ (jv i st.n msk 0 st.A) t) (s1.f t)) → s1.f i = iV k → s1.r st.n = iV k → 0 ≤ k → InR k →
   ∃ k s', Ext st.n st.M.length s s' ∧ zkK c K G st rt ⟨none, xs.map fun p => (p.1, ziD st p.2), rs⟩ s' k ∧
    ∀ (κ : Ctx) (n r : Fr → World → Prop) (x : List (Nat × (Fr → World → Prop))) Q, κ.ro = none → tgt n r x k = some Q → Then K G s1 s' (WI κ c.P N b ⟨n, r, x, fun _ _ _ => False⟩) Q := by
  intro m
  induction m with
  | zero =>
   intro s1 k hm e1 e2 e3 e4 e5 e6
   obtain ⟨k2, s2, x2, f2, T2⟩ := hex N rt b _ _ h s1 (mk e1 e2 e3 e4 e5 e6)
   have leave : k2 ≠ .nm → _ := fun hk => (⟨k2, s2, e1.trans x2 (Nat.le_succ _) (Nat.le_refl _), out e1 x2 hk f2, fun κ n r x Q hro ht γ G1 F w hW hF hh => qg (T2 κ _ r x Q hro (by cases k2 <;> first | exact absurd rfl hk | exact ht) γ G1 F w hW hF hh)⟩ :
    ∃ k s', Ext st.n st.M.length s s' ∧ zkK c K G st rt ⟨none, xs.map fun p => (p.1, ziD st p.2), rs⟩ s' k ∧
    ∀ (κ : Ctx) (n r : Fr → World → Prop) (x : List (Nat × (Fr → World → Prop))) Q, κ.ro = none → tgt n r x k = some Q → Then K G s1 s' (WI κ c.P N b ⟨n, r, x, fun _ _ _ => False⟩) Q)
   cases k2 with
   | rt => exact leave (fun h => by cases h)
   | xt id => exact leave (fun h => by cases h)
   | nm =>
    exfalso
    obtain ⟨t, hnm, n2, m2, R2⟩ := f2
    replace hnm : nm = some t := hnm
    obtain ⟨q, hq, hqo⟩ := (zar (t := i) (hs t hnm) (by rw [x9]; exact hil)).1 (by omega)
    have hgm := R2.fr i
    rw [hq] at hgm
    obtain ⟨k', g1, g2, g3, g4, g5⟩ := hgm
    have : s2.r st.n = s1.r st.n := x2.er st.n (Nat.lt_succ_self _)
    rw [this, e4] at g2
    cases g2
    have hb : bv s2.r q = bv s.r q := by rw [zaU (n := st.n) (fun s hs => x2.er s (Nat.lt_succ_of_lt hs)) hqo, zaU e1.er hqo]
    have := hm t q hnm hq
    rw [hb] at g4
    omega
  | succ m ih =>
   intro s1 k hm e1 e2 e3 e4 e5 e6
   obtain ⟨k2, s2, x2, f2, T2⟩ := hex N rt b _ _ h s1 (mk e1 e2 e3 e4 e5 e6)
   have leave : k2 ≠ .nm → _ := fun hk => (⟨k2, s2, e1.trans x2 (Nat.le_succ _) (Nat.le_refl _), out e1 x2 hk f2, fun κ n r x Q hro ht γ G1 F w hW hF hh => qg (T2 κ _ r x Q hro (by cases k2 <;> first | exact absurd rfl hk | exact ht) γ G1 F w hW hF hh)⟩ :
    ∃ k s', Ext st.n st.M.length s s' ∧ zkK c K G st rt ⟨none, xs.map fun p => (p.1, ziD st p.2), rs⟩ s' k ∧
    ∀ (κ : Ctx) (n r : Fr → World → Prop) (x : List (Nat × (Fr → World → Prop))) Q, κ.ro = none → tgt n r x k = some Q → Then K G s1 s' (WI κ c.P N b ⟨n, r, x, fun _ _ _ => False⟩) Q)
   cases k2 with
   | rt => exact leave (fun h => by cases h)
   | xt id => exact leave (fun h => by cases h)
   | nm =>
    obtain ⟨t, hnm, n2, m2, R2⟩ := f2
    replace hnm : nm = some t := hnm
    have hst := hs t hnm
    obtain ⟨q, hq, hqo⟩ := (zar (t := i) hst (by rw [x9]; exact hil)).1 (by omega)
    have hgm := R2.fr i
    rw [hq] at hgm
    obtain ⟨k', g1, g2, g3, g4, g5⟩ := hgm
    have : s2.r st.n = s1.r st.n := x2.er st.n (Nat.lt_succ_self _)
    rw [this, e4] at g2
    cases g2
    have hb : bv s2.r q = bv s.r q := by rw [zaU (n := st.n) (fun s hs => x2.er s (Nat.lt_succ_of_lt hs)) hqo, zaU e1.er hqo]
    obtain ⟨r3, hlow, hr3⟩ : ∃ r3 : Env, (∀ z, z < st.n → r3 z = s2.r z) ∧ r3 st.n = iV (k + 1) := ⟨fun z => if z = st.n then iV (k + 1) else s2.r z, fun z hz => if_neg (by omega), if_pos rfl⟩
    have x3 := e1.trans x2 (Nat.le_succ _) (Nat.le_refl _)
    obtain ⟨k3, s3, y1, y2, y3⟩ := ih (s1 := ⟨r3, s2.b, s2.m, s2.f⟩) (k := k + 1) (fun t' q' e7 e8 => by
     have := hm t' q' e7 e8
     rw [hnm] at e7
     cases e7
     rw [hq] at e8
     cases e8
     rw [hb] at g4
     omega) ⟨fun z hz => (hlow z hz).trans (x3.er z hz), x3.eb, x3.em⟩ (fun t' ht => by
     rcases Nat.lt_or_ge t' st.A.length with hl | hl
     ·have hsub := (zar (t := t') hst (by rw [x9]; exact hl)).2 (by omega)
      exact kl hlow (fun _ _ => rfl) (Gle.refl _) (hold t' ht) (zqX hsub (R2.fr t'))
     ·rw [zbZ (by rw [x9]; exact hl)]; exact trivial) g1 hr3 (by omega) g5
    refine ⟨k3, s3, y1, y2, fun κ n r x Q hro ht γ G1 F w hW hF hh => qg (T2 κ _ r x _ hro rfl γ G1 F w hW hF fun γ' G2 F' w' n1 hW' hF' => y3 κ n r x Q hro ht γ' G2 F' w' hW' hF' fun γ2 G3 F2 w2 n2 hW2 hF2 => hh γ2 G3 F2 w2 (n1.trans n2 x2.len) hW2 hF2)⟩
 have hF := hR.fr i
 rw [hi] at hF
 obtain ⟨f1, f2⟩ := hF
 obtain ⟨r3, hlow, hr3⟩ : ∃ r3 : Env, (∀ z, z < st.n → r3 z = s.r z) ∧ r3 st.n = iV (k0 : Int) := ⟨fun z => if z = st.n then iV (k0 : Int) else s.r z, fun z hz => if_neg (by omega), if_pos rfl⟩
 have e1 : Ext st.n st.M.length s ⟨r3, s.b, s.m, s.f⟩ := ⟨hlow, fun _ _ => rfl, [], by simp⟩
 have e2 : ∀ t, t ≠ i → gam (shp c.sh) r3 s.b G s.f (at_ (jv i st.n msk 0 st.A) t) (s.f t) := fun t ht => by
  refine kl (n := st.n) (m := st.M.length) hlow (fun _ _ => rfl) (Gle.refl _) (hold t ht) ?_
  rcases Nat.lt_or_ge t st.A.length with hl | hl
  ·rcases zcC i st.n msk st.A 0 t hl with ⟨e, _⟩ | ⟨_, e | e⟩
   ·omega
   ·rw [e]; exact zfc (hR.fr t)
   ·rw [e]; exact hR.fr t
  ·rw [zbZ (by rw [x9]; exact hl)]; exact trivial
 obtain ⟨m, hm⟩ : ∃ m, ∀ t q, nm = some t → at_ t.A i = .inc st.n q → (bv s.r q - (k0 : Int)).toNat ≤ m := by
  cases hnm : nm with
  | none => exact ⟨0, fun t q e => by cases e⟩
  | some t =>
   obtain ⟨q, hq, hqo⟩ := (zar (t := i) (hs t hnm) (by rw [x9]; exact hil)).1 (by omega)
   refine ⟨(bv s.r q - (k0 : Int)).toNat, fun t' q' e e' => ?_⟩
   cases e
   rw [hq] at e'
   cases e'
   exact Nat.le_refl _
 obtain ⟨k, s', y1, y2, y3⟩ := round m (s1 := ⟨r3, s.b, s.m, s.f⟩) (k := (k0 : Int)) hm e1 e2 f1 hr3 (Int.natCast_nonneg _) f2
 exact ⟨k, s', y1, y2, fun κ n r x Q hro ht γ G1 F w hW hF hh => qh (y3 κ n r x Q hro ht γ G1 F w hW hF hh)⟩
end
theorem ze4 {sh : Nat → Option (List Ck)} {ρ : Env} {β : Nat → Nat} {G : Gm} {F : Fr} {n m : Nat} : ∀ {l : List Av} {a : Av}, ziz n m l = some a → (a.old n m = true ∧ a.isGd = false) ∧ ∀ b ∈ l, ∀ v, gam sh ρ β G F b v → gam sh ρ β G F a v
 | [], _, h => by cases h
 | [b], a, h => by
  cases h
  exact ⟨kT b, fun b' hb v hv => by simp at hb; subst hb; exact zbb hv⟩
 | b :: b' :: l, a, h => by
  obtain ⟨a', h1, rfl⟩ := Option.map_eq_some_iff.1 (show (ziz n m (b' :: l)).map (zrs n m b) = some a from h)
  obtain ⟨h2, h3⟩ := ze4 (sh := sh) (ρ := ρ) (β := β) (G := G) (F := F) h1
  refine ⟨zkl (kT b) (kT a'), fun c hc v hv => ?_⟩
  rcases List.mem_cons.1 hc with rfl | hc
  ·exact zlu (zbb hv)
  ·exact ziA (zbb (h3 c hc v hv))
theorem zhO : ∀ (N : Nat) (l : List Av) (i : Nat), at_ (pad N l) i = at_ l i
 | 0, _, _ => rfl
 | N + 1, [], 0 => rfl
 | N + 1, [], i + 1 => zhO N [] i
 | N + 1, _ :: _, 0 => rfl
 | N + 1, _ :: l, i + 1 => zhO N l i
theorem zhN : ∀ {l : List Av} {i : Nat}, i < l.length → l[i]? = some (at_ l i)
 | [], _, h => by simp at h
 | _ :: _, 0, _ => rfl
 | _ :: l, i + 1, h => by rw [List.getElem?_cons_succ]; exact zhN (l := l) (by simpa using h)
theorem zgh : ∀ {l : List Value} {i : Nat}, i < l.length → l[i]? = some (kJ l i)
 | [], _, h => by simp at h
 | _ :: _, 0, _ => rfl
 | _ :: l, i + 1, h => by rw [List.getElem?_cons_succ]; exact zgh (l := l) (by simpa using h)
theorem ziG {K m : Nat} {γ : Nat → Nat} : ∀ {l l' : List Value}, Zip (Sm K m γ) l l' → FrS K m γ (kJ l) (kJ l')
 | _, _, .nil, _ => .of yJ
 | _, _, .cons h _, 0 => h
 | _, _, .cons _ t, i + 1 => ziG t i
theorem zja {c : Cx} {K : Nat} {G : Gm} {ex : Nat → Nat → Code → S → Option Out} (hex : zkL c K G ex) : zb5 c K G (zjb c ex) := by
 intro k avs M H n a h s al hz hp hM hH
 unfold zjb at h
 split at h
 ·rename_i fn hfn
  split at h
  ·rename_i code t hb hr
   cases e : nms n avs with
   | mk avs' n1 =>
    rw [e] at h
    obtain ⟨hc, h⟩ := z8 (show cond (Nat.ble avs'.length fn.ntmps && (zbv (fun a => !a.isGd) avs' && Nat.blt t fn.ntmps)) (match ex fn.ntmps t code ⟨pad fn.ntmps avs', M, H, n1⟩ with
     | some ⟨nm, [], rs⟩ => match ziz n M.length (match nm with | some s => at_ s.A t :: rs | none => rs) with
      | some a => cond a.fl (some a) none
      | none => none
     | _ => none) none = some a from h)
    obtain ⟨c1, c2⟩ := yC hc
    split at h
    ·rename_i nm rs hexe
     split at h
     ·rename_i a' hj'
      obtain ⟨hfl, h⟩ := z8 h
      cases h
      obtain ⟨ρ1, p1, p2, p3, p4⟩ := zj4 (F := u0) (m := M.length) e hz hp
      obtain ⟨⟨o1, o2⟩, hj⟩ := ze4 (sh := shp c.sh) (ρ := s.r) (β := s.b) (G := G) (F := u0) hj'
      have hlen : avs'.length = al.length := p4.len
      have hres : fn.results = #[.tmp t] := Array.ext' hr
      have init : Rep c K G ⟨pad fn.ntmps avs', M, H, n1⟩ ⟨ρ1, s.b, s.m, kJ al⟩ := by
       refine ⟨fun i => ?_, fun i => ?_, ?_, fun f hf => ⟨zdj p1 (hH f hf).2 (hH f hf).1, Ft.old_mono p2 (hH f hf).2⟩⟩
       ·rw [zhO]
        rcases Nat.lt_or_ge i avs'.length with hi | hi
        ·have h1 := zhN hi
         exact ja (p3 _ (List.mem_of_getElem? h1)).2 (p4.get i _ _ h1 (zgh (by omega)))
        ·rw [zbZ hi]; exact trivial
       ·show (at_ (pad fn.ntmps avs') i).old n1 M.length = true
        rw [zhO]
        rcases Nat.lt_or_ge i avs'.length with hi | hi
        ·exact (p3 _ (List.mem_of_getElem? (zhN hi))).1
        ·rw [zbZ hi]; rfl
       ·intro j l hj
        obtain ⟨h1, h2⟩ := (hM.old (Nat.le_refl _) p1 (fun _ _ => rfl) (show ∃ L, s.m = s.m ++ L from ⟨[], by simp⟩)) j l hj
        exact ⟨fun a ha => ⟨Av.old_mono p2 (Nat.le_refl _) (h1 a ha).1, (h1 a ha).2⟩, h2⟩
      obtain ⟨kk, s', x, ft, T⟩ := hex _ _ _ _ _ hexe _ init
      obtain ⟨b, hbm, hg, hT⟩ : ∃ b, b ∈ (match nm with | some s => at_ s.A t :: rs | none => rs) ∧ gam (shp c.sh) s'.r s'.b G s'.f b (s'.f t) ∧ ∀ (κ : Ctx) (Q : Fr → World → Prop), κ.ro = none → Then K G ⟨ρ1, s.b, s.m, kJ al⟩ s' (WC κ c.P fn.ntmps code ⟨Q, Q, [], fun _ _ _ => False⟩) Q := by
       cases kk with
       | nm =>
        obtain ⟨st2, hs, _, _, R⟩ := ft
        replace hs : nm = some st2 := hs
        subst hs
        exact ⟨_, List.mem_cons_self, R.fr t, fun κ Q hro => T κ Q Q [] Q hro rfl⟩
       | xt id => obtain ⟨st2, hs, _⟩ := ft; cases hs
       | rt =>
        obtain ⟨b, hb, hg⟩ := ft
        refine ⟨b, ?_, hg, fun κ Q hro => T κ Q Q [] Q hro rfl⟩
        cases nm with
        | none => exact hb
        | some s => exact List.mem_cons_of_mem _ hb
      have hga : gam (shp c.sh) s.r s.b G u0 a (s'.f t) := by
       have h1 := (ze4 (sh := shp c.sh) (ρ := s'.r) (β := s'.b) (G := G) (F := s'.f) hj').2 b hbm _ hg
       refine ja (F := s'.f) o2 (kl (n := n) (m := M.length) (fun i hi => ?_) (fun j hj => (x.eb j hj).symm) (Gle.refl _) o1 h1)
       rw [x.er i (by show i < n1; omega)]
       exact (p1 i hi).symm
      have hff : flat K (s'.f t) := zrG hfl hga
      refine ⟨s'.f t, hga, ⟨o1, o2⟩, hff, fun γ G1 w al' hW hz' => ?_⟩
      refine qb (xZ _ _ _) hfn hb hres rfl (by rw [← hz'.len, ← hlen]; exact c1) ?_
      exact hT _ _ rfl γ G1 (kJ al') w hW (ziG hz') fun γ' G2 F' w' nx hW' hF' => ⟨_, G2, rfl, nx.w, (hF' t).flat hff⟩
     ·cases h
    ·cases h
  ·cases h
 ·cases h
theorem zsK {c : Cx} {K : Nat} {G : Gm} (hm : c.P.follows .mixedOrders = true) (hK : Bd K G) : ∀ k, zkL c K G (exec c k) := by
 intro k
 induction k with
 | zero => intro N rt code st o h; cases h
 | succ k ih =>
  have hcall := zja ih
  intro N rt code st o h s hR
  unfold exec at h
  split at h
  ·cases h
   refine ⟨.nm, s, .refl, ⟨st, rfl, Nat.le_refl _, Nat.le_refl _, hR⟩, fun κ n r x Q hro ht γ G1 F w hW hF hh => ?_⟩
   cases ht
   exact zq (hh γ G1 F w (.refl hW.sat) hW hF)
  ·rename_i id ops
   obtain ⟨s1, h1, rfl⟩ := Option.map_eq_some_iff.1 h
   obtain ⟨s', x1, n1, m1, R1, T1⟩ := zre hK hcall ops.toList h1 hR
   refine ⟨.nm, s', x1, ⟨s1, rfl, n1, m1, R1⟩, fun κ n r x Q hro ht γ G1 F w hW hF hh => ?_⟩
   cases ht
   have e : ops = ops.toList.toArray := by simp
   have key : WL κ c.P N ops.toList.toArray (fun _ _ _ => False) n ops.toList F w := by
    rw [← e]
    exact T1 γ G1 F w hW hF hh
   have := zb (id := id) (r := r) (x := x) key
   rw [← e] at this
   exact this
  ·rename_i id ops
   obtain ⟨s1, h1, rfl⟩ := Option.map_eq_some_iff.1 h
   obtain ⟨s', x1, R1, e1, e2, T1⟩ := zpZ hm hK hcall h1 hR
   refine ⟨.nm, s', x1, ⟨s1, rfl, by omega, by rw [e2]; exact Nat.le_refl _, R1⟩, fun κ n r x Q hro ht => ?_⟩
   cases ht
   exact T1 hro
  ·rename_i a b
   split at h
   ·rename_i t xs rs h1
    split at h
    ·rename_i nm ys qs h2
     cases h
     obtain ⟨k1, s1, x1, f1, T1⟩ := ih N rt a st _ h1 s hR
     cases k1 with
     | nm =>
      obtain ⟨t', e1, n1, m1, R1⟩ := f1
      cases e1
      obtain ⟨k2, s2, x2, f2, T2⟩ := ih N rt b t _ h2 s1 R1
      refine ⟨k2, s2, x1.trans x2 n1 m1, ?_, fun κ n r x Q hro ht γ G1 F w hW hF hh => zd (Then.trans (T1 κ _ r x _ hro rfl) (T2 κ n r x Q hro ht) x1.len γ G1 F w hW hF hh)⟩
      cases k2 with
      | nm => obtain ⟨u, g1, g2, g3, g4⟩ := f2; exact ⟨u, g1, Nat.le_trans n1 g2, Nat.le_trans m1 g3, g4⟩
      | xt id => obtain ⟨u, g1, g2, g3, g4⟩ := f2; exact ⟨u, List.mem_append_right _ g1, Nat.le_trans n1 g2, Nat.le_trans m1 g3, g4⟩
      | rt => obtain ⟨u, g1, g2⟩ := f2; exact ⟨u, List.mem_append_right _ g1, g2⟩
     | xt id =>
      obtain ⟨u, g1, g2⟩ := f1
      exact ⟨.xt id, s1, x1, ⟨u, List.mem_append_left _ g1, g2⟩, fun κ n r x Q hro ht γ G1 F w hW hF hh => zd (T1 κ (WC κ c.P N b ⟨n, r, x, fun _ _ _ => False⟩) r x Q hro ht γ G1 F w hW hF hh)⟩
     | rt =>
      obtain ⟨u, g1, g2⟩ := f1
      exact ⟨.rt, s1, x1, ⟨u, List.mem_append_left _ g1, g2⟩, fun κ n r x Q hro ht γ G1 F w hW hF hh => zd (T1 κ (WC κ c.P N b ⟨n, r, x, fun _ _ _ => False⟩) r x Q hro ht γ G1 F w hW hF hh)⟩
    ·cases h
   ·rename_i o' hno
    cases ho : exec c k N rt a st with
    | none => rw [ho] at h; cases h
    | some o1 =>
     rw [ho] at h
     cases h
     obtain ⟨nm, xs, rs⟩ := o
     cases nm with
     | some t => exact absurd ho (hno t xs rs)
     | none =>
      obtain ⟨k1, s1, x1, f1, T1⟩ := ih N rt a st _ ho s hR
      cases k1 with
      | nm => obtain ⟨t', e1, _⟩ := f1; cases e1
      | xt id => exact ⟨.xt id, s1, x1, f1, fun κ n r x Q hro ht γ G1 F w hW hF hh => zd (T1 κ (WC κ c.P N b ⟨n, r, x, fun _ _ _ => False⟩) r x Q hro ht γ G1 F w hW hF hh)⟩
      | rt => exact ⟨.rt, s1, x1, f1, fun κ n r x Q hro ht γ G1 F w hW hF hh => zd (T1 κ (WC κ c.P N b ⟨n, r, x, fun _ _ _ => False⟩) r x Q hro ht γ G1 F w hW hF hh)⟩
  ·rename_i t a b
   obtain ⟨hb, h⟩ := z8 h
   split at h
   ·rename_i n1 x1 r1 n2 x2 r2 h1 h2
    cases h
    have hg := hR.fr t
    obtain ⟨q, hq⟩ := xP hb hg
    rw [hq] at hg
    have side : ∀ w', q = w' → Rep c K G ⟨st.A, st.M, xj w' (at_ st.A t) ++ st.H, st.n⟩ s := fun w' e => by
     subst e
     refine ⟨hR.fr, hR.fo, hR.me, fun f hf => ?_⟩
     rcases List.mem_append.1 hf with h | h
     ·exact ⟨kz hg f h, zfj (hR.fo t) f h⟩
     ·exact hR.ft f h
    have hq' : ∀ {γ : Nat → Nat} {F : Fr}, FrS K s.m.length γ s.f F → F t = .bool q := fun hF => ((hF t).flat (by rw [hq]; trivial)).trans hq
    cases q with
    | true =>
     obtain ⟨k1, s1, y1, f1, T1⟩ := ih N rt a _ _ h1 s (side true rfl)
     refine ⟨k1, s1, y1, ?_, fun κ n r x Q hro ht γ G1 F w hW hF hh => zV (b := true) (hq' hF) (fun _ => T1 κ n r x Q hro ht γ G1 F w hW hF hh) fun e => by cases e⟩
     cases k1 with
     | nm =>
      obtain ⟨u, g1, g2, g3, g4⟩ := f1
      cases g1
      obtain ⟨v, hv, hc⟩ := zkk (c := c) (K := K) (G := G) (b := st) (s := u) n2
      obtain ⟨q1, q2, q3⟩ := hc _ _ hR y1 g2 g3 g4
      exact ⟨v, hv, q2, q3, q1⟩
     | xt id => obtain ⟨u, g1, g2⟩ := f1; exact ⟨u, List.mem_append_left _ g1, g2⟩
     | rt => obtain ⟨u, g1, g2⟩ := f1; exact ⟨u, List.mem_append_left _ g1, g2⟩
    | false =>
     obtain ⟨k1, s1, y1, f1, T1⟩ := ih N rt b _ _ h2 s (side false rfl)
     refine ⟨k1, s1, y1, ?_, fun κ n r x Q hro ht γ G1 F w hW hF hh => zV (b := false) (hq' hF) (fun e => by cases e) fun _ => T1 κ n r x Q hro ht γ G1 F w hW hF hh⟩
     cases k1 with
     | nm =>
      obtain ⟨u, g1, g2, g3, g4⟩ := f1
      cases g1
      obtain ⟨v, hv, hc⟩ := zdK (c := c) (K := K) (G := G) (b := st) (t := u) n1
      obtain ⟨q1, q2, q3⟩ := hc _ _ hR y1 g2 g3 g4
      exact ⟨v, hv, q2, q3, q1⟩
     | xt id => obtain ⟨u, g1, g2⟩ := f1; exact ⟨u, List.mem_append_right _ g1, g2⟩
     | rt => obtain ⟨u, g1, g2⟩ := f1; exact ⟨u, List.mem_append_right _ g1, g2⟩
   ·cases h
  ·rename_i id b
   split at h
   ·rename_i nm xs rs h1
    cases h
    obtain ⟨k1, s1, y1, f1, T1⟩ := ih N rt b st _ h1 s hR
    cases k1 with
    | nm =>
     obtain ⟨t, g1, g2, g3, g4⟩ := f1
     replace g1 : nm = some t := g1
     subst g1
     obtain ⟨u, hu, hc⟩ := vJ (c := c) (K := K) (G := G) (b := st) (id := id) xs (s := t)
     obtain ⟨q1, q2, q3⟩ := hc _ _ hR y1 g2 g3 g4
     exact ⟨.nm, s1, y1, ⟨u, hu, q2, q3, q1⟩, fun κ n r x Q hro ht γ G1 F w hW hF hh => zp (T1 κ n r ((id, n) :: x) Q hro ht γ G1 F w hW hF hh)⟩
    | xt id' =>
     obtain ⟨t, g1, g2, g3, g4⟩ := f1
     cases hk : Nat.beq id' id with
     | true =>
      obtain rfl := xF hk
      obtain ⟨u, hu, hc⟩ := zgd (c := c) (K := K) (G := G) (b := st) (id := id') xs nm g1
      obtain ⟨q1, q2, q3⟩ := hc _ _ hR y1 g2 g3 g4
      exact ⟨.nm, s1, y1, ⟨u, hu, q2, q3, q1⟩, fun κ n r x Q hro ht γ G1 F w hW hF hh => zp (T1 κ n r ((id', n) :: x) Q hro (by cases ht; simp [tgt, zeU]) γ G1 F w hW hF hh)⟩
     | false =>
      refine ⟨.xt id', s1, y1, ⟨t, zbL g1 hk, g2, g3, g4⟩, fun κ n r x Q hro ht γ G1 F w hW hF hh => zp (T1 κ n r ((id, n) :: x) Q hro ?_ γ G1 F w hW hF hh)⟩
      have : Nat.beq id id' = false := by
       cases hb : Nat.beq id id' with
       | false => rfl
       | true => rw [xF hb] at hk; simp at hk
      show cond (Nat.beq id id') _ _ = _
      rw [this]; exact ht
    | rt => exact ⟨.rt, s1, y1, f1, fun κ n r x Q hro ht γ G1 F w hW hF hh => zp (T1 κ n r ((id, n) :: x) Q hro ht γ G1 F w hW hF hh)⟩
   ·cases h
  ·rename_i b
   split at h
   ·rename_i i hi
    obtain ⟨hl, h⟩ := z8 h
    split at h
    ·rename_i nm xs rs h1
     obtain ⟨hs, h⟩ := z8 h
     cases h
     obtain ⟨k0, hk0⟩ : ∃ k0, at_ st.A i = .lit (.ofNat k0) := by
      unfold zxA at hl
      split at hl
      ·rename_i k0 e; exact ⟨k0, e⟩
      ·cases hl
     exact zro ih hk0 h1 (fun s e => by subst e; exact hs) hR
    ·cases h
   ·cases h
  ·rename_i id
   cases h
   refine ⟨.xt id, s, .refl, ⟨st, List.mem_cons_self, Nat.le_refl _, Nat.le_refl _, hR⟩, fun κ n r x Q hro ht γ G1 F w hW hF hh => zW ht (hh γ G1 F w (.refl hW.sat) hW hF)⟩
  ·cases h
   refine ⟨.rt, s, .refl, ⟨_, List.mem_cons_self, hR.fr rt⟩, fun κ n r x Q hro ht γ G1 F w hW hF hh => ?_⟩
   cases ht
   exact zF (hh γ G1 F w (.refl hW.sat) hW hF)
  ·cases h
theorem zkZ {c : Cx} (hm : c.P.follows .mixedOrders = true) {fuel f n : Nat} {avs : List Av} {a : Av} (h : zg1 c fuel f n avs = some a) (hp : zbv (fun a => a.old n 0 && !a.isGd) avs = true) {ρ : Env} {G : Gm} {K : Nat} (hK : Bd K G) {al : List Value} (hfl : ∀ v ∈ al, flat K v)
  (hz : Zip (gam (shp c.sh) ρ (fun _ => 0) G u0) avs al) : ∃ v0, gam (shp c.sh) ρ (fun _ => 0) G u0 a v0 ∧ ∀ G1 w, Gle G G1 → Sat G1 w → Calls c.P f al.toArray w (yL G1 w fun _ v => v = v0) := by
 obtain ⟨v0, h1, _, _, h2⟩ := zja (zsK hm hK fuel) f avs [] [] n a h ⟨ρ, fun _ => 0, [], u0⟩ al hz (fun a ha => by
  obtain ⟨h1, h2⟩ := yC (yr hp a ha)
  exact ⟨h1, zrk h2⟩) (fun j l hj => by simp at hj) (fun f hf => by cases hf)
 refine ⟨v0, h1, fun G1 w hle hS => h2 (fun _ => 0) G1 w al ⟨hS, hle, fun i cs hi => by simp at hi⟩ ?_⟩
 have := Zip.mapOf (R := Sm K 0 (fun _ => 0)) (f := id) (g := id) (l := al) fun x hx => .of (hfl x hx)
 simpa using this
end Go.Proofs.YtihedfkcccaonaaGreatDoor.Sf
