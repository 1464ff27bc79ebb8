/-
 The places of a plan are closed (the walk of closed20).
-/
import Derived.Test.YtcapocmenjcnhaaGreatDoorRz
set_option linter.unusedVariables false
set_option linter.unusedSimpArgs false
namespace Go.Proofs.YtcapocmenjcnhaaGreatDoor
open Go.RowKit
set_option maxRecDepth 20000
section
variable {B : Nat} {G0 : Gm} {w0 : World} {Gc : Gm} {wc : World} {Lq : List Row} {b n2 c2 n1 c1 S : Nat} {cc ac pc cA : List Value} {ad ap a1 a2 : Option Addr} {cp0 cpp : Nat} {r : qz} {mo : Int} {l : List Nat}
set_option maxHeartbeats 2000000 in
theorem zov {xs0 : List Value} {v0 v1 v2 : Int} {n0 : Nat} (hS : Since B G0 w0 Gc wc) (hO : Owns Gc wc B (rowC b cc :: jG n0 (.slice ad n0 cp0) ac :: yt ap S cpp pc :: Lq)) (h2B : 2 ≤ B) (hcs : CoR Gc cc (.slice ad n0 cp0) (.slice ap S cpp) r mo) (hn0 : n0 ≤ 10) (hxs : n0 = xs0.length) (hrd : Rd zhV 1 Gc ac xs0) (hpc : Rd zW 1 Gc pc (List.replicate S 0))
  (hlA : cA.length = 51) (hA : cA[20]? = some (.slice a1 n1 c1)) (h1 : RSl zE 12 Gc a1 n1 c1 r.Places) (h2 : RSl zW 1 Gc a2 n2 c2 (yj l)) (hlS : l.length = S) (hS4 : S ≤ 4) (h4 : r.Places.length ≤ 4) (hq : ∀ q ∈ l, q < 2 ^ r.Places.length) (hw : ∀ p ∈ r.Places, 0 ≤ p.Worth ∧ p.Worth ≤ 1000000)
  (hmo : mo ≤ 9223372036854775807) (hcost : z9 r.Places l S ≤ mo)
  (h88 : ∀ G w, Gle Gc G → Sat G w → ∀ a1 n1 c1 a n c, RSl zE 12 G a1 n1 c1 r.Places → RSl zW 1 G a n c (yj l) → Calls Tryz.prog 88 [.agg #[.slice a1 n1 c1, iV r.Miss, iV r.Seasons], .slice a n c].toArray w (qQ w (.tuple #[iV v0, iV v1, iV v2]))) :
  Calls Tryz.prog 9 [pV b, .agg cA.toArray, .slice a2 n2 c2].toArray wc (zdX B G0 w0 Gc wc (fun G' L' v => v = .tuple #[iV v0, iV v1, iV v2] ∧ ∃ cc' n' ad' cp' ac' pc', L' = rowC b cc' :: jG n' (.slice ad' n' cp') ac' :: yt ap S cpp pc' :: Lq ∧ CoR G' cc' (.slice ad' n' cp') (.slice ap S cpp) r (mo - z9 r.Places l S))) := by
 have hw0 : ∀ p ∈ r.Places, 0 ≤ p.Worth := fun p hp => (hw p hp).1
 have h16 : 2 ^ r.Places.length ≤ 16 := Nat.le_trans (Nat.pow_le_pow_right (by decide) h4) (by decide)
 have hlen2 : (yj l).length = S := by rw [List.length_map, hlS]
 refine ve (N := 43) (rs := [.tmp 6, .tmp 7, .tmp 8]) hO.base Tryz.func9 rfl rfl rfl rfl (zc (zb ?_))
 refine zp rfl (zI (v := fun b => pV b) (cs := cA) (e := 49) (z6 rfl) hS.sat rfl fun b4 G1 w1 hg1 hc4 => ?_)
 have hS := hS.grow hg1
 have hO := hO.grow hg1
 refine za (ze (v := iV 0) rfl) rfl (za (ze (v := iV 0) rfl) rfl (za (ze (v := iV 0) rfl) rfl (zd ?_)))
 have hpc := hpc.mono zm hg1.le
 rw [← hlS, ← plAt_zero] at hpc
 refine zc (qx (fun F w => ∃ Fb G cc n ad cp0 ac pc, F = qC Fb [(0, pV b)] ∧ Gle G1 G ∧ Since B G0 w0 G w ∧ Owns G w B (rowC b cc :: jG n (.slice ad n cp0) ac :: yt ap S cpp pc :: Lq) ∧ CoR G cc (.slice ad n cp0) (.slice ap S cpp) r (mo - z9 r.Places l S) ∧ Rd zW 1 G pc (yj l)) ?_ ?_)
 ·refine zc (zb (za (ze (v := iV 0) rfl) rfl (zd ?_)))
  refine zB (qZ (qJ S (fun s F w => ∃ Fb G cc n ad cp0 ac pc xs, F = qC Fb [(0, pV b), (2, .slice a2 n2 c2), (4, pV b4), (9, iV (s : Int))] ∧ Gle G1 G ∧ Since B G0 w0 G w ∧ Owns G w B (rowC b cc :: jG n (.slice ad n cp0) ac :: yt ap S cpp pc :: Lq) ∧ CoR G cc (.slice ad n cp0) (.slice ap S cpp) r (mo - z9 r.Places l s) ∧ n ≤ 10 + s * 4 ∧ n = xs.length ∧ Rd zhV 1 G ac xs ∧ Rd zW 1 G pc (vJ l s 0)) ?_ ?_ S 0 _ _ (by omega) ⟨_, G1, cc, n0, ad, cp0, ac, pc, xs0, zi _ _ ⟨rfl, rfl, rfl, rfl, trivial⟩, Gle.refl _, hS, hO, by simpa [z9] using hcs.grow hg1.le, by omega, hxs, hrd.mono vY hg1.le, hpc⟩))
  ·rintro s F w hs ⟨Fb, G, cc, n, ad, cp0, ac, pc, xs, rfl, le, hS, hO, hcs, hn, hxs, hrd, hpc⟩
   have hsl : s < l.length := by omega
   have hqs := zbt hq hsl
   have hx2 : ix (yj l) (s : Int) = some ((l.getD s 0 : Nat) : Int) := (qm _ _).trans (kY hsl)
   refine zc (zc (zb (za (zf (v := iV (s : Int)) rfl) rfl (za (zf (v := .slice a2 n2 c2) rfl) rfl (za (qu (m := S) s24 rfl rfl (h2.1.trans hlen2)) rfl (za (qa rfl rfl) rfl (zd (qf (decide ((s : Int) < (S : Int))) (decide_eq_true (by omega)) rfl (zD ?_)))))))))
   refine zc (zB (zc (zb (za (ze (v := iV 0) rfl) rfl (zd ?_)))))
   refine zB (qZ (qJ r.Places.length (fun i F w => ∃ Fb G cc n ad cp0 ac pc xs, F = qC Fb [(0, pV b), (2, .slice a2 n2 c2), (4, pV b4), (9, iV (s : Int)), (10, iV (i : Int))] ∧ Gle G1 G ∧ Since B G0 w0 G w ∧ Owns G w B (rowC b cc :: jG n (.slice ad n cp0) ac :: yt ap S cpp pc :: Lq) ∧ CoR G cc (.slice ad n cp0) (.slice ap S cpp) r (mo - z9 r.Places l s - yi r.Places (l.getD s 0) i) ∧ n ≤ 10 + s * 4 + i ∧ n = xs.length ∧ Rd zhV 1 G ac xs ∧ Rd zW 1 G pc (vJ l s i)) ?_ ?_ r.Places.length 0 _ _ (by omega) ⟨_, G, cc, n, ad, cp0, ac, pc, xs, zi _ _ ⟨rfl, rfl, rfl, rfl, rfl, trivial⟩, le, hS, hO, by simpa [yi] using hcs, by omega, hxs, hrd, hpc⟩))
   ·rintro i F w hi ⟨Fb, G, cc, n, ad, cp0, ac, pc, xs, rfl, le, hS, hO, hcs, hn, hxs, hrd, hpc⟩
    have hpi := List.getElem?_eq_getElem hi
    have hwi := hw _ (List.getElem_mem hi)
    have le' := hg1.le.trans le
    have h2 := h2.mono zm le'
    have h1 := h1.mono zl le'
    have hc4 := hc4.mono le
    have e1 : yi r.Places (l.getD s 0) (i + 1) = yi r.Places (l.getD s 0) i + if yZ (l.getD s 0) i then r.Places[i].Worth else 0 := by
     conv => lhs; unfold yi
     rw [hpi]; rfl
    refine zc (zc (zb (za (zf (v := iV (i : Int)) rfl) rfl (za (zj xP rfl) rfl (za (zj jL rfl) rfl (za (zk n33 rfl (hS.sat.cell (hc4 20 _ hA))) rfl (za (qu (m := r.Places.length) s33 rfl rfl h1.1) rfl (za (qa rfl rfl) rfl (zd (qf (decide ((i : Int) < (r.Places.length : Int))) (decide_eq_true (by omega)) rfl (zD ?_)))))))))))
    refine zc (zB (zc (zb (za (zf (v := .slice a2 n2 c2) rfl) rfl (za (zf (v := iV (s : Int)) rfl) rfl (xi s24 h2 hx2 rfl rfl rfl ?_))))))
    rintro bq oq _ hcq _ ⟨⟩
    refine za (zk n3 rfl (hS.sat.cell (hcq 0 _ rfl))) rfl (za (zf (v := iV (i : Int)) rfl) rfl ?_)
    refine zp rfl (zu cb28r (zjQ hS.sat (zjR (show l.getD s 0 ≤ 1000 by omega) (show i ≤ 1000 by omega))) rfl rfl fun w5 hb => ?_)
    have hS := hS.keep hb
    have hO := hO.below hb
    refine za (zf (v := .bool (yZ (l.getD s 0) i)) rfl) rfl ?_
    cases hbit : yZ (l.getD s 0) i with
    | false =>
     rw [hbit] at e1
     refine qE rfl (b := false) rfl rfl rfl rfl (qE rfl (b := false) rfl rfl rfl rfl (qE rfl (b := false) rfl rfl rfl rfl (qE rfl (b := false) rfl rfl rfl rfl (qE rfl (b := false) rfl rfl rfl rfl ?_))))
     refine za (xg (v := .bool false) rfl rfl rfl) rfl (zd (zV false rfl rfl (zD ?_)))
     refine zb (za (zf (v := iV (i : Int)) rfl) rfl (za (qO rfl rfl) rfl (za (ze (v := iV ((i + 1 : Nat) : Int)) (congrArg iV (yQ (by omega)))) rfl (zd ?_))))
     exact ⟨_, G, cc, n, ad, cp0, ac, pc, xs, zi _ _ ⟨rfl, rfl, rfl, rfl, rfl, trivial⟩, le, hS, hO, by rw [e1]; simpa using hcs, by omega, hxs, hrd, by rw [← plAt_keep hbit]; exact hpc⟩
    | true =>
     rw [hbit] at e1
     simp only [if_true] at e1
     have hm1 : yi r.Places (l.getD s 0) (i + 1) ≤ yi r.Places (l.getD s 0) r.Places.length := costS_mono hw0 _ (by omega)
     have hm2 : z9 r.Places l (s + 1) ≤ z9 r.Places l S := costTo_mono hw0 l (by omega)
     have hm3 : z9 r.Places l (s + 1) = z9 r.Places l s + yi r.Places (l.getD s 0) r.Places.length := rfl
     have hm4 := zb0 hw0 l s
     have hm5 := kJ hw0 (l.getD s 0) i
     have hmw : IntKind.i64.wrap (mo - z9 r.Places l s - yi r.Places (l.getD s 0) i - r.Places[i].Worth) = mo - z9 r.Places l s - yi r.Places (l.getD s 0) (i + 1) := by
      rw [e1, wrap_in ⟨by omega, by omega⟩]
      omega
     have hpl : (vJ l s i).length = S := by rw [vH, hlS]
     have hget : (vJ l s i)[s]? = some ((l.getD s 0 % 2 ^ i : Nat) : Int) := by rw [zaT hsl, if_neg (by omega), if_pos rfl]
     have h64 : l.getD s 0 % 2 ^ i < 64 := Nat.lt_of_le_of_lt (Nat.mod_le _ _) (by omega)
     have hO : Owns G w5 B (rowC b cc :: jG n (.slice ad n cp0) ac :: yt ap (vJ l s i).length cpp pc :: Lq) := by rw [hpl]; exact hO
     have hcs' : CoR G cc (.slice ad n cp0) (.slice ap (vJ l s i).length cpp) r (mo - z9 r.Places l s - yi r.Places (l.getD s 0) i) := by rw [hpl]; exact hcs
     refine zo rfl (b := true) rfl rfl rfl (za (zf (v := pV b) rfl) rfl ?_)
     refine zo rfl (b := true) rfl rfl rfl (za (zf (v := iV (i : Int)) rfl) rfl ?_)
     refine zo rfl (b := true) rfl rfl rfl (za (zf (v := iV (s : Int)) rfl) rfl ?_)
     refine zo rfl (b := true) rfl rfl rfl (zp rfl (yq (fi := []) (al := [pV b, iV (i : Int), iV (s : Int)]) (ca := []) cb29r (f29_ok (i := i) (s := s) (q := l.getD s 0 % 2 ^ i) hS hO h2B hcs' (by omega) hxs hrd hpc hpi h4 (by omega) hget h64 (mod_clear _ _) (by omega) hmw) rfl rfl rfl fun v G6 w6 L6 le6 hS hO hv => ?_))
     obtain ⟨rfl, cc6, ad6, cp6, ac6, xs6, pc6, rfl, hcs6, hxs6, hrd6, hpc6⟩ := hv
     rw [hpl] at hO hcs6
     rw [plAt_set hsl hbit] at hpc6
     refine zo rfl (b := true) rfl rfl rfl (za (kw rfl rfl) rfl ?_)
     refine za (yH (v := .bool false) rfl rfl rfl) rfl (zd (zV false rfl rfl (zD ?_)))
     refine zb (za (zf (v := iV (i : Int)) rfl) rfl (za (qO rfl rfl) rfl (za (ze (v := iV ((i + 1 : Nat) : Int)) (congrArg iV (yQ (by omega)))) rfl (zd ?_))))
     exact ⟨_, G6, cc6, n + 1, ad6, cp6, ac6, pc6, xs6, zi _ _ ⟨rfl, rfl, rfl, rfl, rfl, trivial⟩, le.trans le6, hS, hO, hcs6, by omega, hxs6, hrd6, hpc6⟩
   ·rintro F w ⟨Fb, G, cc, n, ad, cp0, ac, pc, xs, rfl, le, hS, hO, hcs, hn, hxs, hrd, hpc⟩
    have h1 := h1.mono zl (hg1.le.trans le)
    refine qP (zc (zc (zb (za (zf (v := iV (r.Places.length : Int)) rfl) rfl (za (zj xP rfl) rfl (za (zj jL rfl) rfl (za (zk n33 rfl (hS.sat.cell ((hc4.mono le) 20 _ hA))) rfl (za (qu (m := r.Places.length) s33 rfl rfl h1.1) rfl (za (qa rfl rfl) rfl (zd (zV (decide ((r.Places.length : Int) < (r.Places.length : Int))) (decide_eq_false (by omega)) rfl (ql rfl ?_))))))))))))
    refine zb (za (zf (v := iV (s : Int)) rfl) rfl (za (qO rfl rfl) rfl (za (ze (v := iV ((s + 1 : Nat) : Int)) (congrArg iV (yQ (by omega)))) rfl (zd ?_))))
    refine ⟨_, G, cc, n, ad, cp0, ac, pc, xs, zi _ _ ⟨rfl, rfl, rfl, rfl, trivial⟩, le, hS, hO, ?_, by omega, hxs, hrd, by rw [← plAt_next hqs]; exact hpc⟩
    have e : mo - z9 r.Places l (s + 1) = mo - z9 r.Places l s - yi r.Places (l.getD s 0) r.Places.length := by
     rw [show z9 r.Places l (s + 1) = z9 r.Places l s + yi r.Places (l.getD s 0) r.Places.length from rfl]; omega
    rw [e]
    exact hcs
  ·rintro F w ⟨Fb, G, cc, n, ad, cp0, ac, pc, xs, rfl, le, hS, hO, hcs, hn, hxs, hrd, hpc⟩
   refine qP (zc (zc (zb (za (zf (v := iV (S : Int)) rfl) rfl (za (zf (v := .slice a2 n2 c2) rfl) rfl (za (qu (m := S) s24 rfl rfl (h2.1.trans hlen2)) rfl (za (qa rfl rfl) rfl (zd (zV (decide ((S : Int) < (S : Int))) (decide_eq_false (by omega)) rfl (ql rfl ?_))))))))))
   rw [← hlS, plAt_all] at hpc
   exact ⟨_, G, cc, n, ad, cp0, ac, pc, zi _ _ ⟨rfl, trivial⟩, le, hS, hO, hcs, hpc⟩
 ·rintro F w ⟨Fb, G, cc, n, ad, cp0, ac, pc, rfl, le, hS, hO, hcs, hpc⟩
  obtain ⟨b1, m1, k1, p20, p21, p22, r1⟩ := hcs.rf
  obtain ⟨G', le2, hS', _, hs'⟩ := hO.freezeS hS zm (k := 2) rfl hpc hlen2.symm
  refine zc (zb (za (zf (v := pV b) rfl) rfl ?_))
  refine zp rfl (zu cb30r (f30_ok (v0 := v0) (v1 := v1) (v2 := v2) ⟨zx hO (k := 0) rfl hcs.c60, zx hO (k := 0) rfl hcs.c61⟩ (fun j v hj => by
   match j, hj with
   | 0, hj => cases hj; exact zx hO (k := 0) rfl p20
   | 1, hj => cases hj; exact zx hO (k := 0) rfl p21
   | 2, hj => cases hj; exact zx hO (k := 0) rfl p22) (zx hO (k := 0) rfl hcs.c54) (fun w' hb => h88 G' w' ((hg1.le.trans le).trans le2) (hS'.keep hb).sat _ _ _ _ _ _ (r1.mono zl le2) hs')) rfl rfl fun w5 hb => ?_)
  have hS := hS.keep hb
  have hO := hO.below hb
  refine za (zT (v := iV v0) rfl rfl) rfl (za (zT (v := iV v1) rfl rfl) rfl (za (zT (v := iV v2) rfl rfl) rfl (za (ze (v := iV v0) rfl) rfl (za (ze (v := iV v1) rfl) rfl (za (ze (v := iV v2) rfl) rfl (zd (zH ?_)))))))
  exact ⟨[iV v0, iV v1, iV v2], ⟨rfl, rfl, rfl, trivial⟩, G, _, hg1.le.trans le, hS, hO, rfl, cc, n, ad, cp0, ac, pc, rfl, hcs⟩
end
end Go.Proofs.YtcapocmenjcnhaaGreatDoor
/-
 The council: an atoll is kept in new memory. (Printed by mkkept.py.)
-/
namespace Go.Proofs.YtcapocmenjcnhaaGreatDoor
open Go.RowKit
set_option maxRecDepth 20000
def Sl {α : Type} (R : Gm → List Value → α → Prop) (sz : Nat) (l : List α) (G : Gm) (v : Value) : Prop := ∃ a n c, v = .slice a n c ∧ RSl R sz G a n c l
theorem Sl.one {α : Type} {R : Gm → List Value → α → Prop} {sz : Nat} {l : List α} {G : Gm} {v : Value} (h : Sl R sz l G v) : v.oneCell' = true ∧ v.cells.toList = [v] := by
 obtain ⟨a, n, c, rfl, _⟩ := h; exact ⟨rfl, rfl⟩
theorem Sl.mono {α : Type} {R : Gm → List Value → α → Prop} {sz : Nat} {l : List α} {G G' : Gm} {v : Value} (hR : zaE R) (h : Sl R sz l G v) (hle : Gle G G') : Sl R sz l G' v := by
 obtain ⟨a, n, c, rfl, h⟩ := h; exact ⟨a, n, c, rfl, h.mono hR hle⟩
def KQ (x : zJ) : Nat → Gm → Value → Prop
 | 12 => Sl zW 1 x.Islet.Wells
 | 13 => Sl qV 6 x.Islet.Months
 | 17 => Sl qG 2 x.Book.People
 | 18 => Sl qW 2 x.Book.Events
 | 19 => Sl qH 4 x.Book.Memories
 | 20 => Sl zE 12 x.Reef.Places
 | 24 => Sl zW 1 x.Sea.Infested
 | 25 => Sl zW 1 x.Sea.Clean
 | 26 => Sl yo 4 x.Sea.Trips
 | 28 => Sl zW 1 x.Store.Stock
 | 29 => Sl yM 2 x.Store.Use
 | 32 => Sl yR 3 x.Store.Lots
 | 39 => Sl yn 3 x.System.Loads
 | 46 => Sl zW 1 x.Fishing.Roads
 | 47 => Sl zW 1 x.Fishing.Zones
 | 48 => Sl zW 1 x.Fishing.Berths
 | 21 => fun _ v => v = iV x.Reef.Miss
 | 22 => fun _ v => v = iV x.Reef.Seasons
 | 50 => fun _ v => v = iV x.Money
 | _ => fun _ _ => True
theorem zlv {x : zJ} {G G' : Gm} {v : Value} (hle : Gle G G') : ∀ {j : Nat}, KQ x j G v → KQ x j G' v := by
 intro j
 unfold KQ
 split
 ·exact fun h => h.mono zm hle
 ·exact fun h => h.mono xj hle
 ·exact fun h => h.mono yy hle
 ·exact fun h => h.mono yG hle
 ·exact fun h => h.mono yz hle
 ·exact fun h => h.mono zl hle
 ·exact fun h => h.mono zm hle
 ·exact fun h => h.mono zm hle
 ·exact fun h => h.mono yS hle
 ·exact fun h => h.mono zm hle
 ·exact fun h => h.mono yp hle
 ·exact fun h => h.mono ym hle
 ·exact fun h => h.mono ji hle
 ·exact fun h => h.mono zm hle
 ·exact fun h => h.mono zm hle
 ·exact fun h => h.mono zm hle
 ·exact fun h => h
 ·exact fun h => h
 ·exact fun h => h
 ·exact fun _ => trivial
structure KI (x : zJ) (e : Nat) (G : Gm) (cc : List Value) : Prop where
 len : cc.length = 51
 at' : ∀ j v, cc[j]? = some v → v.oneCell' = true ∧ (j ≠ e → KQ x j G v)
theorem KI.mono {x : zJ} {e : Nat} {G G' : Gm} {cc : List Value} (h : KI x e G cc) (hle : Gle G G') : KI x e G' cc := ⟨h.len, fun j v hj => ⟨(h.at' j v hj).1, fun hn => zlv hle ((h.at' j v hj).2 hn)⟩⟩
theorem KI.get {x : zJ} {e : Nat} {G : Gm} {cc : List Value} (h : KI x e G cc) (j : Nat) (hj : Nat.blt j 51 = true) (he : Nat.beq j e = false) : ∃ v, cc[j]? = some v ∧ KQ x j G v := by
 have hj' : j < cc.length := by rw [h.len]; simpa [Nat.blt_eq] using hj
 exact ⟨cc[j], List.getElem?_eq_getElem hj', (h.at' j _ (List.getElem?_eq_getElem hj')).2 (Nat.ne_of_beq_eq_false he)⟩
theorem KI.set {x : zJ} {e e' j : Nat} {G : Gm} {cc : List Value} {v : Value} (h : KI x e G cc) (hj : j < 51) (h1 : v.oneCell' = true) (hv : j ≠ e' → KQ x j G v) (he : ∀ i, i < 51 → i ≠ j → i ≠ e' → i ≠ e) : KI x e' G (qX cc j [v]) := by
 have hf : j + [v].length ≤ cc.length := by rw [h.len]; exact hj
 refine ⟨by rw [jV hf, h.len], fun i u hi => ?_⟩
 rw [kN hf] at hi
 by_cases hij : i = j
 ·subst hij
  rw [if_pos ⟨Nat.le_refl _, by simp⟩] at hi
  simp at hi; subst hi
  exact ⟨h1, hv⟩
 ·rw [if_neg (by simp; omega)] at hi
  have := h.at' i u hi
  exact ⟨this.1, fun hn => this.2 (he i (by rw [← h.len]; exact (List.getElem?_eq_some_iff.1 hi).1) hij hn)⟩
abbrev yx (b : Nat) (cc : List Value) : Row := ⟨49, 51, 1, .slice (some ⟨b, 0, none⟩) 1 1, cc⟩
section
variable {κ : Ctx} {p : List PanicEntry → Fr → World → Prop} {N : Nat} {F : Fr} {w : World} {K : Fr → World → Prop} {ty : TypeId} {pos : String} {af : Array Edge} {G0 G : Gm} {w0 : World} {B : Nat} {L : List Row} {gd : Option (Nat × Bool)}
theorem xe {x : zJ} {e e' T j k b : Nat} {X Y : Operand} {cc : List Value} {v : Value} (hT : szB Tryz.prog T = some 1) (hS : Since B G0 w0 G w) (hO : Owns G w B L) (hk : L[k]? = some (yx b cc)) (hX : ev F X = .pointer (some ⟨b, j, none⟩)) (hY : ev F Y = v)
  (hj : Nat.blt j 51 = true) (h1 : v.oneCell' = true ∧ v.cells.toList = [v]) (hv : j ≠ e' → KQ x j G v) (hK : KI x e G cc) (he : ∀ i, i < 51 → i ≠ j → i ≠ e' → i ≠ e)
  (h : ∀ w' cc', Since B G0 w0 G w' → Owns G w' B (L.set k (yx b cc')) → KI x e' G cc' → cc'[j]? = some v → K F w') : OpP κ Tryz.prog N p ⟨none, .store T X Y, ty, pos, af, gd⟩ F w K := by
 have hj' : j < 51 := by simpa [Nat.blt_eq] using hj
 have hf : j + [v].length ≤ cc.length := by rw [hK.len]; exact hj'
 refine zM (vs := [v]) hT hS hO hk hX hY h1.2 rfl (zR (by simp [h1.1])) hf fun w' hS hO => ?_
 exact h w' _ hS hO (hK.set hj' h1.1 hv he) (by rw [kN hf, if_pos ⟨Nat.le_refl _, by simp⟩]; simp)
end
theorem zfh : zN Tryz.prog 122 = true := by kernel_rfl
theorem zfg {G : Gm} {w : World} {l : List Int} {v : Value} (hS : Sat G w) (h : Sl zW 1 l G v) (hl : l.length ≤ 1000) : Calls Tryz.prog 122 [v].toArray w (yP G w (Sl zW 1 l)) := by
 obtain ⟨a, n, cp, rfl, h⟩ := h
 exact zvi hS h (r := l) (by unfold zpb; rw [kq [] l (by simp; omega)]; rfl)
theorem zyA : zN Tryz.prog 123 = true := by kernel_rfl
theorem zyt {G : Gm} {w : World} {l : List xS} {v : Value} (hS : Sat G w) (h : Sl qV 6 l G v) (hl : l.length ≤ 1000) : Calls Tryz.prog 123 [v].toArray w (yP G w (Sl qV 6 l)) := by
 obtain ⟨a, n, cp, rfl, h⟩ := h
 exact zvh hS h (r := l) (by unfold zpa; rw [kq [] l (by simp; omega)]; rfl)
theorem zyz : zN Tryz.prog 124 = true := by kernel_rfl
theorem zys {G : Gm} {w : World} {l : List xm} {v : Value} (hS : Sat G w) (h : Sl qG 2 l G v) (hl : l.length ≤ 1000) : Calls Tryz.prog 124 [v].toArray w (yP G w (Sl qG 2 l)) := by
 obtain ⟨a, n, cp, rfl, h⟩ := h
 exact zvg hS h (r := l) (by unfold zo9; rw [kq [] l (by simp; omega)]; rfl)
theorem zyy : zN Tryz.prog 125 = true := by kernel_rfl
theorem zyr {G : Gm} {w : World} {l : List xT} {v : Value} (hS : Sat G w) (h : Sl qW 2 l G v) (hl : l.length ≤ 1000) : Calls Tryz.prog 125 [v].toArray w (yP G w (Sl qW 2 l)) := by
 obtain ⟨a, n, cp, rfl, h⟩ := h
 exact zvf hS h (r := l) (by unfold zo8; rw [kq [] l (by simp; omega)]; rfl)
theorem zz4 : zN Tryz.prog 126 = true := by kernel_rfl
theorem zz1 {G : Gm} {w : World} {l : List xn} {v : Value} (hS : Sat G w) (h : Sl qH 4 l G v) (hl : l.length ≤ 1000) : Calls Tryz.prog 126 [v].toArray w (yP G w (Sl qH 4 l)) := by
 obtain ⟨a, n, cp, rfl, h⟩ := h
 exact zve hS h (r := l) (by unfold zo7; rw [kq [] l (by simp; omega)]; rfl)
theorem zyx : zN Tryz.prog 127 = true := by kernel_rfl
theorem zyq {G : Gm} {w : World} {l : List zr} {v : Value} (hS : Sat G w) (h : Sl zE 12 l G v) (hl : l.length ≤ 1000) : Calls Tryz.prog 127 [v].toArray w (yP G w (Sl zE 12 l)) := by
 obtain ⟨a, n, cp, rfl, h⟩ := h
 exact zvd hS h (r := l) (by unfold zo6; rw [kq [] l (by simp; omega)]; rfl)
theorem zyw : zN Tryz.prog 128 = true := by kernel_rfl
theorem zyp {G : Gm} {w : World} {l : List jx} {v : Value} (hS : Sat G w) (h : Sl yo 4 l G v) (hl : l.length ≤ 1000) : Calls Tryz.prog 128 [v].toArray w (yP G w (Sl yo 4 l)) := by
 obtain ⟨a, n, cp, rfl, h⟩ := h
 exact zvc hS h (r := l) (by unfold zo5; rw [kq [] l (by simp; omega)]; rfl)
theorem zos : zN Tryz.prog 129 = true := by kernel_rfl
theorem zor {G : Gm} {w : World} {l : List qy} {v : Value} (hS : Sat G w) (h : Sl yM 2 l G v) (hl : l.length ≤ 1000) : Calls Tryz.prog 129 [v].toArray w (yP G w (Sl yM 2 l)) := by
 obtain ⟨a, n, cp, rfl, h⟩ := h
 exact zvb hS h (r := l) (by unfold zo4; rw [kq [] l (by simp; omega)]; rfl)
theorem zyu : zN Tryz.prog 131 = true := by kernel_rfl
theorem zyn {G : Gm} {w : World} {l : List jw} {v : Value} (hS : Sat G w) (h : Sl yn 3 l G v) (hl : l.length ≤ 1000) : Calls Tryz.prog 131 [v].toArray w (yP G w (Sl yn 3 l)) := by
 obtain ⟨a, n, cp, rfl, h⟩ := h
 exact zva hS h (r := l) (by unfold zo3; rw [kq [] l (by simp; omega)]; rfl)
theorem zjw : naB Tryz.prog 24 = true := by kernel_rfl
theorem zju : szB Tryz.prog 24 = some 1 := by kernel_rfl
theorem zzZ : naB Tryz.prog 25 = true := by kernel_rfl
theorem zzS : szB Tryz.prog 25 = some 1 := by kernel_rfl
theorem zzY : naB Tryz.prog 28 = true := by kernel_rfl
theorem zzR : szB Tryz.prog 28 = some 1 := by kernel_rfl
theorem zzX : naB Tryz.prog 29 = true := by kernel_rfl
theorem zzQ : szB Tryz.prog 29 = some 1 := by kernel_rfl
theorem zzW : naB Tryz.prog 30 = true := by kernel_rfl
theorem zzP : szB Tryz.prog 30 = some 1 := by kernel_rfl
theorem zzV : naB Tryz.prog 33 = true := by kernel_rfl
theorem zzO : szB Tryz.prog 33 = some 1 := by kernel_rfl
theorem zzU : naB Tryz.prog 36 = true := by kernel_rfl
theorem zzN : szB Tryz.prog 36 = some 1 := by kernel_rfl
theorem zpE : naB Tryz.prog 39 = true := by kernel_rfl
theorem zpD : szB Tryz.prog 39 = some 1 := by kernel_rfl
theorem znO : naB Tryz.prog 40 = true := by kernel_rfl
theorem zzM : szB Tryz.prog 40 = some 1 := by kernel_rfl
theorem zzT : naB Tryz.prog 43 = true := by kernel_rfl
theorem zzL : szB Tryz.prog 43 = some 1 := by kernel_rfl
theorem zmx : qB Tryz.prog 27 9 = some 12 := by kernel_rfl
theorem zkD : qB Tryz.prog 27 10 = some 13 := by kernel_rfl
theorem zmw : qB Tryz.prog 32 0 = some 0 := by kernel_rfl
theorem zmv : qB Tryz.prog 32 1 = some 1 := by kernel_rfl
theorem zmu : qB Tryz.prog 32 2 = some 2 := by kernel_rfl
theorem zmt : qB Tryz.prog 35 0 = some 0 := by kernel_rfl
theorem zms : qB Tryz.prog 38 1 = some 1 := by kernel_rfl
theorem zmr : qB Tryz.prog 38 2 = some 2 := by kernel_rfl
theorem zmq : qB Tryz.prog 38 3 = some 3 := by kernel_rfl
theorem zmp : qB Tryz.prog 42 0 = some 0 := by kernel_rfl
theorem zmo : qB Tryz.prog 42 1 = some 1 := by kernel_rfl
theorem zff : qB Tryz.prog 42 3 = some 4 := by kernel_rfl
theorem zmn : qB Tryz.prog 45 5 = some 5 := by kernel_rfl
theorem zmm : qB Tryz.prog 47 1 = some 1 := by kernel_rfl
theorem zml : qB Tryz.prog 47 2 = some 2 := by kernel_rfl
theorem zmk : qB Tryz.prog 47 3 = some 3 := by kernel_rfl
theorem zht : qB Tryz.prog 49 0 = some 0 := by kernel_rfl
theorem zdz : qB Tryz.prog 49 2 = some 17 := by kernel_rfl
theorem zjx : qB Tryz.prog 49 3 = some 20 := by kernel_rfl
theorem zdy : qB Tryz.prog 49 4 = some 23 := by kernel_rfl
theorem zao : qB Tryz.prog 49 5 = some 28 := by kernel_rfl
theorem zmj : qB Tryz.prog 49 6 = some 34 := by kernel_rfl
theorem zdx : qB Tryz.prog 49 7 = some 45 := by kernel_rfl
theorem zcU : agB Tryz.prog 49 = some 51 := by kernel_rfl
theorem zzK : szB Tryz.prog 49 = some 51 := by kernel_rfl
theorem zmi : qB Tryz.prog 108 0 = some 0 := by kernel_rfl
theorem zyv : zN Tryz.prog 130 = true := by kernel_rfl
theorem znP : slB Tryz.prog 40 = some (108, 3, 40) := by kernel_rfl
theorem zyo {B : Nat} {G0 : Gm} {w0 : World} {Gc : Gm} {wc : World} {L : List Row} (hS : Since B G0 w0 Gc wc) (hO : Owns Gc wc B L) {xs : List zdg} {v : Value} (h1 : Sl yR 3 xs Gc v) (hl : xs.length ≤ 1000) :
  Calls Tryz.prog 130 [v].toArray wc (zdX B G0 w0 Gc wc (fun G' L' v => ∃ a c cells, v = .slice a xs.length c ∧ L' = ⟨108, 3, xs.length, .slice a xs.length c, cells⟩ :: L ∧ Rd yR 3 G' cells xs)) := by
 obtain ⟨a1, n1, c1, rfl, h1⟩ := h1
 refine ve (N := 5) (rs := [.tmp 2]) hO.base Tryz.func130 rfl rfl rfl rfl (zc (zb (za (ze (v := .slice none 0 0) rfl) rfl (zd (zc (zb (za (zf (v := .slice a1 n1 c1) rfl) rfl ?_)))))))
 have hO := hO.cons_nil 108 3
 refine zp rfl (qM (k := 0) znP zqy hS hO rfl rfl (Rd.nil yR 3 Gc) h1 (kq [] xs (by simp; omega)) rfl rfl rfl rfl rfl fun a c w1 cells hS hO hr => ?_)
 refine za (ze (v := .slice a xs.length c) rfl) rfl (zd (zH ?_))
 exact ⟨[.slice a xs.length c], ⟨rfl, trivial⟩, Gc, _, Gle.refl _, hS, hO, _, _, _, rfl, rfl, hr⟩
def z49 : List Value := [iV 0, iV 0, iV 0, iV 0, iV 0, iV 0, iV 0, iV 0, iV 0, iV 0, iV 0, iV 0, .slice none 0 0, .slice none 0 0, iV 0, iV 0, iV 0, .slice none 0 0, .slice none 0 0, .slice none 0 0, .slice none 0 0, iV 0, iV 0, iV 0, .slice none 0 0, .slice none 0 0, .slice none 0 0, iV 0, .slice none 0 0, .slice none 0 0, iV 0, iV 0, .slice none 0 0, iV 0, iV 0, iV 0, iV 0, iV 0, iV 0, .slice none 0 0, iV 0, iV 0, iV 0, iV 0, iV 0, iV 0, .slice none 0 0, .slice none 0 0, .slice none 0 0, iV 0, iV 0]
theorem zrn {α : Type} {xs : List α} {i : Nat} (hi : i < xs.length) : jK xs (i : Int) xs[i] = some xs := by
 unfold jK
 rw [if_pos ⟨by omega, by simpa using hi⟩]
 simp
theorem zvG {i : Nat} (h : i < 1000) : IntKind.i64.wrap ((i : Int) + 1) = ((i + 1 : Nat) : Int) := by rw [IntKind.wrap_i64]; omega
def Kl (x : zJ) : Prop := x.Islet.Wells.length ≤ 1000 ∧ x.Islet.Months.length ≤ 1000 ∧ x.Book.People.length ≤ 1000 ∧ x.Book.Events.length ≤ 1000 ∧ x.Book.Memories.length ≤ 1000 ∧ x.Reef.Places.length ≤ 1000 ∧ x.Sea.Infested.length ≤ 1000 ∧ x.Sea.Clean.length ≤ 1000 ∧ x.Sea.Trips.length ≤ 1000 ∧ x.Store.Stock.length ≤ 1000 ∧ x.Store.Use.length ≤ 1000 ∧ x.Store.Lots.length ≤ 1000 ∧ x.System.Loads.length ≤ 1000 ∧ x.Fishing.Roads.length ≤ 1000 ∧ x.Fishing.Zones.length ≤ 1000 ∧ x.Fishing.Berths.length ≤ 1000 ∧ ∀ y ∈ x.Store.Lots, y.Goods.length ≤ 1000
set_option maxHeartbeats 4000000 in
theorem zm0 {G0 : Gm} {w0 : World} (hS0 : Sat G0 w0) {x : zJ} {cc : List Value} (hK : KI x 99 G0 cc) (hk : Kl x) :
  Calls Tryz.prog 47 [.agg cc.toArray].toArray w0 (yP G0 w0 (fun G v => ∃ cc', v = .agg cc'.toArray ∧ KI x 99 G cc')) := by
 have hS := Since.start hS0
 have hO := xw G0 w0
 obtain ⟨z12, z13, z17, z18, z19, z20, z24, z25, z26, z28, z29, z32, z39, z46, z47, z48, zg⟩ := hk
 refine vf (N := 123) (xN _ _ _) [.cell 2 49] Tryz.func47 rfl rfl rfl rfl (zc (zb ?_))
 refine zp rfl (zY (v := fun b => pV b) (cs := cc) (e := 49) (z6 rfl) hS.sat hO rfl 51 1 (by rw [hK.len]) (by decide) fun b w1 hb hO => ?_)
 have hS := hS.keep hb
 refine zp rfl (zY (v := fun b => pV b) (cs := z49) (e := 49) (by kernel_rfl) hS.sat hO rfl 51 1 rfl (by decide) fun b2 w2 hb hO => ?_)
 have hS := hS.keep hb
 have hO : Owns G0 w2 w0.heap.size [yx b2 z49, yx b cc] := hO
 have LE := Gle.refl G0
 refine zd (zc ?_)
 obtain ⟨u12, q12, p12⟩ := hK.get 12 rfl rfl
 obtain ⟨u13, q13, p13⟩ := hK.get 13 rfl rfl
 have hS := hS.keep (zn _)
 have hO := hO.below (zn _)
 refine zQ qA (fun _ w => Sat _ w ∧ Owns _ w w0.heap.size [yx b2 z49, yx b cc]) (.fl 0 (.fl 1 (.fl 2 (.fl 4 (.fl 5 (.fl 6 (.on 3 (.fl 8 (.fl 9 (.on 7 (.on 10 (.on 11 (.on 12 (.on 13 .nil)))))))))))))) (by kernel_rfl) rfl (by kernel_rfl) (fun _ => ⟨hS.sat, hO⟩) ?_
 refine zh rfl (fun w hw => zj zht rfl) rfl (zh rfl (fun w hw => zj zmx rfl) rfl (zh rfl (fun w hw => zk zjw rfl (zx hw.2 (k := 1) rfl (j := 12) q12)) rfl (zh rfl (fun w hw => zj zht rfl) rfl (zh rfl (fun w hw => zj zkD rfl) rfl (zh rfl (fun w hw => zk zzZ rfl (zx hw.2 (k := 1) rfl (j := 13) q13)) rfl (?_))))))
 have le := Gle.refl G0
 refine zt rfl rfl (zS zfh (zfg hS.sat p12 z12) rfl rfl fun v12 G w hg p12 => ?_)
 have hS := hS.grow hg
 have hO := hO.grow hg
 have le := le.trans hg.le
 have LE := LE.trans hg.le
 have hK := hK.mono hg.le
 have p13 := p13.mono xj hg.le
 refine ⟨fun _ _ => ⟨hS.sat.le le, hO.le le⟩, ?_⟩
 refine zh rfl (fun w hw => zj zht rfl) rfl (zh rfl (fun w hw => zj zmx rfl) rfl ?_)
 refine zt rfl rfl (zS zyA (zyt hS.sat p13 z13) rfl rfl fun v13 G w hg p13 => ?_)
 have hS := hS.grow hg
 have hO := hO.grow hg
 have le := le.trans hg.le
 have LE := LE.trans hg.le
 have hK := hK.mono hg.le
 have p12 := p12.mono zm hg.le
 refine ⟨fun _ _ => ⟨hS.sat.le le, hO.le le⟩, ?_⟩
 refine zt rfl rfl (xe (x := x) (e := 99) (e' := 99) (j := 12) (k := 1) zju hS hO rfl rfl rfl rfl p12.one (fun _ => p12) hK (fun i h0 h1 h2 => by omega) fun w cc hS hO hK qq => ⟨fun _ h => zK (by kernel_rfl) h, ?_⟩)
 have hO : Owns _ w w0.heap.size [yx b2 z49, yx b cc] := hO
 refine zt rfl rfl (zA (zj zht rfl) rfl ⟨fun _ h => zK (by kernel_rfl) h, zt rfl rfl (zA (zj zkD rfl) rfl ⟨fun _ h => zK (by kernel_rfl) h, ?_⟩)⟩)
 refine zt rfl rfl (xe (x := x) (e := 99) (e' := 99) (j := 13) (k := 1) zzS hS hO rfl rfl rfl rfl p13.one (fun _ => p13) hK (fun i h0 h1 h2 => by omega) fun w cc hS hO hK qq => ⟨fun _ h => zK (by kernel_rfl) h, ?_⟩)
 have hO : Owns _ w w0.heap.size [yx b2 z49, yx b cc] := hO
 refine qk (zc ?_)
 obtain ⟨u17, q17, p17⟩ := hK.get 17 rfl rfl
 obtain ⟨u18, q18, p18⟩ := hK.get 18 rfl rfl
 obtain ⟨u19, q19, p19⟩ := hK.get 19 rfl rfl
 have hS := hS.keep (zn _)
 have hO := hO.below (zn _)
 refine zQ qA (fun _ w => Sat _ w ∧ Owns _ w w0.heap.size [yx b2 z49, yx b cc]) (.fl 0 (.fl 1 (.fl 2 (.fl 4 (.fl 5 (.fl 6 (.fl 8 (.fl 9 (.fl 10 (.on 3 (.fl 12 (.fl 13 (.on 7 (.on 11 (.on 14 (.on 15 (.on 16 (.on 17 (.on 18 (.on 19 (.on 20 .nil))))))))))))))))))))) (by kernel_rfl) rfl (by kernel_rfl) (fun _ => ⟨hS.sat, hO⟩) ?_
 refine zh rfl (fun w hw => zj zdz rfl) rfl (zh rfl (fun w hw => zj zmw rfl) rfl (zh rfl (fun w hw => zk zzY rfl (zx hw.2 (k := 1) rfl (j := 17) q17)) rfl (zh rfl (fun w hw => zj zdz rfl) rfl (zh rfl (fun w hw => zj zmv rfl) rfl (zh rfl (fun w hw => zk zzX rfl (zx hw.2 (k := 1) rfl (j := 18) q18)) rfl (zh rfl (fun w hw => zj zdz rfl) rfl (zh rfl (fun w hw => zj zmu rfl) rfl (zh rfl (fun w hw => zk zzW rfl (zx hw.2 (k := 1) rfl (j := 19) q19)) rfl (?_)))))))))
 have le := Gle.refl G
 refine zt rfl rfl (zS zyz (zys hS.sat p17 z17) rfl rfl fun v17 G w hg p17 => ?_)
 have hS := hS.grow hg
 have hO := hO.grow hg
 have le := le.trans hg.le
 have LE := LE.trans hg.le
 have hK := hK.mono hg.le
 have p18 := p18.mono yG hg.le
 have p19 := p19.mono yz hg.le
 refine ⟨fun _ _ => ⟨hS.sat.le le, hO.le le⟩, ?_⟩
 refine zh rfl (fun w hw => zj zdz rfl) rfl (zh rfl (fun w hw => zj zmw rfl) rfl ?_)
 refine zt rfl rfl (zS zyy (zyr hS.sat p18 z18) rfl rfl fun v18 G w hg p18 => ?_)
 have hS := hS.grow hg
 have hO := hO.grow hg
 have le := le.trans hg.le
 have LE := LE.trans hg.le
 have hK := hK.mono hg.le
 have p17 := p17.mono yy hg.le
 have p19 := p19.mono yz hg.le
 refine ⟨fun _ _ => ⟨hS.sat.le le, hO.le le⟩, ?_⟩
 refine zt rfl rfl (zS zz4 (zz1 hS.sat p19 z19) rfl rfl fun v19 G w hg p19 => ?_)
 have hS := hS.grow hg
 have hO := hO.grow hg
 have le := le.trans hg.le
 have LE := LE.trans hg.le
 have hK := hK.mono hg.le
 have p17 := p17.mono yy hg.le
 have p18 := p18.mono yG hg.le
 refine ⟨fun _ _ => ⟨hS.sat.le le, hO.le le⟩, ?_⟩
 refine zt rfl rfl (xe (x := x) (e := 99) (e' := 99) (j := 17) (k := 1) zzR hS hO rfl rfl rfl rfl p17.one (fun _ => p17) hK (fun i h0 h1 h2 => by omega) fun w cc hS hO hK qq => ⟨fun _ h => zK (by kernel_rfl) h, ?_⟩)
 have hO : Owns _ w w0.heap.size [yx b2 z49, yx b cc] := hO
 refine zt rfl rfl (zA (zj zdz rfl) rfl ⟨fun _ h => zK (by kernel_rfl) h, zt rfl rfl (zA (zj zmv rfl) rfl ⟨fun _ h => zK (by kernel_rfl) h, ?_⟩)⟩)
 refine zt rfl rfl (xe (x := x) (e := 99) (e' := 99) (j := 18) (k := 1) zzQ hS hO rfl rfl rfl rfl p18.one (fun _ => p18) hK (fun i h0 h1 h2 => by omega) fun w cc hS hO hK qq => ⟨fun _ h => zK (by kernel_rfl) h, ?_⟩)
 have hO : Owns _ w w0.heap.size [yx b2 z49, yx b cc] := hO
 refine zt rfl rfl (zA (zj zdz rfl) rfl ⟨fun _ h => zK (by kernel_rfl) h, zt rfl rfl (zA (zj zmu rfl) rfl ⟨fun _ h => zK (by kernel_rfl) h, ?_⟩)⟩)
 refine zt rfl rfl (xe (x := x) (e := 99) (e' := 99) (j := 19) (k := 1) zzP hS hO rfl rfl rfl rfl p19.one (fun _ => p19) hK (fun i h0 h1 h2 => by omega) fun w cc hS hO hK qq => ⟨fun _ h => zK (by kernel_rfl) h, ?_⟩)
 have hO : Owns _ w w0.heap.size [yx b2 z49, yx b cc] := hO
 refine qk (zc ?_)
 obtain ⟨u20, q20, p20⟩ := hK.get 20 rfl rfl
 refine zb (za (zj zjx rfl) rfl (za (zj zmt rfl) rfl (za (zk zzV rfl (zx hO (k := 1) rfl (j := 20) q20)) rfl ?_)))
 refine zp rfl (zS zyx (zyq hS.sat p20 z20) rfl rfl fun v20 G w hg p20 => ?_)
 have hS := hS.grow hg
 have hO := hO.grow hg
 have LE := LE.trans hg.le
 have hK := hK.mono hg.le
 refine za (zj zjx rfl) rfl (za (zj zmt rfl) rfl ?_)
 refine zp rfl (xe (x := x) (e := 99) (e' := 99) (j := 20) (k := 1) zzO hS hO rfl rfl rfl rfl p20.one (fun _ => p20) hK (fun i h0 h1 h2 => by omega) fun w cc hS hO hK qq => zd (zc ?_))
 have hO : Owns _ w w0.heap.size [yx b2 z49, yx b cc] := hO
 obtain ⟨u24, q24, p24⟩ := hK.get 24 rfl rfl
 obtain ⟨u25, q25, p25⟩ := hK.get 25 rfl rfl
 obtain ⟨u26, q26, p26⟩ := hK.get 26 rfl rfl
 have hS := hS.keep (zn _)
 have hO := hO.below (zn _)
 refine zQ qA (fun _ w => Sat _ w ∧ Owns _ w w0.heap.size [yx b2 z49, yx b cc]) (.fl 0 (.fl 1 (.fl 2 (.fl 4 (.fl 5 (.fl 6 (.fl 8 (.fl 9 (.fl 10 (.on 3 (.fl 12 (.fl 13 (.on 7 (.on 11 (.on 14 (.on 15 (.on 16 (.on 17 (.on 18 (.on 19 (.on 20 .nil))))))))))))))))))))) (by kernel_rfl) rfl (by kernel_rfl) (fun _ => ⟨hS.sat, hO⟩) ?_
 refine zh rfl (fun w hw => zj zdy rfl) rfl (zh rfl (fun w hw => zj zms rfl) rfl (zh rfl (fun w hw => zk zjw rfl (zx hw.2 (k := 1) rfl (j := 24) q24)) rfl (zh rfl (fun w hw => zj zdy rfl) rfl (zh rfl (fun w hw => zj zmr rfl) rfl (zh rfl (fun w hw => zk zjw rfl (zx hw.2 (k := 1) rfl (j := 25) q25)) rfl (zh rfl (fun w hw => zj zdy rfl) rfl (zh rfl (fun w hw => zj zmq rfl) rfl (zh rfl (fun w hw => zk zzU rfl (zx hw.2 (k := 1) rfl (j := 26) q26)) rfl (?_)))))))))
 have le := Gle.refl G
 refine zt rfl rfl (zS zfh (zfg hS.sat p24 z24) rfl rfl fun v24 G w hg p24 => ?_)
 have hS := hS.grow hg
 have hO := hO.grow hg
 have le := le.trans hg.le
 have LE := LE.trans hg.le
 have hK := hK.mono hg.le
 have p25 := p25.mono zm hg.le
 have p26 := p26.mono yS hg.le
 refine ⟨fun _ _ => ⟨hS.sat.le le, hO.le le⟩, ?_⟩
 refine zh rfl (fun w hw => zj zdy rfl) rfl (zh rfl (fun w hw => zj zms rfl) rfl ?_)
 refine zt rfl rfl (zS zfh (zfg hS.sat p25 z25) rfl rfl fun v25 G w hg p25 => ?_)
 have hS := hS.grow hg
 have hO := hO.grow hg
 have le := le.trans hg.le
 have LE := LE.trans hg.le
 have hK := hK.mono hg.le
 have p24 := p24.mono zm hg.le
 have p26 := p26.mono yS hg.le
 refine ⟨fun _ _ => ⟨hS.sat.le le, hO.le le⟩, ?_⟩
 refine zt rfl rfl (zS zyw (zyp hS.sat p26 z26) rfl rfl fun v26 G w hg p26 => ?_)
 have hS := hS.grow hg
 have hO := hO.grow hg
 have le := le.trans hg.le
 have LE := LE.trans hg.le
 have hK := hK.mono hg.le
 have p24 := p24.mono zm hg.le
 have p25 := p25.mono zm hg.le
 refine ⟨fun _ _ => ⟨hS.sat.le le, hO.le le⟩, ?_⟩
 refine zt rfl rfl (xe (x := x) (e := 99) (e' := 99) (j := 24) (k := 1) zju hS hO rfl rfl rfl rfl p24.one (fun _ => p24) hK (fun i h0 h1 h2 => by omega) fun w cc hS hO hK qq => ⟨fun _ h => zK (by kernel_rfl) h, ?_⟩)
 have hO : Owns _ w w0.heap.size [yx b2 z49, yx b cc] := hO
 refine zt rfl rfl (zA (zj zdy rfl) rfl ⟨fun _ h => zK (by kernel_rfl) h, zt rfl rfl (zA (zj zmr rfl) rfl ⟨fun _ h => zK (by kernel_rfl) h, ?_⟩)⟩)
 refine zt rfl rfl (xe (x := x) (e := 99) (e' := 99) (j := 25) (k := 1) zju hS hO rfl rfl rfl rfl p25.one (fun _ => p25) hK (fun i h0 h1 h2 => by omega) fun w cc hS hO hK qq => ⟨fun _ h => zK (by kernel_rfl) h, ?_⟩)
 have hO : Owns _ w w0.heap.size [yx b2 z49, yx b cc] := hO
 refine zt rfl rfl (zA (zj zdy rfl) rfl ⟨fun _ h => zK (by kernel_rfl) h, zt rfl rfl (zA (zj zmq rfl) rfl ⟨fun _ h => zK (by kernel_rfl) h, ?_⟩)⟩)
 refine zt rfl rfl (xe (x := x) (e := 99) (e' := 99) (j := 26) (k := 1) zzN hS hO rfl rfl rfl rfl p26.one (fun _ => p26) hK (fun i h0 h1 h2 => by omega) fun w cc hS hO hK qq => ⟨fun _ h => zK (by kernel_rfl) h, ?_⟩)
 have hO : Owns _ w w0.heap.size [yx b2 z49, yx b cc] := hO
 refine qk (zc ?_)
 obtain ⟨u28, q28, p28⟩ := hK.get 28 rfl rfl
 obtain ⟨u29, q29, p29⟩ := hK.get 29 rfl rfl
 obtain ⟨u32, q32, p32⟩ := hK.get 32 rfl rfl
 have hS := hS.keep (zn _)
 have hO := hO.below (zn _)
 refine zQ qA (fun _ w => Sat _ w ∧ Owns _ w w0.heap.size [yx b2 z49, yx b cc]) (.fl 0 (.fl 1 (.fl 2 (.fl 4 (.fl 5 (.fl 6 (.fl 8 (.fl 9 (.fl 10 (.on 3 (.fl 12 (.fl 13 (.on 7 (.on 11 (.on 14 (.on 15 (.on 16 (.on 17 (.on 18 (.on 19 (.on 20 .nil))))))))))))))))))))) (by kernel_rfl) rfl (by kernel_rfl) (fun _ => ⟨hS.sat, hO⟩) ?_
 refine zh rfl (fun w hw => zj zao rfl) rfl (zh rfl (fun w hw => zj zmp rfl) rfl (zh rfl (fun w hw => zk zjw rfl (zx hw.2 (k := 1) rfl (j := 28) q28)) rfl (zh rfl (fun w hw => zj zao rfl) rfl (zh rfl (fun w hw => zj zmo rfl) rfl (zh rfl (fun w hw => zk zpE rfl (zx hw.2 (k := 1) rfl (j := 29) q29)) rfl (zh rfl (fun w hw => zj zao rfl) rfl (zh rfl (fun w hw => zj zff rfl) rfl (zh rfl (fun w hw => zk znO rfl (zx hw.2 (k := 1) rfl (j := 32) q32)) rfl (?_)))))))))
 have le := Gle.refl G
 refine zt rfl rfl (zS zfh (zfg hS.sat p28 z28) rfl rfl fun v28 G w hg p28 => ?_)
 have hS := hS.grow hg
 have hO := hO.grow hg
 have le := le.trans hg.le
 have LE := LE.trans hg.le
 have hK := hK.mono hg.le
 have p29 := p29.mono yp hg.le
 have p32 := p32.mono ym hg.le
 refine ⟨fun _ _ => ⟨hS.sat.le le, hO.le le⟩, ?_⟩
 refine zh rfl (fun w hw => zj zao rfl) rfl (zh rfl (fun w hw => zj zmp rfl) rfl ?_)
 refine zt rfl rfl (zS zos (zor hS.sat p29 z29) rfl rfl fun v29 G w hg p29 => ?_)
 have hS := hS.grow hg
 have hO := hO.grow hg
 have le := le.trans hg.le
 have LE := LE.trans hg.le
 have hK := hK.mono hg.le
 have p28 := p28.mono zm hg.le
 have p32 := p32.mono ym hg.le
 refine ⟨fun _ _ => ⟨hS.sat.le le, hO.le le⟩, ?_⟩
 refine zt rfl rfl (yq (fi := []) (al := [_]) (ca := []) zyv (zyo hS hO p32 z32) rfl rfl rfl fun v32 G w L le1 hS hO hv => ?_)
 obtain ⟨aL, cL, lc, rfl, rfl, hrl⟩ := hv
 have le := le.trans le1
 have LE := LE.trans le1
 have hK := hK.mono le1
 have p28 := p28.mono zm le1
 have p29 := p29.mono yp le1
 refine ⟨fun _ _ => ⟨hS.sat.le le, (hO.drop 0).le le⟩, ?_⟩
 refine zt rfl rfl (xe (x := x) (e := 99) (e' := 99) (j := 28) (k := 2) zju hS hO rfl rfl rfl rfl p28.one (fun _ => p28) hK (fun i h0 h1 h2 => by omega) fun w cc hS hO hK qq => ⟨fun _ h => zK (by kernel_rfl) h, ?_⟩)
 have hO : Owns _ w w0.heap.size [⟨108, 3, x.Store.Lots.length, .slice aL x.Store.Lots.length cL, lc⟩, yx b2 z49, yx b cc] := hO
 refine zt rfl rfl (zA (zj zao rfl) rfl ⟨fun _ h => zK (by kernel_rfl) h, zt rfl rfl (zA (zj zmo rfl) rfl ⟨fun _ h => zK (by kernel_rfl) h, ?_⟩)⟩)
 refine zt rfl rfl (xe (x := x) (e := 99) (e' := 99) (j := 29) (k := 2) zpD hS hO rfl rfl rfl rfl p29.one (fun _ => p29) hK (fun i h0 h1 h2 => by omega) fun w cc hS hO hK qq => ⟨fun _ h => zK (by kernel_rfl) h, ?_⟩)
 have hO : Owns _ w w0.heap.size [⟨108, 3, x.Store.Lots.length, .slice aL x.Store.Lots.length cL, lc⟩, yx b2 z49, yx b cc] := hO
 refine zt rfl rfl (zA (zj zao rfl) rfl ⟨fun _ h => zK (by kernel_rfl) h, zt rfl rfl (zA (zj zff rfl) rfl ⟨fun _ h => zK (by kernel_rfl) h, ?_⟩)⟩)
 refine zt rfl rfl (xe (x := x) (e := 99) (e' := 32) (j := 32) (k := 2) zzM hS hO rfl rfl rfl rfl ⟨rfl, rfl⟩ (fun h => absurd rfl h) hK (fun i h0 h1 h2 => by omega) fun w cc hS hO hK qq => ⟨fun _ h => zK (by kernel_rfl) h, ?_⟩)
 have hO : Owns _ w w0.heap.size [⟨108, 3, x.Store.Lots.length, .slice aL x.Store.Lots.length cL, lc⟩, yx b2 z49, yx b cc] := hO
 refine qk (zc (zc (zb ?_)))
 refine za (zj zao rfl) rfl (za (zj zff rfl) rfl (za (zk znO rfl (zx hO (k := 2) rfl (j := 32) qq)) rfl (za (qu znP rfl rfl rfl) rfl (za (zf (v := iV 0) rfl) rfl (zd ?_)))))
 refine qx (fun F w => ∃ Fb G cc, F = qC Fb [(1, pV b), (2, pV b2)] ∧ Gle G0 G ∧ Since w0.heap.size G0 w0 G w ∧ Owns G w w0.heap.size [yx b2 z49, yx b cc] ∧ KI x 99 G cc) ?_ ?_
 ·refine zB (qZ (qJ x.Store.Lots.length (fun i F w => ∃ Fb G lc, F = qC Fb [(1, pV b), (2, pV b2), (79, iV (x.Store.Lots.length : Int)), (80, iV i)] ∧ Gle G0 G ∧ Since w0.heap.size G0 w0 G w ∧ Owns G w w0.heap.size [⟨108, 3, x.Store.Lots.length, .slice aL x.Store.Lots.length cL, lc⟩, yx b2 z49, yx b cc] ∧ KI x 32 G cc ∧ Rd yR 3 G lc x.Store.Lots) ?_ ?_ x.Store.Lots.length 0 _ _ (by omega) ⟨_, _, lc, zi _ _ ⟨rfl, rfl, rfl, rfl, trivial⟩, LE, hS, hO, hK, hrl⟩))
  ·rintro i F w hi ⟨Fb, G, lc, rfl, LE, hS, hO, hK, hrl⟩
   have hix : ix x.Store.Lots (i : Int) = some x.Store.Lots[i] := by simp [ix, List.getElem?_eq_getElem hi]
   refine zc (zb (za (qa rfl rfl) rfl (zd (zc (qf (decide ((i : Int) < (x.Store.Lots.length : Int))) (by simpa using hi) rfl (zD ?_))))))
   refine zc (zB (zc (zb (za (zf (v := iV i) rfl) rfl (za (ze (v := iV i) rfl) rfl (zd ?_))))))
   have hS := hS.keep (zn _)
   have hO := hO.below (zn _)
   refine zQ qA (fun _ w => Sat G w ∧ Owns G w w0.heap.size [⟨108, 3, x.Store.Lots.length, .slice aL x.Store.Lots.length cL, lc⟩, yx b2 z49, yx b cc]) (.fl 0 (.fl 1 (.fl 2 (.fl 3 (.fl 4 (.fl 5 (.fl 6 (.fl 7 (.fl 8 (.fl 9 (.fl 10 (.on 11 (.on 12 (.on 13 (.on 14 .nil))))))))))))))) (by kernel_rfl) rfl (by kernel_rfl) (fun _ => ⟨hS.sat, hO⟩) ?_
   refine zh rfl (fun w hw => zj zao rfl) rfl (zh rfl (fun w hw => zj zff rfl) rfl (zh rfl (fun w hw => zk znO rfl (zx hw.2 (k := 2) rfl (j := 32) qq)) rfl (zh rfl (fun w hw => zf rfl) rfl (zh rfl (fun w hw => zj zao rfl) rfl (zh rfl (fun w hw => zj zff rfl) rfl (zh rfl (fun w hw => zk znO rfl (zx hw.2 (k := 2) rfl (j := 32) qq)) rfl (zh rfl (fun w hw => zf rfl) rfl ?_)))))))
   refine zbL (k := 0) rfl znP hO rfl rfl hrl hix rfl rfl rfl fun g o cs ha hcl hcc hR => ?_
   obtain ⟨ag, ng, cg, rfl, hgs⟩ := hR
   refine zh rfl (fun w hw => zj zmi rfl) rfl (zh rfl (fun w hw => zk zpE rfl (jQ hw.2 (k := 0) rfl ha (i * 3) 0 (hcc 0 _ rfl))) rfl ?_)
   refine zt rfl rfl (zS zos (zor hS.sat ⟨ag, ng, cg, rfl, hgs⟩ (zg _ (List.getElem_mem hi))) rfl rfl fun v G1 w1 hg hv => ?_)
   have hS := hS.grow hg
   have hO := hO.grow hg
   have LE := LE.trans hg.le
   have hK := hK.mono hg.le
   have hrl := hrl.mono ym hg.le
   refine ⟨fun _ _ => ⟨hS.sat.le hg.le, hO.le hg.le⟩, ?_⟩
   refine zt rfl rfl (zja (k := 0) znP hO rfl rfl hrl hix rfl rfl rfl fun g2 o2 cs2 ha2 hcl2 hcc2 hR2 => ⟨fun _ h => zK (by kernel_rfl) h, ?_⟩)
   refine zt rfl rfl (zA (zj zmi rfl) rfl ⟨fun _ h => zK (by kernel_rfl) h, ?_⟩)
   obtain ⟨av, nv, cv, rfl, hvs⟩ := hv
   refine zt rfl rfl (jp (vs := [.slice av nv cv]) (k := 0) (j := 0) (i := (i : Int)) (y := x.Store.Lots[i]) zpD hS hO rfl rfl rfl hrl ha2 hcl2 hcc2 (zrn hi) ?_ rfl rfl rfl rfl (zR rfl) (Nat.le_of_ble_eq_true rfl) fun w2 lc2 hS hO hrl2 => ⟨fun _ h => zK (by kernel_rfl) h, qk ?_⟩)
   ·obtain ⟨_, _, _, rfl, _⟩ := hR2
    exact ⟨av, nv, cv, rfl, hvs⟩
   ·refine zb (za (qO rfl rfl) rfl (za (zf (v := iV (IntKind.i64.wrap ((i : Int) + 1))) rfl) rfl (zd ?_)))
    exact ⟨_, G1, lc2, zi _ _ ⟨rfl, rfl, rfl, congrArg iV (zvG (by omega)), trivial⟩, LE, hS, hO, hK, hrl2⟩
  ·rintro F w ⟨Fb, G, lc, rfl, LE, hS, hO, hK, hrl⟩
   refine qP (zc (zb (za (qa rfl rfl) rfl (zd (zc (zV _ (show decide ((x.Store.Lots.length : Int) < (x.Store.Lots.length : Int)) = false by simp) rfl (ql rfl ?_)))))))
   obtain ⟨G1, le1, hS, hO, hr⟩ := hO.freezeS hS ym (k := 0) rfl hrl rfl
   refine ⟨_, G1, cc, zi _ _ ⟨rfl, rfl, trivial⟩, LE.trans le1, hS, hO, hK.len, fun j v hj => ⟨(hK.at' j v hj).1, fun _ => ?_⟩⟩
   by_cases h32 : j = 32
   ·subst h32
    rw [qq] at hj
    cases hj
    exact ⟨_, _, _, rfl, hr⟩
   ·exact zlv le1 ((hK.at' j v hj).2 h32)
 rintro F w ⟨Fb, G, cc, rfl, LE, hS, hO, hK⟩
 refine zc ?_
 obtain ⟨u39, q39, p39⟩ := hK.get 39 rfl rfl
 refine zb (za (zj zmj rfl) rfl (za (zj zmn rfl) rfl (za (zk zzT rfl (zx hO (k := 1) rfl (j := 39) q39)) rfl ?_)))
 refine zp rfl (zS zyu (zyn hS.sat p39 z39) rfl rfl fun v39 G w hg p39 => ?_)
 have hS := hS.grow hg
 have hO := hO.grow hg
 have LE := LE.trans hg.le
 have hK := hK.mono hg.le
 refine za (zj zmj rfl) rfl (za (zj zmn rfl) rfl ?_)
 refine zp rfl (xe (x := x) (e := 99) (e' := 99) (j := 39) (k := 1) zzL hS hO rfl rfl rfl rfl p39.one (fun _ => p39) hK (fun i h0 h1 h2 => by omega) fun w cc hS hO hK qq => zd (zc ?_))
 have hO : Owns _ w w0.heap.size [yx b2 z49, yx b cc] := hO
 obtain ⟨u46, q46, p46⟩ := hK.get 46 rfl rfl
 obtain ⟨u47, q47, p47⟩ := hK.get 47 rfl rfl
 obtain ⟨u48, q48, p48⟩ := hK.get 48 rfl rfl
 have hS := hS.keep (zn _)
 have hO := hO.below (zn _)
 refine zQ qA (fun _ w => Sat _ w ∧ Owns _ w w0.heap.size [yx b2 z49, yx b cc]) (.fl 0 (.fl 1 (.fl 2 (.fl 4 (.fl 5 (.fl 6 (.fl 8 (.fl 9 (.fl 10 (.on 3 (.fl 12 (.fl 13 (.on 7 (.on 11 (.on 14 (.on 15 (.on 16 (.on 17 (.on 18 (.on 19 (.on 20 .nil))))))))))))))))))))) (by kernel_rfl) rfl (by kernel_rfl) (fun _ => ⟨hS.sat, hO⟩) ?_
 refine zh rfl (fun w hw => zj zdx rfl) rfl (zh rfl (fun w hw => zj zmm rfl) rfl (zh rfl (fun w hw => zk zjw rfl (zx hw.2 (k := 1) rfl (j := 46) q46)) rfl (zh rfl (fun w hw => zj zdx rfl) rfl (zh rfl (fun w hw => zj zml rfl) rfl (zh rfl (fun w hw => zk zjw rfl (zx hw.2 (k := 1) rfl (j := 47) q47)) rfl (zh rfl (fun w hw => zj zdx rfl) rfl (zh rfl (fun w hw => zj zmk rfl) rfl (zh rfl (fun w hw => zk zjw rfl (zx hw.2 (k := 1) rfl (j := 48) q48)) rfl (?_)))))))))
 have le := Gle.refl G
 refine zt rfl rfl (zS zfh (zfg hS.sat p46 z46) rfl rfl fun v46 G w hg p46 => ?_)
 have hS := hS.grow hg
 have hO := hO.grow hg
 have le := le.trans hg.le
 have LE := LE.trans hg.le
 have hK := hK.mono hg.le
 have p47 := p47.mono zm hg.le
 have p48 := p48.mono zm hg.le
 refine ⟨fun _ _ => ⟨hS.sat.le le, hO.le le⟩, ?_⟩
 refine zh rfl (fun w hw => zj zdx rfl) rfl (zh rfl (fun w hw => zj zmm rfl) rfl ?_)
 refine zt rfl rfl (zS zfh (zfg hS.sat p47 z47) rfl rfl fun v47 G w hg p47 => ?_)
 have hS := hS.grow hg
 have hO := hO.grow hg
 have le := le.trans hg.le
 have LE := LE.trans hg.le
 have hK := hK.mono hg.le
 have p46 := p46.mono zm hg.le
 have p48 := p48.mono zm hg.le
 refine ⟨fun _ _ => ⟨hS.sat.le le, hO.le le⟩, ?_⟩
 refine zt rfl rfl (zS zfh (zfg hS.sat p48 z48) rfl rfl fun v48 G w hg p48 => ?_)
 have hS := hS.grow hg
 have hO := hO.grow hg
 have le := le.trans hg.le
 have LE := LE.trans hg.le
 have hK := hK.mono hg.le
 have p46 := p46.mono zm hg.le
 have p47 := p47.mono zm hg.le
 refine ⟨fun _ _ => ⟨hS.sat.le le, hO.le le⟩, ?_⟩
 refine zt rfl rfl (xe (x := x) (e := 99) (e' := 99) (j := 46) (k := 1) zju hS hO rfl rfl rfl rfl p46.one (fun _ => p46) hK (fun i h0 h1 h2 => by omega) fun w cc hS hO hK qq => ⟨fun _ h => zK (by kernel_rfl) h, ?_⟩)
 have hO : Owns _ w w0.heap.size [yx b2 z49, yx b cc] := hO
 refine zt rfl rfl (zA (zj zdx rfl) rfl ⟨fun _ h => zK (by kernel_rfl) h, zt rfl rfl (zA (zj zml rfl) rfl ⟨fun _ h => zK (by kernel_rfl) h, ?_⟩)⟩)
 refine zt rfl rfl (xe (x := x) (e := 99) (e' := 99) (j := 47) (k := 1) zju hS hO rfl rfl rfl rfl p47.one (fun _ => p47) hK (fun i h0 h1 h2 => by omega) fun w cc hS hO hK qq => ⟨fun _ h => zK (by kernel_rfl) h, ?_⟩)
 have hO : Owns _ w w0.heap.size [yx b2 z49, yx b cc] := hO
 refine zt rfl rfl (zA (zj zdx rfl) rfl ⟨fun _ h => zK (by kernel_rfl) h, zt rfl rfl (zA (zj zmk rfl) rfl ⟨fun _ h => zK (by kernel_rfl) h, ?_⟩)⟩)
 refine zt rfl rfl (xe (x := x) (e := 99) (e' := 99) (j := 48) (k := 1) zju hS hO rfl rfl rfl rfl p48.one (fun _ => p48) hK (fun i h0 h1 h2 => by omega) fun w cc hS hO hK qq => ⟨fun _ h => zK (by kernel_rfl) h, ?_⟩)
 have hO : Owns _ w w0.heap.size [yx b2 z49, yx b cc] := hO
 refine qk (zc ?_)
 have cA : ∀ j v, cc[j]? = some v → w.cell? ⟨b, 0 + j, none⟩ = some v := fun j v hj => by rw [Nat.zero_add]; exact zx hO (k := 1) rfl hj
 refine zb (za (zw (cs := cc) zcU rfl hK.len cA) rfl ?_)
 refine zp rfl (zM (vs := cc) zzK hS hO (k := 0) rfl rfl rfl rfl hK.len (fun u hu => ?_) (by rw [hK.len]; exact Nat.le_refl _) fun w hS hO => zd (zH ?_))
 ·obtain ⟨j, hj⟩ := List.getElem?_of_mem hu
  exact (hK.at' j u hj).1
 ·have e : qX z49 0 cc = cc := by
   unfold qX
   rw [List.take_zero, List.nil_append, List.drop_eq_nil_of_le (by rw [hK.len]; exact Nat.le_refl _), List.append_nil]
  rw [e] at hO
  have cB : ∀ j v, cc[j]? = some v → w.cell? ⟨b2, 0 + j, none⟩ = some v := fun j v hj => by rw [Nat.zero_add]; exact zx hO (k := 0) rfl hj
  exact ⟨[.agg cc.toArray], ⟨⟨_, rfl, zam (cs := cc) zcU hK.len cB⟩, trivial⟩, _, _, rfl, hS.toGrow, cc, rfl, hK⟩
end Go.Proofs.YtcapocmenjcnhaaGreatDoor
