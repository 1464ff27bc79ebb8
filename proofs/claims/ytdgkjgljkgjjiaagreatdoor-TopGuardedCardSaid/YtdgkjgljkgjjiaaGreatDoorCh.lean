/-
  The council: an atoll is kept in new memory. (Printed by mkkept.py.)
-/
import Derived.Test.YtdgkjgljkgjjiaaGreatDoorGh
namespace Go.Proofs.YtdgkjgljkgjjiaaGreatDoor
open Go.RowKit
set_option linter.unusedVariables false
set_option maxRecDepth 20000
/-- a list of a memory that stays -/
def Sl {α : Type} (R : Gm → List Value → α → Prop) (sz : Nat) (l : List α) (G : Gm) (v : Value) : Prop := ∃ a n c, v = .slice a n c ∧ RSl R sz G a n c l
theorem Sl.one {α : Type} {R : Gm → List Value → α → Prop} {sz : Nat} {l : List α} {G : Gm} {v : Value} (h : Sl R sz l G v) : v.oneCell' = true ∧ v.cells.toList = [v] := by
  obtain ⟨a, n, c, rfl, _⟩ := h; exact ⟨rfl, rfl⟩
theorem Sl.mono {α : Type} {R : Gm → List Value → α → Prop} {sz : Nat} {l : List α} {G G' : Gm} {v : Value} (hR : Mono R) (h : Sl R sz l G v) (hle : Gle G G') : Sl R sz l G' v := by
  obtain ⟨a, n, c, rfl, h⟩ := h; exact ⟨a, n, c, rfl, h.mono hR hle⟩
/-- what the cells of an atoll hold -/
def KQ (x : TCouncilAtoll) : Nat → Gm → Value → Prop
  | 12 => Sl RInt 1 x.Islet.Wells
  | 13 => Sl RTLensMonth 6 x.Islet.Months
  | 17 => Sl RTLandPerson 2 x.Book.People
  | 18 => Sl RTLandEvent 2 x.Book.Events
  | 19 => Sl RTLandMemory 4 x.Book.Memories
  | 20 => Sl RTReefPlace 12 x.Reef.Places
  | 24 => Sl RInt 1 x.Sea.Infested
  | 25 => Sl RInt 1 x.Sea.Clean
  | 26 => Sl RTBaneTrip 4 x.Sea.Trips
  | 28 => Sl RInt 1 x.Store.Stock
  | 29 => Sl RTSpan 2 x.Store.Use
  | 32 => Sl RTShipLot 3 x.Store.Lots
  | 39 => Sl RTCellLoad 3 x.System.Loads
  | 46 => Sl RInt 1 x.Fishing.Roads
  | 47 => Sl RInt 1 x.Fishing.Zones
  | 48 => Sl RInt 1 x.Fishing.Berths
  | 23 => fun _ v => v = iV x.Sea.Islets
  | 27 => fun _ v => v = iV x.Sea.Wait
  | 50 => fun _ v => v = iV x.Money
  | _ => fun _ _ => True
theorem KQ_mono {x : TCouncilAtoll} {G G' : Gm} {v : Value} (hle : Gle G G') : ∀ {j : Nat}, KQ x j G v → KQ x j G' v := by
  intro j
  unfold KQ
  split
  · exact fun h => h.mono RInt_mono hle
  · exact fun h => h.mono RTLensMonth_mono hle
  · exact fun h => h.mono RTLandPerson_mono hle
  · exact fun h => h.mono RTLandEvent_mono hle
  · exact fun h => h.mono RTLandMemory_mono hle
  · exact fun h => h.mono RTReefPlace_mono hle
  · exact fun h => h.mono RInt_mono hle
  · exact fun h => h.mono RInt_mono hle
  · exact fun h => h.mono RTBaneTrip_mono hle
  · exact fun h => h.mono RInt_mono hle
  · exact fun h => h.mono RTSpan_mono hle
  · exact fun h => h.mono RTShipLot_mono hle
  · exact fun h => h.mono RTCellLoad_mono hle
  · exact fun h => h.mono RInt_mono hle
  · exact fun h => h.mono RInt_mono hle
  · exact fun h => h.mono RInt_mono hle
  · exact fun h => h
  · exact fun h => h
  · exact fun h => h
  · exact fun _ => trivial
structure KI (x : TCouncilAtoll) (e : Nat) (G : Gm) (cc : List Value) : Prop where
  len : cc.length = 51
  at' : ∀ j v, cc[j]? = some v → v.oneCell' = true ∧ (j ≠ e → KQ x j G v)
theorem KI.mono {x : TCouncilAtoll} {e : Nat} {G G' : Gm} {cc : List Value} (h : KI x e G cc) (hle : Gle G G') : KI x e G' cc := ⟨h.len, fun j v hj => ⟨(h.at' j v hj).1, fun hn => KQ_mono hle ((h.at' j v hj).2 hn)⟩⟩
theorem KI.get {x : TCouncilAtoll} {e : Nat} {G : Gm} {cc : List Value} (h : KI x e G cc) (j : Nat) (hj : Nat.blt j 51 = true) (he : Nat.beq j e = false) : ∃ v, cc[j]? = some v ∧ KQ x j G v := by
  have hj' : j < cc.length := by rw [h.len]; simpa [Nat.blt_eq] using hj
  exact ⟨cc[j], List.getElem?_eq_getElem hj', (h.at' j _ (List.getElem?_eq_getElem hj')).2 (Nat.ne_of_beq_eq_false he)⟩
theorem KI.set {x : TCouncilAtoll} {e e' j : Nat} {G : Gm} {cc : List Value} {v : Value} (h : KI x e G cc) (hj : j < 51) (h1 : v.oneCell' = true) (hv : j ≠ e' → KQ x j G v) (he : ∀ i, i < 51 → i ≠ j → i ≠ e' → i ≠ e) : KI x e' G (splice cc j [v]) := by
  have hf : j + [v].length ≤ cc.length := by rw [h.len]; exact hj
  refine ⟨by rw [splice_length hf, h.len], fun i u hi => ?_⟩
  rw [splice_at hf] at hi
  by_cases hij : i = j
  · subst hij
    rw [if_pos ⟨Nat.le_refl _, by simp⟩] at hi
    simp at hi; subst hi
    exact ⟨h1, hv⟩
  · rw [if_neg (by simp; omega)] at hi
    have := h.at' i u hi
    exact ⟨this.1, fun hn => this.2 (he i (by rw [← h.len]; exact (List.getElem?_eq_some_iff.1 hi).1) hij hn)⟩
abbrev rowK (b : Nat) (cc : List Value) : Row := ⟨49, 51, 1, .slice (some ⟨b, 0, none⟩) 1 1, cc⟩
section
variable {κ : Ctx} {p : List PanicEntry → Fr → World → Prop} {N : Nat} {F : Fr} {w : World} {K : Fr → World → Prop} {ty : TypeId} {pos : String} {af : Array Edge} {G0 G : Gm} {w0 : World} {B : Nat} {L : List Row} {gd : Option (Nat × Bool)}
theorem OpP_put {x : TCouncilAtoll} {e e' T j k b : Nat} {X Y : Operand} {cc : List Value} {v : Value} (hT : szB Tryz.prog T = some 1) (hS : Since B G0 w0 G w) (hO : Owns G w B L) (hk : L[k]? = some (rowK b cc)) (hX : ev F X = .pointer (some ⟨b, j, none⟩)) (hY : ev F Y = v)
    (hj : Nat.blt j 51 = true) (h1 : v.oneCell' = true ∧ v.cells.toList = [v]) (hv : j ≠ e' → KQ x j G v) (hK : KI x e G cc) (he : ∀ i, i < 51 → i ≠ j → i ≠ e' → i ≠ e)
    (h : ∀ w' cc', Since B G0 w0 G w' → Owns G w' B (L.set k (rowK b cc')) → KI x e' G cc' → cc'[j]? = some v → K F w') : OpP κ Tryz.prog N p ⟨none, .store T X Y, ty, pos, af, gd⟩ F w K := by
  have hj' : j < 51 := by simpa [Nat.blt_eq] using hj
  have hf : j + [v].length ≤ cc.length := by rw [hK.len]; exact hj'
  refine OpP_store (vs := [v]) hT hS hO hk hX hY h1.2 rfl (one_all (by simp [h1.1])) hf fun w' hS hO => ?_
  exact h w' _ hS hO (hK.set hj' h1.1 hv he) (by rw [splice_at hf, if_pos ⟨Nat.le_refl _, by simp⟩]; simp)
end
theorem kb108 : callB Tryz.prog 97 = true := by kernel_rfl
theorem kc108 {G : Gm} {w : World} {l : List Int} {v : Value} (hS : Sat G w) (h : Sl RInt 1 l G v) (hl : l.length ≤ 1000) : Calls Tryz.prog 97 [v].toArray w (RetG G w (Sl RInt 1 l)) := by
  obtain ⟨a, n, cp, rfl, h⟩ := h
  exact f97_ok hS h (r := l) (by unfold f97; rw [app_s [] l (by simp; omega)]; rfl)
theorem kb109 : callB Tryz.prog 127 = true := by kernel_rfl
theorem kc109 {G : Gm} {w : World} {l : List TLensMonth} {v : Value} (hS : Sat G w) (h : Sl RTLensMonth 6 l G v) (hl : l.length ≤ 1000) : Calls Tryz.prog 127 [v].toArray w (RetG G w (Sl RTLensMonth 6 l)) := by
  obtain ⟨a, n, cp, rfl, h⟩ := h
  exact f127_ok hS h (r := l) (by unfold f127; rw [app_s [] l (by simp; omega)]; rfl)
theorem kb110 : callB Tryz.prog 128 = true := by kernel_rfl
theorem kc110 {G : Gm} {w : World} {l : List TLandPerson} {v : Value} (hS : Sat G w) (h : Sl RTLandPerson 2 l G v) (hl : l.length ≤ 1000) : Calls Tryz.prog 128 [v].toArray w (RetG G w (Sl RTLandPerson 2 l)) := by
  obtain ⟨a, n, cp, rfl, h⟩ := h
  exact f128_ok hS h (r := l) (by unfold f128; rw [app_s [] l (by simp; omega)]; rfl)
theorem kb111 : callB Tryz.prog 129 = true := by kernel_rfl
theorem kc111 {G : Gm} {w : World} {l : List TLandEvent} {v : Value} (hS : Sat G w) (h : Sl RTLandEvent 2 l G v) (hl : l.length ≤ 1000) : Calls Tryz.prog 129 [v].toArray w (RetG G w (Sl RTLandEvent 2 l)) := by
  obtain ⟨a, n, cp, rfl, h⟩ := h
  exact f129_ok hS h (r := l) (by unfold f129; rw [app_s [] l (by simp; omega)]; rfl)
theorem kb30 : callB Tryz.prog 130 = true := by kernel_rfl
theorem kc30 {G : Gm} {w : World} {l : List TLandMemory} {v : Value} (hS : Sat G w) (h : Sl RTLandMemory 4 l G v) (hl : l.length ≤ 1000) : Calls Tryz.prog 130 [v].toArray w (RetG G w (Sl RTLandMemory 4 l)) := by
  obtain ⟨a, n, cp, rfl, h⟩ := h
  exact f130_ok hS h (r := l) (by unfold f130; rw [app_s [] l (by simp; omega)]; rfl)
theorem kb112 : callB Tryz.prog 131 = true := by kernel_rfl
theorem kc112 {G : Gm} {w : World} {l : List TReefPlace} {v : Value} (hS : Sat G w) (h : Sl RTReefPlace 12 l G v) (hl : l.length ≤ 1000) : Calls Tryz.prog 131 [v].toArray w (RetG G w (Sl RTReefPlace 12 l)) := by
  obtain ⟨a, n, cp, rfl, h⟩ := h
  exact f131_ok hS h (r := l) (by unfold f131; rw [app_s [] l (by simp; omega)]; rfl)
theorem kb113 : callB Tryz.prog 132 = true := by kernel_rfl
theorem kc113 {G : Gm} {w : World} {l : List TBaneTrip} {v : Value} (hS : Sat G w) (h : Sl RTBaneTrip 4 l G v) (hl : l.length ≤ 1000) : Calls Tryz.prog 132 [v].toArray w (RetG G w (Sl RTBaneTrip 4 l)) := by
  obtain ⟨a, n, cp, rfl, h⟩ := h
  exact f132_ok hS h (r := l) (by unfold f132; rw [app_s [] l (by simp; omega)]; rfl)
theorem kb114 : callB Tryz.prog 133 = true := by kernel_rfl
theorem kc114 {G : Gm} {w : World} {l : List TSpan} {v : Value} (hS : Sat G w) (h : Sl RTSpan 2 l G v) (hl : l.length ≤ 1000) : Calls Tryz.prog 133 [v].toArray w (RetG G w (Sl RTSpan 2 l)) := by
  obtain ⟨a, n, cp, rfl, h⟩ := h
  exact f133_ok hS h (r := l) (by unfold f133; rw [app_s [] l (by simp; omega)]; rfl)
theorem kb116 : callB Tryz.prog 135 = true := by kernel_rfl
theorem kc116 {G : Gm} {w : World} {l : List TCellLoad} {v : Value} (hS : Sat G w) (h : Sl RTCellLoad 3 l G v) (hl : l.length ≤ 1000) : Calls Tryz.prog 135 [v].toArray w (RetG G w (Sl RTCellLoad 3 l)) := by
  obtain ⟨a, n, cp, rfl, h⟩ := h
  exact f135_ok hS h (r := l) (by unfold f135; rw [app_s [] l (by simp; omega)]; rfl)
theorem kn24 : naB Tryz.prog 24 = true := by kernel_rfl
theorem ks24 : szB Tryz.prog 24 = some 1 := by kernel_rfl
theorem kn25 : naB Tryz.prog 25 = true := by kernel_rfl
theorem ks25 : szB Tryz.prog 25 = some 1 := by kernel_rfl
theorem kn28 : naB Tryz.prog 28 = true := by kernel_rfl
theorem ks28 : szB Tryz.prog 28 = some 1 := by kernel_rfl
theorem kn29 : naB Tryz.prog 29 = true := by kernel_rfl
theorem ks29 : szB Tryz.prog 29 = some 1 := by kernel_rfl
theorem kn30 : naB Tryz.prog 30 = true := by kernel_rfl
theorem ks30 : szB Tryz.prog 30 = some 1 := by kernel_rfl
theorem kn33 : naB Tryz.prog 33 = true := by kernel_rfl
theorem ks33 : szB Tryz.prog 33 = some 1 := by kernel_rfl
theorem kn36 : naB Tryz.prog 36 = true := by kernel_rfl
theorem ks36 : szB Tryz.prog 36 = some 1 := by kernel_rfl
theorem kn39 : naB Tryz.prog 39 = true := by kernel_rfl
theorem ks39 : szB Tryz.prog 39 = some 1 := by kernel_rfl
theorem kn40 : naB Tryz.prog 40 = true := by kernel_rfl
theorem ks40 : szB Tryz.prog 40 = some 1 := by kernel_rfl
theorem kn43 : naB Tryz.prog 43 = true := by kernel_rfl
theorem ks43 : szB Tryz.prog 43 = some 1 := by kernel_rfl
theorem kf27_9 : fldB Tryz.prog 27 9 = some 12 := by kernel_rfl
theorem kf27_10 : fldB Tryz.prog 27 10 = some 13 := by kernel_rfl
theorem kf32_0 : fldB Tryz.prog 32 0 = some 0 := by kernel_rfl
theorem kf32_1 : fldB Tryz.prog 32 1 = some 1 := by kernel_rfl
theorem kf32_2 : fldB Tryz.prog 32 2 = some 2 := by kernel_rfl
theorem kf35_0 : fldB Tryz.prog 35 0 = some 0 := by kernel_rfl
theorem kf38_1 : fldB Tryz.prog 38 1 = some 1 := by kernel_rfl
theorem kf38_2 : fldB Tryz.prog 38 2 = some 2 := by kernel_rfl
theorem kf38_3 : fldB Tryz.prog 38 3 = some 3 := by kernel_rfl
theorem kf42_0 : fldB Tryz.prog 42 0 = some 0 := by kernel_rfl
theorem kf42_1 : fldB Tryz.prog 42 1 = some 1 := by kernel_rfl
theorem kf42_3 : fldB Tryz.prog 42 3 = some 4 := by kernel_rfl
theorem kf45_5 : fldB Tryz.prog 45 5 = some 5 := by kernel_rfl
theorem kf47_1 : fldB Tryz.prog 47 1 = some 1 := by kernel_rfl
theorem kf47_2 : fldB Tryz.prog 47 2 = some 2 := by kernel_rfl
theorem kf47_3 : fldB Tryz.prog 47 3 = some 3 := by kernel_rfl
theorem kf49_0 : fldB Tryz.prog 49 0 = some 0 := by kernel_rfl
theorem kf49_2 : fldB Tryz.prog 49 2 = some 17 := by kernel_rfl
theorem kf49_3 : fldB Tryz.prog 49 3 = some 20 := by kernel_rfl
theorem kf49_4 : fldB Tryz.prog 49 4 = some 23 := by kernel_rfl
theorem kf49_5 : fldB Tryz.prog 49 5 = some 28 := by kernel_rfl
theorem kf49_6 : fldB Tryz.prog 49 6 = some 34 := by kernel_rfl
theorem kf49_7 : fldB Tryz.prog 49 7 = some 45 := by kernel_rfl
theorem ka49 : agB Tryz.prog 49 = some 51 := by kernel_rfl
theorem kz49 : szB Tryz.prog 49 = some 51 := by kernel_rfl
theorem kf97_0 : fldB Tryz.prog 110 0 = some 0 := by kernel_rfl
theorem kb115 : callB Tryz.prog 134 = true := by kernel_rfl
theorem kl40 : slB Tryz.prog 40 = some (110, 3, 40) := by kernel_rfl
/-- a copy of lots, in memory of the caller's own -/
theorem kc115 {B : Nat} {G0 : Gm} {w0 : World} {Gc : Gm} {wc : World} {L : List Row} (hS : Since B G0 w0 Gc wc) (hO : Owns Gc wc B L) {xs : List TShipLot} {v : Value} (h1 : Sl RTShipLot 3 xs Gc v) (hl : xs.length ≤ 1000) :
    Calls Tryz.prog 134 [v].toArray wc (RetO B G0 w0 Gc wc (fun G' L' v => ∃ a c cells, v = .slice a xs.length c ∧ L' = ⟨110, 3, xs.length, .slice a xs.length c, cells⟩ :: L ∧ Rd RTShipLot 3 G' cells xs)) := by
  obtain ⟨a1, n1, c1, rfl, h1⟩ := h1
  refine enterL (N := 5) (rs := [.tmp 2]) hO.base Tryz.func134 rfl rfl rfl rfl (WC_seq (WC_region (WL_val (rn_assign (v := .slice none 0 0) rfl) rfl (WL_nil (WC_seq (WC_region (WL_val (rn_move (v := .slice a1 n1 c1) rfl) rfl ?_)))))))
  have hO := hO.cons_nil 110 3
  refine WL_op rfl (OpP_append (k := 0) kl40 RTShipLot_one hS hO rfl rfl (Rd.nil RTShipLot 3 Gc) h1 (app_s [] xs (by simp; omega)) rfl rfl rfl rfl rfl fun a c w1 cells hS hO hr => ?_)
  refine WL_val (rn_assign (v := .slice a xs.length c) rfl) rfl (WL_nil (WC_ret ?_))
  exact ⟨[.slice a xs.length c], ⟨rfl, trivial⟩, Gc, _, Gle.refl _, hS, hO, _, _, _, rfl, rfl, hr⟩
def z49 : List Value := [iV 0, iV 0, iV 0, iV 0, iV 0, iV 0, iV 0, iV 0, iV 0, iV 0, iV 0, iV 0, .slice none 0 0, .slice none 0 0, iV 0, iV 0, iV 0, .slice none 0 0, .slice none 0 0, .slice none 0 0, .slice none 0 0, iV 0, iV 0, iV 0, .slice none 0 0, .slice none 0 0, .slice none 0 0, iV 0, .slice none 0 0, .slice none 0 0, iV 0, iV 0, .slice none 0 0, iV 0, iV 0, iV 0, iV 0, iV 0, iV 0, .slice none 0 0, iV 0, iV 0, iV 0, iV 0, iV 0, iV 0, .slice none 0 0, .slice none 0 0, .slice none 0 0, iV 0, iV 0]
theorem setIx_self {α : Type} {xs : List α} {i : Nat} (hi : i < xs.length) : setIx xs (i : Int) xs[i] = some xs := by
  unfold setIx
  rw [if_pos ⟨by omega, by simpa using hi⟩]
  simp
theorem wrap_k {i : Nat} (h : i < 1000) : IntKind.i64.wrap ((i : Int) + 1) = ((i + 1 : Nat) : Int) := by rw [IntKind.wrap_i64]; omega
/-- no list is long -/
def Kl (x : TCouncilAtoll) : Prop := x.Islet.Wells.length ≤ 1000 ∧ x.Islet.Months.length ≤ 1000 ∧ x.Book.People.length ≤ 1000 ∧ x.Book.Events.length ≤ 1000 ∧ x.Book.Memories.length ≤ 1000 ∧ x.Reef.Places.length ≤ 1000 ∧ x.Sea.Infested.length ≤ 1000 ∧ x.Sea.Clean.length ≤ 1000 ∧ x.Sea.Trips.length ≤ 1000 ∧ x.Store.Stock.length ≤ 1000 ∧ x.Store.Use.length ≤ 1000 ∧ x.Store.Lots.length ≤ 1000 ∧ x.System.Loads.length ≤ 1000 ∧ x.Fishing.Roads.length ≤ 1000 ∧ x.Fishing.Zones.length ≤ 1000 ∧ x.Fishing.Berths.length ≤ 1000 ∧ ∀ y ∈ x.Store.Lots, y.Goods.length ≤ 1000
set_option maxHeartbeats 4000000 in
theorem f53_ok {G0 : Gm} {w0 : World} (hS0 : Sat G0 w0) {x : TCouncilAtoll} {cc : List Value} (hK : KI x 99 G0 cc) (hk : Kl x) :
    Calls Tryz.prog 53 [.agg cc.toArray].toArray w0 (RetG G0 w0 (fun G v => ∃ cc', v = .agg cc'.toArray ∧ KI x 99 G cc')) := by
  have hS := Since.start hS0
  have hO := own0 G0 w0
  obtain ⟨z12, z13, z17, z18, z19, z20, z24, z25, z26, z28, z29, z32, z39, z46, z47, z48, zg⟩ := hk
  refine enterG (N := 123) (shutG _ _ _) [.cell 2 49] Tryz.func53 rfl rfl rfl rfl (WC_seq (WC_region ?_))
  refine WL_op rfl (OpP_newO (v := fun b => pV b) (cs := cc) (e := 49) (rn_boxA rfl) hS.sat hO rfl 51 1 (by rw [hK.len]) (by decide) fun b w1 hb hO => ?_)
  have hS := hS.keep hb
  refine WL_op rfl (OpP_newO (v := fun b => pV b) (cs := z49) (e := 49) (by kernel_rfl) hS.sat hO rfl 51 1 rfl (by decide) fun b2 w2 hb hO => ?_)
  have hS := hS.keep hb
  have hO : Owns G0 w2 w0.heap.size [rowK b2 z49, rowK b cc] := hO
  have LE := Gle.refl G0
  refine WL_nil (WC_seq ?_)
  obtain ⟨u12, q12, p12⟩ := hK.get 12 rfl rfl
  obtain ⟨u13, q13, p13⟩ := hK.get 13 rfl rfl
  have hS := hS.keep (below_drew _)
  have hO := hO.below (below_drew _)
  refine WC_regionD mixedO (fun _ w => Sat _ w ∧ Owns _ w w0.heap.size [rowK b2 z49, rowK b cc]) (.fl 0 (.fl 1 (.fl 2 (.fl 4 (.fl 5 (.fl 6 (.on 3 (.fl 8 (.fl 9 (.on 7 (.on 10 (.on 11 (.on 12 (.on 13 .nil)))))))))))))) (by kernel_rfl) rfl (by kernel_rfl) (fun _ => ⟨hS.sat, hO⟩) ?_
  refine WD_val rfl (fun w hw => rn_fld kf49_0 rfl) rfl (WD_val rfl (fun w hw => rn_fld kf27_9 rfl) rfl (WD_val rfl (fun w hw => rn_load kn24 rfl (own_cell hw.2 (k := 1) rfl (j := 12) q12)) rfl (WD_val rfl (fun w hw => rn_fld kf49_0 rfl) rfl (WD_val rfl (fun w hw => rn_fld kf27_10 rfl) rfl (WD_val rfl (fun w hw => rn_load kn25 rfl (own_cell hw.2 (k := 1) rfl (j := 13) q13)) rfl (?_))))))
  have le := Gle.refl G0
  refine WD_op rfl rfl (OpP_callG kb108 (kc108 hS.sat p12 z12) rfl rfl fun v12 G w hg p12 => ?_)
  have hS := hS.grow hg
  have hO := hO.grow hg
  have le := le.trans hg.le
  have LE := LE.trans hg.le
  have hK := hK.mono hg.le
  have p13 := p13.mono RTLensMonth_mono hg.le
  refine ⟨fun _ _ => ⟨hS.sat.le le, hO.le le⟩, ?_⟩
  refine WD_val rfl (fun w hw => rn_fld kf49_0 rfl) rfl (WD_val rfl (fun w hw => rn_fld kf27_9 rfl) rfl ?_)
  refine WD_op rfl rfl (OpP_callG kb109 (kc109 hS.sat p13 z13) rfl rfl fun v13 G w hg p13 => ?_)
  have hS := hS.grow hg
  have hO := hO.grow hg
  have le := le.trans hg.le
  have LE := LE.trans hg.le
  have hK := hK.mono hg.le
  have p12 := p12.mono RInt_mono hg.le
  refine ⟨fun _ _ => ⟨hS.sat.le le, hO.le le⟩, ?_⟩
  refine WD_op rfl rfl (OpP_put (x := x) (e := 99) (e' := 99) (j := 12) (k := 1) ks24 hS hO rfl rfl rfl rfl p12.one (fun _ => p12) hK (fun i h0 h1 h2 => by omega) fun w cc hS hO hK qq => ⟨fun _ h => noneed (by kernel_rfl) h, ?_⟩)
  have hO : Owns _ w w0.heap.size [rowK b2 z49, rowK b cc] := hO
  refine WD_op rfl rfl (OpP_val (rn_fld kf49_0 rfl) rfl ⟨fun _ h => noneed (by kernel_rfl) h, WD_op rfl rfl (OpP_val (rn_fld kf27_10 rfl) rfl ⟨fun _ h => noneed (by kernel_rfl) h, ?_⟩)⟩)
  refine WD_op rfl rfl (OpP_put (x := x) (e := 99) (e' := 99) (j := 13) (k := 1) ks25 hS hO rfl rfl rfl rfl p13.one (fun _ => p13) hK (fun i h0 h1 h2 => by omega) fun w cc hS hO hK qq => ⟨fun _ h => noneed (by kernel_rfl) h, ?_⟩)
  have hO : Owns _ w w0.heap.size [rowK b2 z49, rowK b cc] := hO
  refine WD_nil (WC_seq ?_)
  obtain ⟨u17, q17, p17⟩ := hK.get 17 rfl rfl
  obtain ⟨u18, q18, p18⟩ := hK.get 18 rfl rfl
  obtain ⟨u19, q19, p19⟩ := hK.get 19 rfl rfl
  have hS := hS.keep (below_drew _)
  have hO := hO.below (below_drew _)
  refine WC_regionD mixedO (fun _ w => Sat _ w ∧ Owns _ w w0.heap.size [rowK b2 z49, rowK b cc]) (.fl 0 (.fl 1 (.fl 2 (.fl 4 (.fl 5 (.fl 6 (.fl 8 (.fl 9 (.fl 10 (.on 3 (.fl 12 (.fl 13 (.on 7 (.on 11 (.on 14 (.on 15 (.on 16 (.on 17 (.on 18 (.on 19 (.on 20 .nil))))))))))))))))))))) (by kernel_rfl) rfl (by kernel_rfl) (fun _ => ⟨hS.sat, hO⟩) ?_
  refine WD_val rfl (fun w hw => rn_fld kf49_2 rfl) rfl (WD_val rfl (fun w hw => rn_fld kf32_0 rfl) rfl (WD_val rfl (fun w hw => rn_load kn28 rfl (own_cell hw.2 (k := 1) rfl (j := 17) q17)) rfl (WD_val rfl (fun w hw => rn_fld kf49_2 rfl) rfl (WD_val rfl (fun w hw => rn_fld kf32_1 rfl) rfl (WD_val rfl (fun w hw => rn_load kn29 rfl (own_cell hw.2 (k := 1) rfl (j := 18) q18)) rfl (WD_val rfl (fun w hw => rn_fld kf49_2 rfl) rfl (WD_val rfl (fun w hw => rn_fld kf32_2 rfl) rfl (WD_val rfl (fun w hw => rn_load kn30 rfl (own_cell hw.2 (k := 1) rfl (j := 19) q19)) rfl (?_)))))))))
  have le := Gle.refl G
  refine WD_op rfl rfl (OpP_callG kb110 (kc110 hS.sat p17 z17) rfl rfl fun v17 G w hg p17 => ?_)
  have hS := hS.grow hg
  have hO := hO.grow hg
  have le := le.trans hg.le
  have LE := LE.trans hg.le
  have hK := hK.mono hg.le
  have p18 := p18.mono RTLandEvent_mono hg.le
  have p19 := p19.mono RTLandMemory_mono hg.le
  refine ⟨fun _ _ => ⟨hS.sat.le le, hO.le le⟩, ?_⟩
  refine WD_val rfl (fun w hw => rn_fld kf49_2 rfl) rfl (WD_val rfl (fun w hw => rn_fld kf32_0 rfl) rfl ?_)
  refine WD_op rfl rfl (OpP_callG kb111 (kc111 hS.sat p18 z18) rfl rfl fun v18 G w hg p18 => ?_)
  have hS := hS.grow hg
  have hO := hO.grow hg
  have le := le.trans hg.le
  have LE := LE.trans hg.le
  have hK := hK.mono hg.le
  have p17 := p17.mono RTLandPerson_mono hg.le
  have p19 := p19.mono RTLandMemory_mono hg.le
  refine ⟨fun _ _ => ⟨hS.sat.le le, hO.le le⟩, ?_⟩
  refine WD_op rfl rfl (OpP_callG kb30 (kc30 hS.sat p19 z19) rfl rfl fun v19 G w hg p19 => ?_)
  have hS := hS.grow hg
  have hO := hO.grow hg
  have le := le.trans hg.le
  have LE := LE.trans hg.le
  have hK := hK.mono hg.le
  have p17 := p17.mono RTLandPerson_mono hg.le
  have p18 := p18.mono RTLandEvent_mono hg.le
  refine ⟨fun _ _ => ⟨hS.sat.le le, hO.le le⟩, ?_⟩
  refine WD_op rfl rfl (OpP_put (x := x) (e := 99) (e' := 99) (j := 17) (k := 1) ks28 hS hO rfl rfl rfl rfl p17.one (fun _ => p17) hK (fun i h0 h1 h2 => by omega) fun w cc hS hO hK qq => ⟨fun _ h => noneed (by kernel_rfl) h, ?_⟩)
  have hO : Owns _ w w0.heap.size [rowK b2 z49, rowK b cc] := hO
  refine WD_op rfl rfl (OpP_val (rn_fld kf49_2 rfl) rfl ⟨fun _ h => noneed (by kernel_rfl) h, WD_op rfl rfl (OpP_val (rn_fld kf32_1 rfl) rfl ⟨fun _ h => noneed (by kernel_rfl) h, ?_⟩)⟩)
  refine WD_op rfl rfl (OpP_put (x := x) (e := 99) (e' := 99) (j := 18) (k := 1) ks29 hS hO rfl rfl rfl rfl p18.one (fun _ => p18) hK (fun i h0 h1 h2 => by omega) fun w cc hS hO hK qq => ⟨fun _ h => noneed (by kernel_rfl) h, ?_⟩)
  have hO : Owns _ w w0.heap.size [rowK b2 z49, rowK b cc] := hO
  refine WD_op rfl rfl (OpP_val (rn_fld kf49_2 rfl) rfl ⟨fun _ h => noneed (by kernel_rfl) h, WD_op rfl rfl (OpP_val (rn_fld kf32_2 rfl) rfl ⟨fun _ h => noneed (by kernel_rfl) h, ?_⟩)⟩)
  refine WD_op rfl rfl (OpP_put (x := x) (e := 99) (e' := 99) (j := 19) (k := 1) ks30 hS hO rfl rfl rfl rfl p19.one (fun _ => p19) hK (fun i h0 h1 h2 => by omega) fun w cc hS hO hK qq => ⟨fun _ h => noneed (by kernel_rfl) h, ?_⟩)
  have hO : Owns _ w w0.heap.size [rowK b2 z49, rowK b cc] := hO
  refine WD_nil (WC_seq ?_)
  obtain ⟨u20, q20, p20⟩ := hK.get 20 rfl rfl
  refine WC_region (WL_val (rn_fld kf49_3 rfl) rfl (WL_val (rn_fld kf35_0 rfl) rfl (WL_val (rn_load kn33 rfl (own_cell hO (k := 1) rfl (j := 20) q20)) rfl ?_)))
  refine WL_op rfl (OpP_callG kb112 (kc112 hS.sat p20 z20) rfl rfl fun v20 G w hg p20 => ?_)
  have hS := hS.grow hg
  have hO := hO.grow hg
  have LE := LE.trans hg.le
  have hK := hK.mono hg.le
  refine WL_val (rn_fld kf49_3 rfl) rfl (WL_val (rn_fld kf35_0 rfl) rfl ?_)
  refine WL_op rfl (OpP_put (x := x) (e := 99) (e' := 99) (j := 20) (k := 1) ks33 hS hO rfl rfl rfl rfl p20.one (fun _ => p20) hK (fun i h0 h1 h2 => by omega) fun w cc hS hO hK qq => WL_nil (WC_seq ?_))
  have hO : Owns _ w w0.heap.size [rowK b2 z49, rowK b cc] := hO
  obtain ⟨u24, q24, p24⟩ := hK.get 24 rfl rfl
  obtain ⟨u25, q25, p25⟩ := hK.get 25 rfl rfl
  obtain ⟨u26, q26, p26⟩ := hK.get 26 rfl rfl
  have hS := hS.keep (below_drew _)
  have hO := hO.below (below_drew _)
  refine WC_regionD mixedO (fun _ w => Sat _ w ∧ Owns _ w w0.heap.size [rowK b2 z49, rowK b cc]) (.fl 0 (.fl 1 (.fl 2 (.fl 4 (.fl 5 (.fl 6 (.fl 8 (.fl 9 (.fl 10 (.on 3 (.fl 12 (.fl 13 (.on 7 (.on 11 (.on 14 (.on 15 (.on 16 (.on 17 (.on 18 (.on 19 (.on 20 .nil))))))))))))))))))))) (by kernel_rfl) rfl (by kernel_rfl) (fun _ => ⟨hS.sat, hO⟩) ?_
  refine WD_val rfl (fun w hw => rn_fld kf49_4 rfl) rfl (WD_val rfl (fun w hw => rn_fld kf38_1 rfl) rfl (WD_val rfl (fun w hw => rn_load kn24 rfl (own_cell hw.2 (k := 1) rfl (j := 24) q24)) rfl (WD_val rfl (fun w hw => rn_fld kf49_4 rfl) rfl (WD_val rfl (fun w hw => rn_fld kf38_2 rfl) rfl (WD_val rfl (fun w hw => rn_load kn24 rfl (own_cell hw.2 (k := 1) rfl (j := 25) q25)) rfl (WD_val rfl (fun w hw => rn_fld kf49_4 rfl) rfl (WD_val rfl (fun w hw => rn_fld kf38_3 rfl) rfl (WD_val rfl (fun w hw => rn_load kn36 rfl (own_cell hw.2 (k := 1) rfl (j := 26) q26)) rfl (?_)))))))))
  have le := Gle.refl G
  refine WD_op rfl rfl (OpP_callG kb108 (kc108 hS.sat p24 z24) rfl rfl fun v24 G w hg p24 => ?_)
  have hS := hS.grow hg
  have hO := hO.grow hg
  have le := le.trans hg.le
  have LE := LE.trans hg.le
  have hK := hK.mono hg.le
  have p25 := p25.mono RInt_mono hg.le
  have p26 := p26.mono RTBaneTrip_mono hg.le
  refine ⟨fun _ _ => ⟨hS.sat.le le, hO.le le⟩, ?_⟩
  refine WD_val rfl (fun w hw => rn_fld kf49_4 rfl) rfl (WD_val rfl (fun w hw => rn_fld kf38_1 rfl) rfl ?_)
  refine WD_op rfl rfl (OpP_callG kb108 (kc108 hS.sat p25 z25) rfl rfl fun v25 G w hg p25 => ?_)
  have hS := hS.grow hg
  have hO := hO.grow hg
  have le := le.trans hg.le
  have LE := LE.trans hg.le
  have hK := hK.mono hg.le
  have p24 := p24.mono RInt_mono hg.le
  have p26 := p26.mono RTBaneTrip_mono hg.le
  refine ⟨fun _ _ => ⟨hS.sat.le le, hO.le le⟩, ?_⟩
  refine WD_op rfl rfl (OpP_callG kb113 (kc113 hS.sat p26 z26) rfl rfl fun v26 G w hg p26 => ?_)
  have hS := hS.grow hg
  have hO := hO.grow hg
  have le := le.trans hg.le
  have LE := LE.trans hg.le
  have hK := hK.mono hg.le
  have p24 := p24.mono RInt_mono hg.le
  have p25 := p25.mono RInt_mono hg.le
  refine ⟨fun _ _ => ⟨hS.sat.le le, hO.le le⟩, ?_⟩
  refine WD_op rfl rfl (OpP_put (x := x) (e := 99) (e' := 99) (j := 24) (k := 1) ks24 hS hO rfl rfl rfl rfl p24.one (fun _ => p24) hK (fun i h0 h1 h2 => by omega) fun w cc hS hO hK qq => ⟨fun _ h => noneed (by kernel_rfl) h, ?_⟩)
  have hO : Owns _ w w0.heap.size [rowK b2 z49, rowK b cc] := hO
  refine WD_op rfl rfl (OpP_val (rn_fld kf49_4 rfl) rfl ⟨fun _ h => noneed (by kernel_rfl) h, WD_op rfl rfl (OpP_val (rn_fld kf38_2 rfl) rfl ⟨fun _ h => noneed (by kernel_rfl) h, ?_⟩)⟩)
  refine WD_op rfl rfl (OpP_put (x := x) (e := 99) (e' := 99) (j := 25) (k := 1) ks24 hS hO rfl rfl rfl rfl p25.one (fun _ => p25) hK (fun i h0 h1 h2 => by omega) fun w cc hS hO hK qq => ⟨fun _ h => noneed (by kernel_rfl) h, ?_⟩)
  have hO : Owns _ w w0.heap.size [rowK b2 z49, rowK b cc] := hO
  refine WD_op rfl rfl (OpP_val (rn_fld kf49_4 rfl) rfl ⟨fun _ h => noneed (by kernel_rfl) h, WD_op rfl rfl (OpP_val (rn_fld kf38_3 rfl) rfl ⟨fun _ h => noneed (by kernel_rfl) h, ?_⟩)⟩)
  refine WD_op rfl rfl (OpP_put (x := x) (e := 99) (e' := 99) (j := 26) (k := 1) ks36 hS hO rfl rfl rfl rfl p26.one (fun _ => p26) hK (fun i h0 h1 h2 => by omega) fun w cc hS hO hK qq => ⟨fun _ h => noneed (by kernel_rfl) h, ?_⟩)
  have hO : Owns _ w w0.heap.size [rowK b2 z49, rowK b cc] := hO
  refine WD_nil (WC_seq ?_)
  obtain ⟨u28, q28, p28⟩ := hK.get 28 rfl rfl
  obtain ⟨u29, q29, p29⟩ := hK.get 29 rfl rfl
  obtain ⟨u32, q32, p32⟩ := hK.get 32 rfl rfl
  have hS := hS.keep (below_drew _)
  have hO := hO.below (below_drew _)
  refine WC_regionD mixedO (fun _ w => Sat _ w ∧ Owns _ w w0.heap.size [rowK b2 z49, rowK b cc]) (.fl 0 (.fl 1 (.fl 2 (.fl 4 (.fl 5 (.fl 6 (.fl 8 (.fl 9 (.fl 10 (.on 3 (.fl 12 (.fl 13 (.on 7 (.on 11 (.on 14 (.on 15 (.on 16 (.on 17 (.on 18 (.on 19 (.on 20 .nil))))))))))))))))))))) (by kernel_rfl) rfl (by kernel_rfl) (fun _ => ⟨hS.sat, hO⟩) ?_
  refine WD_val rfl (fun w hw => rn_fld kf49_5 rfl) rfl (WD_val rfl (fun w hw => rn_fld kf42_0 rfl) rfl (WD_val rfl (fun w hw => rn_load kn24 rfl (own_cell hw.2 (k := 1) rfl (j := 28) q28)) rfl (WD_val rfl (fun w hw => rn_fld kf49_5 rfl) rfl (WD_val rfl (fun w hw => rn_fld kf42_1 rfl) rfl (WD_val rfl (fun w hw => rn_load kn39 rfl (own_cell hw.2 (k := 1) rfl (j := 29) q29)) rfl (WD_val rfl (fun w hw => rn_fld kf49_5 rfl) rfl (WD_val rfl (fun w hw => rn_fld kf42_3 rfl) rfl (WD_val rfl (fun w hw => rn_load kn40 rfl (own_cell hw.2 (k := 1) rfl (j := 32) q32)) rfl (?_)))))))))
  have le := Gle.refl G
  refine WD_op rfl rfl (OpP_callG kb108 (kc108 hS.sat p28 z28) rfl rfl fun v28 G w hg p28 => ?_)
  have hS := hS.grow hg
  have hO := hO.grow hg
  have le := le.trans hg.le
  have LE := LE.trans hg.le
  have hK := hK.mono hg.le
  have p29 := p29.mono RTSpan_mono hg.le
  have p32 := p32.mono RTShipLot_mono hg.le
  refine ⟨fun _ _ => ⟨hS.sat.le le, hO.le le⟩, ?_⟩
  refine WD_val rfl (fun w hw => rn_fld kf49_5 rfl) rfl (WD_val rfl (fun w hw => rn_fld kf42_0 rfl) rfl ?_)
  refine WD_op rfl rfl (OpP_callG kb114 (kc114 hS.sat p29 z29) rfl rfl fun v29 G w hg p29 => ?_)
  have hS := hS.grow hg
  have hO := hO.grow hg
  have le := le.trans hg.le
  have LE := LE.trans hg.le
  have hK := hK.mono hg.le
  have p28 := p28.mono RInt_mono hg.le
  have p32 := p32.mono RTShipLot_mono hg.le
  refine ⟨fun _ _ => ⟨hS.sat.le le, hO.le le⟩, ?_⟩
  refine WD_op rfl rfl (OpP_lent (fi := []) (al := [_]) (ca := []) kb115 (kc115 hS hO p32 z32) rfl rfl rfl fun v32 G w L le1 hS hO hv => ?_)
  obtain ⟨aL, cL, lc, rfl, rfl, hrl⟩ := hv
  have le := le.trans le1
  have LE := LE.trans le1
  have hK := hK.mono le1
  have p28 := p28.mono RInt_mono le1
  have p29 := p29.mono RTSpan_mono le1
  refine ⟨fun _ _ => ⟨hS.sat.le le, (hO.drop 0).le le⟩, ?_⟩
  refine WD_op rfl rfl (OpP_put (x := x) (e := 99) (e' := 99) (j := 28) (k := 2) ks24 hS hO rfl rfl rfl rfl p28.one (fun _ => p28) hK (fun i h0 h1 h2 => by omega) fun w cc hS hO hK qq => ⟨fun _ h => noneed (by kernel_rfl) h, ?_⟩)
  have hO : Owns _ w w0.heap.size [⟨110, 3, x.Store.Lots.length, .slice aL x.Store.Lots.length cL, lc⟩, rowK b2 z49, rowK b cc] := hO
  refine WD_op rfl rfl (OpP_val (rn_fld kf49_5 rfl) rfl ⟨fun _ h => noneed (by kernel_rfl) h, WD_op rfl rfl (OpP_val (rn_fld kf42_1 rfl) rfl ⟨fun _ h => noneed (by kernel_rfl) h, ?_⟩)⟩)
  refine WD_op rfl rfl (OpP_put (x := x) (e := 99) (e' := 99) (j := 29) (k := 2) ks39 hS hO rfl rfl rfl rfl p29.one (fun _ => p29) hK (fun i h0 h1 h2 => by omega) fun w cc hS hO hK qq => ⟨fun _ h => noneed (by kernel_rfl) h, ?_⟩)
  have hO : Owns _ w w0.heap.size [⟨110, 3, x.Store.Lots.length, .slice aL x.Store.Lots.length cL, lc⟩, rowK b2 z49, rowK b cc] := hO
  refine WD_op rfl rfl (OpP_val (rn_fld kf49_5 rfl) rfl ⟨fun _ h => noneed (by kernel_rfl) h, WD_op rfl rfl (OpP_val (rn_fld kf42_3 rfl) rfl ⟨fun _ h => noneed (by kernel_rfl) h, ?_⟩)⟩)
  refine WD_op rfl rfl (OpP_put (x := x) (e := 99) (e' := 32) (j := 32) (k := 2) ks40 hS hO rfl rfl rfl rfl ⟨rfl, rfl⟩ (fun h => absurd rfl h) hK (fun i h0 h1 h2 => by omega) fun w cc hS hO hK qq => ⟨fun _ h => noneed (by kernel_rfl) h, ?_⟩)
  have hO : Owns _ w w0.heap.size [⟨110, 3, x.Store.Lots.length, .slice aL x.Store.Lots.length cL, lc⟩, rowK b2 z49, rowK b cc] := hO
  refine WD_nil (WC_seq (WC_seq (WC_region ?_)))
  refine WL_val (rn_fld kf49_5 rfl) rfl (WL_val (rn_fld kf42_3 rfl) rfl (WL_val (rn_load kn40 rfl (own_cell hO (k := 2) rfl (j := 32) qq)) rfl (WL_val (rn_len kl40 rfl rfl rfl) rfl (WL_val (rn_move (v := iV 0) rfl) rfl (WL_nil ?_)))))
  refine WC_cut (fun F w => ∃ Fb G cc, F = upds Fb [(1, pV b), (2, pV b2)] ∧ Gle G0 G ∧ Since w0.heap.size G0 w0 G w ∧ Owns G w w0.heap.size [rowK b2 z49, rowK b cc] ∧ KI x 99 G cc) ?_ ?_
  · refine WC_block (WC_loopI (WI_rounds x.Store.Lots.length (fun i F w => ∃ Fb G lc, F = upds Fb [(1, pV b), (2, pV b2), (79, iV (x.Store.Lots.length : Int)), (80, iV i)] ∧ Gle G0 G ∧ Since w0.heap.size G0 w0 G w ∧ Owns G w w0.heap.size [⟨110, 3, x.Store.Lots.length, .slice aL x.Store.Lots.length cL, lc⟩, rowK b2 z49, rowK b cc] ∧ KI x 32 G cc ∧ Rd RTShipLot 3 G lc x.Store.Lots) ?_ ?_ x.Store.Lots.length 0 _ _ (by omega) ⟨_, _, lc, upds_self _ _ ⟨rfl, rfl, rfl, rfl, trivial⟩, LE, hS, hO, hK, hrl⟩))
    · rintro i F w hi ⟨Fb, G, lc, rfl, LE, hS, hO, hK, hrl⟩
      have hix : ix x.Store.Lots (i : Int) = some x.Store.Lots[i] := by simp [ix, List.getElem?_eq_getElem hi]
      refine WC_seq (WC_region (WL_val (rn_lss rfl rfl) rfl (WL_nil (WC_seq (WC_condT (decide ((i : Int) < (x.Store.Lots.length : Int))) (by simpa using hi) rfl (WC_skip ?_))))))
      refine WC_seq (WC_block (WC_seq (WC_region (WL_val (rn_move (v := iV i) rfl) rfl (WL_val (rn_assign (v := iV i) rfl) rfl (WL_nil ?_))))))
      have hS := hS.keep (below_drew _)
      have hO := hO.below (below_drew _)
      refine WC_regionD mixedO (fun _ w => Sat G w ∧ Owns G w w0.heap.size [⟨110, 3, x.Store.Lots.length, .slice aL x.Store.Lots.length cL, lc⟩, rowK b2 z49, rowK b cc]) (.fl 0 (.fl 1 (.fl 2 (.fl 3 (.fl 4 (.fl 5 (.fl 6 (.fl 7 (.fl 8 (.fl 9 (.fl 10 (.on 11 (.on 12 (.on 13 (.on 14 .nil))))))))))))))) (by kernel_rfl) rfl (by kernel_rfl) (fun _ => ⟨hS.sat, hO⟩) ?_
      refine WD_val rfl (fun w hw => rn_fld kf49_5 rfl) rfl (WD_val rfl (fun w hw => rn_fld kf42_3 rfl) rfl (WD_val rfl (fun w hw => rn_load kn40 rfl (own_cell hw.2 (k := 2) rfl (j := 32) qq)) rfl (WD_val rfl (fun w hw => rn_move rfl) rfl (WD_val rfl (fun w hw => rn_fld kf49_5 rfl) rfl (WD_val rfl (fun w hw => rn_fld kf42_3 rfl) rfl (WD_val rfl (fun w hw => rn_load kn40 rfl (own_cell hw.2 (k := 2) rfl (j := 32) qq)) rfl (WD_val rfl (fun w hw => rn_move rfl) rfl ?_)))))))
      refine WD_idxO (k := 0) rfl kl40 hO rfl rfl hrl hix rfl rfl rfl fun g o cs ha hcl hcc hR => ?_
      obtain ⟨ag, ng, cg, rfl, hgs⟩ := hR
      refine WD_val rfl (fun w hw => rn_fld kf97_0 rfl) rfl (WD_val rfl (fun w hw => rn_load kn39 rfl (own_cellB hw.2 (k := 0) rfl ha (i * 3) 0 (hcc 0 _ rfl))) rfl ?_)
      refine WD_op rfl rfl (OpP_callG kb114 (kc114 hS.sat ⟨ag, ng, cg, rfl, hgs⟩ (zg _ (List.getElem_mem hi))) rfl rfl fun v G1 w1 hg hv => ?_)
      have hS := hS.grow hg
      have hO := hO.grow hg
      have LE := LE.trans hg.le
      have hK := hK.mono hg.le
      have hrl := hrl.mono RTShipLot_mono hg.le
      refine ⟨fun _ _ => ⟨hS.sat.le hg.le, hO.le hg.le⟩, ?_⟩
      refine WD_op rfl rfl (OpP_idxO (k := 0) kl40 hO rfl rfl hrl hix rfl rfl rfl fun g2 o2 cs2 ha2 hcl2 hcc2 hR2 => ⟨fun _ h => noneed (by kernel_rfl) h, ?_⟩)
      refine WD_op rfl rfl (OpP_val (rn_fld kf97_0 rfl) rfl ⟨fun _ h => noneed (by kernel_rfl) h, ?_⟩)
      obtain ⟨av, nv, cv, rfl, hvs⟩ := hv
      refine WD_op rfl rfl (OpP_storeE (vs := [.slice av nv cv]) (k := 0) (j := 0) (i := (i : Int)) (y := x.Store.Lots[i]) ks39 hS hO rfl rfl rfl hrl ha2 hcl2 hcc2 (setIx_self hi) ?_ rfl rfl rfl rfl (one_all rfl) (Nat.le_of_ble_eq_true rfl) fun w2 lc2 hS hO hrl2 => ⟨fun _ h => noneed (by kernel_rfl) h, WD_nil ?_⟩)
      · obtain ⟨_, _, _, rfl, _⟩ := hR2
        exact ⟨av, nv, cv, rfl, hvs⟩
      · refine WC_region (WL_val (rn_add rfl rfl) rfl (WL_val (rn_move (v := iV (IntKind.i64.wrap ((i : Int) + 1))) rfl) rfl (WL_nil ?_)))
        exact ⟨_, G1, lc2, upds_self _ _ ⟨rfl, rfl, rfl, congrArg iV (wrap_k (by omega)), trivial⟩, LE, hS, hO, hK, hrl2⟩
    · rintro F w ⟨Fb, G, lc, rfl, LE, hS, hO, hK, hrl⟩
      refine WI_step (WC_seq (WC_region (WL_val (rn_lss rfl rfl) rfl (WL_nil (WC_seq (WC_condF _ (show decide ((x.Store.Lots.length : Int) < (x.Store.Lots.length : Int)) = false by simp) rfl (WC_exit rfl ?_)))))))
      obtain ⟨G1, le1, hS, hO, hr⟩ := hO.freezeS hS RTShipLot_mono (k := 0) rfl hrl rfl
      refine ⟨_, G1, cc, upds_self _ _ ⟨rfl, rfl, trivial⟩, LE.trans le1, hS, hO, hK.len, fun j v hj => ⟨(hK.at' j v hj).1, fun _ => ?_⟩⟩
      by_cases h32 : j = 32
      · subst h32
        rw [qq] at hj
        cases hj
        exact ⟨_, _, _, rfl, hr⟩
      · exact KQ_mono le1 ((hK.at' j v hj).2 h32)
  rintro F w ⟨Fb, G, cc, rfl, LE, hS, hO, hK⟩
  refine WC_seq ?_
  obtain ⟨u39, q39, p39⟩ := hK.get 39 rfl rfl
  refine WC_region (WL_val (rn_fld kf49_6 rfl) rfl (WL_val (rn_fld kf45_5 rfl) rfl (WL_val (rn_load kn43 rfl (own_cell hO (k := 1) rfl (j := 39) q39)) rfl ?_)))
  refine WL_op rfl (OpP_callG kb116 (kc116 hS.sat p39 z39) rfl rfl fun v39 G w hg p39 => ?_)
  have hS := hS.grow hg
  have hO := hO.grow hg
  have LE := LE.trans hg.le
  have hK := hK.mono hg.le
  refine WL_val (rn_fld kf49_6 rfl) rfl (WL_val (rn_fld kf45_5 rfl) rfl ?_)
  refine WL_op rfl (OpP_put (x := x) (e := 99) (e' := 99) (j := 39) (k := 1) ks43 hS hO rfl rfl rfl rfl p39.one (fun _ => p39) hK (fun i h0 h1 h2 => by omega) fun w cc hS hO hK qq => WL_nil (WC_seq ?_))
  have hO : Owns _ w w0.heap.size [rowK b2 z49, rowK b cc] := hO
  obtain ⟨u46, q46, p46⟩ := hK.get 46 rfl rfl
  obtain ⟨u47, q47, p47⟩ := hK.get 47 rfl rfl
  obtain ⟨u48, q48, p48⟩ := hK.get 48 rfl rfl
  have hS := hS.keep (below_drew _)
  have hO := hO.below (below_drew _)
  refine WC_regionD mixedO (fun _ w => Sat _ w ∧ Owns _ w w0.heap.size [rowK b2 z49, rowK b cc]) (.fl 0 (.fl 1 (.fl 2 (.fl 4 (.fl 5 (.fl 6 (.fl 8 (.fl 9 (.fl 10 (.on 3 (.fl 12 (.fl 13 (.on 7 (.on 11 (.on 14 (.on 15 (.on 16 (.on 17 (.on 18 (.on 19 (.on 20 .nil))))))))))))))))))))) (by kernel_rfl) rfl (by kernel_rfl) (fun _ => ⟨hS.sat, hO⟩) ?_
  refine WD_val rfl (fun w hw => rn_fld kf49_7 rfl) rfl (WD_val rfl (fun w hw => rn_fld kf47_1 rfl) rfl (WD_val rfl (fun w hw => rn_load kn24 rfl (own_cell hw.2 (k := 1) rfl (j := 46) q46)) rfl (WD_val rfl (fun w hw => rn_fld kf49_7 rfl) rfl (WD_val rfl (fun w hw => rn_fld kf47_2 rfl) rfl (WD_val rfl (fun w hw => rn_load kn24 rfl (own_cell hw.2 (k := 1) rfl (j := 47) q47)) rfl (WD_val rfl (fun w hw => rn_fld kf49_7 rfl) rfl (WD_val rfl (fun w hw => rn_fld kf47_3 rfl) rfl (WD_val rfl (fun w hw => rn_load kn24 rfl (own_cell hw.2 (k := 1) rfl (j := 48) q48)) rfl (?_)))))))))
  have le := Gle.refl G
  refine WD_op rfl rfl (OpP_callG kb108 (kc108 hS.sat p46 z46) rfl rfl fun v46 G w hg p46 => ?_)
  have hS := hS.grow hg
  have hO := hO.grow hg
  have le := le.trans hg.le
  have LE := LE.trans hg.le
  have hK := hK.mono hg.le
  have p47 := p47.mono RInt_mono hg.le
  have p48 := p48.mono RInt_mono hg.le
  refine ⟨fun _ _ => ⟨hS.sat.le le, hO.le le⟩, ?_⟩
  refine WD_val rfl (fun w hw => rn_fld kf49_7 rfl) rfl (WD_val rfl (fun w hw => rn_fld kf47_1 rfl) rfl ?_)
  refine WD_op rfl rfl (OpP_callG kb108 (kc108 hS.sat p47 z47) rfl rfl fun v47 G w hg p47 => ?_)
  have hS := hS.grow hg
  have hO := hO.grow hg
  have le := le.trans hg.le
  have LE := LE.trans hg.le
  have hK := hK.mono hg.le
  have p46 := p46.mono RInt_mono hg.le
  have p48 := p48.mono RInt_mono hg.le
  refine ⟨fun _ _ => ⟨hS.sat.le le, hO.le le⟩, ?_⟩
  refine WD_op rfl rfl (OpP_callG kb108 (kc108 hS.sat p48 z48) rfl rfl fun v48 G w hg p48 => ?_)
  have hS := hS.grow hg
  have hO := hO.grow hg
  have le := le.trans hg.le
  have LE := LE.trans hg.le
  have hK := hK.mono hg.le
  have p46 := p46.mono RInt_mono hg.le
  have p47 := p47.mono RInt_mono hg.le
  refine ⟨fun _ _ => ⟨hS.sat.le le, hO.le le⟩, ?_⟩
  refine WD_op rfl rfl (OpP_put (x := x) (e := 99) (e' := 99) (j := 46) (k := 1) ks24 hS hO rfl rfl rfl rfl p46.one (fun _ => p46) hK (fun i h0 h1 h2 => by omega) fun w cc hS hO hK qq => ⟨fun _ h => noneed (by kernel_rfl) h, ?_⟩)
  have hO : Owns _ w w0.heap.size [rowK b2 z49, rowK b cc] := hO
  refine WD_op rfl rfl (OpP_val (rn_fld kf49_7 rfl) rfl ⟨fun _ h => noneed (by kernel_rfl) h, WD_op rfl rfl (OpP_val (rn_fld kf47_2 rfl) rfl ⟨fun _ h => noneed (by kernel_rfl) h, ?_⟩)⟩)
  refine WD_op rfl rfl (OpP_put (x := x) (e := 99) (e' := 99) (j := 47) (k := 1) ks24 hS hO rfl rfl rfl rfl p47.one (fun _ => p47) hK (fun i h0 h1 h2 => by omega) fun w cc hS hO hK qq => ⟨fun _ h => noneed (by kernel_rfl) h, ?_⟩)
  have hO : Owns _ w w0.heap.size [rowK b2 z49, rowK b cc] := hO
  refine WD_op rfl rfl (OpP_val (rn_fld kf49_7 rfl) rfl ⟨fun _ h => noneed (by kernel_rfl) h, WD_op rfl rfl (OpP_val (rn_fld kf47_3 rfl) rfl ⟨fun _ h => noneed (by kernel_rfl) h, ?_⟩)⟩)
  refine WD_op rfl rfl (OpP_put (x := x) (e := 99) (e' := 99) (j := 48) (k := 1) ks24 hS hO rfl rfl rfl rfl p48.one (fun _ => p48) hK (fun i h0 h1 h2 => by omega) fun w cc hS hO hK qq => ⟨fun _ h => noneed (by kernel_rfl) h, ?_⟩)
  have hO : Owns _ w w0.heap.size [rowK b2 z49, rowK b cc] := hO
  refine WD_nil (WC_seq ?_)
  have cA : ∀ j v, cc[j]? = some v → w.cell? ⟨b, 0 + j, none⟩ = some v := fun j v hj => by rw [Nat.zero_add]; exact own_cell hO (k := 1) rfl hj
  refine WC_region (WL_val (rn_loadA (cs := cc) ka49 rfl hK.len cA) rfl ?_)
  refine WL_op rfl (OpP_store (vs := cc) kz49 hS hO (k := 0) rfl rfl rfl rfl hK.len (fun u hu => ?_) (by rw [hK.len]; exact Nat.le_refl _) fun w hS hO => WL_nil (WC_ret ?_))
  · obtain ⟨j, hj⟩ := List.getElem?_of_mem hu
    exact (hK.at' j u hj).1
  · have e : splice z49 0 cc = cc := by
      unfold splice
      rw [List.take_zero, List.nil_append, List.drop_eq_nil_of_le (by rw [hK.len]; exact Nat.le_refl _), List.append_nil]
    rw [e] at hO
    have cB : ∀ j v, cc[j]? = some v → w.cell? ⟨b2, 0 + j, none⟩ = some v := fun j v hj => by rw [Nat.zero_add]; exact own_cell hO (k := 0) rfl hj
    exact ⟨[.agg cc.toArray], ⟨⟨_, rfl, ld_agg (cs := cc) ka49 hK.len cB⟩, trivial⟩, _, _, rfl, hS.toGrow, cc, rfl, hK⟩
end Go.Proofs.YtdgkjgljkgjjiaaGreatDoor
