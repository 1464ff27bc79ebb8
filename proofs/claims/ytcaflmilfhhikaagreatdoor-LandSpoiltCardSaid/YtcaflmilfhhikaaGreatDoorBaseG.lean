/-
  Stores into elements of rows of the call's own; slices that are made; drawn regions with several effects open at once.
-/
import Derived.Test.YtcaflmilfhhikaaGreatDoorBaseF
namespace Go.Proofs.YtcaflmilfhhikaaGreatDoor
open Go.RowKit

/-- A store into a list, where there is such an element. -/
def setIx {α : Type} (xs : List α) (i : Int) (y : α) : Option (List α) := if 0 ≤ i ∧ i.toNat < xs.length then some (xs.set i.toNat y) else none
theorem setIx_some {α : Type} {xs zs : List α} {i : Int} {y : α} (h : setIx xs i y = some zs) : 0 ≤ i ∧ i.toNat < xs.length ∧ zs = xs.set i.toNat y := by
  unfold setIx at h
  split at h
  · rename_i h0; exact ⟨h0.1, h0.2, (Option.some.inj h).symm⟩
  · cases h
theorem setIx_len {α : Type} {xs zs : List α} {i : Int} {y : α} (h : setIx xs i y = some zs) : xs.length = zs.length := by
  obtain ⟨_, _, rfl⟩ := setIx_some h; simp
/-- 'make', as a list: up to some length. -/
def mkS {α : Type} (n : Int) (x : α) : Option (List α) := if 0 ≤ n ∧ n ≤ 1073741824 then some (List.replicate n.toNat x) else none
theorem mkS_some {α : Type} {n : Int} {x : α} {xs : List α} (h : mkS n x = some xs) : 0 ≤ n ∧ n ≤ 1073741824 ∧ xs = List.replicate n.toNat x := by
  unfold mkS at h
  split at h
  · rename_i h0; exact ⟨h0.1, h0.2, (Option.some.inj h).symm⟩
  · cases h
theorem splice_at {cells vs : List Value} {off j : Nat} (hfit : off + vs.length ≤ cells.length) : (splice cells off vs)[j]? = if off ≤ j ∧ j < off + vs.length then vs[j - off]? else cells[j]? := by
  unfold splice
  rw [List.append_assoc, List.getElem?_append, List.getElem?_append, List.getElem?_take, List.getElem?_drop, List.length_take]
  have hm : min off cells.length = off := by omega
  rw [hm]
  by_cases h1 : j < off
  · rw [if_pos h1, if_pos h1, if_neg (by omega)]
  · rw [if_neg h1]
    by_cases h2 : j - off < vs.length
    · rw [if_pos h2, if_pos (by omega)]
    · rw [if_neg h2, if_neg (by omega)]
      congr 1
      omega
theorem splice_length {cells vs : List Value} {off : Nat} (hfit : off + vs.length ≤ cells.length) : (splice cells off vs).length = cells.length := by
  unfold splice
  simp only [List.length_append, List.length_take, List.length_drop]
  omega
theorem Rd.set {α : Type} {R : Gm → List Value → α → Prop} {sz : Nat} {G : Gm} {cells vs cs : List Value} {xs : List α} {i k : Nat} {y : α} (h : Rd R sz G cells xs) (hi : i < xs.length) (hl : cs.length = sz)
    (hc : ∀ j u, cs[j]? = some u → cells[i * sz + j]? = some u) (hk : k + vs.length ≤ sz) (hR : R G (splice cs k vs) y) : Rd R sz G (splice cells (i * sz + k) vs) (xs.set i y) := by
  have hle : i * sz + sz ≤ cells.length := by
    rw [h.1, ← Nat.succ_mul]; exact Nat.mul_le_mul_right _ hi
  have hfit : i * sz + k + vs.length ≤ cells.length := by omega
  refine ⟨by rw [splice_length hfit, h.1, List.length_set], fun q x hx => ?_⟩
  by_cases hq : q = i
  · subst hq
    rw [List.getElem?_set_self hi] at hx
    cases hx
    refine ⟨splice cs k vs, by rw [splice_length (by omega)]; exact hl, fun j u hj => ?_, hR⟩
    rw [splice_at (by omega)] at hj
    rw [splice_at hfit]
    by_cases hjk : k ≤ j ∧ j < k + vs.length
    · rw [if_pos hjk] at hj
      rw [if_pos (by omega)]
      rw [show q * sz + j - (q * sz + k) = j - k by omega]
      exact hj
    · rw [if_neg hjk] at hj
      rw [if_neg (by omega)]
      exact hc j u hj
  · rw [List.getElem?_set_ne (fun e => hq e.symm)] at hx
    obtain ⟨cs', p1, p2, p3⟩ := h.2 q x hx
    refine ⟨cs', p1, fun j u hj => ?_, p3⟩
    rw [splice_at hfit]
    have hjs : j < sz := by rw [← p1]; exact (List.getElem?_eq_some_iff.1 hj).1
    rw [if_neg ?_]
    · exact p2 j u hj
    · rintro ⟨a1, a2⟩
      rcases Nat.lt_or_gt_of_ne hq with hlt | hgt
      · have : q * sz + sz ≤ i * sz := by rw [← Nat.succ_mul]; exact Nat.mul_le_mul_right _ hlt
        omega
      · have : i * sz + sz ≤ q * sz := by rw [← Nat.succ_mul]; exact Nat.mul_le_mul_right _ hgt
        omega
theorem Rd.rep {α : Type} {R : Gm → List Value → α → Prop} {sz : Nat} {G : Gm} {c : List Value} {x : α} (hl : c.length = sz) (hR : R G c x) : ∀ (n : Nat), Rd R sz G (List.replicate n c).flatten (List.replicate n x)
  | 0 => by simpa using Rd.nil R sz G
  | n + 1 => by
    rw [List.replicate_succ, List.replicate_succ, List.flatten_cons]
    exact Rd.cons hl hR (Rd.rep hl hR n)
section
variable {κ : Ctx} {p : List PanicEntry → Fr → World → Prop} {P : Program} {N : Nat} {F : Fr} {w : World} {K : Fr → World → Prop} {d : Nat} {ty : TypeId} {pos : String} {af : Array Edge} {gd : Option (Nat × Bool)} {G G0 : Gm} {w0 : World} {B : Nat} {L : List Row}
/-- A store into an element, or a part of one, of a row of the call's own. -/
theorem OpP_storeE {α : Type} {R : Gm → List Value → α → Prop} {T m k e sz n n' cap g o j : Nat} {ao : Option Addr} {X Y : Operand} {cells vs cs : List Value} {v : Value} {xs zs : List α} {i : Int} {y : α}
    (hT : szB P T = some m) (hS : Since B G0 w0 G w) (hO : Owns G w B L) (hk : L[k]? = some ⟨e, sz, n', .slice ao n cap, cells⟩) (hn : n' = xs.length) (hnn : n = n') (hrd : Rd R sz G cells xs) (ha : ao = some ⟨g, o, none⟩)
    (hl : cs.length = sz) (hc : ∀ j u, cs[j]? = some u → cells[i.toNat * sz + j]? = some u) (hset : setIx xs i y = some zs) (hR : R G (splice cs j vs) y)
    (hX : ev F X = .pointer (some ⟨g, o + i.toNat * sz + j, none⟩)) (hY : ev F Y = v) (hv : v.cells.toList = vs) (hm : vs.length = m) (h1 : ∀ u ∈ vs, u.oneCell' = true) (hfit : j + vs.length ≤ sz)
    (h : ∀ w' cells', Since B G0 w0 G w' → Owns G w' B (L.set k ⟨e, sz, n', .slice ao n cap, cells'⟩) → Rd R sz G cells' zs → K F w') :
    OpP κ P N p ⟨none, .store T X Y, ty, pos, af, gd⟩ F w K := by
  subst ha
  subst hnn
  obtain ⟨p1, p2, rfl⟩ := setIx_some hset
  have hfit' : i.toNat * sz + j + vs.length ≤ cells.length := by
    rw [hrd.1]
    have : i.toNat * sz + sz ≤ xs.length * sz := by rw [← Nat.succ_mul]; exact Nat.mul_le_mul_right _ p2
    omega
  exact OpP_storeO hT hS hO hk (by rw [hX, Nat.add_assoc]) hY hv hm h1 hfit' fun w' a b => h w' _ a b (hrd.set p2 hl hc hfit hR)
/-- 'make([]T, n)'. -/
theorem OpP_make {α : Type} {R : Gm → List Value → α → Prop} {T e sz bytes : Nat} {X Y : Operand} {nn : Int} {k1 k2 : IntKind} {x : α} {xs : List α} {z : List Value}
    (hT : slB P T = some (e, sz, bytes)) (hz : (P.info? e).bind (fun i => i.zero.map (fun v => v.cells.toList)) = some z) (hS : Since B G0 w0 G w) (hO : Owns G w B L) (hxs : mkS nn x = some xs) (hR : R G z x)
    (hX : ev F X = .int k1 nn) (hY : ev F Y = .int k2 nn) (hd : Nat.blt d N = true) (hby : Nat.ble bytes 65536 = true)
    (h : ∀ b w' cells, Since B G0 w0 G w' → Owns G w' B (⟨e, sz, xs.length, .slice (some ⟨b, 0, none⟩) xs.length xs.length, cells⟩ :: L) → Rd R sz G cells xs → K (upd F d (.slice (some ⟨b, 0, none⟩) xs.length xs.length)) w') :
    OpP κ P N p ⟨some d, .makeSlice T X Y, ty, pos, af, gd⟩ F w K := by
  obtain ⟨p1, p2, rfl⟩ := mkS_some hxs
  obtain ⟨ht, i, zv, hi, hzv, rfl, rfl, hzs, hsz⟩ := slB_spec hT
  have hzz : z = zv.cells.toList := by rw [hi] at hz; simp [hzv] at hz; exact hz.symm
  have hby' := Nat.le_of_ble_eq_true hby
  obtain ⟨n, rfl⟩ := Int.eq_ofNat_of_zero_le p1
  simp only [Int.toNat_natCast, List.length_replicate] at *
  have hn : n ≤ 1073741824 := by omega
  have hb2 : i.bytes * n ≤ 281474976710656 := by
    have h1 : i.bytes * n ≤ 65536 * 1073741824 := Nat.mul_le_mul hby' hn
    omega
  have hzl : zv.cells.size = i.size := hzs
  subst hzz
  have hlen : (List.replicate n zv.cells.toList).flatten.length = n * i.size := by simp [hzl]
  have hmade : madeCells zv.cells (n * i.size) = (List.replicate n zv.cells.toList).flatten.toArray := by
    apply Array.ext'
    apply List.ext_getElem?
    intro q
    unfold madeCells
    by_cases hq : q < n * i.size
    · simp only [Array.toList_map, Array.toList_range, List.getElem?_map, List.getElem?_range hq, Option.map_some]
      have hqm : q % zv.cells.size < zv.cells.size := Nat.mod_lt _ (by omega)
      rw [getElem!_pos zv.cells _ hqm]
      obtain ⟨cs, e1, e2, e3⟩ := (Rd.rep (R := fun _ cs (y : Unit) => cs = zv.cells.toList) (sz := i.size) (G := G) (c := zv.cells.toList) (x := ()) (by simpa using hzl) rfl n).2 (q / i.size) () (by
        rw [List.getElem?_replicate, if_pos ((Nat.div_lt_iff_lt_mul hsz).2 hq)])
      have hj : cs[q % i.size]? = some zv.cells[q % zv.cells.size] := by
        rw [e3]
        have hqm' : q % i.size < zv.cells.size := by rw [hzl]; exact Nat.mod_lt _ hsz
        simp [hzl]
      have := e2 (q % i.size) _ hj
      rw [show q / i.size * i.size + q % i.size = q from Nat.div_add_mod' q i.size] at this
      exact this.symm
    · rw [List.getElem?_eq_none (by simp; omega), List.getElem?_eq_none (by rw [List.toList_toArray, hlen]; omega)]
  have hnew := hO.new hS.sat e i.size n (List.replicate n zv.cells.toList).flatten hlen (by simp only [maxLen]; omega)
  have hbi : (i.bytes : Int) * (n : Int) ≤ 281474976710656 := by
    have h : ((i.bytes * n : Nat) : Int) ≤ 281474976710656 := by omega
    rwa [Int.natCast_mul] at h
  have hr := run_make (P := P) w T e i zv ht hi hzv k1 k2 n n (by omega) (Int.le_refl _) hbi (by omega)
  refine OpP_eff (v := .slice (some ⟨w.heap.size, 0, none⟩) n n) (w' := w.alloc (.cells (List.replicate n zv.cells.toList).flatten.toArray e)) ?_ hd (.alloc _ _) (h _ _ _ (hS.keep ((Below.refl _ w).alloc (Nat.le_refl _) _)) hnew (Rd.rep (by simpa using hzl) hR n))
  simp only [execOp, hX, hY, Sem.run_bind, hr, Result.andThen_ok, Sem.run_pure]
  simp [hmade]
end
end Go.Proofs.YtcaflmilfhhikaaGreatDoor
