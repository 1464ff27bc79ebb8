/-
  Lists that are as long as a slice may be are appended to.
-/
import Derived.Test.YtcaflmilfhhikaaGreatDoorIns
namespace Go.Proofs.YtcaflmilfhhikaaGreatDoor
open Go.RowKit
set_option linter.unusedVariables false

def appB {α : Type} (m : Nat) (xs ys : List α) : Option (List α) := if xs.length + ys.length ≤ m then some (xs ++ ys) else none
theorem appB_some {α : Type} {m : Nat} {xs ys zs : List α} (h : appB m xs ys = some zs) : xs.length + ys.length ≤ m ∧ zs = xs ++ ys := by
  unfold appB at h
  split at h
  · exact ⟨‹_›, (Option.some.inj h).symm⟩
  · cases h
section
variable {κ : Ctx} {p : List PanicEntry → Fr → World → Prop} {P : Program} {N : Nat} {F : Fr} {w : World} {K : Fr → World → Prop} {d : Nat} {ty : TypeId} {pos : String} {af : Array Edge} {gd : Option (Nat × Bool)} {G G0 : Gm} {w0 : World} {B : Nat} {L : List Row}
theorem OpP_appendB {α : Type} {R : Gm → List Value → α → Prop} {k e sz n n' cp m c T lim : Nat} {bytes : Nat} {ad ao : Option Addr} {X Y : Operand} {ats : Array TypeId} {cells : List Value} {xs ys zs : List α}
    (hT : slB P T = some (e, sz, bytes)) (hone : One R) (hS : Since B G0 w0 G w) (hO : Owns G w B L) (hk : L[k]? = some ⟨e, sz, n', .slice ao n cp, cells⟩) (hn : n' = xs.length) (hrd : Rd R sz G cells xs) (hs : RSl R sz G ad m c ys) (hz : appB lim xs ys = some zs)
    (hat : ats = #[T, T]) (hX : ev F X = .slice ao n cp) (hY : ev F Y = .slice ad m c) (hd : Nat.blt d N = true) (hby : Nat.ble (lim * bytes) 140737488355328 = true) (hli : Nat.ble lim 9223372036854775807 = true)
    (h : ∀ a cp' w' cells', Since B G0 w0 G w' → Owns G w' B (L.set k ⟨e, sz, zs.length, .slice a zs.length cp', cells'⟩) → Rd R sz G cells' zs → K (upd F d (.slice a zs.length cp')) w') :
    OpP κ P N p ⟨some d, .call { callee := .builtin .append, args := #[X, Y], argTypes := ats }, ty, pos, af, gd⟩ F w K := by
  obtain ⟨hlim, rfl⟩ := appB_some hz
  subst hat
  subst hn
  obtain ⟨news, p1, p2, p3, p4⟩ := hs.cells hone
  have hm : m = ys.length := hs.1
  have hc := hO.each _ (List.mem_of_getElem? hk)
  have hby' := Nat.le_of_ble_eq_true hby
  have hli' := Nat.le_of_ble_eq_true hli
  have hbig : (xs.length + m) * bytes ≤ 140737488355328 := by
    have h1 : (xs.length + m) * bytes ≤ lim * bytes := Nat.mul_le_mul_right _ (by omega)
    omega
  obtain ⟨v', w', hrun, q1, q2, q3, a, c', rfl⟩ := run_app (P := P) hT (hc.1 : ORow w B e sz (.slice ao n cp) xs.length cells) ⟨_, _, _, rfl⟩ hO.base (ad := ad) (m := m) (c := c) p1 (fun a ha j u hj => hS.sat.cell (p4 a ha j u hj)) (fun h0 => by
    cases hys : ys with
    | nil => rw [hm, hys]; rfl
    | cons y ys' =>
      obtain ⟨b, off, cs, e1, _⟩ := hs.2.2 0 y (by rw [hys]; rfl)
      rw [h0] at e1
      cases e1) p3 (by simp only [maxLen]; omega) hbig ty
  have hlen : (xs ++ ys).length = xs.length + m := by rw [List.length_append, hm]
  have hdiff : ∀ b, b < w.heap.size → blkOf (Value.slice ao n cp) ≠ some b → w'.heap[b]? = w.heap[b]? := fun b hb hne => q2.block b hb (fun e => hne e.symm)
  have hsat : Sat G w' := sat_write hS.sat hc hdiff
  have hbel : Below B w w' := ⟨q2.os, q2.tape, q2.output, q2.size, fun b hb => hdiff b (Nat.lt_of_lt_of_le hb hO.base) (fun e => by have := (hc.lt e).1; omega)⟩
  refine OpP_eff (v := .slice a (xs.length + m) c') (w' := w') ?_ hd (keeps_row hc q2.size hdiff) ?_
  · simp only [execOp, resolve, invoke, builtin, Sem.run_bind, Sem.run_pure, Result.andThen_ok, List.map_toArray, List.map_cons, List.map_nil, hX, hY, hrun]
  · rw [← hlen]
    rw [← hlen] at q1 q3
    refine h a c' w' (cells ++ news) (hS.write hsat hbel) (hO.write hk q2.size hdiff ⟨q1, fun g hg => ?_⟩ q3) (hrd.append p2)
    rcases q3 g hg with h' | h'
    · exact hc.2 g h'
    · cases hG : G g with
      | none => rfl
      | some o => exact absurd (hS.sat.lt hG) (by omega)
end
/-! ### How long a slice inside a struct can be -/
theorem each_mem {H : Type} {P : Program} {q : Nat} : ∀ {ts : List TypeId} {ds : List (DataW H)} {i : Nat} {t : TypeId} {d : DataW H}, ts[i]? = some t → ds[i]? = some d → q ∈ d.weights P t → q ∈ DataW.weightsEach P ts ds
  | [], _, i, _, _, h, _, _ => by simp at h
  | _ :: _, [], i, _, _, _, h, _ => by simp at h
  | t :: ts, d :: ds, 0, _, _, h1, h2, h3 => by
    simp at h1 h2
    subst h1; subst h2
    rw [DataW.weightsEach]
    exact List.mem_append_left _ h3
  | t :: ts, d :: ds, i + 1, _, _, h1, h2, h3 => by
    rw [DataW.weightsEach]
    exact List.mem_append_right _ (each_mem (i := i) (by simpa using h1) (by simpa using h2) h3)
theorem slice_room {H : Type} {enc : TypeId × Value → H} {P : Program} {W : World} {base fuel : Nat} {sp : Nat → Bool} {held : Bool} {t e i o : Nat} {fs : Array Field} {f : Field} {cs : List Value} {d : DataW H} {pl : List MemPlace} {a : Option Addr} {n c : Nat}
    (ht : P.underlying t = some (.struct fs)) (hf : fs[i]? = some f) (hft : P.underlying f.type = some (.slice e)) (ho : f.offset = o) (hm : P.cellsOf f.type = 1) (h : DataW.trod enc P W base sp held fuel t cs = some (d, pl)) (hc : cs[o]? = some (.slice a n c)) {M : Nat} (hw : ∀ q ∈ d.weights P t, q ≤ M) : n * P.bytesOf e ≤ M := by
  obtain ⟨xs, m, _, hx, hl, hlen, hfl⟩ := DataW.trod_struct ht h
  have hd : d = .agg (xs.map (·.1)) := congrArg Prod.fst hx
  have h1 := hfl i f hf
  rw [ho, hm] at h1
  have h2 : (cs.drop o).take 1 = [.slice a n c] := by
    obtain ⟨hlt, hv⟩ := List.getElem?_eq_some_iff.1 hc
    rw [List.drop_eq_getElem_cons hlt, hv]
    rfl
  rw [h2] at h1
  have hi : i < xs.length := by
    rw [hlen]
    exact (Array.getElem?_eq_some_iff.1 hf).1
  rw [List.getElem?_eq_getElem hi] at h1
  rcases DataW.trod_slice hft h1 with ⟨e1, _⟩ | ⟨ad, len, cap, elems, rest, k, _, e1, e2, _, _, _, e3, _⟩
  · have e1' : Value.slice a n c = .slice none 0 0 := (List.cons.inj e1).1
    cases e1'
    simp
  · have e1' : Value.slice a n c = .slice (some ad) len cap := (List.cons.inj e1).1
    cases e1'
    have hmem : (elems.length + rest.length) * P.bytesOf e ∈ d.weights P t := by
      rw [hd]
      unfold DataW.weights
      rw [ht]
      refine each_mem (i := i) (t := f.type) (d := xs[i].1) ?_ ?_ ?_
      · rw [List.getElem?_map, Array.getElem?_toList, hf]; rfl
      · rw [List.getElem?_map, List.getElem?_eq_getElem hi]; rfl
      · rw [e2]
        unfold DataW.weights
        rw [hft]
        simp
    have := hw _ hmem
    have h3 : elems.length * P.bytesOf e ≤ (elems.length + rest.length) * P.bytesOf e := Nat.mul_le_mul_right _ (Nat.le_add_right _ _)
    rw [e3] at h3 this
    omega
end Go.Proofs.YtcaflmilfhhikaaGreatDoor
