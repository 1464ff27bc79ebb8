/-
 The council: the functions that only read it.
-/
import Derived.Test.YtncjnffbdhckdaaGreatDoorW3
namespace Go.Proofs.YtncjnffbdhckdaaGreatDoor
open Go.RowKit
set_option linter.unusedVariables false
set_option maxRecDepth 20000
theorem fd49_2 : fldB Tryz.prog 49 2 = some 17 := by kernel_rfl
theorem fd87_0 : fldB Tryz.prog 87 0 = some 0 := by kernel_rfl
theorem fd87_10 : fldB Tryz.prog 87 10 = some 60 := by kernel_rfl
theorem fd87_11 : fldB Tryz.prog 87 11 = some 61 := by kernel_rfl
theorem fd32_2c : fldB Tryz.prog 32 2 = some 2 := by kernel_rfl
theorem na50c : naB Tryz.prog 50 = true := by kernel_rfl
theorem na4c : naB Tryz.prog 4 = true := by kernel_rfl
theorem na85c : naB Tryz.prog 85 = true := by kernel_rfl
theorem na30c : naB Tryz.prog 30 = true := by kernel_rfl
theorem sl85c : ∃ e sz by', slB Tryz.prog 85 = some (e, sz, by') := by
 have h : (slB Tryz.prog 85).isSome = true := by kernel_rfl
 obtain ⟨⟨e, sz, b⟩, h⟩ := Option.isSome_iff_exists.1 h
 exact ⟨e, sz, b, h⟩
theorem cb33c : callB Tryz.prog 33 = true := by kernel_rfl
theorem cb32c : callB Tryz.prog 32 = true := by kernel_rfl
structure CoW (w : World) (b : Nat) (p e m a : Value) : Prop where
 pe : w.cell? ⟨b, 17, none⟩ = some p
 ev : w.cell? ⟨b, 18, none⟩ = some e
 me : w.cell? ⟨b, 19, none⟩ = some m
 ac : w.cell? ⟨b, 60, none⟩ = some a
 op : w.cell? ⟨b, 61, none⟩ = some (.bool true)
theorem cell_below {w w' : World} (h : Below w.heap.size w w') {a : Addr} {v : Value} (hc : w.cell? a = some v) : w'.cell? a = some v := by
 unfold World.cell? at hc ⊢
 cases ho : w.heap[a.block]? with
 | none => rw [ho] at hc; cases hc
 | some o =>
  rw [ho] at hc
  rw [h.block _ (Array.getElem?_eq_some_iff.1 ho).1, ho]
  exact hc
theorem CoW.below {w w' : World} {b : Nat} {p e m a : Value} (h : CoW w b p e m a) (hb : Below w.heap.size w w') : CoW w' b p e m a := ⟨cell_below hb h.pe, cell_below hb h.ev, cell_below hb h.me, cell_below hb h.ac, cell_below hb h.op⟩
section
variable {P : Program} {F : Fr} {w : World} {od : Option Nat} {ty t u e : TypeId} {pos : String} {af : Array Edge} {gd : Option (Nat × Bool)} {X Y : Operand} {a : Addr}
theorem rn_eqlSNc (hT : P.underlying t = some (.pointer e)) (hx : ev F X = .pointer (some a)) (hy : ev F Y = .pointer none) : (execOp (ev F) ⟨od, .binOp .eql t X Y u, ty, pos, af, gd⟩).run P w = .ok (.value (.bool false)) w := by
 have h : ∀ d : Nat, (Op.equalIn (d + 1) t (.pointer (some a)) (.pointer none)).run P w = .ok false w := fun d => by simp [Op.equalIn, run_underlying hT]
 simp [execOp, hx, hy, eqGuard, binOp, Op.equal, Op.maxDepth, h 9999]
end
theorem f33_ok {w0 : World} {b : Nat} {p e m a : Value} (h : CoW w0 b p e m a) : Calls Tryz.prog 33 #[pV b] w0 (RetV w0 (.bool false)) := by
 refine enter1 (N := 12) (shutV _ _) Tryz.func33 rfl rfl rfl rfl (zQ (zR (zV (zA (v := .bool false) rfl) rfl (zN (zQ (zR (zV (zm (v := pV b) rfl) rfl (zV (rn_eqlSNc Tryz.underlying50 rfl rfl) rfl (zV (zm (v := .bool false) rfl) rfl ?_)))))))))
 refine zY rfl rfl rfl rfl (zV (zm (v := pV b) rfl) rfl ?_)
 refine zY rfl rfl rfl rfl (zV (v := pV b) (by kernel_rfl) rfl ?_)
 refine zY rfl rfl rfl rfl (zV (zF fd87_11 rfl) rfl ?_)
 refine zY rfl rfl rfl rfl (zV (zL na4c rfl h.op) rfl ?_)
 refine zY rfl rfl rfl rfl (zV (rn_not rfl) rfl ?_)
 refine zV (rn_pickF (v := .bool false) rfl rfl rfl) rfl (zV (zA (v := .bool false) rfl) rfl (zN (zr ?_)))
 exact ⟨rfl, Below.refl _ _⟩
theorem f32_val (is : Bool) (x : Int) (w0 : World) : Calls Tryz.prog 32 #[.bool is, iV x] w0 (RetV w0 (iV (cond is 0 x))) := by
 refine enter1 (N := 7) (shutV _ _) Tryz.func32 rfl rfl rfl rfl (zQ (zR (zV (zA (v := iV 0) rfl) rfl (zN (zQ (zQ (zR (zV (zm (v := .bool is) rfl) rfl (zN (zT rfl (fun hb => ?_) (fun hb => ?_)))))))))))
 ·subst hb
  refine zQ (zR (zV (zA (v := iV 0) rfl) rfl (zN (zr ?_))))
  exact ⟨rfl, Below.refl _ _⟩
 ·subst hb
  refine zP (zQ (zR (wr 2 rfl (zN (zr ?_)))))
  exact ⟨rfl, Below.refl _ _⟩
theorem f75_ok {w0 : World} {b c : Nat} {p e m a : Value} (h : CoW w0 b p e m a) (hc : w0.cell? ⟨c, 0, none⟩ = some (pV b)) : Calls Tryz.prog 75 #[pV c] w0 (RetV w0 (iV 0)) := by
 refine enter1 (N := 6) (shutV _ _) Tryz.func75 rfl rfl rfl rfl (zQ (zR (zV (zA (v := iV 0) rfl) rfl (zN (zQ (zR (zV (zL na50c rfl hc) rfl ?_)))))))
 refine zO rfl (zC cb33c (f33_ok h) rfl rfl fun w1 h1 => ?_)
 refine zV (rn_not rfl) rfl (zO rfl (zC cb32c (f32_val true 1 w1) rfl rfl fun w2 h2 => ?_))
 refine zV (zA (v := iV 0) rfl) rfl (zN (zr ?_))
 exact ⟨rfl, h1.trans (h2.mono h1.size)⟩
theorem f77_ok {w0 : World} {b c : Nat} {p e m : Value} {ad : Option Addr} {n cp : Nat} (h : CoW w0 b p e m (.slice ad n cp)) (hc : w0.cell? ⟨c, 0, none⟩ = some (pV b)) : Calls Tryz.prog 77 #[pV c] w0 (RetV w0 (iV (cond (decide ((n : Int) < 100)) 0 6))) := by
 obtain ⟨e', sz, by', hs⟩ := sl85c
 refine enter1 (N := 9) (shutV _ _) Tryz.func77 rfl rfl rfl rfl (zQ (zR (zV (zA (v := iV 0) rfl) rfl (zN (zQ (zR (zV (zL na50c rfl hc) rfl (zV (v := pV b) (by kernel_rfl) rfl (zV (zF fd87_10 rfl) rfl (zV (zL na85c rfl h.ac) rfl (zV (rn_len hs rfl rfl rfl) rfl (zV (zl rfl rfl) rfl ?_))))))))))))
 refine zO rfl (zC cb32c (f32_val _ 6 w0) rfl rfl fun w2 h2 => ?_)
 refine zV (zA (v := iV (cond (decide ((n : Int) < 100)) 0 6)) rfl) rfl (zN (zr ?_))
 exact ⟨rfl, h2⟩
theorem f28_ok {w0 : World} {b c : Nat} {p e a : Value} {ad : Option Addr} {n cp : Nat} (h : CoW w0 b p e (.slice ad n cp) a) (hc : w0.cell? ⟨c, 0, none⟩ = some (pV b)) : Calls Tryz.prog 28 #[pV c] w0 (RetV w0 (.bool (decide ((n : Int) < 10)))) := by
 refine enter1 (N := 10) (shutV _ _) Tryz.func28 rfl rfl rfl rfl (zQ (zR (zV (zA (v := .bool false) rfl) rfl (zN (zQ (zR (zV (zL na50c rfl hc) rfl (zV (v := pV b) (by kernel_rfl) rfl (zV (zF fd87_0 rfl) rfl (zV (zF fd49_2 rfl) rfl (zV (zF fd32_2c rfl) rfl (zV (zL na30c rfl h.me) rfl (zV (rn_len sl30 rfl rfl rfl) rfl (zV (zl rfl rfl) rfl (zV (zA (v := .bool (decide ((n : Int) < 10))) rfl) rfl (zN (zr ?_)))))))))))))))))
 exact ⟨rfl, Below.refl _ _⟩
end Go.Proofs.YtncjnffbdhckdaaGreatDoor
