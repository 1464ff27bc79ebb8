/-
 The council: what asks of a memory whether it is one of the book; the line of a strip.
-/
import Derived.Test.YtncjnffbdhckdaaGreatDoorCa
namespace Go.Proofs.YtncjnffbdhckdaaGreatDoor
open Go.RowKit
set_option linter.unusedVariables false
set_option maxRecDepth 20000
theorem sz32c : szB Tryz.prog 32 = some 3 := by kernel_rfl
theorem sz30c : szB Tryz.prog 30 = some 1 := by kernel_rfl
theorem cb26c : callB Tryz.prog 26 = true := by kernel_rfl
theorem cb34c : callB Tryz.prog 34 = true := by kernel_rfl
abbrev mC (x : TLandMemory) : List Value := [iV x.From, iV x.To, iV x.Years.Low, iV x.Years.High]
theorem CoW.book {w : World} {b : Nat} {p e m a : Value} (h : CoW w b p e m a) : ∀ j v, [p, e, m][j]? = some v → w.cell? ⟨b, 17 + j, none⟩ = some v
 | 0, v, hj => by cases hj; exact h.pe
 | 1, v, hj => by cases hj; exact h.ev
 | 2, v, hj => by cases hj; exact h.me
 | j + 3, v, hj => by simp at hj
theorem f25_ok {G0 : Gm} {w0 : World} (hS0 : Sat G0 w0) {b c d : Nat} {bk : TLandBook} {x : TLandMemory} {a1 a2 a3 : Option Addr} {n1 c1 n2 c2 n3 c3 : Nat} {ac : Value} (h1 : RSl RTLandPerson 2 G0 a1 n1 c1 bk.People) (h2 : RSl RTLandEvent 2 G0 a2 n2 c2 bk.Events)
  (hco : CoW w0 b (.slice a1 n1 c1) (.slice a2 n2 c2) (.slice a3 n3 c3) ac) (hc : w0.cell? ⟨c, 0, none⟩ = some (pV b)) (hd : ∀ j v, (mC x)[j]? = some v → w0.cell? ⟨d, 0 + j, none⟩ = some v) {r : Int} (H : f26 ⟨bk.People, bk.Events, [x]⟩ = some r) :
  Calls Tryz.prog 25 #[pV c, pV d] w0 (RetV w0 (.bool (r == 0))) := by
 have hS := Since.start hS0
 have hO := own0 G0 w0
 refine enter1 (N := 15) (shutV _ _) Tryz.func25 rfl rfl rfl rfl (zQ (zR (zV (zA (v := .bool false) rfl) rfl (zN (zQ (zR (zV (zL na50c rfl hc) rfl (zV (v := pV b) (by kernel_rfl) rfl (zV (zF fd87_0 rfl) rfl (zV (zF fd49_2 rfl) rfl (zV (rn_loadA (cs := [.slice a1 n1 c1, .slice a2 n2 c2, .slice a3 n3 c3]) ag32 rfl rfl hco.book) rfl ?_)))))))))))
 refine zO rfl (zU (v := fun b => pV b) (cs := [.slice none 0 0, .slice none 0 0, .slice none 0 0]) (e := 32) (by kernel_rfl) hS.sat hO rfl 3 1 rfl (by decide) fun b3 w1 hb hO => ?_)
 have hS := hS.keep hb
 refine zO rfl (OpP_store (vs := [.slice a1 n1 c1, .slice a2 n2 c2, .slice a3 n3 c3]) sz32c hS hO (k := 0) rfl rfl rfl rfl rfl (one_all rfl) (Nat.le_of_ble_eq_true rfl) fun w2 hS hO => ?_)
 have hO : Owns G0 w2 w0.heap.size [⟨32, 3, 1, .slice (some ⟨b3, 0, none⟩) 1 1, [.slice a1 n1 c1, .slice a2 n2 c2, .slice a3 n3 c3]⟩] := hO
 refine zN (zQ (zR (zV (rn_loadA (cs := mC x) ag59 rfl rfl fun j v hj => cell_below hS.below (hd j v hj)) rfl ?_)))
 refine zO rfl (OpP_newF (v := fun b => .slice (some ⟨b, 0, none⟩) 1 1) (cs := mC x) (e := 59) (by kernel_rfl) hS.sat rfl fun b4 G4 w4 hg hcb4 => ?_)
 have hS := hS.grow hg
 have hO := hO.grow hg
 refine zV (zF fd32_2c rfl) rfl (zO rfl (OpP_store (vs := [.slice (some ⟨b4, 0, none⟩) 1 1]) sz30c hS hO (k := 0) rfl rfl rfl rfl rfl (one_all rfl) (Nat.le_of_ble_eq_true rfl) fun w5 hS hO => ?_))
 have hO : Owns G4 w5 w0.heap.size [⟨32, 3, 1, .slice (some ⟨b3, 0, none⟩) 1 1, [.slice a1 n1 c1, .slice a2 n2 c2, .slice (some ⟨b4, 0, none⟩) 1 1]⟩] := hO
 refine zN (zQ (zR (zV (rn_loadA (cs := [.slice a1 n1 c1, .slice a2 n2 c2, .slice (some ⟨b4, 0, none⟩) 1 1]) ag32 rfl rfl fun j v hj => by rw [Nat.zero_add]; exact own_cell hO (k := 0) rfl hj) rfl ?_)))
 refine zO rfl (zC cb26c (f26_ok (x0 := ⟨bk.People, bk.Events, [x]⟩) hS.sat (h1.mono RTLandPerson_mono hg.le) (h2.mono RTLandEvent_mono hg.le) (RSl.of_rd hcb4 (Rd.cons (c := mC x) rfl rfl (Rd.nil _ _ _)) rfl (show 1 ≤ maxLen by decide)) H) rfl rfl fun w6 hb => ?_)
 have hS := hS.keep hb
 refine zV (rn_eql rfl rfl) rfl (zV (zA (v := .bool (r == 0)) rfl) rfl (zN (zr ?_)))
 exact ⟨rfl, hS.below⟩
theorem f11_ok {G0 : Gm} {w0 : World} (hS0 : Sat G0 w0) {b : Nat} {bk : TLandBook} {st : Int} {a1 a2 a3 : Option Addr} {n1 c1 n2 c2 n3 c3 : Nat} {ac : Value} (h1 : RSl RTLandPerson 2 G0 a1 n1 c1 bk.People) (h2 : RSl RTLandEvent 2 G0 a2 n2 c2 bk.Events) (h3 : RSl RTLandMemory 4 G0 a3 n3 c3 bk.Memories)
  (hco : CoW w0 b (.slice a1 n1 c1) (.slice a2 n2 c2) (.slice a3 n3 c3) ac) {r : List Int × Int × Int} (H : f34 bk st = some r) :
  Calls Tryz.prog 11 #[pV b, iV st] w0 (RetG G0 w0 (fun G v => ∃ (ra0 : Option Addr) (rn0 rc0 : Nat), v = .tuple #[.slice ra0 rn0 rc0, iV r.2.1, iV r.2.2] ∧ RSl RInt 1 G ra0 rn0 rc0 r.1)) := by
 have hS := Since.start hS0
 refine enter3 (N := 19) (shutG _ _ _) Tryz.func11 rfl rfl rfl rfl (zQ (zR (zV (zA (v := .slice none 0 0) rfl) rfl (zV (zA (v := iV 0) rfl) rfl (zV (zA (v := iV 0) rfl) rfl (zN (zQ (zQ (zR (zV (zm (v := pV b) rfl) rfl ?_))))))))))
 refine zO rfl (zC cb33c (f33_ok hco) rfl rfl fun w1 hb => ?_)
 have hco := hco.below hb
 have hS := hS.keep hb
 refine zN (zT rfl (fun h => by cases h) (fun _ => zP (zQ (zR (zV (zm (v := pV b) rfl) rfl (zV (v := pV b) (by kernel_rfl) rfl (zV (zF fd87_0 rfl) rfl (zV (zF fd49_2 rfl) rfl (zV (rn_loadA (cs := [.slice a1 n1 c1, .slice a2 n2 c2, .slice a3 n3 c3]) ag32 rfl rfl hco.book) rfl (zV (zm (v := iV st) rfl) rfl ?_))))))))))
 refine zO rfl (OpP_callG cb34c (f34_ok (x0 := bk) (x1 := st) hS.sat h1 h2 h3 H) rfl rfl fun v G' w2 hg hv => ?_)
 obtain ⟨ra, rn, rc, rfl, hr⟩ := hv
 have hS := hS.grow hg
 refine zV (zX rfl rfl) rfl (zV (zX rfl rfl) rfl (zV (zX rfl rfl) rfl (zV (zA (v := .slice ra rn rc) rfl) rfl (zV (zA (v := iV r.2.1) rfl) rfl (zV (zA (v := iV r.2.2) rfl) rfl (zN (zr ?_)))))))
 exact ⟨_, _, rfl, hS.toGrow, _, _, _, rfl, hr⟩
end Go.Proofs.YtncjnffbdhckdaaGreatDoor
