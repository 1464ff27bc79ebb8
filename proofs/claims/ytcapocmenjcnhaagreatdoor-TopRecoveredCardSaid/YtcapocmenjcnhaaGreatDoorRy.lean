/-
 The reef: whether each place has its goal, given up by a panic.
-/
import Derived.Test.YtcapocmenjcnhaaGreatDoorRx
import Derived.Test.YtcapocmenjcnhaaGreatDoorBsC
import Derived.RecoverIn
import Derived.RangeFuncLeaves
import Derived.Test.YtcapocmenjcnhaaGreatDoorEvG3
set_option linter.unusedVariables false
set_option linter.unusedSimpArgs false
namespace Go.Proofs.YtcapocmenjcnhaaGreatDoor
open Go.RowKit
set_option maxRecDepth 20000
theorem c78 : zN Tryz.prog 78 = true := by kernel_rfl
theorem c77 : zN Tryz.prog 77 = true := by kernel_rfl
theorem c27 : zN Tryz.prog 27 = true := by kernel_rfl
def kC : List zr → List Int → Nat → Option (Nat × Int)
 | p :: ps, x :: xs, i => if x < p.Goal then some (i, p.Goal - x) else kC ps xs (i + 1)
 | _, _, _ => none
theorem zrz {ps : List zr} {X : List Int} {i : Nat} (hp : i < ps.length) (hx : i < X.length) : kC (ps.drop i) (X.drop i) i = if X[i] < ps[i].Goal then some (i, ps[i].Goal - X[i]) else kC (ps.drop (i + 1)) (X.drop (i + 1)) (i + 1) := by
 rw [List.drop_eq_getElem_cons hp, List.drop_eq_getElem_cons hx]
 rfl
abbrev shA (i : Nat) (d : Int) : Value := .agg #[iV (i : Int), iV d]
def zym : Option (Nat × Int) → Ending
 | none => .returned (.tuple #[])
 | some (i, d) => .panicked [{ v := .iface 94 (shA i d), recovered := false }]
section
variable {G0 : Gm} {w0 : World}
set_option maxHeartbeats 1000000 in
theorem zxn {a1 a2 : Option Addr} {n1 c1 n2 c2 S : Nat} {x : qi} {tk : Nat → List qy} (hS0 : Sat G0 w0) (h1 : RSl zE 12 G0 a1 n1 c1 x.Reef.Places) (h2 : RSl zW 1 G0 a2 n2 c2 x.plan) (hs : x.Reef.Seasons = (S : Int)) (hS1 : 1 ≤ S)
  (htk : ∀ s, s < S → f93 x (s : Int) = some (tk s) ∧ (tk s).length ≤ 4) (ht : TruthOk x.Reef.Places S (x.Reef.Places.map (·.Count)) (jI x.Reef.Places S) (jH tk S)) :
  Calls Tryz.prog 78 [.agg #[.slice a1 n1 c1, iV x.Reef.Miss, iV x.Reef.Seasons, .slice a2 n2 c2]].toArray w0 (zlC w0 (zym (kC x.Reef.Places (qn x.Reef.Places (jI x.Reef.Places S) (jH tk S) (x.Reef.Places.map (·.Count)) S) 0))) := by
 have hS := Since.start hS0
 have hO : Owns G0 w0 w0.heap.size [] := Owns.nil (Nat.le_refl _)
 have hm := ht.pl.many
 obtain ⟨X, hX⟩ : ∃ X, X = qn x.Reef.Places (jI x.Reef.Places S) (jH tk S) (x.Reef.Places.map (·.Count)) S := ⟨_, rfl⟩
 have hXl : X.length = x.Reef.Places.length := by rw [hX, yY, List.length_map]
 have hXb : Bnd 1875000000 X := by
  rw [hX]
  have hb := zch ht.pl (fun gs hg g hh => ((ht.ge gs hg).2 g hh).1) (fun ks hk k hh => ((ht.te ks hk).2 k hh).1) ht.xb ht.xl S
  have h5' : (5 : Int) ^ S ≤ 625 := by
   have hS4 := ht.few
   have : S = 1 ∨ S = 2 ∨ S = 3 ∨ S = 4 := by omega
   rcases this with rfl | rfl | rfl | rfl <;> decide
  exact zfX hb (by omega)
 rw [← hX]
 refine zvn (N := 43) Tryz.func78 rfl rfl rfl rfl (zc (zb ?_))
 refine zp rfl (zI (v := fun b => pV b) (cs := [.slice a1 n1 c1, iV x.Reef.Miss, iV x.Reef.Seasons, .slice a2 n2 c2]) (e := 91) (z6 rfl) hS.sat rfl fun b1 G1 w1 hg1 hc1 => zd ?_)
 have hS := hS.grow hg1
 have hO := hO.grow hg1
 have h1 := h1.mono zl hg1.le
 have h2 := h2.mono zm hg1.le
 refine zc (qx (fun F w => ∃ Fb G3 ra rn rc, F = qC Fb [(1, pV b1), (2, .slice ra rn rc)] ∧ Gle G1 G3 ∧ Since w0.heap.size G0 w0 G3 w ∧ RSl (yd zW 1) 1 G3 ra rn rc (yk x.Reef.Places (jI x.Reef.Places S) (jH tk S) (x.Reef.Places.map (·.Count)) S)) ?_ ?_)
 ·refine zQ qA (fun _ w => Sat G1 w) (.fl 0 (.fl 1 (.two 2 (.two 3 (.fl 4 (.fl 5 (.fl 6 (.on 7 (.on 8 (.on 9 .nil)))))) 7 (.on 3 (.fl 4 (.fl 5 (.fl 6 (.on 8 (.on 9 .nil))))))) 7 (.on 2 (.on 3 (.fl 4 (.fl 5 (.fl 6 (.on 8 (.on 9 .nil)))))))))) (by kernel_rfl) rfl (by kernel_rfl) (fun _ => (hS.keep (zn _)).sat) ?_
  have hS := hS.keep (zn w1)
  have hO := hO.below (zn w1)
  have le : Gle G1 G1 := Gle.refl _
  refine zh rfl (fun w hw => zw g91 (cs := [.slice a1 n1 c1, iV x.Reef.Miss, iV x.Reef.Seasons, .slice a2 n2 c2]) rfl rfl fun j v hj => hw.cell (hc1 j v hj)) rfl (zh rfl (fun w hw => zw g91 (cs := [.slice a1 n1 c1, iV x.Reef.Miss, iV x.Reef.Seasons, .slice a2 n2 c2]) rfl rfl fun j v hj => hw.cell (hc1 j v hj)) rfl (zhU ?_ ?_))
  ·refine zt rfl rfl (zS zpV (zk8 hS.sat (h1.mono zl le) (h2.mono zm le) (by omega) hs ht.few htk) rfl rfl fun v G2 w2 hg2 hv => ?_)
   obtain ⟨a3, m3, c3, a4, m4, c4, a5, m5, c5, rfl, h3, h4, h5⟩ := hv
   have hS := hS.grow hg2
   have hO := hO.grow hg2
   have le := le.trans hg2.le
   refine ⟨fun _ _ => hS.sat.le le, ?_⟩
   refine zhU ?_ ?_
   ·have hcall := zhG (a2 := a2) (n2 := n2) (c2 := c2) (miss := x.Reef.Miss) hS.sat (h1.mono zl le) h3 h4 h5 ht
    rw [← hs] at hcall
    refine zt rfl rfl (zS c37 hcall rfl rfl fun v G3 w3 hg3 hv => ?_)
    obtain ⟨ra, rn, rc, l0, l1, l2, l3, l4, rfl, hr⟩ := hv
    have hS := hS.grow hg3
    have hO := hO.grow hg3
    have le := le.trans hg3.le
    refine ⟨fun _ _ => hS.sat.le le, ?_⟩
    refine zh rfl (fun w hw => zf (v := .tuple #[.slice ra rn rc, .agg #[iV l0, iV l1, iV l2, iV l3, iV l4]]) rfl) rfl (zh rfl (fun w hw => zT (v := .slice ra rn rc) rfl rfl) rfl (zh rfl (fun w hw => zT (v := .agg #[iV l0, iV l1, iV l2, iV l3, iV l4]) rfl rfl) rfl ?_))
    refine zt rfl rfl (zY (v := fun b => pV b) (cs := [iV 0, iV 0, iV 0, iV 0, iV 0]) (e := 66) (by kernel_rfl) hS.sat hO rfl 5 1 rfl (by decide) fun b3 w4 hb hO => ⟨fun _ _ => ((hS.keep hb).sat).le le, ?_⟩)
    have hS := hS.keep hb
    refine zt rfl rfl (zA (ze (v := .slice ra rn rc) rfl) rfl ⟨fun _ _ => hS.sat.le le, ?_⟩)
    refine zt rfl rfl (zM (vs := [iV l0, iV l1, iV l2, iV l3, iV l4]) z66 hS hO (k := 0) rfl rfl rfl rfl rfl (zR rfl) (Nat.le_of_ble_eq_true rfl) fun w5 hS hO => ⟨fun _ _ => hS.sat.le le, qk ?_⟩)
    exact ⟨_, _, ra, rn, rc, zi _ _ ⟨rfl, rfl, trivial⟩, le, hS, hr⟩
   ·refine zt rfl rfl (zY (v := fun b => pV b) (cs := [iV 0, iV 0, iV 0, iV 0, iV 0]) (e := 66) (by kernel_rfl) hS.sat hO rfl 5 1 rfl (by decide) fun b3 w4 hb hO => ⟨fun _ _ => ((hS.keep hb).sat).le le, ?_⟩)
    have hS := hS.keep hb
    have hcall := zhG (a2 := a2) (n2 := n2) (c2 := c2) (miss := x.Reef.Miss) hS.sat (h1.mono zl le) h3 h4 h5 ht
    rw [← hs] at hcall
    refine zt rfl rfl (zS c37 hcall rfl rfl fun v G3 w3 hg3 hv => ?_)
    obtain ⟨ra, rn, rc, l0, l1, l2, l3, l4, rfl, hr⟩ := hv
    have hS := hS.grow hg3
    have hO := hO.grow hg3
    have le := le.trans hg3.le
    refine ⟨fun _ _ => hS.sat.le le, ?_⟩
    refine zh rfl (fun w hw => zf (v := .tuple #[.slice ra rn rc, .agg #[iV l0, iV l1, iV l2, iV l3, iV l4]]) rfl) rfl (zh rfl (fun w hw => zT (v := .slice ra rn rc) rfl rfl) rfl (zh rfl (fun w hw => zT (v := .agg #[iV l0, iV l1, iV l2, iV l3, iV l4]) rfl rfl) rfl ?_))
    refine zt rfl rfl (zA (ze (v := .slice ra rn rc) rfl) rfl ⟨fun _ _ => hS.sat.le le, ?_⟩)
    refine zt rfl rfl (zM (vs := [iV l0, iV l1, iV l2, iV l3, iV l4]) z66 hS hO (k := 0) rfl rfl rfl rfl rfl (zR rfl) (Nat.le_of_ble_eq_true rfl) fun w5 hS hO => ⟨fun _ _ => hS.sat.le le, qk ?_⟩)
    exact ⟨_, _, ra, rn, rc, zi _ _ ⟨rfl, rfl, trivial⟩, le, hS, hr⟩
  ·refine zt rfl rfl (zY (v := fun b => pV b) (cs := [iV 0, iV 0, iV 0, iV 0, iV 0]) (e := 66) (by kernel_rfl) hS.sat hO rfl 5 1 rfl (by decide) fun b3 w4 hb hO => ⟨fun _ _ => ((hS.keep hb).sat).le le, ?_⟩)
   have hS := hS.keep hb
   refine zt rfl rfl (zS zpV (zk8 hS.sat (h1.mono zl le) (h2.mono zm le) (by omega) hs ht.few htk) rfl rfl fun v G2 w2 hg2 hv => ?_)
   obtain ⟨a3, m3, c3, a4, m4, c4, a5, m5, c5, rfl, h3, h4, h5⟩ := hv
   have hS := hS.grow hg2
   have hO := hO.grow hg2
   have le := le.trans hg2.le
   refine ⟨fun _ _ => hS.sat.le le, ?_⟩
   have hcall := zhG (a2 := a2) (n2 := n2) (c2 := c2) (miss := x.Reef.Miss) hS.sat (h1.mono zl le) h3 h4 h5 ht
   rw [← hs] at hcall
   refine zt rfl rfl (zS c37 hcall rfl rfl fun v G3 w3 hg3 hv => ?_)
   obtain ⟨ra, rn, rc, l0, l1, l2, l3, l4, rfl, hr⟩ := hv
   have hS := hS.grow hg3
   have hO := hO.grow hg3
   have le := le.trans hg3.le
   refine ⟨fun _ _ => hS.sat.le le, ?_⟩
   refine zh rfl (fun w hw => zf (v := .tuple #[.slice ra rn rc, .agg #[iV l0, iV l1, iV l2, iV l3, iV l4]]) rfl) rfl (zh rfl (fun w hw => zT (v := .slice ra rn rc) rfl rfl) rfl (zh rfl (fun w hw => zT (v := .agg #[iV l0, iV l1, iV l2, iV l3, iV l4]) rfl rfl) rfl ?_))
   refine zt rfl rfl (zA (ze (v := .slice ra rn rc) rfl) rfl ⟨fun _ _ => hS.sat.le le, ?_⟩)
   refine zt rfl rfl (zM (vs := [iV l0, iV l1, iV l2, iV l3, iV l4]) z66 hS hO (k := 0) rfl rfl rfl rfl rfl (zR rfl) (Nat.le_of_ble_eq_true rfl) fun w5 hS hO => ⟨fun _ _ => hS.sat.le le, qk ?_⟩)
   exact ⟨_, _, ra, rn, rc, zi _ _ ⟨rfl, rfl, trivial⟩, le, hS, hr⟩
 rintro F w5 ⟨Fb, G3, ra, rn, rc, rfl, le3, hS, hr⟩
 have h1 := h1.mono zl le3
 have hc1 := hc1.mono le3
 have hix : ix (yk x.Reef.Places (jI x.Reef.Places S) (jH tk S) (x.Reef.Places.map (·.Count)) S) (IntKind.i64.wrap ((S : Int) - 1)) = some X := by
  have e : IntKind.i64.wrap ((S : Int) - 1) = ((S - 1 : Nat) : Int) := by rw [IntKind.wrap_i64]; have := ht.few; omega
  rw [e, qm]
  unfold yk
  rw [List.getElem?_map, List.getElem?_range (by omega), hX]
  show some (qn _ _ _ _ (S - 1 + 1)) = _
  rw [Nat.sub_add_cancel hS1]
 have hlen : rn = S := by have := hr.1; rw [ju] at this; exact this
 refine zc (zb (za (zf (v := .slice ra rn rc) rfl) rfl (za (zf (v := .slice ra rn rc) rfl) rfl (za (qu (m := S) s50 rfl rfl hlen) rfl (za (xE rfl rfl) rfl (xi s50 hr hix rfl rfl rfl ?_))))))
 rintro bl ol _ hcl _ ⟨aX, nX, cX, rfl, hsX⟩
 refine za (zk n24 rfl (hS.sat.cell (hcl 0 _ rfl))) rfl (za (qu (m := X.length) s24 rfl rfl hsX.1) rfl (za (zf (v := iV 0) rfl) rfl (zd ?_)))
 refine zB (qZ (qJ X.length (fun i F w => ∃ Fb, F = qC Fb [(1, pV b1), (19, .slice aX nX cX), (20, iV (X.length : Int)), (21, iV (i : Int))] ∧ Since w0.heap.size G0 w0 G3 w ∧ kC x.Reef.Places X 0 = kC (x.Reef.Places.drop i) (X.drop i) i) ?_ ?_ X.length 0 _ _ (by omega) ⟨_, zi _ _ ⟨rfl, rfl, rfl, rfl, trivial⟩, hS, rfl⟩))
 ·rintro i F w hi ⟨Fb, rfl, hS, hinv⟩
  have hip : i < x.Reef.Places.length := by omega
  have hxx : ix X (i : Int) = some X[i] := (qm _ _).trans (List.getElem?_eq_getElem hi)
  have hpx : ix x.Reef.Places (i : Int) = some x.Reef.Places[i] := (qm _ _).trans (List.getElem?_eq_getElem hip)
  rw [zrz hip hi] at hinv
  refine zc (zb (za (qa rfl rfl) rfl (zd (zc (qf (decide ((i : Int) < (X.length : Int))) (decide_eq_true (by omega)) rfl (zD ?_))))))
  refine zc (zB (zc (zb (za (zf (v := iV (i : Int)) rfl) rfl (xi s24 hsX hxx rfl rfl rfl ?_)))))
  rintro bp op _ hcp _ ⟨⟩
  refine za (zk n3 rfl (hS.sat.cell (hcp 0 _ rfl))) rfl (za (ze (v := iV (i : Int)) rfl) rfl (za (ze (v := iV X[i]) rfl) rfl (zd ?_)))
  refine zc (zb (za (zj vm rfl) rfl (za (zj jL rfl) rfl (za (zk n33 rfl (hS.sat.cell (hc1 0 _ rfl))) rfl (za (zf (v := iV (i : Int)) rfl) rfl (xi s33 h1 hpx rfl rfl rfl ?_))))))
  rintro bq oq _ hcq _ ⟨⟩
  refine za (zj zoc rfl) rfl (za (zk n3 rfl (hS.sat.cell (hcq 10 _ rfl))) rfl (za (ze (v := iV x.Reef.Places[i].Goal) rfl) rfl (zd ?_)))
  refine zc (zb (za (zf (v := iV X[i]) rfl) rfl (za (zf (v := iV x.Reef.Places[i].Goal) rfl) rfl (za (qa rfl rfl) rfl (zd (z7 rfl (fun hb => ?_) (fun hb => zD ?_)))))))
  ·have hlt : X[i] < x.Reef.Places[i].Goal := by simpa using hb
   rw [if_pos hlt] at hinv
   have hxb := hXb _ (List.getElem_mem hi)
   have hgo := (ht.pl.each i _ (List.getElem?_eq_getElem hip)).2.2.2.2.2.2.2
   have hw : IntKind.i64.wrap (x.Reef.Places[i].Goal - X[i]) = x.Reef.Places[i].Goal - X[i] := xu ⟨by omega, by omega⟩
   refine zb (za (zf (v := iV (i : Int)) rfl) rfl (za (zf (v := iV x.Reef.Places[i].Goal) rfl) rfl (za (zf (v := iV X[i]) rfl) rfl (za (xE rfl rfl) rfl ?_))))
   rw [hw]
   refine za (v := shA i (x.Reef.Places[i].Goal - X[i])) (by kernel_rfl) rfl (za (v := .iface 94 (shA i (x.Reef.Places[i].Goal - X[i]))) (by kernel_rfl) rfl ?_)
   refine zp rfl (zsJ rfl ⟨_, _, rfl⟩ ?_)
   rw [hinv]
   exact ⟨rfl, hS.below⟩
  ·have hlt : ¬ X[i] < x.Reef.Places[i].Goal := by simpa using hb
   rw [if_neg hlt] at hinv
   refine zb (za (qO rfl rfl) rfl (za (zf (v := iV ((i + 1 : Nat) : Int)) (congrArg iV (yQ (by omega)))) rfl (zd ?_)))
   exact ⟨_, zi _ _ ⟨rfl, rfl, rfl, rfl, trivial⟩, hS, hinv⟩
 ·rintro F w ⟨Fb, rfl, hS, hinv⟩
  refine qP (zc (zb (za (qa rfl rfl) rfl (zd (zc (zV (decide ((X.length : Int) < (X.length : Int))) (decide_eq_false (by omega)) rfl (ql rfl ?_)))))))
  rw [List.drop_eq_nil_of_le (Nat.le_refl X.length)] at hinv
  have : kC (List.drop X.length x.Reef.Places) [] X.length = none := by cases List.drop X.length x.Reef.Places <;> rfl
  rw [this] at hinv
  rw [hinv]
  exact ⟨rfl, hS.below⟩
end
end Go.Proofs.YtcapocmenjcnhaaGreatDoor
/-
 The reef: whether it recovers (a deferred call that recovers).
-/
namespace Go.Proofs.YtcapocmenjcnhaaGreatDoor
open Go.RowKit
set_option maxRecDepth 20000
theorem zgh {P : Program} {k : Nat} {fi ca : Array Value} {w : World} (hk : zN P k = true) : (invoke (.fn (.func k) ca) fi).run P w = .ok (.enter k (fi ++ ca)) w := by
 unfold zN at hk
 split at hk
 ·rename_i fn hf
  simp only [Bool.and_eq_true, Bool.not_eq_true'] at hk
  obtain ⟨c, hb⟩ := Option.isSome_iff_exists.1 hk.2
  have hn : ¬ fn.name = "runtime.NumGoroutine" := by simpa using hk.1
  simp [invoke, callFunc, hf, hn, hb]
 ·cases hk
theorem CallsDIn.imp {F : Fence} {n : Nat} {P : Program} {f : FuncId} {args : Array Value} {u : FrameMode} {w : World} {R R' : Ending → FrameMode → World → Prop} (h : CallsDIn F n P f args u w R) (k : ∀ e u' w', R e u' w' → R' e u' w') : CallsDIn F n P f args u w R' :=
 ⟨h.1, fun c cs h1 h2 => let ⟨e, u', w', fr, h3, h4⟩ := h.2 c cs h1 h2; ⟨e, u', w', fr, k _ _ _ h3, h4⟩⟩
theorem zrX {v : Value} (w : World) (e : Operand → Value) (he : e (.tmp 5) = .iface 94 v) (hn : e (.const .nilIface) = .nilIface) (d : Option Nat) (pos : String) (af : Array Edge) (gd : Option (Nat × Bool)) :
  (execOp e ⟨d, .binOp .eql 20 (.tmp 5) (.const .nilIface) 20, 4, pos, af, gd⟩).run Tryz.prog w = .ok (.value (.bool false)) w := by
 simp [execOp, he, hn, go_sem]
theorem zrr (w : World) (e : Operand → Value) (he : e (.tmp 5) = .nilIface) (hn : e (.const .nilIface) = .nilIface) (d : Option Nat) (pos : String) (af : Array Edge) (gd : Option (Nat × Bool)) :
  (execOp e ⟨d, .binOp .eql 20 (.tmp 5) (.const .nilIface) 20, 4, pos, af, gd⟩).run Tryz.prog w = .ok (.value (.bool true)) w := by
 simp [execOp, he, hn, go_sem]
theorem zzi : Tryz.prog.underlying 94 = some (.struct (Tryz.prog.fieldsOf 94)) := by kernel_rfl
theorem zrq {v : Value} (w : World) (e : Operand → Value) (he : e (.tmp 5) = .iface 94 v) (d : Option Nat) (pos : String) (af : Array Edge) (gd : Option (Nat × Bool)) :
  (execOp e ⟨d, .typeAssert (.tmp 5) 20 94 true, 0, pos, af, gd⟩).run Tryz.prog w = .ok (.value (.tuple #[v, .bool true])) w := by
 simp only [execOp, he, Instr.typeAssert, Sem.run_bind, run_underlying zzi, Result.andThen_ok]
 simp
abbrev rowS (b : Nat) (i d : Int) : Row := ⟨94, 2, 1, .slice (some ⟨b, 0, none⟩) 1 1, [iV i, iV d]⟩
abbrev zh7 (b : Nat) (x : Bool) : Row := ⟨4, 1, 1, .slice (some ⟨b, 0, none⟩) 1 1, [.bool x]⟩
theorem zuY (b2 b3 : Nat) (w : World) :
  CallsDIn Fence.wide 0 Tryz.prog 77 #[pV b2, pV b3] .returning w fun e u' w' => e = .returned (.tuple #[]) ∧ u' = .returning ∧ w' = w := by
 refine callsDIn_of_wpSIn Tryz.func77 rfl trivial fun c₀ cs hu => ?_
 apply wpSIn_seq
 apply wpSIn_region
 simp [wpOpsSIn, go_sem, recoverD, hu, Tryz.ntmps77, Exit.thenS]
 refine wpSIn_of_wpIn rfl ?_
 refine wpIn_mono (zB (κ := ⟨none, none, 0, true, []⟩) (N := 12) (n := fun _ w' => w' = w) (r := fun _ w' => w' = w) (x := []) (p := fun _ _ _ => False) (F := jS _) (w := w) ?_ _ w ⟨by simp, Calm.nil _ _, Keeps.refl _, Nat.zero_le _⟩ rfl) ?_
 ·refine zc (zb (za (zrr w _ rfl rfl _ _ _ _) rfl (zd (qf true rfl rfl (zb (za (ze rfl) rfl (zd rfl)))))))
 ·rintro e a' w' ⟨p1, p3⟩
  have hd := p1.calm.none rfl
  cases e with
  | normal => exact ⟨hd, _, rfl, _, by simp [results, Tryz.results77], rfl, hu, p3⟩
  | ret => exact ⟨hd, _, rfl, _, by simp [results, Tryz.results77], rfl, hu, p3⟩
  | exit k => obtain ⟨K, hK, _⟩ := p3; cases hK
  | goto l => exact p3.elim
  | panic c => exact p3.elim
  | outgrown => exact p3.elim
theorem z4' : szB Tryz.prog 4 = some 1 := by kernel_rfl
theorem zuX {B : Nat} {G0 : Gm} {w0 : World} {G : Gm} (b2 b3 i : Nat) (d : Int) (w : World) (hS : Since B G0 w0 G w) (hO : Owns G w B [zh7 b3 false, rowS b2 0 0]) :
  CallsDIn Fence.wide 0 Tryz.prog 77 #[pV b2, pV b3] (.panicking [{ v := .iface 94 (shA i d), recovered := false }]) w fun e u' w' => e = .returned (.tuple #[]) ∧ u' = .panicking [{ v := .iface 94 (shA i d), recovered := true }] ∧ Since B G0 w0 G w' ∧ Owns G w' B [zh7 b3 false, rowS b2 i d] := by
 refine callsDIn_of_wpSIn Tryz.func77 rfl trivial fun c₀ cs hu => ?_
 apply wpSIn_seq
 apply wpSIn_region
 simp [wpOpsSIn, go_sem, recoverD, hu, Tryz.ntmps77, Exit.thenS]
 refine wpSIn_of_wpIn rfl ?_
 refine wpIn_mono (zB (κ := ⟨none, none, 0, true, []⟩) (N := 12) (n := fun _ w' => Since B G0 w0 G w' ∧ Owns G w' B [zh7 b3 false, rowS b2 i d]) (r := fun _ w' => Since B G0 w0 G w' ∧ Owns G w' B [zh7 b3 false, rowS b2 i d]) (x := []) (p := fun _ _ _ => False) (F := jS _) (w := w) ?_ _ w ⟨by simp, Calm.nil _ _, Keeps.refl _, Nat.zero_le _⟩ rfl) ?_
 ·refine zc (zb (za (zrX w _ rfl rfl _ _ _ _) rfl (zd (zV false rfl rfl ?_))))
  refine zc (zb (za (zrq w _ rfl _ _ _ _) rfl (za (v := .bool true) (zT (vs := #[shA i d, .bool true]) rfl rfl) rfl (za (v := shA i d) (zT (vs := #[shA i d, .bool true]) rfl rfl) rfl (zd (qf true rfl rfl ?_))))))
  refine zc (zb (zp rfl (zY (v := fun b => pV b) (cs := [iV 0, iV 0]) (e := 94) (by kernel_rfl) hS.sat hO rfl 2 1 rfl (by decide) fun b4 w4 hb hO => ?_)))
  have hS := hS.keep hb
  refine zp rfl (zM (vs := [iV (i : Int), iV d]) z94 hS hO (k := 0) rfl rfl rfl rfl rfl (zR rfl) (Nat.le_of_ble_eq_true rfl) fun w5 hS hO => zd ?_)
  have hO : Owns G w5 B [rowS b4 i d, zh7 b3 false, rowS b2 0 0] := hO
  refine zb (za (zw g94 (cs := [iV (i : Int), iV d]) rfl rfl (yu hO (k := 0) rfl 0 2)) rfl ?_)
  refine zp rfl (zM (vs := [iV (i : Int), iV d]) z94 hS hO (k := 2) rfl rfl rfl rfl rfl (zR rfl) (Nat.le_of_ble_eq_true rfl) fun w6 hS hO => ?_)
  refine zp rfl (zM (vs := [.bool false]) z4' hS hO (k := 1) rfl rfl rfl rfl rfl (zR rfl) (Nat.le_of_ble_eq_true rfl) fun w7 hS hO => zd ?_)
  exact ⟨hS, hO.drop 0⟩
 ·rintro e a' w' ⟨p1, p3⟩
  have hd := p1.calm.none rfl
  cases e with
  | normal => exact ⟨hd, _, rfl, _, by simp [results, Tryz.results77], rfl, rfl, p3⟩
  | ret => exact ⟨hd, _, rfl, _, by simp [results, Tryz.results77], rfl, rfl, p3⟩
  | exit k => obtain ⟨K, hK, _⟩ := p3; cases hK
  | goto l => exact p3.elim
  | panic c => exact p3.elim
  | outgrown => exact p3.elim
def zoR : Option (Nat × Int) → Value
 | none => .tuple #[.agg #[iV 0, iV 0], .bool true]
 | some (i, d) => .tuple #[shA i d, .bool false]
section
variable {G0 : Gm} {w0 : World}
set_option maxHeartbeats 1000000 in
theorem zm3 {a1 a2 : Option Addr} {n1 c1 n2 c2 S : Nat} {x : qi} {tk : Nat → List qy} (hS0 : Sat G0 w0) (h1 : RSl zE 12 G0 a1 n1 c1 x.Reef.Places) (h2 : RSl zW 1 G0 a2 n2 c2 x.plan) (hs : x.Reef.Seasons = (S : Int)) (hS1 : 1 ≤ S)
  (htk : ∀ s, s < S → f93 x (s : Int) = some (tk s) ∧ (tk s).length ≤ 4) (ht : TruthOk x.Reef.Places S (x.Reef.Places.map (·.Count)) (jI x.Reef.Places S) (jH tk S)) :
  Calls Tryz.prog 27 [.agg #[.slice a1 n1 c1, iV x.Reef.Miss, iV x.Reef.Seasons, .slice a2 n2 c2]].toArray w0 (qQ w0 (zoR (kC x.Reef.Places (qn x.Reef.Places (jI x.Reef.Places S) (jH tk S) (x.Reef.Places.map (·.Count)) S) 0))) := by
 have hS := Since.start hS0
 have hO : Owns G0 w0 w0.heap.size [] := Owns.nil (Nat.le_refl _)
 obtain ⟨r, hr⟩ : ∃ r, r = kC x.Reef.Places (qn x.Reef.Places (jI x.Reef.Places S) (jH tk S) (x.Reef.Places.map (·.Count)) S) 0 := ⟨_, rfl⟩
 obtain ⟨Q, hQd⟩ : ∃ Q : Deferred → List PanicEntry → Fr → World → Prop, Q = fun d ch F w' => ∃ b2 b3 i fi G, d = { target := .fn (.func 77) #[pV b2, pV b3], args := #[] } ∧ r = some (i, fi) ∧ ch = [{ v := .iface 94 (shA i fi), recovered := false }] ∧ F 2 = pV b2 ∧ F 3 = pV b3 ∧ Since w0.heap.size G0 w0 G w' ∧ Owns G w' w0.heap.size [zh7 b3 false, rowS b2 0 0] := ⟨_, rfl⟩
 obtain ⟨Z, hZd⟩ : ∃ Z : Deferred → Fr → World → Prop, Z = fun d F w' => ∃ b2 b3 G, d = { target := .fn (.func 77) #[pV b2, pV b3], args := #[] } ∧ r = none ∧ F 2 = pV b2 ∧ F 3 = pV b3 ∧ Since w0.heap.size G0 w0 G w' ∧ Owns G w' w0.heap.size [zh7 b3 true, rowS b2 0 0] := ⟨_, rfl⟩
 rw [← hr]
 refine zvo (N := 8) (fun d F w => Z d F w) (fun d ch F w => Q d ch F w) Tryz.func27 rfl rfl rfl ?_ ?_ ?_
 ·rintro d tmps w' h
  subst hZd
  obtain ⟨b2, b3, G, rfl, rfl, h2, h3, hS, hO⟩ := h
  refine ⟨by simp, .inr ⟨fun h => (by cases h), _, _, 77, #[pV b2, pV b3], rfl, zgh c77, fun _ _ => trivial, CallsDIn.imp (zuY b2 b3 w') ?_⟩⟩
  rintro e u' w'' ⟨rfl, rfl, rfl⟩
  exact ⟨_, zcD (rs := [.cell 2 94, .cell 3 4]) (vs := [shA 0 0, .bool true]) rfl ⟨⟨_, h2, zam (cs := [iV 0, iV 0]) g94 rfl (yu hO (k := 1) rfl 0 2)⟩, ⟨_, h3, zmh n4 (zx hO (k := 0) rfl rfl)⟩, trivial⟩, rfl, hS.below⟩
 ·rintro d ch tmps w' h
  subst hQd
  obtain ⟨b2, b3, i, fi, G, rfl, rfl, rfl, h2, h3, hS, hO⟩ := h
  refine ⟨by simp, .inr ⟨fun h => (by cases h), _, _, 77, #[pV b2, pV b3], rfl, zgh c77, fun _ _ => trivial, CallsDIn.imp (zuX b2 b3 i fi w' hS hO) ?_⟩⟩
  rintro e u' w'' ⟨rfl, rfl, hS, hO⟩
  exact ⟨_, zcD (rs := [.cell 2 94, .cell 3 4]) (vs := [shA i fi, .bool false]) rfl ⟨⟨_, h2, zam (cs := [iV (i : Int), iV fi]) g94 rfl (yu hO (k := 1) rfl 0 2)⟩, ⟨_, h3, zmh n4 (zx hO (k := 0) rfl rfl)⟩, trivial⟩, rfl, hS.below⟩
 ·refine zb ?_
  refine zp rfl (zI (v := fun b => pV b) (cs := [.slice a1 n1 c1, iV x.Reef.Miss, iV x.Reef.Seasons, .slice a2 n2 c2]) (e := 91) (z6 rfl) hS.sat rfl fun b1 G1 w1 hg1 hc1 => ?_)
  have hS := hS.grow hg1
  have hO := hO.grow hg1
  have h1 := h1.mono zl hg1.le
  have h2 := h2.mono zm hg1.le
  refine zp rfl (zY (v := fun b => pV b) (cs := [iV 0, iV 0]) (e := 94) (by kernel_rfl) hS.sat hO rfl 2 1 rfl (by decide) fun b2 w2 hb hO => ?_)
  have hS := hS.keep hb
  refine zp rfl (zY (v := fun b => pV b) (cs := [.bool false]) (e := 4) (by kernel_rfl) hS.sat hO rfl 1 1 rfl (by decide) fun b3 w3 hb hO => zd ?_)
  have hS := hS.keep hb
  have hO : Owns G1 w3 w0.heap.size [zh7 b3 false, rowS b2 0 0] := hO
  refine zvE (yO (vs := []) (us := [pV b2, pV b3]) rfl rfl) rfl ?_
  refine zsF (d := { target := .fn (.func 77) #[pV b2, pV b3], args := #[] }) (fun D => by simp) (by simp [execOp, resolve, ev, Deferred.ofValue, upd]) ?_
  refine zc (zb (za (zw g91 (cs := [.slice a1 n1 c1, iV x.Reef.Miss, iV x.Reef.Seasons, .slice a2 n2 c2]) rfl rfl fun j v hj => hS.sat.cell (hc1 j v hj)) rfl ?_))
  refine zp rfl (zrP (zcF c78 rfl) rfl (zxn hS.sat h1 h2 hs hS1 htk ht) fun e w4 hR => ?_)
  obtain ⟨rfl, hb⟩ := hR
  rw [← hr]
  have hS := hS.keep hb
  have hO := hO.below hb
  cases r with
  | none =>
   refine .inl ⟨_, rfl, .below hb, zd ?_⟩
   refine zc (zb (za (v := shA 0 0) (by kernel_rfl) rfl ?_))
   refine zp rfl (zM (vs := [iV 0, iV 0]) z94 hS hO (k := 1) rfl rfl rfl rfl rfl (zR rfl) (Nat.le_of_ble_eq_true rfl) fun w6 hS hO => ?_)
   refine zp rfl (zM (vs := [.bool true]) z4' hS hO (k := 0) rfl rfl rfl rfl rfl (zR rfl) (Nat.le_of_ble_eq_true rfl) fun w7 hS hO => zd (zH ?_))
   subst hZd
   exact ⟨b2, b3, G1, rfl, rfl, rfl, rfl, hS, hO⟩
  | some q =>
   obtain ⟨i, fi⟩ := q
   refine .inr ⟨_, rfl, .below hb, ?_⟩
   subst hQd
   exact ⟨b2, b3, i, fi, G1, rfl, rfl, rfl, rfl, rfl, hS, hO⟩
end
end Go.Proofs.YtcapocmenjcnhaaGreatDoor
/-
 The reef: Short and Play (the walks).
-/
namespace Go.Proofs.YtcapocmenjcnhaaGreatDoor
open Go.RowKit
set_option maxRecDepth 20000
theorem c35 : zN Tryz.prog 35 = true := by kernel_rfl
theorem c36 : zN Tryz.prog 36 = true := by kernel_rfl
theorem c88 : zN Tryz.prog 88 = true := by kernel_rfl
theorem c12 : zN Tryz.prog 12 = true := by kernel_rfl
def zhc : Option (Nat × Int) → Value
 | none => .tuple #[iV 0, iV 0, iV 5]
 | some (i, d) => .tuple #[iV (i : Int), iV d, iV 0]
section
variable {G0 : Gm} {w0 : World}
set_option maxHeartbeats 1000000 in
theorem zxf {a1 a2 : Option Addr} {n1 c1 n2 c2 S : Nat} {x : qi} {tk : Nat → List qy} (hS0 : Sat G0 w0) (h1 : RSl zE 12 G0 a1 n1 c1 x.Reef.Places) (h2 : RSl zW 1 G0 a2 n2 c2 x.plan) (hs : x.Reef.Seasons = (S : Int)) (hS1 : 1 ≤ S)
  (htk : ∀ s, s < S → f93 x (s : Int) = some (tk s) ∧ (tk s).length ≤ 4) (ht : TruthOk x.Reef.Places S (x.Reef.Places.map (·.Count)) (jI x.Reef.Places S) (jH tk S)) (h35 : f35 x = some true) :
  Calls Tryz.prog 88 [.agg #[.slice a1 n1 c1, iV x.Reef.Miss, iV x.Reef.Seasons], .slice a2 n2 c2].toArray w0 (qQ w0 (zhc (kC x.Reef.Places (qn x.Reef.Places (jI x.Reef.Places S) (jH tk S) (x.Reef.Places.map (·.Count)) S) 0))) := by
 have hS := Since.start hS0
 have hO : Owns G0 w0 w0.heap.size [] := Owns.nil (Nat.le_refl _)
 refine vf (N := 26) (qS _ _) [.tmp 4, .tmp 5, .tmp 6] Tryz.func88 rfl rfl rfl rfl (zc (zb ?_))
 refine zp rfl (zI (v := fun b => pV b) (cs := [.slice a1 n1 c1, iV x.Reef.Miss, iV x.Reef.Seasons]) (e := 35) (z6 rfl) hS.sat rfl fun b2 G1 w1 hg1 hc2 => ?_)
 have hS := hS.grow hg1
 have hO := hO.grow hg1
 have h1 := h1.mono zl hg1.le
 have h2 := h2.mono zm hg1.le
 refine za (ze (v := iV 0) rfl) rfl (za (ze (v := iV 0) rfl) rfl (za (ze (v := iV 0) rfl) rfl (zd ?_)))
 refine zc (zb (za (zw g35 (cs := [.slice a1 n1 c1, iV x.Reef.Miss, iV x.Reef.Seasons]) rfl rfl fun j v hj => hS.sat.cell (hc2 j v hj)) rfl (za (zf (v := .slice a2 n2 c2) rfl) rfl (za (v := .agg #[.slice a1 n1 c1, iV x.Reef.Miss, iV x.Reef.Seasons, .slice a2 n2 c2]) (by kernel_rfl) rfl ?_))))
 refine zp rfl (zY (v := fun b => pV b) (cs := [.slice none 0 0, iV 0, iV 0, .slice none 0 0]) (e := 91) (by kernel_rfl) hS.sat hO rfl 4 1 rfl (by decide) fun b7 w2 hb hO => ?_)
 have hS := hS.keep hb
 refine zp rfl (zM (vs := [.slice a1 n1 c1, iV x.Reef.Miss, iV x.Reef.Seasons, .slice a2 n2 c2]) z91 hS hO (k := 0) rfl rfl rfl rfl rfl (zR rfl) (Nat.le_of_ble_eq_true rfl) fun w3 hS hO => zd ?_)
 have hO : Owns G1 w3 w0.heap.size [⟨91, 4, 1, .slice (some ⟨b7, 0, none⟩) 1 1, [.slice a1 n1 c1, iV x.Reef.Miss, iV x.Reef.Seasons, .slice a2 n2 c2]⟩] := hO
 refine zc (zc (zb (za (zw g91 (cs := [.slice a1 n1 c1, iV x.Reef.Miss, iV x.Reef.Seasons, .slice a2 n2 c2]) rfl rfl (yu hO (k := 0) rfl 0 4)) rfl ?_)))
 refine zp rfl (zu c35 (zm1 hS.sat h1 h2 h35) rfl rfl fun w4 hb => ?_)
 have hS := hS.keep hb
 have hO := hO.below hb
 refine za (v := .bool (!true)) (qI rfl) rfl (zd (zV false rfl rfl (zD ?_)))
 refine zc (zb (za (zw g91 (cs := [.slice a1 n1 c1, iV x.Reef.Miss, iV x.Reef.Seasons, .slice a2 n2 c2]) rfl rfl (yu hO (k := 0) rfl 0 4)) rfl ?_))
 refine zp rfl (zu c27 (zm3 hS.sat h1 h2 hs hS1 htk ht) rfl rfl fun w5 hb => ?_)
 have hS := hS.keep hb
 have hO := hO.below hb
 obtain ⟨r, hr⟩ : ∃ r, r = kC x.Reef.Places (qn x.Reef.Places (jI x.Reef.Places S) (jH tk S) (x.Reef.Places.map (·.Count)) S) 0 := ⟨_, rfl⟩
 rw [← hr]
 obtain ⟨i, d, is, hrv, hsv⟩ : ∃ (i : Nat) (d : Int) (is : Bool), zoR r = .tuple #[shA i d, .bool is] ∧ zhc r = if is then .tuple #[iV 0, iV 0, iV 5] else .tuple #[iV (i : Int), iV d, iV 0] := by
  cases r with
  | none => exact ⟨0, 0, true, rfl, rfl⟩
  | some q => obtain ⟨i, d⟩ := q; exact ⟨i, d, false, rfl, rfl⟩
 rw [hrv, hsv]
 refine za (zf (v := .tuple #[shA i d, .bool is]) rfl) rfl (za (zT (v := shA i d) rfl rfl) rfl (za (zT (v := .bool is) rfl rfl) rfl ?_))
 refine zp rfl (zY (v := fun b => pV b) (cs := [iV 0, iV 0]) (e := 94) (by kernel_rfl) hS.sat hO rfl 2 1 rfl (by decide) fun b8 w6 hb hO => ?_)
 have hS := hS.keep hb
 refine zp rfl (zM (vs := [iV (i : Int), iV d]) z94 hS hO (k := 0) rfl rfl rfl rfl rfl (zR rfl) (Nat.le_of_ble_eq_true rfl) fun w7 hS hO => ?_)
 refine za (ze (v := .bool is) rfl) rfl (zd (zc (zc (zb (za (zf (v := .bool is) rfl) rfl (zd ?_))))))
 cases is with
 | true =>
  refine qf true rfl rfl (zc (zb (za (ze (v := iV 0) rfl) rfl (za (ze (v := iV 0) rfl) rfl (za (ze (v := iV 5) rfl) rfl (zd (zH ?_)))))))
  exact ⟨[iV 0, iV 0, iV 5], ⟨rfl, rfl, rfl, trivial⟩, rfl, hS.below⟩
 | false =>
  refine zV false rfl rfl (zD (zc ?_))
  refine zQ qA (fun _ w => w.cell? ⟨b8, 0, none⟩ = some (iV (i : Int)) ∧ w.cell? ⟨b8, 1, none⟩ = some (iV d)) (.fl 0 (.fl 1 (.fl 2 (.fl 3 (.on 4 (.on 5 (.on 6 .nil))))))) (by kernel_rfl) rfl (by kernel_rfl) (fun _ => ⟨zx (hO.below (zn _)) (k := 0) rfl rfl, zx (hO.below (zn _)) (k := 0) rfl rfl⟩) ?_
  have hS := hS.keep (zn w7)
  have hO := hO.below (zn w7)
  refine zh rfl (fun w hw => zj (show qB Tryz.prog 94 0 = some 0 by kernel_rfl) rfl) rfl (zh rfl (fun w hw => zk n3 rfl hw.1) rfl (zh rfl (fun w hw => zj (show qB Tryz.prog 94 1 = some 1 by kernel_rfl) rfl) rfl (zh rfl (fun w hw => zk n3 rfl hw.2) rfl ?_)))
  have hk : w7.drew.cell? ⟨b8, 0, none⟩ = some (iV (i : Int)) ∧ w7.drew.cell? ⟨b8, 1, none⟩ = some (iV d) := ⟨zx hO (k := 0) rfl rfl, zx hO (k := 0) rfl rfl⟩
  refine zt rfl rfl (zA (ze (v := iV (i : Int)) rfl) rfl ⟨fun _ _ => hk, ?_⟩)
  refine zt rfl rfl (zA (ze (v := iV d) rfl) rfl ⟨fun _ _ => hk, ?_⟩)
  refine zt rfl rfl (zA (ze (v := iV 0) rfl) rfl ⟨fun _ _ => hk, qk (zH ?_)⟩)
  exact ⟨[iV (i : Int), iV d, iV 0], ⟨rfl, rfl, rfl, trivial⟩, rfl, hS.below⟩
set_option maxHeartbeats 1000000 in
theorem zxD {a1 a2 a3 a4 a5 : Option Addr} {n1 c1 n2 c2 m3 c3 m4 c4 m5 c5 S : Nat} {x : qi} {t : qT} (hS0 : Sat G0 w0) (h1 : RSl zE 12 G0 a1 n1 c1 x.Reef.Places) (h2 : RSl zW 1 G0 a2 n2 c2 x.plan) (h3 : RSl zW 1 G0 a3 m3 c3 t.Starts) (h4 : RSl (yd zW 1) 1 G0 a4 m4 c4 t.Grows) (h5 : RSl (yd zW 1) 1 G0 a5 m5 c5 t.Takes)
  (hs : x.Reef.Seasons = (S : Int)) (ht : TruthOk x.Reef.Places S t.Starts t.Grows t.Takes) (h35 : f35 x = some true) (h36 : ∀ G w, Gle G0 G → Sat G w → Calls Tryz.prog 36 [.agg #[.slice a1 n1 c1, iV x.Reef.Miss, iV x.Reef.Seasons, .slice a2 n2 c2], .agg #[.slice a3 m3 c3, .slice a4 m4 c4, .slice a5 m5 c5]].toArray w (qQ w (.bool true))) :
  Calls Tryz.prog 12 [.agg #[.slice a1 n1 c1, iV x.Reef.Miss, iV x.Reef.Seasons], .slice a2 n2 c2, .agg #[.slice a3 m3 c3, .slice a4 m4 c4, .slice a5 m5 c5]].toArray w0 (yP G0 w0 (fun G v => ∃ ra rn rc l0 l1 l2 l3 l4, v = .tuple #[.slice ra rn rc, .agg #[iV l0, iV l1, iV l2, iV l3, iV l4], iV 0] ∧ RSl (yd zW 1) 1 G ra rn rc (yk x.Reef.Places t.Grows t.Takes t.Starts S))) := by
 have hS := Since.start hS0
 have hO : Owns G0 w0 w0.heap.size [] := Owns.nil (Nat.le_refl _)
 refine vf (N := 33) (xN _ _ _) [.tmp 6, .cell 7 66, .tmp 8] Tryz.func12 rfl rfl rfl rfl (zc (zb ?_))
 refine zp rfl (zI (v := fun b => pV b) (cs := [.slice a1 n1 c1, iV x.Reef.Miss, iV x.Reef.Seasons]) (e := 35) (z6 rfl) hS.sat rfl fun b3 G1 w1 hg1 hc3 => ?_)
 have hS := hS.grow hg1
 have hO := hO.grow hg1
 refine zp rfl (zI (v := fun b => pV b) (cs := [.slice a3 m3 c3, .slice a4 m4 c4, .slice a5 m5 c5]) (e := 52) (z6 rfl) hS.sat rfl fun b5 G2 w2 hg2 hc5 => ?_)
 have hS := hS.grow hg2
 have hO := hO.grow hg2
 have hc3 := hc3.mono hg2.le
 have le2 := hg1.le.trans hg2.le
 have h1 := h1.mono zl le2
 have h2 := h2.mono zm le2
 have h3 := h3.mono zm le2
 have h4 := h4.mono (zO zm) le2
 have h5 := h5.mono (zO zm) le2
 refine za (ze (v := .slice none 0 0) rfl) rfl ?_
 refine zp rfl (zY (v := fun b => pV b) (cs := [iV 0, iV 0, iV 0, iV 0, iV 0]) (e := 66) (by kernel_rfl) hS.sat hO rfl 5 1 rfl (by decide) fun b7 w3 hb hO => ?_)
 have hS := hS.keep hb
 refine za (ze (v := iV 0) rfl) rfl (zd ?_)
 refine zc (zb (za (zw g35 (cs := [.slice a1 n1 c1, iV x.Reef.Miss, iV x.Reef.Seasons]) rfl rfl fun j v hj => hS.sat.cell (hc3 j v hj)) rfl (za (zf (v := .slice a2 n2 c2) rfl) rfl (za (v := .agg #[.slice a1 n1 c1, iV x.Reef.Miss, iV x.Reef.Seasons, .slice a2 n2 c2]) (by kernel_rfl) rfl ?_))))
 refine zp rfl (zY (v := fun b => pV b) (cs := [.slice none 0 0, iV 0, iV 0, .slice none 0 0]) (e := 91) (by kernel_rfl) hS.sat hO rfl 4 1 rfl (by decide) fun b9 w4 hb hO => ?_)
 have hS := hS.keep hb
 refine zp rfl (zM (vs := [.slice a1 n1 c1, iV x.Reef.Miss, iV x.Reef.Seasons, .slice a2 n2 c2]) z91 hS hO (k := 0) rfl rfl rfl rfl rfl (zR rfl) (Nat.le_of_ble_eq_true rfl) fun w5 hS hO => zd ?_)
 have hO : Owns G2 w5 w0.heap.size (⟨91, 4, 1, .slice (some ⟨b9, 0, none⟩) 1 1, [.slice a1 n1 c1, iV x.Reef.Miss, iV x.Reef.Seasons, .slice a2 n2 c2]⟩ :: [⟨66, 5, 1, .slice (some ⟨b7, 0, none⟩) 1 1, [iV 0, iV 0, iV 0, iV 0, iV 0]⟩]) := hO
 refine zc (zc (zb (za (zw g91 (cs := [.slice a1 n1 c1, iV x.Reef.Miss, iV x.Reef.Seasons, .slice a2 n2 c2]) rfl rfl (yu hO (k := 0) rfl 0 4)) rfl ?_)))
 refine zp rfl (zu c35 (zm1 hS.sat h1 h2 h35) rfl rfl fun w6 hb => ?_)
 have hS := hS.keep hb
 have hO := hO.below hb
 refine za (v := .bool (!true)) (qI rfl) rfl (za (zf (v := .bool false) rfl) rfl ?_)
 refine zo rfl (b := false) rfl rfl rfl (za (zw g91 (cs := [.slice a1 n1 c1, iV x.Reef.Miss, iV x.Reef.Seasons, .slice a2 n2 c2]) rfl rfl (yu hO (k := 0) rfl 0 4)) rfl ?_)
 refine zo rfl (b := false) rfl rfl rfl (za (zw g52 (cs := [.slice a3 m3 c3, .slice a4 m4 c4, .slice a5 m5 c5]) rfl rfl fun j v hj => hS.sat.cell (hc5 j v hj)) rfl ?_)
 refine zo rfl (b := false) rfl rfl rfl (zp rfl (zu c36 (h36 _ _ le2 hS.sat) rfl rfl fun w7 hb => ?_))
 have hS := hS.keep hb
 have hO := hO.below hb
 refine zo rfl (b := false) rfl rfl rfl (za (v := .bool (!true)) (qI rfl) rfl ?_)
 refine za (xg (v := .bool false) rfl rfl rfl) rfl (zd (zV false rfl rfl (zD ?_)))
 refine zc (zb (za (zw g91 (cs := [.slice a1 n1 c1, iV x.Reef.Miss, iV x.Reef.Seasons, .slice a2 n2 c2]) rfl rfl (yu hO (k := 0) rfl 0 4)) rfl (za (zw g52 (cs := [.slice a3 m3 c3, .slice a4 m4 c4, .slice a5 m5 c5]) rfl rfl fun j v hj => hS.sat.cell (hc5 j v hj)) rfl ?_)))
 have hcall := zhG (a2 := a2) (n2 := n2) (c2 := c2) (miss := x.Reef.Miss) hS.sat h1 h3 h4 h5 ht
 rw [← hs] at hcall
 refine zp rfl (zS c37 hcall rfl rfl fun v G3 w8 hg3 hv => ?_)
 obtain ⟨ra, rn, rc, l0, l1, l2, l3, l4, rfl, hr⟩ := hv
 have hS := hS.grow hg3
 have hO := hO.grow hg3
 refine za (zf (v := .tuple #[.slice ra rn rc, .agg #[iV l0, iV l1, iV l2, iV l3, iV l4]]) rfl) rfl (za (zT (v := .slice ra rn rc) rfl rfl) rfl (za (zT (v := .agg #[iV l0, iV l1, iV l2, iV l3, iV l4]) rfl rfl) rfl ?_))
 refine zp rfl (zY (v := fun b => pV b) (cs := [iV 0, iV 0, iV 0, iV 0, iV 0]) (e := 66) (by kernel_rfl) hS.sat hO rfl 5 1 rfl (by decide) fun b11 w9 hb hO => ?_)
 have hS := hS.keep hb
 refine za (ze (v := .slice ra rn rc) rfl) rfl ?_
 refine zp rfl (zM (vs := [iV l0, iV l1, iV l2, iV l3, iV l4]) z66 hS hO (k := 0) rfl rfl rfl rfl rfl (zR rfl) (Nat.le_of_ble_eq_true rfl) fun w10 hS hO => zd ?_)
 have hO : Owns G3 w10 w0.heap.size (⟨66, 5, 1, .slice (some ⟨b11, 0, none⟩) 1 1, [iV l0, iV l1, iV l2, iV l3, iV l4]⟩ :: ⟨91, 4, 1, .slice (some ⟨b9, 0, none⟩) 1 1, [.slice a1 n1 c1, iV x.Reef.Miss, iV x.Reef.Seasons, .slice a2 n2 c2]⟩ :: [⟨66, 5, 1, .slice (some ⟨b7, 0, none⟩) 1 1, [iV 0, iV 0, iV 0, iV 0, iV 0]⟩]) := hO
 obtain ⟨G4, le4, hS, hO, hq, _⟩ := hO.freeze hS (k := 0) rfl
 have hcL : Cells G4 b11 0 [iV l0, iV l1, iV l2, iV l3, iV l4] := hq _ _ _ _ rfl
 have hO : Owns G4 w10 w0.heap.size (⟨91, 4, 1, .slice (some ⟨b9, 0, none⟩) 1 1, [.slice a1 n1 c1, iV x.Reef.Miss, iV x.Reef.Seasons, .slice a2 n2 c2]⟩ :: [⟨66, 5, 1, .slice (some ⟨b7, 0, none⟩) 1 1, [iV 0, iV 0, iV 0, iV 0, iV 0]⟩]) := hO
 have hr := hr.mono (zO zm) le4
 refine zc (zQ qA (fun _ w => Sat G4 w) (.fl 0 (.fl 1 (.on 2 (.on 3 (.on 4 .nil))))) (by kernel_rfl) rfl (by kernel_rfl) (fun _ => (hS.keep (zn _)).sat) ?_)
 have hS := hS.keep (zn w10)
 have hO := hO.below (zn w10)
 refine zh rfl (fun w hw => zf (v := .slice ra rn rc) rfl) rfl (zh rfl (fun w hw => zw g66 (cs := [iV l0, iV l1, iV l2, iV l3, iV l4]) rfl rfl fun j v hj => hw.cell (hcL j v hj)) rfl ?_)
 refine zt rfl rfl (zA (ze (v := .slice ra rn rc) rfl) rfl ⟨fun _ _ => hS.sat, ?_⟩)
 refine zt rfl rfl (zM (vs := [iV l0, iV l1, iV l2, iV l3, iV l4]) z66 hS hO (k := 1) rfl rfl rfl rfl rfl (zR rfl) (Nat.le_of_ble_eq_true rfl) fun w11 hS hO => ⟨fun _ _ => hS.sat, ?_⟩)
 refine zt rfl rfl (zA (ze (v := iV 0) rfl) rfl ⟨fun _ _ => hS.sat, qk ?_⟩)
 exact zH ⟨[.slice ra rn rc, .agg #[iV l0, iV l1, iV l2, iV l3, iV l4], iV 0], ⟨rfl, ⟨_, rfl, zam (cs := [iV l0, iV l1, iV l2, iV l3, iV l4]) g66 rfl (yu hO (k := 1) rfl 0 5)⟩, rfl, trivial⟩, _, G4, rfl, hS.toGrow, ra, rn, rc, l0, l1, l2, l3, l4, rfl, hr⟩
end
end Go.Proofs.YtcapocmenjcnhaaGreatDoor
/-
 The reef: plans as arrays, and a map of their costs.
-/
namespace Go.Proofs.YtcapocmenjcnhaaGreatDoor
open Go.RowKit
set_option maxRecDepth 20000
theorem c24 : zN Tryz.prog 24 = true := by kernel_rfl
theorem c26 : zN Tryz.prog 26 = true := by kernel_rfl
theorem zA1 : arB Tryz.prog 88 = some (4, 1) := by kernel_rfl
theorem z88 : szB Tryz.prog 88 = some 4 := by kernel_rfl
theorem g88 : agB Tryz.prog 88 = some 4 := by kernel_rfl
theorem u87 : Tryz.prog.underlying 87 = some (.map 88 3) := by kernel_rfl
theorem k88 : Ev.keyT Tryz.prog 88 = some (1, 4) := by kernel_rfl
theorem zz3 : (Tryz.prog.info? 3).bind (·.zero) = some (iV 0) := by kernel_rfl
instance : BEq (Tb 4) := ⟨fun a b => a.1 == b.1⟩
instance : LawfulBEq (Tb 4) where
 eq_of_beq h := Subtype.ext (eq_of_beq (α := List Int) h)
 rfl := beq_self_eq_true (α := List Int) _
abbrev kvT (t : Tb 4) : Value := .agg (xh t).toArray
theorem zkC (t : Tb 4) : kvT t = Ev.kval 1 t.1 := rfl
theorem zmL (t : Tb 4) : Ev.goodK 1 4 t.1 = true := by
 show Nat.beq (Ev.len t.1) 4 = true
 rw [Ev.len_eq, t.2]
 rfl
theorem zpX {V : Type} (vv : V → Value) (a : Tb 4) (w : World) : ∀ (M : List (Tb 4 × V)) (i : Nat), (Instr.findAsking 88 (kvT a) (mkE (kvs kvT vv M) i) i).run Tryz.prog w = .ok ((zcg a M i).map fun q => (q.1, vv q.2)) w
 | [], i => by simp [kvs, mkE, Instr.findAsking, zcg]
 | (k, v) :: l, i => by
  have hE := Ev.eq_ok (P := Tryz.prog) k88 (zmL a) (zmL k) w
  rw [Ev.eqIL_eq, ← zkC, ← zkC] at hE
  have hE : (Op.equal 88 (kvT a) (kvT k)).run Tryz.prog w = .ok (a == k) w := hE
  have ih := zpX vv a w l (i + 1)
  simp only [kvs, mkE, Instr.findAsking, Sem.run_bind, hE, Result.andThen_ok, zcg]
  cases hb : (a == k) with
  | true => simp
  | false => simp [ih]
theorem zpn : Tryz.prog.underlying 88 = some (.array 4 3) := by kernel_rfl
theorem zAw : Tryz.prog.elem 24 = 3 := by kernel_rfl
theorem zjy : znz Tryz.prog 88 kvT := by
 refine ⟨fun em a w => Ev.chk_ok k88 (zmL a) em w, fun vv a M w => ?_, fun a => ?_⟩
 ·have h1 := zpn
  have := zpX vv a w M 0
  cases M with
  | nil => simp [kvs, mkE, Instr.findKey, run_underlying h1, Instr.findNow, zcg]
  | cons q l =>
   have hn : Instr.findNow (.array 4 3) (kvT a) (mkE (kvs kvT vv (q :: l)) 0) 0 = none := by
    obtain ⟨k, v⟩ := q
    simp [kvs, mkE, Instr.findNow, Instr.sameNow, kvT]
   simp only [Instr.findKey, Sem.run_bind, run_underlying h1, Result.andThen_ok, hn]
   exact this
 ·obtain ⟨l, hl⟩ := a
  match l, hl with
  | [x, y, z, u], _ => simp [xh, vE, Instr.sameBits]
theorem zil {K V : Type} [BEq K] [LawfulBEq K] (k : K) (v : V) : ∀ M : List (K × V), zbV (updM M k v) k = some v
 | [] => by simp [updM, zbV]
 | (k', v') :: l => by
  unfold updM
  split
  ·simp [zbV]
  ·rename_i h; simp [zbV, h, zil k v l]
theorem zeK {κ : Ctx} {F : Fr} {d : Option Nat} {ty : TypeId} {pos : String} {af : Array Edge} {gd : Option (Nat × Bool)} {X H : Operand} {b h : Nat} (hx : ev F X = pV b) (hh : ev F H = iV (h : Int)) (h4 : h ≤ 4) (w : World) :
  (execOp (ev F) ⟨d, .slice 88 X none (some H) none, ty, pos, af, gd⟩).run Tryz.prog w = .ok (.value (.slice (some ⟨b, 0, none⟩) h 4)) w := by
 have h1 := zpn
 have h2 : ∀ w, (sizeOf 3).run Tryz.prog w = .ok 1 w := fun w => by
  have := (zvp s24).2 w
  rwa [zAw] at this
 simp [execOp, hx, hh, Instr.sliceAt, Instr.sureAddr, run_underlying h1, Instr.sliceBounds, Instr.sliceBound, asIntOf, h2, h4, yV]
theorem zhd {n : Nat} (h : n ≤ 6) : zlO .i64 1 (n : Int) = some ((2 ^ n : Nat) : Int) := by
 have : n = 0 ∨ n = 1 ∨ n = 2 ∨ n = 3 ∨ n = 4 ∨ n = 5 ∨ n = 6 := by omega
 rcases this with rfl | rfl | rfl | rfl | rfl | rfl | rfl <;> decide
theorem zlN {n q : Nat} (h : n ≤ 6) : zlw .i64 (q : Int) (n : Int) = some ((q / 2 ^ n : Nat) : Int) := by
 unfold zlw
 rw [if_neg (by omega), show min ((n : Int).toNat) IntKind.i64.bits = n by show min n 64 = n; omega, Int.fdiv_eq_ediv_of_nonneg _ (by exact Int.le_of_lt (Int.pow_pos (by decide)))]
 simp
theorem zj0 {P q : Nat} (hP : 1 ≤ P ∧ P ≤ 3) (hq : q < 64) : zhT .i64 (q : Int) (IntKind.i64.wrap (((2 ^ P : Nat) : Int) - 1)) = ((q % 2 ^ P : Nat) : Int) := by
 have h1 : ∀ q : Nat, q < 64 → zhT .i64 (q : Int) (IntKind.i64.wrap (((2 ^ 1 : Nat) : Int) - 1)) = ((q % 2 ^ 1 : Nat) : Int) := by decide
 have h2 : ∀ q : Nat, q < 64 → zhT .i64 (q : Int) (IntKind.i64.wrap (((2 ^ 2 : Nat) : Int) - 1)) = ((q % 2 ^ 2 : Nat) : Int) := by decide
 have h3 : ∀ q : Nat, q < 64 → zhT .i64 (q : Int) (IntKind.i64.wrap (((2 ^ 3 : Nat) : Int) - 1)) = ((q % 2 ^ 3 : Nat) : Int) := by decide
 have : P = 1 ∨ P = 2 ∨ P = 3 := by omega
 rcases this with rfl | rfl | rfl
 ·exact h1 q hq
 ·exact h2 q hq
 ·exact h3 q hq
def digN (P S a s : Nat) : Nat := a / 2 ^ (P * (S - 1 - s)) % 2 ^ P
def jM (P S a : Nat) : List Int := (List.range S).map fun s => (digN P S a s : Int)
def x7 (P S a : Nat) : Nat → Tb 4
 | 0 => Tb.zero 4
 | i + 1 => tset (x7 P S a i) i (digN P S a i : Int)
theorem zgC (P S a : Nat) : ∀ (i j : Nat), i ≤ 4 → j < i → tget (x7 P S a i) j = (digN P S a j : Int)
 | 0, _, _, h => by omega
 | i + 1, j, h4, h => by
  unfold tget x7 tset
  by_cases hj : i = j
  ·subst hj
   rw [List.getD_eq_getElem?_getD, List.getElem?_set_self (by rw [(x7 P S a i).2]; omega)]
   rfl
  ·rw [List.getD_eq_getElem?_getD, List.getElem?_set_ne hj, ← List.getD_eq_getElem?_getD]
   exact zgC P S a i j (by omega) (by omega)
theorem vG (P S a : Nat) : (jM P S a).length = S := by simp [jM]
theorem Owns.srcK {G : Gm} {w : World} {B : Nat} {L : List Row} {k b P S a : Nat} (hO : Owns G w B L) (hk : L[k]? = some ⟨88, 4, 1, .slice (some ⟨b, 0, none⟩) 1 1, xh (x7 P S a S)⟩) (hS : S ≤ 4) : Src w (some ⟨b, 0, none⟩) S (jM P S a) := by
 refine ⟨(vG P S a).symm, Nat.le_trans hS (by decide), (fun h => by cases h), fun ad e j y hj => ?_⟩
 cases e
 have hjS : j < S := by have := (List.getElem?_eq_some_iff.1 hj).1; rwa [vG] at this
 unfold jM at hj
 rw [List.getElem?_map, List.getElem?_range hjS] at hj
 have hc := zsO hO hk (j := j) (by omega)
 rw [zgC P S a S j hS hjS] at hc
 rw [yV, Nat.zero_add]
 cases hj
 exact hc
end Go.Proofs.YtcapocmenjcnhaaGreatDoor
/-
 The reef: the best plan (the walk).
-/
namespace Go.Proofs.YtcapocmenjcnhaaGreatDoor
open Go.RowKit
set_option maxRecDepth 20000
theorem zxF {P S s : Nat} (hP : 1 ≤ P ∧ P ≤ 3) (hS : 1 ≤ S ∧ S ≤ 2) (h : s < S) : IntKind.i64.wrap ((P : Int) * IntKind.i64.wrap (IntKind.i64.wrap ((S : Int) - 1) - (s : Int))) = ((P * (S - 1 - s) : Nat) : Int) ∧ P * (S - 1 - s) ≤ 6 := by
 have h1 : P = 1 ∨ P = 2 ∨ P = 3 := by omega
 have h2 : (S = 1 ∧ s = 0) ∨ (S = 2 ∧ s = 0) ∨ (S = 2 ∧ s = 1) := by omega
 rcases h1 with rfl | rfl | rfl <;> rcases h2 with ⟨rfl, rfl⟩ | ⟨rfl, rfl⟩ | ⟨rfl, rfl⟩ <;> decide
theorem zxW {P S : Nat} (hP : 1 ≤ P ∧ P ≤ 3) (hS : 1 ≤ S ∧ S ≤ 2) : IntKind.i64.wrap ((P : Int) * (S : Int)) = ((P * S : Nat) : Int) ∧ P * S ≤ 6 ∧ 2 ^ (P * S) ≤ 64 := by
 have h1 : P = 1 ∨ P = 2 ∨ P = 3 := by omega
 have h2 : S = 1 ∨ S = 2 := by omega
 rcases h1 with rfl | rfl | rfl <;> rcases h2 with rfl | rfl <;> decide
abbrev vI (n : Int) : Value := iV n
abbrev j9 (b : Nat) (t : Tb 4) : Row := ⟨88, 4, 1, .slice (some ⟨b, 0, none⟩) 1 1, xh t⟩
abbrev zbM (r : Nat) (M : List (Tb 4 × Int)) : Row := ⟨3, 2, M.length, .map (some r), kvs kvT vI M⟩
def zp3 (P S : Nat) (lk : Nat → Option (Nat × Int)) (cost : Nat → Int) (i : Nat) (fd : Bool) (kb : Tb 4) (M : List (Tb 4 × Int)) : Prop :=
 (fd = false ∧ ∀ b, b < i → lk b ≠ none) ∨ (fd = true ∧ ∃ a, a < i ∧ lk a = none ∧ kb = x7 P S a S ∧ zbV M kb = some (cost a) ∧ ∀ b, b < i → lk b = none → cost a ≤ cost b)
section
variable {G0 : Gm} {w0 : World}
set_option maxHeartbeats 4000000 in
theorem zyG {a1 : Option Addr} {n1 c1 P S : Nat} {r : qz} {tk : Nat → Nat → List qy} {lk : Nat → Option (Nat × Int)} {cost : Nat → Int} (hS0 : Sat G0 w0) (h1 : RSl zE 12 G0 a1 n1 c1 r.Places) (h24 : f24 r = some true) (hs : r.Seasons = (S : Int)) (hp : r.Places.length = P) (hP : 1 ≤ P ∧ P ≤ 3) (hS12 : 1 ≤ S ∧ S ≤ 2)
  (htk : ∀ a, a < 2 ^ (P * S) → ∀ s, s < S → f93 ⟨r, jM P S a⟩ (s : Int) = some (tk a s) ∧ (tk a s).length ≤ 4)
  (ht : ∀ a, a < 2 ^ (P * S) → TruthOk r.Places S (r.Places.map (·.Count)) (jI r.Places S) (jH (tk a) S))
  (hlk : ∀ a, a < 2 ^ (P * S) → lk a = kC r.Places (qn r.Places (jI r.Places S) (jH (tk a) S) (r.Places.map (·.Count)) S) 0)
  (hcost : ∀ a, a < 2 ^ (P * S) → f26 ⟨r, jM P S a⟩ = some (cost a)) :
  Calls Tryz.prog 7 [.agg #[.slice a1 n1 c1, iV r.Miss, iV r.Seasons]].toArray w0 (yP G0 w0 (fun G v => (∃ a ra rn rc, a < 2 ^ (P * S) ∧ lk a = none ∧ (∀ b, b < 2 ^ (P * S) → lk b = none → cost a ≤ cost b) ∧ v = .tuple #[.slice ra rn rc, iV (cost a), iV 0] ∧ RSl zW 1 G ra rn rc (jM P S a)) ∨ ((∀ b, b < 2 ^ (P * S) → lk b ≠ none) ∧ v = .tuple #[.slice none 0 0, iV 0, iV 5]))) := by
 have hS := Since.start hS0
 have hO : Owns G0 w0 w0.heap.size [] := Owns.nil (Nat.le_refl _)
 obtain ⟨hwA, hA6, hT64⟩ := zxW hP hS12
 refine vf (N := 88) (xN _ _ _) [.tmp 2, .tmp 3, .tmp 4] Tryz.func7 rfl rfl rfl rfl (zc (zb ?_))
 refine zp rfl (zI (v := fun b => pV b) (cs := [.slice a1 n1 c1, iV r.Miss, iV r.Seasons]) (e := 35) (z6 rfl) hS.sat rfl fun b1 G1 w1 hg1 hc1 => ?_)
 have hS := hS.grow hg1
 have hO := hO.grow hg1
 have h1 := h1.mono zl hg1.le
 refine za (ze (v := .slice none 0 0) rfl) rfl (za (ze (v := iV 0) rfl) rfl (za (ze (v := iV 0) rfl) rfl (zd ?_)))
 refine zc (zc (zb (za (zw g35 (cs := [.slice a1 n1 c1, iV r.Miss, iV r.Seasons]) rfl rfl fun j v hj => hS.sat.cell (hc1 j v hj)) rfl ?_)))
 refine zp rfl (zu c24 (zjS hS.sat h1 h24) rfl rfl fun w2 hb => ?_)
 have hS := hS.keep hb
 have hO := hO.below hb
 refine za (v := .bool (!true)) (qI rfl) rfl (zd (zV false rfl rfl (zD ?_)))
 refine zc (zb (za (zj jL rfl) rfl (za (zk n33 rfl (hS.sat.cell (hc1 0 _ rfl))) rfl (za (qu (m := P) s33 rfl rfl (h1.1.trans hp)) rfl (za (ze (v := iV (P : Int)) rfl) rfl (zd ?_))))))
 refine zc (zb (zp rfl (zrc (e := 3) hS hO rfl fun rm w3 hS hO => ?_)))
 refine za (ze (v := .map (some rm)) rfl) rfl (zd ?_)
 refine zc (zb (zp rfl (zY (v := fun b => pV b) (cs := [iV 0, iV 0, iV 0, iV 0]) (e := 88) (by kernel_rfl) hS.sat hO rfl 4 1 rfl (by decide) fun b7 w4 hb hO => zd ?_)))
 have hS := hS.keep hb
 have hO : Owns G1 w4 w0.heap.size [j9 b7 (Tb.zero 4), zbM rm []] := hO
 refine zc (zb (za (ze (v := .bool false) rfl) rfl (zd ?_)))
 refine zc (qx (fun F w => ∃ Fb G fd kb M, F = qC Fb [(1, pV b1), (6, .map (some rm)), (7, pV b7), (8, .bool fd)] ∧ Gle G1 G ∧ Since w0.heap.size G0 w0 G w ∧ Owns G w w0.heap.size [j9 b7 kb, zbM rm M] ∧ zp3 P S lk cost (2 ^ (P * S)) fd kb M) ?_ ?_)
 ·refine zc (zb (za (zf (v := iV (P : Int)) rfl) rfl (za (zj zaQ rfl) rfl (za (v := iV (S : Int)) (by rw [← hs]; exact zk n3 rfl (hS.sat.cell (hc1 2 _ rfl))) rfl (za (zdn rfl rfl) rfl ?_)))))
  rw [hwA]
  refine za (zeL rfl rfl (zhd hA6)) rfl (za (zf (v := iV 0) rfl) rfl (zd ?_))
  refine zB (qZ (qJ (2 ^ (P * S)) (fun i F w => ∃ Fb G fd kb M, F = qC Fb [(1, pV b1), (5, iV (P : Int)), (6, .map (some rm)), (7, pV b7), (8, .bool fd), (27, iV ((2 ^ (P * S) : Nat) : Int)), (28, iV (i : Int))] ∧ Gle G1 G ∧ Since w0.heap.size G0 w0 G w ∧ Owns G w w0.heap.size [j9 b7 kb, zbM rm M] ∧ zp3 P S lk cost i fd kb M) ?_ ?_ (2 ^ (P * S)) 0 _ _ (by omega) ⟨_, G1, false, Tb.zero 4, [], zi _ _ ⟨rfl, rfl, rfl, rfl, rfl, rfl, rfl, trivial⟩, Gle.refl _, hS, hO, .inl ⟨rfl, fun b hb => by omega⟩⟩))
  ·rintro i F w hi ⟨Fb, G, fd, kb, M, rfl, le, hS, hO, hkn⟩
   have hlt : ((i : Nat) : Int) < ((2 ^ (P * S) : Nat) : Int) := Int.ofNat_lt.2 hi
   have hi64 : i < 64 := by omega
   refine zc (zb (za (qa rfl rfl) rfl (zd (zc (qf (decide ((i : Int) < ((2 ^ (P * S) : Nat) : Int))) (decide_eq_true hlt) rfl (zD ?_))))))
   have hc1 := hc1.mono le
   have h1 := h1.mono zl le
   refine zc (zB (zc (zb (za (zf (v := iV (i : Int)) rfl) rfl (za (ze (v := iV (i : Int)) rfl) rfl (zd ?_))))))
   refine zc (zb (zp rfl (zY (v := fun b => pV b) (cs := [iV 0, iV 0, iV 0, iV 0]) (e := 88) (by kernel_rfl) hS.sat hO rfl 4 1 rfl (by decide) fun b10 w5 hb hO => zd ?_)))
   have hS := hS.keep hb
   have hO : Owns G w5 w0.heap.size [j9 b10 (x7 P S i 0), j9 b7 kb, zbM rm M] := hO
   refine zc (qx (fun F w => ∃ Fb, F = qC Fb [(1, pV b1), (5, iV (P : Int)), (6, .map (some rm)), (7, pV b7), (8, .bool fd), (10, pV b10), (27, iV ((2 ^ (P * S) : Nat) : Int)), (28, iV (i : Int))] ∧ Since w0.heap.size G0 w0 G w ∧ Owns G w w0.heap.size [j9 b10 (x7 P S i S), j9 b7 kb, zbM rm M]) ?_ ?_)
   ·refine zc (zb (za (zj zaQ rfl) rfl (za (v := iV (S : Int)) (by rw [← hs]; exact zk n3 rfl (hS.sat.cell (hc1 2 _ rfl))) rfl (za (zf (v := iV 0) rfl) rfl (zd ?_)))))
    refine zB (qZ (qJ S (fun s F w => ∃ Fb, F = qC Fb [(1, pV b1), (5, iV (P : Int)), (6, .map (some rm)), (7, pV b7), (8, .bool fd), (9, iV (i : Int)), (10, pV b10), (27, iV ((2 ^ (P * S) : Nat) : Int)), (28, iV (i : Int)), (32, iV (S : Int)), (33, iV (s : Int))] ∧ Since w0.heap.size G0 w0 G w ∧ Owns G w w0.heap.size [j9 b10 (x7 P S i s), j9 b7 kb, zbM rm M]) ?_ ?_ S 0 _ _ (by omega) ⟨_, zi _ _ ⟨rfl, rfl, rfl, rfl, rfl, rfl, rfl, rfl, rfl, rfl, rfl, trivial⟩, hS, hO⟩))
    ·rintro s F w hsS ⟨Fb, rfl, hS, hO⟩
     obtain ⟨hwE, hE6⟩ := zxF hP hS12 hsS
     refine zc (zb (za (qa rfl rfl) rfl (zd (zc (qf (decide ((s : Int) < (S : Int))) (decide_eq_true (by omega)) rfl (zD ?_))))))
     refine zc (zB (zc (zb (za (zf (v := iV (s : Int)) rfl) rfl (za (ze (v := iV (s : Int)) rfl) rfl (zd ?_))))))
     refine zQ qA (fun _ w => Sat G w) (.fl 0 (.fl 1 (.fl 2 (.fl 3 (.fl 4 (.fl 5 (.fl 6 (.fl 7 (.fl 8 (.fl 9 (.fl 10 (.fl 11 (.fl 12 (.fl 13 (.fl 14 (.on 15 .nil)))))))))))))))) (by kernel_rfl) rfl (by kernel_rfl) (fun _ => (hS.keep (zn _)).sat) ?_
     have hS := hS.keep (zn w)
     have hO := hO.below (zn w)
     refine zh rfl (fun w hw => zf (v := iV (s : Int)) rfl) rfl (zh rfl (fun w hw => zf (v := iV (i : Int)) rfl) rfl (zh rfl (fun w hw => zf (v := iV (P : Int)) rfl) rfl (zh rfl (fun w hw => zj zaQ rfl) rfl (zh (v := iV (S : Int)) rfl (fun w hw => by rw [← hs]; exact zk n3 rfl (hw.cell (hc1 2 _ rfl))) rfl (zh rfl (fun w hw => xE rfl rfl) rfl (zh rfl (fun w hw => zf (v := iV (s : Int)) rfl) rfl (zh rfl (fun w hw => xE rfl rfl) rfl (zh rfl (fun w hw => zdn rfl rfl) rfl ?_))))))))
     rw [hwE]
     refine zh rfl (fun w hw => zji rfl rfl (zlN hE6)) rfl (zh rfl (fun w hw => zf (v := iV (P : Int)) rfl) rfl (zh rfl (fun w hw => zeL rfl rfl (zhd (by omega))) rfl (zh rfl (fun w hw => xE rfl rfl) rfl (zh rfl (fun w hw => zjj rfl rfl) rfl ?_))))
     rw [zj0 hP (Nat.lt_of_le_of_lt (Nat.div_le_self _ _) hi64)]
     refine zh (v := .pointer (some ⟨b10, s, none⟩)) rfl (fun w hw => (ztT zA1 rfl rfl (zvv (by omega))).trans (by rw [Nat.zero_add, Nat.mul_one])) rfl ?_
     refine zt rfl rfl (zrO z3 hS hO (k := 0) rfl rfl rfl (by omega) fun w6 hS hO => ⟨fun _ h => zK (by kernel_rfl) h, qk ?_⟩)
     refine zb (za (qO rfl rfl) rfl (za (zf (v := iV ((s + 1 : Nat) : Int)) (congrArg iV (yQ (by omega)))) rfl (zd ?_)))
     exact ⟨_, zi _ _ ⟨rfl, rfl, rfl, rfl, rfl, rfl, rfl, rfl, rfl, rfl, rfl, trivial⟩, hS, hO⟩
    ·rintro F w ⟨Fb, rfl, hS, hO⟩
     refine qP (zc (zb (za (qa rfl rfl) rfl (zd (zc (zV (decide ((S : Int) < (S : Int))) (decide_eq_false (by omega)) rfl (ql rfl ?_)))))))
     exact ⟨_, zi _ _ ⟨rfl, rfl, rfl, rfl, rfl, rfl, rfl, rfl, trivial⟩, hS, hO⟩
   rintro F w6 ⟨Fb, rfl, hS, hO⟩
   refine zc (qx (fun F w => ∃ Fb G' a2 n2 c2 b12, F = qC Fb [(1, pV b1), (5, iV (P : Int)), (6, .map (some rm)), (7, pV b7), (8, .bool fd), (10, pV b10), (12, pV b12), (27, iV ((2 ^ (P * S) : Nat) : Int)), (28, iV (i : Int))] ∧ Gle G G' ∧ Since w0.heap.size G0 w0 G' w ∧ Owns G' w w0.heap.size [⟨91, 4, 1, .slice (some ⟨b12, 0, none⟩) 1 1, [.slice a1 n1 c1, iV r.Miss, iV r.Seasons, .slice a2 n2 c2]⟩, j9 b10 (x7 P S i S), j9 b7 kb, zbM rm M] ∧ RSl zW 1 G' a2 n2 c2 (jM P S i)) ?_ ?_)
   ·refine zQ qA (fun _ w => Sat G w) (.fl 0 (.fl 1 (.fl 2 (.fl 3 (.two 4 (.fl 5 (.on 6 (.on 7 .nil))) 6 (.on 4 (.fl 5 (.on 7 .nil)))))))) (by kernel_rfl) rfl (by kernel_rfl) (fun _ => (hS.keep (zn _)).sat) ?_
    have hS := hS.keep (zn w6)
    have hO := hO.below (zn w6)
    refine zh rfl (fun w hw => zw g35 (cs := [.slice a1 n1 c1, iV r.Miss, iV r.Seasons]) rfl rfl fun j v hj => hw.cell (hc1 j v hj)) rfl (zh rfl (fun w hw => zj zaQ rfl) rfl (zh (v := iV (S : Int)) rfl (fun w hw => by rw [← hs]; exact zk n3 rfl (hw.cell (hc1 2 _ rfl))) rfl (zh rfl (fun w hw => zeK (κ := ⟨none, none, w0.heap.size, false, []⟩) rfl rfl (show S ≤ 4 by omega) w) rfl (zhU ?_ ?_))))
    ·refine zt rfl rfl (yq (fi := []) (al := [.slice (some ⟨b10, 0, none⟩) S 4]) (ca := []) c25 (zbx hS hO (hO.srcK (k := 0) rfl (by omega)) (by rw [vG]; omega)) rfl rfl rfl fun v G2 w7 L2 le2 hS hO hv => ?_)
     obtain ⟨a2, c2, cl2, rfl, rfl, hr2⟩ := hv
     obtain ⟨G3, le3, hS, hO, hpl⟩ := hO.freezeS hS zm (k := 0) rfl hr2 rfl
     have hO : Owns G3 w7 w0.heap.size [j9 b10 (x7 P S i S), j9 b7 kb, zbM rm M] := hO
     refine ⟨fun _ _ => hS.sat.le (le2.trans le3), ?_⟩
     refine zh (v := .agg #[.slice a1 n1 c1, iV r.Miss, iV r.Seasons, .slice a2 (jM P S i).length c2]) rfl (fun w hw => by kernel_rfl) rfl ?_
     refine zt rfl rfl (zY (v := fun b => pV b) (cs := [.slice none 0 0, iV 0, iV 0, .slice none 0 0]) (e := 91) (by kernel_rfl) hS.sat hO rfl 4 1 rfl (by decide) fun b12 w8 hb hO => ⟨fun _ _ => (hS.keep hb).sat.le (le2.trans le3), ?_⟩)
     have hS := hS.keep hb
     refine zt rfl rfl (zM (vs := [.slice a1 n1 c1, iV r.Miss, iV r.Seasons, .slice a2 (jM P S i).length c2]) z91 hS hO (k := 0) rfl rfl rfl rfl rfl (zR rfl) (Nat.le_of_ble_eq_true rfl) fun w9 hS hO => ⟨fun _ h => zK (by kernel_rfl) h, qk ?_⟩)
     exact ⟨_, G3, a2, _, c2, b12, zi _ _ ⟨rfl, rfl, rfl, rfl, rfl, rfl, rfl, rfl, rfl, trivial⟩, le2.trans le3, hS, hO, hpl⟩
    ·refine zt rfl rfl (zY (v := fun b => pV b) (cs := [.slice none 0 0, iV 0, iV 0, .slice none 0 0]) (e := 91) (by kernel_rfl) hS.sat hO rfl 4 1 rfl (by decide) fun b12 w8 hb hO => ⟨fun _ _ => (hS.keep hb).sat, ?_⟩)
     have hS := hS.keep hb
     refine zt rfl rfl (yq (fi := []) (al := [.slice (some ⟨b10, 0, none⟩) S 4]) (ca := []) c25 (zbx hS hO (hO.srcK (k := 1) rfl (by omega)) (by rw [vG]; omega)) rfl rfl rfl fun v G2 w7 L2 le2 hS hO hv => ?_)
     obtain ⟨a2, c2, cl2, rfl, rfl, hr2⟩ := hv
     obtain ⟨G3, le3, hS, hO, hpl⟩ := hO.freezeS hS zm (k := 0) rfl hr2 rfl
     have hO : Owns G3 w7 w0.heap.size [⟨91, 4, 1, .slice (some ⟨b12, 0, none⟩) 1 1, [.slice none 0 0, iV 0, iV 0, .slice none 0 0]⟩, j9 b10 (x7 P S i S), j9 b7 kb, zbM rm M] := hO
     refine ⟨fun _ _ => hS.sat.le (le2.trans le3), ?_⟩
     refine zh (v := .agg #[.slice a1 n1 c1, iV r.Miss, iV r.Seasons, .slice a2 (jM P S i).length c2]) rfl (fun w hw => by kernel_rfl) rfl ?_
     refine zt rfl rfl (zM (vs := [.slice a1 n1 c1, iV r.Miss, iV r.Seasons, .slice a2 (jM P S i).length c2]) z91 hS hO (k := 0) rfl rfl rfl rfl rfl (zR rfl) (Nat.le_of_ble_eq_true rfl) fun w9 hS hO => ⟨fun _ h => zK (by kernel_rfl) h, qk ?_⟩)
     exact ⟨_, G3, a2, _, c2, b12, zi _ _ ⟨rfl, rfl, rfl, rfl, rfl, rfl, rfl, rfl, rfl, trivial⟩, le2.trans le3, hS, hO, hpl⟩
   rintro F w7 ⟨Fb, G', a2, n2, c2, b12, rfl, le', hS, hO, hpl⟩
   have h1 := h1.mono zl le'
   refine zc (zb (za (zw g91 (cs := [.slice a1 n1 c1, iV r.Miss, iV r.Seasons, .slice a2 n2 c2]) rfl rfl (yu hO (k := 0) rfl 0 4)) rfl ?_))
   refine zp rfl (zu c26 (zxx (x0 := ⟨r, jM P S i⟩) hS.sat h1 hpl (hcost i hi)) rfl rfl fun w8 hb => ?_)
   have hS := hS.keep hb
   have hO := hO.below hb
   refine za (ze (v := iV (cost i)) rfl) rfl (zd ?_)
   refine zc (qx (fun F w => ∃ Fb, F = qC Fb [(1, pV b1), (5, iV (P : Int)), (6, .map (some rm)), (7, pV b7), (8, .bool fd), (10, pV b10), (12, pV b12), (13, iV (cost i)), (27, iV ((2 ^ (P * S) : Nat) : Int)), (28, iV (i : Int))] ∧ w = w8 ∧ (fd = true → ∃ a, a < i ∧ lk a = none ∧ kb = x7 P S a S ∧ zbV M kb = some (cost a) ∧ cost i < cost a ∧ ∀ b, b < i → lk b = none → cost a ≤ cost b)) ?_ ?_)
   ·refine zc (zb (za (zf (v := .bool fd) rfl) rfl (za (zf (v := .bool fd) rfl) rfl ?_)))
    rcases hkn with ⟨rfl, hno⟩ | ⟨rfl, a, ha, hla, hkb, hlo, hbest⟩
    ·refine qE rfl (b := false) rfl rfl rfl rfl (qE rfl (b := false) rfl rfl rfl rfl (qE rfl (b := false) rfl rfl rfl rfl (qE rfl (b := false) rfl rfl rfl rfl (qE rfl (b := false) rfl rfl rfl rfl ?_))))
     refine za (xg (v := .bool false) rfl rfl rfl) rfl (zd (zV false rfl rfl (zD ?_)))
     exact ⟨_, zi _ _ ⟨rfl, rfl, rfl, rfl, rfl, rfl, rfl, rfl, rfl, rfl, trivial⟩, rfl, fun h => by cases h⟩
    ·refine zo rfl (b := true) rfl rfl rfl (za (zf (v := iV (cost i)) rfl) rfl ?_)
     refine zo rfl (b := true) rfl rfl rfl (za (zf (v := .map (some rm)) rfl) rfl ?_)
     refine zo rfl (b := true) rfl rfl rfl (za (zcE g88 hO (k := 2) rfl rfl) rfl ?_)
     refine zo rfl (b := true) rfl rfl rfl (za (v := iV (cost a)) ((zgg (z := (0 : Int)) (vv := vI) u87 zjy zz3 hO (L := [⟨91, 4, 1, .slice (some ⟨b12, 0, none⟩) 1 1, [.slice a1 n1 c1, iV r.Miss, iV r.Seasons, .slice a2 n2 c2]⟩, j9 b10 (x7 P S i S), j9 b7 kb, zbM rm M]) (k := 3) rfl rfl rfl).trans (by rw [hlo]; rfl)) rfl ?_)
     refine zo rfl (b := true) rfl rfl rfl (za (zb5 rfl rfl) rfl ?_)
     refine za (yH (v := .bool (decide (cost i ≥ cost a))) rfl rfl rfl) rfl (zd (z7 rfl (fun hb => ?_) (fun hb => zD ?_)))
     ·have hge : cost a ≤ cost i := by simpa using hb
      refine ql rfl ?_
      refine zb (za (qO rfl rfl) rfl (za (zf (v := iV ((i + 1 : Nat) : Int)) (congrArg iV (yQ (by omega)))) rfl (zd ?_)))
      refine ⟨_, G', true, kb, M, zi _ _ ⟨rfl, rfl, rfl, rfl, rfl, rfl, rfl, trivial⟩, le.trans le', hS, (hO.drop 0).drop 0, .inr ⟨rfl, a, by omega, hla, hkb, hlo, fun b hb hb2 => ?_⟩⟩
      by_cases hbi : b = i
      ·subst hbi; exact hge
      ·exact hbest b (by omega) hb2
     ·have hge : ¬ cost i ≥ cost a := by simpa using hb
      exact ⟨_, zi _ _ ⟨rfl, rfl, rfl, rfl, rfl, rfl, rfl, rfl, rfl, rfl, trivial⟩, rfl, fun _ => ⟨a, ha, hla, hkb, hlo, by omega, hbest⟩⟩
   rintro F w ⟨Fb, rfl, rfl, hlow⟩
   refine zc (zb (za (zw g91 (cs := [.slice a1 n1 c1, iV r.Miss, iV r.Seasons, .slice a2 n2 c2]) rfl rfl (yu hO (k := 0) rfl 0 4)) rfl ?_))
   refine zp rfl (zu c27 (zm3 (x := ⟨r, jM P S i⟩) (tk := tk i) hS.sat h1 hpl hs hS12.1 (htk i hi) (ht i hi)) rfl rfl fun w9 hb => ?_)
   have hS := hS.keep hb
   have hO := hO.below hb
   have hlki := hlk i hi
   rw [← hlki]
   obtain ⟨j, d, is, hrv, his⟩ : ∃ (j : Nat) (d : Int) (is : Bool), zoR (lk i) = .tuple #[shA j d, .bool is] ∧ (is = true ↔ lk i = none) := by
    cases lk i with
    | none => exact ⟨0, 0, true, rfl, by simp⟩
    | some q => obtain ⟨j, d⟩ := q; exact ⟨j, d, false, rfl, by simp⟩
   rw [hrv]
   refine za (zf (v := .tuple #[shA j d, .bool is]) rfl) rfl (za (zT (v := shA j d) rfl rfl) rfl (za (zT (v := .bool is) rfl rfl) rfl ?_))
   refine zp rfl (zY (v := fun b => pV b) (cs := [iV 0, iV 0]) (e := 94) (by kernel_rfl) hS.sat hO rfl 2 1 rfl (by decide) fun b14 w10 hb hO => ?_)
   have hS := hS.keep hb
   refine zp rfl (zM (vs := [iV (j : Int), iV d]) z94 hS hO (k := 0) rfl rfl rfl rfl rfl (zR rfl) (Nat.le_of_ble_eq_true rfl) fun w11 hS hO => ?_)
   have hO : Owns G' w11 w0.heap.size (rowS b14 j d :: [⟨91, 4, 1, .slice (some ⟨b12, 0, none⟩) 1 1, [.slice a1 n1 c1, iV r.Miss, iV r.Seasons, .slice a2 n2 c2]⟩, j9 b10 (x7 P S i S), j9 b7 kb, zbM rm M]) := hO
   refine za (ze (v := .bool is) rfl) rfl (zd (zc (zb (za (zf (v := .bool is) rfl) rfl (zd ?_)))))
   cases is with
   | false =>
    have hne : lk i ≠ none := fun h => by have := his.2 h; cases this
    refine zV false rfl rfl (zD ?_)
    refine zb (za (qO rfl rfl) rfl (za (zf (v := iV ((i + 1 : Nat) : Int)) (congrArg iV (yQ (by omega)))) rfl (zd ?_)))
    refine ⟨_, G', fd, kb, M, zi _ _ ⟨rfl, rfl, rfl, rfl, rfl, rfl, rfl, trivial⟩, le.trans le', hS, ((hO.drop 0).drop 0).drop 0, ?_⟩
    rcases hkn with ⟨rfl, hno⟩ | ⟨rfl, a, ha, hla, hkb, hlo, hbest⟩
    ·refine .inl ⟨rfl, fun b hb => ?_⟩
     by_cases hbi : b = i
     ·subst hbi; exact hne
     ·exact hno b (by omega)
    ·refine .inr ⟨rfl, a, by omega, hla, hkb, hlo, fun b hb hb2 => ?_⟩
     by_cases hbi : b = i
     ·subst hbi; exact absurd hb2 hne
     ·exact hbest b (by omega) hb2
   | true =>
    have hnn : lk i = none := his.1 rfl
    refine qf true rfl rfl (zc (zb (za (zf (v := .map (some rm)) rfl) rfl (za (zcE g88 hO (k := 2) rfl rfl) rfl (za (zf (v := iV (cost i)) rfl) rfl ?_)))))
    refine zp rfl (zqz u87 zjy (vv := vI) (a := x7 P S i S) (v := cost i) hS hO (k := 4) rfl rfl rfl rfl rfl fun w12 hS hO => zd ?_)
    have hO : Owns G' w12 w0.heap.size [rowS b14 j d, ⟨91, 4, 1, .slice (some ⟨b12, 0, none⟩) 1 1, [.slice a1 n1 c1, iV r.Miss, iV r.Seasons, .slice a2 n2 c2]⟩, j9 b10 (x7 P S i S), j9 b7 kb, zbM rm (updM M (x7 P S i S) (cost i))] := hO
    refine zb (za (zcE g88 hO (k := 2) rfl rfl) rfl ?_)
    refine zp rfl (zrb z88 hS hO (k := 3) rfl rfl rfl fun w13 hS hO => ?_)
    have hO : Owns G' w13 w0.heap.size [rowS b14 j d, ⟨91, 4, 1, .slice (some ⟨b12, 0, none⟩) 1 1, [.slice a1 n1 c1, iV r.Miss, iV r.Seasons, .slice a2 n2 c2]⟩, j9 b10 (x7 P S i S), j9 b7 (x7 P S i S), zbM rm (updM M (x7 P S i S) (cost i))] := hO
    refine za (ze (v := .bool true) rfl) rfl (zd ?_)
    refine zb (za (qO rfl rfl) rfl (za (zf (v := iV ((i + 1 : Nat) : Int)) (congrArg iV (yQ (by omega)))) rfl (zd ?_)))
    refine ⟨_, G', true, x7 P S i S, _, zi _ _ ⟨rfl, rfl, rfl, rfl, rfl, rfl, rfl, trivial⟩, le.trans le', hS, ((hO.drop 0).drop 0).drop 0, .inr ⟨rfl, i, by omega, hnn, rfl, zil _ _ _, fun b hb hb2 => ?_⟩⟩
    by_cases hbi : b = i
    ·subst hbi; exact Int.le_refl _
    ·rcases hkn with ⟨rfl, hno⟩ | ⟨rfl, a, ha, hla, hkb, hlo, hbest⟩
     ·exact absurd hb2 (hno b (by omega))
     ·obtain ⟨a', ha', _, _, _, hlt', hbest'⟩ := hlow rfl
      have := hbest' b (by omega) hb2
      omega
  ·rintro F w ⟨Fb, G, fd, kb, M, rfl, le, hS, hO, hkn⟩
   refine qP (zc (zb (za (qa rfl rfl) rfl (zd (zc (zV (decide (((2 ^ (P * S) : Nat) : Int) < ((2 ^ (P * S) : Nat) : Int))) (decide_eq_false (by omega)) rfl (ql rfl ?_)))))))
   exact ⟨_, G, fd, kb, M, zi _ _ ⟨rfl, rfl, rfl, rfl, trivial⟩, le, hS, hO, hkn⟩
 ·rintro F w ⟨Fb, G, fd, kb, M, rfl, le, hS, hO, hkn⟩
  refine zc (zc (zb (za (zf (v := .bool fd) rfl) rfl (za (qI rfl) rfl (zd ?_)))))
  rcases hkn with ⟨rfl, hno⟩ | ⟨rfl, a, ha, hla, hkb, hlo, hbest⟩
  ·refine qf true rfl rfl (zc (zb (za (ze (v := .slice none 0 0) rfl) rfl (za (ze (v := iV 0) rfl) rfl (za (ze (v := iV 5) rfl) rfl (zd (zH ?_)))))))
   exact ⟨[.slice none 0 0, iV 0, iV 5], ⟨rfl, rfl, rfl, trivial⟩, _, G, rfl, hS.toGrow, .inr ⟨hno, rfl⟩⟩
  ·refine zV false rfl rfl (zD (zc ?_))
   have hc1 := hc1.mono le
   refine zQ qA (fun _ w => Sat G w ∧ Owns G w w0.heap.size [j9 b7 kb, zbM rm M]) (.fl 0 (.fl 1 (.fl 2 (.fl 4 (.fl 5 (.fl 6 (.on 3 (.on 7 (.on 8 (.on 9 .nil)))))))))) (by kernel_rfl) rfl (by kernel_rfl) (fun _ => ⟨(hS.keep (zn _)).sat, hO.below (zn _)⟩) ?_
   have hS := hS.keep (zn w)
   have hO := hO.below (zn w)
   refine zh rfl (fun w hw => zj zaQ rfl) rfl (zh (v := iV (S : Int)) rfl (fun w hw => by rw [← hs]; exact zk n3 rfl (hw.1.cell (hc1 2 _ rfl))) rfl (zh rfl (fun w hw => zeK (κ := ⟨none, none, w0.heap.size, false, []⟩) rfl rfl (show S ≤ 4 by omega) w) rfl (zh rfl (fun w hw => zf (v := .map (some rm)) rfl) rfl (zh rfl (fun w hw => zcE g88 hw.2 (k := 0) rfl rfl) rfl (zh (v := iV (cost a)) rfl (fun w hw => (zgg (z := (0 : Int)) (vv := vI) u87 zjy zz3 hw.2 (k := 1) rfl rfl rfl).trans (by rw [hlo]; rfl)) rfl ?_)))))
   have hOk := hO
   rw [hkb] at hOk
   refine zt rfl rfl (yq (fi := []) (al := [.slice (some ⟨b7, 0, none⟩) S 4]) (ca := []) c25 (zbx hS hO (hOk.srcK (k := 0) rfl (by omega)) (by rw [vG]; omega)) rfl rfl rfl fun v G2 w7 L2 le2 hS hO hv => ?_)
   obtain ⟨a2, c2, cl2, rfl, rfl, hr2⟩ := hv
   obtain ⟨G3, le3, hS, hO, hpl⟩ := hO.freezeS hS zm (k := 0) rfl hr2 rfl
   have hO : Owns G3 w7 w0.heap.size [j9 b7 kb, zbM rm M] := hO
   have hk : Sat G w7 ∧ Owns G w7 w0.heap.size [j9 b7 kb, zbM rm M] := ⟨hS.sat.le (le2.trans le3), hO.le (le2.trans le3)⟩
   refine ⟨fun _ _ => hk, ?_⟩
   refine zt rfl rfl (zA (ze (v := .slice a2 (jM P S a).length c2) rfl) rfl ⟨fun _ _ => hk, ?_⟩)
   refine zt rfl rfl (zA (ze (v := iV (cost a)) rfl) rfl ⟨fun _ _ => hk, ?_⟩)
   refine zt rfl rfl (zA (ze (v := iV 0) rfl) rfl ⟨fun _ _ => hk, qk (zH ?_)⟩)
   exact ⟨[.slice a2 (jM P S a).length c2, iV (cost a), iV 0], ⟨rfl, rfl, rfl, trivial⟩, _, G3, rfl, hS.toGrow, .inl ⟨a, a2, _, c2, ha, hla, hbest, rfl, hpl⟩⟩
end
end Go.Proofs.YtcapocmenjcnhaaGreatDoor
