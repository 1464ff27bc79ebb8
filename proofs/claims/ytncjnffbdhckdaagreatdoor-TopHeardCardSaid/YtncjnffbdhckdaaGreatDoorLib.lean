/-
 The library's contract at this program: slices.Insert.
-/
import Derived.Test.YtncjnffbdhckdaaGreatDoorBsC
import Derived.Test.YtncjnffbdhckdaaGreatDoorProg
namespace Go.Proofs.YtncjnffbdhckdaaGreatDoor
open Go.RowKit
set_option linter.unusedVariables false
set_option maxRecDepth 20000
def laysLays221_ren : Go.Shelf.Ren := ⟨fun x => match x with | 21 => 84 | 27 => 162 | 28 => 163 | 35 => 211 | 39 => 271 | n => n, fun x => match x with | 22 => 24 | 3 => 3 | 4 => 4 | 0 => 0 | n => n, fun x => x⟩
theorem laysLays221 : Lays2.n21 Tryz.prog laysLays221_ren :=
 { mixed := by kernel_rfl, f21 := Tryz.func84.trans (congrArg some (by kernel_rfl)), f27 := Tryz.func162.trans (congrArg some (by kernel_rfl)), f28 := Tryz.func163.trans (congrArg some (by kernel_rfl)), f35 := Tryz.func211.trans (congrArg some (by kernel_rfl)), f39 := Tryz.func271.trans (congrArg some (by kernel_rfl)), t0 := Tryz.underlying0, a0 := Tryz.isAgg0, z0 := Tryz.sizeOf0, v0 := Tryz.zeroValue0, t3 := Tryz.underlying3, a3 := Tryz.isAgg3, z3 := Tryz.sizeOf3, v3 := Tryz.zeroValue3, t4 := Tryz.underlying4, a4 := Tryz.isAgg4, z4 := Tryz.sizeOf4, v4 := Tryz.zeroValue4, t22 := Tryz.underlying24, a22 := Tryz.isAgg24, z22 := Tryz.sizeOf24, v22 := Tryz.zeroValue24, i3 := by kernel_rfl }
theorem f84_ok {B : Nat} {G0 : Gm} {w0 : World} {Gc : Gm} {wc : World} {Lq : List Row} {a : Option Addr} {n c e' vb : Nat} {cells : List Value} {xs zs : List Int} {i x : Int}
  (hS : Since B G0 w0 Gc wc) (hO : Owns Gc wc B (⟨3, 1, n, .slice a n c, cells⟩ :: ⟨e', 1, 1, .slice (some ⟨vb, 0, none⟩) 1 1, [.int .i64 x]⟩ :: Lq)) (hn : n = xs.length) (hrd : Rd RInt 1 Gc cells xs) (H : insL xs i x = some zs) :
  Calls Tryz.prog 84 #[.slice a n c, .int .i64 i, .slice (some ⟨vb, 0, none⟩) 1 1] wc (RetO B G0 w0 Gc wc (fun G L r => ∃ a' c' cells', r = .slice a' zs.length c' ∧ L = ⟨3, 1, zs.length, .slice a' zs.length c', cells'⟩ :: ⟨e', 1, 1, .slice (some ⟨vb, 0, none⟩) 1 1, [.int .i64 x]⟩ :: Lq ∧ Rd RInt 1 G cells' zs)) :=
 ins_ok laysLays221 hS hO hn hrd H
set_option linter.all false
abbrev zt {n : Nat} (e s b : Nat) (x : Tb n) : Row := ⟨e, s, 1, .slice (some ⟨b, 0, none⟩) 1 1, cellsT x⟩
def zV := @WL_val
def zQ := @WC_seq
def zR := @WC_region
def zN := @WL_nil
def zG := @WL_guardN
def zY := @WL_guardY
def zm := @rn_move
def zD := @WD_val
def zE := @WD_op
def zO := @WL_op
def zA := @rn_assign
def zF := @rn_fld
def zL := @rn_load
def zB := @WD_valY
def zK := @WD_skip
def zP := @WC_skip
def zC := @OpP_callV
def zX := @rn_extract
def zU := @OpP_newO
def zI := @WD_nil
def zT := @WC_cond
def zM := @WC_cut
def zb := @WC_block
def zr := @WC_ret
def zu := @upds_self
def zl := @rn_lss
end Go.Proofs.YtncjnffbdhckdaaGreatDoor
