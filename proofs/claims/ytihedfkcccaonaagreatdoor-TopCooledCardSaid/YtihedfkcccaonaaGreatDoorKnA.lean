/-
 The example of the chapters: the calls that it makes, and what they answer.
-/
import Derived.Test.YtihedfkcccaonaaGreatDoorEvG5
import Derived.Test.YtihedfkcccaonaaGreatDoorChecked
import Derived.KernelRfl
import Derived.Lib.ItoaNum
namespace Go.Proofs.YtihedfkcccaonaaGreatDoor.Ev
noncomputable section
open Go.RowKit
def i64 (n : Nat) : AV := .lit (.int .i64 n)
def pw : List Value := Lib.pow10Tab.map fun z => Value.int .u64 z
def hp0 : Hp := hset (.cells (.l (pw.map .lit)) true) (xL 14) 1
def ztC : List AV := [i64 100, i64 20, i64 200, i64 10, i64 1000, .slc 37 0 2 2 3, i64 4, i64 3, i64 2, i64 50, i64 80]
def zl3 : List (Nat × List AV) := [(37, [i64 120, i64 0, .lit (.bool true), i64 60, i64 100, .lit (.bool false)])]
def jm (p b : Nat) (s : ByteArray) (d k : Nat) (is : Bool) : Ent := ⟨31, [.agg ztC, .agg [i64 p, i64 b], i64 0], zl3, .tup [.agg [.lit (.string s), i64 d, i64 k], .lit (.bool is)], none⟩
def zlR : Ent := jm 0 0 ⟨#[115, 115, 115, 115]⟩ 0 0 true
def zlN : Ent := jm 1 0 ⟨#[115, 115, 115, 115]⟩ 0 0 true
def zlQ : Ent := jm 0 1 ⟨#[115, 115, 115, 115]⟩ 1 0 true
def zlK : Ent := jm 2 0 ⟨#[115, 115, 115, 115]⟩ 0 0 true
def zlM : Ent := jm 1 1 ⟨#[115, 115, 115, 99]⟩ 3 0 true
def zlH : Ent := jm 3 0 ⟨#[115, 115, 115, 115]⟩ 0 0 true
def zlP : Ent := jm 0 2 ⟨#[115, 115, 115, 115]⟩ 2 0 true
def zlJ : Ent := jm 2 1 ⟨#[115, 115, 99, 99]⟩ 3 0 true
def zlF : Ent := jm 4 0 ⟨#[115, 115, 115, 115]⟩ 0 0 true
def zlL : Ent := jm 1 2 ⟨#[115, 115, 99, 99]⟩ 3 0 true
def zlG : Ent := jm 3 1 ⟨#[115, 115, 99, 99]⟩ 3 0 true
def zlO : Ent := jm 0 3 ⟨#[115, 115, 115, 115]⟩ 3 0 true
def zlE : Ent := jm 5 0 ⟨#[115, 115, 115, 115]⟩ 0 0 true
def zlI : Ent := jm 2 2 ⟨#[]⟩ 0 0 false
def zfi : List (FuncId × List Ent) := [(31, [zlR, zlN, zlQ, zlK, zlM, zlH, zlP, zlJ, zlF, zlL, zlG, zlO, zlE, zlI])]
def zhD : Ent := ⟨21, [.agg [i64 1000, i64 400, i64 600, i64 200, i64 10000, i64 300, i64 400, i64 50, i64 100, i64 30, i64 250, i64 10, .slc 8 0 2 2 1, .slc 9 0 3 3 6, i64 2, i64 2]],
 [(8, [i64 200, i64 300]), (9, [i64 100, i64 150, i64 0, i64 20, i64 40, i64 50, i64 100, i64 150, i64 0, i64 20, i64 40, i64 50, i64 100, i64 150, i64 0, i64 20, i64 40, i64 50])], .tup [i64 12, i64 0], none⟩
def zqm : Ent := ⟨7, [.agg ztC], zl3, .tup [i64 2, i64 2, i64 260, i64 0], none⟩
def znQ : Ent := ⟨22, [.agg [.slc 24 0 2 2 12, i64 200, i64 2]], [(24, [i64 1000, i64 2000, i64 200, i64 300, i64 100, i64 1, i64 200, i64 300, i64 0, i64 50, i64 900, i64 10, i64 500, i64 800, i64 100, i64 200, i64 0, .lit (.int .i64 (-1)), i64 100, i64 200, i64 0, i64 20, i64 450, i64 6])], .tup [.slc 0 0 2 2 1, i64 26, i64 0], some [i64 1, i64 3]⟩
def zhy : Ent := ⟨23, [.agg [i64 4, .slc 26 0 1 1 1, .slc 27 0 1 1 1, .slc 28 0 5 5 4, i64 2]], [(26, [i64 0]), (27, [i64 3]), (28, [i64 1, i64 0, i64 1, i64 5, i64 2, i64 1, i64 3, i64 9, i64 3, i64 1, i64 2, i64 4, i64 5, i64 2, i64 3, i64 6, i64 4, i64 0, i64 2, i64 7])], .tup [.slc 0 0 1 1 1, i64 4, i64 0], some [i64 2]⟩
def zka : List (FuncId × List Ent) := [(21, [zhD]), (7, [zqm]), (22, [znQ]), (23, [zhy])]
theorem zlg (P : Program) : zcX P [] := fun p hp => by cases hp
end
end Go.Proofs.YtihedfkcccaonaaGreatDoor.Ev
