/-
  The example of the chapters: the calls that it makes, and what they answer.
-/
import Derived.Test.YtdgkjgljkgjjiaaGreatDoorEvG5
import Derived.Test.YtdgkjgljkgjjiaaGreatDoorChecked
import Derived.KernelRfl
import Derived.Lib.ItoaNum
namespace Go.Proofs.YtdgkjgljkgjjiaaGreatDoor.Ev
open Go.RowKit

noncomputable def i64 (n : Nat) : AV := .lit (.int .i64 n)
noncomputable def pw : List Value := Lib.pow10Tab.map fun z => Value.int .u64 z
noncomputable def hp0 : Hp := hset (.cells (.l (pw.map .lit)) true) (tnil 14) 1
noncomputable def cellL : List AV := [i64 100, i64 20, i64 200, i64 10, i64 1000, .slc 37 0 2 2 3, i64 4, i64 3, i64 2, i64 50, i64 80]
noncomputable def cellPre : List (Nat × List AV) := [(37, [i64 120, i64 0, .lit (.bool true), i64 60, i64 100, .lit (.bool false)])]
noncomputable def faultE (p b : Nat) (s : ByteArray) (d k : Nat) (is : Bool) : Ent := ⟨73, [.agg cellL, .agg [i64 p, i64 b], i64 0], cellPre, .tup [.agg [.lit (.string s), i64 d, i64 k], .lit (.bool is)], none⟩
noncomputable def fault00 : Ent := faultE 0 0 ⟨#[115, 115, 115, 115]⟩ 0 0 true
noncomputable def fault10 : Ent := faultE 1 0 ⟨#[115, 115, 115, 115]⟩ 0 0 true
noncomputable def fault01 : Ent := faultE 0 1 ⟨#[115, 115, 115, 115]⟩ 1 0 true
noncomputable def fault20 : Ent := faultE 2 0 ⟨#[115, 115, 115, 115]⟩ 0 0 true
noncomputable def fault11 : Ent := faultE 1 1 ⟨#[115, 115, 115, 99]⟩ 3 0 true
noncomputable def fault30 : Ent := faultE 3 0 ⟨#[115, 115, 115, 115]⟩ 0 0 true
noncomputable def fault02 : Ent := faultE 0 2 ⟨#[115, 115, 115, 115]⟩ 2 0 true
noncomputable def fault21 : Ent := faultE 2 1 ⟨#[115, 115, 99, 99]⟩ 3 0 true
noncomputable def fault40 : Ent := faultE 4 0 ⟨#[115, 115, 115, 115]⟩ 0 0 true
noncomputable def fault12 : Ent := faultE 1 2 ⟨#[115, 115, 99, 99]⟩ 3 0 true
noncomputable def fault31 : Ent := faultE 3 1 ⟨#[115, 115, 99, 99]⟩ 3 0 true
noncomputable def fault03 : Ent := faultE 0 3 ⟨#[115, 115, 115, 115]⟩ 3 0 true
noncomputable def fault50 : Ent := faultE 5 0 ⟨#[115, 115, 115, 115]⟩ 0 0 true
noncomputable def fault22 : Ent := faultE 2 2 ⟨#[]⟩ 0 0 false
noncomputable def faults : List (FuncId × List Ent) := [(73, [fault00, fault10, fault01, fault20, fault11, fault30, fault02, fault21, fault40, fault12, fault31, fault03, fault50, fault22])]
noncomputable def fewestE : Ent := ⟨17, [.agg [i64 1000, i64 400, i64 600, i64 200, i64 10000, i64 300, i64 400, i64 50, i64 100, i64 30, i64 250, i64 10, .slc 8 0 2 2 1, .slc 9 0 3 3 6, i64 2, i64 2]],
  [(8, [i64 200, i64 300]), (9, [i64 100, i64 150, i64 0, i64 20, i64 40, i64 50, i64 100, i64 150, i64 0, i64 20, i64 40, i64 50, i64 100, i64 150, i64 0, i64 20, i64 40, i64 50])], .tup [i64 12, i64 0], none⟩
noncomputable def bestE : Ent := ⟨19, [.agg cellL], cellPre, .tup [i64 2, i64 2, i64 260, i64 0], none⟩
noncomputable def reefE : Ent := ⟨18, [.agg [.slc 24 0 2 2 12, i64 200, i64 2]], [(24, [i64 1000, i64 2000, i64 200, i64 300, i64 100, i64 1, i64 200, i64 300, i64 0, i64 50, i64 900, i64 10, i64 500, i64 800, i64 100, i64 200, i64 0, .lit (.int .i64 (-1)), i64 100, i64 200, i64 0, i64 20, i64 450, i64 6])], .tup [.slc 0 0 2 2 1, i64 26, i64 0], some [i64 1, i64 3]⟩
noncomputable def guardsE : Ent := ⟨6, [.agg [i64 4, .slc 26 0 1 1 1, .slc 27 0 1 1 1, .slc 28 0 5 5 4, i64 2]], [(26, [i64 0]), (27, [i64 3]), (28, [i64 1, i64 0, i64 1, i64 5, i64 2, i64 1, i64 3, i64 9, i64 3, i64 1, i64 2, i64 4, i64 5, i64 2, i64 3, i64 6, i64 4, i64 0, i64 2, i64 7])], .tup [.slc 0 0 1 1 1, i64 4, i64 0], some [i64 2]⟩
noncomputable def knowns : List (FuncId × List Ent) := [(17, [fewestE]), (19, [bestE]), (18, [reefE]), (6, [guardsE])]
theorem none_ok (P : Program) : EntsS P [] := fun p hp => by cases hp
end Go.Proofs.YtdgkjgljkgjjiaaGreatDoor.Ev
