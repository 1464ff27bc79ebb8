/-
 The example of the chapters: the calls that it makes, and what they answer.
-/
import Derived.Test.YtcapocmenjcnhaaGreatDoorEvG5
import Derived.Test.YtcapocmenjcnhaaGreatDoorChecked
import Derived.KernelRfl
import Derived.Lib.ItoaNum
set_option linter.unusedVariables false
set_option linter.unusedSimpArgs false
namespace Go.Proofs.YtcapocmenjcnhaaGreatDoor.Ev
open Go.RowKit
noncomputable def i64 (n : Nat) : AV := .lit (.int .i64 n)
noncomputable def pw : List Value := Lib.pow10Tab.map fun z => Value.int .u64 z
noncomputable def hp0 : Hp := hset (.cells (.l (pw.map .lit)) true) (jb 14) 1
noncomputable def zoz : List AV := [i64 100, i64 20, i64 200, i64 10, i64 1000, .slc 37 0 2 2 3, i64 4, i64 3, i64 2, i64 50, i64 80]
noncomputable def zlg : List (Nat × List AV) := [(37, [i64 120, i64 0, .lit (.bool true), i64 60, i64 100, .lit (.bool false)])]
noncomputable def jE (p b : Nat) (s : ByteArray) (d k : Nat) (is : Bool) : Ent := ⟨68, [.agg zoz, .agg [i64 p, i64 b], i64 0], zlg, .tup [.agg [.lit (.string s), i64 d, i64 k], .lit (.bool is)], none⟩
noncomputable def zk6 : Ent := jE 0 0 ⟨#[115, 115, 115, 115]⟩ 0 0 true
noncomputable def zk2 : Ent := jE 1 0 ⟨#[115, 115, 115, 115]⟩ 0 0 true
noncomputable def zk5 : Ent := jE 0 1 ⟨#[115, 115, 115, 115]⟩ 1 0 true
noncomputable def zkZ : Ent := jE 2 0 ⟨#[115, 115, 115, 115]⟩ 0 0 true
noncomputable def zk1 : Ent := jE 1 1 ⟨#[115, 115, 115, 99]⟩ 3 0 true
noncomputable def zkW : Ent := jE 3 0 ⟨#[115, 115, 115, 115]⟩ 0 0 true
noncomputable def zk4 : Ent := jE 0 2 ⟨#[115, 115, 115, 115]⟩ 2 0 true
noncomputable def zkY : Ent := jE 2 1 ⟨#[115, 115, 99, 99]⟩ 3 0 true
noncomputable def zkU : Ent := jE 4 0 ⟨#[115, 115, 115, 115]⟩ 0 0 true
noncomputable def zk0 : Ent := jE 1 2 ⟨#[115, 115, 99, 99]⟩ 3 0 true
noncomputable def zkV : Ent := jE 3 1 ⟨#[115, 115, 99, 99]⟩ 3 0 true
noncomputable def zk3 : Ent := jE 0 3 ⟨#[115, 115, 115, 115]⟩ 3 0 true
noncomputable def zkT : Ent := jE 5 0 ⟨#[115, 115, 115, 115]⟩ 0 0 true
noncomputable def zkX : Ent := jE 2 2 ⟨#[]⟩ 0 0 false
noncomputable def zfA : List (FuncId × List Ent) := [(68, [zk6, zk2, zk5, zkZ, zk1, zkW, zk4, zkY, zkU, zk0, zkV, zk3, zkT, zkX])]
noncomputable def zhF : Ent := ⟨19, [.agg [i64 1000, i64 400, i64 600, i64 200, i64 10000, i64 300, i64 400, i64 50, i64 100, i64 30, i64 250, i64 10, .slc 8 0 2 2 1, .slc 9 0 3 3 6, i64 2, i64 2]],
 [(8, [i64 200, i64 300]), (9, [i64 100, i64 150, i64 0, i64 20, i64 40, i64 50, i64 100, i64 150, i64 0, i64 20, i64 40, i64 50, i64 100, i64 150, i64 0, i64 20, i64 40, i64 50])], .tup [i64 12, i64 0], none⟩
noncomputable def znn : Ent := ⟨21, [.agg zoz], zlg, .tup [i64 2, i64 2, i64 260, i64 0], none⟩
noncomputable def zlS : Ent := ⟨7, [.agg [.slc 24 0 2 2 12, i64 200, i64 2]], [(24, [i64 1000, i64 2000, i64 200, i64 300, i64 100, i64 1, i64 200, i64 300, i64 0, i64 50, i64 900, i64 10, i64 500, i64 800, i64 100, i64 200, i64 0, .lit (.int .i64 (-1)), i64 100, i64 200, i64 0, i64 20, i64 450, i64 6])], .tup [.slc 0 0 2 2 1, i64 26, i64 0], some [i64 1, i64 3]⟩
noncomputable def zhA : Ent := ⟨20, [.agg [i64 4, .slc 26 0 1 1 1, .slc 27 0 1 1 1, .slc 28 0 5 5 4, i64 2]], [(26, [i64 0]), (27, [i64 3]), (28, [i64 1, i64 0, i64 1, i64 5, i64 2, i64 1, i64 3, i64 9, i64 3, i64 1, i64 2, i64 4, i64 5, i64 2, i64 3, i64 6, i64 4, i64 0, i64 2, i64 7])], .tup [.slc 0 0 1 1 1, i64 4, i64 0], some [i64 2]⟩
noncomputable def zjv : List (FuncId × List Ent) := [(19, [zhF]), (21, [znn]), (7, [zlS]), (20, [zhA])]
theorem zkv (P : Program) : zdi P [] := fun p hp => by cases hp
end Go.Proofs.YtcapocmenjcnhaaGreatDoor.Ev
