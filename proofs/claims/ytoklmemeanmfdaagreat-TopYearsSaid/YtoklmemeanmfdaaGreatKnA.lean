/-
  The example of the chapters: the calls that it makes, and what they answer.
-/
import Derived.Test.YtoklmemeanmfdaaGreatEvG5
import Derived.Test.YtoklmemeanmfdaaGreatChecked
import Derived.KernelRfl
namespace Go.Proofs.YtoklmemeanmfdaaGreat.Ev
open Go.RowKit

noncomputable def i64 (n : Nat) : AV := .lit (.int .i64 n)
noncomputable def cellC : AV := .agg [i64 100, i64 20, i64 200, i64 10, i64 1000, .slc 60 0 2 2 3, i64 4, i64 3, i64 2, i64 50, i64 80]
noncomputable def cellPre : List (Nat × List AV) := [(60, [i64 120, i64 0, .lit (.bool true), i64 60, i64 100, .lit (.bool false)])]
noncomputable def faultE (p b : Nat) (s : ByteArray) (d k : Nat) (is : Bool) : Ent := ⟨54, [cellC, .agg [i64 p, i64 b], i64 0], cellPre, .tup [.agg [.lit (.string s), i64 d, i64 k], .lit (.bool is)]⟩
noncomputable def fewestE : Ent := ⟨16, [.agg [i64 1000, i64 400, i64 600, i64 200, i64 10000, i64 300, i64 400, i64 50, i64 100, i64 30, i64 250, i64 10, .slc 5 0 2 2 1, .slc 6 0 3 3 6, i64 2, i64 2]],
  [(5, [i64 200, i64 300]), (6, [i64 100, i64 150, i64 0, i64 20, i64 40, i64 50, i64 100, i64 150, i64 0, i64 20, i64 40, i64 50, i64 100, i64 150, i64 0, i64 20, i64 40, i64 50])], .tup [i64 12, i64 0]⟩
noncomputable def bestE : Ent := ⟨21, [cellC], cellPre, .tup [i64 2, i64 2, i64 260, i64 0]⟩
noncomputable def sellE : Ent := ⟨23, [.agg [i64 4, .slc 62 0 4 4 1, .slc 63 0 2 2 1, .slc 64 0 2 2 1, i64 4], .slc 65 0 4 4 5],
  [(62, [i64 2, i64 5, i64 10, i64 4]), (63, [i64 3, i64 12]), (64, [i64 1, i64 2]), (65, [i64 0, i64 0, i64 0, i64 2, i64 30, i64 1, i64 0, i64 1, i64 3, i64 50, i64 0, i64 0, i64 2, i64 2, i64 25, i64 2, i64 1, i64 0, i64 4, i64 40])], .tup [i64 13, i64 95, i64 0]⟩
noncomputable def fault00 : Ent := faultE 0 0 ⟨#[115, 115, 115, 115]⟩ 0 0 true
noncomputable def fault10 : Ent := faultE 1 0 ⟨#[115, 115, 115, 115]⟩ 0 0 true
noncomputable def fault01 : Ent := faultE 0 1 ⟨#[115, 115, 115, 115]⟩ 1 0 true
noncomputable def fault20 : Ent := faultE 2 0 ⟨#[115, 115, 115, 115]⟩ 0 0 true
noncomputable def fault11 : Ent := faultE 1 1 ⟨#[115, 115, 115, 99]⟩ 3 0 true
noncomputable def fault30 : Ent := faultE 3 0 ⟨#[115, 115, 115, 115]⟩ 0 0 true
noncomputable def fault02 : Ent := faultE 0 2 ⟨#[115, 115, 115, 115]⟩ 2 0 true
noncomputable def fault21 : Ent := faultE 2 1 ⟨#[115, 115, 99, 99]⟩ 3 0 true
noncomputable def fault40 : Ent := faultE 4 0 ⟨#[115, 115, 115, 115]⟩ 0 0 true
noncomputable def fault12 : Ent := faultE 1 2 ⟨#[115, 115, 99, 99]⟩ 3 0 true
noncomputable def fault31 : Ent := faultE 3 1 ⟨#[115, 115, 99, 99]⟩ 3 0 true
noncomputable def fault03 : Ent := faultE 0 3 ⟨#[115, 115, 115, 115]⟩ 3 0 true
noncomputable def fault50 : Ent := faultE 5 0 ⟨#[115, 115, 115, 115]⟩ 0 0 true
noncomputable def fault22 : Ent := faultE 2 2 ⟨#[]⟩ 0 0 false
noncomputable def faults : List (FuncId × List Ent) := [(54, [fault00, fault10, fault01, fault20, fault11, fault30, fault02, fault21, fault40, fault12, fault31, fault03, fault50, fault22])]
noncomputable def knowns : List (FuncId × List Ent) := [(16, [fewestE]), (21, [bestE]), (23, [sellE])]
theorem none_ok (P : Program) : EntsS P [] := fun p hp => by cases hp
end Go.Proofs.YtoklmemeanmfdaaGreat.Ev
