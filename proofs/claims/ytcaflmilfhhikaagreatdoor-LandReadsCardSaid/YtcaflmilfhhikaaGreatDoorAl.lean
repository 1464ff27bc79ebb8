/-
  Short names for the rules of the walks.
-/
import Derived.Test.YtcaflmilfhhikaaGreatDoorLib
import Derived.Test.YtcaflmilfhhikaaGreatDoorIt
import Derived.Test.YtcaflmilfhhikaaGreatDoorBu
namespace Go.Proofs.YtcaflmilfhhikaaGreatDoor
open Go.RowKit
set_option linter.all false
def zV := @WL_val
def zQ := @WC_seq
def zR := @WC_region
def zN := @WL_nil
def zG := @WL_guardN
def zY := @WL_guardY
def zm := @rn_move
def zD := @WD_val
def zE := @WD_op
def zO := @WL_op
def zA := @rn_assign
def zF := @rn_fld
def zL := @rn_load
def zB := @WD_valY
def zK := @WD_skip
def zJ := @WD_skipS
def zP := @WC_skip
def zC := @OpP_callV
def zX := @rn_extract
def zW := @OpP_newF
def zU := @OpP_newO
def zI := @WD_nil
def zT := @WC_cond
def zM := @WC_cut
def zH := @own_cellB
theorem oi {α : Type} {a b : α} (h : some a = some b) : a = b := Option.some.inj h
theorem zS {κ : Ctx} {P : Program} {N : Nat} {F : Fr} {w : World} {n : Fr → World → Prop} {r : Fr → World → Prop} {x : List (Nat × (Fr → World → Prop))} {p : List PanicEntry → Fr → World → Prop} {id : Nat} {l : List Oper} {d : Code} (h : WL κ P N l.toArray p (WC κ P N d ⟨n, r, x, p⟩) l F w) : WC κ P N (.seq (.region id l.toArray false) d) ⟨n, r, x, p⟩ F w := WC_seq (WC_region h)
abbrev zb (e s b : Nat) (cs : List Value) : Row := ⟨e, s, 1, .slice (some ⟨b, 0, none⟩) 1 1, cs⟩
abbrev zi (x : Int) : Value := .int .i64 x
abbrev zp (b : Nat) : Value := .pointer (some ⟨b, 0, none⟩)
abbrev zs (x : List UInt8) : Value := .string ⟨x.toArray⟩
abbrev zl (a : Option Addr) (n c : Nat) : Value := .slice a n c
section
variable {κ : Ctx} {P : Program} {N : Nat} {ops : Array Oper} {F : Fr} {w : World} {K : Fr → World → Prop} {d : Nat} {ty : TypeId} {pos : String} {af : Array Edge} {p : List PanicEntry → Fr → World → Prop} {l : List Oper} {X : Operand}
theorem zx (v : Value) (hx : ev F X = v) (hd : Nat.blt d N = true) (h : WL κ P N ops p K l (upd F d v) w) : WL κ P N ops p K (⟨some d, .move X, ty, pos, af, none⟩ :: l) F w := WL_val (rn_move hx) hd h
theorem zy (v : Value) (hx : ev F X = v) (hd : Nat.blt d N = true) (h : WL κ P N ops p K l (upd F d v) w) : WL κ P N ops p K (⟨some d, .assign X, ty, pos, af, none⟩ :: l) F w := WL_val (rn_assign hx) hd h
end
end Go.Proofs.YtcaflmilfhhikaaGreatDoor
