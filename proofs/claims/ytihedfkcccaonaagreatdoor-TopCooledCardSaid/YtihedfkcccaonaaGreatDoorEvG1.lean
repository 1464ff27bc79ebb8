/-
 Drawn regions: in what order the evaluator takes their operations; what must hold of them.
-/
import Derived.Test.YtihedfkcccaonaaGreatDoorBsB
import Derived.OrdersIn
import Derived.RangeFuncNested
import Derived.RangeFuncLeaves
import Derived.RecoverIn
import Derived.TacticsIn
namespace Go.Proofs.YtihedfkcccaonaaGreatDoor.Ev
noncomputable section
open Go.RowKit
def zft (b : Builtin) : Nat := match b with
 | .len | .cap | .min | .max => 1
 | _ => 3
def xJ (op : Op) : Nat := match op with
 | .move _ | .assign _ | .pick _ _ _ | .build _ _ | .nilCheck _ | .binOp _ _ _ _ _ | .unOp _ _ _ | .makeInterface _ _ | .makeFunc _ _ _ | .slice _ _ _ _ _ | .fieldAddr _ _ _ | .field _ _ _ | .indexAddr _ _ _ | .index _ _ _ | .typeAssert _ _ _ _ | .extract _ _ => 0
 | .load _ _ | .lookup _ _ _ _ | .convert _ _ _ => 1
 | .call c => match c.callee with
  | .builtin b => zft b
  | _ => 3
 | .alloc _ | .box _ _ | .buildSlice _ _ _ | .makeSlice _ _ _ | .makeMap _ _ | .range _ _ => 2
 | _ => 3
def yv (o : Oper) : List Nat := (o.after.toList.filter (Region.binds .any)).map (·.on)
def zcw (i : Nat) : List Nat → Bool
 | [] => false
 | j :: l => cond (Nat.beq i j) true (zcw i l)
def zds (p : Nat → Bool) : List Nat → Bool
 | [] => true
 | i :: l => cond (p i) (zds p l) false
def zqu (p : Nat → Bool) : List Nat → Bool
 | [] => false
 | i :: l => cond (p i) true (zqu p l)
def zc4 (ops : List Oper) (l : List Nat) (i : Nat) : Bool := match ops[i]? with
 | some o => cond (zcw i l) false (zds (fun j => zcw j l) (yv o))
 | none => false
def zpk (p : Nat → Bool) : List Nat → Option Nat
 | [] => none
 | i :: l => cond (p i) (some i) (zpk p l)
def isE (ops : List Oper) (i : Nat) : Bool := match ops[i]? with
 | some o => Nat.beq (xJ o.op) 3
 | none => true
def zkV (ops : List Oper) (all : List Nat) : Nat → List Nat → List Nat
 | 0, l => l
 | n + 1, l => match zpk (fun i => cond (isE ops i) false (zc4 ops l i)) all with
  | some i => zkV ops all n (i :: l)
  | none => match zpk (zc4 ops l) all with
   | some i => zkV ops all n (i :: l)
   | none => l
def kM (ops : List Oper) (t : Nat) (j : Nat) : Bool := match ops[j]? with
 | some o => match o.dst with
  | some d => Nat.beq d t
  | none => false
 | none => false
def zuK (ops : List Oper) (o : Oper) : List Nat := o.looksAt ops.toArray
def zij (ops : List Oper) (all : List Nat) (i : Nat) : Bool := match ops[i]? with
 | some o => cond (zds (fun t => zds (fun j => cond (kM ops t j) (zcw j (yv o)) true) all) (zuK ops o))
   (match o.dst with
    | some d => zds (fun j => cond (Nat.beq i j) true (cond (kM ops d j) false true)) all
    | none => true) false
 | none => false
def ordOk (ops : List Oper) : List Nat → List Nat → Bool
 | _, [] => true
 | late, i :: l => cond (zc4 ops l i) (cond (cond (isE ops i) (zds (fun j => match ops[j]? with
   | some o => zqu (fun k => cond (Nat.beq k i) true (zcw k late)) (yv o)
   | none => false) late) true) (ordOk ops (i :: late) l) false) false
def zkC (ops : List Oper) : Nat → Nat → List Nat
 | 0, _ => []
 | n + 1, i => match ops[i]? with
  | some o => (yv o).flatMap fun j => j :: zkC ops n j
  | none => []
def zhf (a : Array Oper) : Option (List Nat) :=
 let ops := a.toList
 let all := List.range ops.length
 let l := zkV ops all ops.length []
 cond (zds (fun i => zcw i l) all) (cond (zds (zij ops all) all) (cond (ordOk ops [] l) (some l.reverse) none) none) none
def TT (α : Type) (n : Nat) : Type := Nat.rec (Option α) (fun _ β => β × β) n
def pk {β : Type} (t : β × β) (b : Bool) : β := Bool.rec t.2 t.1 b
def up {β : Type} (t : β × β) (b : Bool) (f : β → β) : β × β := Bool.rec (t.1, f t.2) (f t.1, t.2) b
def tget {α : Type} : (ps : List Nat) → TT α ps.length → Nat → Option α
 | [], t, _ => t
 | p :: ps, t, k => tget ps (pk (β := TT α ps.length) t (Nat.beq (Nat.land k p) 0)) k
def tset {α : Type} (x : Option α) : (ps : List Nat) → TT α ps.length → Nat → TT α ps.length
 | [], _, _ => x
 | p :: ps, t, k => up (β := TT α ps.length) t (Nat.beq (Nat.land k p) 0) fun t => tset x ps t k
def xL {α : Type} : (d : Nat) → TT α d
 | 0 => none
 | d + 1 => (xL d, xL d)
def zxW {α : Type} (t : TT α 8) (k : Nat) : Option α :=
 pk (β := TT α 0) (pk (β := TT α 1) (pk (β := TT α 2) (pk (β := TT α 3) (pk (β := TT α 4) (pk (β := TT α 5) (pk (β := TT α 6) (pk (β := TT α 7) t (Nat.beq (Nat.land k 1) 0)) (Nat.beq (Nat.land k 2) 0)) (Nat.beq (Nat.land k 4) 0)) (Nat.beq (Nat.land k 8) 0)) (Nat.beq (Nat.land k 16) 0)) (Nat.beq (Nat.land k 32) 0)) (Nat.beq (Nat.land k 64) 0)) (Nat.beq (Nat.land k 128) 0)
def zq0 {α : Type} (x : Option α) (t : TT α 8) (k : Nat) : TT α 8 :=
 up (β := TT α 7) t (Nat.beq (Nat.land k 1) 0) fun t => up (β := TT α 6) t (Nat.beq (Nat.land k 2) 0) fun t => up (β := TT α 5) t (Nat.beq (Nat.land k 4) 0) fun t => up (β := TT α 4) t (Nat.beq (Nat.land k 8) 0) fun t => up (β := TT α 3) t (Nat.beq (Nat.land k 16) 0) fun t => up (β := TT α 2) t (Nat.beq (Nat.land k 32) 0) fun t => up (β := TT α 1) t (Nat.beq (Nat.land k 64) 0) fun t => up (β := TT α 0) t (Nat.beq (Nat.land k 128) 0) fun _ => x
def qA {α : Type} (t : TT α 8) (k : Nat) : Option α := Bool.rec none (zxW t k) (Nat.blt k 256)
def zak {α : Type} (x : α) (t : TT α 8) (k : Nat) : TT α 8 := zq0 (some x) t k
def zxX {α : Type} (t : TT α 14) (k : Nat) : Option α :=
 zxW (pk (β := TT α 8) (pk (β := TT α 9) (pk (β := TT α 10) (pk (β := TT α 11) (pk (β := TT α 12) (pk (β := TT α 13) t (Nat.beq (Nat.land k 256) 0)) (Nat.beq (Nat.land k 512) 0)) (Nat.beq (Nat.land k 1024) 0)) (Nat.beq (Nat.land k 2048) 0)) (Nat.beq (Nat.land k 4096) 0)) (Nat.beq (Nat.land k 8192) 0)) k
def zxb {α : Type} (x : Option α) (t : TT α 14) (k : Nat) : TT α 14 :=
 up (β := TT α 13) t (Nat.beq (Nat.land k 256) 0) fun t => up (β := TT α 12) t (Nat.beq (Nat.land k 512) 0) fun t => up (β := TT α 11) t (Nat.beq (Nat.land k 1024) 0) fun t => up (β := TT α 10) t (Nat.beq (Nat.land k 2048) 0) fun t => up (β := TT α 9) t (Nat.beq (Nat.land k 4096) 0) fun t => up (β := TT α 8) t (Nat.beq (Nat.land k 8192) 0) fun t => zq0 x t k
def qz {α : Type} (t : TT α 14) (k : Nat) : Option α := Bool.rec none (zxX t k) (Nat.blt k 16384)
def hset {α : Type} (x : α) (t : TT α 14) (k : Nat) : TT α 14 := zxb (some x) t k
inductive AV where
 | lit (v : Value)
 | ptr (b o : Nat)
 | slc (b o n c s : Nat)
 | map (r : Nat)
 | agg (l : List AV)
 | tup (l : List AV)
 | ifc (t : TypeId) (v : AV)
 | fn (f : Fn) (first captured : List AV)
 | yld (l : Nat)
 | asl (b o n c : Nat)
abbrev Fra := TT AV 8
inductive AD where
 | call (f : FuncId) (args : List AV)
 | mark (b : Nat)
inductive CS where
 | l (l : List AV)
 | t (t : TT AV 8)
 | y (el : Nat) (l : List AV)
inductive Ex where
 | normal | ret | exit (k : Nat) | goto (l : Nat) | panic (v : AV)
inductive xD where
 | cells (c : CS) (ro : Bool)
 | map (es : List (AV × AV))
 | iter (s : ByteArray) (pos : Nat)
 | loop (st : LoopState) (pend : Ex) (n : Nat) (fr : Fra) (ps : List Nat) (assign body : Code)
 | dfr
 | dead
abbrev Hp := TT xD 14
structure Mem where
 hp : Hp
 nx : Nat
 df : List AD
inductive Out where
 | no
 | ok (e : Ex) (fr : Fra) (m : Mem)
inductive OR where
 | no
 | val (v : AV)
 | mem (v : AV) (hp : Hp) (nx : Nat)
 | call (f : FuncId) (args : List AV)
 | yld (l : Nat) (args : List AV)
 | dfr (d : AD)
 | panic (v : AV)
abbrev CT := Fra → Mem → Out
abbrev CallT := FuncId → List AV → Hp → Nat → Out
structure Env where
 P : Program
 call : CallT
 yld : CallT
 N : Nat
 rd : Option Nat
def nth {α : Type} (l : List α) (k : Nat) : Option α := List.rec (motive := fun _ => Nat → Option α) (fun _ => none) (fun v _ ih k => Nat.rec (some v) (fun k _ => ih k) k) l k
def zc2 {α : Type} (x : α) (l : List α) (k : Nat) : List α := List.rec (motive := fun _ => Nat → List α) (fun _ => []) (fun v l ih k => Nat.rec (x :: l) (fun k _ => v :: ih k) k) l k
def xW (c : CS) (k : Nat) : Option AV := CS.rec (motive := fun _ => Nat → Option AV) nth qA (fun _ => nth) c k
def tyC (c : CS) : Option Nat := CS.rec (fun _ => none) (fun _ => none) (fun t _ => some t) c
def zyd (e : Nat) (l : List AV) (k : Nat) (v : AV) : CS := .y e (zc2 v l k)
def zyf (l : List AV) (k : Nat) (v : AV) : CS := .l (zc2 v l k)
def zye (t : TT AV 8) (k : Nat) (v : AV) : CS := .t (zak v t k)
def zp5 (c : CS) (k : Nat) (v : AV) : CS := CS.rec (motive := fun _ => Nat → AV → CS) zyf zye zyd c k v
def jw (l : List AV) : Nat → TT AV 8 → TT AV 8 := List.rec (motive := fun _ => Nat → TT AV 8 → TT AV 8) (fun _ t => t) (fun v _ ih k t => ih (Nat.succ k) (zak v t k)) l
def len {α : Type} (l : List α) : Nat := List.rec 0 (fun _ _ n => Nat.succ n) l
def mkC (l : List AV) : Option CS := Bool.rec (Bool.rec none (some (.t (jw l 0 (xL 8)))) (Nat.ble (len l) 256)) (some (.l l)) (Nat.ble (len l) 12)
def zuJ (t : Nat) (l : List AV) : Option CS := Bool.rec (mkC l) (some (.y t l)) (Nat.ble (len l) 12)
def zxz (bt : Option Nat) (l : List AV) : Option CS := match bt with
 | some t => some (.y t l)
 | none => mkC l
def zuC (bt : Option Nat) (c : CS) : Bool := match tyC c, bt with
 | none, _ => true
 | some t, some t' => Nat.beq t t'
 | some _, none => false
def vS (c : CS) : Nat → Nat → Option (List AV)
 | 0, _ => some []
 | k + 1, o => match xW c o with
  | some v => match vS c k (Nat.succ o) with
   | some l => some (v :: l)
   | none => none
  | none => none
def zlx (c : CS) (n : Nat) (xs : List AV) : Option CS := match c with
 | .l l => Bool.rec none (mkC (l.take n ++ (xs ++ l.drop (Nat.add n (len xs))))) (Nat.ble n (len l))
 | .t t => Bool.rec none (some (.t (jw xs n t))) (Nat.ble (Nat.add n (len xs)) 256)
 | .y e l => Bool.rec none (some (.y e (l.take n ++ (xs ++ l.drop (Nat.add n (len xs)))))) (Nat.ble n (len l))
def gN : Nat := 2
def pv {α : Type} (P : Program) : Sem α → Option α
 | .pure a => some a
 | .program k => pv P (k P)
 | .mark _ k => pv P k
 | _ => none
def opd (fr : Fra) (x : Operand) : Option AV := Operand.rec (motive := fun _ => Fra → Option AV) (fun t fr => qA fr t) (fun v _ => some (.lit v)) (fun g _ => cond (Nat.blt g gN) (some (.ptr g 0)) none) (fun f _ => some (.fn (.func f) [] [])) x fr
def zcr (fr : Fra) : List Operand → Option (List AV)
 | [] => some []
 | x :: l => match opd fr x with
  | some v => match zcr fr l with
   | some vs => some (v :: vs)
   | none => none
  | none => none
section
variable (P : Program)
def szT (t : Nat) : Nat := match P.info? t with
 | some i => i.size
 | none => 0
def zbX (t : Nat) : Nat := match P.info? t with
 | some i => i.bytes
 | none => 0
def szO (t : Nat) : Option Nat := match P.info? t with
 | some i => some i.size
 | none => none
def znh (t : Nat) : Option Bool := match P.underlying t with
 | some (.struct _) => some true
 | some (.array _ _) => some true
 | some _ => some false
 | none => none
def zbN (a : Array Value) : List AV := a.toList.map .lit
def cellsOf : AV → List AV
 | .lit (.agg cs) => zbN cs
 | .agg l => l
 | v => [v]
def jH (t : Nat) : Option (List AV) := match P.info? t with
 | some i => match i.zero with
  | some z => some (zbN z.cells)
  | none => none
 | none => none
def zcz : List AV → Option (List Value)
 | [] => some []
 | .lit v :: l => match zcz l with
  | some vs => some (v :: vs)
  | none => none
 | _ :: _ => none
def zll : AV → Option Value
 | .lit v => some v
 | .agg l => match zcz l with
  | some vs => some (.agg vs.toArray)
  | none => none
 | .tup l => match zcz l with
  | some vs => some (.tuple vs.toArray)
  | none => none
 | _ => none
def zhB (vs : List AV) : List AV → Nat → List AV
 | l, 0 => vs ++ l.drop vs.length
 | x :: l, k + 1 => x :: zhB vs l k
 | [], _ + 1 => []
def zfg (place : Nat → Option (Nat × Nat)) (cells : List AV) : List (Nat × AV) → Option (List AV)
 | [] => some cells
 | (i, v) :: rest => match place i with
  | none => none
  | some (off, size) => cond (Nat.beq (cellsOf v).length size && Nat.ble (Nat.add off size) cells.length) (zfg place (zhB (cellsOf v) cells off) rest) none
def kh (fr : Fra) : List (Nat × Operand) → Option (List (Nat × AV))
 | [] => some []
 | (i, x) :: l => match opd fr x with
  | some v => match kh fr l with
   | some vs => some ((i, v) :: vs)
   | none => none
  | none => none
def zeA (l : List AV) : Nat → List AV
 | 0 => []
 | k + 1 => l ++ zeA l k
def jt (o : Option Value) : OR := match o with
 | some v => .val (.lit v)
 | none => .no
def zhz (v : Option AV) : OR := Option.rec .no .val v
def ob {α : Type} (v : Option α) (k : α → OR) : OR := Option.rec (motive := fun _ => (α → OR) → OR) (fun _ => .no) (fun x k => k x) v k
def noK {α : Type} : α → OR := fun _ => .no
def zuy (v : AV) : (Nat → Nat → OR) → OR := AV.casesOn (motive_1 := fun _ => (Nat → Nat → OR) → OR) v (fun _ => noK) (fun b o k => k b o) (fun _ _ _ _ _ => noK) (fun _ => noK) (fun _ => noK) (fun _ => noK) (fun _ _ => noK) (fun _ _ _ => noK) (fun _ => noK) (fun _ _ _ _ => noK)
def zuL (v : AV) : (Value → OR) → OR := AV.casesOn (motive_1 := fun _ => (Value → OR) → OR) v (fun v k => k v) (fun _ _ => noK) (fun _ _ _ _ _ => noK) (fun _ => noK) (fun _ => noK) (fun _ => noK) (fun _ _ => noK) (fun _ _ _ => noK) (fun _ => noK) (fun _ _ _ _ => noK)
def znv (v : Option AV) (k : Nat → Nat → OR) : OR := Option.rec (motive := fun _ => (Nat → Nat → OR) → OR) noK zuy v k
def zjB (v : Option AV) (k : Value → OR) : OR := Option.rec (motive := fun _ => (Value → OR) → OR) noK zuL v k
def zuR (n : Int) : (Nat → OR) → OR := Int.rec (motive := fun _ => (Nat → OR) → OR) (fun n k => k n) (fun _ => noK) n
def zuH (v : Value) : (Nat → OR) → OR := Value.casesOn (motive_1 := fun _ => (Nat → OR) → OR) v (fun _ => noK) (fun _ n => zuR n) (fun _ _ => noK) (fun _ _ _ => noK) (fun _ => noK) (fun _ => noK) (fun _ _ _ => noK) (fun _ => noK) (fun _ => noK) (fun _ _ _ => noK) noK (fun _ _ => noK) noK (fun _ => noK) (fun _ => noK)
def zqQ (v : Option AV) (k : Nat → OR) : OR := zjB v fun v => zuH v k
def zw0 (o : xD) : (CS → OR) → OR := xD.casesOn (motive := fun _ => (CS → OR) → OR) o (fun c ro k => Bool.rec (k c) .no ro) (fun _ => noK) (fun _ _ => noK) (fun _ _ _ _ _ _ _ => noK) noK noK
def zxe (o : xD) : (CS → OR) → OR := xD.casesOn (motive := fun _ => (CS → OR) → OR) o (fun c _ k => k c) (fun _ => noK) (fun _ _ => noK) (fun _ _ _ _ _ _ _ => noK) noK noK
def oW (hp : Hp) (b : Nat) (k : CS → OR) : OR := Option.rec (motive := fun _ => (CS → OR) → OR) noK zw0 (qz hp b) k
def oR (hp : Hp) (b : Nat) (k : CS → OR) : OR := Option.rec (motive := fun _ => (CS → OR) → OR) noK zxe (qz hp b) k
def xm (t : Option TypeDesc) (k : Nat → OR) : OR := match t with
 | some (.slice e) => k e
 | _ => .no
def zcd (t : Option TypeDesc) (k : Array Field → OR) : OR := match t with
 | some (.struct fs) => k fs
 | _ => .no
def zbo (t : Option TypeDesc) (k : Nat → Nat → OR) : OR := match t with
 | some (.array n e) => k n e
 | _ => .no
def zeF (t : Nat) (l : List AV) (off : Nat) : Option AV := match znh P t with
 | some true => some (.agg ((l.drop off).take (szT P t)))
 | some false => nth l off
 | none => none
def zde (o : xD) (v : AV) (m : Mem) : OR := Bool.rec .no (.mem v (hset o m.hp m.nx) (Nat.add m.nx 1)) (Nat.blt m.nx 16384)
def zmF (l : List AV) (v : AV) (m : Mem) : OR := ob (mkC l) fun c => zde (.cells c false) v m
def zxq (t : Nat) (l : List AV) (v : AV) (m : Mem) : OR := ob (zuJ t l) fun c => zde (.cells c false) v m
def zil (l : List AV) (s c : Nat) (m : Mem) (n : Nat) : OR := cond (Nat.beq (len l) (Nat.mul c s)) (zmF l (.slc m.nx 0 n c s) m) .no
def zfw (v : AV) : Bool := AV.casesOn (motive_1 := fun _ => Bool) v (fun v => Value.casesOn (motive_1 := fun _ => Bool) v (fun _ => true) (fun _ _ => true) (fun _ _ => true) (fun _ _ _ => true) (fun _ => true) (fun _ => true) (fun _ _ _ => true) (fun _ => true) (fun _ => true) (fun _ _ _ => true) true (fun _ _ => true) true (fun _ => false) (fun _ => false)) (fun _ _ => true) (fun _ _ _ _ _ => true) (fun _ => true) (fun _ => false) (fun _ => false) (fun _ _ => true) (fun _ _ _ => true) (fun _ => true) (fun _ _ _ _ => true)
def zbW : List AV → Bool
 | [] => true
 | v :: l => cond (zfw v) (zbW l) false
def zfN (c : CS) : List AV → Nat → Option CS
 | [], _ => some c
 | v :: l, o => match xW c o with
  | some _ => cond (zfw v) (zfN (zp5 c o v) l (Nat.succ o)) none
  | none => none
def ze8 : List AV → Option (List Int)
 | [] => some []
 | .lit (.int .i64 n) :: l => match ze8 l with
  | some xs => some (n :: xs)
  | none => none
 | _ :: _ => none
def eqI : Int → Int → Bool
 | .ofNat a, .ofNat b => Nat.beq a b
 | .negSucc a, .negSucc b => Nat.beq a b
 | _, _ => false
def vr : List Int → List Int → Bool
 | [], [] => true
 | a :: l, b :: m => cond (eqI a b) (vr l m) false
 | _, _ => false
def zqy : AV → Option (List AV)
 | .lit (.agg cs) => some (zbN cs)
 | .agg l => some l
 | _ => none
def zkT (s : ByteArray) : List Int := s.data.toList.map fun b => .ofNat b.toNat
def zbY : List Int → Bool
 | [] => true
 | .ofNat a :: l => cond (Nat.blt a 256) (zbY l) false
 | _ :: _ => false
def keyC (st : Nat) (v : AV) : Option (List Int) := match st with
 | 0 => match v with
  | .lit (.int .i64 n) => some [n]
  | _ => none
 | 1 => match zqy v with
  | some l => ze8 l
  | none => none
 | _ => match v with
  | .lit (.string s) => some (zkT s)
  | _ => none
def zfR (t : Nat) : Option (Nat × Nat) := match P.underlying t with
 | some (.int _) => some (0, 1)
 | some (.struct _) => cond (zdL P t) (some (1, (P.fieldsOf t).toList.length)) none
 | some .string => some (2, 0)
 | some (.array n e) => match P.underlying e with
  | some (.int _) => cond (Nat.beq (szT P e) 1) (some (1, n)) none
  | _ => none
 | _ => none
def yS (st n : Nat) (k : List Int) : Bool := match st with
 | 2 => zbY k
 | _ => Nat.beq (len k) n
def jN (st n : Nat) (k : List Int) : List (AV × AV) → Option (Option AV)
 | [] => some none
 | (a, v) :: l => match keyC st a with
  | some ka => cond (yS st n ka) (cond (vr k ka) (some (some v)) (jN st n k l)) none
  | none => none
def updM (st n : Nat) (k : AV) (kc : List Int) (v : AV) : List (AV × AV) → Option (List (AV × AV))
 | [] => some [(k, v)]
 | (a, u) :: l => match keyC st a with
  | some ka => cond (yS st n ka) (cond (vr kc ka) (some ((k, v) :: l)) (match updM st n k kc v l with
   | some l' => some ((a, u) :: l')
   | none => none)) none
  | none => none
def zcf (hp : Hp) (sz : Nat) : AV → Option (Nat × List AV)
 | .slc b o n _ s => cond (Nat.beq s sz) (match qz hp b with
  | some (.cells c _) => match vS c (Nat.mul n sz) o with
   | some l => some (n, l)
   | none => none
  | _ => none) none
 | .asl b o n _ => match qz hp b with
  | some (.cells c _) => match vS c (Nat.mul n sz) o with
   | some l => some (n, l)
   | none => none
  | _ => none
 | .lit (.slice none 0 _) => some (0, [])
 | .lit (.string s) => some (s.size, zbN (s.data.map fun b => .int .u8 b.toNat))
 | _ => none
def zac (sz : Nat) (bt : Option Nat) (s : AV) (src : Option (Nat × List AV)) (m : Mem) : OR := match src with
 | none => .no
 | some (k, xs) => match s with
  | .lit (.slice none 0 0) => cond (Nat.ble k 65536 && Nat.beq (len xs) (Nat.mul k sz)) (cond (Nat.beq k 0) (.val s) (ob (zxz bt xs) fun c => zde (.cells c false) (.slc m.nx 0 k k sz) m)) .no
  | .slc b o n c s' => cond (Nat.beq k 0 && Nat.beq (len xs) 0 && Nat.ble n c) (.val (.slc b o n c s')) <| match qz m.hp b with
   | some (.cells cs false) => cond (Nat.beq s' sz && zbW xs && Nat.beq (len xs) (Nat.mul k sz) && Nat.ble (Nat.add n k) 65536 && Nat.ble n c && zuC bt cs) (cond (Nat.ble (Nat.add n k) c)
     (ob (zlx cs (Nat.add o (Nat.mul n sz)) xs) fun cs' => .mem (.slc b o (Nat.add n k) c sz) (hset (.cells cs' false) m.hp b) m.nx)
     (cond (Nat.beq o 0)
      (ob (zlx cs (Nat.mul n sz) xs) fun cs' => zde (.cells cs' false) (.slc m.nx 0 (Nat.add n k) (Nat.add n k) sz) ⟨hset .dead m.hp b, m.nx, m.df⟩)
      (ob (vS cs (Nat.mul n sz) o) fun l => zmF (l ++ xs) (.slc m.nx 0 (Nat.add n k) (Nat.add n k) sz) ⟨hset .dead m.hp b, m.nx, m.df⟩))) .no
   | _ => .no
  | _ => .no
def zuI : AV → Option Nat
 | .lit (.int _ (.ofNat n)) => some n
 | _ => none
def kW (fr : Fra) (x : Option Operand) (d : Nat) : Option Nat := match x with
 | none => some d
 | some x => match opd fr x with
  | some v => zuI v
  | none => none
end
abbrev OpK := Program → Nat → Fra → Mem → OR
def zkM (k : IntKind) (n : Int) : Int := match k, n with
 | .i64, .ofNat m => cond (Nat.blt m 9223372036854775808) (.ofNat m) (k.wrap n)
 | _, _ => k.wrap n
def zy5 : Int → Int → Int
 | .ofNat a, .ofNat b => .ofNat (Nat.add a b)
 | a, b => Int.add a b
def zw8 : Int → Int → Int
 | .ofNat a, .ofNat b => cond (Nat.ble b a) (.ofNat (Nat.sub a b)) (.negSucc (Nat.sub (Nat.sub b a) 1))
 | a, b => Int.sub a b
def ltI : Int → Int → Bool
 | .ofNat a, .ofNat b => Nat.blt a b
 | .ofNat _, .negSucc _ => false
 | .negSucc _, .ofNat _ => true
 | .negSucc a, .negSucc b => Nat.blt b a
def nt (b : Bool) : Bool := Bool.rec true false b
abbrev zfL := Program → Nat → IntKind → Int → IntKind → Int → OR
def zfU (op : BinOp) : zfL := fun P xt k a k' b => jt (pv P (binOp op xt (.int k a) (.int k' b)))
def same (k k' : IntKind) (r : OR) : OR := cond (IntKind.casesOn k (IntKind.casesOn k' true false false false false false false false) (IntKind.casesOn k' false true false false false false false false) (IntKind.casesOn k' false false true false false false false false) (IntKind.casesOn k' false false false true false false false false) (IntKind.casesOn k' false false false false true false false false) (IntKind.casesOn k' false false false false false true false false) (IntKind.casesOn k' false false false false false false true false) (IntKind.casesOn k' false false false false false false false true)) r .no
def zAN : zfL := fun _ _ k a k' b => same k k' (.val (.lit (.int k (zkM k (zy5 a b)))))
def zAG : zfL := fun _ _ k a k' b => same k k' (.val (.lit (.int k (zkM k (zw8 a b)))))
def zAI : zfL := fun _ _ k a k' b => same k k' (.val (.lit (.bool (ltI a b))))
def zAK : zfL := fun _ _ k a k' b => same k k' (.val (.lit (.bool (ltI b a))))
def zAJ : zfL := fun _ _ k a k' b => same k k' (.val (.lit (.bool (nt (ltI b a)))))
def zAL : zfL := fun _ _ k a k' b => same k k' (.val (.lit (.bool (nt (ltI a b)))))
def zAM : zfL := fun _ _ k a k' b => same k k' (.val (.lit (.bool (eqI a b))))
def zAH : zfL := fun _ _ k a k' b => same k k' (.val (.lit (.bool (nt (eqI a b)))))
def zqk (op : BinOp) : zfL := BinOp.rec (motive := fun _ => zfL) zAN zAG (zfU .mul) (zfU .quo) (zfU .rem) (zfU .and) (zfU .or) (zfU .xor) (zfU .shl) (zfU .shr) (zfU .andNot) zAM zAH zAI zAJ zAK zAL op
abbrev zqN := (Value → OR) → (IntKind → Int → OR) → OR
def iNo : zqN := fun kv _ => kv .nilFunc
def zpa (v : Value) : zqN := Value.casesOn (motive_1 := fun _ => zqN) v (fun _ => iNo) (fun k n _ ki => ki k n) (fun _ _ => iNo) (fun _ _ _ => iNo) (fun _ => iNo) (fun _ => iNo) (fun _ _ _ => iNo) (fun _ => iNo) (fun _ => iNo) (fun _ _ _ => iNo) iNo (fun _ _ => iNo) iNo (fun _ => iNo) (fun _ => iNo)
def zko (v : AV) : zqN := AV.casesOn (motive_1 := fun _ => zqN) v zpa (fun _ _ => iNo) (fun _ _ _ _ _ => iNo) (fun _ => iNo) (fun _ => iNo) (fun _ => iNo) (fun _ _ => iNo) (fun _ _ _ => iNo) (fun _ => iNo) (fun _ _ _ _ => iNo)
def zaD : Option TypeDesc → Value → AV → Bool
 | some (.pointer _), .pointer none, .ptr _ _ => true
 | some (.slice _), .slice none _ _, .slc _ _ _ _ _ => true
 | some (.slice _), .slice none _ _, .asl _ _ _ _ => true
 | some (.map _ _), .map none, .map _ => true
 | some (.func _ _ _), .nilFunc, .fn _ _ _ => true
 | some (.interface _), .nilIface, .ifc _ _ => true
 | _, _, _ => false
def zi3 (op : BinOp) (b : Bool) : OR := match op with
 | .eql => .val (.lit (.bool b))
 | .neq => .val (.lit (.bool (!b)))
 | _ => .no
def zpV (P : Program) (op : BinOp) (xt : Nat) : AV → AV → OR
 | .ptr b o, .ptr b' o' => match P.underlying xt with
  | some (.pointer e) => ob (szO P e) fun s => cond (Nat.beq b b' && !Nat.beq s 0) (zi3 op (Nat.beq o o')) .no
  | _ => .no
 | .lit v, a => cond (zaD (P.underlying xt) v a) (zi3 op false) .no
 | a, .lit v => cond (zaD (P.underlying xt) v a) (zi3 op false) .no
 | _, _ => .no
def zhj (P : Program) (op : BinOp) (xt : Nat) (x y : Operand) (a b : AV) : OR := match zll a, zll b with
 | some a, some b => jt (pv P (do eqGuard op xt x y a b; binOp op xt a b))
 | _, _ => zpV P op xt a b
def zoj (P : Program) (op : BinOp) (xt : Nat) (x y : Operand) (u v : AV) : OR := zko u (fun _ => zhj P op xt x y u v) fun k a => zko v (fun _ => zhj P op xt x y u v) fun k' b => zqk op P xt k a k' b
def zuP (op : BinOp) (xt : Nat) (x y : Operand) : OpK := fun P _ fr _ => ob (opd fr x) fun u => ob (opd fr y) fun v => zoj P op xt x y u v
def zhi (P : Program) (t : Nat) (o : Nat) (c : CS) : OR := ob (znh P t) fun b => cond b (ob (vS c (szT P t) o) fun l => .val (.agg l)) (zhz (xW c o))
def zo0 (t : Nat) (x : Operand) : OpK := fun P _ fr m => znv (opd fr x) fun b o => oR m.hp b fun c => zhi P t o c
def zkd (t : Nat) (x v : Operand) : OpK := fun P _ fr m => znv (opd fr x) fun b o => ob (opd fr v) fun v => oW m.hp b fun c => ob (szO P t) fun s =>
 cond (Nat.beq (len (cellsOf v)) s && Nat.blt 0 s) (ob (zfN c (cellsOf v) o) fun c' => .mem (.lit undef) (hset (.cells c' false) m.hp b) m.nx) .no
def zbQ (t : Nat) (x : Operand) (i : Nat) : OpK := fun P _ fr _ => znv (opd fr x) fun b o => zcd (P.underlying t) fun fs => ob fs[i]? fun f =>
 cond (Nat.beq (szT P f.type) 0) .no (.val (.ptr b (Nat.add o f.offset)))
def zxp : AV → OR
 | .ptr b o => .val (.ptr b o)
 | .fn (.func f) a b => .val (.fn (.func f) a b)
 | .yld l => .val (.yld l)
 | .lit (.func (.func f) a b) => .val (.lit (.func (.func f) a b))
 | _ => .no
def zuN (x : Operand) : OpK := fun _ _ fr _ => ob (opd fr x) zxp
def idxA (P : Program) (t : Nat) (x : AV) (k : Nat) : OR := match x with
 | .slc b o n _ _ => xm (P.underlying t) fun e => ob (szO P e) fun s => cond (Nat.blt k n) (.val (.ptr b (Nat.add o (Nat.mul k s)))) .no
 | .ptr b o => zbo (P.underlying t) fun n e => ob (szO P e) fun s => cond (Nat.blt k n) (.val (.ptr b (Nat.add o (Nat.mul k s)))) .no
 | .asl b o n _ => xm (P.underlying t) fun e => ob (szO P e) fun s => cond (Nat.blt k n) (.val (.ptr b (Nat.add o (Nat.mul k s)))) .no
 | _ => .no
def zo1 (t : Nat) (x i : Operand) : OpK := fun P _ fr _ => ob (opd fr x) fun x => zqQ (opd fr i) fun k => idxA P t x k
def zlb (P : Program) (t : Nat) (x i : AV) : OR := match x, i with
  | .lit v, .lit i => jt (pv P (Instr.index t v i))
  | .agg l, .lit (.int _ (.ofNat k)) => zbo (P.underlying t) fun n e => ob (szO P e) fun s => cond (Nat.blt k n) (zhz (zeF P e l (Nat.mul k s))) .no
  | _, _ => .no
def zki (t : Nat) (x i : Operand) : OpK := fun P _ fr _ => ob (opd fr x) fun x => ob (opd fr i) fun i => zlb P t x i
def zkj (t : Nat) (x : Operand) (i : Nat) : OpK := fun P _ fr _ => ob (opd fr x) fun v => ob (zqy v) fun l => zcd (P.underlying t) fun fs => ob fs[i]? fun f => zhz (zeF P f.type l f.offset)
def zqh : AV → Option Bool
 | .lit (.bool b) => some b
 | _ => none
def zgn (c a b : Operand) : OpK := fun _ _ fr _ => ob (opd fr c) fun c => ob (zqh c) fun c => zhz (opd fr (cond c a b))
def zo5 (t : Nat) : OpK := fun P _ _ m => ob (jH P t) fun l => zxq t l (.ptr m.nx 0) m
def zuO (x : Operand) : OpK := fun _ _ fr m => ob (opd fr x) fun v => zmF (cellsOf v) (.ptr m.nx 0) m
def zaA (P : Program) : List Field → Option (List (Nat × Nat))
 | [] => some []
 | f :: fs => match szO P f.type, zaA P fs with
  | some s, some l => some ((f.offset, s) :: l)
  | _, _ => none
def zqe (P : Program) (z : List AV) (vs : List (Nat × AV)) : Option TypeDesc → Option (List AV)
 | some (.struct fs) => match zaA P fs.toList with
  | some pl => zfg (fun i => nth pl i) z vs
  | none => none
 | some (.array _ e) => match szO P e with
  | some s => zfg (fun i => some (Nat.mul i s, s)) z vs
  | none => none
 | _ => none
def ze3 (t : Nat) (ps : Array (Nat × Operand)) : OpK := fun P _ fr _ => ob (jH P t) fun z => ob (kh fr ps.toList) fun vs => ob (zqe P z vs (P.underlying t)) fun l => .val (.agg l)
def jL (t n : Nat) (ps : Array (Nat × Operand)) : OpK := fun P _ fr m => xm (P.underlying t) fun e => ob (szO P e) fun s => cond (Nat.beq n 0) (match ps.toList with
 | [] => zil [] s 0 m 0
 | _ => .no) <| ob (jH P e) fun z => ob (kh fr ps.toList) fun vs => cond (Nat.ble (Nat.mul n s) 16777216 && Nat.beq (len z) s && Nat.blt 0 (Nat.mul n s))
 (ob (zfg (fun i => some (Nat.mul i s, s)) (zeA z n) vs) fun l => zil l s n m n) .no
def zbP (t : Nat) (l c : Operand) : OpK := fun P _ fr m => xm (P.underlying t) fun e => ob (szO P e) fun s => zqQ (opd fr l) fun n => zqQ (opd fr c) fun c => ob (jH P e) fun z => cond ((Nat.ble n c && Nat.beq (len z) s && Nat.ble c 65536 && Nat.ble (zbX P e) 65536) && Nat.blt 0 s) (zil (zeA z c) s c m n) .no
def zd6 (P : Program) (t : Nat) (x : AV) (lo hi : Option Operand) (fr : Fra) : OR := match x with
  | .slc b o n c s' => xm (P.underlying t) fun e => ob (szO P e) fun s => ob (kW fr lo 0) fun l => ob (kW fr hi n) fun h => cond (Nat.ble l h && Nat.ble h c && (Nat.blt l c || Nat.beq l 1) && Nat.beq s' s) (.val (.slc b (Nat.add o (Nat.mul l s)) (Nat.sub h l) (Nat.sub c l) s)) .no
  | .lit v => match lo, hi with
   | none, none => jt (pv P (Instr.sliceAt t v none none none))
   | some lo, none => zjB (opd fr lo) fun l => jt (pv P (Instr.sliceAt t v (some l) none none))
   | none, some hi => zjB (opd fr hi) fun h => jt (pv P (Instr.sliceAt t v none (some h) none))
   | some lo, some hi => zjB (opd fr lo) fun l => zjB (opd fr hi) fun h => jt (pv P (Instr.sliceAt t v (some l) (some h) none))
  | .ptr b o => zbo (P.underlying t) fun n e => ob (szO P e) fun s => ob (kW fr lo 0) fun l => ob (kW fr hi n) fun h => cond (Nat.ble l h && Nat.ble h n) (.val (.asl b (cond (Nat.beq n l) o (Nat.add o (Nat.mul l s))) (Nat.sub h l) (Nat.sub n l))) .no
  | .asl b o n c => xm (P.underlying t) fun e => ob (szO P e) fun s => ob (kW fr lo 0) fun l => ob (kW fr hi n) fun h => cond (Nat.ble l h && Nat.ble h c) (.val (.asl b (cond (Nat.beq c l) o (Nat.add o (Nat.mul l s))) (Nat.sub h l) (Nat.sub c l))) .no
  | _ => .no
def zht (t : Nat) (x : Operand) (lo hi mx : Option Operand) : OpK := fun P _ fr _ => Option.rec (ob (opd fr x) fun x => zd6 P t x lo hi fr) (fun _ => .no) mx
def zgf (x : AV) (i : Nat) : OR := match x with
  | .tup l => match l[i]? with
   | some v => .val v
   | none => .no
  | .lit (.tuple vs) => jt (vs[i]?)
  | _ => .no
def ze2 (x : Operand) (i : Nat) : OpK := fun _ _ fr _ => ob (opd fr x) fun x => zgf x i
def vl (f : Fn) (a b : Array Operand) : OpK := fun _ _ fr _ => ob (zcr fr a.toList) fun a => ob (zcr fr b.toList) fun b => .val (.fn f a b)
def zkg (t : Nat) (x : Operand) : OpK := fun P _ fr _ => ob (opd fr x) fun v => match P.underlying t with
 | some (.interface _) => .no
 | some _ => .val (.ifc t v)
 | none => .no
def zhW (P : Program) (t : Nat) : Option AV := match P.info? t with
 | some i => match i.zero with
  | some z => some (.lit z)
  | none => none
 | none => none
def zxn (P : Program) (x : AV) (t : Nat) (ok : Bool) : OR := match x with
  | .ifc t' v => match P.underlying t with
   | some (.interface _) => .no
   | some _ => cond (Nat.beq t' t) (.val (cond ok (.tup [v, .lit (.bool true)]) v)) (cond ok (ob (zhW P t) fun z => .val (.tup [z, .lit (.bool false)])) .no)
   | none => .no
  | .lit .nilIface => match P.underlying t with
   | some (.interface _) => .no
   | some _ => cond ok (ob (zhW P t) fun z => .val (.tup [z, .lit (.bool false)])) .no
   | none => .no
  | _ => .no
def kTA (x : Operand) (t : Nat) (ok : Bool) : OpK := fun P _ fr _ => ob (opd fr x) fun x => zxn P x t ok
def zgL : List AV → Option (List UInt8)
 | [] => some []
 | .lit (.int .u8 n) :: l => match zgL l with
  | some bs => some (UInt8.ofNat n.toNat :: bs)
  | none => none
 | _ :: _ => none
def zjd : List AV → Option (List UInt8)
 | [] => some []
 | .lit (.int .u8 (.ofNat n)) :: l => cond (Nat.blt n 256) (match zjd l with
  | some bs => some (UInt8.ofNat n :: bs)
  | none => none) none
 | _ :: _ => none
def ze6 (t : Option TypeDesc) : Bool := match t with
 | some .string => true
 | _ => false
def zmL (t : Option TypeDesc) : Bool := match t with
 | some (.int .u8) => true
 | _ => false
def zl1 (P : Program) (b : Nat) (hp : Hp) : Option TypeDesc → Option TypeDesc → OR
 | some (.pointer e), some .unsafePointer => ob (szO P e) fun n => cond (Nat.beq n 0) .no (oR hp b fun c => ob (xW c 0) fun _ => .val (.ptr b 0))
 | some .unsafePointer, some (.pointer u) => ob (szO P u) fun _ => oR hp b fun c => ob (tyC c) fun t => cond (Nat.beq t u && Nat.blt 0 (P.cellsOf u)) (ob (xW c (Nat.sub (P.cellsOf u) 1)) fun _ => .val (.ptr b 0)) .no
 | _, _ => .no
def zuB (P : Program) (s d : Nat) (x : AV) (hp : Hp) : OR := match x with
  | .lit v => jt (pv P (convert s d v))
  | .slc b o n c z => cond (ze6 (P.underlying d)) (xm (P.underlying s) fun e => cond (zmL (P.underlying e)) (ob (zcf hp 1 (.slc b o n c z)) fun l => ob (zgL l.2) fun bs => .val (.lit (.string ⟨bs.toArray⟩))) .no) .no
  | .asl b o n c => cond (ze6 (P.underlying d)) (xm (P.underlying s) fun e => cond (zmL (P.underlying e)) (ob (zcf hp 1 (.asl b o n c)) fun l => ob (zgL l.2) fun bs => .val (.lit (.string ⟨bs.toArray⟩))) .no) .no
  | .ptr b o => cond (Nat.beq o 0) (zl1 P b hp (P.underlying s) (P.underlying d)) .no
  | _ => .no
def zo3 (s d : Nat) (x : Operand) : OpK := fun P _ fr m => ob (opd fr x) fun x => zuB P s d x m.hp
def kUn (op : UnOp) (x : Operand) : OpK := fun P _ fr _ => zjB (opd fr x) fun v => jt (pv P (Op.unary op v))
def mapOf : AV → Option Nat
 | .map r => some r
 | _ => none
def zpS : Option xD → Option (List (AV × AV))
 | some (.map es) => some es
 | _ => none
def zio : Option TypeDesc → Option (Nat × Nat)
 | some (.map k e) => some (k, e)
 | _ => none
def zhu (t : Nat) (m k : Operand) (ok : Bool) : OpK := fun P _ fr mm => ob (opd fr m) fun m => ob (opd fr k) fun k => ob (mapOf m) fun r => ob (zpS (qz mm.hp r)) fun es => ob (zio (P.underlying t)) fun ke => ob (zfR P ke.1) fun st => ob (keyC st.1 k) fun kc =>
 cond (yS st.1 st.2 kc) (ob (jN st.1 st.2 kc es) fun res => match res with
  | some v => .val (cond ok (.tup [v, .lit (.bool true)]) v)
  | none => ob (zhW P ke.2) fun z => .val (cond ok (.tup [z, .lit (.bool false)]) z)) .no
def zd9 (t : Nat) (m k v : Operand) : OpK := fun P _ fr mm => ob (opd fr m) fun m => ob (opd fr k) fun k => ob (opd fr v) fun v => ob (mapOf m) fun r => ob (zpS (qz mm.hp r)) fun es => ob (zio (P.underlying t)) fun ke => ob (zfR P ke.1) fun st => ob (keyC st.1 k) fun kc =>
 cond (yS st.1 st.2 kc) (ob (updM st.1 st.2 k kc v es) fun es' => .mem (.lit undef) (hset (.map es') mm.hp r) mm.nx) .no
def ztg : AV → Option ByteArray
 | .lit (.string s) => some s
 | _ => none
def zke (t : Nat) (x : Operand) : OpK := fun P _ fr m => ob (opd fr x) fun x => ob (ztg x) fun s => cond (ze6 (P.underlying t)) (zde (.iter s 0) (.ptr m.nx 0) m) .no
def ztp (r : Nat) (m : Mem) : OR := match qz m.hp r with
 | some (.iter s pos) => cond (Nat.blt pos s.size)
  (match Utf8.decode s pos with
   | (c, w) => .mem (.tup [.lit (.bool true), .lit (.int .i64 pos), .lit (.int .i32 c)]) (hset (.iter s (Nat.add pos w)) m.hp r) m.nx)
  (.val (.tup [.lit (.bool false)]))
 | _ => .no
def zoY (x : Operand) (b : Bool) : OpK := fun _ _ fr m => Bool.rec .no (znv (opd fr x) fun r o => cond (Nat.beq o 0) (ztp r m) .no) b
def zkA (P : Program) (e : Nat) : Option Nat := cond (zmL (P.underlying e)) (some e) none
def zt2 (P : Program) (e sz : Nat) (s x : AV) (m : Mem) : Option TypeDesc → OR
 | some (.int _) => match x with
  | .lit (.int .i64 (.ofNat n)) => ob (jH P e) fun z => cond (Nat.beq (len z) sz && Nat.ble n 65536 && Nat.blt 0 n) (zac sz (zkA P e) s (some (n, zeA z n)) m) .no
  | _ => .no
 | some (.slice _) => ob (jH P e) fun z => cond (Nat.beq (len z) sz) (zac sz (zkA P e) s (zcf m.hp sz x) m) .no
 | some .string => ob (jH P e) fun z => cond (Nat.beq (len z) sz) (zac sz (zkA P e) s (zcf m.hp sz x) m) .no
 | _ => .no
def zn6 (t : Option TypeDesc) (k : Nat → OR) : OR := match t with
 | some (.pointer e) => k e
 | _ => .no
def kA (P : Program) (b : Builtin) (ts : List TypeId) (ty : TypeId) (cs : Array Bool) (xs : List AV) (m : Mem) : OR := match b, ts, xs with
 | .len, [t], [.slc _ _ n _ _] => xm (P.underlying t) fun _ => .val (.lit (.int .i64 n))
 | .len, [t], [.asl _ _ n _] => xm (P.underlying t) fun _ => .val (.lit (.int .i64 n))
 | .len, [t], [.map r] => ob (zio (P.underlying t)) fun _ => ob (zpS (qz m.hp r)) fun es => .val (.lit (.int .i64 es.length))
 | .append, [t, t'], [s, x] => xm (P.underlying t) fun e => ob (szO P e) fun sz => cond (Nat.beq sz 0) .no (cond (Nat.ble (zbX P e) 65536) (zt2 P e sz s x m (P.underlying t')) .no)
 | .copy, [t, _], [.slc b o n _ _, x] => xm (P.underlying t) fun e => ob (szO P e) fun sz => ob (zcf m.hp sz x) fun l => cond (Nat.beq l.1 0 && Nat.beq (len l.2) 0) (.val (.lit (.int .i64 0))) <| cond (Nat.ble l.1 n && Nat.blt 0 (len l.2) && Nat.blt 0 n) (oW m.hp b fun cs => ob (zfN cs l.2 o) fun cs' => .mem (.lit (.int .i64 l.1)) (hset (.cells cs' false) m.hp b) m.nx) .no
 | .unsafeSliceData, [_], [.slc b o _ c _] => cond (Nat.beq c 0) .no (.val (.ptr b o))
 | .unsafeString, [t, _], [.ptr b o, .lit (.int .i64 (.ofNat n))] => zn6 (P.underlying t) fun e => oW m.hp b fun cs => ob (tyC cs) fun e' => cond (Nat.beq e e' && Nat.beq (P.cellsOf e) 1 && Nat.blt 0 n && Nat.ble n 65536) (ob (vS cs n o) fun l => ob (zjd l) fun bs => .mem (.lit (.string ⟨bs.toArray⟩)) (hset .dead m.hp b) m.nx) .no
 | b, ts, xs => ob (zcz xs) fun vs => jt (match pv P (builtin b ts.toArray ty cs vs.toArray) with | some (.value v) => some v | _ => none)
def zj0 : List AV → OR
 | [v] => .val v
 | _ => .no
def kN (P : Program) (f : FuncId) (args : List AV) : OR := match P.funcs[f]? with
 | some fn => match fn.body with
  | some _ => cond (fn.name == "runtime.NumGoroutine") .no (.call f args)
  | none => cond (fn.name == "internal/abi.NoEscape" && fn.origin == "") (zj0 args) (ob (zcz args) fun vs => jt (match pv P (callFunc f vs.toArray) with | some (.value v) => some v | _ => none))
 | none => .no
def zfT (P : Program) (v : AV) (args : List AV) : OR := match v with
 | .fn (.func f) a b => kN P f (a ++ args ++ b)
 | .lit (.func (.func f) a b) => kN P f (zbN a ++ args ++ zbN b)
 | .yld l => .yld l args
 | _ => .no
def zru (P : Program) (f : FuncId) : Option Nat := match P.funcs[f]? with
 | some fn => match fn.body with
  | some _ => none
  | none => cond (fn.name == "internal/bytealg.MakeNoZero" && fn.origin == "") (match fn.resultTypes.toList with | [t] => some t | _ => none) none
 | none => none
def nzA (P : Program) (t : Nat) (xs : List AV) (m : Mem) : OR := match xs, P.underlying t with
 | [.lit (.int .i64 (.ofNat n))], some (.slice e) => cond (Nat.ble n 65536) (zde (.cells (.y e []) false) (.slc m.nx 0 n n 1) m) .no
 | _, _ => .no
def zlY (P : Program) (v : AV) (xs : List AV) (m : Mem) : OR := match v with
 | .fn (.func f) [] [] => match zru P f with
  | some t => nzA P t xs m
  | none => zfT P (.fn (.func f) [] []) xs
 | v => zfT P v xs
def zbm (c : Call) (ty : Nat) (P : Program) (fr : Fra) (m : Mem) : Callee → OR
 | .builtin b => ob (zcr fr c.args.toList) fun xs => kA P b c.argTypes.toList ty (c.args.map fun | .const _ => true | _ => false) xs m
 | .value f => ob (opd fr f) fun f => ob (zcr fr c.args.toList) fun xs => zlY P f xs m
 | .invoke _ _ => .no
def zgr (c : Call) : OpK := fun P ty fr m => zbm c ty P fr m c.callee
def zbU (c : Call) (fr : Fra) : Callee → OR
 | .value f => match opd fr f, zcr fr c.args.toList with
  | some (.fn (.func f) a b), some xs => .dfr (.call f (a ++ xs ++ b))
  | _, _ => .no
 | _ => .no
def zdi (c : Call) : OpK := fun _ _ fr _ => zbU c fr c.callee
def zod : AV → OR
 | .ifc t v => .panic (.ifc t v)
 | _ => .no
def zkf (x : Operand) : OpK := fun _ _ fr _ => ob (opd fr x) zod
def zlq (x : Operand) : OpK := fun _ _ fr _ => zhz (opd fr x)
def zix (r : Option Operand) : OpK := fun _ _ _ m => Option.rec (zde (.map []) (.map m.nx) m) (fun _ => .no) r
def zmB (P : Program) (v : AV) : Bool := match v with
 | .fn (.func f) _ _ => P.funcs[f]?.isSome
 | .lit (.func (.func f) _ _) => P.funcs[f]?.isSome
 | .lit (.tuple _) => true
 | .yld _ => true
 | _ => false
def jW (P : Program) (fr : Fra) (c : Callee) : Bool := match c with
 | .value x => match opd fr x with
  | some v => zmB P v
  | none => false
 | .builtin _ => true
 | .invoke _ _ => false
def xX (op : Op) (P : Program) (fr : Fra) : Bool := match op with
 | .call c => jW P fr c.callee
 | _ => true
def kNo : OpK := fun _ _ _ _ => .no
def yh (op : Op) : OpK := Op.casesOn (motive := fun _ => OpK) op
 zlq zlq zgn zo5 (fun _ x => zuO x) ze3 jL zd9 zo0 zkd (fun _ => kNo) (fun _ => kNo) zuN
 (fun op xt x y _ => zuP op xt x y) (fun op _ x => kUn op x) zo3 (fun _ _ => kNo) zkg vl (fun _ r => zix r) (fun _ _ => kNo) zbP zht
 zbQ zkj zo1 zki zhu zd9 (fun _ _ _ => kNo) (fun _ _ _ _ => kNo) zke zoY (fun _ => kNo) (fun x _ t ok => kTA x t ok) ze2
 zgr (fun _ => kNo) zdi zkf (fun _ _ => kNo) (fun _ _ _ => kNo) (fun _ _ => kNo)
def zdR (v : AV) (hp : Hp) (nx : Nat) : Out := .ok .ret (zak v (xL 8) 0) ⟨hp, nx, []⟩
def zca (r : Out) (k : CT) : Out := Out.rec (motive := fun _ => Out) .no (fun e fr m => Ex.casesOn (motive := fun _ => Out) e (k fr m) (.ok .ret fr m) (fun i => .ok (.exit i) fr m) (fun l => .ok (.goto l) fr m) (fun v => .ok (.panic v) fr m)) r
def zaX (id : Nat) (r : Out) : Out := Out.rec (motive := fun _ => Out) .no (fun e fr m => Ex.casesOn (motive := fun _ => Out) e (.ok .normal fr m) (.ok .ret fr m) (fun i => Bool.rec (.ok (.exit i) fr m) (.ok .normal fr m) (Nat.beq i id)) (fun l => .ok (.goto l) fr m) (fun v => .ok (.panic v) fr m)) r
def zl2 (v : Option AV) (a b : Out) : Out := match v with
 | some (.lit (.bool c)) => Bool.rec b a c
 | _ => .no
def zfy (r : Out) (fr : Fra) (df : List AD) (k : AV → Mem → Out) : Out := match r with
 | .ok .ret r m => match qA r 0 with
  | some v => k v ⟨m.hp, m.nx, df⟩
  | none => .no
 | .ok (.panic v) _ m => .ok (.panic v) fr ⟨m.hp, m.nx, df⟩
 | _ => .no
def zga (l : Nat) (fr : Fra) (m : Mem) : Out := match qz m.hp l with
 | some (.loop .ready .normal _ _ _ _ _) => .ok .normal fr ⟨hset .dead m.hp l, m.nx, m.df⟩
 | some (.loop .done .ret _ _ _ _ _) => .ok .ret fr ⟨hset .dead m.hp l, m.nx, m.df⟩
 | some (.loop .done (.exit i) _ _ _ _ _) => .ok (.exit i) fr ⟨hset .dead m.hp l, m.nx, m.df⟩
 | some (.loop .done (.goto i) _ _ _ _ _) => .ok (.goto i) fr ⟨hset .dead m.hp l, m.nx, m.df⟩
 | _ => .no
def vq (E : Env) (g : AV) (ps : Array Tmp) (a b : Code) (fr : Fra) (hp : Hp) (nx : Nat) (df : List AD) : Out := match zfT E.P g [.yld nx] with
 | .call f args => cond (Nat.blt nx 16384) (zfy (E.call f args (hset (.loop .ready .normal E.N fr ps.toList a b) hp nx) (Nat.add nx 1)) fr df fun _ m' => zga nx fr m') .no
 | _ => .no
def zhw : Option xD → Bool
 | some (.loop _ _ _ _ _ _ _) => true
 | _ => false
def zcJ (E : Env) (f : Operand) (ps : Array Tmp) (a b : Code) : CT := fun fr m => match opd fr f with
 | some g => match E.rd with
  | none => cond (Nat.blt m.nx 16384) (vq E g ps a b fr (hset .dfr m.hp m.nx) (Nat.add m.nx 1) (.mark m.nx :: m.df)) .no
  | some k => cond (zhw (qz m.hp k)) (vq E g ps a b fr m.hp m.nx m.df) .no
 | none => .no
def putK (E : Env) (d : Option Tmp) (v : AV) (k : CT) (fr : Fra) (m : Mem) : Out := Option.rec (motive := fun _ => Env → AV → CT → Fra → Mem → Out) (fun _ _ k fr m => k fr m) (fun d E v k fr m => Bool.rec .no (k (zak v fr d) m) (Bool.rec false (Nat.blt d 256) (Nat.blt d E.N))) d E v k fr m
abbrev AfT := Env → Option Tmp → CT → Fra → Mem → Out
def zAP : AfT := fun _ _ _ _ _ => .no
def zyZ (v : AV) : AfT := fun E d k fr m => putK E d v k fr m
def zy1 (v : AV) (hp : Hp) (nx : Nat) : AfT := fun E d k fr m => putK E d v k fr ⟨hp, nx, m.df⟩
def zwQ (f : FuncId) (args : List AV) : AfT := fun E d k fr m => zfy (E.call f args m.hp m.nx) fr m.df fun v m => putK E d v k fr m
def zyY (l : Nat) (args : List AV) : AfT := fun E d k fr m => zfy (E.yld l args m.hp m.nx) fr m.df fun v m => putK E d v k fr m
def zy2 (a : AD) : AfT := fun E d k fr m => match E.rd with
 | none => putK E d (.lit undef) k fr ⟨m.hp, m.nx, a :: m.df⟩
 | some _ => .no
def zy0 (v : AV) : AfT := fun _ _ _ fr m => .ok (.panic v) fr m
def zcS (r : OR) : AfT := OR.casesOn (motive := fun _ => AfT) r zAP zyZ zy1 zwQ zyY zy2 zy0
def zb7 (all : List Oper) (fr : Fra) (j : Nat) (w : Bool) : Option Bool := match all[j]? with
 | some o => match o.dst with
  | some d => match qA fr d with
   | some (.lit (.bool b)) => some (b == w)
   | some (.lit (.tuple _)) => some false
   | _ => none
  | none => none
 | none => none
def zpe (v : Option Bool) (y n : Out) : Out := match v with
 | some true => y
 | some false => n
 | none => .no
abbrev zqK := List Oper → Env → CT → CT
def zxZ (d : Option Tmp) (op : Op) (ty : Nat) : zqK := fun _ E k fr m => zcS (yh op E.P ty fr m) E d k fr m
def zxY (g : Nat × Bool) (d : Option Tmp) (op : Op) (ty : Nat) : zqK := fun all E k fr m => zpe (zb7 all fr g.1 g.2) (zcS (yh op E.P ty fr m) E d k fr m) (cond (xX op E.P fr) (putK E d (.lit undef) k fr m) .no)
def zxm (o : Oper) : zqK := Oper.rec (motive := fun _ => zqK) (fun d op ty _ _ g => Option.rec (motive := fun _ => Option Tmp → Op → Nat → zqK) zxZ zxY g d op ty) o
def zgD (E : Env) (all : List Oper) (l : List Oper) : CT := List.rec (motive := fun _ => CT) (fun fr m => .ok .normal fr m) (fun o _ k => zxm o all E k) l
def zeR (body : CT) (n : Nat) : CT := Nat.rec (motive := fun _ => CT) (fun _ _ => .no) (fun _ ih fr m => zca (body fr m) ih) n
def znu (u v : Value) : Bool := match u, v with
 | .int k a, .int k' b => cond (decide (k = k')) (eqI a b) false
 | .bool a, .bool b => cond a b (!b)
 | .string a, .string b => decide (a = b)
 | .pointer none, .pointer none => true
 | .slice none a b, .slice none c d => cond (Nat.beq a c) (Nat.beq b d) false
 | .map none, .map none => true
 | .nilIface, .nilIface => true
 | .nilFunc, .nilFunc => true
 | _, _ => false
def vU (u v : AV) : Bool := match u, v with
 | .lit u, .lit v => znu u v
 | .ptr b o, .ptr c p => cond (Nat.beq b c) (Nat.beq o p) false
 | .slc b o n c s, .slc b' o' n' c' s' => cond (Nat.beq b b') (cond (Nat.beq o o') (cond (Nat.beq n n') (cond (Nat.beq c c') (Nat.beq s s') false) false) false) false
 | .map r, .map q => Nat.beq r q
 | _, _ => false
def zaM : List AV → List AV → Bool
 | [], [] => true
 | u :: l, v :: k => cond (vU u v) (zaM l k) false
 | _, _ => false
def zwO (u v : AV) : Bool := match u, v with
 | .agg l, .agg k => zaM l k
 | .tup l, .tup k => zaM l k
 | .ifc t u, .ifc s v => cond (Nat.beq t s) (vU u v) false
 | .fn (.func f) a b, .fn (.func g) c d => cond (Nat.beq f g) (cond (zaM a c) (zaM b d) false) false
 | u, v => vU u v
def jg (all : List Oper) (o : Oper) (fr : Fra) : Option Bool := match o.guard with
 | none => some true
 | some (j, b) => zb7 all fr j b
def zth (r : OR) (v : Option AV) : Bool := match r, v with
 | .val u, some v => zwO u v
 | _, _ => false
def za3 (P : Program) (all : List Oper) (fr : Fra) (m : Mem) : List Nat → Bool
 | [] => true
 | i :: l => match all[i]? with
  | some o => match jg all o fr, o.dst with
   | some true, some d => cond (zth (yh o.op P o.type fr m) (qA fr d)) (za3 P all fr m l) false
   | some false, _ => za3 P all fr m l
   | _, _ => false
  | none => false
def xN (fr : Fra) : List Oper → Fra
 | [] => fr
 | o :: l => match o.dst with
  | some d => match Nat.blt d 256 with
   | true => zq0 none (xN fr l) d
   | false => xN fr l
  | none => xN fr l
def zgK (all : List Oper) (r : Out) (fr : Fra) (df : List AD) (k : AV → Mem → Out) : Out := match r with
 | .ok .ret r m => match qA r 0 with
  | some v => k v ⟨m.hp, m.nx, df⟩
  | none => .no
 | .ok (.panic v) _ m => .ok (.panic v) (xN fr all) ⟨m.hp, m.nx, df⟩
 | _ => .no
def zyc (all : List Oper) (r : OR) (E : Env) (d : Option Tmp) (k : CT) (fr : Fra) (m : Mem) : Out := match r with
 | .val v => putK E d v k fr m
 | .mem v hp nx => putK E d v k fr ⟨hp, nx, m.df⟩
 | .call f args => zgK all (E.call f args m.hp m.nx) fr m.df fun v m => putK E d v k fr m
 | .yld l args => zgK all (E.yld l args m.hp m.nx) fr m.df fun v m => putK E d v k fr m
 | .panic v => .ok (.panic v) (xN fr all) m
 | _ => .no
def zcl (all : List Oper) (i : Nat) (done : List Nat) : List Nat := done.filter fun j => match all[j]? with
 | some o => cond (Nat.beq (xJ o.op) 1) (!zcw j (zkC all all.length i)) false
 | none => false
def zdO (E : Env) (all : List Oper) (done : List Nat) (i : Nat) (o : Oper) (k : CT) (fr : Fra) (m : Mem) : Out := match xJ o.op with
 | 2 => match qz m.hp m.nx, yh o.op E.P o.type fr m with
  | none, .mem v hp nx => putK E o.dst v k fr ⟨hp, nx, m.df⟩
  | _, _ => .no
 | 3 => zyc all (yh o.op E.P o.type fr m) E o.dst (fun fr m => cond (za3 E.P all fr m (zcl all i done)) (k fr m) .no) fr m
 | _ => match yh o.op E.P o.type fr m with
  | .val v => putK E o.dst v k fr m
  | _ => .no
def yA (E : Env) (all : List Oper) : List Nat → List Nat → CT
 | _, [] => fun fr m => .ok .normal fr m
 | done, i :: l => fun fr m => match all[i]? with
  | some o => match jg all o fr with
   | some true => zdO E all done i o (yA E all (i :: done) l) fr m
   | some false => cond (xX o.op E.P fr) (putK E o.dst (.lit undef) (yA E all (i :: done) l) fr m) .no
   | none => .no
  | none => .no
def zsL (E : Env) (ops : Array Oper) : CT := fun fr m => match E.P.follows .mixedOrders, zhf ops with
 | true, some l => yA E ops.toList [] l fr m
 | _, _ => .no
def zpR (E : Env) (ops : Array Oper) (draw : Bool) : CT := Bool.rec (zgD E ops.toList ops.toList) (zsL E ops) draw
def zuE (r : Out) : Out := match r with
 | .ok (.goto _) _ _ => .no
 | r => r
def zjO (k : CT) (rd : Option Nat) : CT := Option.rec (fun fr m => zuE (k fr m)) (fun _ _ _ => .no) rd
def qj (E : Env) (c : Code) : CT := Code.rec (motive := fun _ => CT)
 (fun fr m => .ok .normal fr m)
 (fun _ ops draw => zpR E ops draw)
 (fun _ _ ka kb fr m => zca (ka fr m) kb)
 (fun c _ _ ka kb fr m => zl2 (opd fr c) (ka fr m) (kb fr m))
 (fun id _ k fr m => zaX id (k fr m))
 (fun _ k => zeR k 1000000000)
 (fun f ps a b _ _ => zcJ E f ps a b)
 (fun i fr m => .ok (.exit i) fr m)
 (fun _ k => zjO k E.rd)
 (fun _ fr m => .ok .normal fr m)
 (fun l fr m => .ok (.goto l) fr m)
 (fun fr m => .ok .ret fr m)
 (fun _ _ _ => .no) c
def zlZ (r : Out) : Out := match r with
 | .ok .normal _ ⟨hp, nx, []⟩ => zdR (.lit undef) hp nx
 | .ok .ret _ ⟨hp, nx, []⟩ => zdR (.lit undef) hp nx
 | _ => .no
def zwx (E : Env) (es : Bool) (c : Code) (d : Nat) (args : List AV) (rc : AV) (hp : Hp) (nx : Nat) : Out :=
 cond (Nat.blt d 256 && Nat.blt d E.N && es && Nat.ble (len args) 256) (zlZ (qj E c (zak rc (jw args 0 (xL 8)) d) ⟨hp, nx, []⟩)) .no
def zo9 : OR → Bool
 | .call _ _ => true
 | _ => false
def zsM (P : Program) (call yld : CallT) (f : FuncId) (args : List AV) (rc : AV) (hp : Hp) (nx : Nat) : Out := match P.funcs[f]? with
 | some fn => match fn.body with
  | some (.seq (.region _ ⟨[{ dst := some d, op := .call { callee := .builtin .recover, .. }, guard := none, .. }]⟩ false) c) => cond (zo9 (kN P f args)) (zwx ⟨P, call, yld, fn.ntmps, none⟩ fn.results.isEmpty c d args rc hp nx) .no
  | _ => .no
 | none => .no
def resOf (P : Program) (hp : Hp) (fr : Fra) : List ResultVar → Option (List AV)
 | [] => some []
 | .tmp t :: l => match qA fr t, resOf P hp fr l with
  | some v, some vs => some (v :: vs)
  | _, _ => none
 | .cell a t :: l => match qA fr a, resOf P hp fr l with
  | some (.ptr b o), some vs => match oR hp b (zhi P t o) with
   | .val v => some (v :: vs)
   | _ => none
  | _, _ => none
def zum : List AV → AV
 | [v] => v
 | vs => .tup vs
def leave (P : Program) (call yld : CallT) (fn : Func) (fr : Fra) : List AD → Option AV → Hp → Nat → Out
 | [], some v, hp, nx => .ok (.panic v) (xL 8) ⟨hp, nx, []⟩
 | [], none, hp, nx => match resOf P hp fr fn.results.toList with
  | some vs => zdR (zum vs) hp nx
  | none => .no
 | .mark b :: l, pn, hp, nx => match qz hp b with
  | some .dfr => leave P call yld fn fr l pn (hset .dead hp b) nx
  | _ => .no
 | .call f args :: l, pn, hp, nx => match zsM P call yld f args (pn.getD (.lit .nilIface)) hp nx with
  | .ok _ _ m => leave P call yld fn fr l none m.hp m.nx
  | .no => .no
def zoz (P : Program) (call yld : CallT) (fn : Func) (r : Out) : Out := match r with
 | .ok .ret fr m => leave P call yld fn fr m.df none m.hp m.nx
 | .ok .normal fr m => leave P call yld fn fr m.df none m.hp m.nx
 | .ok (.panic v) fr m => leave P call yld fn fr m.df (some v) m.hp m.nx
 | _ => .no
def zfl (P : Program) (call yld : CallT) : CallT := fun f args hp nx => match P.funcs[f]? with
 | some fn => match fn.body with
  | some c => Bool.rec .no (zoz P call yld fn (qj ⟨P, call, yld, fn.ntmps, none⟩ c (jw args 0 (xL 8)) ⟨hp, nx, []⟩)) (Nat.ble (len args) 256)
  | none => .no
 | none => .no
def za6 (n : Nat) : List Nat → List AV → Fra → Option Fra
 | t :: ps, v :: vs, fr => cond (Nat.blt t n && Nat.blt t 256) (za6 n ps vs (zak v fr t)) none
 | [], [], fr => some fr
 | _, _, _ => none
def zan (k : Nat) (b : Bool) (st : LoopState) (pe : Ex) (hp : Hp) (nx : Nat) : Out := match qz hp k with
 | some (.loop _ _ n tf ps c d) => zdR (.lit (.bool b)) (hset (.loop st pe n tf ps c d) hp k) nx
 | _ => .no
def zjx (k : Nat) (r : Out) : Out := match r with
 | .ok .normal _ ⟨hp, nx, []⟩ => zan k true .ready .normal hp nx
 | .ok .ret _ ⟨hp, nx, []⟩ => zan k false .done .ret hp nx
 | .ok (.exit i) _ ⟨hp, nx, []⟩ => zan k false .done (.exit i) hp nx
 | .ok (.goto i) _ ⟨hp, nx, []⟩ => zan k false .done (.goto i) hp nx
 | .ok (.panic v) _ ⟨hp, nx, []⟩ => .ok (.panic v) (xL 8) ⟨hp, nx, []⟩
 | _ => .no
def zpQ (E : Env) (k : Nat) (b : Code) (r : Out) : Out := match r with
 | .ok .normal fr m => match qz m.hp k with
  | some (.loop .ready p n tf ps c d) => zjx k (qj E b fr ⟨hset (.loop .busy p n tf ps c d) m.hp k, m.nx, m.df⟩)
  | _ => .no
 | _ => .no
def ziW (P : Program) (call yld : CallT) : CallT := fun k args hp nx => match qz hp k with
 | some (.loop .ready _ n tf ps a b) => match za6 n ps args tf with
  | some fr => zpQ ⟨P, call, yld, n, some k⟩ k b (qj ⟨P, call, yld, n, some k⟩ a fr ⟨hp, nx, []⟩)
  | none => .no
 | _ => .no
def zAF (P : Program) (n : Nat) : CallT × CallT := Nat.rec (fun _ _ _ _ => .no, fun _ _ _ _ => .no) (fun _ ih => (zfl P ih.1 ih.2, ziW P ih.1 ih.2)) n
def ev (P : Program) (n : Nat) : CallT := (zAF P n).1
theorem zwt {a b : Int} (h : eqI a b = true) : a = b := by
 unfold eqI at h
 split at h
 ·rw [nQe h]
 ·rw [nQe h]
 ·cases h
theorem znt {u v : Value} (h : znu u v = true) : u = v := by
 unfold znu at h
 split at h
 ·rename_i k a k' b
  cases hk : decide (k = k') with
  | false => rw [hk] at h; cases h
  | true => rw [hk] at h; rw [of_decide_eq_true hk, zwt h]
 ·rename_i a b; cases a <;> cases b <;> first | rfl | cases h
 ·rw [of_decide_eq_true h]
 ·rfl
 ·rename_i a b c d
  cases hk : Nat.beq a c with
  | false => rw [hk] at h; cases h
  | true => rw [hk] at h; rw [nQe hk, nQe h]
 ·rfl
 ·rfl
 ·rfl
 ·cases h
theorem xd {a b : Bool} (h : cond a b false = true) : a = true ∧ b = true := by cases a <;> first | exact ⟨rfl, h⟩ | cases h
theorem vo {u v : AV} (h : vU u v = true) : u = v := by
 unfold vU at h
 split at h
 ·rw [znt h]
 ·obtain ⟨h1, h2⟩ := xd h
  rw [nQe h1, nQe h2]
 ·obtain ⟨h1, h⟩ := xd h
  obtain ⟨h2, h⟩ := xd h
  obtain ⟨h3, h⟩ := xd h
  obtain ⟨h4, h5⟩ := xd h
  rw [nQe h1, nQe h2, nQe h3, nQe h4, nQe h5]
 ·rw [nQe h]
 ·cases h
theorem jM : ∀ {l k : List AV}, zaM l k = true → l = k
 | [], [], _ => rfl
 | u :: l, v :: k, h => by obtain ⟨h1, h2⟩ := xd (a := vU u v) (b := zaM l k) h; rw [vo h1, jM h2]
 | [], _ :: _, h => by cases h
 | _ :: _, [], h => by cases h
theorem zs3 {u v : AV} (h : zwO u v = true) : u = v := by
 unfold zwO at h
 split at h
 ·rw [jM h]
 ·rw [jM h]
 ·obtain ⟨h1, h2⟩ := xd h
  rw [nQe h1, vo h2]
 ·rename_i f a b g c d
  obtain ⟨h1, h2⟩ := xd (a := Nat.beq f g) h
  obtain ⟨h3, h4⟩ := xd (a := zaM a c) h2
  rw [nQe h1, jM h3, jM h4]
 ·exact vo h
theorem ztn {β : Type} (t : β × β) (b : Bool) (f : β → β) : pk (up t b f) b = f (pk t b) := by cases b <;> rfl
theorem zn9 {β : Type} (t : β × β) (b c : Bool) (f : β → β) (h : b ≠ c) : pk (up t b f) c = pk t c := by cases b <;> cases c <;> first | rfl | exact absurd rfl h
theorem za2 {α : Type} (x : Option α) : ∀ (ps : List Nat) (t : TT α ps.length) (k : Nat), tget ps (tset x ps t k) k = x
  | [], _, _ => rfl
  | p :: ps, t, k => by
    exact (congrArg (fun s => tget ps s k) (ztn (β := TT α ps.length) t (Nat.beq (Nat.land k p) 0) (fun t => tset x ps t k))).trans (za2 x ps _ k)
theorem j9 {α : Type} (x : Option α) : ∀ (ps : List Nat) (t : TT α ps.length) (k j : Nat), (∃ p ∈ ps, Nat.beq (Nat.land k p) 0 ≠ Nat.beq (Nat.land j p) 0) → tget ps (tset x ps t k) j = tget ps t j
  | [], _, _, _, ⟨_, h, _⟩ => by cases h
  | p :: ps, t, k, j, h => by
    by_cases hb : Nat.beq (Nat.land k p) 0 = Nat.beq (Nat.land j p) 0
    · have e := congrArg (fun s => tget ps s j) (ztn (β := TT α ps.length) t (Nat.beq (Nat.land k p) 0) (fun t => tset x ps t k))
      have e1 : tget (p :: ps) (tset x (p :: ps) t k) j = tget ps (pk (β := TT α ps.length) (up (β := TT α ps.length) t (Nat.beq (Nat.land k p) 0) (fun t => tset x ps t k)) (Nat.beq (Nat.land k p) 0)) j := congrArg (fun b => tget ps (pk (β := TT α ps.length) (up (β := TT α ps.length) t (Nat.beq (Nat.land k p) 0) (fun t => tset x ps t k)) b) j) hb.symm
      have e2 : tget (p :: ps) t j = tget ps (pk (β := TT α ps.length) t (Nat.beq (Nat.land k p) 0)) j := congrArg (fun b => tget ps (pk (β := TT α ps.length) t b) j) hb.symm
      refine e1.trans (e.trans (Eq.trans ?_ e2.symm))
      refine j9 x ps _ k j ?_
      obtain ⟨q, hq, hne⟩ := h
      rcases List.mem_cons.1 hq with rfl | hq
      · exact absurd hb hne
      · exact ⟨q, hq, hne⟩
    · exact congrArg (fun s => tget ps s j) (zn9 (β := TT α ps.length) t _ _ (fun t => tset x ps t k) hb)
theorem zep {α : Type} : ∀ (ps : List Nat) (k : Nat), tget ps (xL (α := α) ps.length) k = none
  | [], _ => rfl
  | p :: ps, k => by
    have : ∀ b, pk (β := TT α ps.length) (xL ps.length, xL ps.length) b = xL ps.length := fun b => by cases b <;> rfl
    exact (congrArg (fun s => tget ps s k) (this (Nat.beq (Nat.land k p) 0))).trans (zep ps k)
theorem zl8 (k i : Nat) : Nat.beq (Nat.land k (2 ^ i)) 0 = !k.testBit i := by
  cases ht : k.testBit i with
  | false =>
    have h : k &&& 2 ^ i = 0 := by
      apply Nat.eq_of_testBit_eq
      intro j
      rw [Nat.testBit_and, Nat.testBit_two_pow, Nat.zero_testBit]
      by_cases h : i = j
      · subst h; simp [ht]
      · simp [h]
    show Nat.beq (k &&& 2 ^ i) 0 = true
    rw [h]; rfl
  | true =>
    cases hb : Nat.beq (Nat.land k (2 ^ i)) 0 with
    | false => rfl
    | true =>
      have h : k &&& 2 ^ i = 0 := nQe hb
      have h2 := congrArg (fun n => n.testBit i) h
      simp [Nat.testBit_and, ht] at h2
theorem zhJ {n k j : Nat} (hk : k < 2 ^ n) (hj : j < 2 ^ n) (h : k ≠ j) : ∃ i, i < n ∧ Nat.beq (Nat.land k (2 ^ i)) 0 ≠ Nat.beq (Nat.land j (2 ^ i)) 0 := by
  apply Classical.byContradiction
  intro hno
  apply h
  apply Nat.eq_of_testBit_eq
  intro i
  rcases Nat.lt_or_ge i n with hi | hi
  · apply Classical.byContradiction
    intro hne
    refine hno ⟨i, hi, ?_⟩
    rw [zl8, zl8]
    intro h'
    apply hne
    cases hk : k.testBit i <;> cases hj : j.testBit i <;> simp_all
  · have h2 : 2 ^ n ≤ 2 ^ i := Nat.pow_le_pow_right (by decide) hi
    rw [Nat.testBit_lt_two_pow (Nat.lt_of_lt_of_le hk h2), Nat.testBit_lt_two_pow (Nat.lt_of_lt_of_le hj h2)]
def ps8 : List Nat := [1, 2, 4, 8, 16, 32, 64, 128]
def zn8 : List Nat := [256, 512, 1024, 2048, 4096, 8192, 1, 2, 4, 8, 16, 32, 64, 128]
theorem zk9 : ∀ i, i < 8 → 2 ^ i ∈ ps8 := by decide
theorem zn7 : ∀ i, i < 14 → 2 ^ i ∈ zn8 := by decide
theorem zaW {a b : Nat} (h : a < b) : Nat.blt a b = true := Nat.ble_eq_true_of_le h
theorem qm {a b : Nat} (h : Nat.blt a b = true) : a < b := nQl h
theorem zbn {a b : Nat} (h : ¬ a < b) : Nat.blt a b = false := by
  cases hb : Nat.blt a b with
  | false => rfl
  | true => exact absurd (qm hb) h
theorem zlD {α : Type} {t : TT α 8} {k : Nat} {v : α} (h : qA t k = some v) : k < 256 := by
  unfold qA at h
  cases hb : Nat.blt k 256 with
  | false => rw [hb] at h; cases h
  | true => exact qm hb
theorem zeb {α : Type} {t : TT α 14} {k : Nat} {v : α} (h : qz t k = some v) : k < 16384 := by
  unfold qz at h
  cases hb : Nat.blt k 16384 with
  | false => rw [hb] at h; cases h
  | true => exact qm hb
theorem zcG {α : Type} (t : TT α 8) {k : Nat} (h : k < 256) : qA t k = tget ps8 t k := by
  unfold qA; rw [zaW h]; rfl
theorem zhx {α : Type} (t : TT α 14) {k : Nat} (h : k < 16384) : qz t k = tget zn8 t k := by
  unfold qz; rw [zaW h]; rfl
theorem vp {α : Type} (x : α) (t : TT α 8) {k : Nat} (hk : k < 256) (j : Nat) : qA (zak x t k) j = if j = k then some x else qA t j := by
  rcases Nat.lt_or_ge j 256 with hj | hj
  · rw [zcG _ hj]
    show tget ps8 (tset (some x) ps8 t k) j = _
    split
    · rename_i h; subst h; exact za2 _ _ _ _
    · rename_i h
      rw [zcG _ hj]
      obtain ⟨i, hi, hne⟩ := zhJ (n := 8) hk hj (fun e => h e.symm)
      exact j9 _ _ _ _ _ ⟨_, zk9 i hi, hne⟩
  · have h1 : ∀ t : TT α 8, qA t j = none := fun t => by unfold qA; rw [zbn (by omega)]
    rw [h1, h1, if_neg (by omega)]
theorem qa {α : Type} (x : α) (t : TT α 14) {k : Nat} (hk : k < 16384) (j : Nat) : qz (hset x t k) j = if j = k then some x else qz t j := by
  rcases Nat.lt_or_ge j 16384 with hj | hj
  · rw [zhx _ hj]
    show tget zn8 (tset (some x) zn8 t k) j = _
    split
    · rename_i h; subst h; exact za2 _ _ _ _
    · rename_i h
      rw [zhx _ hj]
      obtain ⟨i, hi, hne⟩ := zhJ (n := 14) hk hj (fun e => h e.symm)
      exact j9 _ _ _ _ _ ⟨_, zn7 i hi, hne⟩
  · have h1 : ∀ t : TT α 14, qz t j = none := fun t => by unfold qz; rw [zbn (by omega)]
    rw [h1, h1, if_neg (by omega)]
theorem ziQ {α : Type} (k : Nat) : qA (xL (α := α) 8) k = none := by
  rcases Nat.lt_or_ge k 256 with h | h
  · rw [zcG _ h]; exact zep ps8 k
  · unfold qA; rw [zbn (by omega)]
theorem zfa {α : Type} (k : Nat) : qz (xL (α := α) 14) k = none := by
  rcases Nat.lt_or_ge k 16384 with h | h
  · rw [zhx _ h]; exact zep zn8 k
  · unfold qz; rw [zbn (by omega)]
theorem yz {α : Type} : ∀ (l : List α), len l = l.length
  | [] => rfl
  | _ :: l => congrArg Nat.succ (yz l)
theorem nth_eq {α : Type} : ∀ (l : List α) (k : Nat), nth l k = l[k]?
  | [], _ => rfl
  | _ :: _, 0 => rfl
  | _ :: l, k + 1 => by
    show nth l k = _
    rw [nth_eq l k]; rfl
theorem zc1 {α : Type} (x : α) : ∀ (l : List α) (k : Nat), zc2 x l k = l.set k x
  | [], _ => rfl
  | _ :: _, 0 => rfl
  | v :: l, k + 1 => by
    show v :: zc2 x l k = _
    rw [zc1 x l k]; rfl
theorem zbd : ∀ (l : List AV) (k : Nat) (t : TT AV 8), k + l.length ≤ 256 → ∀ j, qA (jw l k t) j = if k ≤ j ∧ j < k + l.length then l[j - k]? else qA t j
  | [], k, t, _, j => by simp [jw]; omega
  | v :: l, k, t, h, j => by
    have h' : k + 1 + l.length ≤ 256 := by simp at h; omega
    show qA (jw l (k + 1) (zak v t k)) j = _
    rw [zbd l (k + 1) _ h' j, vp _ _ (by omega)]
    simp only [List.length_cons]
    by_cases h1 : k + 1 ≤ j ∧ j < k + 1 + l.length
    · rw [if_pos h1, if_pos (by omega)]
      have : j - k = (j - (k + 1)) + 1 := by omega
      rw [this]; rfl
    · rw [if_neg h1]
      by_cases h2 : j = k
      · subst h2
        rw [if_pos rfl, if_pos (by omega)]; simp
      · rw [if_neg h2, if_neg (by omega)]
structure Loc where
  bl : Nat
  dl : Nat
  kp : Nat
  sz : Nat
  en : Nat
abbrev Sg := Nat → Option Loc
def adr (kp o n c s : Nat) : Nat := if n = 0 ∧ c = 0 ∧ kp = 0 then o - s else o
theorem zmg {kp o n c s : Nat} (h : n ≠ 0) : adr kp o n c s = o := if_neg (fun e => h e.1)
theorem zqz {kp o n c s : Nat} (h : c ≠ 0) : adr kp o n c s = o := if_neg (fun e => h e.2.1)
theorem zy4 {kp n c s : Nat} : adr kp 0 n c s = 0 := by unfold adr; split <;> simp
 mutual
def zK (σ : Sg) : AV → Option Value
  | .lit v => some v
  | .ptr b o => (σ b).map fun e => .pointer (some ⟨e.bl, o + e.dl, none⟩)
  | .slc b o n c s => match σ b with
    | some e => if s = e.sz ∧ o + c * e.sz = e.en then some (.slice (some ⟨e.bl, adr e.kp o n c s + e.dl, none⟩) n (c + e.kp)) else none
    | none => none
  | .map r => (σ r).map fun e => .map (some e.bl)
  | .agg l => (zA σ l).map fun cs => .agg cs.toArray
  | .tup l => (zA σ l).map fun cs => .tuple cs.toArray
  | .ifc t v => (zK σ v).map (.iface t)
  | .fn f a b => match zA σ a, zA σ b with
    | some a, some b => some (.func f a.toArray b.toArray)
    | _, _ => none
  | .yld l => (σ l).map fun e => .func (.yield e.bl) #[] #[]
  | .asl b o n c => (σ b).map fun e => .slice (some ⟨e.bl, o + e.dl, none⟩) n c
def zA (σ : Sg) : List AV → Option (List Value)
  | [] => some []
  | v :: l => match zK σ v, zA σ l with
    | some c, some cs => some (c :: cs)
    | _, _ => none
 end
def Sle (σ σ' : Sg) : Prop := ∀ b e, σ b = some e → σ' b = some e
theorem Sle.refl (σ : Sg) : Sle σ σ := fun _ _ h => h
theorem Sle.trans {σ σ' σ'' : Sg} (h : Sle σ σ') (h' : Sle σ' σ'') : Sle σ σ'' := fun b e hb => h' b e (h b e hb)
 mutual
theorem qU {σ σ' : Sg} (hs : Sle σ σ') : ∀ (v : AV) (c : Value), zK σ v = some c → zK σ' v = some c
  | .lit v, c, h => h
  | .ptr b o, c, h => by
    simp only [zK, Option.map_eq_some_iff] at h ⊢
    obtain ⟨e, he, hc⟩ := h
    exact ⟨e, hs b e he, hc⟩
  | .slc b o n k s, c, h => by
    simp only [zK] at h ⊢
    cases he : σ b with
    | none => rw [he] at h; cases h
    | some e => rw [he] at h; rw [hs b e he]; exact h
  | .map r, c, h => by
    simp only [zK, Option.map_eq_some_iff] at h ⊢
    obtain ⟨e, he, hc⟩ := h
    exact ⟨e, hs r e he, hc⟩
  | .agg l, c, h => by
    simp only [zK, Option.map_eq_some_iff] at h ⊢
    obtain ⟨e, he, hc⟩ := h
    exact ⟨e, xx hs l e he, hc⟩
  | .tup l, c, h => by
    simp only [zK, Option.map_eq_some_iff] at h ⊢
    obtain ⟨e, he, hc⟩ := h
    exact ⟨e, xx hs l e he, hc⟩
  | .ifc t v, c, h => by
    simp only [zK, Option.map_eq_some_iff] at h ⊢
    obtain ⟨e, he, hc⟩ := h
    exact ⟨e, qU hs v e he, hc⟩
  | .fn f a b, c, h => by
    simp only [zK] at h ⊢
    cases ha : zA σ a with
    | none => rw [ha] at h; cases h
    | some ca =>
      cases hb : zA σ b with
      | none => rw [ha, hb] at h; cases h
      | some cb =>
        rw [ha, hb] at h
        rw [xx hs a ca ha, xx hs b cb hb]
        exact h
  | .yld l, c, h => by
    simp only [zK, Option.map_eq_some_iff] at h ⊢
    obtain ⟨e, he, hc⟩ := h
    exact ⟨e, hs l e he, hc⟩
  | .asl b o n k, c, h => by
    simp only [zK, Option.map_eq_some_iff] at h ⊢
    obtain ⟨e, he, hc⟩ := h
    exact ⟨e, hs b e he, hc⟩
theorem xx {σ σ' : Sg} (hs : Sle σ σ') : ∀ (l : List AV) (c : List Value), zA σ l = some c → zA σ' l = some c
  | [], c, h => h
  | v :: l, c, h => by
    simp only [zA] at h ⊢
    cases ha : zK σ v with
    | none => rw [ha] at h; cases h
    | some ca =>
      cases hb : zA σ l with
      | none => rw [ha, hb] at h; cases h
      | some cb =>
        rw [ha, hb] at h
        rw [qU hs v ca ha, xx hs l cb hb]
        exact h
 end
structure Ow where
 own : Nat → Prop
 late : Nat → Option xD
 V : FuncId → Prop
def VOk (P : Program) (V : FuncId → Prop) : Prop := ∀ f, V f ↔ ∃ fn, P.funcs[f]? = some fn
def FV (V : FuncId → Prop) (ρ : Option Nat) : Fence := { fn := V, depth := none, alive := false, round := ρ }
instance : CoeFun Ow (fun _ => Nat → Prop) := ⟨Ow.own⟩
structure Keep (O : Ow) (w w' : World) : Prop where
 os : w'.os = w.os
 tape : w'.tape = w.tape
 output : w'.output = w.output
 size : w.heap.size ≤ w'.heap.size
 block : ∀ k, ¬ O k → w'.heap[k]? = w.heap[k]?
theorem Keep.refl (O : Ow) (w : World) : Keep O w w := ⟨rfl, rfl, rfl, Nat.le_refl _, fun _ _ => rfl⟩
theorem Keep.trans {O : Ow} {a b c : World} (h : Keep O a b) (k : Keep O b c) : Keep O a c :=
 ⟨k.os.trans h.os, k.tape.trans h.tape, k.output.trans h.output, Nat.le_trans h.size k.size, fun i hi => (k.block i hi).trans (h.block i hi)⟩
def exC : Ex → Option Code
 | .ret => some .ret
 | .exit i => some (.exit i)
 | .goto i => some (.goto i)
 | _ => none
def FrR (σ : Sg) (n : Nat) (fr : Fra) (tmps : Array Value) : Prop := n ≤ tmps.size ∧ ∀ t v, qA fr t = some v → ∃ c, zK σ v = some c ∧ tmps[t]? = some c
theorem FrR.mono {σ σ' : Sg} {n : Nat} {fr : Fra} {tmps : Array Value} (h : FrR σ n fr tmps) (hs : Sle σ σ') : FrR σ' n fr tmps :=
 ⟨h.1, fun t v hv => let ⟨c, h1, h2⟩ := h.2 t v hv; ⟨c, qU hs v c h1, h2⟩⟩
def MapR (σ : Sg) : List (AV × AV) → List MapEntry → Prop
 | [], [] => True
 | (k, v) :: l, e :: es => zK σ k = some e.key ∧ zK σ v = some e.val ∧ MapR σ l es
 | _, _ => False
theorem MapR.mono {σ σ' : Sg} (hs : Sle σ σ') : ∀ {l : List (AV × AV)} {es : List MapEntry}, MapR σ l es → MapR σ' l es
 | [], [], h => h
 | [], _ :: _, h => h
 | (_, _) :: _, [], h => h
 | (k, v) :: l, e :: es, h => ⟨qU hs _ _ h.1, qU hs _ _ h.2.1, MapR.mono hs h.2.2⟩
def CellR (σ : Sg) (e : Loc) (c : CS) (arr : Array Value) : Prop :=
 e.en + e.dl + e.kp * e.sz ≤ arr.size ∧ ∀ i v, xW c i = some v → i < e.en ∧ ∃ cv, zK σ v = some cv ∧ arr[i + e.dl]? = some cv
theorem CellR.mono {σ σ' : Sg} {e : Loc} {c : CS} {arr : Array Value} (hs : Sle σ σ') (h : CellR σ e c arr) : CellR σ' e c arr :=
 ⟨h.1, fun i v hv => let ⟨h0, c, h1, h2⟩ := h.2 i v hv; ⟨h0, c, qU hs v c h1, h2⟩⟩
def TyR (c : CS) (el : TypeId) : Prop := ∀ t, tyC c = some t → el = t
theorem zfZ (l : List AV) (el : TypeId) : TyR (.l l) el := fun _ h => by cases h
def ObjR (V : FuncId → Prop) (σ : Sg) (e : Loc) : xD → Option Obj → Prop
 | .cells c ro, h => ∃ arr el fz, h = some (.cells arr el fz) ∧ ((ro = false → fz = (0, 0)) ∧ TyR c el ∧ ((tyC c).isSome = true → e.dl = 0)) ∧ CellR σ e c arr
 | .map es, h => ∃ ces clk, h = some (.map ces clk) ∧ MapR σ es ces.toList
 | .iter s p, h => e.dl = 0 ∧ h = some (.stringIter s p)
 | .loop st pend n fr ps a b, h => ∃ r, h = some (.loop r) ∧ r.state = st ∧ r.pending = exC pend ∧ r.params.toList = ps ∧ r.assign = a ∧ r.body = b ∧ FrR σ n fr r.tmps ∧ V r.fn
 | .dfr, h => h = some (.deferred (some []))
 | .dead, _ => True
theorem ObjR.mono {V : FuncId → Prop} {σ σ' : Sg} {e : Loc} {o : xD} {h : Option Obj} (hs : Sle σ σ') (ho : ObjR V σ e o h) : ObjR V σ' e o h := by
 cases o with
 | cells c ro => obtain ⟨arr, el, fz, h1, h2, h3⟩ := ho; exact ⟨arr, el, fz, h1, h2, h3.mono hs⟩
 | map es => obtain ⟨ces, clk, h1, h2⟩ := ho; exact ⟨ces, clk, h1, h2.mono hs⟩
 | iter s p => exact ho
 | loop st pend n fr ps a b => obtain ⟨r, h1, h2, h3, h4, h5, h6, h7, h8⟩ := ho; exact ⟨r, h1, h2, h3, h4, h5, h6, h7.mono hs, h8⟩
 | dfr => exact ho
 | dead => trivial
def alive : xD → Bool
 | .dead => false
 | _ => true
def zrn : xD → Bool
 | .dead => false
 | .cells _ true => false
 | _ => true
structure RelW (O : Ow) (σ : Sg) (hp : Hp) (nx : Nat) (w : World) : Prop where
 obj : ∀ b o e, qz hp b = some o → σ b = some e → ObjR O.V σ e o w.heap[e.bl]?
 inj : ∀ b b' o o' e e', qz hp b = some o → qz hp b' = some o' → alive o = true → alive o' = true → σ b = some e → σ b' = some e' → e.bl = e'.bl → b = b'
 own : ∀ b o e, qz hp b = some o → zrn o = true → σ b = some e → O e.bl
 fresh : ∀ b, nx ≤ b → σ b = none
 lt : ∀ b e, σ b = some e → e.bl < w.heap.size
 new : ∀ k, w.heap.size ≤ k → O k
 glo : ∀ g, g < gN → ∃ e, σ g = some e ∧ e.bl = g ∧ e.dl = 0
 late : ∀ b o, O.late b = some o → σ b = none ∧ b < nx ∧ qz hp b = some o
theorem RelW.now {O : Ow} {σ : Sg} {hp : Hp} {nx : Nat} {w : World} (h : RelW O σ hp nx w) : O.late nx = none := by
 cases hl : O.late nx with
 | none => rfl
 | some o => exact absurd (h.late nx o hl).2.1 (Nat.lt_irrefl _)
theorem RelW.laid {O : Ow} {σ : Sg} {hp : Hp} {nx : Nat} {w : World} (h : RelW O σ hp nx w) {b : Nat} {e : Loc} (hb : σ b = some e) : O.late b = none := by
 cases hl : O.late b with
 | none => rfl
 | some o1 => have := (h.late b o1 hl).1; rw [hb] at this; cases this
theorem zad {o : xD} (h : zrn o = true) : alive o = true := by cases o <;> first | rfl | cases h
def xi (σ : Sg) (b : Nat) (e : Loc) : Sg := fun i => if i = b then some e else σ i
theorem xb {σ : Sg} {b : Nat} {e : Loc} (h : σ b = none) : Sle σ (xi σ b e) := fun i e' hi => by
 unfold xi
 split
 ·rename_i h'; subst h'; rw [h] at hi; cases hi
 ·exact hi
theorem qe (σ : Sg) (b : Nat) (e : Loc) : xi σ b e b = some e := by simp [xi]
theorem qG {σ : Sg} {b i : Nat} {e : Loc} (h : i ≠ b) : xi σ b e i = σ i := by simp [xi, h]
variable {O : Ow} {σ : Sg} {hp : Hp} {nx : Nat} {w : World}
theorem RelW.alloc (h : RelW O σ hp nx w) {id : Nat} (hid : id < 16384) {nx' : Nat} (hnx : nx ≤ nx') (hlt : id < nx') (hs : σ id = none) (hz : O.late id = none) (o : xD) (ob : Obj) (e : Loc) (he : e.bl = w.heap.size) (ho : ObjR O.V (xi σ id e) e o (some ob)) :
  RelW O (xi σ id e) (hset o hp id) nx' (w.alloc ob) ∧ Sle σ (xi σ id e) ∧ Keep O w (w.alloc ob) := by
 have hsl := xb (e := e) hs
 have hnew : (w.alloc ob).heap[w.heap.size]? = some ob := Go.heap_alloc_new w ob
 have hold : ∀ k, k < w.heap.size → (w.alloc ob).heap[k]? = w.heap[k]? := fun k hk => Below.heap_alloc w ob k hk
 refine ⟨⟨?_, ?_, ?_, ?_, ?_, ?_, fun g hg => let ⟨e', h1, h2⟩ := h.glo g hg; ⟨e', hsl _ _ h1, h2⟩, fun b o' hb => (by
  have hne : b ≠ id := (by rintro rfl; rw [hz] at hb; cases hb)
  obtain ⟨l1, l2, l3⟩ := h.late b o' hb
  exact ⟨by rw [qG hne]; exact l1, Nat.lt_of_lt_of_le l2 hnx, by rw [qa _ _ hid, if_neg hne]; exact l3⟩)⟩, hsl, ⟨rfl, rfl, rfl, by simp, fun k hk => hold k (by
  rcases Nat.lt_or_ge k w.heap.size with h' | h'
  ·exact h'
  ·exact absurd (h.new k h') hk)⟩⟩
 ·intro b o' e' hb hσ
  rw [qa _ _ hid] at hb
  by_cases hbi : b = id
  ·subst hbi
   rw [if_pos rfl] at hb
   rw [qe] at hσ
   cases hb; cases hσ
   rw [he, hnew]; exact ho
  ·rw [if_neg hbi] at hb
   rw [qG hbi] at hσ
   rw [hold _ (h.lt _ _ hσ)]
   exact (h.obj b o' e' hb hσ).mono hsl
 ·intro b b' o1 o2 e1 e2 h1 h2 a1 a2 s1 s2 hbl
  rw [qa _ _ hid] at h1 h2
  by_cases hb : b = id <;> by_cases hb' : b' = id
  ·rw [hb, hb']
  ·subst hb
   rw [qe] at s1; rw [qG hb'] at s2
   cases s1
   have := h.lt _ _ s2
   omega
  ·subst hb'
   rw [qe] at s2; rw [qG hb] at s1
   cases s2
   have := h.lt _ _ s1
   omega
  ·rw [if_neg hb] at h1; rw [if_neg hb'] at h2
   rw [qG hb] at s1; rw [qG hb'] at s2
   exact h.inj _ _ _ _ _ _ h1 h2 a1 a2 s1 s2 hbl
 ·intro b o' e' hb hm hσ
  rw [qa _ _ hid] at hb
  by_cases hbi : b = id
  ·subst hbi
   rw [qe] at hσ; cases hσ
   rw [he]; exact h.new _ (Nat.le_refl _)
  ·rw [if_neg hbi] at hb; rw [qG hbi] at hσ
   exact h.own _ _ _ hb hm hσ
 ·intro b hb
  rw [qG (by omega)]
  exact h.fresh b (by omega)
 ·intro b e' hσ
  by_cases hbi : b = id
  ·subst hbi
   rw [qe] at hσ; cases hσ
   rw [he]; simp
  ·rw [qG hbi] at hσ
   have := h.lt _ _ hσ
   simp; omega
 ·intro k hk
  simp at hk
  exact h.new k (by omega)
theorem RelW.write (h : RelW O σ hp nx w) {b : Nat} {o o' : xD} {e : Loc} {w' : World} (hb : qz hp b = some o) (hm : zrn o = true) (hσ : σ b = some e) (ho : ObjR O.V σ e o' w'.heap[e.bl]?)
  (hsz : w'.heap.size = w.heap.size) (hne : ∀ k, k ≠ e.bl → w'.heap[k]? = w.heap[k]?) (hos : w'.os = w.os) (htp : w'.tape = w.tape) (hou : w'.output = w.output) :
  RelW O σ (hset o' hp b) nx w' ∧ Keep O w w' := by
 have hid := zeb hb
 have hO := h.own _ _ _ hb hm hσ
 refine ⟨⟨?_, ?_, ?_, h.fresh, fun c e' hc => hsz ▸ h.lt _ _ hc, fun k hk => h.new k (hsz ▸ hk), h.glo, fun c o1 hc => (by
  obtain ⟨l1, l2, l3⟩ := h.late c o1 hc
  have hne : c ≠ b := (by rintro rfl; rw [hσ] at l1; cases l1)
  exact ⟨l1, l2, by rw [qa _ _ hid, if_neg hne]; exact l3⟩)⟩, ⟨hos, htp, hou, Nat.le_of_eq hsz.symm, fun k hk => hne k (fun e' => hk (e' ▸ hO))⟩⟩
 ·intro c o1 e1 h1 s1
  rw [qa _ _ hid] at h1
  by_cases hc : c = b
  ·subst hc
   rw [if_pos rfl] at h1; cases h1
   rw [hσ] at s1; cases s1
   exact ho
  ·rw [if_neg hc] at h1
   by_cases ha : alive o1 = true
   ·have : e1.bl ≠ e.bl := fun hbl => hc (h.inj _ _ _ _ _ _ h1 hb ha (zad hm) s1 hσ hbl)
    rw [hne _ this]
    exact h.obj _ _ _ h1 s1
   ·cases o1 with
    | dead => trivial
    | cells _ _ => exact absurd rfl ha
    | map _ => exact absurd rfl ha
    | iter _ _ => exact absurd rfl ha
    | loop _ _ _ _ _ _ _ => exact absurd rfl ha
    | dfr => exact absurd rfl ha
 ·intro c c' o1 o2 e1 e2 h1 h2 a1 a2 s1 s2 hbl
  rw [qa _ _ hid] at h1 h2
  have k1 : ∃ p, qz hp c = some p ∧ alive p = true := by
   by_cases hc : c = b
   ·subst hc; exact ⟨o, hb, zad hm⟩
   ·rw [if_neg hc] at h1; exact ⟨o1, h1, a1⟩
  have k2 : ∃ p, qz hp c' = some p ∧ alive p = true := by
   by_cases hc : c' = b
   ·subst hc; exact ⟨o, hb, zad hm⟩
   ·rw [if_neg hc] at h2; exact ⟨o2, h2, a2⟩
  obtain ⟨p1, q1, r1⟩ := k1
  obtain ⟨p2, q2, r2⟩ := k2
  exact h.inj _ _ _ _ _ _ q1 q2 r1 r2 s1 s2 hbl
 ·intro c o1 e1 h1 m1 s1
  rw [qa _ _ hid] at h1
  by_cases hc : c = b
  ·subst hc
   rw [hσ] at s1; cases s1; exact hO
  ·rw [if_neg hc] at h1
   exact h.own _ _ _ h1 m1 s1
theorem RelW.kill (h : RelW O σ hp nx w) {b : Nat} (hid : b < 16384) (hz : O.late b = none) : RelW O σ (hset .dead hp b) nx w := by
 refine ⟨?_, ?_, ?_, h.fresh, h.lt, h.new, h.glo, fun c o1 hc => (by
  obtain ⟨l1, l2, l3⟩ := h.late c o1 hc
  have hne : c ≠ b := (by rintro rfl; rw [hz] at hc; cases hc)
  exact ⟨l1, l2, by rw [qa _ _ hid, if_neg hne]; exact l3⟩)⟩
 ·intro c o1 e1 h1 s1
  rw [qa _ _ hid] at h1
  by_cases hc : c = b
  ·rw [if_pos hc] at h1; cases h1; trivial
  ·rw [if_neg hc] at h1; exact h.obj _ _ _ h1 s1
 ·intro c c' o1 o2 e1 e2 h1 h2 a1 a2 s1 s2 hbl
  rw [qa _ _ hid] at h1 h2
  by_cases hc : c = b
  ·rw [if_pos hc] at h1; cases h1; cases a1
  ·by_cases hc' : c' = b
   ·rw [if_pos hc'] at h2; cases h2; cases a2
   ·rw [if_neg hc] at h1; rw [if_neg hc'] at h2
    exact h.inj _ _ _ _ _ _ h1 h2 a1 a2 s1 s2 hbl
 ·intro c o1 e1 h1 m1 s1
  rw [qa _ _ hid] at h1
  by_cases hc : c = b
  ·rw [if_pos hc] at h1; cases h1; cases m1
  ·rw [if_neg hc] at h1; exact h.own _ _ _ h1 m1 s1
theorem RelW.again (h : RelW O σ hp nx w) {b : Nat} {o o' : xD} {e e' : Loc} {w' : World} (hb : qz hp b = some o) (hm : zrn o = true) (hσ : σ b = some e) (hid : nx < 16384) (hbl : e'.bl = e.bl) (ho : ObjR O.V (xi σ nx e') e' o' w'.heap[e.bl]?)
  (hsz : w'.heap.size = w.heap.size) (hne : ∀ k, k ≠ e.bl → w'.heap[k]? = w.heap[k]?) (hos : w'.os = w.os) (htp : w'.tape = w.tape) (hou : w'.output = w.output) :
  RelW O (xi σ nx e') (hset o' (hset .dead hp b) nx) (nx + 1) w' ∧ Sle σ (xi σ nx e') ∧ Keep O w w' := by
 have hb' := zeb hb
 have hO := h.own _ _ _ hb hm hσ
 have hn := h.fresh nx (Nat.le_refl _)
 have hsl := xb (e := e') hn
 have hbn : b ≠ nx := fun e0 => by subst e0; rw [hσ] at hn; cases hn
 have key : ∀ c o1 e1, c ≠ nx → qz (hset .dead hp b) c = some o1 → alive o1 = true → σ c = some e1 → e1.bl ≠ e.bl := by
  intro c o1 e1 hc h1 a1 s1 hbl
  rw [qa _ _ hb'] at h1
  by_cases hcb : c = b
  ·rw [if_pos hcb] at h1; cases h1; cases a1
  ·rw [if_neg hcb] at h1
   exact hcb (h.inj _ _ _ _ _ _ h1 hb a1 (zad hm) s1 hσ hbl)
 have hlb : O.late b = none := by
  cases hl : O.late b with
  | none => rfl
  | some o1 => have := (h.late b o1 hl).1; rw [hσ] at this; cases this
 have hk := h.kill hb' hlb
 refine ⟨⟨?_, ?_, ?_, ?_, ?_, fun k hk => h.new k (hsz ▸ hk), fun g hg => let ⟨e0, h1, h2⟩ := h.glo g hg; ⟨e0, hsl _ _ h1, h2⟩, fun c o1 hc => (by
  obtain ⟨l1, l2, l3⟩ := hk.late c o1 hc
  have hne : c ≠ nx := Nat.ne_of_lt l2
  exact ⟨by rw [qG hne]; exact l1, Nat.lt_of_lt_of_le l2 (Nat.le_succ _), by rw [qa _ _ hid, if_neg hne]; exact l3⟩)⟩, hsl, ⟨hos, htp, hou, Nat.le_of_eq hsz.symm, fun k hk => hne k (fun e' => hk (e' ▸ hO))⟩⟩
 ·intro c o1 e1 h1 s1
  rw [qa _ _ hid] at h1
  by_cases hc : c = nx
  ·subst hc
   rw [if_pos rfl] at h1; cases h1
   rw [qe] at s1; cases s1
   rw [hbl]; exact ho
  ·rw [if_neg hc] at h1
   rw [qG hc] at s1
   by_cases ha : alive o1 = true
   ·rw [hne _ (key _ _ _ hc h1 ha s1)]
    exact (hk.obj _ _ _ h1 s1).mono hsl
   ·cases o1 with
    | dead => trivial
    | cells _ _ => exact absurd rfl ha
    | map _ => exact absurd rfl ha
    | iter _ _ => exact absurd rfl ha
    | loop _ _ _ _ _ _ _ => exact absurd rfl ha
    | dfr => exact absurd rfl ha
 ·intro c c' o1 o2 e1 e2 h1 h2 a1 a2 s1 s2 hbl'
  rw [qa _ _ hid] at h1 h2
  by_cases hc : c = nx <;> by_cases hc' : c' = nx
  ·rw [hc, hc']
  ·subst hc
   rw [qe] at s1; cases s1
   rw [if_neg hc'] at h2; rw [qG hc'] at s2
   exact absurd (hbl'.symm.trans hbl) (key _ _ _ hc' h2 a2 s2)
  ·subst hc'
   rw [qe] at s2; cases s2
   rw [if_neg hc] at h1; rw [qG hc] at s1
   exact absurd (hbl'.trans hbl) (key _ _ _ hc h1 a1 s1)
  ·rw [if_neg hc] at h1; rw [if_neg hc'] at h2
   rw [qG hc] at s1; rw [qG hc'] at s2
   exact hk.inj _ _ _ _ _ _ h1 h2 a1 a2 s1 s2 hbl'
 ·intro c o1 e1 h1 m1 s1
  rw [qa _ _ hid] at h1
  by_cases hc : c = nx
  ·subst hc
   rw [qe] at s1; cases s1
   rw [hbl]; exact hO
  ·rw [if_neg hc] at h1; rw [qG hc] at s1
   exact hk.own _ _ _ h1 m1 s1
 ·intro c hc
  rw [qG (by omega)]
  exact h.fresh c (by omega)
 ·intro c e1 s1
  by_cases hc : c = nx
  ·subst hc
   rw [qe] at s1; cases s1
   rw [hbl, hsz]; exact h.lt _ _ hσ
  ·rw [qG hc] at s1
   rw [hsz]; exact h.lt _ _ s1
theorem RelW.drew (h : RelW O σ hp nx w) : RelW O σ hp nx w.drew := ⟨h.obj, h.inj, h.own, h.fresh, h.lt, h.new, h.glo, h.late⟩
theorem RelW.up (h : RelW O σ hp nx w) {nx' : Nat} (hn : nx ≤ nx') : RelW O σ hp nx' w := ⟨h.obj, h.inj, h.own, fun b hb => h.fresh b (Nat.le_trans hn hb), h.lt, h.new, h.glo, fun b o hb => let ⟨l1, l2, l3⟩ := h.late b o hb; ⟨l1, Nat.lt_of_lt_of_le l2 hn, l3⟩⟩
theorem Keep.drew (O : Ow) (w : World) : Keep O w w.drew := ⟨rfl, rfl, rfl, Nat.le_refl _, fun _ _ => rfl⟩
end
end Go.Proofs.YtihedfkcccaonaaGreatDoor.Ev
