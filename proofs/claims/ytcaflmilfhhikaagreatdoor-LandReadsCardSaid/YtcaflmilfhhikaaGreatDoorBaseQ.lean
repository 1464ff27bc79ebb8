/-
  Going through a text with its place as a count; the library's table in the memory that stays.
-/
import Derived.Test.YtcaflmilfhhikaaGreatDoorBaseP
namespace Go.Proofs.YtcaflmilfhhikaaGreatDoor
open Go.RowKit
set_option linter.unusedVariables false

def decN (s : List UInt8) (q : Nat) : Int × Nat := (((Utf8.decode ⟨s.toArray⟩ q).1 : Int), (Utf8.decode ⟨s.toArray⟩ q).2)
section
variable {κ : Ctx} {p : List PanicEntry → Fr → World → Prop} {P : Program} {N : Nat} {F : Fr} {w w0 : World} {K : Fr → World → Prop} {d : Nat} {ty : TypeId} {pos : String} {af : Array Edge} {gd : Option (Nat × Bool)} {G G0 : Gm} {B : Nat} {L : List Row} {s : List UInt8} {X : Operand}
theorem OpP_nextN {k r : Nat} {q : Nat} (hS : Since B G0 w0 G w) (hO : Owns G w B L) (hk : L[k]? = some ⟨0, 1, 2, .map (some r), [.string ⟨s.toArray⟩, .int .i64 ((q : Nat) : Int)]⟩) (hX : ev F X = .pointer (some ⟨r, 0, none⟩)) (hd : Nat.blt d N = true) (hlt : decide (q < s.length) = true)
    (h : ∀ w', Since B G0 w0 G w' → Owns G w' B (L.set k ⟨0, 1, 2, .map (some r), [.string ⟨s.toArray⟩, .int .i64 ((q + (decN s q).2 : Nat) : Int)]⟩) → K (upd F d (.tuple #[.bool true, .int .i64 (q : Int), .int .i32 (decN s q).1])) w') : OpP κ P N p ⟨some d, .next X true, ty, pos, af, gd⟩ F w K :=
  OpP_nextS hS hO hk hX hd (Int.natCast_nonneg q) (decide_eq_true (Int.ofNat_lt.2 (of_decide_eq_true hlt))) fun w' hS' hO' => h w' hS' hO'
theorem OpP_overN {k r : Nat} {q : Nat} (hO : Owns G w B L) (hk : L[k]? = some ⟨0, 1, 2, .map (some r), [.string ⟨s.toArray⟩, .int .i64 ((q : Nat) : Int)]⟩) (hX : ev F X = .pointer (some ⟨r, 0, none⟩)) (hd : Nat.blt d N = true) (hlt : decide (q < s.length) = false)
    (h : K (upd F d (.tuple #[.bool false])) w) : OpP κ P N p ⟨some d, .next X true, ty, pos, af, gd⟩ F w K :=
  OpP_overS hO hk hX hd (Int.natCast_nonneg q) (decide_eq_false fun e => of_decide_eq_false hlt (Int.ofNat_lt.1 e)) h
end
/-- The library's table of powers of ten is in the memory that stays. -/
def TabG (P : Program) (G : Gm) : Prop := ∃ g e fz, P.globalNamed "internal/strconv.uint64pow10" = some g ∧ G g = some (.cells (Lib.pow10Tab.map fun z => Value.int .u64 z).toArray e fz)
theorem TabG.mono {P : Program} {G G' : Gm} (h : TabG P G) (hle : Gle G G') : TabG P G' := let ⟨g, e, fz, h1, h2⟩ := h; ⟨g, e, fz, h1, hle _ _ h2⟩
theorem TabG.is {P : Program} {G : Gm} {w : World} (h : TabG P G) (hS : Sat G w) : Lib.TabIs P w "internal/strconv.uint64pow10" .u64 Lib.pow10Tab := by
  obtain ⟨g, e, fz, h1, h2⟩ := h
  unfold Lib.TabIs World.var?
  rw [h1]
  simp [hS _ _ h2]
def itoaF (n : Int) : Option (List UInt8) := if -9223372036854775808 ≤ n ∧ n ≤ 9223372036854775807 then some (Lib.itoa n) else none
theorem itoaF_some {n : Int} {s : List UInt8} (h : itoaF n = some s) : (-9223372036854775808 ≤ n ∧ n ≤ 9223372036854775807) ∧ s = Lib.itoa n := by
  unfold itoaF at h
  split at h
  · exact ⟨‹_›, (Option.some.inj h).symm⟩
  · cases h
def neS (s : List UInt8) : Option Unit := if s.isEmpty = true then none else some ()
theorem neS_some {s : List UInt8} {u : Unit} (h : neS s = some u) : s ≠ [] := by
  unfold neS at h
  split at h
  · cases h
  · rename_i e; intro h'; subst h'; exact e rfl
end Go.Proofs.YtcaflmilfhhikaaGreatDoor
