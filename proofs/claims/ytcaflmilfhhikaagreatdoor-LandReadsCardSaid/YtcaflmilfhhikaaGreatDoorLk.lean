/-
  LandBooks, LandSpoilt: a book's text is the document's and is read as the book; a spoilt one is never read (plain laws).
-/
import Derived.Test.YtcaflmilfhhikaaGreatDoorRb
import Derived.Test.YtcaflmilfhhikaaGreatDoorGn
import Derived.Test.YtcaflmilfhhikaaGreatDoorOp
namespace Go.Proofs.YtcaflmilfhhikaaGreatDoor
open Go.RowKit Go.Lib
set_option linter.unusedVariables false

theorem f8_eq {b : TLandBook} (h1 : b.People.length ≤ 1000) (h2 : b.Events.length ≤ 1000) (h3 : b.Memories.length ≤ 1000) : f8 b = some (if bookOk b = true then (textT b, 0) else ([], 2)) := by
  unfold f8
  rw [f22_eq b h1 h2 h3, Option.bind_some]
  by_cases ok : bookOk b = true
  · rw [if_neg (by simp [ok]), if_pos ok, f23_eq (ok_parts ok).2.2.2.2]
    rfl
  · have ok' : bookOk b = false := by simpa using ok
    rw [if_pos (by simp [ok']), if_neg (by simp [ok'])]
/-- What Read gives. -/
def readR (s : Tex) : TLandBook × Int := if 5000 < s.length then (⟨[], [], []⟩, 3) else match readP s with
  | none => (⟨[], [], []⟩, 4)
  | some b => if bookOk b = true then (b, 0) else (⟨[], [], []⟩, 2)
theorem itoa_pos (n : Int) : 1 ≤ (itoa n).length := List.length_pos_iff.2 (itoa_ne n)
theorem pw_pos (n : Int) : 1 ≤ (pw n).length := by
  unfold pw
  split
  · decide
  · exact itoa_pos n
theorem textT_lines (b : TLandBook) : 10 * (b.People.length + b.Events.length + b.Memories.length) ≤ (textT b).length := by
  have e : ∀ (ls : List Tex), (∀ l ∈ ls, 9 ≤ l.length) → 10 * ls.length ≤ (unl ls).length := by
    intro ls
    induction ls with
    | nil => intro _; simp
    | cons l ls ih =>
      intro h
      have e : unl (l :: ls) = l ++ [10] ++ unl ls := by simp [unl]
      have h1 := ih fun x hx => h x (by simp [hx])
      have h2 := h l (by simp)
      rw [e]
      simp only [List.length_append, List.length_cons, List.length_nil]
      omega
  have h1 := e (b.People.map pl ++ (b.Events.map el ++ b.Memories.map ml)) (by
    intro l hl
    rcases List.mem_append.1 hl with hl | hl
    · obtain ⟨x, _, rfl⟩ := List.mem_map.1 hl
      have := pw_pos x.Mother; have := pw_pos x.Adopted
      simp only [pl, kP, List.length_append, List.length_cons, List.length_nil]; omega
    · rcases List.mem_append.1 hl with hl | hl
      · obtain ⟨x, _, rfl⟩ := List.mem_map.1 hl
        have := itoa_pos x.Strip; have := itoa_pos x.Holder
        simp only [el, wd, kE, List.flatMap_cons, List.flatMap_nil, List.length_append, List.length_cons, List.length_nil]; omega
      · obtain ⟨x, _, rfl⟩ := List.mem_map.1 hl
        have := itoa_pos x.From; have := itoa_pos x.To; have := itoa_pos x.Years.Low
        simp only [ml, wd, kM, List.flatMap_cons, List.flatMap_nil, List.length_append, List.length_cons, List.length_nil]; omega)
  have h2 : (b.People.map pl ++ (b.Events.map el ++ b.Memories.map ml)).length = b.People.length + b.Events.length + b.Memories.length := by simp; omega
  have e2 : bodyT b = headL b ++ [10] ++ unl (b.People.map pl ++ (b.Events.map el ++ b.Memories.map ml)) := by simp [bodyT, linesT, unl]
  have h3 : (textT b).length = (bodyT b).length + (endT b).length + 1 := by simp [textT]; omega
  rw [h3, e2]
  simp only [List.length_append, List.length_cons, List.length_nil]
  omega
theorem f10_eq (s : Tex) : f10 s = some (readR s) := by
  unfold f10 readR
  by_cases hl : 5000 < s.length
  · rw [if_pos (by simp; omega), if_pos hl]
  · rw [if_neg (by simp; omega), if_neg hl]
    have hr := f29_rel s (by omega)
    cases hp : readP s with
    | none =>
      rw [hp] at hr
      obtain ⟨x, e⟩ := hr
      rw [e]
      rfl
    | some b =>
      rw [hp] at hr
      have e : f29 s = some (.inl b) := hr
      obtain ⟨ht, hs⟩ := readP_text hp
      have hlen := textT_lines b
      rw [ht] at hlen
      have e22 : f22 b = some (bookOk b) := f22_eq b (by omega) (by omega) (by omega)
      rw [e, Option.bind_some]
      show ((f22 b).bind _) = _
      rw [e22, Option.bind_some]
      show _ = some (if bookOk b = true then (b, 0) else (⟨[], [], []⟩, 2))
      cases bookOk b <;> rfl
end Go.Proofs.YtcaflmilfhhikaaGreatDoor
