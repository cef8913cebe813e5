/- What may be asked of a desk at once, and what the first lines tell. No program in sight. -/
import Derived.Test.YtneoeokfffnonabGreatDoorPlainK
set_option linter.unusedVariables false
set_option linter.unusedSimpArgs false
namespace Go.Proofs.YtneoeokfffnonabGreatDoor
open Go.RowKit Go
set_option maxRecDepth 100000

/-- The first lines, and what they tell. -/
def begunL : List Str := [[106, 111, 105, 110, 32, 48],
  [106, 111, 105, 110, 32, 49],
  [112, 117, 116, 32, 48, 32, 48, 32, 97, 32, 98],
  [112, 117, 116, 32, 49, 32, 48, 32, 99],
  [115, 101, 116, 116, 108, 101],
  [116, 101, 120, 116, 32, 49],
  [116, 97, 107, 101, 32, 48, 32, 48, 32, 49],
  [111, 112, 101, 110, 32, 48],
  [115, 101, 110, 100, 32, 48],
  [108, 111, 103],
  [116, 104, 101, 110, 32, 51],
  [108, 101, 97, 115, 116],
  [120]]
def begunT : Str := [111, 107, 10, 111, 107, 10, 111, 107, 10, 111, 107, 10, 111, 107, 10, 116, 101, 120, 116, 32, 99, 97, 32, 98, 10, 111, 107, 10, 116, 97, 107, 101, 32, 48, 32, 50, 32, 50, 32, 48, 32, 49, 10, 101, 110, 100, 10, 111, 107, 10, 112, 117, 116, 32, 48, 32, 49, 32, 48, 32, 48, 32, 97, 32, 98, 10, 112, 117, 116, 32, 49, 32, 49, 32, 48, 32, 48, 32, 99, 10, 116, 97, 107, 101, 32, 48, 32, 50, 32, 50, 32, 48, 32, 49, 10, 101, 110, 100, 10, 116, 101, 120, 116, 32, 97, 32, 98, 10, 98, 121, 32, 48, 32, 48, 32, 48, 10, 108, 101, 97, 115, 116, 32, 50, 32, 51, 10, 119, 104, 97, 116, 10]
theorem begun_told : (linesK DkM.new begunL).2 = begunT := of_decide_eq_true (by kernel_rfl)

/-- Do lines ask for more than is gone through in time? -/
def slowK (n : Int) : List Str → Bool
  | [] => false
  | s :: l => if 9000 < n + (s.length : Int) then true else slowK (n + (s.length : Int)) l
theorem slowK_false : ∀ (l : List Str) (n : Int), 0 ≤ n → slowK n l = false → ∀ s ∈ l, s.length ≤ 9000 := by
  intro l
  induction l with
  | nil => intro n _ _ s hs; cases hs
  | cons a l ih =>
    intro n hn h s hs
    unfold slowK at h
    split at h
    · cases h
    · rename_i h1
      rcases List.mem_cons.1 hs with rfl | hs
      · omega
      · exact ih _ (by omega) h s hs

/-- Where the first line is that may not be. -/
def badAt : List Str → Nat → Option Nat
  | [], _ => none
  | s :: l, i => if (10 : UInt8) ∈ s then some i else badAt l (i + 1)
theorem badAt_none : ∀ (l : List Str) (i : Nat), badAt l i = none ↔ ∀ s ∈ l, (10 : UInt8) ∉ s := by
  intro l
  induction l with
  | nil => intro i; exact ⟨fun _ s hs => (by cases hs), fun _ => rfl⟩
  | cons a l ih =>
    intro i
    show (if (10 : UInt8) ∈ a then some i else badAt l (i + 1)) = none ↔ _
    by_cases h : (10 : UInt8) ∈ a
    · rw [if_pos h]; simp [h]
    · rw [if_neg h, ih]; simp [h]
def faultK (l : List Str) : Int × Int := if 150 < l.length then (10, -1) else match badAt l 0 with
  | some i => (11, (i : Int))
  | none => (0, 0)
theorem faultK_zero {l : List Str} : (faultK l).1 = 0 ↔ l.length ≤ 150 ∧ ∀ s ∈ l, (10 : UInt8) ∉ s := by
  unfold faultK
  split
  · constructor
    · intro h; cases h
    · intro h; omega
  · rename_i h
    cases hb : badAt l 0 with
    | some i =>
      constructor
      · intro h; cases h
      · intro h2; rw [(badAt_none l 0).2 h2.2] at hb; cases hb
    | none => exact ⟨fun _ => ⟨by omega, (badAt_none l 0).1 hb⟩, fun _ => rfl⟩
theorem faultK_none {l : List Str} (h : (faultK l).1 = 0) : faultK l = (0, 0) := by
  obtain ⟨h1, h2⟩ := faultK_zero.1 h
  unfold faultK
  rw [if_neg (by omega), (badAt_none l 0).2 h2]
/-- What Do says, and of what desks. -/
def doK (d : DkM) (l : List Str) : DkM := if (faultK l).1 = 0 then (linesK d l).1 else d
def saysK (d : DkM) (l : List Str) : Str := if (faultK l).1 = 0 then (linesK d l).2 else []
/-- Lines told together. -/
theorem fault_cut (l : List Str) (k : Nat) (hl : l.length ≤ 150) : (faultK l).1 = 0 ↔ (faultK (l.take k)).1 = 0 ∧ (faultK (l.drop k)).1 = 0 := by
  rw [faultK_zero, faultK_zero, faultK_zero]
  constructor
  · rintro ⟨_, h⟩
    exact ⟨⟨by rw [List.length_take]; omega, fun s hs => h s (List.mem_of_mem_take hs)⟩, by rw [List.length_drop]; omega, fun s hs => h s (List.mem_of_mem_drop hs)⟩
  · rintro ⟨⟨_, h1⟩, _, h2⟩
    refine ⟨hl, fun s hs => ?_⟩
    rw [← List.take_append_drop k l] at hs
    rcases List.mem_append.1 hs with hs | hs
    · exact h1 s hs
    · exact h2 s hs
theorem desk_joins (l : List Str) (k : Nat) (hl : l.length ≤ 150) (h : (faultK l).1 = 0) : saysK DkM.new (l.take k) ++ saysK (doK DkM.new (l.take k)) (l.drop k) = saysK DkM.new l := by
  obtain ⟨h1, h2⟩ := (fault_cut l k hl).1 h
  unfold saysK doK
  rw [if_pos h, if_pos h1, if_pos h1, if_pos h2]
  have e := linesK_app (l.take k) (l.drop k) DkM.new
  rw [List.take_append_drop] at e
  rw [e]
end Go.Proofs.YtneoeokfffnonabGreatDoor
