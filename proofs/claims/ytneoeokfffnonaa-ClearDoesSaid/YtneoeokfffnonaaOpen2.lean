/- How the arguments of the laws are opened: marks, deeds. -/
import Derived.Test.YtneoeokfffnonaaOpen
import Derived.Test.YtneoeokfffnonaaMarkW
namespace Go.Proofs.Ytneoeokfffnonaa
open Go.ChangeShapes Go.WideShapes Go.ChangeAt Go.RowKit
set_option linter.unusedVariables false
set_option maxRecDepth 100000

theorem cells_bool : Try.prog.cellsOf 4 = 1 := by kernel_rfl
theorem cells_Mark : Try.prog.cellsOf 26 = 4 := by kernel_rfl

section
variable {H : Type} {enc : TypeId × Value → H} {w : World} {base : Nat} {spare : Nat → Bool} {held : Bool}
theorem list4 {α : Type} {l : List α} (h : l.length = 4) : ∃ a b c d, l = [a, b, c, d] := by
  match l, h with
  | [a, b, c, d], _ => exact ⟨a, b, c, d, rfl⟩
def Mk.ok (m : Mk) : Prop := i64ok m.By ∧ i64ok m.No ∧ i64ok m.K
theorem open_MarkV {v : Value} {d : DataW H} {p : List MemPlace} (hv : Value.okWide Try.prog w .any 0 26 v) (h : DataW.Trod enc Try.prog w base spare held 26 v d p) :
    ∃ m : Mk, v = .agg #[.bool m.Start, .int .i64 m.By, .int .i64 m.No, .int .i64 m.K] ∧ m.ok := by
  obtain ⟨cs, rfl, _⟩ := okWide_struct Try.underlying26 hv
  obtain ⟨fuel, hf⟩ := h
  simp only [Value.cells] at hf
  obtain ⟨_, _, _, _, hl, _, _⟩ := DataW.trod_struct Try.underlying26 hf
  rw [cells_Mark] at hl
  obtain ⟨c0, c1, c2, c3, hcs⟩ := list4 hl
  rw [hcs] at hf
  obtain ⟨_, _, h0⟩ := field_one Try.underlying26 hf 0 0 _ rfl cells_bool c0 rfl
  obtain ⟨b, e0, _⟩ := DataW.trod_bool Try.underlying4 h0
  cases e0
  obtain ⟨n1, rfl, w1⟩ := field_int Try.underlying26 hf 1 1 rfl c1 rfl
  obtain ⟨n2, rfl, w2⟩ := field_int Try.underlying26 hf 2 2 rfl c2 rfl
  obtain ⟨n3, rfl, w3⟩ := field_int Try.underlying26 hf 3 3 rfl c3 rfl
  refine ⟨⟨b, n1, n2, n3⟩, ?_, w1, w2, w3⟩
  congr 1
  have := congrArg List.toArray hcs
  simpa using this
end
end Go.Proofs.Ytneoeokfffnonaa
