/- Slices of deeds that the call owns. -/
import Derived.Test.YtneoeokfffnonacAllW
set_option linter.unusedVariables false
set_option linter.unusedSimpArgs false
namespace Go.Proofs.Ytneoeokfffnonac
open Go.RowKit

def flatD (l : List Dd) : List Value := l.flatMap Dd.cells
@[simp] theorem Dd.cells_length (c : Dd) : c.cells.length = 7 := rfl
theorem flatD_length (l : List Dd) : (flatD l).length = l.length * 7 := by
  induction l with
  | nil => rfl
  | cons c l ih => simp only [flatD, List.flatMap_cons, List.length_append, Dd.cells_length, List.length_cons] at *; omega
theorem flatD_append (l m : List Dd) : flatD (l ++ m) = flatD l ++ flatD m := by simp [flatD]
theorem flatD_cons (c : Dd) (l : List Dd) : flatD (c :: l) = c.cells ++ flatD l := rfl
theorem flatD_get (l : List Dd) : ∀ (i : Nat) (h : i < l.length) (j : Nat), j < 7 → (flatD l)[i * 7 + j]? = l[i].cells[j]? := by
  induction l with
  | nil => intro i h; simp at h
  | cons c l ih =>
    intro i h j hj
    rw [flatD_cons]
    cases i with
    | zero => rw [List.getElem?_append_left (by simp; omega)]; simp
    | succ i =>
      rw [List.getElem?_append_right (by simp; omega)]
      have := ih i (by simpa using h) j hj
      simp only [Dd.cells_length, List.getElem_cons_succ]
      rw [← this]; congr 1; omega
theorem Dd.cells_one (c : Dd) : ∀ u ∈ c.cells, u.oneCell' = true := by
  intro u hu; simp [Dd.cells] at hu; rcases hu with h | h | h | h | h | h | h <;> subst h <;> rfl
theorem flatD_one (l : List Dd) : ∀ u ∈ flatD l, u.oneCell' = true := by
  intro u hu; simp only [flatD, List.mem_flatMap] at hu; obtain ⟨c, _, h⟩ := hu; exact c.cells_one u h
theorem OwnRow.slDd {w : World} {base : Nat} {e : TypeId} {a : Option Addr} {cap : Nat} {l : List Dd} (h : OwnRow w base e 7 a l.length cap (flatD l)) : SlDd w a cap l := by
  refine ⟨h.le, h.max, fun i hi => ?_⟩
  obtain ⟨g, off, ha, _, _, hc⟩ := h.cell (by rw [flatD_length]; omega)
  refine ⟨g, off, ha, ?_⟩
  have k : ∀ j u, l[i].cells[j]? = some u → j < 7 → w.cell? ⟨g, off + i * 7 + j, none⟩ = some u := fun j u hu hj => by
    rw [Nat.add_assoc]; exact hc _ _ ((flatD_get l i hi j hj).trans hu)
  exact ⟨k 0 _ rfl (by omega), k 1 _ rfl (by omega), k 2 _ rfl (by omega), k 3 _ rfl (by omega), k 4 _ rfl (by omega), k 5 _ rfl (by omega), k 6 _ rfl (by omega)⟩
end Go.Proofs.Ytneoeokfffnonac
