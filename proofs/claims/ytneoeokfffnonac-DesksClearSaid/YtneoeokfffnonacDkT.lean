/- The texts of desks, asked of the log and of a writer. -/
import Derived.Test.YtneoeokfffnonacDkM
set_option linter.unusedVariables false
set_option linter.unusedSimpArgs false
namespace Go.Proofs.Ytneoeokfffnonac
open Go.RowKit
theorem view_size {lm : LogM} (h : lm.Ok) : lm.view.length ≤ 200 := by
  show (viewN 1073741823 (-1) (allF lm.L).1).length ≤ 200
  rw [viewN_length]
  exact Nat.le_trans (List.length_filter_le _ _) h.chars_len
/-- The text of the log, asked of desks. -/
theorem LogT {w w1 : World} {base g : Nat} {d : DkM} {S : ByteArray} (h : DW w base g d w1) (ho : d.Ok) (hS : S = strOfNums d.lm.view) : ∃ gl FL, w1.cell? ⟨g, 0, none⟩ = some (.pointer (some ⟨gl, 0, none⟩)) ∧ g < w1.heap.size ∧ LogAt w1 base FL gl d.lm ∧
    ∀ W, Below w1.heap.size w1 W → Calls Try.prog 46 #[.pointer (some ⟨gl, 0, none⟩)] W fun e w' => e = .returned (.string S) ∧ Below W.heap.size W w' := by
  obtain ⟨gl, FL, c0, hlog, hglt⟩ := h.log
  refine ⟨gl, FL, c0, hglt, hlog, fun W hl => ?_⟩
  rw [hS]; exact LText_c (hlog.later hl) ho.lm
/-- The text of a writer. -/
theorem WrT {w w1 : World} {base g : Nat} {d : DkM} {S : ByteArray} {x : Int} {m : WM} (h : DW w base g d w1) (ho : d.Ok) (hw : d.writer x = some m) (hS : strOfNums m.view = S) : ∃ gx, (∃ F gw, DkAt w1 base F g gw d ∧ d.ptr gw x = (.pointer (some ⟨gx, 0, none⟩))) ∧
    ∀ W, Below w1.heap.size w1 W → Calls Try.prog 19 #[.pointer (some ⟨gx, 0, none⟩)] W fun e w' => e = .returned (.string S) ∧ Below W.heap.size W w' := by
  obtain ⟨gx, hp, FW, hwr⟩ := h.wr ho hw
  obtain ⟨_, _, _, t, hin⟩ := ho.of_writer hw
  have hcl := hin.chars_len ho.lm
  refine ⟨gx, hp, fun W hl => ?_⟩
  rw [← hS]; exact WText_c (hwr.later hl) (by show m.chars.length ≤ 1000; omega)

end Go.Proofs.Ytneoeokfffnonac
