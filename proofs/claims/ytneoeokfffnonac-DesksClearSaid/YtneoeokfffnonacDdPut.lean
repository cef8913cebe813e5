/- A deed that is stored whole into a block. -/
import Derived.Test.YtneoeokfffnonacFoldW
set_option linter.unusedVariables false
set_option linter.unusedSimpArgs false
namespace Go.Proofs.Ytneoeokfffnonac
open Go.RowKit

theorem DdAt.q0 {w : World} {b : Nat} {d : Dd} (h : DdAt w b d) (v : Int) : DdAt (w.setCell ⟨b, 0, none⟩ (.int .i64 v)) b { d with Kind := v } := by
  obtain ⟨lt, h0, h1, h2, h3, h4, h5, h6⟩ := h
  refine ⟨by simpa using lt, ?_, ?_, ?_, ?_, ?_, ?_, ?_⟩
  · exact World.cell?_setCell_same _ _ _ h0
  · exact (World.cell?_setCell_other _ _ _ _ (by simp)).trans h1
  · exact (World.cell?_setCell_other _ _ _ _ (by simp)).trans h2
  · exact (World.cell?_setCell_other _ _ _ _ (by simp)).trans h3
  · exact (World.cell?_setCell_other _ _ _ _ (by simp)).trans h4
  · exact (World.cell?_setCell_other _ _ _ _ (by simp)).trans h5
  · exact (World.cell?_setCell_other _ _ _ _ (by simp)).trans h6
theorem DdAt.q1 {w : World} {b : Nat} {d : Dd} (h : DdAt w b d) (v : Int) : DdAt (w.setCell ⟨b, 1, none⟩ (.int .i64 v)) b { d with By := v } := by
  obtain ⟨lt, h0, h1, h2, h3, h4, h5, h6⟩ := h
  refine ⟨by simpa using lt, ?_, ?_, ?_, ?_, ?_, ?_, ?_⟩
  · exact (World.cell?_setCell_other _ _ _ _ (by simp)).trans h0
  · exact World.cell?_setCell_same _ _ _ h1
  · exact (World.cell?_setCell_other _ _ _ _ (by simp)).trans h2
  · exact (World.cell?_setCell_other _ _ _ _ (by simp)).trans h3
  · exact (World.cell?_setCell_other _ _ _ _ (by simp)).trans h4
  · exact (World.cell?_setCell_other _ _ _ _ (by simp)).trans h5
  · exact (World.cell?_setCell_other _ _ _ _ (by simp)).trans h6
theorem DdAt.q2 {w : World} {b : Nat} {d : Dd} (h : DdAt w b d) (v : Int) : DdAt (w.setCell ⟨b, 2, none⟩ (.int .i64 v)) b { d with No := v } := by
  obtain ⟨lt, h0, h1, h2, h3, h4, h5, h6⟩ := h
  refine ⟨by simpa using lt, ?_, ?_, ?_, ?_, ?_, ?_, ?_⟩
  · exact (World.cell?_setCell_other _ _ _ _ (by simp)).trans h0
  · exact (World.cell?_setCell_other _ _ _ _ (by simp)).trans h1
  · exact World.cell?_setCell_same _ _ _ h2
  · exact (World.cell?_setCell_other _ _ _ _ (by simp)).trans h3
  · exact (World.cell?_setCell_other _ _ _ _ (by simp)).trans h4
  · exact (World.cell?_setCell_other _ _ _ _ (by simp)).trans h5
  · exact (World.cell?_setCell_other _ _ _ _ (by simp)).trans h6
theorem DdAt.q3 {w : World} {b : Nat} {d : Dd} (h : DdAt w b d) (v : Int) : DdAt (w.setCell ⟨b, 3, none⟩ (.int .i64 v)) b { d with Seen := v } := by
  obtain ⟨lt, h0, h1, h2, h3, h4, h5, h6⟩ := h
  refine ⟨by simpa using lt, ?_, ?_, ?_, ?_, ?_, ?_, ?_⟩
  · exact (World.cell?_setCell_other _ _ _ _ (by simp)).trans h0
  · exact (World.cell?_setCell_other _ _ _ _ (by simp)).trans h1
  · exact (World.cell?_setCell_other _ _ _ _ (by simp)).trans h2
  · exact World.cell?_setCell_same _ _ _ h3
  · exact (World.cell?_setCell_other _ _ _ _ (by simp)).trans h4
  · exact (World.cell?_setCell_other _ _ _ _ (by simp)).trans h5
  · exact (World.cell?_setCell_other _ _ _ _ (by simp)).trans h6
theorem DdAt.q4 {w : World} {b : Nat} {d : Dd} (h : DdAt w b d) (v : Int) : DdAt (w.setCell ⟨b, 4, none⟩ (.int .i64 v)) b { d with At := v } := by
  obtain ⟨lt, h0, h1, h2, h3, h4, h5, h6⟩ := h
  refine ⟨by simpa using lt, ?_, ?_, ?_, ?_, ?_, ?_, ?_⟩
  · exact (World.cell?_setCell_other _ _ _ _ (by simp)).trans h0
  · exact (World.cell?_setCell_other _ _ _ _ (by simp)).trans h1
  · exact (World.cell?_setCell_other _ _ _ _ (by simp)).trans h2
  · exact (World.cell?_setCell_other _ _ _ _ (by simp)).trans h3
  · exact World.cell?_setCell_same _ _ _ h4
  · exact (World.cell?_setCell_other _ _ _ _ (by simp)).trans h5
  · exact (World.cell?_setCell_other _ _ _ _ (by simp)).trans h6
theorem DdAt.q5 {w : World} {b : Nat} {d : Dd} (h : DdAt w b d) (v : Int) : DdAt (w.setCell ⟨b, 5, none⟩ (.int .i64 v)) b { d with Many := v } := by
  obtain ⟨lt, h0, h1, h2, h3, h4, h5, h6⟩ := h
  refine ⟨by simpa using lt, ?_, ?_, ?_, ?_, ?_, ?_, ?_⟩
  · exact (World.cell?_setCell_other _ _ _ _ (by simp)).trans h0
  · exact (World.cell?_setCell_other _ _ _ _ (by simp)).trans h1
  · exact (World.cell?_setCell_other _ _ _ _ (by simp)).trans h2
  · exact (World.cell?_setCell_other _ _ _ _ (by simp)).trans h3
  · exact (World.cell?_setCell_other _ _ _ _ (by simp)).trans h4
  · exact World.cell?_setCell_same _ _ _ h5
  · exact (World.cell?_setCell_other _ _ _ _ (by simp)).trans h6
theorem DdAt.q6 {w : World} {b : Nat} {d : Dd} (h : DdAt w b d) (v : ByteArray) : DdAt (w.setCell ⟨b, 6, none⟩ (.string v)) b { d with Text := v } := by
  obtain ⟨lt, h0, h1, h2, h3, h4, h5, h6⟩ := h
  refine ⟨by simpa using lt, ?_, ?_, ?_, ?_, ?_, ?_, ?_⟩
  · exact (World.cell?_setCell_other _ _ _ _ (by simp)).trans h0
  · exact (World.cell?_setCell_other _ _ _ _ (by simp)).trans h1
  · exact (World.cell?_setCell_other _ _ _ _ (by simp)).trans h2
  · exact (World.cell?_setCell_other _ _ _ _ (by simp)).trans h3
  · exact (World.cell?_setCell_other _ _ _ _ (by simp)).trans h4
  · exact (World.cell?_setCell_other _ _ _ _ (by simp)).trans h5
  · exact World.cell?_setCell_same _ _ _ h6
/-- The world behind the stores. -/
def putDd (w : World) (b : Nat) (e : Dd) : World := ((((((w.setCell ⟨b, 0, none⟩ (.int .i64 e.Kind)).setCell ⟨b, 1, none⟩ (.int .i64 e.By)).setCell ⟨b, 2, none⟩ (.int .i64 e.No)).setCell ⟨b, 3, none⟩ (.int .i64 e.Seen)).setCell ⟨b, 4, none⟩ (.int .i64 e.At)).setCell ⟨b, 5, none⟩ (.int .i64 e.Many)).setCell ⟨b, 6, none⟩ (.string e.Text)
theorem DdAt.putAll {w : World} {b : Nat} {d : Dd} (h : DdAt w b d) (e : Dd) : DdAt (putDd w b e) b e := (((((((h.q0 e.Kind).q1 e.By).q2 e.No).q3 e.Seen).q4 e.At).q5 e.Many).q6 e.Text)
theorem putDd_below {B : Nat} {w0 w : World} {b : Nat} (e : Dd) (h : Below B w0 w) (hb : B ≤ b) : Below B w0 (putDd w b e) := (((((((h.setCell (p := ⟨b, 0, none⟩) hb _).setCell (p := ⟨b, 1, none⟩) hb _).setCell (p := ⟨b, 2, none⟩) hb _).setCell (p := ⟨b, 3, none⟩) hb _).setCell (p := ⟨b, 4, none⟩) hb _).setCell (p := ⟨b, 5, none⟩) hb _).setCell (p := ⟨b, 6, none⟩) hb _)
end Go.Proofs.Ytneoeokfffnonac
