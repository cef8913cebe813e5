/- What is done, and a list without it. No program in sight. -/
import Derived.Test.YtneoeokfffnonaaCharsP
namespace Go.Proofs.Ytneoeokfffnonaa
open Go.RowKit
def doneB (least : Int) (c : Ch) : Bool := decide (0 < c.Out) && decide (c.Out ≤ least)
def clearOf (least : Int) (l : List Ch) : List Ch := l.filter fun c => !doneB least c

theorem clearOf_le (least : Int) (l : List Ch) : (clearOf least l).length ≤ l.length := List.length_filter_le _ _
theorem clearOf_clearOf (less more : Int) (l : List Ch) (h : less ≤ more) : clearOf more (clearOf less l) = clearOf more l := by
  unfold clearOf
  rw [List.filter_filter]
  congr 1; funext c
  simp only [doneB]
  by_cases h1 : 0 < c.Out <;> by_cases h2 : c.Out ≤ less <;> by_cases h3 : c.Out ≤ more <;> simp [h1, h2, h3] <;> omega
theorem clearOf_snoc (least : Int) (l : List Ch) (k : Nat) (h : k < l.length) : clearOf least (l.take (k + 1)) = clearOf least (l.take k) ++ (if doneB least l[k] then [] else [l[k]]) := by
  unfold clearOf
  rw [List.take_succ_eq_append_getElem h, List.filter_append]
  congr 1; cases hd : doneB least l[k] <;> simp [hd]
theorem clearOf_at (least : Int) (l : List Ch) (k : Nat) (h : k < l.length) (hd : doneB least l[k] = false) : ∃ h' : (clearOf least (l.take k)).length < (clearOf least l).length, (clearOf least l)[(clearOf least (l.take k)).length] = l[k] := by
  have e : clearOf least l = clearOf least (l.take k) ++ (l[k] :: clearOf least (l.drop (k + 1))) := by
    unfold clearOf
    conv => lhs; rw [← List.take_append_drop k l, List.drop_eq_getElem_cons h]
    rw [List.filter_append, List.filter_cons_of_pos (by simp [hd])]
  refine ⟨by rw [e]; simp, ?_⟩
  simp only [e, List.getElem_append_right (Nat.le_refl _), Nat.sub_self, List.getElem_cons_zero]

theorem done_sees (least seen by_ : Int) (c : Ch) (h : least ≤ seen) (hd : doneB least c = true) : c.sees seen by_ = false := by
  simp [doneB] at hd
  have : c.knowsOut seen by_ = true := by unfold Ch.knowsOut; simp; left; omega
  simp [Ch.sees, this]
theorem vis_clear (least seen by_ : Int) (l : List Ch) (h : least ≤ seen) : vis seen by_ (clearOf least l) = vis seen by_ l := by
  unfold vis clearOf
  rw [List.filter_filter]
  apply List.filter_congr
  intro c _
  cases hd : doneB least c
  · simp
  · simp [done_sees least seen by_ c h hd]
theorem clearOf_idem (least : Int) (l : List Ch) : clearOf least (clearOf least l) = clearOf least l := clearOf_clearOf least least l (Int.le_refl _)

end Go.Proofs.Ytneoeokfffnonaa
