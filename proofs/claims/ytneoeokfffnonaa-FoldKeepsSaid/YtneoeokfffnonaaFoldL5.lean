/- FoldKeeps, in plain Lean: where the new bytes stand, and what may change of the old ones. No program in sight. -/
import Derived.Test.YtneoeokfffnonaaFoldL3
import Derived.Test.YtneoeokfffnonaaApP
namespace Go.Proofs.Ytneoeokfffnonaa
open Go.RowKit

def keepSame (y old : Ch) : Bool := y.C == old.C && y.same old && y.In == old.In
def keepGone (d : Dd) (y old : Ch) : Bool := (y.Gone == old.Gone && y.Out == old.Out) || (d.Kind == 2 && took y.Gone d.By && (y.Out == old.Out || old.Out == 0 || decide (y.Out < old.Out)))
theorem keep_refl (d : Dd) (c : Ch) : keepSame c c = true ∧ keepGone d c c = true := by simp [keepSame, keepGone, Ch.same]

/-- Behind a deed the old bytes stand as they were, the new ones behind p of them. -/
structure Kept (l x : List Ch) (d : Dd) (number : Int) (p : Nat) : Prop where
  len : x.length = l.length + d.Text.size
  le : p ≤ l.length
  head : ∀ i (h : i < l.length) (hx : i < x.length), i < p → keepSame x[i] l[i] = true ∧ keepGone d x[i] l[i] = true
  tail : ∀ i (h : i < l.length) (hx : i + d.Text.size < x.length), p ≤ i → keepSame x[i + d.Text.size] l[i] = true ∧ keepGone d x[i + d.Text.size] l[i] = true
  new : (x.drop p).take d.Text.size = newOf d number

theorem kept (l : List Ch) (d : Dd) (number : Int) (h : (doF l d number).2 = 0) : ∃ p, Kept l (doF l d number).1 d number p := by
  obtain ⟨hm, hn⟩ := doF_zero h
  have hf := (mayDo_zero hm).1
  obtain ⟨hw, _, _, _, _, _, _, hq⟩ := deedFault_zero hf
  rcases doF_cases l d number with ⟨h1, _⟩ | ⟨_, h1, _⟩ | ⟨_, _, hk, e⟩ | ⟨_, _, hk, e⟩
  · exact absurd hm h1
  · omega
  · have hp := putAt_le l d
    have hl := newOf_length d number
    rw [e]
    have ht : (l.take (putAt l d)).length = putAt l d := by rw [List.length_take]; omega
    refine ⟨putAt l d, ⟨?_, hp, fun i hi hx hip => ?_, fun i hi hx hip => ?_, ?_⟩⟩
    · simp only [List.length_append, List.length_drop, ht, hl]; omega
    · have : (l.take (putAt l d) ++ newOf d number ++ l.drop (putAt l d))[i] = l[i] := by
        rw [List.getElem_append_left (by simp only [List.length_append, ht]; omega), List.getElem_append_left (by omega), List.getElem_take]
      simp only [this]
      exact keep_refl d _
    · have : (l.take (putAt l d) ++ newOf d number ++ l.drop (putAt l d))[i + d.Text.size] = l[i] := by
        rw [List.getElem_append_right (by simp only [List.length_append, ht, hl]; omega), List.getElem_drop]
        simp only [List.length_append, ht, hl]
        congr 1; omega
      simp only [this]
      exact keep_refl d _
    · show ((l.take (putAt l d) ++ newOf d number ++ l.drop (putAt l d)).drop (putAt l d)).take d.Text.size = _
      rw [List.append_assoc, List.drop_append_of_le_length (by omega), List.drop_of_length_le (by omega), List.nil_append, ← hl, List.take_left]
  · have hT : d.Text.size = 0 := by rcases hq with ⟨h1, _⟩ | ⟨_, _, _, h4⟩ <;> omega
    have hlen := takeGo_length d.Seen d.By d.At (d.At + d.Many) number l 0
    rw [e]
    refine ⟨l.length, ⟨by simp only [hlen, hT]; omega, Nat.le_refl _, fun i hi hx _ => ?_, fun i hi _ hp => absurd hp (by omega), ?_⟩⟩
    · have hg := takeGo_get d.Seen d.By d.At (d.At + d.Many) number l 0 i
      simp only at hx
      rw [List.getElem?_eq_getElem hx, List.getElem?_eq_getElem hi] at hg
      simp only [Option.map_some, Option.some.injEq] at hg
      simp only
      rw [hg]
      split
      · rename_i hs
        have ht : took (mark d.By number l[i]).Gone d.By = true := took_add_self _ _ hw (sees_took hs.1)
        have ho := mark_Out d.By number l[i]
        refine ⟨by simp [keepSame, mark, Ch.same], ?_⟩
        unfold keepGone
        rw [ht, ho]
        unfold out1
        have hk2 : (d.Kind == 2) = true := by simp [hk]
        rw [hk2]
        by_cases hc : number ≠ 1073741824 ∧ (l[i].Out = 0 ∨ number < l[i].Out)
        · rw [if_pos hc]
          rcases hc.2 with h0 | h0
          · simp [h0]
          · simp [h0]
        · rw [if_neg hc]; simp
      · exact keep_refl d _
    · have : newOf d number = [] := List.eq_nil_of_length_eq_zero (by rw [newOf_length, hT])
      rw [hT, this]; simp
end Go.Proofs.Ytneoeokfffnonaa
