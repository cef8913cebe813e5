/- Right behind what it sees: the plain law of layer 1's Behind. No program in sight. -/
import Derived.Test.YtneoeokfffnonaaCharsP
namespace Go.Proofs.Ytneoeokfffnonaa

theorem vis_cons (seen by_ : Int) (c : Ch) (l : List Ch) : vis seen by_ (c :: l) = (if c.sees seen by_ then [c] else []) ++ vis seen by_ l := by
  unfold vis; by_cases h : c.sees seen by_ <;> simp [h]

theorem behindFrom_spec (seen by_ : Int) (l : List Ch) : ∀ (n : Nat) (i : Int), 1 ≤ n →
    (n ≤ (vis seen by_ l).length ∧ ∃ k, 1 ≤ k ∧ ∃ h : k - 1 < l.length, behindFrom seen by_ l n i = i + k ∧ (vis seen by_ (l.take k)).length = n ∧ l[k - 1].sees seen by_ = true) ∨
    ((vis seen by_ l).length < n ∧ behindFrom seen by_ l n i = -1) := by
  induction l with
  | nil => intro n i h; right; exact ⟨by simp [vis]; omega, rfl⟩
  | cons c l ih =>
    intro n i hn
    have hv := vis_cons seen by_ c l
    unfold behindFrom
    cases hs : c.sees seen by_
    · simp only [hs, Bool.false_eq_true, if_false, List.nil_append] at hv ⊢
      rcases ih n (i + 1) hn with ⟨h1, k, hk, hkl, he, ht, hl⟩ | ⟨h1, he⟩
      · left
        refine ⟨by rw [hv]; exact h1, k + 1, by omega, by simp; omega, by rw [he]; omega, ?_, ?_⟩
        · rw [List.take_succ_cons, vis_cons, hs]; simpa using ht
        · have : k + 1 - 1 = (k - 1) + 1 := by omega
          simp only [this, List.getElem_cons_succ]; exact hl
      · right; exact ⟨by rw [hv]; exact h1, he⟩
    · simp only [hs, if_true, List.cons_append, List.nil_append] at hv ⊢
      by_cases h1 : n = 1
      · subst h1
        left
        refine ⟨by rw [hv]; simp, 1, by omega, by simp, by simp, by rw [List.take_succ_cons, List.take_zero, vis_cons, hs]; simp [vis], by simpa using hs⟩
      · rw [if_neg (by omega)]
        have e : ((n : Int) - 1) = ((n - 1 : Nat) : Int) := by omega
        rw [e]
        rcases ih (n - 1) (i + 1) (by omega) with ⟨h2, k, hk, hkl, he, ht, hl⟩ | ⟨h2, he⟩
        · left
          refine ⟨by rw [hv]; simp; omega, k + 1, by omega, by simp; omega, by rw [he]; omega, ?_, ?_⟩
          · rw [List.take_succ_cons, vis_cons, hs]; simp only [if_true, List.cons_append, List.nil_append, List.length_cons, ht]; omega
          · have : k + 1 - 1 = (k - 1) + 1 := by omega
            simp only [this, List.getElem_cons_succ]; exact hl
        · right; exact ⟨by rw [hv]; simp; omega, he⟩

theorem behind_pos (seen by_ : Int) (l : List Ch) (n : Nat) (h1 : 1 ≤ n) (h : n ≤ (vis seen by_ l).length) :
    ∃ k, ∃ h : k < l.length, behind seen by_ l n = (k : Int) + 1 ∧ (vis seen by_ (l.take (k + 1))).length = n ∧ l[k].sees seen by_ = true := by
  rcases behindFrom_spec seen by_ l n 0 h1 with ⟨_, k, hk, hkl, he, ht, hl⟩ | ⟨h2, _⟩
  · exact ⟨k - 1, hkl, by unfold behind; rw [if_neg (by omega), he]; omega, by rw [show k - 1 + 1 = k by omega]; exact ht, hl⟩
  · omega

theorem behind_no (seen by_ : Int) (l : List Ch) (n : Int) (h : n < 0 ∨ ((vis seen by_ l).length : Int) < n) : behind seen by_ l n = -1 := by
  unfold behind
  rw [if_neg (by omega)]
  by_cases h0 : n < 1
  · exact behindFrom_neg _ _ _ _ _ h0
  · obtain ⟨m, rfl⟩ := Int.eq_ofNat_of_zero_le (show 0 ≤ n by omega)
    rcases behindFrom_spec seen by_ l m 0 (by omega) with ⟨h2, _⟩ | ⟨_, he⟩
    · omega
    · exact he
end Go.Proofs.Ytneoeokfffnonaa
