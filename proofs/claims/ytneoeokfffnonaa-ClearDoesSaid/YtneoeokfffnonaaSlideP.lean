/- A mark keeps its place: the plain law of layer 5's Slide. -/
import Derived.Test.YtneoeokfffnonaaLawViews
namespace Go.Proofs.Ytneoeokfffnonaa
open Go.RowKit

/-- Does no byte stand twice? -/
def apartB (l : List Ch) : Prop := ∀ i (h : i < l.length), find l l[i] = i

theorem slideN_le (least : Int) (l : List Ch) : ∀ n, slideN least l n ≤ n := by
  intro n
  induction n with
  | zero => exact Nat.le_refl _
  | succ n ih =>
    unfold slideN
    split
    · split <;> omega
    · omega

/-- From where it comes to, up to where it stood, all is done; and it stands at the beginning, or behind a byte that is not done. -/
theorem slideN_spec (least : Int) (l : List Ch) : ∀ n, n ≤ l.length →
    clearOf least (l.take n) = clearOf least (l.take (slideN least l n)) ∧ (slideN least l n = 0 ∨ ∃ k, ∃ h : k < l.length, slideN least l n = k + 1 ∧ doneB least l[k] = false) := by
  intro n
  induction n with
  | zero => intro _; exact ⟨rfl, .inl rfl⟩
  | succ n ih =>
    intro hn
    have hlt : n < l.length := by omega
    unfold slideN
    rw [List.getElem?_eq_getElem hlt]
    simp only
    cases hd : doneB least l[n]
    · simp only [Bool.false_eq_true, if_false]
      exact ⟨by trivial, .inr ⟨n, hlt, rfl, hd⟩⟩
    · simp only [if_true]
      obtain ⟨h1, h2⟩ := ih (by omega)
      refine ⟨?_, h2⟩
      rw [clearOf_snoc least l n hlt, hd, ← h1]; simp

theorem findFrom_spec (c : Ch) (l : List Ch) : ∀ i : Int, (findFrom c l i = -1 ∧ ∀ x ∈ l, x.same c = false) ∨ ∃ k, ∃ h : k < l.length, findFrom c l i = i + k ∧ l[k].same c = true ∧ ∀ j (hj : j < k), (l[j]'(by omega)).same c = false := by
  induction l with
  | nil => intro i; left; exact ⟨rfl, by simp⟩
  | cons x l ih =>
    intro i
    unfold findFrom
    cases hp : x.same c
    · rcases ih (i + 1) with ⟨h1, h2⟩ | ⟨k, hk, h1, h2, h3⟩
      · left; exact ⟨by simp [h1], by intro y hy; rcases List.mem_cons.1 hy with rfl | hy; exact hp; exact h2 y hy⟩
      · right
        refine ⟨k + 1, by simp; omega, by simp [h1]; omega, by simpa using h2, fun j hj => ?_⟩
        cases j with
        | zero => simpa using hp
        | succ j => simpa using h3 j (by omega)
    · right; exact ⟨0, by simp, by simp, by simpa using hp, fun j hj => by omega⟩

theorem same_self (c : Ch) : c.same c = true := by simp [Ch.same]

/-- In a list that is apart, two places of one byte are one. -/
theorem apart_inj {l : List Ch} (h : apartB l) {i j : Nat} (hi : i < l.length) (hj : j < l.length) (hs : l[i].same l[j] = true) : i = j := by
  have key : ∀ (i j : Nat) (hi : i < l.length) (hj : j < l.length), l[i].same l[j] = true → ¬ i < j := by
    intro i j hi hj hs hlt
    have h1 := h j hj
    rcases findFrom_spec l[j] l 0 with ⟨h2, h3⟩ | ⟨k, hk, h2, _, h4⟩
    · have := h3 _ (List.getElem_mem hi); rw [hs] at this; cases this
    · unfold find at h1; rw [h2] at h1
      have hkj : k = j := by omega
      subst hkj
      have := h4 i hlt; rw [hs] at this; cases this
  have hs' : l[j].same l[i] = true := by
    simp [Ch.same] at hs ⊢; exact ⟨⟨hs.1.1.symm, hs.1.2.symm⟩, hs.2.symm⟩
  have := key i j hi hj hs
  have := key j i hj hi hs'
  omega

/-- The mark behind a byte. -/
def markOf (c : Ch) : Mk := ⟨false, c.By, c.No, c.K⟩
theorem markOf_is (c x : Ch) : (markOf c).is x = c.same x := by simp [markOf, Mk.is, Ch.same, Bool.and_assoc]
theorem same_comm (a b : Ch) : a.same b = b.same a := by
  have : ∀ x y : Ch, x.same y = true → y.same x = true := fun x y h => by
    simp [Ch.same] at h ⊢; exact ⟨⟨h.1.1.symm, h.1.2.symm⟩, h.2.symm⟩
  cases h1 : a.same b <;> cases h2 : b.same a <;> first | rfl | (have := this _ _ h1; rw [h2] at this; cases this) | (have := this _ _ h2; rw [h1] at this; cases this)

theorem apart_pairwise {l : List Ch} (h : apartB l) : l.Pairwise (fun a b => a.same b = false) := by
  rw [List.pairwise_iff_getElem]
  intro i j hi hj hij
  cases hs : l[i].same l[j]
  · rfl
  · have := apart_inj h hi hj hs; omega

theorem pairwise_inj {l : List Ch} (h : l.Pairwise (fun a b => a.same b = false)) {i j : Nat} (hi : i < l.length) (hj : j < l.length) (hs : l[i].same l[j] = true) : i = j := by
  rw [List.pairwise_iff_getElem] at h
  rcases Nat.lt_trichotomy i j with hlt | rfl | hgt
  · have := h i j hi hj hlt; rw [hs] at this; cases this
  · rfl
  · have := h j i hj hi hgt; rw [same_comm, hs] at this; cases this

/-- The mark behind a byte of a list that is apart stands right behind it. -/
theorem placeOf_mark {l : List Ch} (h : l.Pairwise (fun a b => a.same b = false)) (k : Nat) (hk : k < l.length) : placeOf l (markOf l[k]) = k + 1 := by
  have e : idxFrom (markOf l[k]).is l 0 = k := by
    rcases idx_spec (markOf l[k]).is l 0 with ⟨_, h2⟩ | ⟨j, hj, h1, h2, _⟩
    · have hm : l[k] ∈ l.filter (fun c => !(markOf l[k]).is c) := by rw [h2]; exact List.getElem_mem hk
      have := (List.mem_filter.1 hm).2
      rw [markOf_is, same_self] at this; cases this
    · rw [markOf_is] at h2
      have := pairwise_inj h hk hj h2
      rw [h1, this]; omega
  unfold placeOf
  rw [if_neg (by simp [markOf]), e, if_neg (by omega)]

/-- SLIDE KEEPS ITS PLACE: the mark that it comes to stands in what is left right behind what is left of what was ahead. -/
theorem slide_place (least : Int) (l : List Ch) (h : apartB l) (n : Nat) (hn : n ≤ l.length) :
    ∃ s, markAt l (slideN least l n : Int) = some s ∧ placeOf (clearOf least l) s = ((clearOf least (l.take n)).length : Int) := by
  obtain ⟨h1, h2⟩ := slideN_spec least l n hn
  have h3 := slideN_le least l n
  rw [h1]
  rcases h2 with h2 | ⟨k, hk, h2, hd⟩
  · rw [h2]
    exact ⟨⟨true, 0, 0, 0⟩, by unfold markAt; rw [if_neg (by omega), if_pos (by simp)], by simp [placeOf, clearOf]⟩
  · rw [h2]
    refine ⟨markOf l[k], ?_, ?_⟩
    · unfold markAt
      rw [if_neg (by omega), if_neg (by omega), show (((k + 1 : Nat) : Int) - 1).toNat = k by omega, List.getElem?_eq_getElem hk]; rfl
    · obtain ⟨h5, h6⟩ := clearOf_at least l k hk hd
      have hp : (clearOf least l).Pairwise (fun a b => a.same b = false) := (apart_pairwise h).filter _
      have := placeOf_mark hp _ h5
      rw [h6] at this
      rw [this, clearOf_snoc least l k hk, hd]; simp

/-- What one sees of what is left: as much as of all. -/
theorem slide_count (least seen by_ : Int) (l : List Ch) (n : Nat) (hle : least ≤ seen) :
    vis seen by_ ((clearOf least l).take (clearOf least (l.take n)).length) = vis seen by_ (l.take n) := by
  have e : clearOf least l = clearOf least (l.take n) ++ clearOf least (l.drop n) := by
    unfold clearOf; rw [← List.filter_append, List.take_append_drop]
  rw [e, List.take_left, vis_clear least seen by_ _ hle]
end Go.Proofs.Ytneoeokfffnonaa
