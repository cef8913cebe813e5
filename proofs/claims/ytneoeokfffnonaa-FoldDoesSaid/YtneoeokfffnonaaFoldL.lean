/- The plain laws of layer 3: what a deed does to what writers see. No program in sight. -/
import Derived.Test.YtneoeokfffnonaaFoldP
namespace Go.Proofs.Ytneoeokfffnonaa
open Go.RowKit

theorem dec_congr {p q : Prop} [Decidable p] [Decidable q] (h : p ↔ q) : decide p = decide q := by simp [h]

theorem took_add_self (g b : Int) (hb : isWriter b = true) (h : took g b = false) : took (g + bitOf b) b = true := by
  rcases isWriter_cases hb with rfl | rfl | rfl | rfl
  · rw [took_0] at *; simp [bitOf] at *; omega
  · rw [took_1] at *; simp [bitOf] at *; omega
  · rw [took_2] at *; simp [bitOf] at *; omega
  · rw [took_3] at *; simp [bitOf] at *; omega

theorem took_add_other (g b x : Int) (hb : isWriter b = true) (h : took g b = false) (hx : x ≠ b) : took (g + bitOf b) x = took g x := by
  cases hw : isWriter x
  · rw [took_no _ _ hw, took_no _ _ hw]
  · rcases isWriter_cases hb with rfl | rfl | rfl | rfl <;> rcases isWriter_cases hw with rfl | rfl | rfl | rfl <;>
      first
      | exact absurd rfl hx
      | (simp only [took_0, took_1, took_2, took_3, decide_eq_false_iff_not] at *; simp only [bitOf]; apply dec_congr; omega)

theorem sees_took {c : Ch} {seen by_ : Int} (h : c.sees seen by_ = true) : took c.Gone by_ = false := by
  unfold Ch.sees at h; rw [knowsOut_took] at h
  cases ht : took c.Gone by_
  · rfl
  · simp [ht] at h

theorem mark_own (seen by_ number : Int) (c : Ch) (hb : isWriter by_ = true) (h : c.sees seen by_ = true) (seen' : Int) : (mark by_ number c).sees seen' by_ = false := by
  unfold Ch.sees; rw [knowsOut_took]
  have : took (mark by_ number c).Gone by_ = true := took_add_self _ _ hb (sees_took h)
  simp [this]

theorem mark_C (by_ number : Int) (c : Ch) : (mark by_ number c).C = c.C := rfl

/-- One who has seen the log less far than the number sees a byte as before. -/
theorem mark_early (seen by_ number : Int) (c : Ch) (hb : isWriter by_ = true) (h : c.sees seen by_ = true) (seen' by' : Int) (hne : by' ≠ by_) (hlt : seen' < number) : (mark by_ number c).sees seen' by' = c.sees seen' by' := by
  unfold Ch.sees; rw [knowsOut_took, knowsOut_took]
  have e : took (mark by_ number c).Gone by' = took c.Gone by' := took_add_other _ _ _ hb (sees_took h) hne
  rw [e]
  have e2 : (decide (0 < (mark by_ number c).Out) && decide ((mark by_ number c).Out ≤ seen')) = (decide (0 < c.Out) && decide (c.Out ≤ seen')) := by
    unfold mark
    simp only
    split
    · rename_i hc
      rw [Bool.eq_iff_iff]; simp; omega
    · rfl
  rw [e2]; rfl

/-- What one sees behind it one saw before. -/
theorem mark_late (seen by_ number : Int) (c : Ch) (hb : isWriter by_ = true) (h : c.sees seen by_ = true) (seen' by' : Int) (hne : by' ≠ by_) (h1 : 1 ≤ number) (hle : number ≤ seen') (hs : (mark by_ number c).sees seen' by' = true) : c.sees seen' by' = true := by
  unfold Ch.sees at hs ⊢; rw [knowsOut_took] at hs ⊢
  have e : took (mark by_ number c).Gone by' = took c.Gone by' := took_add_other _ _ _ hb (sees_took h) hne
  rw [e] at hs
  have e1 : (mark by_ number c).knowsIn seen' by' = c.knowsIn seen' by' := rfl
  rw [e1] at hs
  simp only [Bool.and_eq_true, Bool.not_eq_true', Bool.or_eq_false_iff, Bool.and_eq_false_iff] at hs ⊢
  refine ⟨hs.1, hs.2.1, ?_⟩
  have := hs.2.2
  unfold mark at this
  simp only at this
  split at this
  · simp at this; omega
  · exact this

/-- One who has seen it as far as the number sees no byte that was taken away then. -/
theorem mark_gone (by_ number : Int) (c : Ch) (seen' by' : Int) (h1 : 1 ≤ number) (hno : number ≠ 1073741824) (hle : number ≤ seen') : c.Out < 0 ∨ (mark by_ number c).sees seen' by' = false := by
  by_cases h0 : c.Out < 0
  · exact .inl h0
  · right
    unfold Ch.sees; rw [knowsOut_took]
    have e2 : (decide (0 < (mark by_ number c).Out) && decide ((mark by_ number c).Out ≤ seen')) = true := by
      unfold mark
      simp only
      split
      · simp; omega
      · simp; omega
    rw [e2]; simp

theorem take_sub (l : List Int) (n m : Int) (c : Int) (h : n ≤ m) : (c :: l).take (n - m).toNat = [] := by
  rw [show (n - m).toNat = 0 by omega]; rfl

/-- Its writer sees all but those. -/
theorem takeGo_own (seen by_ lo hi number : Int) (hb : isWriter by_ = true) (hlh : lo ≤ hi) (l : List Ch) : ∀ k : Int,
    viewN seen by_ (takeGo seen by_ lo hi number l k) = (viewN seen by_ l).take (lo - k).toNat ++ (viewN seen by_ l).drop (hi - k).toNat := by
  induction l with
  | nil => intro k; simp [takeGo, viewN, vis]
  | cons c l ih =>
    intro k
    unfold takeGo
    have hv : viewN seen by_ (c :: l) = (if c.sees seen by_ then [c.C] else []) ++ viewN seen by_ l := by
      unfold viewN; rw [vis_cons]; split <;> simp
    cases hs : c.sees seen by_
    · simp only [Bool.false_eq_true, if_false]
      have hv2 : viewN seen by_ (c :: takeGo seen by_ lo hi number l k) = viewN seen by_ (takeGo seen by_ lo hi number l k) := by
        unfold viewN; rw [vis_cons, hs]; simp
      rw [hv2, ih, hv, hs]; simp
    · simp only [if_true]
      rw [hv, hs]
      simp only [if_true, List.cons_append, List.nil_append]
      by_cases hin : lo ≤ k ∧ k < hi
      · rw [if_pos hin]
        have hm := mark_own seen by_ number c hb hs seen
        have hv2 : viewN seen by_ (mark by_ number c :: takeGo seen by_ lo hi number l (k + 1)) = viewN seen by_ (takeGo seen by_ lo hi number l (k + 1)) := by
          unfold viewN; rw [vis_cons, hm]; simp
        rw [hv2, ih]
        rw [show (lo - k).toNat = 0 by omega, show (lo - (k + 1)).toNat = 0 by omega, show (hi - k).toNat = (hi - (k + 1)).toNat + 1 by omega]
        simp
      · rw [if_neg hin]
        have hv2 : viewN seen by_ (c :: takeGo seen by_ lo hi number l (k + 1)) = c.C :: viewN seen by_ (takeGo seen by_ lo hi number l (k + 1)) := by
          unfold viewN; rw [vis_cons, hs]; simp
        rw [hv2, ih]
        by_cases h1 : k < lo
        · rw [show (lo - k).toNat = (lo - (k + 1)).toNat + 1 by omega, show (hi - k).toNat = (hi - (k + 1)).toNat + 1 by omega]
          simp
        · rw [show (lo - k).toNat = 0 by omega, show (lo - (k + 1)).toNat = 0 by omega, show (hi - k).toNat = 0 by omega, show (hi - (k + 1)).toNat = 0 by omega]
          simp

theorem vis_append (seen by_ : Int) (a b : List Ch) : vis seen by_ (a ++ b) = vis seen by_ a ++ vis seen by_ b := by simp [vis]
theorem viewN_append (seen by_ : Int) (a b : List Ch) : viewN seen by_ (a ++ b) = viewN seen by_ a ++ viewN seen by_ b := by simp [viewN, vis_append]

theorem viewN_all (seen by_ : Int) (l : List Ch) (h : ∀ c ∈ l, c.sees seen by_ = true) : viewN seen by_ l = l.map Ch.C := by
  unfold viewN vis; rw [List.filter_eq_self.2 h]
theorem viewN_none (seen by_ : Int) (l : List Ch) (h : ∀ c ∈ l, c.sees seen by_ = false) : viewN seen by_ l = [] := by
  unfold viewN vis; rw [List.filter_eq_nil_iff.2 (fun c hc => by simp [h c hc])]; rfl

theorem newOf_C (d : Dd) (number : Int) : (newOf d number).map Ch.C = bytesOf d.Text := by
  unfold newOf
  apply List.ext_getElem (by simp)
  intro i h1 h2; simp

theorem newOf_mem {d : Dd} {number : Int} {c : Ch} (h : c ∈ newOf d number) : c.By = d.By ∧ c.No = d.No ∧ c.In = number ∧ c.Out = 0 ∧ c.Gone = 0 ∧ 0 ≤ c.K ∧ c.K < d.Text.size := by
  unfold newOf at h
  obtain ⟨i, hi, rfl⟩ := List.mem_mapIdx.1 h
  rw [bytesOf_length] at hi
  exact ⟨rfl, rfl, rfl, rfl, rfl, by simp, by simp; omega⟩

theorem took_zero (x : Int) : took 0 x = false := by
  cases hw : isWriter x
  · exact took_no _ _ hw
  · rcases isWriter_cases hw with rfl | rfl | rfl | rfl
    · rw [took_0]; rfl
    · rw [took_1]; rfl
    · rw [took_2]; rfl
    · rw [took_3]; rfl

theorem fresh_sees {c : Ch} (h0 : c.Out = 0) (hg : c.Gone = 0) (seen by_ : Int) : c.sees seen by_ = c.knowsIn seen by_ := by
  unfold Ch.sees; rw [knowsOut_took, hg, took_zero, h0]; simp

theorem newOf_own (d : Dd) (number seen : Int) : viewN seen d.By (newOf d number) = bytesOf d.Text := by
  rw [viewN_all, newOf_C]
  intro c hc
  obtain ⟨h1, _, _, h4, h5, _⟩ := newOf_mem hc
  rw [fresh_sees h4 h5]; unfold Ch.knowsIn; simp [h1]

theorem newOf_late (d : Dd) (number seen by_ : Int) (h : number ≤ seen) : viewN seen by_ (newOf d number) = bytesOf d.Text := by
  rw [viewN_all, newOf_C]
  intro c hc
  obtain ⟨_, _, h3, h4, h5, _⟩ := newOf_mem hc
  rw [fresh_sees h4 h5]; unfold Ch.knowsIn; simp [h3, h]

theorem newOf_early (d : Dd) (number seen by_ : Int) (h : seen < number) (hne : by_ ≠ d.By) : viewN seen by_ (newOf d number) = [] := by
  apply viewN_none
  intro c hc
  obtain ⟨h1, _, h3, h4, h5, _⟩ := newOf_mem hc
  rw [fresh_sees h4 h5]; unfold Ch.knowsIn; simp [h3, h1, h]; exact fun e => hne e.symm

/-- The bytes that are skipped its writer does not see. -/
theorem putAt_view (l : List Ch) (d : Dd) (hs : d.Seen ≤ 120) (h0 : 0 ≤ d.At) (h : d.At ≤ ((vis d.Seen d.By l).length : Int)) :
    viewN d.Seen d.By (l.take (putAt l d)) = (viewN d.Seen d.By l).take d.At.toNat := by
  have key : ∀ k : Nat, (vis d.Seen d.By (l.take k)).length = d.At.toNat → viewN d.Seen d.By (l.take (skip d.By l k)) = (viewN d.Seen d.By l).take d.At.toNat := by
    intro k hk
    unfold skip
    have e : l.take (k + ((l.drop k).takeWhile (openOther d.By)).length) = l.take k ++ (l.drop k).takeWhile (openOther d.By) := by
      rw [List.take_add]
      congr 1
      exact (List.prefix_iff_eq_take.1 (List.takeWhile_prefix _)).symm
    rw [e, viewN_append, viewN_none d.Seen d.By ((l.drop k).takeWhile (openOther d.By)), List.append_nil]
    · conv => rhs; rw [← List.take_append_drop k l, viewN_append]
      rw [← hk, show (vis d.Seen d.By (l.take k)).length = (viewN d.Seen d.By (l.take k)).length by simp [viewN], List.take_left]
    · intro c hc
      have := List.all_takeWhile (l := l.drop k) (p := openOther d.By)
      rw [List.all_eq_true] at this
      have h2 := this c hc
      simp only [openOther, Bool.and_eq_true, beq_iff_eq, bne_iff_ne] at h2
      unfold Ch.sees Ch.knowsIn
      have e1 : decide (c.In ≤ d.Seen) = false := by simp; omega
      have e2 : (c.By == d.By) = false := by simpa using h2.2
      rw [e1, e2]; rfl
  unfold putAt
  apply key
  by_cases hz : d.At = 0
  · have : behind d.Seen d.By l d.At = 0 := by unfold behind; rw [if_pos hz]
    rw [this, hz]; simp [vis]
  · obtain ⟨m, hm⟩ := Int.eq_ofNat_of_zero_le h0
    obtain ⟨k, hk, he, ht, _⟩ := behind_pos d.Seen d.By l m (by omega) (by omega)
    rw [hm, he, show ((k : Int) + 1).toNat = k + 1 by omega, ht]; rfl

theorem viewN_length (seen by_ : Int) (l : List Ch) : (viewN seen by_ l).length = (vis seen by_ l).length := by simp [viewN]

/-- FoldSplices: its writer sees what it meant. -/
theorem splices (l : List Ch) (d : Dd) (number : Int) (h : (doF l d number).2 = 0) : 0 ≤ d.At ∧ 0 ≤ d.Many ∧ d.At + d.Many ≤ (viewN d.Seen d.By l).length ∧
    ((d.Kind = 1 ∧ d.Many = 0 ∧ viewN d.Seen d.By (doF l d number).1 = (viewN d.Seen d.By l).take d.At.toNat ++ bytesOf d.Text ++ (viewN d.Seen d.By l).drop d.At.toNat) ∨
     (d.Kind = 2 ∧ viewN d.Seen d.By (doF l d number).1 = (viewN d.Seen d.By l).take d.At.toNat ++ (viewN d.Seen d.By l).drop (d.At + d.Many).toNat)) := by
  rw [viewN_length]
  rcases doF_cases l d number with ⟨h1, e⟩ | ⟨_, _, e⟩ | ⟨h1, hn, hk, e⟩ | ⟨h1, hn, hk, e⟩
  · rw [e] at h; exact absurd h h1
  · rw [e] at h; cases h
  · obtain ⟨h2, h3, _⟩ := mayDo_zero h1
    obtain ⟨hw, _, _, _, hs, hat, _, hq⟩ := deedFault_zero h2
    have hm : d.Many = 0 := by rcases hq with ⟨_, hm, _⟩ | ⟨h2, _⟩ <;> omega
    refine ⟨hat, by omega, h3, .inl ⟨hk, hm, ?_⟩⟩
    rw [e]
    simp only
    have hp := putAt_view l d hs hat (by omega)
    rw [viewN_append, viewN_append, newOf_own, hp]
    congr 1
    have h5 : viewN d.Seen d.By l = viewN d.Seen d.By (l.take (putAt l d)) ++ viewN d.Seen d.By (l.drop (putAt l d)) := by rw [← viewN_append, List.take_append_drop]
    rw [hp] at h5
    have h6 : (List.take d.At.toNat (viewN d.Seen d.By l)).length = d.At.toNat := by rw [List.length_take, viewN_length]; omega
    conv => rhs; rw [h5]
    exact (List.drop_left' h6).symm
  · obtain ⟨h2, h3, _⟩ := mayDo_zero h1
    obtain ⟨hw, _, _, _, hs, hat, _, hq⟩ := deedFault_zero h2
    have hm : 0 ≤ d.Many := by rcases hq with ⟨_, hm, _⟩ | ⟨h2, _⟩ <;> omega
    refine ⟨hat, hm, h3, .inr ⟨hk, ?_⟩⟩
    rw [e]
    simp only
    rw [takeGo_own d.Seen d.By d.At (d.At + d.Many) number hw (by omega) l 0]
    simp

/-- What others see of bytes that were taken away: the same, before they have heard of it. -/
theorem takeGo_early (seen by_ lo hi number : Int) (hb : isWriter by_ = true) (l : List Ch) (seen' by' : Int) (hne : by' ≠ by_) (hlt : seen' < number) : ∀ k : Int,
    viewN seen' by' (takeGo seen by_ lo hi number l k) = viewN seen' by' l := by
  induction l with
  | nil => intro k; rfl
  | cons c l ih =>
    intro k
    unfold takeGo
    have hv : ∀ (c : Ch) (l : List Ch), viewN seen' by' (c :: l) = (if c.sees seen' by' then [c.C] else []) ++ viewN seen' by' l := fun c l => by
      unfold viewN; rw [vis_cons]; split <;> simp
    cases hs : c.sees seen by_
    · simp only [Bool.false_eq_true, if_false]; rw [hv, hv, ih]
    · simp only [if_true]
      rw [hv, hv, ih]
      split
      · rw [mark_early seen by_ number c hb hs seen' by' hne hlt]; rfl
      · rfl

theorem takeGo_late (seen by_ lo hi number : Int) (hb : isWriter by_ = true) (h1 : 1 ≤ number) (l : List Ch) (seen' by' : Int) (hne : by' ≠ by_) (hle : number ≤ seen') : ∀ k : Int,
    (vis seen' by' (takeGo seen by_ lo hi number l k)).length ≤ (vis seen' by' l).length ∧ ((vis seen' by' l).length : Int) - (vis seen' by' (takeGo seen by_ lo hi number l k)).length ≤ max 0 (hi - max lo k) := by
  induction l with
  | nil => intro k; simp [takeGo, vis]; omega
  | cons c l ih =>
    intro k
    unfold takeGo
    have hv : ∀ (c : Ch) (l : List Ch), (vis seen' by' (c :: l)).length = (if c.sees seen' by' then 1 else 0) + (vis seen' by' l).length := fun c l => by
      rw [vis_cons]; split <;> simp <;> omega
    cases hs : c.sees seen by_
    · simp only [Bool.false_eq_true, if_false]; rw [hv, hv]
      have := ih k
      omega
    · simp only [if_true]
      rw [hv, hv]
      have hi2 := ih (k + 1)
      by_cases hin : lo ≤ k ∧ k < hi
      · rw [if_pos hin]
        have hm := mark_late seen by_ number c hb hs seen' by' hne h1 hle
        cases hq : (mark by_ number c).sees seen' by'
        · cases c.sees seen' by' <;> simp <;> omega
        · rw [hm hq]; simp; omega
      · rw [if_neg hin]; omega

/-- FoldOthers: who has not heard of it sees nothing of it. -/
theorem others_early (l : List Ch) (d : Dd) (number : Int) (h : (doF l d number).2 = 0) (seen by_ : Int) (hne : by_ ≠ d.By) (hlt : seen < number) : viewN seen by_ (doF l d number).1 = viewN seen by_ l := by
  rcases doF_cases l d number with ⟨h1, e⟩ | ⟨_, _, e⟩ | ⟨h1, hn, hk, e⟩ | ⟨h1, hn, hk, e⟩
  · rw [e] at h; exact absurd h h1
  · rw [e] at h; cases h
  · rw [e]
    simp only
    rw [viewN_append, viewN_append, newOf_early d number seen by_ hlt hne, List.append_nil, ← viewN_append, List.take_append_drop]
  · rw [e]
    exact takeGo_early _ _ _ _ _ (deedFault_zero (mayDo_zero h1).1).1 _ _ _ hne hlt 0

theorem others_late (l : List Ch) (d : Dd) (number : Int) (h : (doF l d number).2 = 0) (seen by_ : Int) (hne : by_ ≠ d.By) (hle : number ≤ seen) :
    (d.Kind = 1 ∧ (vis seen by_ (doF l d number).1).length = (vis seen by_ l).length + d.Text.size) ∨
    (d.Kind = 2 ∧ (vis seen by_ (doF l d number).1).length ≤ (vis seen by_ l).length ∧ ((vis seen by_ l).length : Int) - d.Many ≤ (vis seen by_ (doF l d number).1).length) := by
  rcases doF_cases l d number with ⟨h1, e⟩ | ⟨_, _, e⟩ | ⟨h1, hn, hk, e⟩ | ⟨h1, hn, hk, e⟩
  · rw [e] at h; exact absurd h h1
  · rw [e] at h; cases h
  · rw [e]
    refine .inl ⟨hk, ?_⟩
    simp only
    rw [← viewN_length, viewN_append, viewN_append, newOf_late d number seen by_ hle]
    have h5 : viewN seen by_ l = viewN seen by_ (l.take (putAt l d)) ++ viewN seen by_ (l.drop (putAt l d)) := by rw [← viewN_append, List.take_append_drop]
    rw [← viewN_length, h5]
    simp only [List.length_append, bytesOf_length]; omega
  · rw [e]
    obtain ⟨hw, _, _, _, _, hat, _, hq⟩ := deedFault_zero (mayDo_zero h1).1
    have := takeGo_late d.Seen d.By d.At (d.At + d.Many) number hw hn l seen by_ hne hle 0
    have hm : 0 ≤ d.Many := by rcases hq with ⟨_, hm, _⟩ | ⟨h2, _⟩ <;> omega
    exact .inr ⟨hk, this.1, by simp only; omega⟩
end Go.Proofs.Ytneoeokfffnonaa
