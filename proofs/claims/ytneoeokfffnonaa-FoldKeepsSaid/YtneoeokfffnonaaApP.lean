/- Deeds done to a list, as one recursion; that deeds of two writers commute. No program in sight. -/
import Derived.Test.YtneoeokfffnonaaFoldL3
namespace Go.Proofs.Ytneoeokfffnonaa
open Go.RowKit

/-- T goes in behind the k-th byte of P, and behind the bytes of Q that stand right there. -/
def insGo (P Q : Ch → Bool) (T : List Ch) : List Ch → Nat → List Ch
  | [], _ => T
  | c :: l, 0 => if Q c then c :: insGo P Q T l 0 else T ++ c :: l
  | c :: l, k + 1 => c :: insGo P Q T l (if P c then k else k + 1)

theorem insGo_zero (P Q : Ch → Bool) (T l : List Ch) : insGo P Q T l 0 = l.take (l.takeWhile Q).length ++ T ++ l.drop (l.takeWhile Q).length := by
  induction l with
  | nil => simp [insGo]
  | cons c l ih =>
    unfold insGo
    by_cases h : Q c = true
    · rw [if_pos h, ih, List.takeWhile_cons, if_pos h]; simp
    · rw [if_neg h, List.takeWhile_cons, if_neg h]; simp

theorem insGo_behind (seen by_ : Int) (Q : Ch → Bool) (T l : List Ch) : ∀ (k : Nat) (i : Int), 1 ≤ k → k ≤ (vis seen by_ l).length →
    ∃ b : Nat, b ≤ l.length ∧ behindFrom seen by_ l k i = i + b ∧ insGo (fun c => c.sees seen by_) Q T l k = l.take b ++ insGo (fun c => c.sees seen by_) Q T (l.drop b) 0 := by
  induction l with
  | nil => intro k i h1 h2; simp [vis] at h2; omega
  | cons c l ih =>
    intro k i h1 h2
    rw [vis_cons] at h2
    obtain ⟨m, rfl⟩ : ∃ m, k = m + 1 := ⟨k - 1, by omega⟩
    rw [behindFrom, insGo]
    cases hs : c.sees seen by_
    · simp only [hs, Bool.false_eq_true, if_false, List.nil_append] at h2 ⊢
      obtain ⟨b, hb, e1, e2⟩ := ih (m + 1) (i + 1) h1 h2
      exact ⟨b + 1, by simp; omega, by rw [e1]; omega, by rw [e2]; simp⟩
    · simp only [hs, if_true, List.cons_append, List.nil_append, List.length_cons] at h2 ⊢
      by_cases hm : m = 0
      · subst hm
        exact ⟨1, by simp, by rw [if_pos (by simp)]; omega, by simp⟩
      · rw [if_neg (by omega), show ((m + 1 : Nat) : Int) - 1 = (m : Nat) by omega]
        obtain ⟨b, hb, e1, e2⟩ := ih m (i + 1) (by omega) (by omega)
        exact ⟨b + 1, by simp; omega, by rw [e1]; omega, by rw [e2]; simp⟩

/-- A deed that can be done, done. -/
def ap (l : List Ch) (d : Dd) (number : Int) : List Ch :=
  if d.Kind = 1 then insGo (fun c => c.sees d.Seen d.By) (openOther d.By) (newOf d number) l d.At.toNat
  else takeGo d.Seen d.By d.At (d.At + d.Many) number l 0

theorem insGo_put (l : List Ch) (d : Dd) (T : List Ch) (h0 : 0 ≤ d.At) (h : d.At ≤ ((vis d.Seen d.By l).length : Int)) :
    insGo (fun c => c.sees d.Seen d.By) (openOther d.By) T l d.At.toNat = l.take (putAt l d) ++ T ++ l.drop (putAt l d) := by
  unfold putAt
  by_cases hz : d.At = 0
  · have hb : behind d.Seen d.By l d.At = 0 := by unfold behind; rw [if_pos hz]
    rw [hb, hz]
    show insGo _ _ T l 0 = _
    rw [insGo_zero]
    unfold skip; simp
  · obtain ⟨m, hm⟩ := Int.eq_ofNat_of_zero_le h0
    obtain ⟨b, hb, e1, e2⟩ := insGo_behind d.Seen d.By (openOther d.By) T l m 0 (by omega) (by omega)
    have hbe : behind d.Seen d.By l d.At = (b : Int) := by unfold behind; rw [if_neg hz, hm, e1]; omega
    rw [hbe, hm, Int.toNat_natCast, Int.toNat_natCast, e2, insGo_zero]
    unfold skip
    rw [List.take_add, List.drop_drop]
    simp only [List.append_assoc]

theorem doF_ap {l : List Ch} {d : Dd} {number : Int} (h : mayDo l d = 0) (hn : 1 ≤ number) : doF l d number = (ap l d number, 0) := by
  obtain ⟨h2, h3, _⟩ := mayDo_zero h
  obtain ⟨hw, _, _, _, hs, hat, _, hq⟩ := deedFault_zero h2
  unfold ap
  rcases doF_cases l d number with ⟨h1, e⟩ | ⟨_, hn, e⟩ | ⟨h1, hn, hk, e⟩ | ⟨h1, hn, hk, e⟩
  · exact absurd h h1
  · omega
  · have hm : d.Many = 0 := by rcases hq with ⟨_, hm, _⟩ | ⟨h2, _⟩ <;> omega
    rw [e, if_pos hk, insGo_put l d _ hat (by omega)]
  · rw [e, if_neg (by omega)]

theorem doF_zero {l : List Ch} {d : Dd} {number : Int} (h : (doF l d number).2 = 0) : mayDo l d = 0 ∧ 1 ≤ number := by
  rcases doF_cases l d number with ⟨h1, e⟩ | ⟨_, hn, e⟩ | ⟨h1, hn, hk, e⟩ | ⟨h1, hn, hk, e⟩
  · rw [e] at h; exact absurd h h1
  · rw [e] at h; cases h
  · exact ⟨h1, hn⟩
  · exact ⟨h1, hn⟩

theorem ap_length {l : List Ch} {d : Dd} {number : Int} (h : mayDo l d = 0) : (ap l d number).length = l.length + d.Text.size := by
  obtain ⟨h2, h3, _⟩ := mayDo_zero h
  obtain ⟨hw, _, _, _, hs, hat, _, hq⟩ := deedFault_zero h2
  unfold ap
  rcases hq with ⟨hk, hm, _⟩ | ⟨hk, _, _, ht⟩
  · rw [if_pos hk, insGo_put l d _ hat (by omega)]
    have := putAt_le l d
    simp only [List.length_append, List.length_take, List.length_drop, newOf_length]; omega
  · rw [if_neg (by omega), takeGo_length, ht]; rfl

section
variable {P Q P' Q' : Ch → Bool} {T T' : List Ch}

theorem insGo_append_skip (hP : ∀ c ∈ T', P c = false) (l : List Ch) (k : Nat) : insGo P Q T (T' ++ l) (k + 1) = T' ++ insGo P Q T l (k + 1) := by
  induction T' with
  | nil => rfl
  | cons c T' ih =>
    rw [List.cons_append, insGo, hP c (by simp)]
    simp only [Bool.false_eq_true, if_false, List.cons_append]
    rw [ih fun x hx => hP x (by simp [hx])]

theorem insGo_append_q (hQ : ∀ c ∈ T', Q c = true) (l : List Ch) : insGo P Q T (T' ++ l) 0 = T' ++ insGo P Q T l 0 := by
  induction T' with
  | nil => rfl
  | cons c T' ih =>
    rw [List.cons_append, insGo, hQ c (by simp)]
    simp only [if_true, List.cons_append]
    rw [ih fun x hx => hQ x (by simp [hx])]

theorem insGo_noq {l : List Ch} (hQ : ∀ c ∈ l, Q c = false) : insGo P Q T l 0 = T ++ l := by
  cases l with
  | nil => simp [insGo]
  | cons c l => rw [insGo, hQ c (by simp)]; simp

/-- Two puts: T' comes in behind the bytes that P' sees, and nothing is skipped there; T is put behind those of P, and skips T'. -/
theorem insGo_comm (h1 : ∀ c ∈ T', P c = false) (h2 : ∀ c ∈ T', Q c = true) (h3 : ∀ c ∈ T, P' c = false) (h4 : ∀ c ∈ T, Q' c = false) :
    ∀ (l : List Ch), (∀ c ∈ l, Q' c = false) → ∀ (k j : Nat), (k ≤ (l.filter P).length) → (j ≤ (l.filter P').length) →
      insGo P Q T (insGo P' Q' T' l j) k = insGo P' Q' T' (insGo P Q T l k) j := by
  intro l
  induction l with
  | nil =>
    intro _ k j hk hj
    simp at hk hj
    subst hk; subst hj
    simp only [insGo]
    rw [← List.append_nil T', insGo_append_q h2]
    simp only [insGo, List.append_nil]
    rw [insGo_noq h4]
  | cons c l ih =>
    intro hq k j hk hj
    have hql : ∀ x ∈ l, Q' x = false := fun x hx => hq x (by simp [hx])
    have hqc := hq c (by simp)
    cases j with
    | zero =>
      rw [insGo_noq hq]
      have hall : ∀ k, k ≤ ((c :: l).filter P).length → ∀ x ∈ insGo P Q T (c :: l) k, Q' x = false := by
        intro k _ x hx
        have : ∀ (l : List Ch) (k : Nat), ∀ x ∈ insGo P Q T l k, x ∈ T ∨ x ∈ l := by
          intro l
          induction l with
          | nil => intro k x hx; exact .inl hx
          | cons c l ih =>
            intro k x hx
            cases k with
            | zero =>
              rw [insGo] at hx
              split at hx
              · rw [List.mem_cons] at hx
                rcases hx with h | h
                · exact .inr (by simp [h])
                · rcases ih _ x h with h | h
                  · exact .inl h
                  · exact .inr (by simp [h])
              · rw [List.mem_append] at hx
                exact hx
            | succ k =>
              rw [insGo, List.mem_cons] at hx
              rcases hx with h | h
              · exact .inr (by simp [h])
              · rcases ih _ x h with h | h
                · exact .inl h
                · exact .inr (by simp [h])
        rcases this _ _ x hx with h | h
        · exact h4 x h
        · exact hq x h
      rw [insGo_noq (hall k hk)]
      cases k with
      | zero => rw [insGo_append_q h2]
      | succ k => rw [insGo_append_skip h1]
    | succ j =>
      cases k with
      | zero =>
        rw [insGo, insGo]
        by_cases hQc : Q c = true
        · rw [insGo, if_pos hQc, if_pos hQc]
          rw [insGo]
          congr 1
          refine ih hql 0 _ (Nat.zero_le _) ?_
          simp only [List.filter_cons] at hj
          split <;> rename_i hp
          · rw [if_pos hp] at hj; simp at hj; omega
          · rw [if_neg hp] at hj; exact hj
        · rw [insGo, if_neg hQc, if_neg hQc]
          rw [insGo_append_skip h3]
          rw [insGo]
      | succ k =>
        rw [insGo, insGo, insGo, insGo]
        congr 1
        refine ih hql _ _ ?_ ?_
        · simp only [List.filter_cons] at hk
          split <;> rename_i hp
          · rw [if_pos hp] at hk; simp at hk; omega
          · rw [if_neg hp] at hk; exact hk
        · simp only [List.filter_cons] at hj
          split <;> rename_i hp
          · rw [if_pos hp] at hj; simp at hj; omega
          · rw [if_neg hp] at hj; exact hj
end

theorem insGo_mem (P Q : Ch → Bool) (T : List Ch) : ∀ (l : List Ch) (k : Nat), ∀ x ∈ insGo P Q T l k, x ∈ T ∨ x ∈ l := by
  intro l
  induction l with
  | nil => intro k x hx; exact .inl hx
  | cons c l ih =>
    intro k x hx
    cases k with
    | zero =>
      rw [insGo] at hx
      split at hx
      · rw [List.mem_cons] at hx
        rcases hx with h | h
        · exact .inr (by simp [h])
        · rcases ih _ x h with h | h
          · exact .inl h
          · exact .inr (by simp [h])
      · rw [List.mem_append] at hx
        exact hx
    | succ k =>
      rw [insGo, List.mem_cons] at hx
      rcases hx with h | h
      · exact .inr (by simp [h])
      · rcases ih _ x h with h | h
        · exact .inl h
        · exact .inr (by simp [h])

/-- Bytes are taken away by another than the one that puts in. -/
theorem insGo_takeGo (P Q : Ch → Bool) (T : List Ch) (seen by_ lo hi number : Int) (hT : ∀ c ∈ T, c.sees seen by_ = false) :
    ∀ (l : List Ch), (∀ c ∈ l, c.sees seen by_ = true → P (mark by_ number c) = P c ∧ Q (mark by_ number c) = Q c) → ∀ (j : Nat) (k : Int),
      insGo P Q T (takeGo seen by_ lo hi number l k) j = takeGo seen by_ lo hi number (insGo P Q T l j) k := by
  have skipT : ∀ (T l : List Ch), (∀ c ∈ T, c.sees seen by_ = false) → ∀ k, takeGo seen by_ lo hi number (T ++ l) k = T ++ takeGo seen by_ lo hi number l k := by
    intro T
    induction T with
    | nil => intro l _ k; rfl
    | cons c T ih =>
      intro l h k
      rw [List.cons_append, takeGo, h c (by simp)]
      simp only [Bool.false_eq_true, if_false, List.cons_append]
      rw [ih l fun x hx => h x (by simp [hx])]
  intro l
  induction l with
  | nil =>
    intro _ j k
    simp only [takeGo, insGo]
    have := skipT T [] hT k
    simp only [List.append_nil, takeGo] at this
    rw [this]
  | cons c l ih =>
    intro h j k
    have hl : ∀ x ∈ l, x.sees seen by_ = true → P (mark by_ number x) = P x ∧ Q (mark by_ number x) = Q x := fun x hx => h x (by simp [hx])
    rw [takeGo]
    cases hs : c.sees seen by_
    · simp only [Bool.false_eq_true, if_false]
      cases j with
      | zero =>
        rw [insGo, insGo]
        by_cases hq : Q c = true
        · rw [if_pos hq, if_pos hq, takeGo, hs]
          simp only [Bool.false_eq_true, if_false]
          rw [ih hl]
        · rw [if_neg hq, if_neg hq, skipT T _ hT, takeGo, hs]
          simp
      | succ j =>
        rw [insGo, insGo, takeGo, hs]
        simp only [Bool.false_eq_true, if_false]
        rw [ih hl]
    · simp only [if_true]
      have hm := h c (by simp) hs
      have hx : ∀ x, x = (if lo ≤ k ∧ k < hi then mark by_ number c else c) → P x = P c ∧ Q x = Q c := by
        intro x e; rw [e]; split
        · exact hm
        · exact ⟨rfl, rfl⟩
      cases j with
      | zero =>
        rw [insGo, insGo, (hx _ rfl).2]
        by_cases hq : Q c = true
        · rw [if_pos hq, if_pos hq, takeGo, hs]
          simp only [if_true]
          rw [ih hl]
        · rw [if_neg hq, if_neg hq, skipT T _ hT, takeGo, hs]
          simp
      | succ j =>
        rw [insGo, insGo, (hx _ rfl).1, takeGo, hs]
        simp only [if_true]
        rw [ih hl]

theorem takeGo_comm (s b lo hi n s' b' lo' hi' n' : Int) :
    ∀ (l : List Ch), (∀ c ∈ l, c.sees s b = true → (mark b n c).sees s' b' = c.sees s' b') → (∀ c ∈ l, c.sees s' b' = true → (mark b' n' c).sees s b = c.sees s b) →
      (∀ c ∈ l, c.sees s b = true → c.sees s' b' = true → mark b n (mark b' n' c) = mark b' n' (mark b n c)) → ∀ (k k' : Int),
      takeGo s b lo hi n (takeGo s' b' lo' hi' n' l k') k = takeGo s' b' lo' hi' n' (takeGo s b lo hi n l k) k' := by
  intro l
  induction l with
  | nil => intros; rfl
  | cons c l ih =>
    intro h1 h2 h3 k k'
    have ih' := ih (fun x hx => h1 x (by simp [hx])) (fun x hx => h2 x (by simp [hx])) (fun x hx => h3 x (by simp [hx]))
    have a1 := h1 c (by simp)
    have a2 := h2 c (by simp)
    have a3 := h3 c (by simp)
    rw [takeGo, takeGo]
    cases hs' : c.sees s' b'
    · cases hs : c.sees s b
      · simp only [Bool.false_eq_true, if_false]
        rw [takeGo, takeGo, hs, hs']
        simp only [Bool.false_eq_true, if_false]
        rw [ih']
      · simp only [Bool.false_eq_true, if_false, if_true]
        rw [takeGo, takeGo, hs]
        have : (if lo ≤ k ∧ k < hi then mark b n c else c).sees s' b' = false := by
          split
          · rw [a1 hs, hs']
          · exact hs'
        rw [this]
        simp only [Bool.false_eq_true, if_false, if_true]
        rw [ih']
    · cases hs : c.sees s b
      · simp only [Bool.false_eq_true, if_false, if_true]
        rw [takeGo, takeGo, hs']
        have : (if lo' ≤ k' ∧ k' < hi' then mark b' n' c else c).sees s b = false := by
          split
          · rw [a2 hs', hs]
          · exact hs
        rw [this]
        simp only [Bool.false_eq_true, if_false, if_true]
        rw [ih']
      · simp only [if_true]
        rw [takeGo, takeGo]
        have e1 : (if lo ≤ k ∧ k < hi then mark b n c else c).sees s' b' = true := by
          split
          · rw [a1 hs, hs']
          · exact hs'
        have e2 : (if lo' ≤ k' ∧ k' < hi' then mark b' n' c else c).sees s b = true := by
          split
          · rw [a2 hs', hs]
          · exact hs
        rw [e1, e2]
        simp only [if_true]
        rw [ih']
        congr 1
        by_cases p1 : lo ≤ k ∧ k < hi <;> by_cases p2 : lo' ≤ k' ∧ k' < hi'
        · rw [if_pos p1, if_pos p1, if_pos p2, if_pos p2, a3 hs hs']
        all_goals simp only [p1, p2, if_false]

/-- Bytes of another writer that have no number yet. -/
theorem openOther_mark (b by_ n : Int) (c : Ch) : openOther b (mark by_ n c) = openOther b c := rfl

theorem mark_open_comm (b b' n : Int) (c : Ch) : mark b n (mark b' 1073741824 c) = mark b' 1073741824 (mark b n c) := by
  unfold mark
  simp only [Ch.mk.injEq, true_and, ne_eq, not_true_eq_false, false_and, if_false]
  omega

theorem sees_own_late (n seen by_ : Int) (c : Ch) (h : c.sees seen by_ = true) (hb : isWriter by_ = true) (seen' by' : Int) (hne : by' ≠ by_) (hlt : seen' < n) : (mark by_ n c).sees seen' by' = c.sees seen' by' := mark_early seen by_ n c hb h seen' by' hne hlt

/-- A deed of another writer, and an open one of its own: which one is done first does not matter. -/
theorem ap_comm (l : List Ch) (o d : Dd) (n : Int) (ho : deedFault o = 0) (hd : deedFault d = 0) (hne : o.By ≠ d.By) (hn : o.Seen < n) (hno : n ≠ 1073741824)
    (hq : ∀ c ∈ l, openOther o.By c = false) (hco : o.At ≤ ((vis o.Seen o.By l).length : Int)) (hcd : d.At ≤ ((vis d.Seen d.By l).length : Int)) :
    ap (ap l o 1073741824) d n = ap (ap l d n) o 1073741824 := by
  obtain ⟨wo, _, _, _, so, ao, _, qo⟩ := deedFault_zero ho
  obtain ⟨wd, _, _, _, sd, ad, _, qd⟩ := deedFault_zero hd
  have tO : ∀ c ∈ newOf o 1073741824, c.sees d.Seen d.By = false ∧ openOther d.By c = true := by
    intro c hc
    obtain ⟨h1, _, h3, h4, h5, _⟩ := newOf_mem hc
    constructor
    · rw [fresh_sees h4 h5]; unfold Ch.knowsIn
      have e1 : decide (c.In ≤ d.Seen) = false := by simp; omega
      have e2 : (c.By == d.By) = false := by simp; rw [h1]; exact hne
      rw [e1, e2]; rfl
    · unfold openOther; rw [h3, h1]; simpa using hne
  have tD : ∀ c ∈ newOf d n, c.sees o.Seen o.By = false ∧ openOther o.By c = false := by
    intro c hc
    obtain ⟨h1, _, h3, h4, h5, _⟩ := newOf_mem hc
    constructor
    · rw [fresh_sees h4 h5]; unfold Ch.knowsIn
      have e1 : decide (c.In ≤ o.Seen) = false := by simp; omega
      have e2 : (c.By == o.By) = false := by simp; rw [h1]; exact fun e => hne e.symm
      rw [e1, e2]; rfl
    · unfold openOther
      have e1 : (c.In == 1073741824) = false := by simp; omega
      rw [e1]; rfl
  unfold ap
  rcases qo with ⟨ko, mo, _⟩ | ⟨ko, _⟩ <;> rcases qd with ⟨kd, md, _⟩ | ⟨kd, _⟩
  · rw [if_pos ko, if_pos kd, if_pos kd, if_pos ko]
    refine insGo_comm (fun c hc => (tO c hc).1) (fun c hc => (tO c hc).2) (fun c hc => (tD c hc).1) (fun c hc => (tD c hc).2) l hq _ _ ?_ ?_
    · show _ ≤ (vis d.Seen d.By l).length; omega
    · show _ ≤ (vis o.Seen o.By l).length; omega
  · have nd : ¬ d.Kind = 1 := by omega
    rw [if_pos ko, if_neg nd, if_neg nd, if_pos ko]
    exact (insGo_takeGo _ _ _ _ _ _ _ _ (fun c hc => (tO c hc).1) l (fun c _ hs => ⟨mark_early d.Seen d.By n c wd hs o.Seen o.By hne hn, rfl⟩) _ _).symm
  · have no : ¬ o.Kind = 1 := by omega
    rw [if_neg no, if_pos kd, if_pos kd, if_neg no]
    exact insGo_takeGo _ _ _ _ _ _ _ _ (fun c hc => (tD c hc).1) l (fun c _ hs => ⟨mark_early o.Seen o.By 1073741824 c wo hs d.Seen d.By (fun e => hne e.symm) (by omega), rfl⟩) _ _
  · have no : ¬ o.Kind = 1 := by omega
    have nd : ¬ d.Kind = 1 := by omega
    rw [if_neg no, if_neg nd, if_neg nd, if_neg no]
    refine takeGo_comm _ _ _ _ _ _ _ _ _ _ l (fun c _ hs => mark_early d.Seen d.By n c wd hs o.Seen o.By hne hn) (fun c _ hs => mark_early o.Seen o.By 1073741824 c wo hs d.Seen d.By (fun e => hne e.symm) (by omega)) (fun c _ _ _ => mark_open_comm _ _ _ _) _ _
end Go.Proofs.Ytneoeokfffnonaa
