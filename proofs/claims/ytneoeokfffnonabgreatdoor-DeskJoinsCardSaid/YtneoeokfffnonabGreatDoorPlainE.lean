/- Lines of deeds: words, numbers, there and back. No program in sight. -/
import Derived.Test.YtneoeokfffnonabGreatDoorPlain
import Derived.Lib.AtoiAll
import Derived.Lib.ItoaNum
import Derived.Lib.Split
import Derived.Lib.Join
set_option linter.unusedVariables false
set_option linter.unusedSimpArgs false
namespace Go.Proofs.YtneoeokfffnonabGreatDoor
open Go.RowKit Go

abbrev Str := List UInt8
/-- A number, as short as can be. -/
def numOf (s : Str) : Option Int := match Lib.atoiAll s with
  | .ok v => if Lib.itoa v = s then some v else none
  | _ => none
theorem numOf_some {s : Str} {v : Int} (h : numOf s = some v) : Lib.itoa v = s := by
  unfold numOf at h
  split at h
  · split at h
    · cases h; assumption
    · cases h
  · cases h
/-- Cut at the first blank. -/
def wordF : Str → Option (Str × Str)
  | [] => none
  | c :: l => if c = 32 then some ([], l) else (wordF l).map fun p => (c :: p.1, p.2)
theorem wordF_some : ∀ {s a r : Str}, wordF s = some (a, r) → s = a ++ 32 :: r ∧ ∀ c ∈ a, c ≠ 32 := by
  intro s
  induction s with
  | nil => intro a r h; cases h
  | cons c l ih =>
    intro a r h
    unfold wordF at h
    split at h
    · cases h; rename_i e; exact ⟨by rw [e]; rfl, fun c hc => by cases hc⟩
    · rename_i e
      cases hw : wordF l with
      | none => rw [hw] at h; cases h
      | some p =>
        obtain ⟨a', r'⟩ := p
        rw [hw] at h
        simp only [Option.map_some, Option.some.injEq, Prod.mk.injEq] at h
        obtain ⟨rfl, rfl⟩ := h
        obtain ⟨h1, h2⟩ := ih hw
        refine ⟨by rw [h1]; rfl, fun x hx => ?_⟩
        rcases List.mem_cons.1 hx with rfl | hx
        · exact e
        · exact h2 x hx
theorem wordF_app : ∀ (a r : Str), (∀ c ∈ a, c ≠ 32) → wordF (a ++ 32 :: r) = some (a, r) := by
  intro a
  induction a with
  | nil => intro r _; show (if (32 : UInt8) = 32 then _ else _) = _; rw [if_pos rfl]
  | cons c a ih =>
    intro r h
    rw [List.cons_append]
    unfold wordF
    rw [if_neg (h c List.mem_cons_self), ih r fun x hx => h x (List.mem_cons_of_mem _ hx)]
    rfl
theorem wordF_none : ∀ {s : Str}, wordF s = none → ∀ c ∈ s, c ≠ 32 := by
  intro s
  induction s with
  | nil => intro _ c hc; cases hc
  | cons c l ih =>
    intro h x hx
    unfold wordF at h
    split at h
    · cases h
    · rename_i e
      rcases List.mem_cons.1 hx with rfl | hx
      · exact e
      · exact ih (by cases hw : wordF l with | none => rfl | some p => rw [hw] at h; cases h) x hx
/-- So many words, and the rest. -/
def wordsF : Nat → Str → Option (List Str × Str)
  | 0, s => some ([], s)
  | n + 1, s => match wordF s with
    | none => none
    | some p => (wordsF n p.2).map fun q => (p.1 :: q.1, q.2)
theorem index_word (s : Str) : (wordF s = none ∧ Lib.index s [32] = -1) ∨ ∃ a r, wordF s = some (a, r) ∧ Lib.index s [32] = (a.length : Int) := by
  induction s with
  | nil => exact .inl ⟨rfl, rfl⟩
  | cons c l ih =>
    unfold wordF Lib.index
    have hp : (List.isPrefixOf [(32 : UInt8)] (c :: l)) = ((32 : UInt8) == c) := by simp [List.isPrefixOf]
    rw [hp]
    by_cases e : c = 32
    · subst e
      exact .inr ⟨[], l, by rw [if_pos rfl], by simp⟩
    · have e2 : ((32 : UInt8) == c) = false := by simpa using fun h => e h.symm
      rw [if_neg e, e2]
      rcases ih with ⟨h1, h2⟩ | ⟨a, r, h1, h2⟩
      · exact .inl ⟨by rw [h1]; rfl, by rw [h2]; rfl⟩
      · refine .inr ⟨c :: a, r, by rw [h1]; rfl, ?_⟩
        have : ((a.length : Int) == -1) = false := by rw [beq_eq_false_iff_ne]; omega
        rw [h2]
        simp [this]
theorem splitK_words : ∀ (k : Nat) (s : Str), (∃ ws r, wordsF k s = some (ws, r) ∧ Lib.splitK [32] 0 k s = ws ++ [r] ∧ ws.length = k) ∨ (wordsF k s = none ∧ (Lib.splitK [32] 0 k s).length ≤ k) := by
  intro k
  induction k with
  | zero => intro s; exact .inl ⟨[], s, rfl, rfl, rfl⟩
  | succ k ih =>
    intro s
    unfold wordsF Lib.splitK
    rcases index_word s with ⟨h1, h2⟩ | ⟨a, r, h1, h2⟩
    · right
      rw [h1, h2]
      exact ⟨rfl, by simp⟩
    · rw [h1, h2]
      have hne : ((a.length : Int) == -1) = false := by rw [beq_eq_false_iff_ne]; omega
      obtain ⟨e, _⟩ := wordF_some h1
      have ht : s.take ((a.length : Int).toNat + 0) = a := by rw [e]; simp
      have hd : s.drop ((a.length : Int).toNat + [(32 : UInt8)].length) = r := by rw [e]; simp
      rw [hne, ht, hd]
      simp only [Bool.false_eq_true, if_false]
      rcases ih r with ⟨ws, r', k1, k2, k3⟩ | ⟨k1, k2⟩
      · exact .inl ⟨a :: ws, r', by rw [k1]; rfl, by rw [k2]; rfl, by simp [k3]⟩
      · exact .inr ⟨by rw [k1]; rfl, by simp; omega⟩
theorem wordsF_len : ∀ (k : Nat) (s : Str) (ws : List Str) (r : Str), wordsF k s = some (ws, r) → k ≤ s.length ∧ ws.length = k := by
  intro k
  induction k with
  | zero => intro s ws r h; cases h; exact ⟨Nat.zero_le _, rfl⟩
  | succ k ih =>
    intro s ws r h
    unfold wordsF at h
    cases hw : wordF s with
    | none => rw [hw] at h; cases h
    | some p =>
      obtain ⟨a, r'⟩ := p
      rw [hw] at h
      simp only at h
      cases h2 : wordsF k r' with
      | none => rw [h2] at h; cases h
      | some q =>
        obtain ⟨ws', r2⟩ := q
        rw [h2] at h
        simp only [Option.map_some, Option.some.injEq, Prod.mk.injEq] at h
        obtain ⟨rfl, rfl⟩ := h
        obtain ⟨k1, k2⟩ := ih _ _ _ h2
        obtain ⟨e, _⟩ := wordF_some hw
        have := congrArg List.length e
        simp at this
        exact ⟨by omega, by simp [k2]⟩
theorem splitN_words (n : Nat) (s : Str) : (∃ ws r, wordsF n s = some (ws, r) ∧ Lib.splitN s [32] (n + 1) = ws ++ [r] ∧ ws.length = n) ∨ (wordsF n s = none ∧ (Lib.splitN s [32] (n + 1)).length ≤ n) := by
  unfold Lib.splitN
  by_cases h : n ≤ s.length
  · rw [show min (n + 1) (s.length + 1) - 1 = n by omega]
    exact splitK_words n s
  · rw [show min (n + 1) (s.length + 1) - 1 = s.length by omega]
    right
    refine ⟨?_, ?_⟩
    · cases hw : wordsF n s with
      | none => rfl
      | some p => have := (wordsF_len n s p.1 p.2 hw).1; omega
    · rcases splitK_words s.length s with ⟨ws, r, _, k2, k3⟩ | ⟨_, k2⟩
      · rw [k2]; simp; omega
      · omega

/-- The numeral of a number is that number. -/
theorem parse_append : ∀ (l m : Str) (acc : Nat), Lib.parseUint10 acc (l ++ m) = match Lib.parseUint10 acc l with | .ok a => Lib.parseUint10 a m | e => e := by
  intro l
  induction l with
  | nil => intro m acc; rfl
  | cons c l ih =>
    intro m acc
    show Lib.parseUint10 acc (c :: (l ++ m)) = _
    rw [Lib.parseUint10, Lib.parseUint10]
    split
    · split
      · rfl
      · split
        · rfl
        · exact ih m _
    · rfl
theorem digit_toNat {k : Nat} (h : k < 10) : (UInt8.ofNat (48 + k)).toNat = 48 + k := by simp; omega
theorem parse_digits (u : Nat) (h : u < 9223372036854775808) : Lib.parseUint10 0 (Lib.decDigits u) = .ok u := by
  induction u using Nat.strongRecOn with
  | _ u ih =>
    rw [Lib.decDigits]
    split
    · rename_i hs
      unfold Lib.parseUint10
      have := digit_toNat hs
      rw [if_pos (by omega), if_neg (by omega), if_neg (by omega), this]
      unfold Lib.parseUint10
      congr 1; omega
    · rename_i hs
      rw [parse_append, ih (u / 10) (by omega) (by omega)]
      simp only
      have := digit_toNat (show u % 10 < 10 by omega)
      unfold Lib.parseUint10
      rw [if_pos (by omega), if_neg (by omega), if_neg (by omega), this]
      unfold Lib.parseUint10
      congr 1; omega
theorem digits_all (u : Nat) : ∀ c ∈ Lib.decDigits u, 48 ≤ c.toNat ∧ c.toNat ≤ 57 := by
  induction u using Nat.strongRecOn with
  | _ u ih =>
    intro c hc
    rw [Lib.decDigits] at hc
    split at hc
    · rename_i hs
      simp only [List.mem_singleton] at hc; subst hc
      rw [digit_toNat hs]; omega
    · rename_i hs
      rcases List.mem_append.1 hc with hc | hc
      · exact ih (u / 10) (by omega) c hc
      · simp only [List.mem_singleton] at hc; subst hc
        rw [digit_toNat (by omega)]; omega
theorem digits_ne (u : Nat) : Lib.decDigits u ≠ [] := by
  rw [Lib.decDigits]; split
  · simp
  · simp
theorem itoa_nat (n : Int) (h : 0 ≤ n) : Lib.itoa n = Lib.decDigits n.toNat := by unfold Lib.itoa; rw [if_neg (by omega)]
theorem numOf_itoa (n : Int) (h : 0 ≤ n) (h2 : n < 9223372036854775808) : numOf (Lib.itoa n) = some n := by
  have ha : Lib.atoiAll (Lib.itoa n) = .ok n := by
    rw [itoa_nat n h]
    cases e : Lib.decDigits n.toNat with
    | nil => exact absurd e (digits_ne _)
    | cons c l =>
      have hc := digits_all n.toNat c (by rw [e]; exact List.mem_cons_self)
      unfold Lib.atoiAll
      simp only
      rw [if_neg (by omega), ← e]
      unfold Lib.parseMag
      rw [if_neg (digits_ne _), parse_digits _ (by omega)]
      simp only
      rw [if_neg (by omega), if_neg (by omega), if_neg (by omega)]
      congr 1; omega
  unfold numOf
  rw [ha]
  simp
theorem itoa_bytes (n : Int) (h : 0 ≤ n) : ∀ c ∈ Lib.itoa n, 48 ≤ c.toNat ∧ c.toNat ≤ 57 := by rw [itoa_nat n h]; exact digits_all _
theorem itoa_noblank (n : Int) (h : 0 ≤ n) : ∀ c ∈ Lib.itoa n, c ≠ 32 := fun c hc e => by
  have := itoa_bytes n h c hc
  subst e
  exact absurd this.1 (by decide)

/-- Lines. -/
def putB : Str := [112, 117, 116]
def takeB : Str := [116, 97, 107, 101]
def kindB (d : Dd) : Str := if d.Kind = 2 then takeB else putB
def lastB (d : Dd) : Str := if d.Kind = 2 then Lib.itoa d.Many else d.Text.data.toList
def lineB (d : Dd) : Str := kindB d ++ 32 :: (Lib.itoa d.By ++ 32 :: (Lib.itoa d.No ++ 32 :: (Lib.itoa d.Seen ++ 32 :: (Lib.itoa d.At ++ 32 :: lastB d))))
def lineF (d : Dd) : Str × Int := if deedFault d = 0 then (lineB d, 0) else ([], deedFault d)
theorem join_line (d : Dd) : Lib.join [kindB d, Lib.itoa d.By, Lib.itoa d.No, Lib.itoa d.Seen, Lib.itoa d.At, lastB d] [32] = lineB d := by
  rw [Lib.join_cons]; simp [Lib.joinTail, lineB]

def zDd : Dd := ⟨0, 0, 0, 0, 0, 0, ⟨#[]⟩⟩
def chkD (d : Dd) : Dd × Int := if deedFault d = 0 then (d, 0) else (zDd, deedFault d)
def parseF (s : Str) : Dd × Int := match wordsF 5 s with
  | some ([k, a, b, c, e], r) =>
    if k = putB then (match numOf a, numOf b, numOf c, numOf e with
      | some A, some B, some C, some E => chkD ⟨1, A, B, C, E, 0, ⟨r.toArray⟩⟩
      | _, _, _, _ => (zDd, 3))
    else if k = takeB then (match numOf a, numOf b, numOf c, numOf e, numOf r with
      | some A, some B, some C, some E, some M => chkD ⟨2, A, B, C, E, M, ⟨#[]⟩⟩
      | _, _, _, _, _ => (zDd, 3))
    else (zDd, 3)
  | _ => (zDd, 3)
theorem chkD_ne (d : Dd) (h : (chkD d).2 ≠ 0) : (chkD d).1 = zDd := by unfold chkD at *; split <;> simp_all
theorem parse_ne (s : Str) (h : (parseF s).2 ≠ 0) : (parseF s).1 = zDd := by
  unfold parseF at *
  repeat (first | rfl | exact chkD_ne _ h | split at h <;> rename_i e <;> (try rw [e]) <;> (try simp only [e]))
  all_goals first | rfl | exact chkD_ne _ h | simp_all
theorem fault_facts {d : Dd} (h : deedFault d = 0) : 0 ≤ d.By ∧ d.By < 4 ∧ 0 ≤ d.No ∧ d.No ≤ 120 ∧ 0 ≤ d.Seen ∧ d.Seen ≤ 120 ∧ 0 ≤ d.At ∧ d.At ≤ 200 ∧ ((d.Kind = 1 ∧ d.Many = 0) ∨ (d.Kind = 2 ∧ 1 ≤ d.Many ∧ d.Many ≤ 200 ∧ d.Text = ⟨#[]⟩)) := by
  obtain ⟨h1, h2, h3, h4, h5, h6, h7, h8⟩ := deedFault_zero h
  have hw : 0 ≤ d.By ∧ d.By < 4 := by simp [isWriter] at h1; omega
  refine ⟨hw.1, hw.2, by omega, h3, h4, h5, h6, h7, ?_⟩
  rcases h8 with ⟨k1, k2, _⟩ | ⟨k1, k2, k3, k4⟩
  · exact .inl ⟨k1, k2⟩
  · refine .inr ⟨k1, k2, k3, ?_⟩
    have : d.Text.data.size = 0 := k4
    have e : d.Text.data = #[] := Array.eq_empty_of_size_eq_zero this
    cases hd : d.Text with
    | mk x => rw [hd] at e; simp only at e; rw [e]
/-- There and back. -/
theorem parse_line {d : Dd} (h : deedFault d = 0) : parseF (lineB d) = (d, 0) := by
  obtain ⟨a1, a2, b1, b2, c1, c2, e1, e2, hk⟩ := fault_facts h
  have hkb : ∀ c ∈ kindB d, c ≠ 32 := by unfold kindB; split <;> decide
  have hw : wordsF 5 (lineB d) = some ([kindB d, Lib.itoa d.By, Lib.itoa d.No, Lib.itoa d.Seen, Lib.itoa d.At], lastB d) := by
    unfold lineB
    simp only [wordsF]
    rw [wordF_app _ _ hkb]; simp only
    rw [wordF_app _ _ (itoa_noblank _ a1)]; simp only
    rw [wordF_app _ _ (itoa_noblank _ b1)]; simp only
    rw [wordF_app _ _ (itoa_noblank _ c1)]; simp only
    rw [wordF_app _ _ (itoa_noblank _ e1)]; rfl
  unfold parseF
  rw [hw]
  simp only
  rw [numOf_itoa _ a1 (by omega), numOf_itoa _ b1 (by omega), numOf_itoa _ c1 (by omega), numOf_itoa _ e1 (by omega)]
  rcases hk with ⟨k1, k2⟩ | ⟨k1, k2, k3, k4⟩
  · have hkind : kindB d = putB := by unfold kindB; rw [if_neg (by omega)]
    have hl : lastB d = d.Text.data.toList := by unfold lastB; rw [if_neg (by omega)]
    rw [if_pos hkind, hl]
    simp only
    have ed : (⟨1, d.By, d.No, d.Seen, d.At, 0, ⟨d.Text.data.toList.toArray⟩⟩ : Dd) = d := by
      cases d; simp_all
    rw [ed]; unfold chkD; rw [if_pos h]
  · have hkind : kindB d = takeB := by unfold kindB; rw [if_pos k1]
    have hl : lastB d = Lib.itoa d.Many := by unfold lastB; rw [if_pos k1]
    rw [if_neg (by rw [hkind]; decide), if_pos hkind, hl, numOf_itoa _ (by omega) (by omega)]
    simp only
    have ed : (⟨2, d.By, d.No, d.Seen, d.At, d.Many, ⟨#[]⟩⟩ : Dd) = d := by
      cases d; simp_all
    rw [ed]; unfold chkD; rw [if_pos h]
theorem words_eq : ∀ (n : Nat) (s : Str) (ws : List Str) (r : Str), wordsF n s = some (ws, r) → s = ws.foldr (fun a t => a ++ 32 :: t) r := by
  intro n
  induction n with
  | zero => intro s ws r h; cases h; rfl
  | succ n ih =>
    intro s ws r h
    unfold wordsF at h
    cases hw : wordF s with
    | none => rw [hw] at h; cases h
    | some p =>
      obtain ⟨a, r'⟩ := p
      rw [hw] at h
      simp only at h
      cases h2 : wordsF n r' with
      | none => rw [h2] at h; cases h
      | some q =>
        obtain ⟨ws', r2⟩ := q
        rw [h2] at h
        simp only [Option.map_some, Option.some.injEq, Prod.mk.injEq] at h
        obtain ⟨rfl, rfl⟩ := h
        rw [(wordF_some hw).1]
        show _ = a ++ 32 :: _
        rw [← ih _ _ _ h2]
theorem chkD_zero {d : Dd} (h : (chkD d).2 = 0) : (chkD d).1 = d ∧ deedFault d = 0 := by
  unfold chkD at *
  split at h
  · rename_i e; rw [if_pos e]; exact ⟨rfl, e⟩
  · rename_i e; exact absurd h e
theorem line_parse {s : Str} (h : (parseF s).2 = 0) : deedFault (parseF s).1 = 0 ∧ lineB (parseF s).1 = s := by
  unfold parseF at *
  cases hw : wordsF 5 s with
  | none => rw [hw] at h; exact absurd h (by decide)
  | some p =>
    obtain ⟨ws, r⟩ := p
    have hlen := (wordsF_len 5 s ws r hw).2
    have he := words_eq 5 s ws r hw
    match ws, hlen with
    | [k, a, b, c, e], _ =>
      rw [hw] at h
      simp only [List.foldr_cons, List.foldr_nil] at he
      simp only at h ⊢
      by_cases hp : k = putB
      · rw [if_pos hp] at h ⊢
        cases ha : numOf a <;> cases hb : numOf b <;> cases hc : numOf c <;> cases hee : numOf e <;> simp only [ha, hb, hc, hee] at h ⊢ <;> first | (exact absurd h (by decide)) | skip
        obtain ⟨h1, h2⟩ := chkD_zero h
        rw [h1]
        refine ⟨h2, ?_⟩
        unfold lineB kindB lastB
        rw [if_neg (by show ¬ (1 : Int) = 2; omega), if_neg (by show ¬ (1 : Int) = 2; omega)]
        simp only
        rw [numOf_some ha, numOf_some hb, numOf_some hc, numOf_some hee, ← hp]
        exact he.symm
      · rw [if_neg hp] at h ⊢
        by_cases ht : k = takeB
        · rw [if_pos ht] at h ⊢
          cases ha : numOf a <;> cases hb : numOf b <;> cases hc : numOf c <;> cases hee : numOf e <;> cases hr : numOf r <;> simp only [ha, hb, hc, hee, hr] at h ⊢ <;> first | (exact absurd h (by decide)) | skip
          obtain ⟨h1, h2⟩ := chkD_zero h
          rw [h1]
          refine ⟨h2, ?_⟩
          unfold lineB kindB lastB
          rw [if_pos rfl, if_pos rfl]
          simp only
          rw [numOf_some ha, numOf_some hb, numOf_some hc, numOf_some hee, numOf_some hr, ← ht]
          exact he.symm
        · rw [if_neg ht] at h; exact absurd h (by decide)
/-- Two deeds with one line are the same. -/
theorem line_inj {d e : Dd} (hd : deedFault d = 0) (he : deedFault e = 0) : lineB d = lineB e ↔ d = e := by
  refine ⟨fun h => ?_, fun h => by rw [h]⟩
  have h1 := parse_line hd
  have h2 := parse_line he
  rw [h] at h1
  rw [h1] at h2
  injection h2
/-- The bytes of a line, and its kind. -/
theorem text_bytes {s : ByteArray} (h : textOk s = true) : ∀ c ∈ s.data.toList, 32 ≤ c.toNat ∧ c.toNat ≤ 126 := by
  intro c hc
  unfold textOk at h
  simp only [Bool.and_eq_true, List.all_eq_true, bytesOf, List.mem_map] at h
  have := h.2 (c.toNat : Int) ⟨c, hc, rfl⟩
  unfold badByte at this
  simp at this
  omega
theorem line_bytes {d : Dd} (h : deedFault d = 0) : ∀ c ∈ lineB d, 32 ≤ c.toNat ∧ c.toNat ≤ 126 := by
  obtain ⟨a1, a2, b1, b2, c1, c2, e1, e2, hk⟩ := fault_facts h
  have hn : ∀ n : Int, 0 ≤ n → ∀ c ∈ Lib.itoa n, 32 ≤ c.toNat ∧ c.toNat ≤ 126 := fun n hn c hc => by have := itoa_bytes n hn c hc; omega
  have hkb : ∀ c ∈ kindB d, 32 ≤ c.toNat ∧ c.toNat ≤ 126 := by unfold kindB; split <;> decide
  have h32 : 32 ≤ (32 : UInt8).toNat ∧ (32 : UInt8).toNat ≤ 126 := by decide
  have hl : ∀ c ∈ lastB d, 32 ≤ c.toNat ∧ c.toNat ≤ 126 := by
    unfold lastB
    split
    · exact hn _ (by omega)
    · rename_i hk2
      rcases (deedFault_zero h).2.2.2.2.2.2.2 with ⟨_, _, k3⟩ | ⟨k1, _⟩
      · exact text_bytes k3
      · exact absurd k1 hk2
  intro c hc
  unfold lineB at hc
  simp only [List.mem_append, List.mem_cons] at hc
  rcases hc with hc | rfl | hc | rfl | hc | rfl | hc | rfl | hc | rfl | hc
  · exact hkb c hc
  · exact h32
  · exact hn _ a1 c hc
  · exact h32
  · exact hn _ b1 c hc
  · exact h32
  · exact hn _ c1 c hc
  · exact h32
  · exact hn _ e1 c hc
  · exact h32
  · exact hl c hc
theorem line_kind {d : Dd} (h : deedFault d = 0) : (d.Kind = 1 ∧ d.Text.size ≠ 0 ∧ d.Many = 0 ∧ ∃ r, lineB d = 112 :: 117 :: 116 :: 32 :: r ∧ 1 ≤ r.length) ∨ (d.Kind = 2 ∧ d.Text.size = 0 ∧ 0 < d.Many ∧ ∃ r, lineB d = 116 :: 97 :: 107 :: 101 :: 32 :: r ∧ 1 ≤ r.length) := by
  obtain ⟨_, _, _, _, _, _, _, hk⟩ := deedFault_zero h
  have hr : ∀ x : Str, 1 ≤ (Lib.itoa d.By ++ 32 :: x).length := fun x => by rw [List.length_append, List.length_cons]; omega
  rcases hk with ⟨k1, k2, k3⟩ | ⟨k1, k2, k3, k4⟩
  · left
    refine ⟨k1, ?_, k2, Lib.itoa d.By ++ 32 :: (Lib.itoa d.No ++ 32 :: (Lib.itoa d.Seen ++ 32 :: (Lib.itoa d.At ++ 32 :: lastB d))), ?_, hr _⟩
    · have := (textOk_size k3).1; omega
    · unfold lineB kindB; rw [if_neg (by omega)]; rfl
  · right
    refine ⟨k1, k4, by omega, Lib.itoa d.By ++ 32 :: (Lib.itoa d.No ++ 32 :: (Lib.itoa d.Seen ++ 32 :: (Lib.itoa d.At ++ 32 :: lastB d))), ?_, hr _⟩
    unfold lineB kindB; rw [if_pos k1]; rfl
theorem line_len {d : Dd} (h : deedFault d = 0) : (lineB d).length ≤ 200 := by
  obtain ⟨a1, a2, b1, b2, c1, c2, e1, e2, hk⟩ := fault_facts h
  have hn : ∀ n : Int, 0 ≤ n → n ≤ 999 → (Lib.itoa n).length ≤ 3 := fun n h0 h1 => by
    rw [itoa_nat n h0, Lib.decDigits_length]
    have h2 : n.toNat < 10 ^ 3 := by omega
    rcases Nat.lt_or_ge n.toNat 10 with h3 | h3
    · rw [Lib.nDigits_small h3]; omega
    · rcases Nat.lt_or_ge n.toNat 100 with h4 | h4
      · rw [Lib.nDigits_unique 1 _ (by omega) (by omega)]; omega
      · rw [Lib.nDigits_unique 2 _ (by omega) (by omega)]; omega
  have hkb : (kindB d).length ≤ 4 := by unfold kindB; split <;> decide
  have hl : (lastB d).length ≤ 20 := by
    unfold lastB
    split
    · have := hn d.Many (by omega) (by omega); omega
    · rename_i hk2
      rcases (deedFault_zero h).2.2.2.2.2.2.2 with ⟨_, _, k3⟩ | ⟨k1, _⟩
      · exact (textOk_size k3).2
      · exact absurd k1 hk2
  have h1 := hn d.By a1 (by omega)
  have h2 := hn d.No b1 (by omega)
  have h3 := hn d.Seen c1 (by omega)
  have h4 := hn d.At e1 (by omega)
  unfold lineB
  simp only [List.length_append, List.length_cons]
  omega
end Go.Proofs.YtneoeokfffnonabGreatDoor
