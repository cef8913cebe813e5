/- Lines of a desk: their words, what they ask for, what they tell. No program in sight. -/
import Derived.Test.YtneoeokfffnonabGreatDoorPlainE
import Derived.Test.YtneoeokfffnonabGreatDoorPlainW
import Derived.Lib.IndexMore
import Derived.Lib.SplitLaws
set_option linter.unusedVariables false
set_option linter.unusedSimpArgs false
namespace Go.Proofs.YtneoeokfffnonabGreatDoor
open Go.RowKit Go

/-- The words of a line, parted by blanks: what goes on behind 'cur'. -/
def wordsGo (cur : Str) : Str → List Str
  | [] => if cur = [] then [] else [cur]
  | c :: l => if c = 32 then (if cur = [] then wordsGo [] l else cur :: wordsGo [] l) else wordsGo (cur ++ [c]) l
def wordsK (s : Str) : List Str := wordsGo [] s
theorem wordsGo_app : ∀ (a cur r : Str), (∀ c ∈ a, c ≠ 32) → wordsGo cur (a ++ 32 :: r) = (if cur ++ a = [] then [] else [cur ++ a]) ++ wordsGo [] r := by
  intro a
  induction a with
  | nil =>
    intro cur r _
    rw [List.nil_append, List.append_nil]
    show (if (32 : UInt8) = 32 then (if cur = [] then wordsGo [] r else cur :: wordsGo [] r) else _) = _
    rw [if_pos rfl]
    by_cases h : cur = []
    · rw [if_pos h, if_pos h]; rfl
    · rw [if_neg h, if_neg h]; rfl
  | cons c a ih =>
    intro cur r h
    have hc := h c List.mem_cons_self
    show (if c = 32 then (if cur = [] then wordsGo [] (a ++ 32 :: r) else cur :: wordsGo [] (a ++ 32 :: r)) else wordsGo (cur ++ [c]) (a ++ 32 :: r)) = _
    rw [if_neg hc, ih _ _ fun x hx => h x (List.mem_cons_of_mem _ hx)]
    simp
theorem wordsGo_end : ∀ (a cur : Str), (∀ c ∈ a, c ≠ 32) → wordsGo cur a = if cur ++ a = [] then [] else [cur ++ a] := by
  intro a
  induction a with
  | nil => intro cur _; rw [List.append_nil]; rfl
  | cons c a ih =>
    intro cur h
    have hc := h c List.mem_cons_self
    show (if c = 32 then (if cur = [] then wordsGo [] a else cur :: wordsGo [] a) else wordsGo (cur ++ [c]) a) = _
    rw [if_neg hc, ih _ fun x hx => h x (List.mem_cons_of_mem _ hx)]
    simp
/-- One step of the document's loop. -/
theorem wordsGo_cons (cur : Str) (c : UInt8) (l : Str) : wordsGo cur (c :: l) = if c = 32 then (if cur = [] then [] else [cur]) ++ wordsGo [] l else wordsGo (cur ++ [c]) l := by
  show (if c = 32 then (if cur = [] then wordsGo [] l else cur :: wordsGo [] l) else wordsGo (cur ++ [c]) l) = _
  split
  · split <;> rfl
  · rfl
theorem count32 (s : Str) : (wordF s = none → s.count 32 = 0) ∧ ∀ a r, wordF s = some (a, r) → s.count 32 = r.count 32 + 1 := by
  refine ⟨fun h => ?_, fun a r h => ?_⟩
  · rw [List.count_eq_zero]
    exact fun hm => wordF_none h _ hm rfl
  · obtain ⟨h1, h2⟩ := wordF_some h
    rw [h1, List.count_append, List.count_cons_self, List.count_eq_zero.2 (fun hm => h2 _ hm rfl)]
    omega
theorem split_words : ∀ (k : Nat) (s : Str), s.count 32 = k → (Lib.splitK [32] 0 k s).filter (fun x => decide (x ≠ [])) = wordsK s := by
  intro k
  induction k with
  | zero =>
    intro s hs
    have hn : wordF s = none := by
      cases h : wordF s with
      | none => rfl
      | some p => have := (count32 s).2 p.1 p.2 h; omega
    show ([s] : List Str).filter _ = wordsGo [] s
    rw [wordsGo_end s [] (wordF_none hn), List.nil_append]
    by_cases h : s = []
    · simp [h]
    · simp [h]
  | succ k ih =>
    intro s hs
    unfold Lib.splitK
    rcases index_word s with ⟨h1, h2⟩ | ⟨a, r, h1, h2⟩
    · have := (count32 s).1 h1; omega
    · have hc := (count32 s).2 a r h1
      rw [h2]
      have hne : ((a.length : Int) == -1) = false := by rw [beq_eq_false_iff_ne]; omega
      obtain ⟨e, hb⟩ := wordF_some h1
      have ht : s.take ((a.length : Int).toNat + 0) = a := by rw [e]; simp
      have hd : s.drop ((a.length : Int).toNat + [(32 : UInt8)].length) = r := by rw [e]; simp
      rw [hne, ht, hd]
      simp only [Bool.false_eq_true, if_false]
      rw [List.filter_cons, ih r (by omega)]
      show _ = wordsGo [] s
      rw [e, wordsGo_app a [] r hb, List.nil_append]
      by_cases h : a = []
      · simp [h, wordsK]
      · simp [h, wordsK]
theorem words_split (s : Str) : (Lib.split s [32]).filter (fun x => decide (x ≠ [])) = wordsK s := by
  unfold Lib.split
  rw [Lib.count_one]
  exact split_words _ s rfl
theorem words_len (s : Str) : ∀ cur : Str, (wordsGo cur s).length ≤ s.length + 1 ∧ ∀ x ∈ wordsGo cur s, x.length ≤ cur.length + s.length ∧ x ≠ [] := by
  induction s with
  | nil =>
    intro cur
    show (if cur = [] then ([] : List Str) else [cur]).length ≤ 1 ∧ ∀ x ∈ (if cur = [] then ([] : List Str) else [cur]), _
    split
    · exact ⟨by simp, fun x hx => by cases hx⟩
    · rename_i h
      exact ⟨by simp, fun x hx => by simp at hx; subst hx; exact ⟨by simp, h⟩⟩
  | cons c l ih =>
    intro cur
    rw [wordsGo_cons]
    split
    · obtain ⟨h1, h2⟩ := ih []
      split
      · exact ⟨by simp; omega, fun x hx => by
          obtain ⟨k1, k2⟩ := h2 x hx
          exact ⟨by simp at k1 ⊢; omega, k2⟩⟩
      · rename_i h
        refine ⟨by simp; omega, fun x hx => ?_⟩
        simp only [List.singleton_append, List.mem_cons] at hx
        rcases hx with rfl | hx
        · exact ⟨by simp, h⟩
        · obtain ⟨k1, k2⟩ := h2 x hx
          exact ⟨by simp at k1 ⊢; omega, k2⟩
    · obtain ⟨h1, h2⟩ := ih (cur ++ [c])
      exact ⟨by simp; omega, fun x hx => by
        obtain ⟨k1, k2⟩ := h2 x hx
        exact ⟨by simp at k1 ⊢; omega, k2⟩⟩

/-- Numbers of words. -/
def numsK : List Str → Option (List Int)
  | [] => some []
  | s :: l => match numOf s with
    | none => none
    | some n => (numsK l).map (n :: ·)
theorem numsK_app : ∀ (l : List Str) (s : Str), numsK (l ++ [s]) = match numsK l with | none => none | some ns => (numOf s).map fun n => ns ++ [n] := by
  intro l
  induction l with
  | nil => intro s; show (match numOf s with | none => none | some n => (some []).map (n :: ·)) = _; cases numOf s <;> rfl
  | cons a l ih =>
    intro s
    show (match numOf a with | none => none | some n => (numsK (l ++ [s])).map (n :: ·)) = _
    rw [ih]
    show _ = match (match numOf a with | none => none | some n => (numsK l).map (n :: ·)) with | none => none | some ns => (numOf s).map fun n => ns ++ [n]
    cases numOf a with
    | none => rfl
    | some n =>
      cases numsK l with
      | none => rfl
      | some ns => cases numOf s <;> rfl
theorem numsK_stop (l : List Str) (k : Nat) (hk : k < l.length) (h : numOf l[k] = none) : numsK l = none := by
  induction l generalizing k with
  | nil => simp at hk
  | cons a l ih =>
    show (match numOf a with | none => none | some n => (numsK l).map (n :: ·)) = none
    cases k with
    | zero => simp only [List.getElem_cons_zero] at h; rw [h]
    | succ k =>
      simp only [List.getElem_cons_succ] at h
      rw [ih k (by simpa using hk) h]
      cases numOf a <;> rfl
theorem numsK_len : ∀ (l : List Str) (ns : List Int), numsK l = some ns → ns.length = l.length := by
  intro l
  induction l with
  | nil => intro ns h; cases h; rfl
  | cons a l ih =>
    intro ns h
    change (match numOf a with | none => none | some n => (numsK l).map (n :: ·)) = _ at h
    cases ha : numOf a with
    | none => rw [ha] at h; cases h
    | some n =>
      rw [ha] at h
      cases hl : numsK l with
      | none => rw [hl] at h; cases h
      | some ms =>
        rw [hl] at h
        cases h
        simp [ih ms hl]

/-- What a line asks for. -/
inductive Ask where
  | step (x : DStep)
  | text (w : Int)
  | all
  | opn (w : Int)
  | log
  | thn (n : Int)
  | settle
  | least
  | what
  | nothing
def joinB : Str := [106, 111, 105, 110]
def sendB : Str := [115, 101, 110, 100]
def hearB : Str := [104, 101, 97, 114]
def clearB : Str := [99, 108, 101, 97, 114]
def leaveB : Str := [108, 101, 97, 118, 101]
def textB : Str := [116, 101, 120, 116]
def openB : Str := [111, 112, 101, 110]
def logB : Str := [108, 111, 103]
def thenB : Str := [116, 104, 101, 110]
def settleB : Str := [115, 101, 116, 116, 108, 101]
def leastB : Str := [108, 101, 97, 115, 116]
def whatB : Str := [119, 104, 97, 116]
def noB : Str := [110, 111]
def okB : Str := [111, 107]
def endB : Str := [101, 110, 100]
def byB : Str := [98, 121]
/-- A word with one number that is a step. -/
def stepK (w : Str) : Option Int :=
  if w = joinB then some 1 else if w = sendB then some 4 else if w = hearB then some 5 else if w = clearB then some 6 else if w = leaveB then some 7 else none
def askN (w : Str) (n : List Int) : Ask := match stepK w, n with
  | some k, [a] => .step ⟨k, a, 0, 0, ⟨#[]⟩⟩
  | _, n =>
    if w = takeB then (match n with | [a, b, c] => .step ⟨3, a, b, c, ⟨#[]⟩⟩ | _ => .what)
    else if w = textB then (match n with | [a] => .text a | [] => .all | _ => .what)
    else if w = openB then (match n with | [a] => .opn a | _ => .what)
    else if w = logB then (match n with | [] => .log | _ => .what)
    else if w = thenB then (match n with | [a] => .thn a | _ => .what)
    else if w = settleB then (match n with | [] => .settle | _ => .what)
    else if w = leastB then (match n with | [] => .least | _ => .what)
    else .what
def askW : List Str → Ask
  | [] => .nothing
  | w :: l => match numsK l with
    | none => .what
    | some n => askN w n
def askF (s : Str) : Ask := match wordsF 3 s with
  | some ([k, a, b], t) =>
    if k = putB then (match numOf a, numOf b with
      | some A, some B => .step ⟨2, A, B, 0, ⟨t.toArray⟩⟩
      | _, _ => askW (wordsK s))
    else askW (wordsK s)
  | _ => askW (wordsK s)

/-- What desks tell when they are asked: lines. -/
def codeL (c : Int) : Str := if c = 0 then okB else noB ++ 32 :: Lib.itoa c
def strL (l : List Int) : Str := (strOfNums l).data.toList
def bysS : List Int → Str
  | [] => []
  | k :: l => 32 :: (Lib.itoa k ++ bysS l)
def tellK (d : DkM) : Ask → DkM × List Str
  | .step x => ((d.step x).1, [codeL (d.step x).2])
  | .text w => (d, match d.writer w with | none => [codeL 5] | some m => [textB ++ 32 :: strL m.view])
  | .all => (d, [textB ++ 32 :: strL d.lm.view])
  | .opn w => (d, match d.writer w with | none => [codeL 5] | some m => m.ds.map lineB ++ [endB])
  | .log => (d, d.lm.L.map lineB ++ [endB])
  | .thn n => (d, if 0 ≤ n ∧ n ≤ d.lm.L.length then [textB ++ 32 :: strL (txtL d.lm.L n.toNat), byB ++ bysS (bysL d.lm.L n.toNat)] else [codeL 5])
  | .settle => (settle d, [okB])
  | .least => (d, [leastB ++ 32 :: (Lib.itoa d.lm.least ++ 32 :: Lib.itoa (d.lm.L.length : Int))])
  | .what => (d, [whatB])
  | .nothing => (d, [])
/-- Lines told, each with its newline. -/
def linesS : List Str → Str
  | [] => []
  | s :: l => s ++ 10 :: linesS l
theorem linesS_app (a b : List Str) : linesS (a ++ b) = linesS a ++ linesS b := by
  induction a with
  | nil => rfl
  | cons s l ih => show s ++ 10 :: linesS (l ++ b) = (s ++ 10 :: linesS l) ++ linesS b; rw [ih]; simp
def lineK (d : DkM) (s : Str) : DkM × Str := ((tellK d (askF s)).1, linesS (tellK d (askF s)).2)
def linesK (d : DkM) : List Str → DkM × Str
  | [] => (d, [])
  | s :: l => ((linesK (lineK d s).1 l).1, (lineK d s).2 ++ (linesK (lineK d s).1 l).2)
/-- What lines tell one behind the other they tell together. -/
theorem linesK_app : ∀ (a b : List Str) (d : DkM), linesK d (a ++ b) = ((linesK (linesK d a).1 b).1, (linesK d a).2 ++ (linesK (linesK d a).1 b).2) := by
  intro a
  induction a with
  | nil => intro b d; rfl
  | cons s l ih =>
    intro b d
    show ((linesK (lineK d s).1 (l ++ b)).1, (lineK d s).2 ++ (linesK (lineK d s).1 (l ++ b)).2) = _
    rw [ih]
    show _ = ((linesK (linesK (lineK d s).1 l).1 b).1, ((lineK d s).2 ++ (linesK (lineK d s).1 l).2) ++ (linesK (linesK (lineK d s).1 l).1 b).2)
    simp
theorem tellK_ok {d : DkM} (h : d.Ok) (a : Ask) : (tellK d a).1.Ok := by
  cases a
  case step x => exact h.step x
  case settle => exact (settle_settled h).ok
  all_goals exact h
theorem linesK_ok : ∀ (l : List Str) {d : DkM}, d.Ok → (linesK d l).1.Ok := by
  intro l
  induction l with
  | nil => intro d h; exact h
  | cons s l ih => intro d h; exact ih (tellK_ok h _)
theorem tellK_sm {d : DkM} {N : Nat} (h : d.Sm N) (a : Ask) : (tellK d a).1.Sm (N + 1) := by
  cases a
  case step x => exact h.step x
  case settle => exact (h.settle).mono (by omega)
  all_goals exact h.mono (by omega)
theorem linesK_sm : ∀ (l : List Str) {d : DkM} {N : Nat}, d.Sm N → (linesK d l).1.Sm (N + l.length) := by
  intro l
  induction l with
  | nil => intro d N h; exact h
  | cons s l ih => intro d N h; have := ih (tellK_sm h (askF s)); exact this.mono (by simp; omega)
end Go.Proofs.YtneoeokfffnonabGreatDoor
