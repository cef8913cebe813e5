/- The plain functions of layers 2 and 3 (a deed, deeds done to a list). No program in sight. -/
import Derived.Test.YtneoeokfffnonaaBehindP
namespace Go.Proofs.Ytneoeokfffnonaa
open Go.RowKit

/-- A deed, as plain data. -/
structure Dd where
  (Kind By No Seen At Many : Int) (Text : ByteArray)
  deriving DecidableEq

def Dd.cells (d : Dd) : List Value := [.int .i64 d.Kind, .int .i64 d.By, .int .i64 d.No, .int .i64 d.Seen, .int .i64 d.At, .int .i64 d.Many, .string d.Text]
def Dd.ok (d : Dd) : Prop := i64ok d.Kind ∧ i64ok d.By ∧ i64ok d.No ∧ i64ok d.Seen ∧ i64ok d.At ∧ i64ok d.Many ∧ d.Text.size ≤ maxLen

def bytesOf (s : ByteArray) : List Int := s.data.toList.map fun u => (u.toNat : Int)
theorem bytesOf_length (s : ByteArray) : (bytesOf s).length = s.size := by simp [bytesOf]
def badByte (x : Int) : Bool := decide (x < 32) || decide (126 < x)
def textOk (s : ByteArray) : Bool := decide (0 < s.size) && decide (s.size ≤ 20) && (bytesOf s).all fun x => !badByte x

def deedRange (d : Dd) : Bool := !isWriter d.By || decide (d.No < 1) || decide (120 < d.No) || decide (d.Seen < 0) || decide (120 < d.Seen) || decide (d.At < 0) || decide (200 < d.At)
def deedFault (d : Dd) : Int :=
  if d.Kind = 1 then
    if deedRange d then 1 else if d.Many = 0 then (if textOk d.Text then 0 else 4) else 3
  else if d.Kind = 2 then
    if deedRange d then 1 else if d.Text.size = 0 then (if d.Many < 1 ∨ 200 < d.Many then 1 else 0) else 3
  else 2

/-- What a deed that has no fault is. -/
theorem deedFault_zero {d : Dd} (h : deedFault d = 0) : isWriter d.By = true ∧ 1 ≤ d.No ∧ d.No ≤ 120 ∧ 0 ≤ d.Seen ∧ d.Seen ≤ 120 ∧ 0 ≤ d.At ∧ d.At ≤ 200 ∧
    ((d.Kind = 1 ∧ d.Many = 0 ∧ textOk d.Text = true) ∨ (d.Kind = 2 ∧ 1 ≤ d.Many ∧ d.Many ≤ 200 ∧ d.Text.size = 0)) := by
  unfold deedFault at h
  by_cases h1 : d.Kind = 1
  · rw [if_pos h1] at h
    by_cases hr : deedRange d = true
    · rw [if_pos hr] at h; omega
    · rw [if_neg hr] at h
      simp only [Bool.not_eq_true] at hr
      simp only [deedRange, Bool.or_eq_false_iff, Bool.not_eq_false', decide_eq_false_iff_not] at hr
      by_cases hm : d.Many = 0
      · rw [if_pos hm] at h
        by_cases ht : textOk d.Text = true
        · exact ⟨hr.1.1.1.1.1.1, by omega, by omega, by omega, by omega, by omega, by omega, .inl ⟨h1, hm, ht⟩⟩
        · rw [if_neg ht] at h; omega
      · rw [if_neg hm] at h; omega
  · rw [if_neg h1] at h
    by_cases h2 : d.Kind = 2
    · rw [if_pos h2] at h
      by_cases hr : deedRange d = true
      · rw [if_pos hr] at h; omega
      · rw [if_neg hr] at h
        simp only [Bool.not_eq_true] at hr
        simp only [deedRange, Bool.or_eq_false_iff, Bool.not_eq_false', decide_eq_false_iff_not] at hr
        by_cases hm : d.Text.size = 0
        · rw [if_pos hm] at h
          by_cases ht : d.Many < 1 ∨ 200 < d.Many
          · rw [if_pos ht] at h; omega
          · exact ⟨hr.1.1.1.1.1.1, by omega, by omega, by omega, by omega, by omega, by omega, .inr ⟨h2, by omega, by omega, hm⟩⟩
        · rw [if_neg hm] at h; omega
    · rw [if_neg h2] at h; omega

def newOf (d : Dd) (number : Int) : List Ch := (bytesOf d.Text).mapIdx fun k c => ⟨c, d.By, d.No, k, number, 0, 0⟩
theorem newOf_length (d : Dd) (number : Int) : (newOf d number).length = d.Text.size := by rw [newOf, List.length_mapIdx, bytesOf_length]

def mayDo (l : List Ch) (d : Dd) : Int :=
  if deedFault d = 0 then
    if ((vis d.Seen d.By l).length : Int) < d.At + d.Many then 1 else if 200 < l.length + d.Text.size then 9 else 0
  else deedFault d

theorem mayDo_zero {l : List Ch} {d : Dd} (h : mayDo l d = 0) : deedFault d = 0 ∧ d.At + d.Many ≤ ((vis d.Seen d.By l).length : Int) ∧ l.length + d.Text.size ≤ 200 := by
  unfold mayDo at h
  by_cases h1 : deedFault d = 0
  · rw [if_pos h1] at h
    by_cases h2 : ((vis d.Seen d.By l).length : Int) < d.At + d.Many
    · rw [if_pos h2] at h; omega
    · rw [if_neg h2] at h
      by_cases h3 : 200 < l.length + d.Text.size
      · rw [if_pos h3] at h; omega
      · exact ⟨h1, by omega, by omega⟩
  · rw [if_neg h1] at h; exact absurd h h1

theorem mayDo_intro {l : List Ch} {d : Dd} (h1 : deedFault d = 0) (h2 : d.At + d.Many ≤ ((vis d.Seen d.By l).length : Int)) (h3 : l.length + d.Text.size ≤ 200) : mayDo l d = 0 := by
  unfold mayDo; rw [if_pos h1, if_neg (by omega), if_neg (by omega)]

def openOther (by_ : Int) (c : Ch) : Bool := c.In == 1073741824 && c.By != by_
def skip (by_ : Int) (l : List Ch) (k : Nat) : Nat := k + ((l.drop k).takeWhile (openOther by_)).length
def putAt (l : List Ch) (d : Dd) : Nat := skip d.By l (behind d.Seen d.By l d.At).toNat

theorem skip_le (by_ : Int) (l : List Ch) (k : Nat) (h : k ≤ l.length) : k ≤ skip by_ l k ∧ skip by_ l k ≤ l.length := by
  unfold skip
  have := (List.takeWhile_sublist (openOther by_) (l := l.drop k)).length_le
  rw [List.length_drop] at this
  omega
theorem skip_step (by_ : Int) (l : List Ch) (k : Nat) (h : k < l.length) : skip by_ l k = if openOther by_ l[k] then skip by_ l (k + 1) else k := by
  unfold skip
  rw [List.drop_eq_getElem_cons h, List.takeWhile_cons]
  split
  · simp only [List.length_cons]; omega
  · simp
theorem skip_end (by_ : Int) (l : List Ch) (k : Nat) (h : l.length ≤ k) : skip by_ l k = k := by
  unfold skip; rw [List.drop_of_length_le h]; rfl

def mark (by_ number : Int) (c : Ch) : Ch := { c with Gone := c.Gone + bitOf by_, Out := if number ≠ 1073741824 ∧ (c.Out = 0 ∨ number < c.Out) then number else c.Out }

def takeGo (seen by_ lo hi number : Int) : List Ch → Int → List Ch
  | [], _ => []
  | c :: l, k => if c.sees seen by_ then (if lo ≤ k ∧ k < hi then mark by_ number c else c) :: takeGo seen by_ lo hi number l (k + 1) else c :: takeGo seen by_ lo hi number l k

theorem takeGo_length (seen by_ lo hi number : Int) (l : List Ch) : ∀ k, (takeGo seen by_ lo hi number l k).length = l.length := by
  induction l with
  | nil => intro k; rfl
  | cons c l ih => intro k; unfold takeGo; split <;> simp [ih]

theorem takeGo_get (seen by_ lo hi number : Int) (l : List Ch) : ∀ (k : Int) (i : Nat), (takeGo seen by_ lo hi number l k)[i]? =
    (l[i]?).map fun c => if c.sees seen by_ = true ∧ lo ≤ k + (vis seen by_ (l.take i)).length ∧ k + (vis seen by_ (l.take i)).length < hi then mark by_ number c else c := by
  induction l with
  | nil => intro k i; simp [takeGo]
  | cons c l ih =>
    intro k i
    unfold takeGo
    cases i with
    | zero =>
      cases hs : c.sees seen by_ <;> simp [hs, vis]
    | succ i =>
      have hv := vis_cons seen by_ c (l.take i)
      cases hs : c.sees seen by_
      · simp only [hs, Bool.false_eq_true, if_false, List.getElem?_cons_succ, ih, List.take_succ_cons, hv, List.nil_append]
      · simp only [hs, if_true, List.getElem?_cons_succ, ih, List.take_succ_cons, hv, List.cons_append, List.nil_append, List.length_cons]
        have e : k + 1 + ((vis seen by_ (l.take i)).length : Int) = k + (((vis seen by_ (l.take i)).length + 1 : Nat) : Int) := by omega
        rw [e]

def doF (l : List Ch) (d : Dd) (number : Int) : List Ch × Int :=
  if mayDo l d = 0 then
    if number < 1 then ([], 1)
    else if d.Kind = 1 then (l.take (putAt l d) ++ newOf d number ++ l.drop (putAt l d), 0)
    else (takeGo d.Seen d.By d.At (d.At + d.Many) number l 0, 0)
  else ([], mayDo l d)

theorem doF_cases (l : List Ch) (d : Dd) (number : Int) :
    (mayDo l d ≠ 0 ∧ doF l d number = ([], mayDo l d)) ∨ (mayDo l d = 0 ∧ number < 1 ∧ doF l d number = ([], 1)) ∨
    (mayDo l d = 0 ∧ 1 ≤ number ∧ d.Kind = 1 ∧ doF l d number = (l.take (putAt l d) ++ newOf d number ++ l.drop (putAt l d), 0)) ∨
    (mayDo l d = 0 ∧ 1 ≤ number ∧ d.Kind = 2 ∧ doF l d number = (takeGo d.Seen d.By d.At (d.At + d.Many) number l 0, 0)) := by
  by_cases h : mayDo l d = 0
  · by_cases hn : number < 1
    · exact .inr (.inl ⟨h, hn, by unfold doF; rw [if_pos h, if_pos hn]⟩)
    · by_cases hk : d.Kind = 1
      · exact .inr (.inr (.inl ⟨h, by omega, hk, by unfold doF; rw [if_pos h, if_neg hn, if_pos hk]⟩))
      · refine .inr (.inr (.inr ⟨h, by omega, ?_, by unfold doF; rw [if_pos h, if_neg hn, if_neg hk]⟩))
        rcases (deedFault_zero (mayDo_zero h).1).2.2.2.2.2.2.2 with ⟨h1, _⟩ | ⟨h2, _⟩
        · exact absurd h1 hk
        · exact h2
  · exact .inl ⟨h, by unfold doF; rw [if_neg h]⟩

theorem behind_le (seen by_ : Int) (l : List Ch) (n : Int) : behind seen by_ l n ≤ l.length := by
  by_cases h : n < 0 ∨ ((vis seen by_ l).length : Int) < n
  · rw [behind_no seen by_ l n h]; omega
  · by_cases h0 : n = 0
    · unfold behind; rw [if_pos h0]; omega
    · obtain ⟨m, rfl⟩ := Int.eq_ofNat_of_zero_le (show 0 ≤ n by omega)
      obtain ⟨k, hk, he, _⟩ := behind_pos seen by_ l m (by omega) (by omega)
      omega

theorem putAt_le (l : List Ch) (d : Dd) : putAt l d ≤ l.length := by
  have := behind_le d.Seen d.By l d.At
  exact (skip_le d.By l _ (by omega)).2

/-- All deeds, one behind the other. -/
def allFrom : List Ch → Int → List Dd → List Ch × Int × Int
  | out, _, [] => (out, 0, 0)
  | out, i, d :: ds => if (doF out d (i + 1)).2 = 0 then allFrom (doF out d (i + 1)).1 (i + 1) ds else ([], (doF out d (i + 1)).2, i)
def allF (ds : List Dd) : List Ch × Int × Int := allFrom [] 0 ds

theorem allFrom_cons (out : List Ch) (i : Int) (d : Dd) (ds : List Dd) : allFrom out i (d :: ds) = if (doF out d (i + 1)).2 = 0 then allFrom (doF out d (i + 1)).1 (i + 1) ds else ([], (doF out d (i + 1)).2, i) := rfl

theorem allFrom_append (ds es : List Dd) : ∀ (out : List Ch) (i : Int), allFrom out i (ds ++ es) = if (allFrom out i ds).2.1 = 0 then allFrom (allFrom out i ds).1 (i + ds.length) es else allFrom out i ds := by
  induction ds with
  | nil => intro out i; simp [allFrom]
  | cons d ds ih =>
    intro out i
    rw [List.cons_append, allFrom_cons, allFrom_cons]
    by_cases h : (doF out d (i + 1)).2 = 0
    · rw [if_pos h, if_pos h, ih]
      have e : i + 1 + (ds.length : Int) = i + ((d :: ds).length : Int) := by simp; omega
      rw [e]
    · rw [if_neg h, if_neg h]
      exact (if_neg h).symm

def textF (l : List Ch) : List Int := viewN 1073741823 (-1) l
end Go.Proofs.Ytneoeokfffnonaa
