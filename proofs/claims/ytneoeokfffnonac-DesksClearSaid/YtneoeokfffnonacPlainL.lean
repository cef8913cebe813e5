/- Merged: LogP RhoP PreP Obj. -/
import Derived.Test.YtneoeokfffnonacPlain
set_option linter.unusedVariables false
set_option linter.unusedSimpArgs false

/- The log as a plain model, and its laws. No program in sight. -/
namespace Go.Proofs.Ytneoeokfffnonac
open Go.RowKit

structure St where
  (here : Bool) (last seen : Int)

/-- A log (and a Book): its deeds, and the seats of the four writers. -/
structure LogM where
  (L : List Dd) (S : Nat → St)

def upd (S : Nat → St) (i : Nat) (s : St) : Nat → St := fun j => if j = i then s else S j
@[simp] theorem upd_same (S : Nat → St) (i : Nat) (s : St) : upd S i s i = s := if_pos rfl
theorem upd_ne (S : Nat → St) (i j : Nat) (s : St) (h : j ≠ i) : upd S i s j = S j := if_neg h

def LogM.new : LogM := ⟨[], fun _ => ⟨false, 0, 0⟩⟩
def LogM.seat (m : LogM) (w : Int) : St := m.S w.toNat
def LogM.hereF (m : LogM) (w : Int) : Bool := isWriter w && (m.seat w).here
def LogM.put (m : LogM) (w : Int) (s : St) : LogM := { m with S := upd m.S w.toNat s }
def LogM.chars (m : LogM) : List Ch := (allF m.L).1

def LogM.joinF (m : LogM) (w : Int) : LogM × Int × Int :=
  if isWriter w then (if (m.seat w).here then (m, 0, 6) else (m.put w ⟨true, (m.seat w).last, m.L.length⟩, (m.seat w).last + 1, 0)) else (m, 0, 1)
def LogM.leaveF (m : LogM) (w : Int) : LogM × Int :=
  if m.hereF w then (m.put w ⟨false, (m.seat w).last, (m.seat w).seen⟩, 0) else (m, 5)
def LogM.saysF (m : LogM) (w n : Int) : LogM × Int :=
  if m.hereF w then (if n < (m.seat w).seen ∨ (m.L.length : Int) < n then (m, 8) else (m.put w ⟨(m.seat w).here, (m.seat w).last, n⟩, 0)) else (m, 5)
def LogM.takeF (m : LogM) (d : Dd) : LogM × Int × Int :=
  if m.hereF d.By then
    if d.No = (m.seat d.By).last + 1 then
      if d.Seen < (m.seat d.By).seen ∨ (m.L.length : Int) < d.Seen then (m, 0, 8)
      else if m.L.length = 120 then (m, 0, 9)
      else if (doF m.chars d ((m.L.length : Int) + 1)).2 = 0 then (⟨m.L ++ [d], upd m.S d.By.toNat ⟨(m.seat d.By).here, d.No, d.Seen⟩⟩, m.L.length + 1, 0)
      else (m, 0, (doF m.chars d ((m.L.length : Int) + 1)).2)
    else (m, 0, 7)
  else (m, 0, 5)
def LogM.leastTo (m : LogM) : Nat → Int
  | 0 => m.L.length
  | k + 1 => if (m.S k).here then min (m.leastTo k) (m.S k).seen else m.leastTo k
def LogM.least (m : LogM) : Int := m.leastTo 4

structure LStep where
  (Do W N : Int) (D : Dd) (Right : Bool)

def LogM.right (m : LogM) (x : LStep) : Dd :=
  if x.Right && isWriter x.D.By then { x.D with No := (m.seat x.D.By).last + 1, Seen := (m.seat x.D.By).seen + (IntKind.u64.wrap x.D.Seen) % ((m.L.length : Int) - (m.seat x.D.By).seen + 1) } else x.D
def LogM.step (m : LogM) (x : LStep) : LogM :=
  if x.Do = 0 then (m.joinF x.W).1 else if x.Do = 1 then (m.leaveF x.W).1 else if x.Do = 2 then (m.takeF (m.right x)).1 else if x.Do = 3 then (m.saysF x.W x.N).1 else m
def LogM.steps (m : LogM) (l : List LStep) : LogM := l.foldl LogM.step m

/-- How far a writer had seen the log by its last deed. -/
def lastSeen (w : Int) (ds : List Dd) : Int := ds.foldl (fun s d => if d.By = w then d.Seen else s) 0
theorem lastSeen_snoc (w : Int) (ds : List Dd) (d : Dd) : lastSeen w (ds ++ [d]) = if d.By = w then d.Seen else lastSeen w ds := by simp [lastSeen]
theorem cntBy_add (w : Int) (ds : List Dd) (d : Dd) : cntBy w (ds ++ [d]) = cntBy w ds + if d.By = w then 1 else 0 := by
  unfold cntBy; rw [List.filter_append, List.length_append]
  by_cases h : d.By = w <;> simp [h]

structure DeedOk (L : List Dd) (i : Nat) (d : Dd) : Prop where
  f : deedFault d = 0
  w : isWriter d.By = true
  no : d.No = cntBy d.By (L.take i) + 1
  s0 : 0 ≤ d.Seen
  s1 : d.Seen ≤ i
  s2 : lastSeen d.By (L.take i) ≤ d.Seen

structure LogM.Ok (m : LogM) : Prop where
  all : (allF m.L).2.1 = 0
  len : m.L.length ≤ 120
  last : ∀ w, isWriter w = true → (m.seat w).last = cntBy w m.L
  seen0 : ∀ w, isWriter w = true → 0 ≤ (m.seat w).seen
  seen1 : ∀ w, isWriter w = true → (m.seat w).seen ≤ m.L.length
  seen2 : ∀ w, isWriter w = true → lastSeen w m.L ≤ (m.seat w).seen
  deeds : ∀ i (h : i < m.L.length), DeedOk m.L i m.L[i]

theorem cntBy_le (w : Int) (ds : List Dd) : cntBy w ds ≤ ds.length := by unfold cntBy; have := List.length_filter_le (fun d : Dd => d.By == w) ds; omega

theorem LogM.new_ok : LogM.new.Ok := ⟨rfl, by simp [LogM.new], fun w _ => by simp [LogM.new, LogM.seat, cntBy], fun w _ => by simp [LogM.new, LogM.seat], fun w _ => by simp [LogM.new, LogM.seat], fun w _ => by simp [LogM.new, LogM.seat, lastSeen], fun i h => by simp [LogM.new] at h⟩

theorem seat_put (m : LogM) (w x : Int) (s : St) (hw : isWriter w = true) (hx : isWriter x = true) : (m.put w s).seat x = if x = w then s else m.seat x := by
  simp only [isWriter, Bool.and_eq_true, decide_eq_true_eq] at hw hx
  unfold LogM.put LogM.seat upd
  by_cases h : x = w
  · subst h; simp
  · rw [if_neg h]; simp only; rw [if_neg (by omega)]

/-- A seat that is put anew as it may be. -/
theorem LogM.Ok.put {m : LogM} (h : m.Ok) (w : Int) (hw : isWriter w = true) (b : Bool) (n : Int) (h1 : (m.seat w).seen ≤ n) (h2 : n ≤ m.L.length) : (m.put w ⟨b, (m.seat w).last, n⟩).Ok := by
  refine ⟨h.all, h.len, fun x hx => ?_, fun x hx => ?_, fun x hx => ?_, fun x hx => ?_, h.deeds⟩
  · rw [seat_put m w x _ hw hx]; split
    · rename_i e; subst e; exact h.last x hx
    · exact h.last x hx
  · rw [seat_put m w x _ hw hx]; split
    · have := h.seen0 w hw; show 0 ≤ n; omega
    · exact h.seen0 x hx
  · rw [seat_put m w x _ hw hx]; split
    · exact h2
    · exact h.seen1 x hx
  · rw [seat_put m w x _ hw hx]; split
    · rename_i e; subst e; have := h.seen2 x hx; show lastSeen x m.L ≤ n; omega
    · exact h.seen2 x hx

theorem LogM.hereF_writer {m : LogM} {w : Int} (h : m.hereF w = true) : isWriter w = true ∧ (m.seat w).here = true := by simpa [LogM.hereF] using h

theorem LogM.Ok.join {m : LogM} (h : m.Ok) (w : Int) : (m.joinF w).1.Ok := by
  unfold LogM.joinF
  by_cases h1 : isWriter w = true
  · rw [if_pos h1]; split
    · exact h
    · exact h.put w h1 true _ (h.seen1 w h1) (Int.le_refl _)
  · rw [if_neg h1]; exact h
theorem LogM.Ok.leave {m : LogM} (h : m.Ok) (w : Int) : (m.leaveF w).1.Ok := by
  unfold LogM.leaveF
  by_cases h1 : m.hereF w = true
  · rw [if_pos h1]; have hw := (LogM.hereF_writer h1).1
    exact h.put w hw false _ (Int.le_refl _) (h.seen1 w hw)
  · rw [if_neg h1]; exact h
theorem LogM.Ok.says {m : LogM} (h : m.Ok) (w n : Int) : (m.saysF w n).1.Ok := by
  unfold LogM.saysF
  by_cases h1 : m.hereF w = true
  · rw [if_pos h1]; have hw := (LogM.hereF_writer h1).1
    split
    · exact h
    · rename_i hn; exact h.put w hw _ n (by omega) (by omega)
  · rw [if_neg h1]; exact h

theorem allF_snoc (L : List Dd) (d : Dd) (h : (allF L).2.1 = 0) : allF (L ++ [d]) = if (doF (allF L).1 d ((L.length : Int) + 1)).2 = 0 then ((doF (allF L).1 d ((L.length : Int) + 1)).1, 0, 0) else ([], (doF (allF L).1 d ((L.length : Int) + 1)).2, (L.length : Int)) := by
  have := allFrom_append L [d] [] 0
  unfold allF at *
  rw [this, if_pos h, Int.zero_add, allFrom_cons]
  rfl

theorem LogM.takeF_cases (m : LogM) (d : Dd) : (m.hereF d.By = false ∧ m.takeF d = (m, 0, 5)) ∨ (m.hereF d.By = true ∧ d.No ≠ (m.seat d.By).last + 1 ∧ m.takeF d = (m, 0, 7)) ∨
    (m.hereF d.By = true ∧ d.No = (m.seat d.By).last + 1 ∧ (d.Seen < (m.seat d.By).seen ∨ (m.L.length : Int) < d.Seen) ∧ m.takeF d = (m, 0, 8)) ∨
    (m.hereF d.By = true ∧ d.No = (m.seat d.By).last + 1 ∧ (m.seat d.By).seen ≤ d.Seen ∧ d.Seen ≤ (m.L.length : Int) ∧ m.L.length = 120 ∧ m.takeF d = (m, 0, 9)) ∨
    (m.hereF d.By = true ∧ d.No = (m.seat d.By).last + 1 ∧ (m.seat d.By).seen ≤ d.Seen ∧ d.Seen ≤ (m.L.length : Int) ∧ m.L.length ≠ 120 ∧ (doF m.chars d ((m.L.length : Int) + 1)).2 ≠ 0 ∧ m.takeF d = (m, 0, (doF m.chars d ((m.L.length : Int) + 1)).2)) ∨
    (m.hereF d.By = true ∧ d.No = (m.seat d.By).last + 1 ∧ (m.seat d.By).seen ≤ d.Seen ∧ d.Seen ≤ (m.L.length : Int) ∧ m.L.length ≠ 120 ∧ (doF m.chars d ((m.L.length : Int) + 1)).2 = 0 ∧
      m.takeF d = (⟨m.L ++ [d], upd m.S d.By.toNat ⟨(m.seat d.By).here, d.No, d.Seen⟩⟩, (m.L.length : Int) + 1, 0)) := by
  by_cases h1 : m.hereF d.By = true
  · by_cases h2 : d.No = (m.seat d.By).last + 1
    · by_cases h3 : d.Seen < (m.seat d.By).seen ∨ (m.L.length : Int) < d.Seen
      · exact .inr (.inr (.inl ⟨h1, h2, h3, by unfold LogM.takeF; rw [if_pos h1, if_pos h2, if_pos h3]⟩))
      · by_cases h4 : m.L.length = 120
        · exact .inr (.inr (.inr (.inl ⟨h1, h2, by omega, by omega, h4, by unfold LogM.takeF; rw [if_pos h1, if_pos h2, if_neg h3, if_pos h4]⟩)))
        · by_cases h5 : (doF m.chars d ((m.L.length : Int) + 1)).2 = 0
          · exact .inr (.inr (.inr (.inr (.inr ⟨h1, h2, by omega, by omega, h4, h5, by unfold LogM.takeF; rw [if_pos h1, if_pos h2, if_neg h3, if_neg h4, if_pos h5]⟩))))
          · exact .inr (.inr (.inr (.inr (.inl ⟨h1, h2, by omega, by omega, h4, h5, by unfold LogM.takeF; rw [if_pos h1, if_pos h2, if_neg h3, if_neg h4, if_neg h5]⟩))))
    · exact .inr (.inl ⟨h1, h2, by unfold LogM.takeF; rw [if_pos h1, if_neg h2]⟩)
  · exact .inl ⟨by simpa using h1, by unfold LogM.takeF; rw [if_neg h1]⟩

theorem LogM.take_of {m : LogM} (d : Dd) (h : (m.takeF d).2.2 = 0) : m.hereF d.By = true ∧ d.No = (m.seat d.By).last + 1 ∧ (m.seat d.By).seen ≤ d.Seen ∧ d.Seen ≤ (m.L.length : Int) ∧ m.L.length ≠ 120 ∧ (doF m.chars d ((m.L.length : Int) + 1)).2 = 0 ∧
      m.takeF d = (⟨m.L ++ [d], upd m.S d.By.toNat ⟨(m.seat d.By).here, d.No, d.Seen⟩⟩, (m.L.length : Int) + 1, 0) := by
  rcases m.takeF_cases d with ⟨_, e⟩ | ⟨_, _, e⟩ | ⟨_, _, _, e⟩ | ⟨_, _, _, _, _, e⟩ | ⟨_, _, _, _, _, h5, e⟩ | h
  · rw [e] at h; simp at h
  · rw [e] at h; simp at h
  · rw [e] at h; simp at h
  · rw [e] at h; simp at h
  · rw [e] at h; exact absurd h h5
  · exact h

theorem LogM.take_refused {m : LogM} (d : Dd) (h : (m.takeF d).2.2 ≠ 0) : (m.takeF d).1 = m ∧ (m.takeF d).2.1 = 0 := by
  rcases m.takeF_cases d with ⟨_, e⟩ | ⟨_, _, e⟩ | ⟨_, _, _, e⟩ | ⟨_, _, _, _, _, e⟩ | ⟨_, _, _, _, _, h5, e⟩ | ⟨_, _, _, _, _, _, e⟩
  all_goals first | (rw [e] at h; exact absurd rfl h) | (rw [e]; exact ⟨rfl, rfl⟩)

theorem LogM.take_chars {m : LogM} (hm : m.Ok) (d : Dd) (h : (m.takeF d).2.2 = 0) : (m.takeF d).1.chars = (doF m.chars d ((m.L.length : Int) + 1)).1 := by
  obtain ⟨_, _, _, _, _, h5, e⟩ := LogM.take_of d h
  rw [e]
  show (allF (m.L ++ [d])).1 = _
  rw [allF_snoc m.L d hm.all]
  have h5' : (doF (allF m.L).1 d ((m.L.length : Int) + 1)).2 = 0 := h5
  rw [if_pos h5']; rfl

theorem DeedOk.congr {L L' : List Dd} {i : Nat} {d : Dd} (h : DeedOk L i d) (e : L'.take i = L.take i) : DeedOk L' i d := ⟨h.f, h.w, by rw [e]; exact h.no, h.s0, h.s1, by rw [e]; exact h.s2⟩

theorem LogM.Ok.take {m : LogM} (h : m.Ok) (d : Dd) : (m.takeF d).1.Ok := by
  by_cases h0 : (m.takeF d).2.2 = 0
  · obtain ⟨h1, h2, h3, h4, h5, h6, e⟩ := LogM.take_of d h0
    have hw := (LogM.hereF_writer h1).1
    have hf := (mayDo_zero (doF_zero h6).1).1
    have ha := allF_snoc m.L d h.all
    have h6' : (doF (allF m.L).1 d ((m.L.length : Int) + 1)).2 = 0 := h6
    rw [if_pos h6'] at ha
    have hseat : ∀ x, isWriter x = true → LogM.seat ⟨m.L ++ [d], upd m.S d.By.toNat ⟨(m.seat d.By).here, d.No, d.Seen⟩⟩ x = if x = d.By then ⟨(m.seat d.By).here, d.No, d.Seen⟩ else m.seat x := fun x hx => seat_put m d.By x _ hw hx
    have hlast := h.last d.By hw
    have hs0 := h.seen0 d.By hw
    have hs2 := h.seen2 d.By hw
    have hlen := h.len
    rw [e]
    refine ⟨?_, ?_, fun x hx => ?_, fun x hx => ?_, fun x hx => ?_, fun x hx => ?_, fun i hi => ?_⟩
    · show (allF (m.L ++ [d])).2.1 = 0
      rw [ha]
    · simp only [List.length_append, List.length_singleton]; omega
    · rw [hseat x hx]
      show _ = cntBy x (m.L ++ [d])
      rw [cntBy_add]
      split
      · rename_i e; subst e; rw [if_pos rfl]; show d.No = _; omega
      · rename_i e; rw [if_neg (fun h => e h.symm), h.last x hx]; omega
    · rw [hseat x hx]; split
      · show 0 ≤ d.Seen; omega
      · exact h.seen0 x hx
    · rw [hseat x hx]; simp only [List.length_append, List.length_singleton]; split
      · show d.Seen ≤ _; omega
      · have := h.seen1 x hx; omega
    · rw [hseat x hx]
      show lastSeen x (m.L ++ [d]) ≤ _
      rw [lastSeen_snoc]
      split
      · rename_i e; subst e; rw [if_pos rfl]; exact Int.le_refl _
      · rename_i e; rw [if_neg (fun h => e h.symm)]; exact h.seen2 x hx
    · simp only [List.length_append, List.length_singleton] at hi
      show DeedOk (m.L ++ [d]) i (m.L ++ [d])[i]
      by_cases hl : i < m.L.length
      · rw [List.getElem_append_left hl]
        exact (h.deeds i hl).congr (List.take_append_of_le_length (by omega))
      · obtain rfl : i = m.L.length := by omega
        have et : (m.L ++ [d]).take m.L.length = m.L := by simp
        rw [List.getElem_append_right (by omega)]
        simp only [Nat.sub_self, List.getElem_singleton]
        exact ⟨hf, hw, by rw [et]; omega, by omega, by omega, by rw [et]; omega⟩
  · rw [(LogM.take_refused d h0).1]; exact h

theorem LogM.Ok.step {m : LogM} (h : m.Ok) (x : LStep) : (m.step x).Ok := by
  unfold LogM.step
  split
  · exact h.join _
  · split
    · exact h.leave _
    · split
      · exact h.take _
      · split
        · exact h.says _ _
        · exact h
theorem LogM.Ok.steps (l : List LStep) : ∀ {m : LogM}, m.Ok → (m.steps l).Ok := by
  induction l with
  | nil => intro m h; exact h
  | cons x l ih => intro m h; exact ih (h.step x)

-- Least
theorem LogM.leastTo_le (m : LogM) : ∀ k, m.leastTo k ≤ m.L.length := by
  intro k
  induction k with
  | zero => exact Int.le_refl _
  | succ k ih => unfold LogM.leastTo; split <;> omega
theorem LogM.leastTo_seen (m : LogM) (j : Nat) (hh : (m.S j).here = true) : ∀ k, j < k → m.leastTo k ≤ (m.S j).seen := by
  intro k hk
  induction k with
  | zero => omega
  | succ k ih =>
    unfold LogM.leastTo
    by_cases e : j = k
    · subst e; rw [if_pos hh]; omega
    · have := ih (by omega); split <;> omega
theorem LogM.le_leastTo (m : LogM) (n : Int) (h0 : n ≤ m.L.length) : ∀ k, (∀ j, j < k → (m.S j).here = true → n ≤ (m.S j).seen) → n ≤ m.leastTo k := by
  intro k
  induction k with
  | zero => intro _; exact h0
  | succ k ih =>
    intro h
    have := ih (fun j hj => h j (by omega))
    unfold LogM.leastTo
    split
    · rename_i hh; have := h k (by omega) hh; omega
    · exact this

theorem LogM.least_le (m : LogM) : m.least ≤ m.L.length := m.leastTo_le 4
theorem LogM.least_seat (m : LogM) (w : Int) (hw : isWriter w = true) (hh : (m.seat w).here = true) : m.least ≤ (m.seat w).seen := by
  refine m.leastTo_seen w.toNat hh 4 ?_
  simp [isWriter] at hw; omega
theorem LogM.Ok.seen0' {m : LogM} (h : m.Ok) (j : Nat) (hj : j < 4) : 0 ≤ (m.S j).seen := by
  have := h.seen0 (j : Int) (by simp [isWriter]; omega)
  simpa [LogM.seat] using this
theorem LogM.Ok.least0 {m : LogM} (h : m.Ok) : 0 ≤ m.least := m.le_leastTo 0 (by omega) 4 fun j hj _ => h.seen0' j hj

/-- A log whose deeds are more, and whose seats say at least as much where they were there, has no smaller Least. -/
theorem LogM.least_mono {m m' : LogM} (hl : m.L.length ≤ m'.L.length) (hs : ∀ j, j < 4 → (m'.S j).here = true → ((m.S j).here = true ∧ (m.S j).seen ≤ (m'.S j).seen) ∨ (m.L.length : Int) ≤ (m'.S j).seen) : m.least ≤ m'.least := by
  refine m'.le_leastTo _ (by have := m.least_le; omega) 4 fun j hj hh => ?_
  rcases hs j hj hh with ⟨h1, h2⟩ | h2
  · have := m.leastTo_seen j h1 4 hj; unfold LogM.least; omega
  · have := m.least_le; omega

theorem LogM.put_mono (m : LogM) (w : Int) (_hw : isWriter w = true) (s : St) (h : s.here = true → ((m.seat w).here = true ∧ (m.seat w).seen ≤ s.seen) ∨ (m.L.length : Int) ≤ s.seen) : m.least ≤ (m.put w s).least := by
  refine LogM.least_mono (Nat.le_refl _) fun j hj hh => ?_
  unfold LogM.put upd at hh ⊢
  simp only at hh ⊢
  by_cases e : j = w.toNat
  · subst e; rw [if_pos rfl] at hh ⊢; exact h hh
  · rw [if_neg e] at hh ⊢; exact .inl ⟨hh, Int.le_refl _⟩

theorem LogM.step_least {m : LogM} (x : LStep) : m.least ≤ (m.step x).least := by
  unfold LogM.step
  split
  · unfold LogM.joinF
    by_cases h1 : isWriter x.W = true
    · rw [if_pos h1]; split
      · exact Int.le_refl _
      · exact m.put_mono _ h1 _ fun _ => .inr (Int.le_refl _)
    · rw [if_neg h1]; exact Int.le_refl _
  · split
    · unfold LogM.leaveF
      by_cases h1 : m.hereF x.W = true
      · rw [if_pos h1]; exact m.put_mono _ (LogM.hereF_writer h1).1 _ fun hh => by cases hh
      · rw [if_neg h1]; exact Int.le_refl _
    · split
      · by_cases h0 : (m.takeF (m.right x)).2.2 = 0
        · obtain ⟨h1, h2, h3, h4, h5, h6, e⟩ := LogM.take_of _ h0
          have hw := LogM.hereF_writer h1
          rw [e]
          refine LogM.least_mono (by simp) fun j hj hh => ?_
          unfold upd at hh ⊢
          simp only at hh ⊢
          by_cases e : j = (m.right x).By.toNat
          · subst e; rw [if_pos rfl] at hh ⊢; exact .inl ⟨hw.2, h3⟩
          · rw [if_neg e] at hh ⊢; exact .inl ⟨hh, Int.le_refl _⟩
        · rw [(LogM.take_refused _ h0).1]; exact Int.le_refl _
      · split
        · unfold LogM.saysF
          by_cases h1 : m.hereF x.W = true
          · rw [if_pos h1]; split
            · exact Int.le_refl _
            · rename_i hn
              have hw := LogM.hereF_writer h1
              exact m.put_mono _ hw.1 _ fun _ => .inl ⟨hw.2, by show (m.seat x.W).seen ≤ x.N; omega⟩
          · rw [if_neg h1]; exact Int.le_refl _
        · exact Int.le_refl _

theorem LogM.joinF_L (m : LogM) (w : Int) : (m.joinF w).1.L = m.L := by
  unfold LogM.joinF; split
  · split <;> rfl
  · rfl
theorem LogM.leaveF_L (m : LogM) (w : Int) : (m.leaveF w).1.L = m.L := by unfold LogM.leaveF; split <;> rfl
theorem LogM.saysF_L (m : LogM) (w n : Int) : (m.saysF w n).1.L = m.L := by
  unfold LogM.saysF; split
  · split <;> rfl
  · rfl

/-- What comes had seen at least as much as Least was. -/
theorem LogM.step_grows {m : LogM} (x : LStep) : (m.step x).L = m.L ∨ ∃ d, (m.step x).L = m.L ++ [d] ∧ m.least ≤ d.Seen := by
  unfold LogM.step
  split
  · exact .inl (m.joinF_L _)
  · split
    · exact .inl (m.leaveF_L _)
    · split
      · by_cases h0 : (m.takeF (m.right x)).2.2 = 0
        · obtain ⟨h1, h2, h3, h4, h5, h6, e⟩ := LogM.take_of _ h0
          have hw := LogM.hereF_writer h1
          have := m.least_seat _ hw.1 hw.2
          exact .inr ⟨m.right x, by rw [e], by omega⟩
        · rw [(LogM.take_refused _ h0).1]; exact .inl rfl
      · split
        · exact .inl (m.saysF_L _ _)
        · exact .inl rfl
end Go.Proofs.Ytneoeokfffnonac

/- Deeds done to a list, seen through a sieve (what a writer knows; what is not done yet). No program in sight. -/
namespace Go.Proofs.Ytneoeokfffnonac
open Go.RowKit

theorem insGo_split (P Q : Ch → Bool) (T : List Ch) : ∀ (l : List Ch) (k : Nat), ∃ a b, l = a ++ b ∧ insGo P Q T l k = a ++ T ++ b := by
  intro l
  induction l with
  | nil => intro k; exact ⟨[], [], rfl, by simp [insGo]⟩
  | cons c l ih =>
    intro k
    cases k with
    | zero =>
      rw [insGo]
      split
      · obtain ⟨a, b, rfl, e⟩ := ih 0
        exact ⟨c :: a, b, rfl, by rw [e]; simp⟩
      · exact ⟨[], c :: l, rfl, by simp⟩
    | succ k =>
      rw [insGo]
      obtain ⟨a, b, h, e⟩ := ih (if P c then k else k + 1)
      exact ⟨c :: a, b, by rw [h]; rfl, by rw [e]; simp⟩

theorem insGo_filterMap (P Q P' Q' : Ch → Bool) (T : List Ch) (f : Ch → Option Ch) : ∀ (l : List Ch) (k : Nat), (∀ c ∈ l, Q c = false) → (∀ c ∈ l, ∀ c', f c = some c' → P' c' = P c ∧ Q' c' = false) → (∀ c ∈ l, P c = true → (f c).isSome) →
    (insGo P Q T l k).filterMap f = insGo P' Q' (T.filterMap f) (l.filterMap f) k := by
  intro l
  induction l with
  | nil => intro k _ _ _; simp [insGo]
  | cons c l ih =>
    intro k hq hp hs
    have ih' := fun k => ih k (fun x hx => hq x (by simp [hx])) (fun x hx => hp x (by simp [hx])) (fun x hx => hs x (by simp [hx]))
    cases k with
    | zero =>
      have hno : ∀ x ∈ (c :: l).filterMap f, Q' x = false := by
        intro x hx
        obtain ⟨y, hy, hf⟩ := List.mem_filterMap.1 hx
        exact (hp y hy x hf).2
      rw [insGo_noq hq, insGo_noq hno, List.filterMap_append]
    | succ k =>
      rw [insGo, List.filterMap_cons, List.filterMap_cons]
      cases hf : f c with
      | none =>
        have : P c = false := by
          cases h : P c
          · rfl
          · have := hs c (by simp) h; rw [hf] at this; cases this
        simp only [this, Bool.false_eq_true, if_false]
        exact ih' _
      | some c' =>
        simp only
        rw [insGo, (hp c (by simp) c' hf).1, ih']

theorem takeGo_filterMap (s b s' b' lo hi n n' : Int) (f : Ch → Option Ch) : ∀ (l : List Ch) (k : Int), (∀ c ∈ l, ∀ c', f c = some c' → c'.sees s' b' = c.sees s b) → (∀ c ∈ l, c.sees s b = true → ∃ c', f c = some c' ∧ f (mark b n c) = some (mark b' n' c')) →
    (takeGo s b lo hi n l k).filterMap f = takeGo s' b' lo hi n' (l.filterMap f) k := by
  intro l
  induction l with
  | nil => intro k _ _; rfl
  | cons c l ih =>
    intro k hp hs
    have ih' := fun k => ih k (fun x hx => hp x (by simp [hx])) (fun x hx => hs x (by simp [hx]))
    rw [takeGo, List.filterMap_cons]
    cases h : c.sees s b
    · simp only [Bool.false_eq_true, if_false, List.filterMap_cons]
      cases hf : f c with
      | none => exact ih' k
      | some c' =>
        simp only
        rw [takeGo, hp c (by simp) c' hf, h, ih']; simp
    · obtain ⟨c', hf, hm⟩ := hs c (by simp) h
      simp only [if_true, List.filterMap_cons, hf]
      rw [takeGo, hp c (by simp) c' hf, h]
      simp only [if_true]
      by_cases hk : lo ≤ k ∧ k < hi
      · rw [if_pos hk, if_pos hk, hm]; simp only; rw [ih']
      · rw [if_neg hk, if_neg hk, hf]; simp only; rw [ih']

/-- A sieve that does not mind what a writer sees. -/
theorem vis_filterMap (s b s' b' : Int) (f : Ch → Option Ch) (l : List Ch) (hp : ∀ c ∈ l, ∀ c', f c = some c' → c'.sees s' b' = c.sees s b) (hs : ∀ c ∈ l, c.sees s b = true → (f c).isSome = true) :
    vis s' b' (l.filterMap f) = (vis s b l).filterMap f := by
  unfold vis
  induction l with
  | nil => rfl
  | cons c l ih =>
    have ih := ih (fun x hx => hp x (by simp [hx])) (fun x hx => hs x (by simp [hx]))
    rw [List.filterMap_cons, List.filter_cons]
    cases hf : f c with
    | none =>
      have : ¬ c.sees s b = true := fun h => by have := hs c (by simp) h; rw [hf] at this; cases this
      rw [if_neg this]
      exact ih
    | some c' =>
      have hc := hp c (by simp) c' hf
      show (c' :: l.filterMap f).filter _ = _
      rw [List.filter_cons, hc, ih]
      split
      · rw [List.filterMap_cons, hf]
      · rfl
theorem filterMap_len (f : Ch → Option Ch) (l : List Ch) (hs : ∀ c ∈ l, (f c).isSome = true) : (l.filterMap f).length = l.length := by
  induction l with
  | nil => rfl
  | cons c l ih =>
    have h := hs c (by simp)
    obtain ⟨c', hf⟩ := Option.isSome_iff_exists.1 h
    rw [List.filterMap_cons, hf]
    show (l.filterMap f).length + 1 = l.length + 1
    rw [ih fun x hx => hs x (by simp [hx])]
theorem vis_filterMap_len (s b s' b' : Int) (f : Ch → Option Ch) (l : List Ch) (hp : ∀ c ∈ l, ∀ c', f c = some c' → c'.sees s' b' = c.sees s b) (hs : ∀ c ∈ l, c.sees s b = true → (f c).isSome = true) :
    (vis s' b' (l.filterMap f)).length = (vis s b l).length := by
  rw [vis_filterMap s b s' b' f l hp hs]
  refine filterMap_len f _ fun c hc => ?_
  obtain ⟨h1, h2⟩ := List.mem_filter.1 hc
  exact hs c h1 h2

/-- What the writer b, that has seen the log as far as s, or less, can ever ask of a byte. -/
def rho (s b : Int) (c : Ch) : Option Ch :=
  if c.In ≤ s ∨ c.By = b then some { c with In := if c.By = b then 0 else c.In, Out := if 0 < c.Out ∧ c.Out ≤ s then c.Out else 0, Gone := if took c.Gone b then bitOf b else 0 } else none

theorem took_bit (b : Int) (hb : isWriter b = true) : took (bitOf b) b = true := by
  have := took_add_self 0 b hb (took_zero b); rwa [Int.zero_add] at this

theorem rho_sees (s b : Int) (hb : isWriter b = true) (seen : Int) (h : seen ≤ s) (c c' : Ch) (hc : rho s b c = some c') : c'.sees seen b = c.sees seen b := by
  unfold rho at hc
  split at hc
  · cases hc
    unfold Ch.sees
    rw [knowsOut_took, knowsOut_took]
    congr 1
    · unfold Ch.knowsIn
      by_cases e : c.By = b
      · simp [e]
      · simp [e]
    · congr 1
      simp only
      congr 1
      · cases ht : took c.Gone b
        · simp [took_zero]
        · simp [took_bit b hb]
      · by_cases e : 0 < c.Out ∧ c.Out ≤ s
        · rw [if_pos e]
        · rw [if_neg e]
          have : (decide (0 < c.Out) && decide (c.Out ≤ seen)) = false := by simp; omega
          rw [this]; rfl
  · cases hc

theorem rho_some (s b : Int) (seen : Int) (h : seen ≤ s) (c : Ch) (hc : c.sees seen b = true) : (rho s b c).isSome := by
  unfold rho
  have : c.In ≤ s ∨ c.By = b := by
    unfold Ch.sees Ch.knowsIn at hc
    simp only [Bool.and_eq_true, Bool.or_eq_true, decide_eq_true_eq, beq_iff_eq] at hc
    rcases hc.1 with h | h
    · exact .inl (by omega)
    · exact .inr h
  rw [if_pos this]; rfl

theorem rho_C (s b : Int) (c c' : Ch) (hc : rho s b c = some c') : c'.C = c.C ∧ c'.By = c.By ∧ c'.No = c.No ∧ c'.K = c.K := by
  unfold rho at hc
  split at hc
  · cases hc; exact ⟨rfl, rfl, rfl, rfl⟩
  · cases hc

theorem out_norm (s n o : Int) (h : s < n) : (if 0 < out1 n o ∧ out1 n o ≤ s then out1 n o else 0) = if 0 < o ∧ o ≤ s then o else 0 := by
  unfold out1
  by_cases e : n ≠ 1073741824 ∧ (o = 0 ∨ n < o)
  · have h2 := e.2
    rw [if_pos e]
    clear e
    rw [if_neg (by omega), if_neg (by omega)]
  · rw [if_neg e]

theorem rho_mark_own (s b : Int) (hb : isWriter b = true) (n : Int) (h : s < n) (seen : Int) (hs : seen ≤ s) (c : Ch) (hc : c.sees seen b = true) :
    ∃ c', rho s b c = some c' ∧ rho s b (mark b n c) = some (mark b 1073741824 c') := by
  have hr := rho_some s b seen hs c hc
  have ht := sees_took hc
  unfold rho at hr ⊢
  by_cases e : c.In ≤ s ∨ c.By = b
  · rw [if_pos e, if_pos (show (mark b n c).In ≤ s ∨ (mark b n c).By = b from e)]
    refine ⟨_, rfl, ?_⟩
    have h2 := out_norm s n c.Out h
    have h3 : took (c.Gone + bitOf b) b = true := took_add_self _ _ hb ht
    rw [mark_Out, h2]
    unfold mark
    simp only [h3, ht, if_true, Bool.false_eq_true, if_false, Option.some.injEq, Ch.mk.injEq, true_and, ne_eq, not_true_eq_false, false_and]
    omega
  · rw [if_neg e] at hr; cases hr

theorem rho_mark_other (s b : Int) (a : Int) (ha : isWriter a = true) (hne : a ≠ b) (n : Int) (h : s < n) (seen : Int) (c : Ch) (hc : c.sees seen a = true) : rho s b (mark a n c) = rho s b c := by
  have h2 := out_norm s n c.Out h
  have h3 : took (mark a n c).Gone b = took c.Gone b := took_add_other _ _ _ ha (sees_took hc) (fun e => hne e.symm)
  unfold rho
  by_cases e : c.In ≤ s ∨ c.By = b
  · rw [if_pos e, if_pos (show (mark a n c).In ≤ s ∨ (mark a n c).By = b from e), mark_Out, h2, h3]
    rfl
  · rw [if_neg e, if_neg (show ¬ ((mark a n c).In ≤ s ∨ (mark a n c).By = b) from e)]

/-- An own deed, seen through the sieve. -/
def apR (l : List Ch) (d : Dd) : List Ch :=
  if d.Kind = 1 then insGo (fun c => c.sees d.Seen d.By) (fun _ => false) (newOf d 0) l d.At.toNat
  else takeGo d.Seen d.By d.At (d.At + d.Many) 1073741824 l 0

theorem newOf_rho (d : Dd) (n s : Int) : (newOf d n).filterMap (rho s d.By) = newOf d 0 := by
  unfold newOf
  have key : ∀ (xs : List Int) (k : Nat), (xs.mapIdx fun i c => (⟨c, d.By, d.No, ((i + k : Nat) : Int), n, 0, 0⟩ : Ch)).filterMap (rho s d.By) = xs.mapIdx fun i c => (⟨c, d.By, d.No, ((i + k : Nat) : Int), 0, 0, 0⟩ : Ch) := by
    intro xs
    induction xs with
    | nil => intro k; rfl
    | cons x xs ih =>
      intro k
      rw [List.mapIdx_cons, List.mapIdx_cons, List.filterMap_cons]
      have e : rho s d.By ⟨x, d.By, d.No, ((0 + k : Nat) : Int), n, 0, 0⟩ = some ⟨x, d.By, d.No, ((0 + k : Nat) : Int), 0, 0, 0⟩ := by
        unfold rho; simp [took_zero]
      rw [e]
      simp only
      congr 1
      have := ih (k + 1)
      simp only [show ∀ i : Nat, i + (k + 1) = i + 1 + k from fun i => by omega] at this
      exact this
  have := key (bytesOf d.Text) 0
  simpa using this

theorem ap_rho_own (l : List Ch) (d : Dd) (n s : Int) (hb : isWriter d.By = true) (hs : d.Seen ≤ s) (hn : s < n) (hq : ∀ c ∈ l, openOther d.By c = false) : (ap l d n).filterMap (rho s d.By) = apR (l.filterMap (rho s d.By)) d := by
  unfold ap apR
  split
  · rw [← newOf_rho d n s]
    exact insGo_filterMap _ _ _ _ _ _ l _ hq (fun c _ c' h => ⟨rho_sees s d.By hb d.Seen hs c c' h, rfl⟩) (fun c _ h => rho_some s d.By d.Seen hs c h)
  · exact takeGo_filterMap _ _ _ _ _ _ _ _ _ l 0 (fun c _ c' h => rho_sees s d.By hb d.Seen hs c c' h) (fun c _ h => rho_mark_own s d.By hb n hn d.Seen hs c h)

theorem takeGo_congr (s b lo hi n : Int) (f : Ch → Option Ch) : ∀ (l : List Ch) (k : Int), (∀ c ∈ l, c.sees s b = true → f (mark b n c) = f c) → (takeGo s b lo hi n l k).filterMap f = l.filterMap f := by
  intro l
  induction l with
  | nil => intro k _; rfl
  | cons c l ih =>
    intro k h
    have ih' := fun k => ih k (fun x hx => h x (by simp [hx]))
    rw [takeGo]
    cases hs : c.sees s b
    · simp only [Bool.false_eq_true, if_false]; rw [List.filterMap_cons, List.filterMap_cons, ih']
    · simp only [if_true]
      have e : f (if lo ≤ k ∧ k < hi then mark b n c else c) = f c := by
        split
        · exact h c (by simp) hs
        · rfl
      rw [List.filterMap_cons, List.filterMap_cons, ih', e]

theorem ap_rho_other (l : List Ch) (d : Dd) (n s b : Int) (hd : isWriter d.By = true) (hne : d.By ≠ b) (hn : s < n) : (ap l d n).filterMap (rho s b) = l.filterMap (rho s b) := by
  unfold ap
  split
  · obtain ⟨x, y, rfl, e⟩ := insGo_split (fun c => c.sees d.Seen d.By) (openOther d.By) (newOf d n) l d.At.toNat
    rw [e]
    have : (newOf d n).filterMap (rho s b) = [] := by
      rw [List.filterMap_eq_nil_iff]
      intro c hc
      obtain ⟨h1, _, h3, _⟩ := newOf_mem hc
      unfold rho; rw [if_neg]
      rw [h1, h3]; omega
    simp [List.filterMap_append, this]
  · exact takeGo_congr _ _ _ _ _ _ l 0 fun c _ h => rho_mark_other s b d.By hd hne n hn d.Seen c h

/-- A list without what is done, or without some of it. -/
def keepIf (p : Ch → Bool) (c : Ch) : Option Ch := if p c then some c else none
theorem filterMap_keepIf (p : Ch → Bool) (l : List Ch) : l.filterMap (keepIf p) = l.filter p := by
  induction l with
  | nil => rfl
  | cons c l ih =>
    have e : keepIf p c = if p c then some c else none := rfl
    rw [List.filterMap_cons, List.filter_cons, e, ih]; cases p c <;> rfl

/-- Bytes that a deed's writer does not see may be left out, ahead of it or behind it. -/
theorem ap_filter (p : Ch → Bool) (l : List Ch) (d : Dd) (n : Int) (hq : ∀ c ∈ l, openOther d.By c = false) (hnew : ∀ c ∈ newOf d n, p c = true) (hs : ∀ c ∈ l, c.sees d.Seen d.By = true → p c = true) (hm : ∀ c ∈ l, c.sees d.Seen d.By = true → p (mark d.By n c) = true) :
    (ap l d n).filter p = ap (l.filter p) d n := by
  have hk : ∀ c c', keepIf p c = some c' → c' = c := fun c c' h => by unfold keepIf at h; split at h <;> cases h; rfl
  have hsome : ∀ c, p c = true → keepIf p c = some c := fun c h => by unfold keepIf; rw [if_pos h]
  rw [← filterMap_keepIf, ← filterMap_keepIf]
  unfold ap
  split
  · have hT : (newOf d n).filterMap (keepIf p) = newOf d n := by rw [filterMap_keepIf]; exact List.filter_eq_self.2 hnew
    have := insGo_filterMap (fun c => c.sees d.Seen d.By) (openOther d.By) (fun c => c.sees d.Seen d.By) (openOther d.By) (newOf d n) (keepIf p) l d.At.toNat hq
      (fun c hc c' h => by rw [hk c c' h]; exact ⟨rfl, hq c hc⟩) (fun c hc h => by rw [hsome c (hs c hc h)]; rfl)
    rw [hT] at this
    exact this
  · exact takeGo_filterMap _ _ _ _ _ _ _ _ _ l 0 (fun c _ c' h => by rw [hk c c' h]) (fun c hc h => ⟨c, hsome c (hs c hc h), hsome _ (hm c hc h)⟩)

theorem vis_filter (p : Ch → Bool) (s b : Int) (l : List Ch) (hs : ∀ c ∈ l, c.sees s b = true → p c = true) : vis s b (l.filter p) = vis s b l := by
  unfold vis
  rw [List.filter_filter]
  apply List.filter_congr
  intro c hc
  cases h : c.sees s b
  · rfl
  · rw [hs c hc h]; rfl
end Go.Proofs.Ytneoeokfffnonac

/- The log, deed by deed, and what a writer can ask of it. No program in sight. -/
namespace Go.Proofs.Ytneoeokfffnonac
open Go.RowKit

/-- What the first i deeds make. -/
def pre (L : List Dd) (i : Nat) : List Ch := (allF (L.take i)).1

structure LOk (L : List Dd) : Prop where
  all : (allF L).2.1 = 0
  len : L.length ≤ 120
  deeds : ∀ i (h : i < L.length), DeedOk L i L[i]

theorem LogM.Ok.lok {m : LogM} (h : m.Ok) : LOk m.L := ⟨h.all, h.len, h.deeds⟩

theorem pre_zero (L : List Dd) : pre L 0 = [] := rfl
theorem pre_len (L : List Dd) : pre L L.length = (allF L).1 := by unfold pre; rw [List.take_length]
theorem pre_append (L M : List Dd) (i : Nat) (h : i ≤ L.length) : pre (L ++ M) i = pre L i := by unfold pre; rw [List.take_append_of_le_length h]

theorem take_all (L : List Dd) (h : (allF L).2.1 = 0) (i : Nat) : (allF (L.take i)).2.1 = 0 := by
  have e := allFrom_append (L.take i) (L.drop i) [] 0
  rw [List.take_append_drop] at e
  unfold allF at *
  by_cases h0 : (allFrom [] 0 (L.take i)).2.1 = 0
  · exact h0
  · rw [if_neg h0] at e; rw [e] at h; exact h

theorem pre_succ {L : List Dd} (h : (allF L).2.1 = 0) (i : Nat) (hi : i < L.length) : mayDo (pre L i) L[i] = 0 ∧ pre L (i + 1) = ap (pre L i) L[i] ((i : Int) + 1) ∧ doF (pre L i) L[i] ((i : Int) + 1) = (pre L (i + 1), 0) := by
  have h1 := take_all L h (i + 1)
  have h0 := take_all L h i
  have e := allF_snoc (L.take i) L[i] h0
  rw [← List.take_succ_eq_append_getElem hi] at e
  have el : ((L.take i).length : Int) = i := by simp; omega
  rw [el] at e
  by_cases hd : (doF (allF (L.take i)).1 L[i] ((i : Int) + 1)).2 = 0
  · obtain ⟨hm, hn⟩ := doF_zero hd
    have hap := doF_ap hm hn
    rw [if_pos hd] at e
    have e2 : pre L (i + 1) = ap (pre L i) L[i] ((i : Int) + 1) := by
      unfold pre; rw [e, hap]
    exact ⟨hm, e2, by rw [e2]; exact hap⟩
  · rw [if_neg hd] at e; rw [e] at h1; exact absurd h1 hd

theorem LOk.made {L : List Dd} (h : LOk L) (i : Nat) (hi : i ≤ L.length) : Made i L (pre L i) :=
  lists L (by have := h.len; omega) (fun j hj => let d := h.deeds j hj; ⟨d.w, d.no, d.s1⟩) i hi (take_all L h.all i)

theorem LOk.noOpen {L : List Dd} (h : LOk L) (i : Nat) (hi : i ≤ L.length) (b : Int) : ∀ c ∈ pre L i, openOther b c = false := by
  intro c hc
  have g := (h.made i hi).good c hc
  have := h.len
  unfold openOther
  have e : (c.In == 1073741824) = false := by have := g.in2; simp; omega
  rw [e]; rfl

def mine (w : Int) (ds : List Dd) : List Dd := ds.filter fun d => d.By == w
theorem mine_append (w : Int) (a b : List Dd) : mine w (a ++ b) = mine w a ++ mine w b := by simp [mine]

/-- Own deeds, open. -/
def apO (l : List Ch) (d : Dd) : List Ch := ap l d 1073741824
def apOs (l : List Ch) (ds : List Dd) : List Ch := ds.foldl apO l
theorem apOs_append (l : List Ch) (a b : List Dd) : apOs l (a ++ b) = apOs (apOs l a) b := by simp [apOs]
def apRs (l : List Ch) (ds : List Dd) : List Ch := ds.foldl apR l

theorem drop_take_succ (L : List Dd) (s i : Nat) (hs : s ≤ i) (hi : i < L.length) : (L.take (i + 1)).drop s = (L.take i).drop s ++ [L[i]] := by
  rw [List.take_succ_eq_append_getElem hi, List.drop_append_of_le_length (by simp; omega)]

theorem lastSeen_mine (w : Int) (ds : List Dd) (h : ∀ i (hi : i < ds.length), ds[i].By = w → lastSeen w (ds.take i) ≤ ds[i].Seen) (h0 : ∀ d ∈ ds, 0 ≤ d.Seen) : ∀ k, k ≤ ds.length → 0 ≤ lastSeen w (ds.take k) ∧ ∀ d ∈ ds.take k, d.By = w → d.Seen ≤ lastSeen w (ds.take k) := by
  intro k
  induction k with
  | zero => intro _; exact ⟨by simp [lastSeen], fun d hd => by simp at hd⟩
  | succ k ih =>
    intro hk
    obtain ⟨i0, i1⟩ := ih (by omega)
    have hkl : k < ds.length := by omega
    rw [List.take_succ_eq_append_getElem hkl, lastSeen_snoc]
    by_cases e : ds[k].By = w
    · rw [if_pos e]
      have := h k hkl e
      refine ⟨h0 _ (List.getElem_mem hkl), fun d hd hb => ?_⟩
      rcases List.mem_append.1 hd with hd | hd
      · have := i1 d hd hb; omega
      · simp at hd; subst hd; exact Int.le_refl _
    · rw [if_neg e]
      refine ⟨i0, fun d hd hb => ?_⟩
      rcases List.mem_append.1 hd with hd | hd
      · exact i1 d hd hb
      · simp at hd; subst hd; exact absurd hb e

theorem LOk.own_seen {L : List Dd} (h : LOk L) (w : Int) : 0 ≤ lastSeen w L ∧ ∀ d ∈ L, d.By = w → d.Seen ≤ lastSeen w L := by
  have := lastSeen_mine w L (fun i hi e => by have := (h.deeds i hi).s2; rw [e] at this; exact this) (fun d hd => by
    obtain ⟨i, hi, rfl⟩ := List.getElem_of_mem hd; exact (h.deeds i hi).s0) L.length (Nat.le_refl _)
  rw [List.take_length] at this; exact this

/-- What came behind what a writer has seen: to it there are its own deeds alone. -/
theorem LOk.rho {L : List Dd} (h : LOk L) (w : Int) (hw : isWriter w = true) (s : Nat) (hso : ∀ d ∈ L, d.By = w → d.Seen ≤ s) : ∀ i, s ≤ i → i ≤ L.length →
    (pre L i).filterMap (rho s w) = apRs ((pre L s).filterMap (rho s w)) (mine w ((L.take i).drop s)) := by
  intro i hi
  induction i with
  | zero =>
    intro _
    obtain rfl : s = 0 := by omega
    simp [mine, apRs]
  | succ i ih =>
    intro hl
    by_cases e : s = i + 1
    · subst e
      rw [List.drop_of_length_le (by simp; omega)]; rfl
    · have hsi : s ≤ i := by omega
      have hil : i < L.length := by omega
      have ih := ih hsi (by omega)
      obtain ⟨_, hp, _⟩ := pre_succ h.all i hil
      have hd := h.deeds i hil
      rw [hp, drop_take_succ L s i hsi hil, mine_append]
      by_cases hb : L[i].By = w
      · have e1 : mine w [L[i]] = [L[i]] := by simp [mine, hb]
        rw [e1]
        subst hb
        rw [ap_rho_own _ _ _ s hd.w (hso _ (List.getElem_mem hil) rfl) (by omega) (h.noOpen i (by omega) _), ih]
        simp [apRs]
      · have e1 : mine w [L[i]] = [] := by simp [mine, hb]
        rw [e1, List.append_nil, ap_rho_other _ _ _ s w hd.w hb (by omega), ih]

theorem noOther_apO (l : List Ch) (d : Dd) (n : Int) (h : ∀ c ∈ l, openOther d.By c = false) : ∀ c ∈ ap l d n, openOther d.By c = false := by
  intro c hc
  unfold ap at hc
  split at hc
  · rcases insGo_mem _ _ _ _ _ c hc with h1 | h1
    · obtain ⟨e, _⟩ := newOf_mem h1
      unfold openOther; rw [e]; simp
    · exact h c h1
  · obtain ⟨x, hx, e⟩ := takeGo_mem _ _ _ _ _ _ _ c hc
    rcases e with rfl | ⟨_, rfl⟩
    · exact h _ hx
    · rw [openOther_mark]; exact h _ hx

theorem apOs_rho (w : Int) (hw : isWriter w = true) (s : Int) (hs : s < 1073741824) (ds : List Dd) (hd : ∀ d ∈ ds, d.By = w ∧ d.Seen ≤ s) : ∀ l : List Ch, (∀ c ∈ l, openOther w c = false) → (apOs l ds).filterMap (rho s w) = apRs (l.filterMap (rho s w)) ds := by
  induction ds with
  | nil => intro l _; rfl
  | cons d ds ih =>
    intro l hl
    obtain ⟨hb, hse⟩ := hd d (by simp)
    subst hb
    show (apOs (apO l d) ds).filterMap _ = apRs (apR _ d) ds
    rw [ih (fun x hx => hd x (by simp [hx])) (apO l d) (noOther_apO l d _ hl)]
    unfold apO
    rw [ap_rho_own l d _ s hw hse hs hl]

theorem vis_rho (w : Int) (hw : isWriter w = true) (s seen : Int) (hs : seen ≤ s) (l : List Ch) : (vis seen w (l.filterMap (rho s w))).length = (vis seen w l).length :=
  vis_filterMap_len seen w seen w (rho s w) l (fun c _ c' hc => rho_sees s w hw seen hs c c' hc) (fun c _ hc => rho_some s w seen hs c hc)

/-- As its writer sees it the log is what it knew, and its own open deeds done to it. -/
theorem LOk.own_view {L : List Dd} (h : LOk L) (w : Int) (hw : isWriter w = true) (s : Nat) (hs : s ≤ L.length) (hso : ∀ d ∈ L, d.By = w → d.Seen ≤ s) :
    (vis s w (allF L).1).length = (vis s w (apOs (pre L s) (mine w (L.drop s)))).length := by
  have h1 := h.rho w hw s hso L.length hs (Nat.le_refl _)
  rw [pre_len, List.take_length] at h1
  have hm : ∀ d ∈ mine w (L.drop s), d.By = w ∧ d.Seen ≤ s := by
    intro d hd
    obtain ⟨h2, h3⟩ := List.mem_filter.1 hd
    have h3 : d.By = w := by simpa using h3
    exact ⟨h3, hso d (List.mem_of_mem_drop h2) h3⟩
  have h2 := apOs_rho w hw s (by have := h.len; omega) _ hm (pre L s) (h.noOpen s hs w)
  rw [← vis_rho w hw s s (Int.le_refl _) (allF L).1, h1, ← h2, vis_rho w hw s s (Int.le_refl _)]
end Go.Proofs.Ytneoeokfffnonac

/- Objects that change: what lies outside of their blocks stays; a log and a book in memory. No program in sight. -/
namespace Go.Proofs.Ytneoeokfffnonac
open Go.RowKit

/-- What was there and lies outside of the blocks F stays. -/
structure Moves (F : Nat → Prop) (w w' : World) : Prop where
  os : w'.os = w.os
  tape : w'.tape = w.tape
  output : w'.output = w.output
  size : w.heap.size ≤ w'.heap.size
  block : ∀ k, k < w.heap.size → ¬ F k → w'.heap[k]? = w.heap[k]?

theorem Moves.refl (F : Nat → Prop) (w : World) : Moves F w w := ⟨rfl, rfl, rfl, Nat.le_refl _, fun _ _ _ => rfl⟩
theorem Moves.trans {F G : Nat → Prop} {w w1 w2 : World} (h : Moves F w w1) (k : Moves G w1 w2) (hg : ∀ i, i < w.heap.size → G i → F i) : Moves F w w2 :=
  ⟨k.os.trans h.os, k.tape.trans h.tape, k.output.trans h.output, Nat.le_trans h.size k.size, fun i hi hf => (k.block i (Nat.lt_of_lt_of_le hi h.size) (fun e => hf (hg i hi e))).trans (h.block i hi hf)⟩
theorem Moves.of_below {F : Nat → Prop} {w w' : World} (h : Below w.heap.size w w') : Moves F w w' := ⟨h.os, h.tape, h.output, h.size, fun k hk _ => h.block k hk⟩
theorem Moves.of_grown {F : Nat → Prop} {w w' : World} {r : Option Nat} (h : w.grownBy w' r) (hr : ∀ k, r = some k → F k) : Moves F w w' := ⟨h.os, h.tape, h.output, h.size, fun k hk hf => h.block k hk fun e => hf (hr k e.symm)⟩
theorem Moves.setCell {F : Nat → Prop} (w : World) (p : Addr) (v : Value) (hp : F p.block) : Moves F w (w.setCell p v) :=
  ⟨rfl, rfl, rfl, by simp, fun k _ hf => Below.heap_setCell w p v k fun e => hf (e ▸ hp)⟩
theorem Moves.below {F : Nat → Prop} {w w' : World} {B : Nat} (h : Moves F w w') (hF : ∀ k, F k → B ≤ k) (hB : B ≤ w.heap.size) : Below B w w' :=
  ⟨h.os, h.tape, h.output, h.size, fun k hk => h.block k (by omega) fun hf => by have := hF k hf; omega⟩
theorem Moves.cell {F : Nat → Prop} {w w' : World} (h : Moves F w w') {b : Nat} (hb : b < w.heap.size) (hf : ¬ F b) (o : Nat) : w'.cell? ⟨b, o, none⟩ = w.cell? ⟨b, o, none⟩ := World.cell?_of_block (w := w) (h.block b hb hf)
theorem Moves.frozen {F : Nat → Prop} {w w' : World} (h : Moves F w w') {b : Nat} (hb : b < w.heap.size) (hf : ¬ F b) (o : Nat) : w'.frozen? ⟨b, o, none⟩ = w.frozen? ⟨b, o, none⟩ := by
  unfold World.frozen?
  rw [h.block b hb hf]

/-- The blocks of a thing behind a step: those that it had, or new ones. -/
def Grows (F : Nat → Prop) (w : World) (F' : Nat → Prop) : Prop := ∀ k, F' k → F k ∨ w.heap.size ≤ k

structure Foot (w : World) (base : Nat) (F : Nat → Prop) : Prop where
  b : ∀ k, F k → base ≤ k ∧ k < w.heap.size

theorem OwnRow.moves {w w' : World} {base : Nat} {e : TypeId} {size : Nat} {a : Option Addr} {n cap : Nat} {xs : List Value} {G : Nat → Prop} (h : OwnRow w base e size a n cap xs) (hm : Moves G w w') (hg : ∀ k, ownB a cap = some k → ¬ G k) : OwnRow w' base e size a n cap xs :=
  h.of_block fun k hk _ hlt => hm.block k hlt (hg k hk)
section
variable {P : Program}
/-- append to a slice that the call owns, of whatever slice. -/
theorem run_append_row2 (w : World) (base : Nat) (t ty e : TypeId) (i : TypeInfo) (z : Value) (size bytes : Nat) (ht : P.underlying t = some (.slice e)) (hi : P.info? e = some i) (hz : i.zero = some z)
    (hsize : i.size = size) (hby : i.bytes = bytes) (hzs : z.cells.size = size)
    (a : Option Addr) (n cap : Nat) (xs : List Value) (hown : OwnRow w base e size a n cap xs)
    (xa : Option Addr) (m c : Nat) (news : List Value) (hl : news.length = m * size) (hnews : m = 0 ∨ ∃ ad, xa = some ad ∧ ∀ j u, news[j]? = some u → w.cell? (ad.add j) = some u) (h1 : ∀ u ∈ news, u.oneCell' = true)
    (h63 : n + m ≤ maxLen) (hbytes : (n + m) * bytes ≤ 140737488355328) (hbase : base ≤ w.heap.size) :
    ∃ a' cap' w', (Builtin.append_ #[t, t] ty #[.slice a n cap, .slice xa m c]).run P w = .ok (.slice a' (n + m) cap') w' ∧ OwnRow w' base e size a' (n + m) cap' (xs ++ news) ∧ w.grownBy w' (ownB a cap) ∧ (∀ k, ownB a' cap' = some k → ownB a cap = some k ∨ k = w.heap.size) := by
  subst hsize
  subst hby
  have hsmall : n + m ≤ 9223372036854775807 := by simp only [maxLen] at h63; omega
  have hgrown : ∀ (o : Obj) (row : Option Nat), w.grownBy (w.drew.alloc o) row := fun o row => ⟨rfl, rfl, rfl, by simp, fun k hk _ => Below.heap_alloc w.drew _ k hk⟩
  by_cases hm : m = 0
  · subst hm
    have hn : news = [] := List.eq_nil_of_length_eq_zero (by simpa using hl)
    subst hn
    have hle := hown.le
    refine ⟨a, cap, w, ?_, by simpa using hown, ⟨rfl, rfl, rfl, Nat.le_refl _, fun _ _ _ => rfl⟩, fun k hk => .inl hk⟩
    cases a <;> cases xa <;> simp [Builtin.append_, run_underlying ht, sizeOf, typeInfo, hi, Builtin.lenOf, Builtin.firstCells, loadCells, loadCellsFrom, hle, storeCells]
  · obtain ⟨ad, rfl, hnews'⟩ := hnews.resolve_left hm
    by_cases hroom : n + m ≤ cap
    · rcases hown.own with h0 | ⟨g, off, cur, rfl, hb, hg, hfit, hx⟩
      · omega
      · have hfit' : off + n * i.size + news.length ≤ cur.size := by
          rw [hl]; have : n * i.size + m * i.size ≤ cap * i.size := by rw [← Nat.add_mul]; exact Nat.mul_le_mul_right _ hroom
          omega
        have hf := run_firstCells_some (P := P) w i.size m ad m c news hl hnews'
        have hst := run_storeCells_at P g (off + n * i.size) e news 0 cur w hg (by simpa using hfit') h1
        simp only [Nat.add_zero] at hst
        have hlen : (xs ++ news).length = (n + m) * i.size := by rw [List.length_append, hown.len, hl, Nat.add_mul]
        refine ⟨some ⟨g, off, none⟩, cap, w.setRow g (cur.toList.take (off + n * i.size) ++ news ++ cur.toList.drop (off + n * i.size + news.length)).toArray, ?_, ⟨hroom, hown.max, hlen, .inr ⟨g, off, _, rfl, hb, setRow_heap w g cur _ e _ hg, ?_, ?_⟩⟩, ⟨rfl, rfl, rfl, by simp, fun k _ hk => setRow_other w g k _ (fun e => hk (by simp [ownB, e]; omega))⟩, fun k hk => .inl hk⟩
        · simp [Builtin.append_, run_underlying ht, sizeOf, typeInfo, hi, Builtin.lenOf, hroom, hf, Addr.add_lit, hst]
        · simp only [List.size_toArray, List.length_append, List.length_take, List.length_drop, Array.length_toList]
          omega
        · have hcl : cur.toList.length = cur.size := by simp
          have e1 : cur.toList.take (off + n * i.size) = cur.toList.take off ++ xs := by rw [List.take_add, hx]
          rw [show (off + n * i.size + news.length) = off + n * i.size + news.length from rfl, e1, List.append_assoc, List.append_assoc, ]
          have e2 : (cur.toList.take off).length = off := by rw [List.length_take]; omega
          show List.take _ (List.drop off (cur.toList.take off ++ (xs ++ (news ++ _)))) = _
          rw [show List.drop off (cur.toList.take off ++ (xs ++ (news ++ List.drop (off + n * i.size + news.length) cur.toList))) = xs ++ (news ++ List.drop (off + n * i.size + news.length) cur.toList) from by
            conv => lhs; rw [show off = (cur.toList.take off).length from e2.symm]
            simp only [e2]
            rw [List.drop_append_of_le_length (by omega), List.drop_of_length_le (by omega)]; rfl]
          rw [← List.append_assoc, ← hlen]
          exact List.take_left
    · have hfit := growslice_fits (need := n + m) (old := cap) (by omega) hbytes
      cases a with
      | none =>
        have hc0 : cap = 0 := by rcases hown.own with h0 | ⟨g, off, cur, h, _⟩; exact h0; cases h
        subst hc0
        have hn0 : n = 0 := by have := hown.le; omega
        subst hn0
        have hx : xs = [] := List.eq_nil_of_length_eq_zero (by simpa using hown.len)
        subst hx
        have hr := run_append_nil (P := P) w t ty e i z ht hi hz ad m c news hl hnews' (by omega) (by omega) (by have hb := hbytes; simp only [Nat.zero_add] at hb; omega)
        have hgr := grown_row w base e z i.size hzs 0 m 0 [] news (by simp) hl h63 hbase
        simp only [Nat.zero_add, List.nil_append, Array.empty_append] at hgr ⊢
        exact ⟨_, _, _, hr, hgr, hgrown _ _, fun k hk => .inr (by unfold ownB at hk; split at hk <;> simp at hk; exact hk.symm)⟩
      | some b =>
        have holds : ∀ j v, xs[j]? = some v → w.cell? (b.add j) = some v := by
          intro j v hv
          have hp : 0 < xs.length := by
            rcases Nat.lt_or_ge j xs.length with h | h
            · omega
            · rw [List.getElem?_eq_none h] at hv; cases hv
          obtain ⟨g, off, hb, _, _, hcell⟩ := hown.cell hp
          cases hb
          rw [Addr.add_lit]; exact hcell j v hv
        have hr := run_append_grow (P := P) w t ty e i z ht hi hz b n cap xs hown.len holds ad m c news hl hnews' (by omega) (by omega) hfit
        exact ⟨_, _, _, hr, grown_row w base e z i.size hzs n m cap xs news hown.len hl h63 hbase, hgrown _ _, fun k hk => .inr (by unfold ownB at hk; split at hk <;> simp at hk; exact hk.symm)⟩


/-- append of new elements, as one step of a region that draws. -/
theorem step_append_new2 {wb : World} {ops : Array Oper} {o : Oper} {ac : Act} {K : Act → World → Prop} {Q : Exit → Act → World → Prop} {E : Prop} {e' : TypeId} (hgd : o.guard = none) (s x : Operand) (t : TypeId)
    (ho : o.op = .call { callee := .builtin .append, args := #[s, x], argTypes := #[t, t] })
    (base : Nat) (e : TypeId) (size bytes : Nat) (ht : P.underlying t = some (.slice e)) (hE : TInfo P e size bytes)
    (a : Option Addr) (n cap : Nat) (xs : List Value) (hs : ac.eval s = .slice a n cap) (hown : OwnRow wb base e size a n cap xs)
    (m c : Nat) (news : List Value) (hx : ac.eval x = .slice (some ⟨wb.heap.size, 0, none⟩) m c) (hl : news.length = m * size) (h1 : ∀ u ∈ news, u.oneCell' = true)
    (hbytes : (n + m) * bytes ≤ 140737488355328) (hbase : base ≤ wb.heap.size)
    (h : ∀ a' cap' w', OwnRow w' base e size a' (n + m) cap' (xs ++ news) → Below base wb w' → wb.heap.size < w'.heap.size → wb.grownBy w' (ownB a cap) → (∀ k, ownB a' cap' = some k → ownB a cap = some k ∨ wb.heap.size ≤ k) → K (ac.put o.dst (.slice a' (n + m) cap')) w') :
    if Region.wanted o (yielded ops ac.tmps) = true then Oper.wp P o ac (wb.alloc (.cells news.toArray e')) K Q else E := by
  have hw : Region.wanted o (yielded ops ac.tmps) = true := by simp [Region.wanted, hgd]
  rw [if_pos hw]
  obtain ⟨i, z, hi, hz, hsize, hby, hzs, hbp⟩ := hE
  have h63 : n + m ≤ maxLen := by
    have := Nat.le_mul_of_pos_right (n + m) hbp
    unfold maxLen; omega
  have hown' : OwnRow (wb.alloc (.cells news.toArray e')) base e size a n cap xs := hown.alloc _
  obtain ⟨a', cap', w', hr, h2, h3, h4⟩ := run_append_row2 (P := P) (wb.alloc (.cells news.toArray e')) base t o.type e i z size bytes ht hi hz hsize hby hzs a n cap xs hown' (some ⟨wb.heap.size, 0, none⟩) m c news hl
    (.inr ⟨_, rfl, fun j u hu => by rw [Addr.add_lit, Nat.zero_add, World.cell?_alloc_new]; simpa using hu⟩) h1 h63 hbytes (by simp; omega)
  unfold Oper.wp execOp
  simp only [ho, resolve, invoke, builtin, Sem.run_bind, Sem.run_pure, Result.andThen_ok, List.map_toArray, List.map_cons, List.map_nil, hs, hx, hr]
  exact h a' cap' w' h2 (((Below.refl _ _).alloc hbase _).grown h3 (by simp; omega) fun k hk => (hown.base_le k hk).1) (by have := h3.size; simp at this; omega)
    ⟨h3.os, h3.tape, h3.output, by have := h3.size; simp at this; omega, fun k hk hne => (h3.block k (by simp; omega) hne).trans (Below.heap_alloc _ _ _ hk)⟩ (fun k hk => by rcases h4 k hk with h | h; exact .inl h; exact .inr (by simp at h; omega))
theorem wpList_append_row2 (w : World) {ops : Array Oper} {rest : List Oper} {o : Oper} {ac : Act} {Q : Exit → Act → World → Prop} (hgd : o.guard = none) (s x : Operand) (t : TypeId)
    (ho : o.op = .call { callee := .builtin .append, args := #[s, x], argTypes := #[t, t] })
    (base : Nat) (e : TypeId) (size bytes : Nat) (ht : P.underlying t = some (.slice e)) (hE : TInfo P e size bytes)
    (a : Option Addr) (n cap : Nat) (xs : List Value) (hs : ac.eval s = .slice a n cap) (hown : OwnRow w base e size a n cap xs)
    (xa : Option Addr) (m c : Nat) (news : List Value) (hx : ac.eval x = .slice xa m c) (hl : news.length = m * size) (hnews : m = 0 ∨ ∃ ad, xa = some ad ∧ ∀ j u, news[j]? = some u → w.cell? (ad.add j) = some u) (h1 : ∀ u ∈ news, u.oneCell' = true)
    (hbytes : (n + m) * bytes ≤ 140737488355328) (hbase : base ≤ w.heap.size)
    (h : ∀ a' cap' w', OwnRow w' base e size a' (n + m) cap' (xs ++ news) → w.grownBy w' (ownB a cap) → (∀ k, ownB a' cap' = some k → ownB a cap = some k ∨ k = w.heap.size) → wpList P ops Q rest (ac.put o.dst (.slice a' (n + m) cap')) w') : wpList P ops Q (o :: rest) ac w :=
  wpList_plain hgd fun _ hK => by
    obtain ⟨i, z, hi, hz, hsize, hby, hzs, hbp⟩ := hE
    have h63 : n + m ≤ maxLen := by
      have := Nat.le_mul_of_pos_right (n + m) hbp
      unfold maxLen; omega
    obtain ⟨a', cap', w', hr, h2, h3, h4⟩ := run_append_row2 (P := P) w base t o.type e i z size bytes ht hi hz hsize hby hzs a n cap xs hown xa m c news hl hnews h1 h63 hbytes hbase
    unfold Oper.wp execOp
    simp only [ho, resolve, invoke, builtin, Sem.run_bind, Sem.run_pure, Result.andThen_ok, List.map_toArray, List.map_cons, List.map_nil, hs, hx, hr]
    exact hK _ _ (h a' cap' w' h2 h3 h4)

/-- The same of new elements that have just been laid in a block of their own. -/
theorem wpList_append_new2 {wb : World} {ops : Array Oper} {rest : List Oper} {o : Oper} {ac : Act} {Q : Exit → Act → World → Prop} {e' : TypeId} (hgd : o.guard = none) (s x : Operand) (t : TypeId)
    (ho : o.op = .call { callee := .builtin .append, args := #[s, x], argTypes := #[t, t] })
    (base : Nat) (e : TypeId) (size bytes : Nat) (ht : P.underlying t = some (.slice e)) (hE : TInfo P e size bytes)
    (a : Option Addr) (n cap : Nat) (xs : List Value) (hs : ac.eval s = .slice a n cap) (hown : OwnRow wb base e size a n cap xs)
    (m c : Nat) (news : List Value) (hx : ac.eval x = .slice (some ⟨wb.heap.size, 0, none⟩) m c) (hl : news.length = m * size) (h1 : ∀ u ∈ news, u.oneCell' = true)
    (hbytes : (n + m) * bytes ≤ 140737488355328) (hbase : base ≤ wb.heap.size)
    (h : ∀ a' cap' w', OwnRow w' base e size a' (n + m) cap' (xs ++ news) → Below base wb w' → wb.heap.size < w'.heap.size → wb.grownBy w' (ownB a cap) → (∀ k, ownB a' cap' = some k → ownB a cap = some k ∨ wb.heap.size ≤ k) → wpList P ops Q rest (ac.put o.dst (.slice a' (n + m) cap')) w') : wpList P ops Q (o :: rest) ac (wb.alloc (.cells news.toArray e')) :=
  wpList_append_row2 (wb.alloc (.cells news.toArray e')) hgd s x t ho base e size bytes ht hE a n cap xs hs (hown.alloc _) (some ⟨wb.heap.size, 0, none⟩) m c news hx hl
    (.inr ⟨_, rfl, fun j u hu => by rw [Addr.add_lit, Nat.zero_add, World.cell?_alloc_new]; simpa using hu⟩) h1 hbytes (by simp; omega)
    fun a' cap' w' h2 h3 h4 => h a' cap' w' h2 (((Below.refl _ _).alloc hbase _).grown h3 (by simp; omega) fun k hk => (hown.base_le k hk).1) (by have := h3.size; simp at this; omega)
      ⟨h3.os, h3.tape, h3.output, by have := h3.size; simp at this; omega, fun k hk hne => (h3.block k (by simp; omega) hne).trans (Below.heap_alloc _ _ _ hk)⟩ (fun k hk => by rcases h4 k hk with h | h; exact .inl h; exact .inr (by simp at h; omega))

/-- append whose run is known, as one step of a region that draws. -/
theorem step_known {w w' : World} {ops : Array Oper} {o : Oper} {ac : Act} {K : Act → World → Prop} {Q : Exit → Act → World → Prop} {E : Prop} {t : TypeId} {vs vx v : Value} (hr : (Builtin.append_ #[t, t] o.type #[vs, vx]).run P w = .ok v w') (hgd : o.guard = none) (s x : Operand)
    (ho : o.op = .call { callee := .builtin .append, args := #[s, x], argTypes := #[t, t] }) (hs : ac.eval s = vs) (hx : ac.eval x = vx) (hK : K (ac.put o.dst v) w') :
    if Region.wanted o (yielded ops ac.tmps) = true then Oper.wp P o ac w K Q else E := by
  have hw : Region.wanted o (yielded ops ac.tmps) = true := by simp [Region.wanted, hgd]
  rw [if_pos hw]
  unfold Oper.wp execOp
  simp only [ho, resolve, invoke, builtin, Sem.run_bind, Sem.run_pure, Result.andThen_ok, List.map_toArray, List.map_cons, List.map_nil, hs, hx, hr]
  exact hK
end
end Go.Proofs.Ytneoeokfffnonac
