/- The walk of a line's reading. -/
import Derived.Test.YtneoeokfffnonadDoorDeedO
set_option linter.unusedVariables false
set_option linter.unusedSimpArgs false
namespace Go.Proofs.YtneoeokfffnonadDoor
open Go.RowKit Go

/-- The cells of a deed in a block that may be written. -/
structure DdB (w : World) (X : Nat) (d : Dd) : Prop where
  lt : X < w.heap.size
  at' : DdAt w X d
  fz : ∀ j, w.frozen? ⟨X, j, none⟩ = false
theorem DdB.later {w w' : World} {X : Nat} {d : Dd} (h : DdB w X d) (hl : Below w.heap.size w w') : DdB w' X d :=
  ⟨Nat.lt_of_lt_of_le h.lt hl.size, h.at'.later hl, fun j => (hl.frozen (p := ⟨X, j, none⟩) h.lt).trans (h.fz j)⟩
theorem DdB.new (w : World) : DdB (w.alloc (.cells #[.int .i64 0, .int .i64 0, .int .i64 0, .int .i64 0, .int .i64 0, .int .i64 0, .string ⟨#[]⟩] 23)) w.heap.size zDd :=
  ⟨by simp, DdAt.new w zDd, fun j => by simp⟩
/-- Numbers in a block. -/
structure ArN (n : Nat) (w : World) (b : Nat) (f : Nat → Int) : Prop where
  lt : b < w.heap.size
  c : ∀ j, j < n → w.cell? ⟨b, j, none⟩ = some (.int .i64 (f j))
  fz : ∀ j, j < n → w.frozen? ⟨b, j, none⟩ = false
section
variable {n : Nat} {w w' : World} {b : Nat} {f : Nat → Int}
theorem ArN.later (h : ArN n w b f) (hl : Below w.heap.size w w') : ArN n w' b f :=
  ⟨Nat.lt_of_lt_of_le h.lt hl.size, fun j hj => (hl.cell (p := ⟨b, j, none⟩) h.lt).trans (h.c j hj), fun j hj => (hl.frozen (p := ⟨b, j, none⟩) h.lt).trans (h.fz j hj)⟩
theorem ArN.set (h : ArN n w b f) {j : Nat} (hj : j < n) (v : Int) : ArN n (w.setCell ⟨b, j, none⟩ (.int .i64 v)) b (fun i => if i = j then v else f i) := by
  refine ⟨by simpa using h.lt, fun i hi => ?_, fun i hi => by rw [World.frozen?_setCell]; exact h.fz i hi⟩
  by_cases e : i = j
  · subst e; rw [if_pos rfl]; exact World.cell?_setCell_same _ _ _ (h.c i hi)
  · rw [if_neg e, World.cell?_setCell_other _ _ _ _ (fun x => e (by cases x; rfl))]; exact h.c i hi
theorem ArN.other (h : ArN n w b f) {b2 o : Nat} {v : Value} (hne : b ≠ b2) : ArN n (w.setCell ⟨b2, o, none⟩ v) b f := by
  refine ⟨by simpa using h.lt, fun i hi => ?_, fun i hi => by rw [World.frozen?_setCell]; exact h.fz i hi⟩
  rw [World.cell?_setCell_other _ _ _ _ (fun x => hne (by cases x; rfl))]; exact h.c i hi
end
theorem SBox.other {w : World} {Y b2 o : Nat} {xs : List ByteArray} {v : Value} (h : SBox w Y xs) (hne : Y ≠ b2) : SBox (w.setCell ⟨b2, o, none⟩ v) Y xs := by
  refine ⟨by simpa using h.lt, fun i x hi => ?_, fun i => by rw [World.frozen?_setCell]; exact h.fz i⟩
  rw [World.cell?_setCell_other _ _ _ _ (fun x => hne (by cases x; rfl))]; exact h.c i x hi
theorem DdB.other {w : World} {Y b2 o : Nat} {d : Dd} {v : Value} (h : DdB w Y d) (hne : Y ≠ b2) : DdB (w.setCell ⟨b2, o, none⟩ v) Y d := by
  obtain ⟨h1, ⟨a, a0, a1, a2, a3, a4, a5, a6⟩, h3⟩ := h
  have e : ∀ i, (w.setCell ⟨b2, o, none⟩ v).cell? ⟨Y, i, none⟩ = w.cell? ⟨Y, i, none⟩ := fun i => World.cell?_setCell_other _ _ _ _ (fun x => hne (by cases x; rfl))
  refine ⟨by simpa using h1, ⟨by simpa using a, ?_, ?_, ?_, ?_, ?_, ?_, ?_⟩, fun i => by rw [World.frozen?_setCell]; exact h3 i⟩ <;> (rw [e]; assumption)
theorem ArN.new5 (w : World) : ArN 5 (w.alloc (.cells #[.int .i64 0, .int .i64 0, .int .i64 0, .int .i64 0, .int .i64 0] 37)) w.heap.size (fun _ => 0) := by
  refine ⟨by simp, fun j hj => ?_, fun j hj => by simp⟩
  obtain rfl | rfl | rfl | rfl | rfl : j = 0 ∨ j = 1 ∨ j = 2 ∨ j = 3 ∨ j = 4 := by omega
  all_goals simp
/-- A deed stored. -/
def put7 (w : World) (X : Nat) (d : Dd) : World := (((((((w.setCell ⟨X, 0, none⟩ (.int .i64 d.Kind)).setCell ⟨X, 1, none⟩ (.int .i64 d.By)).setCell ⟨X, 2, none⟩ (.int .i64 d.No)).setCell ⟨X, 3, none⟩ (.int .i64 d.Seen)).setCell ⟨X, 4, none⟩ (.int .i64 d.At)).setCell ⟨X, 5, none⟩ (.int .i64 d.Many)).setCell ⟨X, 6, none⟩ (.string d.Text))
def All7 (w : World) (X : Nat) : Prop := ∀ j, j < 7 → ∃ u, w.cell? ⟨X, j, none⟩ = some u
theorem cell_set {w : World} {X : Nat} (h : All7 w X) {i : Nat} (hi : i < 7) (v : Value) (j : Nat) : (w.setCell ⟨X, i, none⟩ v).cell? ⟨X, j, none⟩ = if j = i then some v else w.cell? ⟨X, j, none⟩ := by
  by_cases e : j = i
  · subst e; rw [if_pos rfl]; obtain ⟨u, hu⟩ := h j hi; exact World.cell?_setCell_same _ _ _ hu
  · rw [if_neg e, World.cell?_setCell_other _ _ _ _ (fun x => e (by cases x; rfl))]
theorem All7.set {w : World} {X : Nat} (h : All7 w X) {i : Nat} (hi : i < 7) (v : Value) : All7 (w.setCell ⟨X, i, none⟩ v) X := by
  intro j hj
  rw [cell_set h hi]
  split
  · exact ⟨_, rfl⟩
  · exact h j hj
theorem DdB.all {w : World} {X : Nat} {d : Dd} (h : DdB w X d) : All7 w X := by
  obtain ⟨_, ⟨_, a0, a1, a2, a3, a4, a5, a6⟩, _⟩ := h
  intro j hj
  obtain rfl | rfl | rfl | rfl | rfl | rfl | rfl : j = 0 ∨ j = 1 ∨ j = 2 ∨ j = 3 ∨ j = 4 ∨ j = 5 ∨ j = 6 := by omega
  all_goals first | exact ⟨_, a0⟩ | exact ⟨_, a1⟩ | exact ⟨_, a2⟩ | exact ⟨_, a3⟩ | exact ⟨_, a4⟩ | exact ⟨_, a5⟩ | exact ⟨_, a6⟩
theorem DdB.put7 {w : World} {X : Nat} {d0 : Dd} (h : DdB w X d0) (d : Dd) : DdB (put7 w X d) X d := by
  have h0 := h.all
  have h1 := h0.set (i := 0) (by omega) (.int .i64 d.Kind)
  have h2 := h1.set (i := 1) (by omega) (.int .i64 d.By)
  have h3 := h2.set (i := 2) (by omega) (.int .i64 d.No)
  have h4 := h3.set (i := 3) (by omega) (.int .i64 d.Seen)
  have h5 := h4.set (i := 4) (by omega) (.int .i64 d.At)
  have h6 := h5.set (i := 5) (by omega) (.int .i64 d.Many)
  have hs : (Go.Proofs.YtneoeokfffnonadDoor.put7 w X d).heap.size = w.heap.size := by unfold Go.Proofs.YtneoeokfffnonadDoor.put7; simp
  have hf : ∀ j, (Go.Proofs.YtneoeokfffnonadDoor.put7 w X d).frozen? ⟨X, j, none⟩ = false := fun j => by unfold Go.Proofs.YtneoeokfffnonadDoor.put7; simp only [World.frozen?_setCell]; exact h.fz j
  have hc : ∀ j, (Go.Proofs.YtneoeokfffnonadDoor.put7 w X d).cell? ⟨X, j, none⟩ = if j = 6 then some (.string d.Text) else if j = 5 then some (.int .i64 d.Many) else if j = 4 then some (.int .i64 d.At) else if j = 3 then some (.int .i64 d.Seen) else if j = 2 then some (.int .i64 d.No) else if j = 1 then some (.int .i64 d.By) else if j = 0 then some (.int .i64 d.Kind) else w.cell? ⟨X, j, none⟩ := fun j => by
    unfold Go.Proofs.YtneoeokfffnonadDoor.put7
    rw [cell_set h6 (by omega), cell_set h5 (by omega), cell_set h4 (by omega), cell_set h3 (by omega), cell_set h2 (by omega), cell_set h1 (by omega), cell_set h0 (by omega)]
  refine ⟨by rw [hs]; exact h.lt, ⟨by rw [hs]; exact h.lt, ?_, ?_, ?_, ?_, ?_, ?_, ?_⟩, hf⟩ <;> (rw [hc]; rfl)
theorem put7_below {w w' : World} {n X : Nat} (h : Below n w w') (hx : n ≤ X) (d : Dd) : Below n w (put7 w' X d) := by
  unfold put7
  exact ((((((h.setCell hx _).setCell hx _).setCell hx _).setCell hx _).setCell hx _).setCell hx _).setCell hx _
theorem DdB.set {w : World} {X : Nat} {d0 d : Dd} (h : DdB w X d0) {w' : World} (h' : Go.Proofs.YtneoeokfffnonadDoor.put7 w X d = w') : DdB w' X d := by rw [← h']; exact h.put7 d

/-- Split in six. -/
theorem six_box (s : ByteArray) (w : World) (ty : TypeId) : ∃ xs : List ByteArray, xs = Lib.splitB ⟨#[32]⟩ 0 (min 6 (s.size + 1) - 1) s ∧ xs.map (·.data.toList) = Lib.splitN s.data.toList [32] 6 ∧ xs.length ≤ min 6 (s.size + 1) ∧ SBox (w.alloc (.cells (Lib.cellsOf xs (min 6 (s.size + 1))) ty)) w.heap.size xs := by
  refine ⟨_, rfl, ?_, ?_, ?_⟩
  · rw [Lib.splitB_data]
    unfold Lib.splitN
    simp
  · have := Lib.splitB_length_le ⟨#[32]⟩ 0 (min 6 (s.size + 1) - 1) s
    omega
  · refine ⟨by simp, fun j x hx => ?_, fun j => by simp⟩
    rw [World.cell?_alloc_new]
    have h6 := (List.getElem?_eq_some_iff.1 hx).1
    simp only [Lib.cellsOf, List.getElem?_toArray]
    rw [List.getElem?_append_left (by rw [List.length_map]; exact h6), List.getElem?_map, hx]
    rfl
/-- What the words tell. -/
theorem six_words (s : ByteArray) (xs : List ByteArray) (hx : xs.map (·.data.toList) = Lib.splitN s.data.toList [32] 6) :
    (∃ k a b c e r : ByteArray, xs = [k, a, b, c, e, r] ∧ wordsF 5 s.data.toList = some ([k.data.toList, a.data.toList, b.data.toList, c.data.toList, e.data.toList], r.data.toList)) ∨ (xs.length < 6 ∧ parseF s.data.toList = (zDd, 3)) := by
  rcases splitN_words 5 s.data.toList with ⟨ws, r, h1, h2, h3⟩ | ⟨h1, h2⟩
  · rw [show (5 + 1 : Nat) = 6 from rfl] at h2
    rw [h2] at hx
    have hl : xs.length = 6 := by have := congrArg List.length hx; simp [h3] at this; exact this
    left
    match xs, hl with
    | [k, a, b, c, e, r'], _ =>
      match ws, h3 with
      | [k1, a1, b1, c1, e1], _ =>
        simp at hx
        obtain ⟨rfl, rfl, rfl, rfl, rfl, rfl⟩ := hx
        exact ⟨_, _, _, _, _, _, rfl, h1⟩
  · right
    rw [show (5 + 1 : Nat) = 6 from rfl] at h2
    rw [← hx, List.length_map] at h2
    refine ⟨by omega, ?_⟩
    unfold parseF
    rw [h1]
section
variable {s k a b c e r : Str} (h : wordsF 5 s = some ([k, a, b, c, e], r))
include h
theorem parse_bad (hn : numOf a = none ∨ numOf b = none ∨ numOf c = none ∨ numOf e = none) : parseF s = (zDd, 3) := by
  unfold parseF
  rw [h]
  simp only
  split
  · split
    · rename_i A B C E _ _ _ _; rcases hn with hn | hn | hn | hn <;> simp_all
    · rfl
  · split
    · split
      · rename_i A B C E M _ _ _ _ _; rcases hn with hn | hn | hn | hn <;> simp_all
      · rfl
    · rfl
theorem parse_bad5 (hk : k ≠ putB) (hn : numOf r = none) : parseF s = (zDd, 3) := by
  unfold parseF
  rw [h]
  simp only
  rw [if_neg hk]
  split
  · split
    · rename_i A B C E M _ _ _ _ _; simp_all
    · rfl
  · rfl
theorem parse_kind (hk : k ≠ putB) (ht : k ≠ takeB) : parseF s = (zDd, 3) := by
  unfold parseF
  rw [h]
  simp only
  rw [if_neg hk, if_neg ht]
theorem parse_put {A B C E : Int} (hk : k = putB) (h1 : numOf a = some A) (h2 : numOf b = some B) (h3 : numOf c = some C) (h4 : numOf e = some E) : parseF s = chkD ⟨1, A, B, C, E, 0, ⟨r.toArray⟩⟩ := by
  unfold parseF
  rw [h]
  simp only
  rw [if_pos hk, h1, h2, h3, h4]
theorem parse_take {A B C E M : Int} (hk : k = takeB) (h1 : numOf a = some A) (h2 : numOf b = some B) (h3 : numOf c = some C) (h4 : numOf e = some E) (h5 : numOf r = some M) : parseF s = chkD ⟨2, A, B, C, E, M, ⟨#[]⟩⟩ := by
  unfold parseF
  rw [h]
  simp only
  rw [if_neg (by rw [hk]; decide), if_pos hk, h1, h2, h3, h4, h5]
end

theorem DdB.newD (w : World) (d : Dd) : DdB (w.alloc (.cells #[.int .i64 d.Kind, .int .i64 d.By, .int .i64 d.No, .int .i64 d.Seen, .int .i64 d.At, .int .i64 d.Many, .string d.Text] 23)) w.heap.size d :=
  ⟨by simp, DdAt.new w d, fun j => by simp⟩
theorem DdB.kind {w : World} {X : Nat} {d : Dd} (h : DdB w X d) (v : Int) : DdB (w.setCell ⟨X, 0, none⟩ (.int .i64 v)) X ⟨v, d.By, d.No, d.Seen, d.At, d.Many, d.Text⟩ := by
  have hc := fun j => cell_set h.all (i := 0) (by omega) (.int .i64 v) j
  obtain ⟨h1, ⟨a, a0, a1, a2, a3, a4, a5, a6⟩, h3⟩ := h
  refine ⟨by simpa using h1, ⟨by simpa using a, ?_, ?_, ?_, ?_, ?_, ?_, ?_⟩, fun i => by rw [World.frozen?_setCell]; exact h3 i⟩ <;> (rw [hc]; first | rfl | assumption)
theorem DdB.text {w : World} {X : Nat} {d : Dd} (h : DdB w X d) (v : ByteArray) : DdB (w.setCell ⟨X, 6, none⟩ (.string v)) X ⟨d.Kind, d.By, d.No, d.Seen, d.At, d.Many, v⟩ := by
  have hc := fun j => cell_set h.all (i := 6) (by omega) (.string v) j
  obtain ⟨h1, ⟨a, a0, a1, a2, a3, a4, a5, a6⟩, h3⟩ := h
  refine ⟨by simpa using h1, ⟨by simpa using a, ?_, ?_, ?_, ?_, ?_, ?_, ?_⟩, fun i => by rw [World.frozen?_setCell]; exact h3 i⟩ <;> (rw [hc]; first | rfl | assumption)
theorem DdB.many {w : World} {X : Nat} {d : Dd} (h : DdB w X d) (v : Int) : DdB (w.setCell ⟨X, 5, none⟩ (.int .i64 v)) X ⟨d.Kind, d.By, d.No, d.Seen, d.At, v, d.Text⟩ := by
  have hc := fun j => cell_set h.all (i := 5) (by omega) (.int .i64 v) j
  obtain ⟨h1, ⟨a, a0, a1, a2, a3, a4, a5, a6⟩, h3⟩ := h
  refine ⟨by simpa using h1, ⟨by simpa using a, ?_, ?_, ?_, ?_, ?_, ?_, ?_⟩, fun i => by rw [World.frozen?_setCell]; exact h3 i⟩ <;> (rw [hc]; first | rfl | assumption)
theorem put_iff0 (k : ByteArray) : k = ⟨#[112, 117, 116]⟩ ↔ k.data.toList = [112, 117, 116] :=
  ⟨fun h => by rw [h], fun h => ba_ext (by rw [h])⟩
theorem take_iff0 (k : ByteArray) : k = ⟨#[116, 97, 107, 101]⟩ ↔ k.data.toList = [116, 97, 107, 101] :=
  ⟨fun h => by rw [h], fun h => ba_ext (by rw [h])⟩
theorem put_beq {k : ByteArray} (h : k ≠ ⟨#[112, 117, 116]⟩) : (k.toList == [112, 117, 116]) = false := by
  rw [ByteArray.toList_eq, beq_eq_false_iff_ne]
  exact fun e => h ((put_iff0 k).2 e)
theorem take_beq {k : ByteArray} (h : k ≠ ⟨#[116, 97, 107, 101]⟩) : (k.toList == [116, 97, 107, 101]) = false := by
  rw [ByteArray.toList_eq, beq_eq_false_iff_ne]
  exact fun e => h ((take_iff0 k).2 e)
structure PInv (w : World) (X B Y : Nat) (k : ByteArray) (ys : List ByteArray) (j : Nat) (V : Nat → Int) (wr : World) : Prop where
  nums : ∀ i x, i < j → ys[i]? = some x → numOf x.data.toList = some (V i)
  zero : ∀ i, j ≤ i → V i = 0
  ar : ArN 5 wr Y V
  box : SBox wr B (k :: ys)
  dd : DdB wr X zDd
  bl : Below w.heap.size w wr
  np : 4 < j → k ≠ ⟨#[112, 117, 116]⟩
theorem PInv.next {w wr wx : World} {X B Y : Nat} {k x : ByteArray} {ys : List ByteArray} {j : Nat} {V : Nat → Int} {v : Int} (h : PInv w X B Y k ys j V wr) (hl : Below wr.heap.size wr wx) (hj : j < 5) (hx : ys[j]? = some x) (hn : numOf x.data.toList = some v) (hYW : w.heap.size ≤ Y) (hBY : B ≠ Y) (hXY : X ≠ Y) (hp : ¬ (j = 4 ∧ k = ⟨#[112, 117, 116]⟩)) :
    PInv w X B Y k ys (j + 1) (fun i => if i = j then v else V i) (wx.setCell ⟨Y, j, none⟩ (.int .i64 v)) := by
  refine ⟨fun i y hi hy => ?_, fun i hi => ?_, (h.ar.later hl).set hj v, (h.box.later hl).other hBY, (h.dd.later hl).other hXY, (h.bl.trans (hl.mono h.bl.size)).setCell hYW _, fun h4 => ?_⟩
  · by_cases e : i = j
    · subst e; rw [if_pos rfl]; rw [hx] at hy; cases hy; exact hn
    · rw [if_neg e]; exact h.nums i y (by omega) hy
  · rw [if_neg (by omega)]; exact h.zero i (by omega)
  · exact fun e => hp ⟨by omega, e⟩
theorem words_len {s : ByteArray} {k a b c e r : ByteArray} (h : wordsF 5 s.data.toList = some ([k.data.toList, a.data.toList, b.data.toList, c.data.toList, e.data.toList], r.data.toList)) : a.size ≤ s.size ∧ b.size ≤ s.size ∧ c.size ≤ s.size ∧ e.size ≤ s.size ∧ r.size ≤ s.size := by
  have h1 := congrArg List.length (words_eq 5 _ _ _ h)
  simp only [List.foldr_cons, List.foldr_nil, List.length_append, List.length_cons, Array.length_toList] at h1
  have q : ∀ x : ByteArray, x.data.size = x.size := fun x => rfl
  simp only [q] at h1
  omega
theorem put_iff (k : ByteArray) : k = ⟨#[112, 117, 116]⟩ ↔ k.data.toList = putB :=
  ⟨fun h => by rw [h]; rfl, fun h => ba_ext (by rw [h]; rfl)⟩
theorem take_iff (k : ByteArray) : k = ⟨#[116, 97, 107, 101]⟩ ↔ k.data.toList = takeB :=
  ⟨fun h => by rw [h]; rfl, fun h => ba_ext (by rw [h]; rfl)⟩
theorem parse_badJ {s : ByteArray} {k a b c e r x : ByteArray} {j : Nat} (h : wordsF 5 s.data.toList = some ([k.data.toList, a.data.toList, b.data.toList, c.data.toList, e.data.toList], r.data.toList)) (hj : j < 5) (hx : [a, b, c, e, r][j]? = some x) (hn : numOf x.data.toList = none) (hp : ¬ (j = 4 ∧ k = ⟨#[112, 117, 116]⟩)) : parseF s.data.toList = (zDd, 3) := by
  obtain rfl | rfl | rfl | rfl | rfl : j = 0 ∨ j = 1 ∨ j = 2 ∨ j = 3 ∨ j = 4 := by omega
  all_goals (simp at hx; subst hx)
  · exact parse_bad h (.inl hn)
  · exact parse_bad h (.inr (.inl hn))
  · exact parse_bad h (.inr (.inr (.inl hn)))
  · exact parse_bad h (.inr (.inr (.inr hn)))
  · exact parse_bad5 h (fun e => hp ⟨rfl, (put_iff k).2 e⟩) hn

set_option maxRecDepth 100000 in
set_option maxHeartbeats 1000000 in
theorem Parse_c (s : ByteArray) (hs : s.size ≤ 1000000) (w : World) (hk : LibK w) :
    Calls Tryd.prog 9 #[.string s] w fun e w' => e = .returned (.tuple #[.agg #[.int .i64 ((parseF s.data.toList).1).Kind, .int .i64 ((parseF s.data.toList).1).By, .int .i64 ((parseF s.data.toList).1).No, .int .i64 ((parseF s.data.toList).1).Seen, .int .i64 ((parseF s.data.toList).1).At, .int .i64 ((parseF s.data.toList).1).Many, .string ((parseF s.data.toList).1).Text], .int .i64 (parseF s.data.toList).2]) ∧ Below w.heap.size w w' := by
  have hb0 := (Below.refl w.heap.size w).alloc (Nat.le_refl _) (.cells #[.int .i64 0, .int .i64 0, .int .i64 0, .int .i64 0, .int .i64 0, .int .i64 0, .string ⟨#[]⟩] 23)
  have HB0 := Lib.hid hb0
  have HX0 := Lib.hid (DdB.new w)
  have HK0 := Lib.hid (hk.later hb0)
  have HK := Lib.hid hk
  clear hk hb0
  go_enter Tryd.func9, Tryd.ntmps9
  go_upto_region 1 with fail
  generalize hw0 : w.alloc _ = w0
  have hw0' : w.alloc (.cells #[.int .i64 0, .int .i64 0, .int .i64 0, .int .i64 0, .int .i64 0, .int .i64 0, .string ⟨#[]⟩] 23) = w0 := hw0
  rw [hw0'] at HB0 HX0 HK0
  clear hw0 hw0'
  obtain ⟨X, hX⟩ : ∃ X, X = w.heap.size := ⟨_, rfl⟩
  rw [← hX] at HX0 ⊢
  have HXW := Lib.hid (show w.heap.size ≤ X from Nat.le_of_eq hX.symm)
  clear hX
  obtain ⟨m, hm⟩ := HK0.out.mx
  have hSN := Tryd.strings_SplitN s ⟨#[32]⟩ 6 m w0 (by omega) hm (by decide) (by decide) (by decide)
  obtain ⟨xs, hxs, hxm, hxl, hbox⟩ := six_box s w0 9
  rw [← hxs] at hSN
  have HSN := Lib.hid hSN
  have HBX := Lib.hid hbox
  have HXM := Lib.hid hxm
  have HXL := Lib.hid hxl
  clear hSN hbox hxm hxl hxs hm
  go_wp2_with fail
  refine HSN.out.mono ?_
  rintro e w1 ⟨rfl, hw1⟩
  have hb1 : Below w0.heap.size w0 w1 := by rw [hw1]; exact (Below.refl w0.heap.size w0).alloc (Nat.le_refl _) _
  rw [← hw1] at HBX
  have HB1 := Lib.hid (HB0.out.trans (hb1.mono HB0.out.size))
  have HX1 := Lib.hid (HX0.out.later hb1)
  have HK1 := Lib.hid (HK0.out.later hb1)
  have hcap : xs.length ≤ min 6 (s.size + 1) := HXL.out
  have HXB := Lib.hid (show X ≠ w0.heap.size from by have := HX0.out.lt; omega)
  have HBW := Lib.hid (show X ≤ w0.heap.size from Nat.le_of_lt HX0.out.lt)
  clear hb1 hw1 HB0 HX0 HK0 HSN HXL
  generalize w0.heap.size = B at HBX HXB HBW ⊢
  generalize min 6 (s.size + 1) = cap at hcap ⊢
  rcases six_words s xs HXM.out with ⟨k, a, b, c, e, r, rfl, hws⟩ | ⟨h6, hpf⟩
  case inr =>
    have HR := Lib.hid hpf
    clear hpf
    have h6' : (xs.length : Int) < 6 := by omega
    have hfz := HX1.out.fz
    obtain ⟨_, x0, x1, x2, x3, x4, x5, x6⟩ := HX1.out.at'
    have f0 := hfz 0
    have f1 := hfz 1
    have f2 := hfz 2
    have f3 := hfz 3
    have f4 := hfz 4
    have f5 := hfz 5
    have f6 := hfz 6
    clear hfz
    go_wp2
    (have hp := DdB.put7 HX1.out zDd; have hq := put7_below HB1.out HXW.out zDd; unfold put7 zDd at hp hq; (try simp only at hp hq); generalize World.setCell _ _ _ = wf at hp hq ⊢; (try clear x0 x1 x2 x3 x4 x5 x6); obtain ⟨_, ⟨_, x0, x1, x2, x3, x4, x5, x6⟩, _⟩ := hp; (try simp only at x0 x1 x2 x3 x4 x5 x6); (try simp only [Exit.inBlock, Exit.then]); refine bodyPost_ret (v := .tuple #[.agg #[.int .i64 0, .int .i64 0, .int .i64 0, .int .i64 0, .int .i64 0, .int .i64 0, .string ⟨#[]⟩], .int .i64 3]) ?_ rfl ⟨by rw [HR.out]; rfl, hq⟩; rw [results_cell_tmp rfl]; go_simp)
  have HWS := Lib.hid hws
  have HWL := Lib.hid (words_len hws)
  clear hws HXM
  go_upto_region 5 with fail
  generalize hw2 : w1.alloc _ = w2
  have hw2' : w1.alloc (.cells #[.int .i64 0, .int .i64 0, .int .i64 0, .int .i64 0, .int .i64 0] 37) = w2 := hw2
  have hb2 : Below w1.heap.size w1 w2 := by rw [← hw2']; exact (Below.refl w1.heap.size w1).alloc (Nat.le_refl _) _
  have HY2 := Lib.hid (show ArN 5 w2 w1.heap.size (fun _ => 0) from by rw [← hw2']; exact ArN.new5 w1)
  have HX2 := Lib.hid (HX1.out.later hb2)
  have HBX2 := Lib.hid (HBX.out.later hb2)
  have HB2 := Lib.hid (HB1.out.trans (hb2.mono HB1.out.size))
  have HXY := Lib.hid (show X ≠ w1.heap.size from by have := HX1.out.lt; omega)
  have HBY := Lib.hid (show B ≠ w1.heap.size from by have := HBX.out.lt; omega)
  have HYW := Lib.hid (show w.heap.size ≤ w1.heap.size from HB1.out.size)
  clear hw2 hw2' hb2 HX1 HBX HB1
  generalize w1.heap.size = Y at HY2 HXY HBY HYW ⊢
  have HI0 := Lib.hid (show PInv w X B Y k [a, b, c, e, r] 0 (fun _ => 0) w2 from ⟨fun i x hi _ => absurd hi (Nat.not_lt_zero _), fun _ _ => rfl, HY2.out, HBX2.out, HX2.out, HB2.out, fun h => absurd h (by omega)⟩)
  clear HY2 HX2 HBX2 HB2
  have hc6 : 6 ≤ cap := hcap
  clear hcap
  go_wp2
  go_loopw [21] (fun s21 wr => ∃ (j : Nat) (V : Nat → Int), j ≤ 5 ∧ s21 = (.int .i64 (j : Int)) ∧ Hid (PInv w X B Y k [a, b, c, e, r] j V wr)) (fun s21 _ => 5 - (intOf s21).toNat)
  case atStart => exact ⟨0, fun _ => 0, by omega, rfl, HI0⟩
  case round =>
    obtain ⟨j, V, hj, rfl, HI⟩ := hrel
    clear HI0
    by_cases hlt : j < 5
    · obtain ⟨x, hx⟩ : ∃ x, [a, b, c, e, r][j]? = some x := ⟨_, List.getElem?_eq_getElem (by simpa using hlt)⟩
      have HX := Lib.hid hx
      have hxs : x.size ≤ 1000000 := by
        have h := HWL.out
        obtain rfl | rfl | rfl | rfl | rfl : j = 0 ∨ j = 1 ∨ j = 2 ∨ j = 3 ∨ j = 4 := by omega
        all_goals (simp at hx; subst hx; omega)
      have HXS := Lib.hid hxs
      have hc := HI.out.box.c (1 + j) x (by rw [Nat.add_comm]; exact hx)
      have hk0 := HI.out.box.c 0 k rfl
      have hlt' : (j : Int) < 5 := by omega
      have hj0 : (0 : Int) ≤ (j : Int) := by omega
      clear hx hxs
      obtain ⟨bb, hbb⟩ : ∃ bb, bb = decide (j = 4 ∧ k = ⟨#[112, 117, 116]⟩) := ⟨_, rfl⟩
      go_upto_region 8 with fail
      go_cut [33] (fun s33 wx => s33 = .bool bb ∧ wx = wr)
      case first =>
        by_cases h4 : j = 4
        · subst h4
          by_cases hp : k = ⟨#[112, 117, 116]⟩
          · subst hp
            have HBB := Lib.hid (show bb = true from by rw [hbb]; simp)
            clear hbb
            go_wp2
            go_meet
            exact ⟨by rw [HBB.out], rfl⟩
          · have e1 : decide (k = (⟨#[112, 117, 116]⟩ : ByteArray)) = false := decide_eq_false hp
            have e3 : decide (k.toList = (⟨#[112, 117, 116]⟩ : ByteArray).toList) = false := decide_eq_false fun e => hp (ba_ext (by rwa [ByteArray.toList_eq, ByteArray.toList_eq] at e))
            have e4 := put_beq hp
            have HBB := Lib.hid (show bb = false from by rw [hbb]; simp [hp])
            clear hbb
            go_wp2
            go_meet
            exact ⟨by rw [HBB.out], rfl⟩
        · have e1 : decide ((j : Int) = 4) = false := decide_eq_false (by omega)
          have e2 : ((j : Int) == 4) = false := by simp; omega
          have HBB := Lib.hid (show bb = false from by rw [hbb]; simp [h4])
          clear hbb
          go_wp2
          go_meet
          exact ⟨by rw [HBB.out], rfl⟩
      case rest =>
        obtain ⟨rfl, rfl⟩ := hcut
        clear hc hk0
        generalize wc = wr at *
        cases bb with
        | true =>
          obtain ⟨rfl, hkp⟩ : j = 4 ∧ k = ⟨#[112, 117, 116]⟩ := by simpa using hbb.symm
          clear hbb HX HXS
          have HNU := Lib.hid (show numOf a.data.toList = some (V 0) ∧ numOf b.data.toList = some (V 1) ∧ numOf c.data.toList = some (V 2) ∧ numOf e.data.toList = some (V 3) from ⟨HI.out.nums 0 a (by omega) rfl, HI.out.nums 1 b (by omega) rfl, HI.out.nums 2 c (by omega) rfl, HI.out.nums 3 e (by omega) rfl⟩)
          have y0 := HI.out.ar.c 0 (by omega)
          have y1 := HI.out.ar.c 1 (by omega)
          have y2 := HI.out.ar.c 2 (by omega)
          have y3 := HI.out.ar.c 3 (by omega)
          have y4 := HI.out.ar.c 4 (by omega)
          have hk0 := HI.out.box.c 0 k rfl
          have HXr := Lib.hid HI.out.dd
          have HBr := Lib.hid HI.out.bl
          have HTr := Lib.hid HI.out.box
          rw [HI.out.zero 4 (Nat.le_refl _)] at y4
          subst hkp
          clear HI
          generalize V 0 = v0 at HNU y0
          generalize V 1 = v1 at HNU y1
          generalize V 2 = v2 at HNU y2
          generalize V 3 = v3 at HNU y3
          go_upto_region 15 with fail
          generalize hw5 : wr.alloc _ = w5
          have hw5' : wr.alloc (.cells #[.int .i64 (⟨2, v0, v1, v2, v3, 0, ⟨#[]⟩⟩ : Dd).Kind, .int .i64 (⟨2, v0, v1, v2, v3, 0, ⟨#[]⟩⟩ : Dd).By, .int .i64 (⟨2, v0, v1, v2, v3, 0, ⟨#[]⟩⟩ : Dd).No, .int .i64 (⟨2, v0, v1, v2, v3, 0, ⟨#[]⟩⟩ : Dd).Seen, .int .i64 (⟨2, v0, v1, v2, v3, 0, ⟨#[]⟩⟩ : Dd).At, .int .i64 (⟨2, v0, v1, v2, v3, 0, ⟨#[]⟩⟩ : Dd).Many, .string (⟨2, v0, v1, v2, v3, 0, ⟨#[]⟩⟩ : Dd).Text] 23) = w5 := hw5
          have hb5 : Below wr.heap.size wr w5 := by rw [← hw5']; exact (Below.refl wr.heap.size wr).alloc (Nat.le_refl _) _
          have HZ5 := Lib.hid (show DdB w5 wr.heap.size ⟨2, v0, v1, v2, v3, 0, ⟨#[]⟩⟩ from by rw [← hw5']; exact DdB.newD wr _)
          have HX5 := Lib.hid (HXr.out.later hb5)
          have HT5 := Lib.hid (HTr.out.later hb5)
          have HB5 := Lib.hid (HBr.out.trans (hb5.mono HBr.out.size))
          have HXZ := Lib.hid (show X ≠ wr.heap.size from by have := HXr.out.lt; omega)
          have HTZ := Lib.hid (show B ≠ wr.heap.size from by have := HTr.out.lt; omega)
          have HZW := Lib.hid (show w.heap.size ≤ wr.heap.size from HBr.out.size)
          clear hw5 hw5' hb5 HXr HTr HBr y0 y1 y2 y3 y4 hk0
          generalize wr.heap.size = Z at HZ5 HXZ HTZ HZW ⊢
          have hk0 := HT5.out.c 0 _ rfl
          go_upto_region 18 with fail
          have hk5 := HT5.out.c 5 _ rfl
          clear hk0
          have hz := HZ5.out.fz
          have f0 := hz 0
          have f6 := hz 6
          have z0 := HZ5.out.at'.c0
          have z6 := HZ5.out.at'.c6
          clear hz
          have HZ7 := Lib.hid (((HZ5.out.kind 1).text r).later (Below.drew (Below.refl _ _)))
          have HX7 := Lib.hid (((HX5.out.other (b2 := Z) (o := 0) (v := .int .i64 1) HXZ.out).other (b2 := Z) (o := 6) (v := .string r) HXZ.out).later (Below.drew (Below.refl _ _)))
          have HB7 := Lib.hid (show Below w.heap.size w (((w5.setCell ⟨Z, 0, none⟩ (.int .i64 1)).setCell ⟨Z, 6, none⟩ (.string r)).drew) from ((HB5.out.setCell HZW.out _).setCell HZW.out _).drew)
          clear HZ5 HX5 HB5 HT5
          go_region
          clear f0 f6 z0 z6 hk5
          generalize World.drew _ = w7 at HZ7 HX7 HB7 ⊢
          have HD := Lib.hid (show parseF s.data.toList = chkD (⟨1, v0, v1, v2, v3, 0, r⟩ : Dd) from (parse_put HWS.out rfl HNU.out.1 HNU.out.2.1 HNU.out.2.2.1 HNU.out.2.2.2))
          obtain ⟨hZl, ⟨_, z0, z1, z2, z3, z4, z5, z6⟩, _⟩ := HZ7.out
          go_wp2_with fail
          refine (DCheck_c (⟨1, v0, v1, v2, v3, 0, r⟩ : Dd) w7 (by show ByteArray.size _ ≤ maxLen; have h := HWL.out; have h2 : maxLen = 9223372036854775807 := rfl; simp only; omega)).mono ?_
          rintro e w8 ⟨rfl, hb8⟩
          have HZ8 := Lib.hid (HZ7.out.later hb8)
          have HX8 := Lib.hid (HX7.out.later hb8)
          have HB8 := Lib.hid (HB7.out.trans (hb8.mono HB7.out.size))
          clear hb8 HZ7 HX7 HB7 z0 z1 z2 z3 z4 z5 z6
          obtain ⟨dd, hdd⟩ : ∃ dd : Dd, dd = (⟨1, v0, v1, v2, v3, 0, r⟩ : Dd) := ⟨_, rfl⟩
          rw [← hdd] at HD HZ8 ⊢
          clear hdd
          by_cases hf : deedFault dd = 0
          · have HR := Lib.hid (show parseF s.data.toList = (dd, 0) from by rw [HD.out]; unfold chkD; rw [if_pos hf])
            rw [hf]
            obtain ⟨_, ⟨_, z0, z1, z2, z3, z4, z5, z6⟩, _⟩ := HZ8.out
            have hfz := HX8.out.fz
            obtain ⟨_, ⟨_, x0, x1, x2, x3, x4, x5, x6⟩, _⟩ := HX8.out
            have f0 := hfz 0
            have f1 := hfz 1
            have f2 := hfz 2
            have f3 := hfz 3
            have f4 := hfz 4
            have f5 := hfz 5
            have f6 := hfz 6
            clear hfz
            go_wp2
            (have hp := DdB.put7 HX8.out dd; have hq := put7_below HB8.out HXW.out dd; unfold put7 at hp hq; generalize World.setCell _ _ _ = wf at hp hq ⊢; (try clear x0 x1 x2 x3 x4 x5 x6); obtain ⟨_, ⟨_, x0, x1, x2, x3, x4, x5, x6⟩, _⟩ := hp; (try simp only [Exit.inBlock, Exit.then]); refine bodyPost_ret (v := .tuple #[.agg #[.int .i64 dd.Kind, .int .i64 dd.By, .int .i64 dd.No, .int .i64 dd.Seen, .int .i64 dd.At, .int .i64 dd.Many, .string dd.Text], .int .i64 0]) ?_ rfl ⟨by rw [HR.out], hq⟩; rw [results_cell_tmp rfl]; go_simp)
          · have HR := Lib.hid (show parseF s.data.toList = (zDd, deedFault dd) from by rw [HD.out]; unfold chkD; rw [if_neg hf])
            have hfB : decide (deedFault dd = 0) = false := decide_eq_false hf
            have hfN : (deedFault dd != 0) = true := by simpa using hf
            generalize deedFault dd = cf at *
            have hfz := HX8.out.fz
            obtain ⟨_, ⟨_, x0, x1, x2, x3, x4, x5, x6⟩, _⟩ := HX8.out
            have f0 := hfz 0
            have f1 := hfz 1
            have f2 := hfz 2
            have f3 := hfz 3
            have f4 := hfz 4
            have f5 := hfz 5
            have f6 := hfz 6
            clear hfz
            go_wp2
            (have hp := DdB.put7 HX8.out zDd; have hq := put7_below HB8.out HXW.out zDd; unfold put7 zDd at hp hq; (try simp only at hp hq); generalize World.setCell _ _ _ = wf at hp hq ⊢; (try clear x0 x1 x2 x3 x4 x5 x6); obtain ⟨_, ⟨_, x0, x1, x2, x3, x4, x5, x6⟩, _⟩ := hp; (try simp only at x0 x1 x2 x3 x4 x5 x6); (try simp only [Exit.inBlock, Exit.then]); refine bodyPost_ret (v := .tuple #[.agg #[.int .i64 0, .int .i64 0, .int .i64 0, .int .i64 0, .int .i64 0, .int .i64 0, .string ⟨#[]⟩], .int .i64 cf]) ?_ rfl ⟨by rw [HR.out]; rfl, hq⟩; rw [results_cell_tmp rfl]; go_simp)
        | false =>
          have hnb : ¬ (j = 4 ∧ k = ⟨#[112, 117, 116]⟩) := by simpa using hbb.symm
          have HNB := Lib.hid hnb
          clear hbb hnb
          have HKr := Lib.hid (HK.out.later HI.out.bl)
          rcases numOf_cases x with ⟨v, h1, h2, h3, h4⟩ | ⟨v, h1, h2, h3, h4⟩ | ⟨h1, h2⟩
          · have H1 := Lib.hid h1; have H2 := Lib.hid h2; have H3 := Lib.hid (str_eq h3); have H4 := Lib.hid h4
            clear h1 h2 h3 h4
            go_wp2_with fail
            refine (atoi_ok x HXS.out v H1.out wr).mono ?_
            rintro e w3 ⟨rfl, hb3⟩
            have HB3 := Lib.hid hb3
            have HK3 := Lib.hid (HK.out.later (HI.out.bl.trans (hb3.mono HI.out.bl.size)))
            clear hb3
            go_wp2_with fail
            refine (dnum_c v H4.out w3 HK3.out).mono ?_
            rintro e w4 ⟨rfl, hb4⟩
            have HB4 := Lib.hid (HB3.out.trans (hb4.mono HB3.out.size))
            rw [H3.out]
            clear hb4 HB3
            have HN := Lib.hid (HI.out.next HB4.out hlt HX.out H2.out HYW.out HBY.out HXY.out HNB.out)
            have hY4 := HI.out.ar.later HB4.out
            have y1 := hY4.c j hlt
            have y2 := hY4.fz j hlt
            clear hY4 HB4 HI
            go_wp2
            exact ⟨⟨j + 1, _, by omega, by go_num, HN⟩, by simp [intOf]; omega⟩
          · have H1 := Lib.hid h1; have H2 := Lib.hid h2; have H4 := Lib.hid h4
            have HR := Lib.hid (parse_badJ HWS.out hlt HX.out h2 HNB.out)
            obtain ⟨T, hT⟩ : ∃ T : ByteArray, T = ⟨(Lib.itoa v).toArray⟩ := ⟨_, rfl⟩
            have HT := Lib.hid hT
            have hne : T ≠ x := by rw [hT]; exact str_ne h3
            have hne1 : decide (T = x) = false := decide_eq_false hne
            have hne3 : decide (T.toList = x.toList) = false := decide_eq_false fun e => hne (ba_ext (by rwa [ByteArray.toList_eq, ByteArray.toList_eq] at e))
            have hne4 : (T.toList == x.toList) = false := by simpa using hne3
            clear h1 h2 h3 h4 hT hne
            go_wp2_with fail
            refine (atoi_ok x HXS.out v H1.out wr).mono ?_
            rintro e w3 ⟨rfl, hb3⟩
            have HB3 := Lib.hid hb3
            have HK3 := Lib.hid (HK.out.later (HI.out.bl.trans (hb3.mono HI.out.bl.size)))
            clear hb3
            go_wp2_with fail
            refine (dnum_c v H4.out w3 HK3.out).mono ?_
            rintro e w4 ⟨rfl, hb4⟩
            have HB4 := Lib.hid (HB3.out.trans (hb4.mono HB3.out.size))
            rw [← HT.out]
            clear hb4 HB3
            have HXF := Lib.hid (HI.out.dd.later HB4.out)
            have HBF := Lib.hid (HI.out.bl.trans (HB4.out.mono HI.out.bl.size))
            clear HI HB4
            have hfz := HXF.out.fz
            obtain ⟨_, x0, x1, x2, x3, x4, x5, x6⟩ := HXF.out.at'
            have f0 := hfz 0
            have f1 := hfz 1
            have f2 := hfz 2
            have f3 := hfz 3
            have f4 := hfz 4
            have f5 := hfz 5
            have f6 := hfz 6
            clear hfz
            go_wp2
            (have hp := DdB.put7 HXF.out zDd; have hq := put7_below HBF.out HXW.out zDd; unfold put7 zDd at hp hq; (try simp only at hp hq); generalize World.setCell _ _ _ = wf at hp hq ⊢; (try clear x0 x1 x2 x3 x4 x5 x6); obtain ⟨_, ⟨_, x0, x1, x2, x3, x4, x5, x6⟩, _⟩ := hp; (try simp only at x0 x1 x2 x3 x4 x5 x6); (try simp only [Exit.inBlock, Exit.then]); refine bodyPost_ret (v := .tuple #[.agg #[.int .i64 0, .int .i64 0, .int .i64 0, .int .i64 0, .int .i64 0, .int .i64 0, .string ⟨#[]⟩], .int .i64 3]) ?_ rfl ⟨by rw [HR.out]; rfl, hq⟩; rw [results_cell_tmp rfl]; go_simp)
          · have H1 := Lib.hid h1
            have HR := Lib.hid (parse_badJ HWS.out hlt HX.out h2 HNB.out)
            clear h1 h2
            go_wp2_with fail
            refine (atoi_bad x HXS.out H1.out wr HKr.out).mono ?_
            rintro e w4 ⟨v, t, p, rfl, hb4⟩
            have HB4 := Lib.hid hb4
            clear hb4
            have HXF := Lib.hid (HI.out.dd.later HB4.out)
            have HBF := Lib.hid (HI.out.bl.trans (HB4.out.mono HI.out.bl.size))
            clear HI HB4
            have hfz := HXF.out.fz
            obtain ⟨_, x0, x1, x2, x3, x4, x5, x6⟩ := HXF.out.at'
            have f0 := hfz 0
            have f1 := hfz 1
            have f2 := hfz 2
            have f3 := hfz 3
            have f4 := hfz 4
            have f5 := hfz 5
            have f6 := hfz 6
            clear hfz
            go_wp2
            (have hp := DdB.put7 HXF.out zDd; have hq := put7_below HBF.out HXW.out zDd; unfold put7 zDd at hp hq; (try simp only at hp hq); generalize World.setCell _ _ _ = wf at hp hq ⊢; (try clear x0 x1 x2 x3 x4 x5 x6); obtain ⟨_, ⟨_, x0, x1, x2, x3, x4, x5, x6⟩, _⟩ := hp; (try simp only at x0 x1 x2 x3 x4 x5 x6); (try simp only [Exit.inBlock, Exit.then]); refine bodyPost_ret (v := .tuple #[.agg #[.int .i64 0, .int .i64 0, .int .i64 0, .int .i64 0, .int .i64 0, .int .i64 0, .string ⟨#[]⟩], .int .i64 3]) ?_ rfl ⟨by rw [HR.out]; rfl, hq⟩; rw [results_cell_tmp rfl]; go_simp)
    · obtain rfl : j = 5 := by omega
      have h5 : decide ((((5 : Nat) : Int)) < 5) = false := by decide
      have HNU := Lib.hid (show numOf a.data.toList = some (V 0) ∧ numOf b.data.toList = some (V 1) ∧ numOf c.data.toList = some (V 2) ∧ numOf e.data.toList = some (V 3) from ⟨HI.out.nums 0 a (by omega) rfl, HI.out.nums 1 b (by omega) rfl, HI.out.nums 2 c (by omega) rfl, HI.out.nums 3 e (by omega) rfl⟩)
      have HN5 := Lib.hid (HI.out.nums 4 r (by omega) rfl)
      have HNP := Lib.hid (HI.out.np (by omega))
      have y0 := HI.out.ar.c 0 (by omega)
      have y1 := HI.out.ar.c 1 (by omega)
      have y2 := HI.out.ar.c 2 (by omega)
      have y3 := HI.out.ar.c 3 (by omega)
      have y4 := HI.out.ar.c 4 (by omega)
      have hk0 := HI.out.box.c 0 k rfl
      have HXr := Lib.hid HI.out.dd
      have HBr := Lib.hid HI.out.bl
      have HTr := Lib.hid HI.out.box
      clear HI
      generalize V 0 = v0 at HNU y0
      generalize V 1 = v1 at HNU y1
      generalize V 2 = v2 at HNU y2
      generalize V 3 = v3 at HNU y3
      generalize V 4 = v4 at HN5 y4
      go_upto_region 15 with fail
      generalize hw5 : wr.alloc _ = w5
      have hw5' : wr.alloc (.cells #[.int .i64 (⟨2, v0, v1, v2, v3, v4, ⟨#[]⟩⟩ : Dd).Kind, .int .i64 (⟨2, v0, v1, v2, v3, v4, ⟨#[]⟩⟩ : Dd).By, .int .i64 (⟨2, v0, v1, v2, v3, v4, ⟨#[]⟩⟩ : Dd).No, .int .i64 (⟨2, v0, v1, v2, v3, v4, ⟨#[]⟩⟩ : Dd).Seen, .int .i64 (⟨2, v0, v1, v2, v3, v4, ⟨#[]⟩⟩ : Dd).At, .int .i64 (⟨2, v0, v1, v2, v3, v4, ⟨#[]⟩⟩ : Dd).Many, .string (⟨2, v0, v1, v2, v3, v4, ⟨#[]⟩⟩ : Dd).Text] 23) = w5 := hw5
      have hb5 : Below wr.heap.size wr w5 := by rw [← hw5']; exact (Below.refl wr.heap.size wr).alloc (Nat.le_refl _) _
      have HZ5 := Lib.hid (show DdB w5 wr.heap.size ⟨2, v0, v1, v2, v3, v4, ⟨#[]⟩⟩ from by rw [← hw5']; exact DdB.newD wr _)
      have HX5 := Lib.hid (HXr.out.later hb5)
      have HT5 := Lib.hid (HTr.out.later hb5)
      have HB5 := Lib.hid (HBr.out.trans (hb5.mono HBr.out.size))
      have HXZ := Lib.hid (show X ≠ wr.heap.size from by have := HXr.out.lt; omega)
      have HTZ := Lib.hid (show B ≠ wr.heap.size from by have := HTr.out.lt; omega)
      have HZW := Lib.hid (show w.heap.size ≤ wr.heap.size from HBr.out.size)
      clear hw5 hw5' hb5 HXr HTr HBr y0 y1 y2 y3 y4 hk0
      generalize wr.heap.size = Z at HZ5 HXZ HTZ HZW ⊢
      have hk0 := HT5.out.c 0 _ rfl
      have e4 := put_beq HNP.out
      by_cases ht : k = ⟨#[116, 97, 107, 101]⟩
      · subst ht
        have HD := Lib.hid (show parseF s.data.toList = chkD (⟨2, v0, v1, v2, v3, v4, ⟨#[]⟩⟩ : Dd) from (parse_take HWS.out rfl HNU.out.1 HNU.out.2.1 HNU.out.2.2.1 HNU.out.2.2.2 HN5.out))
        obtain ⟨hZl, ⟨_, z0, z1, z2, z3, z4, z5, z6⟩, _⟩ := HZ5.out
        go_wp2_with fail
        refine (DCheck_c (⟨2, v0, v1, v2, v3, v4, ⟨#[]⟩⟩ : Dd) w5 (Nat.zero_le _)).mono ?_
        rintro e w8 ⟨rfl, hb8⟩
        have HZ8 := Lib.hid (HZ5.out.later hb8)
        have HX8 := Lib.hid (HX5.out.later hb8)
        have HB8 := Lib.hid (HB5.out.trans (hb8.mono HB5.out.size))
        clear hb8 HZ5 HX5 HB5 z0 z1 z2 z3 z4 z5 z6
        obtain ⟨dd, hdd⟩ : ∃ dd : Dd, dd = (⟨2, v0, v1, v2, v3, v4, ⟨#[]⟩⟩ : Dd) := ⟨_, rfl⟩
        rw [← hdd] at HD HZ8 ⊢
        clear hdd
        by_cases hf : deedFault dd = 0
        · have HR := Lib.hid (show parseF s.data.toList = (dd, 0) from by rw [HD.out]; unfold chkD; rw [if_pos hf])
          rw [hf]
          obtain ⟨_, ⟨_, z0, z1, z2, z3, z4, z5, z6⟩, _⟩ := HZ8.out
          have hfz := HX8.out.fz
          obtain ⟨_, ⟨_, x0, x1, x2, x3, x4, x5, x6⟩, _⟩ := HX8.out
          have f0 := hfz 0
          have f1 := hfz 1
          have f2 := hfz 2
          have f3 := hfz 3
          have f4 := hfz 4
          have f5 := hfz 5
          have f6 := hfz 6
          clear hfz
          go_wp2
          (have hp := DdB.put7 HX8.out dd; have hq := put7_below HB8.out HXW.out dd; unfold put7 at hp hq; generalize World.setCell _ _ _ = wf at hp hq ⊢; (try clear x0 x1 x2 x3 x4 x5 x6); obtain ⟨_, ⟨_, x0, x1, x2, x3, x4, x5, x6⟩, _⟩ := hp; (try simp only [Exit.inBlock, Exit.then]); refine bodyPost_ret (v := .tuple #[.agg #[.int .i64 dd.Kind, .int .i64 dd.By, .int .i64 dd.No, .int .i64 dd.Seen, .int .i64 dd.At, .int .i64 dd.Many, .string dd.Text], .int .i64 0]) ?_ rfl ⟨by rw [HR.out], hq⟩; rw [results_cell_tmp rfl]; go_simp)
        · have HR := Lib.hid (show parseF s.data.toList = (zDd, deedFault dd) from by rw [HD.out]; unfold chkD; rw [if_neg hf])
          have hfB : decide (deedFault dd = 0) = false := decide_eq_false hf
          have hfN : (deedFault dd != 0) = true := by simpa using hf
          generalize deedFault dd = cf at *
          have hfz := HX8.out.fz
          obtain ⟨_, ⟨_, x0, x1, x2, x3, x4, x5, x6⟩, _⟩ := HX8.out
          have f0 := hfz 0
          have f1 := hfz 1
          have f2 := hfz 2
          have f3 := hfz 3
          have f4 := hfz 4
          have f5 := hfz 5
          have f6 := hfz 6
          clear hfz
          go_wp2
          (have hp := DdB.put7 HX8.out zDd; have hq := put7_below HB8.out HXW.out zDd; unfold put7 zDd at hp hq; (try simp only at hp hq); generalize World.setCell _ _ _ = wf at hp hq ⊢; (try clear x0 x1 x2 x3 x4 x5 x6); obtain ⟨_, ⟨_, x0, x1, x2, x3, x4, x5, x6⟩, _⟩ := hp; (try simp only at x0 x1 x2 x3 x4 x5 x6); (try simp only [Exit.inBlock, Exit.then]); refine bodyPost_ret (v := .tuple #[.agg #[.int .i64 0, .int .i64 0, .int .i64 0, .int .i64 0, .int .i64 0, .int .i64 0, .string ⟨#[]⟩], .int .i64 cf]) ?_ rfl ⟨by rw [HR.out]; rfl, hq⟩; rw [results_cell_tmp rfl]; go_simp)
      · have HR := Lib.hid (parse_kind HWS.out (fun e => HNP.out ((put_iff k).2 e)) (fun e => ht ((take_iff k).2 e)))
        have e5 := take_beq ht
        have hfz := HX5.out.fz
        obtain ⟨_, ⟨_, x0, x1, x2, x3, x4, x5, x6⟩, _⟩ := HX5.out
        have f0 := hfz 0
        have f1 := hfz 1
        have f2 := hfz 2
        have f3 := hfz 3
        have f4 := hfz 4
        have f5 := hfz 5
        have f6 := hfz 6
        clear hfz
        go_wp2
        (have hp := DdB.put7 HX5.out zDd; have hq := put7_below HB5.out HXW.out zDd; unfold put7 zDd at hp hq; (try simp only at hp hq); generalize World.setCell _ _ _ = wf at hp hq ⊢; (try clear x0 x1 x2 x3 x4 x5 x6); obtain ⟨_, ⟨_, x0, x1, x2, x3, x4, x5, x6⟩, _⟩ := hp; (try simp only at x0 x1 x2 x3 x4 x5 x6); (try simp only [Exit.inBlock, Exit.then]); refine bodyPost_ret (v := .tuple #[.agg #[.int .i64 0, .int .i64 0, .int .i64 0, .int .i64 0, .int .i64 0, .int .i64 0, .string ⟨#[]⟩], .int .i64 3]) ?_ rfl ⟨by rw [HR.out]; rfl, hq⟩; rw [results_cell_tmp rfl]; go_simp)
end Go.Proofs.YtneoeokfffnonadDoor
