/- A Book in memory: its cells, its row, and what a store into it does. -/
import Derived.Test.YtneoeokfffnonabLogObj
set_option linter.unusedVariables false
set_option linter.unusedSimpArgs false
namespace Go.Proofs.Ytneoeokfffnonab
open Go.RowKit

/-- The book m lies at block g; all its blocks are in F, from base on. -/
structure BookAt (w : World) (base : Nat) (F : Nat → Prop) (g : Nat) (m : LogM) : Prop where
  lt : g < w.heap.size
  fg : F g
  foot : ∀ k, F k → base ≤ k ∧ k < w.heap.size
  fz : ∀ o, o < 13 → w.frozen? ⟨g, o, none⟩ = false
  rows : ∃ a cap, w.cell? ⟨g, 0, none⟩ = some (.slice a m.L.length cap) ∧ OwnRow w base 25 7 a m.L.length cap (flatD m.L) ∧ (∀ k, ownB a cap = some k → F k ∧ k ≠ g)
  here : ∀ j, j < 4 → w.cell? ⟨g, 1 + j, none⟩ = some (.bool (m.S j).here)
  last : ∀ j, j < 4 → w.cell? ⟨g, 5 + j, none⟩ = some (.int .i64 (m.S j).last)
  seen : ∀ j, j < 4 → w.cell? ⟨g, 9 + j, none⟩ = some (.int .i64 (m.S j).seen)

section
variable {w w' : World} {base : Nat} {F : Nat → Prop} {g : Nat} {m : LogM}

/-- What moves elsewhere leaves the book. -/
theorem BookAt.moves (h : BookAt w base F g m) {G : Nat → Prop} (hm : Moves G w w') (hd : ∀ k, F k → ¬ G k) : BookAt w' base F g m := by
  have hc : ∀ o, w'.cell? ⟨g, o, none⟩ = w.cell? ⟨g, o, none⟩ := fun o => hm.cell h.lt (hd g h.fg) o
  obtain ⟨a, cap, r0, r2, r4⟩ := h.rows
  refine ⟨Nat.lt_of_lt_of_le h.lt hm.size, h.fg, fun k hk => ⟨(h.foot k hk).1, Nat.lt_of_lt_of_le (h.foot k hk).2 hm.size⟩, fun o ho => (hm.frozen h.lt (hd g h.fg) o).trans (h.fz o ho),
    ⟨a, cap, (hc _).trans r0, r2.moves hm fun k hk => hd k (r4 k hk).1, r4⟩,
    fun j hj => (hc _).trans (h.here j hj), fun j hj => (hc _).trans (h.last j hj), fun j hj => (hc _).trans (h.seen j hj)⟩
theorem BookAt.later (h : BookAt w base F g m) (hl : Below w.heap.size w w') : BookAt w' base F g m := by
  have hb : Moves (fun k => w.heap.size ≤ k) w w' := Moves.of_below hl
  exact h.moves hb fun k hk => by have := (h.foot k hk).2; omega

/-- A store into one of the cells of the seats. -/
theorem BookAt.store (h : BookAt w base F g m) (i : Nat) (hi : 1 ≤ i) (v : Value) (m' : LogM) (hL : m'.L = m.L)
    (h1 : ∀ j, j < 4 → (if 1 + j = i then v = .bool (m'.S j).here else (m'.S j).here = (m.S j).here))
    (h2 : ∀ j, j < 4 → (if 5 + j = i then v = .int .i64 (m'.S j).last else (m'.S j).last = (m.S j).last))
    (h3 : ∀ j, j < 4 → (if 9 + j = i then v = .int .i64 (m'.S j).seen else (m'.S j).seen = (m.S j).seen)) : BookAt (w.setCell ⟨g, i, none⟩ v) base F g m' := by
  obtain ⟨a, cap, r0, r2, r4⟩ := h.rows
  have ho : ∀ o, o ≠ i → (w.setCell ⟨g, i, none⟩ v).cell? ⟨g, o, none⟩ = w.cell? ⟨g, o, none⟩ := fun o ho => World.cell?_setCell_other _ _ _ _ (fun e => ho (by cases e; rfl))
  have hs : ∀ o u, o = i → w.cell? ⟨g, o, none⟩ = some u → (w.setCell ⟨g, i, none⟩ v).cell? ⟨g, o, none⟩ = some v := fun o u e hu => by subst e; exact World.cell?_setCell_same _ _ _ hu
  refine ⟨by simpa using h.lt, h.fg, fun k hk => ⟨(h.foot k hk).1, by simpa using (h.foot k hk).2⟩, fun o ho => by rw [World.frozen?_setCell]; exact h.fz o ho,
    ⟨a, cap, by rw [ho 0 (by omega), hL]; exact r0, by rw [hL]; exact r2.setCell _ _ fun k hk => (r4 k hk).2, r4⟩,
    fun j hj => ?_, fun j hj => ?_, fun j hj => ?_⟩
  · have := h1 j hj
    by_cases e : 1 + j = i
    · rw [if_pos e] at this; rw [hs _ _ e (h.here j hj), this]
    · rw [if_neg e] at this; rw [ho _ e, this]; exact h.here j hj
  · have := h2 j hj
    by_cases e : 5 + j = i
    · rw [if_pos e] at this; rw [hs _ _ e (h.last j hj), this]
    · rw [if_neg e] at this; rw [ho _ e, this]; exact h.last j hj
  · have := h3 j hj
    by_cases e : 9 + j = i
    · rw [if_pos e] at this; rw [hs _ _ e (h.seen j hj), this]
    · rw [if_neg e] at this; rw [ho _ e, this]; exact h.seen j hj

theorem BookAt.setHere (h : BookAt w base F g m) (j : Nat) (hj : j < 4) (i : Nat) (hi : i = 1 + j) (b : Bool) : BookAt (w.setCell ⟨g, i, none⟩ (.bool b)) base F g { m with S := upd m.S j ⟨b, (m.S j).last, (m.S j).seen⟩ } := by
  subst hi
  refine h.store _ (by omega) _ _ rfl (fun k hk => ?_) (fun k hk => ?_) (fun k hk => ?_)
  · by_cases e : k = j
    · subst e; rw [if_pos rfl]; simp
    · rw [if_neg (by omega)]; simp [upd_ne _ _ _ _ e]
  · rw [if_neg (by omega)]
    by_cases e : k = j
    · subst e; simp
    · simp [upd_ne _ _ _ _ e]
  · rw [if_neg (by omega)]
    by_cases e : k = j
    · subst e; simp
    · simp [upd_ne _ _ _ _ e]
theorem BookAt.setLast (h : BookAt w base F g m) (j : Nat) (hj : j < 4) (i : Nat) (hi : i = 5 + j) (n : Int) : BookAt (w.setCell ⟨g, i, none⟩ (.int .i64 n)) base F g { m with S := upd m.S j ⟨(m.S j).here, n, (m.S j).seen⟩ } := by
  subst hi
  refine h.store _ (by omega) _ _ rfl (fun k hk => ?_) (fun k hk => ?_) (fun k hk => ?_)
  · rw [if_neg (by omega)]
    by_cases e : k = j
    · subst e; simp
    · simp [upd_ne _ _ _ _ e]
  · by_cases e : k = j
    · subst e; rw [if_pos rfl]; simp
    · rw [if_neg (by omega)]; simp [upd_ne _ _ _ _ e]
  · rw [if_neg (by omega)]
    by_cases e : k = j
    · subst e; simp
    · simp [upd_ne _ _ _ _ e]
theorem BookAt.setSeen (h : BookAt w base F g m) (j : Nat) (hj : j < 4) (i : Nat) (hi : i = 9 + j) (n : Int) : BookAt (w.setCell ⟨g, i, none⟩ (.int .i64 n)) base F g { m with S := upd m.S j ⟨(m.S j).here, (m.S j).last, n⟩ } := by
  subst hi
  refine h.store _ (by omega) _ _ rfl (fun k hk => ?_) (fun k hk => ?_) (fun k hk => ?_)
  · rw [if_neg (by omega)]
    by_cases e : k = j
    · subst e; simp
    · simp [upd_ne _ _ _ _ e]
  · rw [if_neg (by omega)]
    by_cases e : k = j
    · subst e; simp
    · simp [upd_ne _ _ _ _ e]
  · by_cases e : k = j
    · subst e; rw [if_pos rfl]; simp
    · rw [if_neg (by omega)]; simp [upd_ne _ _ _ _ e]

theorem BookAt.drew (h : BookAt w base F g m) : BookAt w.drew base F g m := h.moves (G := fun _ => False) (⟨rfl, rfl, rfl, Nat.le_refl _, fun _ _ _ => rfl⟩) (fun _ _ h => h)
theorem BookAt.congr {m' : LogM} (h : BookAt w base F g m) (e : m = m') : BookAt w base F g m' := e ▸ h
end
theorem BookAt.new (w : World) (base : Nat) (hb : base ≤ w.heap.size) : BookAt (w.alloc (.cells #[.slice none 0 0, .bool false, .bool false, .bool false, .bool false, .int .i64 0, .int .i64 0, .int .i64 0, .int .i64 0, .int .i64 0, .int .i64 0, .int .i64 0, .int .i64 0] 51)) base (fun k => k = w.heap.size) w.heap.size LogM.new := by
  refine ⟨by simp, rfl, fun k hk => by subst hk; exact ⟨hb, by simp⟩, fun o ho => by simp, ⟨none, 0, by simp [LogM.new], OwnRow.nil _ _ _ _ _, fun k hk => by simp [ownB] at hk⟩, fun j hj => ?_, fun j hj => ?_, fun j hj => ?_⟩
  all_goals rcases (show j = 0 ∨ j = 1 ∨ j = 2 ∨ j = 3 by omega) with rfl | rfl | rfl | rfl <;> simp [LogM.new]
end Go.Proofs.Ytneoeokfffnonab
