/- A log in memory: its cells, its rows, and what a store into it does. -/
import Derived.Test.YtneoeokfffnonacPlainL
import Derived.Test.YtneoeokfffnonacSlDdW
set_option linter.unusedVariables false
set_option linter.unusedSimpArgs false
namespace Go.Proofs.Ytneoeokfffnonac
open Go.RowKit

/-- The log m lies at block g; all its blocks are in F, from base on. -/
structure LogAt (w : World) (base : Nat) (F : Nat → Prop) (g : Nat) (m : LogM) : Prop where
  lt : g < w.heap.size
  fg : F g
  foot : ∀ k, F k → base ≤ k ∧ k < w.heap.size
  fz : ∀ o, o < 14 → w.frozen? ⟨g, o, none⟩ = false
  rows : ∃ a cap ca ccap, w.cell? ⟨g, 0, none⟩ = some (.slice a m.L.length cap) ∧ w.cell? ⟨g, 1, none⟩ = some (.slice ca m.chars.length ccap) ∧
    OwnRow w base 24 7 a m.L.length cap (flatD m.L) ∧ OwnRow w base 86 7 ca m.chars.length ccap (flat m.chars) ∧
    (∀ k, ownB a cap = some k → F k ∧ k ≠ g) ∧ (∀ k, ownB ca ccap = some k → F k ∧ k ≠ g ∧ ownB a cap ≠ some k)
  here : ∀ j, j < 4 → w.cell? ⟨g, 2 + 3 * j, none⟩ = some (.bool (m.S j).here)
  last : ∀ j, j < 4 → w.cell? ⟨g, 3 + 3 * j, none⟩ = some (.int .i64 (m.S j).last)
  seen : ∀ j, j < 4 → w.cell? ⟨g, 4 + 3 * j, none⟩ = some (.int .i64 (m.S j).seen)

section
variable {w w' : World} {base : Nat} {F : Nat → Prop} {g : Nat} {m : LogM}

/-- What moves elsewhere leaves the log. -/
theorem LogAt.moves (h : LogAt w base F g m) {G : Nat → Prop} (hm : Moves G w w') (hd : ∀ k, F k → ¬ G k) : LogAt w' base F g m := by
  have hc : ∀ o, w'.cell? ⟨g, o, none⟩ = w.cell? ⟨g, o, none⟩ := fun o => hm.cell h.lt (hd g h.fg) o
  obtain ⟨a, cap, ca, ccap, r0, r1, r2, r3, r4, r5⟩ := h.rows
  refine ⟨Nat.lt_of_lt_of_le h.lt hm.size, h.fg, fun k hk => ⟨(h.foot k hk).1, Nat.lt_of_lt_of_le (h.foot k hk).2 hm.size⟩, fun o ho => (hm.frozen h.lt (hd g h.fg) o).trans (h.fz o ho),
    ⟨a, cap, ca, ccap, (hc _).trans r0, (hc _).trans r1, r2.moves hm fun k hk => hd k (r4 k hk).1, r3.moves hm fun k hk => hd k (r5 k hk).1, r4, r5⟩,
    fun j hj => (hc _).trans (h.here j hj), fun j hj => (hc _).trans (h.last j hj), fun j hj => (hc _).trans (h.seen j hj)⟩
theorem LogAt.later (h : LogAt w base F g m) (hl : Below w.heap.size w w') : LogAt w' base F g m := by
  have hb : Moves (fun k => w.heap.size ≤ k) w w' := Moves.of_below hl
  exact h.moves hb fun k hk => by have := (h.foot k hk).2; omega

/-- A store into one of the cells of the seats. -/
theorem LogAt.store (h : LogAt w base F g m) (i : Nat) (hi : 2 ≤ i) (v : Value) (m' : LogM) (hL : m'.L = m.L)
    (h1 : ∀ j, j < 4 → (if 2 + 3 * j = i then v = .bool (m'.S j).here else (m'.S j).here = (m.S j).here))
    (h2 : ∀ j, j < 4 → (if 3 + 3 * j = i then v = .int .i64 (m'.S j).last else (m'.S j).last = (m.S j).last))
    (h3 : ∀ j, j < 4 → (if 4 + 3 * j = i then v = .int .i64 (m'.S j).seen else (m'.S j).seen = (m.S j).seen)) : LogAt (w.setCell ⟨g, i, none⟩ v) base F g m' := by
  obtain ⟨a, cap, ca, ccap, r0, r1, r2, r3, r4, r5⟩ := h.rows
  have hch : m'.chars = m.chars := by unfold LogM.chars; rw [hL]
  have ho : ∀ o, o ≠ i → (w.setCell ⟨g, i, none⟩ v).cell? ⟨g, o, none⟩ = w.cell? ⟨g, o, none⟩ := fun o ho => World.cell?_setCell_other _ _ _ _ (fun e => ho (by cases e; rfl))
  have hs : ∀ o u, o = i → w.cell? ⟨g, o, none⟩ = some u → (w.setCell ⟨g, i, none⟩ v).cell? ⟨g, o, none⟩ = some v := fun o u e hu => by subst e; exact World.cell?_setCell_same _ _ _ hu
  refine ⟨by simpa using h.lt, h.fg, fun k hk => ⟨(h.foot k hk).1, by simpa using (h.foot k hk).2⟩, fun o ho => by rw [World.frozen?_setCell]; exact h.fz o ho,
    ⟨a, cap, ca, ccap, by rw [ho 0 (by omega), hL]; exact r0, by rw [ho 1 (by omega), hch]; exact r1, by rw [hL]; exact r2.setCell _ _ fun k hk => (r4 k hk).2, by rw [hch]; exact r3.setCell _ _ fun k hk => (r5 k hk).2.1, r4, r5⟩,
    fun j hj => ?_, fun j hj => ?_, fun j hj => ?_⟩
  · have := h1 j hj
    by_cases e : 2 + 3 * j = i
    · rw [if_pos e] at this; rw [hs _ _ e (h.here j hj), this]
    · rw [if_neg e] at this; rw [ho _ e, this]; exact h.here j hj
  · have := h2 j hj
    by_cases e : 3 + 3 * j = i
    · rw [if_pos e] at this; rw [hs _ _ e (h.last j hj), this]
    · rw [if_neg e] at this; rw [ho _ e, this]; exact h.last j hj
  · have := h3 j hj
    by_cases e : 4 + 3 * j = i
    · rw [if_pos e] at this; rw [hs _ _ e (h.seen j hj), this]
    · rw [if_neg e] at this; rw [ho _ e, this]; exact h.seen j hj

theorem LogAt.setHere (h : LogAt w base F g m) (j : Nat) (i : Nat) (hi : i = 2 + 3 * j) (b : Bool) : LogAt (w.setCell ⟨g, i, none⟩ (.bool b)) base F g { m with S := upd m.S j ⟨b, (m.S j).last, (m.S j).seen⟩ } := by
  subst hi
  refine h.store _ (by omega) _ _ rfl (fun k _ => ?_) (fun k _ => ?_) (fun k _ => ?_)
  · by_cases e : k = j
    · subst e; rw [if_pos rfl]; simp
    · rw [if_neg (by omega)]; simp [upd_ne _ _ _ _ e]
  · rw [if_neg (by omega)]
    by_cases e : k = j
    · subst e; simp
    · simp [upd_ne _ _ _ _ e]
  · rw [if_neg (by omega)]
    by_cases e : k = j
    · subst e; simp
    · simp [upd_ne _ _ _ _ e]
theorem LogAt.setLast (h : LogAt w base F g m) (j : Nat) (i : Nat) (hi : i = 3 + 3 * j) (n : Int) : LogAt (w.setCell ⟨g, i, none⟩ (.int .i64 n)) base F g { m with S := upd m.S j ⟨(m.S j).here, n, (m.S j).seen⟩ } := by
  subst hi
  refine h.store _ (by omega) _ _ rfl (fun k _ => ?_) (fun k _ => ?_) (fun k _ => ?_)
  · rw [if_neg (by omega)]
    by_cases e : k = j
    · subst e; simp
    · simp [upd_ne _ _ _ _ e]
  · by_cases e : k = j
    · subst e; rw [if_pos rfl]; simp
    · rw [if_neg (by omega)]; simp [upd_ne _ _ _ _ e]
  · rw [if_neg (by omega)]
    by_cases e : k = j
    · subst e; simp
    · simp [upd_ne _ _ _ _ e]
theorem LogAt.setSeen (h : LogAt w base F g m) (j : Nat) (i : Nat) (hi : i = 4 + 3 * j) (n : Int) : LogAt (w.setCell ⟨g, i, none⟩ (.int .i64 n)) base F g { m with S := upd m.S j ⟨(m.S j).here, (m.S j).last, n⟩ } := by
  subst hi
  refine h.store _ (by omega) _ _ rfl (fun k _ => ?_) (fun k _ => ?_) (fun k _ => ?_)
  · rw [if_neg (by omega)]
    by_cases e : k = j
    · subst e; simp
    · simp [upd_ne _ _ _ _ e]
  · rw [if_neg (by omega)]
    by_cases e : k = j
    · subst e; simp
    · simp [upd_ne _ _ _ _ e]
  · by_cases e : k = j
    · subst e; rw [if_pos rfl]; simp
    · rw [if_neg (by omega)]; simp [upd_ne _ _ _ _ e]
end
theorem upd_upd (S : Nat → St) (i : Nat) (s t : St) : upd (upd S i s) i t = upd S i t := by
  funext j; unfold upd; split <;> rfl
end Go.Proofs.Ytneoeokfffnonac
