/- A Scribe in memory: its cells, its rows, and what a store into it does. -/
import Derived.Test.YtneoeokfffnonacSlDdW
import Derived.Test.YtneoeokfffnonacPlainL
set_option linter.unusedVariables false
set_option linter.unusedSimpArgs false
namespace Go.Proofs.Ytneoeokfffnonac
open Go.RowKit

/-- What a Scribe holds. -/
structure ScV where
  (me seen next : Int) (L : List Ch) (ds : List Dd) (sent : Int)

/-- The Scribe s lies at block g; all its blocks are in F, from base on. -/
structure ScrAt (w : World) (base : Nat) (F : Nat → Prop) (g : Nat) (s : ScV) : Prop where
  lt : g < w.heap.size
  fg : F g
  foot : ∀ k, F k → base ≤ k ∧ k < w.heap.size
  fz : ∀ o, o < 6 → w.frozen? ⟨g, o, none⟩ = false
  c0 : w.cell? ⟨g, 0, none⟩ = some (.int .i64 s.me)
  c1 : w.cell? ⟨g, 1, none⟩ = some (.int .i64 s.seen)
  c2 : w.cell? ⟨g, 2, none⟩ = some (.int .i64 s.next)
  c5 : w.cell? ⟨g, 5, none⟩ = some (.int .i64 s.sent)
  rows : ∃ a cap oa ocap, w.cell? ⟨g, 3, none⟩ = some (.slice a s.L.length cap) ∧ w.cell? ⟨g, 4, none⟩ = some (.slice oa s.ds.length ocap) ∧
    OwnRow w base 86 7 a s.L.length cap (flat s.L) ∧ OwnRow w base 24 7 oa s.ds.length ocap (flatD s.ds) ∧
    (∀ k, ownB a cap = some k → F k ∧ k ≠ g) ∧ (∀ k, ownB oa ocap = some k → F k ∧ k ≠ g ∧ ownB a cap ≠ some k)

section
variable {w w' : World} {base : Nat} {F : Nat → Prop} {g : Nat} {s : ScV}

theorem ScrAt.base_le (h : ScrAt w base F g s) : base ≤ w.heap.size := by have := h.foot g h.fg; omega
theorem ScrAt.moves (h : ScrAt w base F g s) {G : Nat → Prop} (hm : Moves G w w') (hd : ∀ k, F k → ¬ G k) : ScrAt w' base F g s := by
  have hc : ∀ o, w'.cell? ⟨g, o, none⟩ = w.cell? ⟨g, o, none⟩ := fun o => hm.cell h.lt (hd g h.fg) o
  obtain ⟨a, cap, oa, ocap, r0, r1, r2, r3, r4, r5⟩ := h.rows
  exact ⟨Nat.lt_of_lt_of_le h.lt hm.size, h.fg, fun k hk => ⟨(h.foot k hk).1, Nat.lt_of_lt_of_le (h.foot k hk).2 hm.size⟩, fun o ho => (hm.frozen h.lt (hd g h.fg) o).trans (h.fz o ho),
    (hc _).trans h.c0, (hc _).trans h.c1, (hc _).trans h.c2, (hc _).trans h.c5,
    ⟨a, cap, oa, ocap, (hc _).trans r0, (hc _).trans r1, r2.moves hm fun k hk => hd k (r4 k hk).1, r3.moves hm fun k hk => hd k (r5 k hk).1, r4, r5⟩⟩
theorem ScrAt.later (h : ScrAt w base F g s) (hl : Below w.heap.size w w') : ScrAt w' base F g s := by
  have hb : Moves (fun k => w.heap.size ≤ k) w w' := Moves.of_below hl
  exact h.moves hb fun k hk => by have := (h.foot k hk).2; omega
theorem ScrAt.drew (h : ScrAt w base F g s) : ScrAt w.drew base F g s := h.moves (G := fun _ => False) ⟨rfl, rfl, rfl, Nat.le_refl _, fun _ _ _ => rfl⟩ (fun _ _ h => h)
theorem ScrAt.below (h : ScrAt w base F g s) (hm : Moves F w w') : Below base w w' := hm.below (fun k hk => (h.foot k hk).1) h.base_le
theorem ScrAt.grow (h : ScrAt w base F g s) {F' : Nat → Prop} (h1 : ∀ k, F k → F' k) (h2 : ∀ k, F' k → base ≤ k ∧ k < w.heap.size) : ScrAt w base F' g s := by
  obtain ⟨a, cap, oa, ocap, r0, r1, r2, r3, r4, r5⟩ := h.rows
  exact ⟨h.lt, h1 _ h.fg, h2, h.fz, h.c0, h.c1, h.c2, h.c5, ⟨a, cap, oa, ocap, r0, r1, r2, r3, fun k hk => ⟨h1 _ (r4 k hk).1, (r4 k hk).2⟩, fun k hk => ⟨h1 _ (r5 k hk).1, (r5 k hk).2⟩⟩⟩
theorem ScrAt.congr {s' : ScV} (h : ScrAt w base F g s) (e : s = s') : ScrAt w base F g s' := e ▸ h

/-- A store into one of the cells that hold a number. -/
theorem ScrAt.setInt (h : ScrAt w base F g s) (i : Nat) (v : Int) (s' : ScV) (hL : s'.L = s.L) (hD : s'.ds = s.ds) (hi : i ≠ 3 ∧ i ≠ 4)
    (h0 : s'.me = if i = 0 then v else s.me) (h1 : s'.seen = if i = 1 then v else s.seen) (h2 : s'.next = if i = 2 then v else s.next) (h5 : s'.sent = if i = 5 then v else s.sent) : ScrAt (w.setCell ⟨g, i, none⟩ (.int .i64 v)) base F g s' := by
  obtain ⟨a, cap, oa, ocap, r0, r1, r2, r3, r4, r5⟩ := h.rows
  have ho : ∀ o, o ≠ i → (w.setCell ⟨g, i, none⟩ (.int .i64 v)).cell? ⟨g, o, none⟩ = w.cell? ⟨g, o, none⟩ := fun o ho => World.cell?_setCell_other _ _ _ _ (fun e => ho (by cases e; rfl))
  have key : ∀ (o : Nat) (x y : Int), w.cell? ⟨g, o, none⟩ = some (.int .i64 x) → y = (if i = o then v else x) → (w.setCell ⟨g, i, none⟩ (.int .i64 v)).cell? ⟨g, o, none⟩ = some (.int .i64 y) := fun o x y hx hy => by
    by_cases e : i = o
    · subst e; rw [if_pos rfl] at hy; subst hy; exact World.cell?_setCell_same _ _ _ hx
    · rw [if_neg e] at hy; subst hy; rw [ho o (fun h => e h.symm)]; exact hx
  refine ⟨by simpa using h.lt, h.fg, fun k hk => ⟨(h.foot k hk).1, by simpa using (h.foot k hk).2⟩, fun o ho => by rw [World.frozen?_setCell]; exact h.fz o ho,
    key 0 _ _ h.c0 h0, key 1 _ _ h.c1 h1, key 2 _ _ h.c2 h2, key 5 _ _ h.c5 h5,
    ⟨a, cap, oa, ocap, by rw [ho 3 (by omega), hL]; exact r0, by rw [ho 4 (by omega), hD]; exact r1, by rw [hL]; exact r2.setCell _ _ fun k hk => (r4 k hk).2, by rw [hD]; exact r3.setCell _ _ fun k hk => (r5 k hk).2.1, r4, r5⟩⟩
theorem ScrAt.setSeen (h : ScrAt w base F g s) (v : Int) : ScrAt (w.setCell ⟨g, 1, none⟩ (.int .i64 v)) base F g { s with seen := v } := h.setInt 1 v _ rfl rfl (by omega) rfl rfl rfl rfl
theorem ScrAt.setNext (h : ScrAt w base F g s) (v : Int) : ScrAt (w.setCell ⟨g, 2, none⟩ (.int .i64 v)) base F g { s with next := v } := h.setInt 2 v _ rfl rfl (by omega) rfl rfl rfl rfl
theorem ScrAt.setSent (h : ScrAt w base F g s) (v : Int) : ScrAt (w.setCell ⟨g, 5, none⟩ (.int .i64 v)) base F g { s with sent := v } := h.setInt 5 v _ rfl rfl (by omega) rfl rfl rfl rfl

/-- Its list is another one, in memory of its own. -/
theorem ScrAt.setList (h : ScrAt w base F g s) (a2 : Option Addr) (cap2 : Nat) (l : List Ch) (hr : OwnRow w base 86 7 a2 l.length cap2 (flat l)) (hn : ∀ k, ownB a2 cap2 = some k → ¬ F k) :
    ScrAt (w.setCell ⟨g, 3, none⟩ (.slice a2 l.length cap2)) base (fun k => F k ∨ ownB a2 cap2 = some k) g { s with L := l } := by
  obtain ⟨a, cap, oa, ocap, r0, r1, r2, r3, r4, r5⟩ := h.rows
  have ho : ∀ o, o ≠ 3 → (w.setCell ⟨g, 3, none⟩ (.slice a2 l.length cap2)).cell? ⟨g, o, none⟩ = w.cell? ⟨g, o, none⟩ := fun o ho => World.cell?_setCell_other _ _ _ _ (fun e => ho (by cases e; rfl))
  have h2g : ∀ k, ownB a2 cap2 = some k → k ≠ g := fun k hk e => hn k hk (e ▸ h.fg)
  refine ⟨by simpa using h.lt, .inl h.fg, fun k hk => ?_, fun o ho => by rw [World.frozen?_setCell]; exact h.fz o ho,
    (ho 0 (by omega)).trans h.c0, (ho 1 (by omega)).trans h.c1, (ho 2 (by omega)).trans h.c2, (ho 5 (by omega)).trans h.c5,
    ⟨a2, cap2, oa, ocap, World.cell?_setCell_same _ _ _ r0, (ho 4 (by omega)).trans r1, hr.setCell _ _ h2g, r3.setCell _ _ fun k hk => (r5 k hk).2.1, fun k hk => ⟨.inr hk, h2g k hk⟩, fun k hk => ⟨.inl (r5 k hk).1, (r5 k hk).2.1, fun e => hn k e (r5 k hk).1⟩⟩⟩
  simp only [World.size_setCell]
  rcases hk with hk | hk
  · exact h.foot k hk
  · exact hr.base_le k hk

/-- Its open deeds are others, in memory of their own. -/
theorem ScrAt.setOpen (h : ScrAt w base F g s) (a2 : Option Addr) (cap2 : Nat) (ds : List Dd) (hr : OwnRow w base 24 7 a2 ds.length cap2 (flatD ds)) (hn : ∀ k, ownB a2 cap2 = some k → ¬ F k) :
    ScrAt (w.setCell ⟨g, 4, none⟩ (.slice a2 ds.length cap2)) base (fun k => F k ∨ ownB a2 cap2 = some k) g { s with ds := ds } := by
  obtain ⟨a, cap, oa, ocap, r0, r1, r2, r3, r4, r5⟩ := h.rows
  have ho : ∀ o, o ≠ 4 → (w.setCell ⟨g, 4, none⟩ (.slice a2 ds.length cap2)).cell? ⟨g, o, none⟩ = w.cell? ⟨g, o, none⟩ := fun o ho => World.cell?_setCell_other _ _ _ _ (fun e => ho (by cases e; rfl))
  have h2g : ∀ k, ownB a2 cap2 = some k → k ≠ g := fun k hk e => hn k hk (e ▸ h.fg)
  refine ⟨by simpa using h.lt, .inl h.fg, fun k hk => ?_, fun o ho => by rw [World.frozen?_setCell]; exact h.fz o ho,
    (ho 0 (by omega)).trans h.c0, (ho 1 (by omega)).trans h.c1, (ho 2 (by omega)).trans h.c2, (ho 5 (by omega)).trans h.c5,
    ⟨a, cap, a2, cap2, (ho 3 (by omega)).trans r0, World.cell?_setCell_same _ _ _ r1, r2.setCell _ _ fun k hk => (r4 k hk).2, hr.setCell _ _ h2g, fun k hk => ⟨.inl (r4 k hk).1, (r4 k hk).2⟩, fun k hk => ⟨.inr hk, h2g k hk, fun e => hn k hk (r4 k e).1⟩⟩⟩
  simp only [World.size_setCell]
  rcases hk with hk | hk
  · exact h.foot k hk
  · exact hr.base_le k hk
end
end Go.Proofs.Ytneoeokfffnonac
