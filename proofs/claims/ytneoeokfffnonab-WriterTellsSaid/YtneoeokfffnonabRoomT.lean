/- A room beside blocks that a law carries along: rows of four numbers, a step. -/
import Derived.Test.YtneoeokfffnonabRoomA
set_option linter.unusedVariables false
set_option linter.unusedSimpArgs false
namespace Go.Proofs.Ytneoeokfffnonab
open Go.RowKit
theorem frozen_of_block {w w' : World} {b o : Nat} (hb : w'.heap[b]? = w.heap[b]?) : w'.frozen? ⟨b, o, none⟩ = w.frozen? ⟨b, o, none⟩ := by simp [World.frozen?, hb]
/-- Four numbers in a block. -/
structure Ar4 (w : World) (b : Nat) (f : Nat → Int) : Prop where
  lt : b < w.heap.size
  c : ∀ j, j < 4 → w.cell? ⟨b, j, none⟩ = some (.int .i64 (f j))
  fz : ∀ j, j < 4 → w.frozen? ⟨b, j, none⟩ = false
section
variable {w w' : World} {b : Nat} {f : Nat → Int}
theorem Ar4.of_block (h : Ar4 w b f) (hs : w.heap.size ≤ w'.heap.size) (hb : w'.heap[b]? = w.heap[b]?) : Ar4 w' b f :=
  ⟨Nat.lt_of_lt_of_le h.lt hs, fun j hj => (World.cell?_of_block (w := w) hb).trans (h.c j hj), fun j hj => (frozen_of_block hb).trans (h.fz j hj)⟩
theorem Ar4.later (h : Ar4 w b f) (hl : Below w.heap.size w w') : Ar4 w' b f := h.of_block hl.size (hl.block b h.lt)
theorem Ar4.set (h : Ar4 w b f) {j : Nat} (hj : j < 4) (v : Int) : Ar4 (w.setCell ⟨b, j, none⟩ (.int .i64 v)) b (fun i => if i = j then v else f i) := by
  refine ⟨by simpa using h.lt, fun i hi => ?_, fun i hi => by rw [World.frozen?_setCell]; exact h.fz i hi⟩
  by_cases e : i = j
  · subst e; rw [if_pos rfl]; exact World.cell?_setCell_same _ _ _ (h.c i hi)
  · rw [if_neg e, World.cell?_setCell_other _ _ _ _ (fun x => e (by cases x; rfl))]; exact h.c i hi
theorem Ar4.other (h : Ar4 w b f) {b2 o : Nat} {v : Value} (hne : b ≠ b2) : Ar4 (w.setCell ⟨b2, o, none⟩ v) b f := by
  refine ⟨by simpa using h.lt, fun i hi => ?_, fun i hi => by rw [World.frozen?_setCell]; exact h.fz i hi⟩
  rw [World.cell?_setCell_other _ _ _ _ (fun x => hne (by cases x; rfl))]; exact h.c i hi
theorem Ar4.congr {f' : Nat → Int} (h : Ar4 w b f) (e : ∀ j, j < 4 → f j = f' j) : Ar4 w b f' := ⟨h.lt, fun j hj => by rw [← e j hj]; exact h.c j hj, h.fz⟩
end
/-- A room, and blocks apart from it; below base nothing has changed since w. -/
structure TlAt (w : World) (base g : Nat) (N : Nat → Prop) (d : DkM) (w' : World) : Prop where
  rm : ∃ F gw gs, RmAt w' base F g gw gs d d.scs false ∧ ∀ k, N k → ¬ F k ∧ k < w'.heap.size ∧ base ≤ k
  bl : Below base w w'
section
variable {w : World} {base g : Nat} {N : Nat → Prop} {d : DkM}
theorem TlAt.size {w1 : World} (h : TlAt w base g N d w1) : base ≤ w1.heap.size := by
  obtain ⟨⟨F, gw, gs, h1, _⟩, _⟩ := h
  exact h1.base_le
theorem TlAt.later {w1 w2 : World} (h : TlAt w base g N d w1) (hl : Below w1.heap.size w1 w2) : TlAt w base g N d w2 := by
  have hs := h.size
  obtain ⟨⟨F, gw, gs, h1, h2⟩, h3⟩ := h
  exact ⟨⟨F, gw, gs, h1.later hl, fun k hk => ⟨(h2 k hk).1, Nat.lt_of_lt_of_le (h2 k hk).2.1 hl.size, (h2 k hk).2.2⟩⟩, h3.trans (hl.mono hs)⟩
theorem TlAt.add {w1 w2 : World} (h : TlAt w base g N d w1) (hl : Below w1.heap.size w1 w2) (X : Nat) (h1 : w1.heap.size ≤ X) (h2 : X < w2.heap.size) : TlAt w base g (fun k => N k ∨ k = X) d w2 := by
  have hs := h.size
  have hl' := h.later hl
  obtain ⟨⟨F, gw, gs, k1, k2⟩, _⟩ := h
  refine ⟨⟨F, gw, gs, k1.later hl, fun k hk => ?_⟩, hl'.bl⟩
  rcases hk with hk | rfl
  · exact ⟨(k2 k hk).1, Nat.lt_of_lt_of_le (k2 k hk).2.1 hl.size, (k2 k hk).2.2⟩
  · exact ⟨fun e => by have := (k1.foot k e).2; omega, h2, by omega⟩
theorem TlAt.mono {N' : Nat → Prop} {w1 : World} (h : TlAt w base g N d w1) (hn : ∀ k, N' k → N k) : TlAt w base g N' d w1 := by
  obtain ⟨⟨F, gw, gs, k1, k2⟩, k3⟩ := h
  exact ⟨⟨F, gw, gs, k1, fun k hk => k2 k (hn k hk)⟩, k3⟩
theorem TlAt.store {w1 : World} (h : TlAt w base g N d w1) {b : Nat} (hb : N b) (o : Nat) (v : Value) : TlAt w base g N d (w1.setCell ⟨b, o, none⟩ v) := by
  obtain ⟨⟨F, gw, gs, k1, k2⟩, k3⟩ := h
  have hm : Moves (fun k => k = b) w1 (w1.setCell ⟨b, o, none⟩ v) := Moves.setCell _ _ _ rfl
  refine ⟨⟨F, gw, gs, k1.moves hm fun k hk e => (k2 b hb).1 (e ▸ hk), fun k hk => ⟨(k2 k hk).1, by simpa using (k2 k hk).2.1, (k2 k hk).2.2⟩⟩, ?_⟩
  exact k3.setCell (p := ⟨b, o, none⟩) (k2 b hb).2.2 v
theorem RStep_Tl {w1 : World} (h : TlAt w base g N d w1) (ho : d.Ok) (hs : d.Sm 1000) (x : RStep) (hx : x.ok) :
    Calls Try.prog 48 #[.pointer (some ⟨g, 0, none⟩), .agg #[.int .i64 x.Do, .int .i64 x.W, .int .i64 x.At, .int .i64 x.Many, .string x.Text]] w1 fun e w' => e = .returned (.tuple #[.bool true, .bool (d.over x)]) ∧ Below base w w' ∧ (d.over x = false → TlAt w base g N (d.room false x) w' ∧ w1.heap.size ≤ w'.heap.size ∧ ∀ b, N b → w'.heap[b]? = w1.heap[b]?) := by
  obtain ⟨⟨F, gw, gs, h1, h2⟩, h3⟩ := h
  refine (RStep_c h1 ho hs x hx).mono ?_
  rintro e w2 ⟨e1, e2, e3⟩
  refine ⟨e1, h3.trans e3, fun h => ?_⟩
  obtain ⟨F', gw', gs', k1, k2, k3⟩ := e2 h
  refine ⟨⟨⟨F', gw', gs', k1, fun k hk => ⟨fun e => ?_, Nat.lt_of_lt_of_le (h2 k hk).2.1 k2.size, (h2 k hk).2.2⟩⟩, h3.trans e3⟩, k2.size, fun b hb => k2.block b (h2 b hb).2.1 (h2 b hb).1⟩
  rcases k3 k e with h | h
  · exact (h2 k hk).1 h
  · have := (h2 k hk).2.1; omega
end
/-- Who is there stays there. -/
theorem room_stays {d : DkM} (h : d.Ok) (bare : Bool) (x : RStep) (ho : d.over x = false) {v : Int} {m : WM} (hw : d.writer v = some m) : ∃ m', (d.room bare x).writer v = some m' := by
  have hv := (h.of_writer hw).1
  have keep : ∀ (lm : LogM) (o : WM), isWriter x.W = true → ∃ m', (d.set lm x.W (some o)).writer v = some m' := fun lm o hi => by
    by_cases e : v = x.W
    · subst e; exact ⟨o, set_writer _ _ _ _ hi⟩
    · exact ⟨m, by rw [set_other _ _ _ _ _ hi e]; exact hw⟩
  have hr := room_does h bare x ho
  generalize d.room bare x = d' at *
  cases hr with
  | none => exact ⟨m, hw⟩
  | join hi _ _ _ _ => exact keep _ _ hi
  | put m2 hm _ _ _ _ => exact keep _ _ (h.of_writer hm).1
  | send m2 hm _ _ _ _ _ => exact keep _ _ (h.of_writer hm).1
  | hear m2 hm _ _ _ => exact keep _ _ (h.of_writer hm).1
  | clear m2 hm _ => exact keep _ _ (h.of_writer hm).1
end Go.Proofs.Ytneoeokfffnonab
