/- What the laws of the log share. -/
import Derived.Test.YtneoeokfffnonabLogBegunW
import Derived.Test.YtneoeokfffnonabCmpW
set_option linter.unusedVariables false
set_option linter.unusedSimpArgs false
namespace Go.Proofs.Ytneoeokfffnonab
open Go.RowKit

theorem steps_snoc (l : List LStep) (k : Nat) (h : k < l.length) : LogM.new.steps (l.take (k + 1)) = (LogM.new.steps (l.take k)).step l[k] := by
  rw [List.take_succ_eq_append_getElem h]; unfold LogM.steps; rw [List.foldl_append]; rfl
theorem steps_ok (l : List LStep) (k : Nat) : (LogM.new.steps (l.take k)).Ok := LogM.Ok.steps _ LogM.new_ok
theorem both_new {w w2 : World} {base g : Nat} {F : Nat → Prop} (h : LogAt w base F g LogM.new) (e : w2 = w.alloc (.cells #[.slice none 0 0, .bool false, .bool false, .bool false, .bool false, .int .i64 0, .int .i64 0, .int .i64 0, .int .i64 0, .int .i64 0, .int .i64 0, .int .i64 0, .int .i64 0] 51)) : Both w2 base g w.heap.size LogM.new ∧ Below w.heap.size w w2 := by
  subst e
  have hb := (Below.refl w.heap.size w).alloc (Nat.le_refl _) (.cells #[.slice none 0 0, .bool false, .bool false, .bool false, .bool false, .int .i64 0, .int .i64 0, .int .i64 0, .int .i64 0, .int .i64 0, .int .i64 0, .int .i64 0, .int .i64 0] 51)
  exact ⟨⟨F, fun k => k = w.heap.size, h.later hb, BookAt.new w base h.base_le, fun k h1 h2 => by have := (h.foot k h1).2; omega⟩, hb⟩
theorem Both.later {w w' : World} {base g b : Nat} {m : LogM} (h : Both w base g b m) (hb : Below w.heap.size w w') : Both w' base g b m := by
  obtain ⟨F, B, h1, h2, h3⟩ := h
  exact ⟨F, B, h1.later hb, h2.later hb, h3⟩
theorem LogAt.above {w w' : World} {base A g : Nat} {F : Nat → Prop} {m : LogM} (h : LogAt w base F g m) (hb : Below A w w') (hF : ∀ k, F k → k < A) : LogAt w' base F g m :=
  h.moves (G := fun k => A ≤ k) ⟨hb.os, hb.tape, hb.output, hb.size, fun k _ hn => hb.block k (by omega)⟩ (fun k h1 h2 => by have := hF k h1; omega)
theorem Same_t (a b : Option Addr) (capa capb : Nat) (l : List Ch) (n : Nat) (hn : l.length = n) (w : World) (hs : SlCh w a capa l) (hs' : SlCh w b capb l) :
    Calls Try.prog 34 #[.slice a n capa, .slice b n capb] w fun e w' => e = .returned (.bool true) ∧ Below w.heap.size w w' := by
  subst hn
  refine (SameChars_c a b capa capb l l w hs hs').mono ?_
  rintro e w' ⟨rfl, hb⟩
  exact ⟨by simp, hb⟩
theorem LogM.Ok.many_ok {m : LogM} (h : m.Ok) : ∀ d ∈ m.L, d.Text.size ≤ maxLen ∧ i64ok d.Many := by
  intro d hd
  have h1 := h.text_le d hd
  obtain ⟨i, hi, rfl⟩ := List.getElem_of_mem hd
  have := (deedFault_zero (h.deeds i hi).f).2.2.2.2.2.2.2
  refine ⟨by unfold maxLen; omega, ?_⟩
  unfold i64ok
  rcases this with ⟨_, h2, _⟩ | ⟨_, h2, h3, _⟩ <;> omega
end Go.Proofs.Ytneoeokfffnonab
