/- The steps of the walk of XMix, in the walk's own forms. -/
import Derived.Test.YtneoeokfffnonaaMix
namespace Go.Proofs.Ytneoeokfffnonaa
open Go.RowKit

/-- A world later than w. -/
structure Lt (w : World) where
  v : World
  h : Later w v

instance (w : World) : Inhabited (Lt w) := ⟨⟨w, Later.refl w⟩⟩

@[simp] theorem later_self (w : World) : Later w w := Later.refl w
@[simp] theorem later_drew' (w : World) : Later w w.drew := later_drew w
@[simp] theorem later_alloc (w : World) (o : Obj) : Later w (w.alloc o) := Below.alloc (Below.refl _ _) (Nat.le_refl _) o

section
variable {P : Program} {ops : Array Oper} {cuts : List Nat} {Q : Act → World → Prop} {o : Oper} {l : List Nat} {k : Nat} {a : Act} {w : World}

@[go_sem] theorem mixUpon_value (K : Act → World → Prop) (w' : World) (v : Value) : Oper.mixUpon P o a w K (.ok (.value v) w') = (Later w w' ∧ K (a.put o.dst v) w') := rfl
@[go_sem] theorem mixUpon_skip (K : Act → World → Prop) (w' : World) : Oper.mixUpon P o a w K (.ok .skip w') = (Later w w' ∧ K (a.put o.dst undef) w') := rfl
@[go_sem] theorem mixUpon_enter (K : Act → World → Prop) (w' : World) (f : FuncId) (args : Array Value) : Oper.mixUpon P o a w K (.ok (.enter f args) w') = (Later w w' ∧ Calls P f args w' fun e w'' => ∃ v, e = .returned v ∧ Later w w'' ∧ K (a.put o.dst v) w'') := rfl

theorem wpMix_nil (h : ∀ w', Later w w' → Q a w') : wpMix P ops cuts Q [] a w := h

theorem wpMix_step (ho : ops[k]? = some o) (h : ∀ K : Act → World → Prop, (∀ a w, wpMix P ops cuts Q l a w → K a w) →
      if Region.wanted o (yielded ops a.tmps) then
        (if cuts.contains k then ∀ p : Lt w, Oper.mixUpon P o a p.v K ((execOp a.eval o).run P p.v)
         else ∃ v, (∀ p : Lt w, o.quietAt P a (fun w'' => ∃ q : Lt p.v, w'' = q.v) p.v v) ∧ K (a.put o.dst v) w)
      else K (a.put o.dst undef) w) : wpMix P ops cuts Q (k :: l) a w := by
  have h1 := h _ (fun _ _ h => h)
  unfold wpMix
  simp only [ho]
  split
  · rename_i hw
    rw [if_pos hw] at h1
    split
    · rename_i hc
      rw [if_pos hc] at h1
      exact fun w1 hw1 => h1 ⟨w1, hw1⟩
    · rename_i hc
      rw [if_neg hc] at h1
      obtain ⟨v, hv, hn⟩ := h1
      refine ⟨v, fun w1 hw1 => ?_, hn⟩
      have h2 := hv ⟨w1, hw1⟩
      unfold Oper.quietAt at *
      generalize (execOp a.eval o).run P w1 = r at *
      cases r with
      | ok n w' =>
        cases n <;> simp only [Oper.quietUpon] at h2 ⊢
        case enter f args => exact ⟨h2.1, h2.2.mono fun e w'' ⟨he, q, hq⟩ => ⟨he, hq ▸ q.h⟩⟩
        all_goals exact h2
      | halt x w' => simp only [Oper.quietUpon] at h2
  · rename_i hw; rw [if_neg hw] at h1; exact h1

/-- A callee that leaves what was there, at a quiet place. -/
theorem quietM {f : FuncId} {args : Array Value} {w : World} {v : Value} (p : Lt w)
    (h : Calls P f args p.v fun e w' => e = .returned v ∧ Below p.v.heap.size p.v w') : Calls P f args p.v fun e w'' => e = .returned v ∧ ∃ q : Lt p.v, w'' = q.v :=
  h.mono fun _ w' ⟨he, hb⟩ => ⟨he, ⟨w', hb⟩, rfl⟩
theorem quietM_same {f : FuncId} {args : Array Value} {w : World} {v : Value} (p : Lt w)
    (h : Calls P f args p.v fun e w' => e = .returned v ∧ w' = p.v) : Calls P f args p.v fun e w'' => e = .returned v ∧ ∃ q : Lt p.v, w'' = q.v :=
  h.mono fun _ w' ⟨he, hb⟩ => ⟨he, ⟨w', by rw [hb]; exact Later.refl _⟩, rfl⟩
end

/-- A cell of wz, in each later world. -/
theorem later_cell {w : World} {b o : Nat} {v : Value} (h : w.cell? ⟨b, o, none⟩ = some v) : ∀ W, Later w W → W.cell? ⟨b, o, none⟩ = some v :=
  fun _ hC => (Below.cell hC (p := ⟨b, o, none⟩) (World.block_lt_of_cell? w _ h)).trans h
end Go.Proofs.Ytneoeokfffnonaa
