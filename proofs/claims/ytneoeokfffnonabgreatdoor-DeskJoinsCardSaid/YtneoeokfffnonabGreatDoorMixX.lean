/- A region's orders, boxed: what follows is not unfolded by chance, where the guards of its tail are known. -/
import Derived.Test.YtneoeokfffnonabGreatDoorMixH
set_option linter.unusedVariables false
set_option linter.unusedSimpArgs false
namespace Go.Proofs.YtneoeokfffnonabGreatDoor
open Go.RowKit
structure Bx (p : Prop) : Prop where
  out : p
section
variable {P : Program} {ops : Array Oper} {cuts H l : List Nat} {Q : Act → World → Prop} {a : Act} {w : World} {k : Nat} {o : Oper}
theorem wp_region_x {id : Nat} {Q : Exit → Act → World → Prop} {a : Act} {w : World} {ops : Array Oper} (cuts H ord : List Nat) (hm : P.follows .mixedOrders = true) (hB : mixHB .any ops cuts H ord = true)
    (h : Bx (wpMixH P ops cuts H (fun a' w' => Q .normal a' w') ord a w)) : (Code.region id ops true).wp P Q a w := wp_region_mixh cuts H ord hm hB h.out
theorem wpX_nil (h : ∀ w', Later w w' → Q a w') : Bx (wpMixH P ops cuts H Q [] a w) := ⟨wpMixH_nil h⟩
theorem wpX_step (ho : ops[k]? = some o) (h : ∀ K : Act → World → Prop, (∀ a w, Bx (wpMixH P ops cuts H Q l a w) → K a w) →
      if Region.wanted o (yielded ops a.tmps) then
        (if H.contains k then ∀ p : Lt w, Oper.hardUpon P o a p.v K ((execOp a.eval o).run P p.v)
         else if cuts.contains k then ∀ p : Lt w, Oper.mixUpon P o a p.v K ((execOp a.eval o).run P p.v)
         else ∃ v, (∀ p : Lt w, o.quietAt P a (fun w'' => ∃ q : Lt p.v, w'' = q.v) p.v v) ∧ K (a.put o.dst v) w)
      else K (a.put o.dst undef) w) : Bx (wpMixH P ops cuts H Q (k :: l) a w) := ⟨wpMixH_step ho fun K hK => h K fun a w hh => hK a w hh.out⟩
end
end Go.Proofs.YtneoeokfffnonabGreatDoor
