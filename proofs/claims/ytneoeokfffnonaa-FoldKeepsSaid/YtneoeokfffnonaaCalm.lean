/- Regions that draw their order and hold calls that lay blocks: one walk, in the class of worlds in which nothing that was there has changed. -/
import Derived.Test.YtneoeokfffnonaaBase
namespace Go.Proofs.Ytneoeokfffnonaa
open Go.RowKit

/-- A world in which nothing that was in wz has changed. -/
structure Calm (wz : World) where
  w : World
  h : Below wz.heap.size wz w

instance (wz : World) : Inhabited (Calm wz) := ⟨⟨wz, Below.refl _ _⟩⟩

theorem wp_region_calm {P : Program} {id : Nat} {Q : Exit → Act → World → Prop} {a : Act} {w wz : World} {l : List Oper} (h0 : Below wz.heap.size wz w) (hm : P.follows .mixedOrders = true) (hB : Region.lexB .any l.toArray = true)
    (h : wpQuiet P l.toArray (fun w' => ∃ p : Calm wz, w' = p.w) (fun a' => ∀ w', (∃ p : Calm wz, w' = p.w) → Q .normal a' w') l a) : (Code.region id l.toArray true).wp P Q a w :=
  wp_region_quiet (C := fun w' => ∃ p : Calm wz, w' = p.w) hm hB ⟨⟨_, h0.drew⟩, rfl⟩ (by simpa using h)

/-- A callee that leaves what was there, met in such a world. -/
theorem calmP {P : Program} {f : FuncId} {args : Array Value} {wz : World} {v : Value} (p : Calm wz)
    (h : Calls P f args p.w fun e w' => e = .returned v ∧ Below p.w.heap.size p.w w') : Calls P f args p.w fun e w'' => e = .returned v ∧ ∃ p' : Calm wz, w'' = p'.w :=
  h.mono fun _ w' ⟨he, hb⟩ => ⟨he, ⟨w', p.h.trans (hb.mono p.h.size)⟩, rfl⟩
theorem calmP_same {P : Program} {f : FuncId} {args : Array Value} {wz : World} {v : Value} (p : Calm wz)
    (h : Calls P f args p.w fun e w' => e = .returned v ∧ w' = p.w) : Calls P f args p.w fun e w'' => e = .returned v ∧ ∃ p' : Calm wz, w'' = p'.w :=
  h.mono fun _ _ ⟨he, hb⟩ => ⟨he, p, hb⟩

/-- A cell of wz, in each such world. -/
theorem cellP {wz : World} {b o : Nat} {v : Value} (h : wz.cell? ⟨b, o, none⟩ = some v) : ∀ p : Calm wz, p.w.cell? ⟨b, o, none⟩ = some v :=
  fun p => (p.h.cell (p := ⟨b, o, none⟩) (World.block_lt_of_cell? wz _ h)).trans h
/-- The same, said of each world by itself. -/
theorem calm_cell {w : World} {b o : Nat} {v : Value} (h : w.cell? ⟨b, o, none⟩ = some v) : ∀ W, Below w.heap.size w W → W.cell? ⟨b, o, none⟩ = some v :=
  fun _ hC => (hC.cell (p := ⟨b, o, none⟩) (World.block_lt_of_cell? w _ h)).trans h
end Go.Proofs.Ytneoeokfffnonaa
