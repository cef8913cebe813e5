/- How a deed is opened. -/
import Derived.Test.YtneoeokfffnonadDoorRows
import Derived.Test.YtneoeokfffnonadDoorDeedG
import Derived.ProofKit
import Derived.OpenShut
import Derived.ChangeOld
import Derived.Deep.Slices
set_option linter.unusedVariables false
set_option linter.unusedSimpArgs false
namespace Go.Proofs.YtneoeokfffnonadDoor
open Go.ChangeShapes Go.WideShapes Go.ChangeAt Go.RowKit
set_option linter.unusedVariables false
set_option maxRecDepth 100000

theorem own : ownKnob Tryd.prog.godebug = none := by kernel_rfl
theorem laidOut : laidOutB Tryd.prog = true := by kernel_rfl
theorem cells_int : Tryd.prog.cellsOf 3 = 1 := by kernel_rfl
theorem wf_i64 {x : Int} (h : (Lit.int .i64 x).wf = true) : i64ok x := by
  have := h; simp [Lit.wf, IntKind.min, IntKind.max, IntKind.signed, IntKind.bits] at this; unfold i64ok; omega

section
variable {H : Type} {enc : TypeId × Value → H} {w : World} {base : Nat} {spare : Nat → Bool} {held : Bool}

theorem list7 {α : Type} {l : List α} (h : l.length = 7) : ∃ a b c d e f g, l = [a, b, c, d, e, f, g] := by
  match l, h with
  | [a, b, c, d, e, f, g], _ => exact ⟨a, b, c, d, e, f, g, rfl⟩

/-- One field of one cell. -/
theorem field_one {t : TypeId} {fs : Array Field} {fuel : Nat} {cs : List Value} {x : DataW H × List MemPlace} (ht : Tryd.prog.underlying t = some (.struct fs)) (h : DataW.trod enc Tryd.prog w base spare held fuel t cs = some x)
    (i k : Nat) (τ : TypeId) (hi : (fs[i]?).map (fun f => (f.type, f.offset)) = some (τ, k)) (h1 : Tryd.prog.cellsOf τ = 1) (c : Value) (hc : cs[k]? = some c) : ∃ n y, DataW.trod enc Tryd.prog w base spare held n τ [c] = some y := by
  obtain ⟨xs, n, _, _, hl, hxs, hf⟩ := DataW.trod_struct ht h
  cases hfi : fs[i]? with
  | none => rw [hfi] at hi; cases hi
  | some f =>
    rw [hfi] at hi
    simp only [Option.map_some, Option.some.injEq, Prod.mk.injEq] at hi
    obtain ⟨rfl, rfl⟩ := hi
    have h2 := hf i f hfi
    rw [h1] at h2
    have hlt : f.offset < cs.length := (List.getElem?_eq_some_iff.1 hc).1
    have hil : i < xs.length := by
      rw [hxs]; exact (Array.getElem?_eq_some_iff.1 hfi).1
    have e : (cs.drop f.offset).take 1 = [c] := by
      rw [List.drop_eq_getElem_cons hlt]
      simp only [List.take_succ_cons, List.take_zero]
      rw [(List.getElem?_eq_some_iff.1 hc).2]
    rw [e, List.getElem?_eq_getElem hil] at h2
    exact ⟨n, _, h2⟩

theorem field_int {t : TypeId} {fs : Array Field} {fuel : Nat} {cs : List Value} {x : DataW H × List MemPlace} (ht : Tryd.prog.underlying t = some (.struct fs)) (h : DataW.trod enc Tryd.prog w base spare held fuel t cs = some x)
    (i k : Nat) (hi : (fs[i]?).map (fun f => (f.type, f.offset)) = some (3, k)) (c : Value) (hc : cs[k]? = some c) : ∃ n, c = .int .i64 n ∧ i64ok n := by
  obtain ⟨n, y, hy⟩ := field_one ht h i k _ hi cells_int c hc
  obtain ⟨m, e, _, wm⟩ := DataW.trod_int Tryd.underlying3 hy
  cases e
  exact ⟨m, rfl, wf_i64 wm⟩

end
theorem lt_of_trod {H : Type} {enc : TypeId × Value → H} {w : World} {t : TypeId} {v : Value} {d : DataW H} {ps : List MemPlace} (h : DataW.Trod enc Tryd.prog w 0 (fun _ => true) true t v d ps) : ∀ x ∈ ps, x.block < w.heap.size := by
  obtain ⟨m, hm⟩ := h; exact DataW.trod_lt m _ _ _ hm
theorem cells_string : Tryd.prog.cellsOf 9 = 1 := by kernel_rfl
theorem cells_Deed : Tryd.prog.cellsOf 23 = 7 := by kernel_rfl

section
variable {H : Type} {enc : TypeId × Value → H} {w : World} {base : Nat} {spare : Nat → Bool} {held : Bool}

theorem open_Deed {fuel : Nat} {cs : List Value} {x : DataW H × List MemPlace} (h : DataW.trod enc Tryd.prog w base spare held fuel 23 cs = some x) : ∃ d : Dd, cs = d.cells ∧ d.ok := by
  obtain ⟨_, _, _, _, hl, _, _⟩ := DataW.trod_struct Tryd.underlying23 h
  rw [cells_Deed] at hl
  obtain ⟨c0, c1, c2, c3, c4, c5, c6, rfl⟩ := list7 hl
  obtain ⟨n0, rfl, w0⟩ := field_int Tryd.underlying23 h 0 0 rfl c0 rfl
  obtain ⟨n1, rfl, w1⟩ := field_int Tryd.underlying23 h 1 1 rfl c1 rfl
  obtain ⟨n2, rfl, w2⟩ := field_int Tryd.underlying23 h 2 2 rfl c2 rfl
  obtain ⟨n3, rfl, w3⟩ := field_int Tryd.underlying23 h 3 3 rfl c3 rfl
  obtain ⟨n4, rfl, w4⟩ := field_int Tryd.underlying23 h 4 4 rfl c4 rfl
  obtain ⟨n5, rfl, w5⟩ := field_int Tryd.underlying23 h 5 5 rfl c5 rfl
  obtain ⟨_, _, h6⟩ := field_one Tryd.underlying23 h 6 6 _ rfl cells_string c6 rfl
  obtain ⟨s, e6, _, hs⟩ := DataW.trod_string Tryd.underlying9 h6
  cases e6
  exact ⟨⟨n0, n1, n2, n3, n4, n5, s⟩, rfl, w0, w1, w2, w3, w4, w5, hs⟩

theorem open_DeedV {v : Value} {d : DataW H} {p : List MemPlace} (hv : Value.okWide Tryd.prog w .any 0 23 v) (h : DataW.Trod enc Tryd.prog w base spare held 23 v d p) :
    ∃ c : Dd, v = .agg #[.int .i64 c.Kind, .int .i64 c.By, .int .i64 c.No, .int .i64 c.Seen, .int .i64 c.At, .int .i64 c.Many, .string c.Text] ∧ c.ok := by
  obtain ⟨cs, rfl, _⟩ := okWide_struct Tryd.underlying23 hv
  obtain ⟨fuel, hf⟩ := h
  obtain ⟨c, hc, hok⟩ := open_Deed hf
  refine ⟨c, ?_, hok⟩
  simp only [Value.cells] at hc
  have := congrArg List.toArray hc
  simp only [Array.toArray_toList] at this
  rw [this]; rfl

end
end Go.Proofs.YtneoeokfffnonadDoor
