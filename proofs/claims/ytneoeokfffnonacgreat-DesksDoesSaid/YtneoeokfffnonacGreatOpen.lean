/- Merged: Open Open3. -/
import Derived.Test.YtneoeokfffnonacGreatRows
import Derived.Test.YtneoeokfffnonacGreatCharsW
import Derived.Test.YtneoeokfffnonacGreatPlain
import Derived.ProofKit
import Derived.OpenShut
import Derived.ChangeOld
import Derived.Deep.Slices
import Derived.Test.YtneoeokfffnonacGreatDoW
set_option linter.unusedVariables false
set_option linter.unusedSimpArgs false

/- How the arguments of the laws are opened: bytes of a text, by value and in slices. -/
namespace Go.Proofs.YtneoeokfffnonacGreat
open Go.ChangeShapes Go.WideShapes Go.ChangeAt Go.RowKit
set_option linter.unusedVariables false
set_option maxRecDepth 100000

theorem own : ownKnob Tryz.prog.godebug = none := by kernel_rfl
theorem laidOut : laidOutB Tryz.prog = true := by kernel_rfl

theorem exists_list {α : Type} {p : Nat → α → Prop} : ∀ (n : Nat), (∀ i, i < n → ∃ x, p i x) → ∃ l : List α, l.length = n ∧ ∀ i (h : i < l.length), p i l[i]
  | 0, _ => ⟨[], rfl, fun i h => by simp at h⟩
  | n + 1, h => by
    obtain ⟨l, hl, hp⟩ := exists_list n fun i hi => h i (by omega)
    obtain ⟨x, hx⟩ := h n (by omega)
    refine ⟨l ++ [x], by simp [hl], fun i hi => ?_⟩
    by_cases hin : i < l.length
    · rw [List.getElem_append_left hin]; exact hp i hin
    · have : i = l.length := by simp at hi; omega
      subst this
      simpa [hl] using hx

theorem cells_int : Tryz.prog.cellsOf 3 = 1 := by kernel_rfl

theorem wf_i64 {x : Int} (h : (Lit.int .i64 x).wf = true) : i64ok x := by
  have := h; simp [Lit.wf, IntKind.min, IntKind.max, IntKind.signed, IntKind.bits] at this; unfold i64ok; omega

section
variable {H : Type} {enc : TypeId × Value → H} {w : World} {base : Nat} {spare : Nat → Bool} {held : Bool}


/-- One field of one cell. -/
theorem field_one {t : TypeId} {fs : Array Field} {fuel : Nat} {cs : List Value} {x : DataW H × List MemPlace} (ht : Tryz.prog.underlying t = some (.struct fs)) (h : DataW.trod enc Tryz.prog w base spare held fuel t cs = some x)
    (i k : Nat) (τ : TypeId) (hi : (fs[i]?).map (fun f => (f.type, f.offset)) = some (τ, k)) (h1 : Tryz.prog.cellsOf τ = 1) (c : Value) (hc : cs[k]? = some c) : ∃ n y, DataW.trod enc Tryz.prog w base spare held n τ [c] = some y := by
  obtain ⟨xs, n, _, _, hl, hxs, hf⟩ := DataW.trod_struct ht h
  cases hfi : fs[i]? with
  | none => rw [hfi] at hi; cases hi
  | some f =>
    rw [hfi] at hi
    simp only [Option.map_some, Option.some.injEq, Prod.mk.injEq] at hi
    obtain ⟨rfl, rfl⟩ := hi
    have h2 := hf i f hfi
    rw [h1] at h2
    have hlt : f.offset < cs.length := (List.getElem?_eq_some_iff.1 hc).1
    have hil : i < xs.length := by
      rw [hxs]; exact (Array.getElem?_eq_some_iff.1 hfi).1
    have e : (cs.drop f.offset).take 1 = [c] := by
      rw [List.drop_eq_getElem_cons hlt]
      simp only [List.take_succ_cons, List.take_zero]
      rw [(List.getElem?_eq_some_iff.1 hc).2]
    rw [e, List.getElem?_eq_getElem hil] at h2
    exact ⟨n, _, h2⟩

theorem field_int {t : TypeId} {fs : Array Field} {fuel : Nat} {cs : List Value} {x : DataW H × List MemPlace} (ht : Tryz.prog.underlying t = some (.struct fs)) (h : DataW.trod enc Tryz.prog w base spare held fuel t cs = some x)
    (i k : Nat) (hi : (fs[i]?).map (fun f => (f.type, f.offset)) = some (3, k)) (c : Value) (hc : cs[k]? = some c) : ∃ n, c = .int .i64 n ∧ i64ok n := by
  obtain ⟨n, y, hy⟩ := field_one ht h i k _ hi cells_int c hc
  obtain ⟨m, e, _, wm⟩ := DataW.trod_int Tryz.underlying3 hy
  cases e
  exact ⟨m, rfl, wf_i64 wm⟩





end

/-- What a law's walk gives, turned into the row's own end: the answer is true, and nothing that was there has changed. -/
theorem lt_of_trod {H : Type} {enc : TypeId × Value → H} {w : World} {t : TypeId} {v : Value} {d : DataW H} {ps : List MemPlace} (h : DataW.Trod enc Tryz.prog w 0 (fun _ => true) true t v d ps) : ∀ x ∈ ps, x.block < w.heap.size := by
  obtain ⟨m, hm⟩ := h; exact DataW.trod_lt m _ _ _ hm
end Go.Proofs.YtneoeokfffnonacGreat

/- How the arguments of the laws are opened: deeds. -/
namespace Go.Proofs.YtneoeokfffnonacGreat
open Go.ChangeShapes Go.WideShapes Go.ChangeAt Go.RowKit
set_option linter.unusedVariables false
set_option maxRecDepth 100000

theorem cells_string : Tryz.prog.cellsOf 9 = 1 := by kernel_rfl

section
variable {H : Type} {enc : TypeId × Value → H} {w : World} {base : Nat} {spare : Nat → Bool} {held : Bool}




end
end Go.Proofs.YtneoeokfffnonacGreat
