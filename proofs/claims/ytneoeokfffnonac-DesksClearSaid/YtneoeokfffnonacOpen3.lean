/- How the arguments of the laws are opened: deeds. -/
import Derived.Test.YtneoeokfffnonacOpen
import Derived.Test.YtneoeokfffnonacAllW
set_option linter.unusedVariables false
set_option linter.unusedSimpArgs false
namespace Go.Proofs.Ytneoeokfffnonac
open Go.ChangeShapes Go.WideShapes Go.ChangeAt Go.RowKit
set_option linter.unusedVariables false
set_option maxRecDepth 100000

theorem cells_string : Try.prog.cellsOf 9 = 1 := by kernel_rfl
theorem cells_Deed : Try.prog.cellsOf 24 = 7 := by kernel_rfl

section
variable {H : Type} {enc : TypeId × Value → H} {w : World} {base : Nat} {spare : Nat → Bool} {held : Bool}

theorem open_Deed {fuel : Nat} {cs : List Value} {x : DataW H × List MemPlace} (h : DataW.trod enc Try.prog w base spare held fuel 24 cs = some x) : ∃ d : Dd, cs = d.cells ∧ d.ok := by
  obtain ⟨_, _, _, _, hl, _, _⟩ := DataW.trod_struct Try.underlying24 h
  rw [cells_Deed] at hl
  obtain ⟨c0, c1, c2, c3, c4, c5, c6, rfl⟩ := list7 hl
  obtain ⟨n0, rfl, w0⟩ := field_int Try.underlying24 h 0 0 rfl c0 rfl
  obtain ⟨n1, rfl, w1⟩ := field_int Try.underlying24 h 1 1 rfl c1 rfl
  obtain ⟨n2, rfl, w2⟩ := field_int Try.underlying24 h 2 2 rfl c2 rfl
  obtain ⟨n3, rfl, w3⟩ := field_int Try.underlying24 h 3 3 rfl c3 rfl
  obtain ⟨n4, rfl, w4⟩ := field_int Try.underlying24 h 4 4 rfl c4 rfl
  obtain ⟨n5, rfl, w5⟩ := field_int Try.underlying24 h 5 5 rfl c5 rfl
  obtain ⟨_, _, h6⟩ := field_one Try.underlying24 h 6 6 _ rfl cells_string c6 rfl
  obtain ⟨s, e6, _, hs⟩ := DataW.trod_string Try.underlying9 h6
  cases e6
  exact ⟨⟨n0, n1, n2, n3, n4, n5, s⟩, rfl, w0, w1, w2, w3, w4, w5, hs⟩

theorem open_DeedV {v : Value} {d : DataW H} {p : List MemPlace} (hv : Value.okWide Try.prog w .any 0 24 v) (h : DataW.Trod enc Try.prog w base spare held 24 v d p) :
    ∃ c : Dd, v = .agg #[.int .i64 c.Kind, .int .i64 c.By, .int .i64 c.No, .int .i64 c.Seen, .int .i64 c.At, .int .i64 c.Many, .string c.Text] ∧ c.ok := by
  obtain ⟨cs, rfl, _⟩ := okWide_struct Try.underlying24 hv
  obtain ⟨fuel, hf⟩ := h
  obtain ⟨c, hc, hok⟩ := open_Deed hf
  refine ⟨c, ?_, hok⟩
  simp only [Value.cells] at hc
  have := congrArg List.toArray hc
  simp only [Array.toArray_toList] at this
  rw [this]; rfl

theorem DAt.mk' {w : World} {a : Addr} {c : Dd} (h : ∀ j, j < 7 → w.cell? (a.add j) = c.cells[j]?) : ∃ b o, a = ⟨b, o, none⟩ ∧ DAt w b o c := by
  obtain ⟨b, o, s⟩ := a
  have h0 := h 0 (by omega)
  obtain rfl : s = none := World.cell?_spot (w := w) (a := ⟨b, o, s⟩) (v := .int .i64 c.Kind) (by rw [Addr.add_zero'] at h0; exact h0)
  refine ⟨b, o, rfl, ?_⟩
  have k : ∀ j v, c.cells[j]? = some v → j < 7 → w.cell? ⟨b, o + j, none⟩ = some v := fun j v hv hj => by
    have := h j hj; rw [Addr.add_lit] at this; exact this.trans hv
  exact ⟨k 0 _ rfl (by omega), k 1 _ rfl (by omega), k 2 _ rfl (by omega), k 3 _ rfl (by omega), k 4 _ rfl (by omega), k 5 _ rfl (by omega), k 6 _ rfl (by omega)⟩

theorem open_Deeds {v : Value} {d : DataW H} {p : List MemPlace} (hv : Value.okWide Try.prog w .any 0 45 v) (h : DataW.Trod enc Try.prog w base spare held 45 v d p) :
    ∃ a cap l, v = .slice a l.length cap ∧ SlDd w a cap l ∧ ∀ c ∈ l, c.ok := by
  obtain ⟨a0, len, cap, rfl⟩ := okWide_slice Try.underlying45 hv
  obtain ⟨fuel, hf⟩ := h
  rcases Deep.open_slice Try.underlying45 hf with ⟨hcs, _⟩ | ⟨ad, len', cap', m, n, D, Pl, hcs, _, hle, hm, hmm, _, hi⟩
  · simp [Value.cells] at hcs
    obtain ⟨rfl, rfl, rfl⟩ := hcs
    exact ⟨none, 0, [], rfl, SlDd.nil w, fun c hc => by simp at hc⟩
  · simp [Value.cells] at hcs
    obtain ⟨rfl, rfl, rfl⟩ := hcs
    rw [cells_Deed] at hi
    have hlm : len ≤ m := by rw [hmm]; split <;> omega
    obtain ⟨l, hl, hp⟩ := exists_list (p := fun i (c : Dd) => c.ok ∧ ∃ b o, ad.add (i * 7) = ⟨b, o, none⟩ ∧ DAt w b o c) len fun i hin => by
      obtain ⟨cs', hc, ht⟩ := hi i (by omega)
      obtain ⟨c, rfl, hok⟩ := open_Deed ht
      obtain ⟨_, _, hcell⟩ := World.cells?_some hc
      exact ⟨c, hok, DAt.mk' hcell⟩
    subst hl
    refine ⟨some ad, cap, l, rfl, ⟨hle, hm, fun i hin => ?_⟩, fun c hc => ?_⟩
    · obtain ⟨_, b, o, hb, hc⟩ := hp i hin
      obtain ⟨_, b0, o0, hb0, _⟩ := hp 0 (by omega)
      rw [Nat.zero_mul, Addr.add_zero'] at hb0
      subst hb0
      rw [Addr.add_lit] at hb
      cases hb
      exact ⟨_, _, rfl, hc⟩
    · obtain ⟨i, hin, rfl⟩ := List.getElem_of_mem hc
      exact (hp i hin).1
end
end Go.Proofs.Ytneoeokfffnonac
