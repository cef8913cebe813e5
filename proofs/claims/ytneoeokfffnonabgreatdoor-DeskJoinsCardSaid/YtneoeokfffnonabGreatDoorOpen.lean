/- Merged: Open Open3. -/
import Derived.Test.YtneoeokfffnonabGreatDoorRows
import Derived.Test.YtneoeokfffnonabGreatDoorCharsW
import Derived.Test.YtneoeokfffnonabGreatDoorPlain
import Derived.ProofKit
import Derived.OpenShut
import Derived.ChangeOld
import Derived.Deep.Slices
import Derived.Test.YtneoeokfffnonabGreatDoorDoW
set_option linter.unusedVariables false
set_option linter.unusedSimpArgs false

/- How the arguments of the laws are opened: bytes of a text, by value and in slices. -/
namespace Go.Proofs.YtneoeokfffnonabGreatDoor
open Go.ChangeShapes Go.WideShapes Go.ChangeAt Go.RowKit
set_option linter.unusedVariables false
set_option maxRecDepth 100000

theorem own : ownKnob Tryz.prog.godebug = none := by kernel_rfl
theorem laidOut : laidOutB Tryz.prog = true := by kernel_rfl

theorem exists_list {α : Type} {p : Nat → α → Prop} : ∀ (n : Nat), (∀ i, i < n → ∃ x, p i x) → ∃ l : List α, l.length = n ∧ ∀ i (h : i < l.length), p i l[i]
  | 0, _ => ⟨[], rfl, fun i h => by simp at h⟩
  | n + 1, h => by
    obtain ⟨l, hl, hp⟩ := exists_list n fun i hi => h i (by omega)
    obtain ⟨x, hx⟩ := h n (by omega)
    refine ⟨l ++ [x], by simp [hl], fun i hi => ?_⟩
    by_cases hin : i < l.length
    · rw [List.getElem_append_left hin]; exact hp i hin
    · have : i = l.length := by simp at hi; omega
      subst this
      simpa [hl] using hx

theorem cells_int : Tryz.prog.cellsOf 3 = 1 := by kernel_rfl
theorem cells_u8 : Tryz.prog.cellsOf 5 = 1 := by kernel_rfl
theorem cells_Char : Tryz.prog.cellsOf 141 = 7 := by kernel_rfl

theorem wf_i64 {x : Int} (h : (Lit.int .i64 x).wf = true) : i64ok x := by
  have := h; simp [Lit.wf, IntKind.min, IntKind.max, IntKind.signed, IntKind.bits] at this; unfold i64ok; omega
theorem wf_u8 {x : Int} (h : (Lit.int .u8 x).wf = true) : 0 ≤ x ∧ x < 256 := by
  have := h; simp [Lit.wf, IntKind.min, IntKind.max, IntKind.signed, IntKind.bits] at this; omega

section
variable {H : Type} {enc : TypeId × Value → H} {w : World} {base : Nat} {spare : Nat → Bool} {held : Bool}

theorem list7 {α : Type} {l : List α} (h : l.length = 7) : ∃ a b c d e f g, l = [a, b, c, d, e, f, g] := by
  match l, h with
  | [a, b, c, d, e, f, g], _ => exact ⟨a, b, c, d, e, f, g, rfl⟩

/-- One field of one cell. -/
theorem field_one {t : TypeId} {fs : Array Field} {fuel : Nat} {cs : List Value} {x : DataW H × List MemPlace} (ht : Tryz.prog.underlying t = some (.struct fs)) (h : DataW.trod enc Tryz.prog w base spare held fuel t cs = some x)
    (i k : Nat) (τ : TypeId) (hi : (fs[i]?).map (fun f => (f.type, f.offset)) = some (τ, k)) (h1 : Tryz.prog.cellsOf τ = 1) (c : Value) (hc : cs[k]? = some c) : ∃ n y, DataW.trod enc Tryz.prog w base spare held n τ [c] = some y := by
  obtain ⟨xs, n, _, _, hl, hxs, hf⟩ := DataW.trod_struct ht h
  cases hfi : fs[i]? with
  | none => rw [hfi] at hi; cases hi
  | some f =>
    rw [hfi] at hi
    simp only [Option.map_some, Option.some.injEq, Prod.mk.injEq] at hi
    obtain ⟨rfl, rfl⟩ := hi
    have h2 := hf i f hfi
    rw [h1] at h2
    have hlt : f.offset < cs.length := (List.getElem?_eq_some_iff.1 hc).1
    have hil : i < xs.length := by
      rw [hxs]; exact (Array.getElem?_eq_some_iff.1 hfi).1
    have e : (cs.drop f.offset).take 1 = [c] := by
      rw [List.drop_eq_getElem_cons hlt]
      simp only [List.take_succ_cons, List.take_zero]
      rw [(List.getElem?_eq_some_iff.1 hc).2]
    rw [e, List.getElem?_eq_getElem hil] at h2
    exact ⟨n, _, h2⟩

theorem field_int {t : TypeId} {fs : Array Field} {fuel : Nat} {cs : List Value} {x : DataW H × List MemPlace} (ht : Tryz.prog.underlying t = some (.struct fs)) (h : DataW.trod enc Tryz.prog w base spare held fuel t cs = some x)
    (i k : Nat) (hi : (fs[i]?).map (fun f => (f.type, f.offset)) = some (3, k)) (c : Value) (hc : cs[k]? = some c) : ∃ n, c = .int .i64 n ∧ i64ok n := by
  obtain ⟨n, y, hy⟩ := field_one ht h i k _ hi cells_int c hc
  obtain ⟨m, e, _, wm⟩ := DataW.trod_int Tryz.underlying3 hy
  cases e
  exact ⟨m, rfl, wf_i64 wm⟩

theorem open_Char {fuel : Nat} {cs : List Value} {x : DataW H × List MemPlace} (h : DataW.trod enc Tryz.prog w base spare held fuel 141 cs = some x) : ∃ c : Ch, cs = c.cells ∧ c.ok := by
  obtain ⟨_, _, _, _, hl, _, _⟩ := DataW.trod_struct Tryz.underlying141 h
  rw [cells_Char] at hl
  obtain ⟨c0, c1, c2, c3, c4, c5, c6, rfl⟩ := list7 hl
  obtain ⟨_, _, h0⟩ := field_one Tryz.underlying141 h 0 0 _ rfl cells_u8 c0 rfl
  obtain ⟨n0, e0, _, w0⟩ := DataW.trod_int Tryz.underlying5 h0
  cases e0
  obtain ⟨n1, rfl, w1⟩ := field_int Tryz.underlying141 h 1 1 rfl c1 rfl
  obtain ⟨n2, rfl, w2⟩ := field_int Tryz.underlying141 h 2 2 rfl c2 rfl
  obtain ⟨n3, rfl, w3⟩ := field_int Tryz.underlying141 h 3 3 rfl c3 rfl
  obtain ⟨n4, rfl, w4⟩ := field_int Tryz.underlying141 h 4 4 rfl c4 rfl
  obtain ⟨n5, rfl, w5⟩ := field_int Tryz.underlying141 h 5 5 rfl c5 rfl
  obtain ⟨n6, rfl, w6⟩ := field_int Tryz.underlying141 h 6 6 rfl c6 rfl
  exact ⟨⟨n0, n1, n2, n3, n4, n5, n6⟩, rfl, wf_u8 w0, w1, w2, w3, w4, w5, w6⟩

theorem ChAt.mk' {w : World} {a : Addr} {c : Ch} (h : ∀ j, j < 7 → w.cell? (a.add j) = c.cells[j]?) : ∃ b o, a = ⟨b, o, none⟩ ∧ ChAt w b o c := by
  obtain ⟨b, o, s⟩ := a
  have h0 := h 0 (by omega)
  obtain rfl : s = none := World.cell?_spot (w := w) (a := ⟨b, o, s⟩) (v := .int .u8 c.C) (by rw [Addr.add_zero'] at h0; exact h0)
  refine ⟨b, o, rfl, ?_⟩
  have k : ∀ j v, c.cells[j]? = some v → j < 7 → w.cell? ⟨b, o + j, none⟩ = some v := fun j v hv hj => by
    have := h j hj; rw [Addr.add_lit] at this; exact this.trans hv
  exact ⟨k 0 _ rfl (by omega), k 1 _ rfl (by omega), k 2 _ rfl (by omega), k 3 _ rfl (by omega), k 4 _ rfl (by omega), k 5 _ rfl (by omega), k 6 _ rfl (by omega)⟩

theorem open_Chars {v : Value} {d : DataW H} {p : List MemPlace} (hv : Value.okWide Tryz.prog w .any 0 65 v) (h : DataW.Trod enc Tryz.prog w base spare held 65 v d p) :
    ∃ a cap l, v = .slice a l.length cap ∧ SlCh w a cap l ∧ ∀ c ∈ l, c.ok := by
  obtain ⟨a0, len, cap, rfl⟩ := okWide_slice Tryz.underlying65 hv
  obtain ⟨fuel, hf⟩ := h
  rcases Deep.open_slice Tryz.underlying65 hf with ⟨hcs, _⟩ | ⟨ad, len', cap', m, n, D, Pl, hcs, _, hle, hm, hmm, _, hi⟩
  · simp [Value.cells] at hcs
    obtain ⟨rfl, rfl, rfl⟩ := hcs
    exact ⟨none, 0, [], rfl, SlCh.nil w, fun c hc => by simp at hc⟩
  · simp [Value.cells] at hcs
    obtain ⟨rfl, rfl, rfl⟩ := hcs
    rw [cells_Char] at hi
    have hlm : len ≤ m := by rw [hmm]; split <;> omega
    obtain ⟨l, hl, hp⟩ := exists_list (p := fun i (c : Ch) => c.ok ∧ ∃ b o, ad.add (i * 7) = ⟨b, o, none⟩ ∧ ChAt w b o c) len fun i hin => by
      obtain ⟨cs', hc, ht⟩ := hi i (by omega)
      obtain ⟨c, rfl, hok⟩ := open_Char ht
      obtain ⟨_, _, hcell⟩ := World.cells?_some hc
      exact ⟨c, hok, ChAt.mk' hcell⟩
    subst hl
    refine ⟨some ad, cap, l, rfl, ⟨hle, hm, fun i hin => ?_⟩, fun c hc => ?_⟩
    · obtain ⟨_, b, o, hb, hc⟩ := hp i hin
      obtain ⟨_, b0, o0, hb0, _⟩ := hp 0 (by omega)
      rw [Nat.zero_mul, Addr.add_zero'] at hb0
      subst hb0
      rw [Addr.add_lit] at hb
      cases hb
      exact ⟨_, _, rfl, hc⟩
    · obtain ⟨i, hin, rfl⟩ := List.getElem_of_mem hc
      exact (hp i hin).1

/-- The same; and a nil slice has no room. -/
theorem open_CharsN {v : Value} {d : DataW H} {p : List MemPlace} (hv : Value.okWide Tryz.prog w .any 0 65 v) (h : DataW.Trod enc Tryz.prog w base spare held 65 v d p) :
    ∃ a cap l, v = .slice a l.length cap ∧ SlCh w a cap l ∧ ((∀ c ∈ l, c.ok) ∧ (a = none → cap = 0)) := by
  obtain ⟨a, cap, l, rfl, hs, hok⟩ := open_Chars hv h
  refine ⟨a, cap, l, rfl, hs, hok, fun ha => ?_⟩
  obtain ⟨fuel, hf⟩ := h
  rcases Deep.open_slice Tryz.underlying65 hf with ⟨hcs, _⟩ | ⟨ad, len', cap', m, n, D, Pl, hcs, _⟩
  · simp [Value.cells] at hcs; exact hcs.2.2
  · simp [Value.cells] at hcs; rw [ha] at hcs; cases hcs.1

/-- A byte by value. -/
theorem open_CharV {v : Value} {d : DataW H} {p : List MemPlace} (hv : Value.okWide Tryz.prog w .any 0 141 v) (h : DataW.Trod enc Tryz.prog w base spare held 141 v d p) :
    ∃ c : Ch, v = .agg c.cells.toArray ∧ c.ok := by
  obtain ⟨cs, rfl, _⟩ := okWide_struct Tryz.underlying141 hv
  obtain ⟨fuel, hf⟩ := h
  obtain ⟨c, hc, hok⟩ := open_Char hf
  refine ⟨c, ?_, hok⟩
  simp only [Value.cells] at hc
  rw [← hc]
end

/-- What a law's walk gives, turned into the row's own end: the answer is true, and nothing that was there has changed. -/
theorem lt_of_trod {H : Type} {enc : TypeId × Value → H} {w : World} {t : TypeId} {v : Value} {d : DataW H} {ps : List MemPlace} (h : DataW.Trod enc Tryz.prog w 0 (fun _ => true) true t v d ps) : ∀ x ∈ ps, x.block < w.heap.size := by
  obtain ⟨m, hm⟩ := h; exact DataW.trod_lt m _ _ _ hm
end Go.Proofs.YtneoeokfffnonabGreatDoor

/- How the arguments of the laws are opened: deeds. -/
namespace Go.Proofs.YtneoeokfffnonabGreatDoor
open Go.ChangeShapes Go.WideShapes Go.ChangeAt Go.RowKit
set_option linter.unusedVariables false
set_option maxRecDepth 100000

theorem cells_string : Tryz.prog.cellsOf 9 = 1 := by kernel_rfl
theorem cells_Deed : Tryz.prog.cellsOf 89 = 7 := by kernel_rfl

section
variable {H : Type} {enc : TypeId × Value → H} {w : World} {base : Nat} {spare : Nat → Bool} {held : Bool}

theorem open_Deed {fuel : Nat} {cs : List Value} {x : DataW H × List MemPlace} (h : DataW.trod enc Tryz.prog w base spare held fuel 89 cs = some x) : ∃ d : Dd, cs = d.cells ∧ d.ok := by
  obtain ⟨_, _, _, _, hl, _, _⟩ := DataW.trod_struct Tryz.underlying89 h
  rw [cells_Deed] at hl
  obtain ⟨c0, c1, c2, c3, c4, c5, c6, rfl⟩ := list7 hl
  obtain ⟨n0, rfl, w0⟩ := field_int Tryz.underlying89 h 0 0 rfl c0 rfl
  obtain ⟨n1, rfl, w1⟩ := field_int Tryz.underlying89 h 1 1 rfl c1 rfl
  obtain ⟨n2, rfl, w2⟩ := field_int Tryz.underlying89 h 2 2 rfl c2 rfl
  obtain ⟨n3, rfl, w3⟩ := field_int Tryz.underlying89 h 3 3 rfl c3 rfl
  obtain ⟨n4, rfl, w4⟩ := field_int Tryz.underlying89 h 4 4 rfl c4 rfl
  obtain ⟨n5, rfl, w5⟩ := field_int Tryz.underlying89 h 5 5 rfl c5 rfl
  obtain ⟨_, _, h6⟩ := field_one Tryz.underlying89 h 6 6 _ rfl cells_string c6 rfl
  obtain ⟨s, e6, _, hs⟩ := DataW.trod_string Tryz.underlying9 h6
  cases e6
  exact ⟨⟨n0, n1, n2, n3, n4, n5, s⟩, rfl, w0, w1, w2, w3, w4, w5, hs⟩

theorem open_DeedV {v : Value} {d : DataW H} {p : List MemPlace} (hv : Value.okWide Tryz.prog w .any 0 89 v) (h : DataW.Trod enc Tryz.prog w base spare held 89 v d p) :
    ∃ c : Dd, v = .agg #[.int .i64 c.Kind, .int .i64 c.By, .int .i64 c.No, .int .i64 c.Seen, .int .i64 c.At, .int .i64 c.Many, .string c.Text] ∧ c.ok := by
  obtain ⟨cs, rfl, _⟩ := okWide_struct Tryz.underlying89 hv
  obtain ⟨fuel, hf⟩ := h
  obtain ⟨c, hc, hok⟩ := open_Deed hf
  refine ⟨c, ?_, hok⟩
  simp only [Value.cells] at hc
  have := congrArg List.toArray hc
  simp only [Array.toArray_toList] at this
  rw [this]; rfl

theorem DAt.mk' {w : World} {a : Addr} {c : Dd} (h : ∀ j, j < 7 → w.cell? (a.add j) = c.cells[j]?) : ∃ b o, a = ⟨b, o, none⟩ ∧ DAt w b o c := by
  obtain ⟨b, o, s⟩ := a
  have h0 := h 0 (by omega)
  obtain rfl : s = none := World.cell?_spot (w := w) (a := ⟨b, o, s⟩) (v := .int .i64 c.Kind) (by rw [Addr.add_zero'] at h0; exact h0)
  refine ⟨b, o, rfl, ?_⟩
  have k : ∀ j v, c.cells[j]? = some v → j < 7 → w.cell? ⟨b, o + j, none⟩ = some v := fun j v hv hj => by
    have := h j hj; rw [Addr.add_lit] at this; exact this.trans hv
  exact ⟨k 0 _ rfl (by omega), k 1 _ rfl (by omega), k 2 _ rfl (by omega), k 3 _ rfl (by omega), k 4 _ rfl (by omega), k 5 _ rfl (by omega), k 6 _ rfl (by omega)⟩

theorem open_Deeds {v : Value} {d : DataW H} {p : List MemPlace} (hv : Value.okWide Tryz.prog w .any 0 64 v) (h : DataW.Trod enc Tryz.prog w base spare held 64 v d p) :
    ∃ a cap l, v = .slice a l.length cap ∧ SlDd w a cap l ∧ ∀ c ∈ l, c.ok := by
  obtain ⟨a0, len, cap, rfl⟩ := okWide_slice Tryz.underlying64 hv
  obtain ⟨fuel, hf⟩ := h
  rcases Deep.open_slice Tryz.underlying64 hf with ⟨hcs, _⟩ | ⟨ad, len', cap', m, n, D, Pl, hcs, _, hle, hm, hmm, _, hi⟩
  · simp [Value.cells] at hcs
    obtain ⟨rfl, rfl, rfl⟩ := hcs
    exact ⟨none, 0, [], rfl, SlDd.nil w, fun c hc => by simp at hc⟩
  · simp [Value.cells] at hcs
    obtain ⟨rfl, rfl, rfl⟩ := hcs
    rw [cells_Deed] at hi
    have hlm : len ≤ m := by rw [hmm]; split <;> omega
    obtain ⟨l, hl, hp⟩ := exists_list (p := fun i (c : Dd) => c.ok ∧ ∃ b o, ad.add (i * 7) = ⟨b, o, none⟩ ∧ DAt w b o c) len fun i hin => by
      obtain ⟨cs', hc, ht⟩ := hi i (by omega)
      obtain ⟨c, rfl, hok⟩ := open_Deed ht
      obtain ⟨_, _, hcell⟩ := World.cells?_some hc
      exact ⟨c, hok, DAt.mk' hcell⟩
    subst hl
    refine ⟨some ad, cap, l, rfl, ⟨hle, hm, fun i hin => ?_⟩, fun c hc => ?_⟩
    · obtain ⟨_, b, o, hb, hc⟩ := hp i hin
      obtain ⟨_, b0, o0, hb0, _⟩ := hp 0 (by omega)
      rw [Nat.zero_mul, Addr.add_zero'] at hb0
      subst hb0
      rw [Addr.add_lit] at hb
      cases hb
      exact ⟨_, _, rfl, hc⟩
    · obtain ⟨i, hin, rfl⟩ := List.getElem_of_mem hc
      exact (hp i hin).1
end
end Go.Proofs.YtneoeokfffnonabGreatDoor
