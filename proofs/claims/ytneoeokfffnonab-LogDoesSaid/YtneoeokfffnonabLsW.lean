/- Steps of a log: their cells, slices of them, how they are opened; greatLog. -/
import Derived.Test.YtneoeokfffnonabOpen
import Derived.Test.YtneoeokfffnonabPlain
set_option linter.unusedVariables false
set_option linter.unusedSimpArgs false
namespace Go.Proofs.Ytneoeokfffnonab
open Go.ChangeShapes Go.WideShapes Go.ChangeAt Go.RowKit
set_option linter.unusedVariables false
set_option maxRecDepth 100000

def LStep.cells (x : LStep) : List Value := [.int .i64 x.Do, .int .i64 x.W, .int .i64 x.N, .int .i64 x.D.Kind, .int .i64 x.D.By, .int .i64 x.D.No, .int .i64 x.D.Seen, .int .i64 x.D.At, .int .i64 x.D.Many, .string x.D.Text, .bool x.Right]
def LStep.ok (x : LStep) : Prop := i64ok x.Do ∧ i64ok x.W ∧ i64ok x.N ∧ x.D.ok
/-- The eleven cells of a step lie at block b from o on. -/
def LsC (w : World) (b o : Nat) (x : LStep) : Prop :=
  w.cell? ⟨b, o, none⟩ = some (.int .i64 x.Do) ∧
  w.cell? ⟨b, o + 1, none⟩ = some (.int .i64 x.W) ∧
  w.cell? ⟨b, o + 2, none⟩ = some (.int .i64 x.N) ∧
  w.cell? ⟨b, o + 3, none⟩ = some (.int .i64 x.D.Kind) ∧
  w.cell? ⟨b, o + 4, none⟩ = some (.int .i64 x.D.By) ∧
  w.cell? ⟨b, o + 5, none⟩ = some (.int .i64 x.D.No) ∧
  w.cell? ⟨b, o + 6, none⟩ = some (.int .i64 x.D.Seen) ∧
  w.cell? ⟨b, o + 7, none⟩ = some (.int .i64 x.D.At) ∧
  w.cell? ⟨b, o + 8, none⟩ = some (.int .i64 x.D.Many) ∧
  w.cell? ⟨b, o + 9, none⟩ = some (.string x.D.Text) ∧
  w.cell? ⟨b, o + 10, none⟩ = some (.bool x.Right)
def SlLs (w : World) (a : Option Addr) (cap : Nat) (l : List LStep) : Prop :=
  l.length ≤ cap ∧ cap ≤ maxLen ∧ ∀ i (h : i < l.length), ∃ b off, a = some ⟨b, off, none⟩ ∧ LsC w b (off + i * 11) l[i]
theorem LsC.lt {w : World} {b o : Nat} {c : LStep} (h : LsC w b o c) : b < w.heap.size := World.block_lt_of_cell? _ _ h.1
theorem LsC.of_block {w w' : World} {b o : Nat} {c : LStep} (h : LsC w b o c) (hb : w'.heap[b]? = w.heap[b]?) : LsC w' b o c := by
  have k : ∀ o, w'.cell? ⟨b, o, none⟩ = w.cell? ⟨b, o, none⟩ := fun o => World.cell?_of_block (w := w) hb
  unfold LsC at *
  simp only [k]; exact h
theorem LsC.below {w w' : World} {b o : Nat} {c : LStep} (h : LsC w b o c) {B : Nat} (hb : Below B w w') (hB : b < B) : LsC w' b o c := h.of_block (hb.block b hB)
theorem SlLs.nth {w : World} {a : Option Addr} {cap : Nat} {l : List LStep} (h : SlLs w a cap l) {k : Nat} (hk : k < l.length) : ∃ b off, a = some ⟨b, off, none⟩ ∧ LsC w b (off + k * 11) l[k] := h.2.2 k hk
theorem SlLs.below {w w' : World} {a : Option Addr} {cap : Nat} {l : List LStep} (h : SlLs w a cap l) (hb : Below w.heap.size w w') : SlLs w' a cap l := by
  refine ⟨h.1, h.2.1, fun i hi => ?_⟩
  obtain ⟨b, off, ha, hc⟩ := h.2.2 i hi
  exact ⟨b, off, ha, hc.below hb hc.lt⟩
theorem SlLs.belowB {w w' w0 : World} {a : Option Addr} {cap : Nat} {l : List LStep} {B : Nat} (h : SlLs w0 a cap l) (h0 : w0.heap.size ≤ B) (hw : Below w0.heap.size w0 w) (hb : Below B w w') : SlLs w' a cap l := by
  refine ⟨h.1, h.2.1, fun i hi => ?_⟩
  obtain ⟨b, off, ha, hc⟩ := h.2.2 i hi
  exact ⟨b, off, ha, (hc.below hw hc.lt).below hb (by have := hc.lt; omega)⟩
theorem SlLs.nil (w : World) : SlLs w none 0 [] := ⟨by simp, by simp, fun i h => by simp at h⟩

theorem cells_LStep : Try.prog.cellsOf 54 = 11 := by kernel_rfl
theorem cells_boolL : Try.prog.cellsOf 4 = 1 := by kernel_rfl
section
variable {H : Type} {enc : TypeId × Value → H} {w : World} {base : Nat} {spare : Nat → Bool} {held : Bool}
theorem list11 {α : Type} {l : List α} (h : l.length = 11) : ∃ a b c d e f g i j k m, l = [a, b, c, d, e, f, g, i, j, k, m] := by
  match l, h with
  | [a, b, c, d, e, f, g, i, j, k, m], _ => exact ⟨a, b, c, d, e, f, g, i, j, k, m, rfl⟩
/-- One field that is a struct. -/
theorem field_sub {t : TypeId} {fs : Array Field} {fuel : Nat} {cs : List Value} {x : DataW H × List MemPlace} (ht : Try.prog.underlying t = some (.struct fs)) (h : DataW.trod enc Try.prog w base spare held fuel t cs = some x)
    (i k : Nat) (τ : TypeId) (hi : (fs[i]?).map (fun f => (f.type, f.offset)) = some (τ, k)) : ∃ n y, DataW.trod enc Try.prog w base spare held n τ ((cs.drop k).take (Try.prog.cellsOf τ)) = some y := by
  obtain ⟨xs, n, _, _, hl, hxs, hf⟩ := DataW.trod_struct ht h
  cases hfi : fs[i]? with
  | none => rw [hfi] at hi; cases hi
  | some f =>
    rw [hfi] at hi
    simp only [Option.map_some, Option.some.injEq, Prod.mk.injEq] at hi
    obtain ⟨rfl, rfl⟩ := hi
    have h2 := hf i f hfi
    have hil : i < xs.length := by
      rw [hxs]; exact (Array.getElem?_eq_some_iff.1 hfi).1
    rw [List.getElem?_eq_getElem hil] at h2
    exact ⟨n, _, h2⟩
theorem open_LStep {fuel : Nat} {cs : List Value} {x : DataW H × List MemPlace} (h : DataW.trod enc Try.prog w base spare held fuel 54 cs = some x) : ∃ d : LStep, cs = d.cells ∧ d.ok := by
  obtain ⟨_, _, _, _, hl, _, _⟩ := DataW.trod_struct Try.underlying54 h
  rw [cells_LStep] at hl
  obtain ⟨c0, c1, c2, c3, c4, c5, c6, c7, c8, c9, c10, rfl⟩ := list11 hl
  obtain ⟨n0, rfl, w0⟩ := field_int Try.underlying54 h 0 0 rfl c0 rfl
  obtain ⟨n1, rfl, w1⟩ := field_int Try.underlying54 h 1 1 rfl c1 rfl
  obtain ⟨n2, rfl, w2⟩ := field_int Try.underlying54 h 2 2 rfl c2 rfl
  obtain ⟨_, _, h3⟩ := field_sub Try.underlying54 h 3 3 25 rfl
  rw [show Try.prog.cellsOf 25 = 7 from cells_Deed] at h3
  obtain ⟨d, hd, hdok⟩ := open_Deed h3
  obtain ⟨_, _, h4⟩ := field_one Try.underlying54 h 4 10 _ rfl cells_boolL c10 rfl
  obtain ⟨r, e4, _⟩ := DataW.trod_bool Try.underlying4 h4
  cases e4
  refine ⟨⟨n0, n1, n2, d, r⟩, ?_, w0, w1, w2, hdok⟩
  have hd' : [c3, c4, c5, c6, c7, c8, c9] = d.cells := hd
  simp only [Dd.cells, List.cons.injEq, and_true] at hd'
  obtain ⟨rfl, rfl, rfl, rfl, rfl, rfl, rfl⟩ := hd'
  rfl
theorem open_LogStepV {v : Value} {d : DataW H} {p : List MemPlace} (hv : Value.okWide Try.prog w .any 0 54 v) (h : DataW.Trod enc Try.prog w base spare held 54 v d p) :
    ∃ x : LStep, v = .agg #[.int .i64 x.Do, .int .i64 x.W, .int .i64 x.N, .int .i64 x.D.Kind, .int .i64 x.D.By, .int .i64 x.D.No, .int .i64 x.D.Seen, .int .i64 x.D.At, .int .i64 x.D.Many, .string x.D.Text, .bool x.Right] ∧ x.ok := by
  obtain ⟨cs, rfl, _⟩ := okWide_struct Try.underlying54 hv
  obtain ⟨fuel, hf⟩ := h
  obtain ⟨c, hc, hok⟩ := open_LStep hf
  refine ⟨c, ?_, hok⟩
  simp only [Value.cells] at hc
  have := congrArg List.toArray hc
  simp only [Array.toArray_toList] at this
  rw [this]; rfl
theorem LsC.mk' {w : World} {a : Addr} {c : LStep} (h : ∀ j, j < 11 → w.cell? (a.add j) = c.cells[j]?) : ∃ b o, a = ⟨b, o, none⟩ ∧ LsC w b o c := by
  obtain ⟨b, o, s⟩ := a
  have h0 := h 0 (by omega)
  obtain rfl : s = none := World.cell?_spot (w := w) (a := ⟨b, o, s⟩) (v := .int .i64 c.Do) (by rw [Addr.add_zero'] at h0; exact h0)
  refine ⟨b, o, rfl, ?_⟩
  have k : ∀ j v, c.cells[j]? = some v → j < 11 → w.cell? ⟨b, o + j, none⟩ = some v := fun j v hv hj => by
    have := h j hj; rw [Addr.add_lit] at this; exact this.trans hv
  exact ⟨k 0 _ rfl (by omega), k 1 _ rfl (by omega), k 2 _ rfl (by omega), k 3 _ rfl (by omega), k 4 _ rfl (by omega), k 5 _ rfl (by omega), k 6 _ rfl (by omega), k 7 _ rfl (by omega), k 8 _ rfl (by omega), k 9 _ rfl (by omega), k 10 _ rfl (by omega)⟩
theorem open_LogSteps {v : Value} {d : DataW H} {p : List MemPlace} (hv : Value.okWide Try.prog w .any 0 44 v) (h : DataW.Trod enc Try.prog w base spare held 44 v d p) :
    ∃ a cap l, v = .slice a l.length cap ∧ SlLs w a cap l ∧ ∀ c ∈ l, c.ok := by
  obtain ⟨a0, len, cap, rfl⟩ := okWide_slice Try.underlying44 hv
  obtain ⟨fuel, hf⟩ := h
  rcases Deep.open_slice Try.underlying44 hf with ⟨hcs, _⟩ | ⟨ad, len', cap', m, n, D, Pl, hcs, _, hle, hm, hmm, _, hi⟩
  · simp [Value.cells] at hcs
    obtain ⟨rfl, rfl, rfl⟩ := hcs
    exact ⟨none, 0, [], rfl, SlLs.nil w, fun c hc => by simp at hc⟩
  · simp [Value.cells] at hcs
    obtain ⟨rfl, rfl, rfl⟩ := hcs
    rw [cells_LStep] at hi
    have hlm : len ≤ m := by rw [hmm]; split <;> omega
    obtain ⟨l, hl, hp⟩ := exists_list (p := fun i (c : LStep) => c.ok ∧ ∃ b o, ad.add (i * 11) = ⟨b, o, none⟩ ∧ LsC w b o c) len fun i hin => by
      obtain ⟨cs', hc, ht⟩ := hi i (by omega)
      obtain ⟨c, rfl, hok⟩ := open_LStep ht
      obtain ⟨_, _, hcell⟩ := World.cells?_some hc
      exact ⟨c, hok, LsC.mk' hcell⟩
    subst hl
    refine ⟨some ad, cap, l, rfl, ⟨hle, hm, fun i hin => ?_⟩, fun c hc => ?_⟩
    · obtain ⟨_, b, o, hb, hc⟩ := hp i hin
      obtain ⟨_, b0, o0, hb0, _⟩ := hp 0 (by omega)
      rw [Nat.zero_mul, Addr.add_zero'] at hb0
      subst hb0
      rw [Addr.add_lit] at hb
      cases hb
      exact ⟨_, _, rfl, hc⟩
    · obtain ⟨i, hin, rfl⟩ := List.getElem_of_mem hc
      exact (hp i hin).1
end

/-- What greatLog tells. -/
def GreatL (ds : List LStep) (w : World) (e : Ending) (w' : World) : Prop := ∃ r, e = .returned (.bool r) ∧ w' = w ∧ (r = false → ds.length ≤ 150 ∧ ∀ d ∈ ds, d.D.Text.size ≤ 100)
theorem greatLog_c (a : Option Addr) (cap : Nat) (ds : List LStep) (w : World) (hs : SlLs w a cap ds) :
    Calls Try.prog 24 #[.slice a ds.length cap] w (GreatL ds w) := by
  have hm : ds.length ≤ maxLen := Nat.le_trans hs.1 hs.2.1
  unfold maxLen at hm
  go_enter Try.func24, Try.ntmps24
  go_wp2
  go_loop [3] (fun s3 => ∃ k : Nat, k ≤ ds.length ∧ k ≤ 200 ∧ s3 = .int .i64 k ∧ Hid (∀ i (h : i < ds.length), i < k → ds[i].D.Text.size ≤ 100)) (fun s3 => ds.length - (intOf s3).toNat)
  case atStart => exact ⟨0, Nat.zero_le _, by omega, rfl, Lib.hid (fun i h h2 => by omega)⟩
  case round =>
    obtain ⟨k, hk, hk2, rfl, HP⟩ := hrel
    by_cases hlt : k < ds.length
    · have hltB : decide ((k : Int) < ds.length) = true := by simp; omega
      by_cases h200 : k < 200
      · have h2B : decide ((k : Int) < 200) = true := by simp; omega
        obtain ⟨b, off, rfl, hc⟩ := hs.nth hlt
        obtain ⟨q0, q1, q2, q3, q4, q5, q6, q7, q8, q9, q10⟩ := hc
        clear q0 q1 q2 q3 q4 q5 q6 q7 q8 q10
        have HX := Lib.hid (fun (h : ds[k].D.Text.size ≤ 100) => show ∀ i (hi : i < ds.length), i < k + 1 → ds[i].D.Text.size ≤ 100 from fun i hi hik => by
          by_cases e : i < k
          · exact HP.out i hi e
          · obtain rfl : i = k := by omega
            exact h)
        generalize ds[k] = d at *
        have hlt' : (k : Int) < ds.length := by omega
        by_cases hz : 100 < d.D.Text.size
        · have hzB : decide (100 < (d.D.Text.size : Int)) = true := by simp; omega
          clear HX HP
          go_wp2
          go_ret
          exact ⟨true, rfl, rfl, fun h => by cases h⟩
        · have hzB : decide (100 < (d.D.Text.size : Int)) = false := by simp; omega
          have HX2 := Lib.hid (HX.out (by omega))
          clear HX HP
          go_wp2
          go_round
          case rel => exact ⟨k + 1, by omega, by omega, by go_num, HX2⟩
          case measure => simp [intOf]; omega
      · have h2B : decide ((k : Int) < 200) = false := by simp; omega
        have hbig : decide (150 < (ds.length : Int)) = true := by simp; omega
        clear HP
        go_wp2
        go_ret
        exact ⟨true, by simp, rfl, fun h => by cases h⟩
    · obtain rfl : k = ds.length := by omega
      have hltB : decide ((ds.length : Int) < ds.length) = false := by simp
      go_wp2
      go_ret
      refine ⟨_, rfl, rfl, fun h => ⟨by simp at h; omega, fun d hd => ?_⟩⟩
      obtain ⟨i, hi, rfl⟩ := List.getElem_of_mem hd
      exact HP.out i hi hi
end Go.Proofs.Ytneoeokfffnonab
