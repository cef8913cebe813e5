/- Steps of a room: their cells, slices of them, how they are opened; greatRoom. -/
import Derived.Test.YtneoeokfffnonabOpen
import Derived.Test.YtneoeokfffnonabPlainW
set_option linter.unusedVariables false
set_option linter.unusedSimpArgs false
namespace Go.Proofs.Ytneoeokfffnonab
open Go.ChangeShapes Go.WideShapes Go.ChangeAt Go.RowKit
set_option linter.unusedVariables false
set_option maxRecDepth 100000

def RStep.cells (x : RStep) : List Value := [.int .i64 x.Do, .int .i64 x.W, .int .i64 x.At, .int .i64 x.Many, .string x.Text]
def RStep.ok (x : RStep) : Prop := i64ok x.Do ∧ i64ok x.W ∧ i64ok x.At ∧ i64ok x.Many ∧ x.Text.size ≤ maxLen
/-- The five cells of a step lie at block b from o on. -/
def RsC (w : World) (b o : Nat) (x : RStep) : Prop :=
  w.cell? ⟨b, o, none⟩ = some (.int .i64 x.Do) ∧
  w.cell? ⟨b, o + 1, none⟩ = some (.int .i64 x.W) ∧
  w.cell? ⟨b, o + 2, none⟩ = some (.int .i64 x.At) ∧
  w.cell? ⟨b, o + 3, none⟩ = some (.int .i64 x.Many) ∧
  w.cell? ⟨b, o + 4, none⟩ = some (.string x.Text)
def SlRs (w : World) (a : Option Addr) (cap : Nat) (l : List RStep) : Prop :=
  l.length ≤ cap ∧ cap ≤ maxLen ∧ ∀ i (h : i < l.length), ∃ b off, a = some ⟨b, off, none⟩ ∧ RsC w b (off + i * 5) l[i]
theorem RsC.lt {w : World} {b o : Nat} {c : RStep} (h : RsC w b o c) : b < w.heap.size := World.block_lt_of_cell? _ _ h.1
theorem RsC.of_block {w w' : World} {b o : Nat} {c : RStep} (h : RsC w b o c) (hb : w'.heap[b]? = w.heap[b]?) : RsC w' b o c := by
  have k : ∀ o, w'.cell? ⟨b, o, none⟩ = w.cell? ⟨b, o, none⟩ := fun o => World.cell?_of_block (w := w) hb
  unfold RsC at *
  simp only [k]; exact h
theorem RsC.below {w w' : World} {b o : Nat} {c : RStep} (h : RsC w b o c) {B : Nat} (hb : Below B w w') (hB : b < B) : RsC w' b o c := h.of_block (hb.block b hB)
theorem SlRs.nth {w : World} {a : Option Addr} {cap : Nat} {l : List RStep} (h : SlRs w a cap l) {k : Nat} (hk : k < l.length) : ∃ b off, a = some ⟨b, off, none⟩ ∧ RsC w b (off + k * 5) l[k] := h.2.2 k hk
theorem SlRs.below {w w' : World} {a : Option Addr} {cap : Nat} {l : List RStep} (h : SlRs w a cap l) (hb : Below w.heap.size w w') : SlRs w' a cap l := by
  refine ⟨h.1, h.2.1, fun i hi => ?_⟩
  obtain ⟨b, off, ha, hc⟩ := h.2.2 i hi
  exact ⟨b, off, ha, hc.below hb hc.lt⟩
theorem SlRs.nil (w : World) : SlRs w none 0 [] := ⟨by simp, by simp, fun i h => by simp at h⟩

theorem cells_RStep : Try.prog.cellsOf 73 = 5 := by kernel_rfl
section
variable {H : Type} {enc : TypeId × Value → H} {w : World} {base : Nat} {spare : Nat → Bool} {held : Bool}
theorem list5 {α : Type} {l : List α} (h : l.length = 5) : ∃ a b c d e, l = [a, b, c, d, e] := by
  match l, h with
  | [a, b, c, d, e], _ => exact ⟨a, b, c, d, e, rfl⟩
theorem open_RoomStep {fuel : Nat} {cs : List Value} {x : DataW H × List MemPlace} (h : DataW.trod enc Try.prog w base spare held fuel 73 cs = some x) : ∃ d : RStep, cs = d.cells ∧ d.ok := by
  obtain ⟨_, _, _, _, hl, _, _⟩ := DataW.trod_struct Try.underlying73 h
  rw [cells_RStep] at hl
  obtain ⟨c0, c1, c2, c3, c4, rfl⟩ := list5 hl
  obtain ⟨n0, rfl, w0⟩ := field_int Try.underlying73 h 0 0 rfl c0 rfl
  obtain ⟨n1, rfl, w1⟩ := field_int Try.underlying73 h 1 1 rfl c1 rfl
  obtain ⟨n2, rfl, w2⟩ := field_int Try.underlying73 h 2 2 rfl c2 rfl
  obtain ⟨n3, rfl, w3⟩ := field_int Try.underlying73 h 3 3 rfl c3 rfl
  obtain ⟨_, _, h4⟩ := field_one Try.underlying73 h 4 4 _ rfl cells_string c4 rfl
  obtain ⟨s, e4, _, hs⟩ := DataW.trod_string Try.underlying9 h4
  cases e4
  exact ⟨⟨n0, n1, n2, n3, s⟩, rfl, w0, w1, w2, w3, hs⟩
theorem open_RoomStepV {v : Value} {d : DataW H} {p : List MemPlace} (hv : Value.okWide Try.prog w .any 0 73 v) (h : DataW.Trod enc Try.prog w base spare held 73 v d p) :
    ∃ x : RStep, v = .agg #[.int .i64 x.Do, .int .i64 x.W, .int .i64 x.At, .int .i64 x.Many, .string x.Text] ∧ x.ok := by
  obtain ⟨cs, rfl, _⟩ := okWide_struct Try.underlying73 hv
  obtain ⟨fuel, hf⟩ := h
  obtain ⟨c, hc, hok⟩ := open_RoomStep hf
  refine ⟨c, ?_, hok⟩
  simp only [Value.cells] at hc
  have := congrArg List.toArray hc
  simp only [Array.toArray_toList] at this
  rw [this]; rfl
theorem RsC.mk' {w : World} {a : Addr} {c : RStep} (h : ∀ j, j < 5 → w.cell? (a.add j) = c.cells[j]?) : ∃ b o, a = ⟨b, o, none⟩ ∧ RsC w b o c := by
  obtain ⟨b, o, s⟩ := a
  have h0 := h 0 (by omega)
  obtain rfl : s = none := World.cell?_spot (w := w) (a := ⟨b, o, s⟩) (v := .int .i64 c.Do) (by rw [Addr.add_zero'] at h0; exact h0)
  refine ⟨b, o, rfl, ?_⟩
  have k : ∀ j v, c.cells[j]? = some v → j < 5 → w.cell? ⟨b, o + j, none⟩ = some v := fun j v hv hj => by
    have := h j hj; rw [Addr.add_lit] at this; exact this.trans hv
  exact ⟨k 0 _ rfl (by omega), k 1 _ rfl (by omega), k 2 _ rfl (by omega), k 3 _ rfl (by omega), k 4 _ rfl (by omega)⟩
theorem open_RoomSteps {v : Value} {d : DataW H} {p : List MemPlace} (hv : Value.okWide Try.prog w .any 0 68 v) (h : DataW.Trod enc Try.prog w base spare held 68 v d p) :
    ∃ a cap l, v = .slice a l.length cap ∧ SlRs w a cap l ∧ ∀ c ∈ l, c.ok := by
  obtain ⟨a0, len, cap, rfl⟩ := okWide_slice Try.underlying68 hv
  obtain ⟨fuel, hf⟩ := h
  rcases Deep.open_slice Try.underlying68 hf with ⟨hcs, _⟩ | ⟨ad, len', cap', m, n, D, Pl, hcs, _, hle, hm, hmm, _, hi⟩
  · simp [Value.cells] at hcs
    obtain ⟨rfl, rfl, rfl⟩ := hcs
    exact ⟨none, 0, [], rfl, SlRs.nil w, fun c hc => by simp at hc⟩
  · simp [Value.cells] at hcs
    obtain ⟨rfl, rfl, rfl⟩ := hcs
    rw [cells_RStep] at hi
    have hlm : len ≤ m := by rw [hmm]; split <;> omega
    obtain ⟨l, hl, hp⟩ := exists_list (p := fun i (c : RStep) => c.ok ∧ ∃ b o, ad.add (i * 5) = ⟨b, o, none⟩ ∧ RsC w b o c) len fun i hin => by
      obtain ⟨cs', hc, ht⟩ := hi i (by omega)
      obtain ⟨c, rfl, hok⟩ := open_RoomStep ht
      obtain ⟨_, _, hcell⟩ := World.cells?_some hc
      exact ⟨c, hok, RsC.mk' hcell⟩
    subst hl
    refine ⟨some ad, cap, l, rfl, ⟨hle, hm, fun i hin => ?_⟩, fun c hc => ?_⟩
    · obtain ⟨_, b, o, hb, hc⟩ := hp i hin
      obtain ⟨_, b0, o0, hb0, _⟩ := hp 0 (by omega)
      rw [Nat.zero_mul, Addr.add_zero'] at hb0
      subst hb0
      rw [Addr.add_lit] at hb
      cases hb
      exact ⟨_, _, rfl, hc⟩
    · obtain ⟨i, hin, rfl⟩ := List.getElem_of_mem hc
      exact (hp i hin).1
end

/-- What greatRoom tells. -/
def GreatR (ds : List RStep) (w : World) (e : Ending) (w' : World) : Prop := ∃ r, e = .returned (.bool r) ∧ w' = w ∧ (r = false → ds.length ≤ 160 ∧ ∀ d ∈ ds, d.Text.size ≤ 100)
theorem greatRoom_c (a : Option Addr) (cap : Nat) (ds : List RStep) (w : World) (hs : SlRs w a cap ds) :
    Calls Try.prog 43 #[.slice a ds.length cap] w (GreatR ds w) := by
  have hm : ds.length ≤ maxLen := Nat.le_trans hs.1 hs.2.1
  unfold maxLen at hm
  go_enter Try.func43, Try.ntmps43
  go_wp2
  go_loop [3] (fun s3 => ∃ k : Nat, k ≤ ds.length ∧ k ≤ 200 ∧ s3 = .int .i64 k ∧ Hid (∀ i (h : i < ds.length), i < k → ds[i].Text.size ≤ 100)) (fun s3 => ds.length - (intOf s3).toNat)
  case atStart => exact ⟨0, Nat.zero_le _, by omega, rfl, Lib.hid (fun i h h2 => by omega)⟩
  case round =>
    obtain ⟨k, hk, hk2, rfl, HP⟩ := hrel
    by_cases hlt : k < ds.length
    · have hltB : decide ((k : Int) < ds.length) = true := by simp; omega
      by_cases h200 : k < 200
      · have h2B : decide ((k : Int) < 200) = true := by simp; omega
        obtain ⟨b, off, rfl, hc⟩ := hs.nth hlt
        obtain ⟨q0, q1, q2, q3, q4⟩ := hc
        clear q0 q1 q2 q3
        have HX := Lib.hid (fun (h : ds[k].Text.size ≤ 100) => show ∀ i (hi : i < ds.length), i < k + 1 → ds[i].Text.size ≤ 100 from fun i hi hik => by
          by_cases e : i < k
          · exact HP.out i hi e
          · obtain rfl : i = k := by omega
            exact h)
        generalize ds[k] = d at *
        have hlt' : (k : Int) < ds.length := by omega
        by_cases hz : 100 < d.Text.size
        · have hzB : decide (100 < (d.Text.size : Int)) = true := by simp; omega
          clear HX HP
          go_wp2
          go_ret
          exact ⟨true, rfl, rfl, fun h => by cases h⟩
        · have hzB : decide (100 < (d.Text.size : Int)) = false := by simp; omega
          have HX2 := Lib.hid (HX.out (by omega))
          clear HX HP
          go_wp2
          go_round
          case rel => exact ⟨k + 1, by omega, by omega, by go_num, HX2⟩
          case measure => simp [intOf]; omega
      · have h2B : decide ((k : Int) < 200) = false := by simp; omega
        have hbig : decide (160 < (ds.length : Int)) = true := by simp; omega
        clear HP
        go_wp2
        go_ret
        exact ⟨true, by simp, rfl, fun h => by cases h⟩
    · obtain rfl : k = ds.length := by omega
      have hltB : decide ((ds.length : Int) < ds.length) = false := by simp
      go_wp2
      go_ret
      refine ⟨_, rfl, rfl, fun h => ⟨by simp at h; omega, fun d hd => ?_⟩⟩
      obtain ⟨i, hi, rfl⟩ := List.getElem_of_mem hd
      exact HP.out i hi hi
end Go.Proofs.Ytneoeokfffnonab
