/- More that the laws of desks share: one writer's pointer through steps; what a deed more does to the text; a number taken modulo. -/
import Derived.Test.YtneoeokfffnonacDkL
set_option linter.unusedVariables false
set_option linter.unusedSimpArgs false
namespace Go.Proofs.Ytneoeokfffnonac
open Go.RowKit
theorem mod_k (x : Int) (n : Nat) (hn : n ≤ 1000) : ∃ K : Nat, wrap64 ((IntKind.u64.wrap x).tmod ((n : Int) + 1)) = (K : Int) ∧ K ≤ n := by
  have hu : 0 ≤ IntKind.u64.wrap x := by
    have : IntKind.u64.wrap x = x % 18446744073709551616 := by simp [IntKind.wrap, IntKind.signed, IntKind.bits]
    rw [this]; exact Int.emod_nonneg _ (by decide)
  rw [Int.tmod_eq_emod_of_nonneg hu]
  have h1 := Int.emod_nonneg (IntKind.u64.wrap x) (show (n : Int) + 1 ≠ 0 by omega)
  have h2 := Int.emod_lt_of_pos (IntKind.u64.wrap x) (show (0 : Int) < (n : Int) + 1 by omega)
  generalize IntKind.u64.wrap x % ((n : Int) + 1) = q at *
  refine ⟨q.toNat, ?_, by omega⟩
  unfold wrap64
  omega
theorem mod_4 (x : Int) : ∃ K : Nat, wrap64 ((IntKind.u64.wrap x).tmod 4) = (K : Int) ∧ K < 4 := by
  obtain ⟨K, h1, h2⟩ := mod_k x 3 (by omega)
  exact ⟨K, h1, by omega⟩
/-- A deed that puts in, done to a text. -/
theorem spl_put (V : List Int) (A : Nat) (t : ByteArray) (me nx sn : Int) : spl V ⟨1, me, nx, sn, A, 0, t⟩ = V.take A ++ bytesOf t ++ V.drop A := by
  unfold spl; rw [if_pos rfl]; simp only [Int.toNat_natCast]
theorem spl_str (V : List Int) (A : Nat) (t : ByteArray) (me nx sn : Int) : strOfNums (spl V ⟨1, me, nx, sn, A, 0, t⟩) = (strOfNums V).extract 0 A ++ t ++ (strOfNums V).extract A V.length := by
  rw [spl_put]; exact splice_str V A t
theorem spl_end (V : List Int) (t : ByteArray) (me nx sn : Int) : strOfNums (spl V ⟨1, me, nx, sn, V.length, 0, t⟩) = strOfNums V ++ t := by
  rw [spl_put, List.take_length, List.drop_length, List.append_nil, ← strOfNums_append, strOfNums_bytes]
section
variable {w : World} {base g : Nat}
/-- As DW, and the writer K (if it is there) is where it was. -/
def DWg (w : World) (base g : Nat) (d : DkM) (K gx : Nat) (w' : World) : Prop := (∃ F gw, DkAt w' base F g gw d ∧ gw K = gx) ∧ Below base w w'
theorem DWg.dw {d : DkM} {K gx : Nat} {w1 : World} (h : DWg w base g d K gx w1) : DW w base g d w1 := by
  obtain ⟨⟨F, gw, h1, _⟩, h2⟩ := h; exact ⟨⟨F, gw, h1⟩, h2⟩
theorem DWg.later {d : DkM} {K gx : Nat} {w1 w2 : World} (h : DWg w base g d K gx w1) (hl : Below w1.heap.size w1 w2) : DWg w base g d K gx w2 := by
  obtain ⟨⟨F, gw, h1, e⟩, h2⟩ := h
  exact ⟨⟨F, gw, h1.later hl, e⟩, h2.trans (hl.mono h1.base_le)⟩
theorem DWg.wr {d : DkM} {K gx : Nat} {w1 : World} (h : DWg w base g d K gx w1) (ho : d.Ok) {m : WM} (hw : d.writer (K : Int) = some m) : (∃ F gw, DkAt w1 base F g gw d ∧ d.ptr gw (K : Int) = (.pointer (some ⟨gx, 0, none⟩))) ∧ ∃ FW, WrAt w1 base FW gx m.v := by
  obtain ⟨⟨F, gw, h1, e⟩, _⟩ := h
  obtain ⟨hx, hme, hW, t, hin⟩ := ho.of_writer hw
  obtain ⟨FW, _, _, hwr, _⟩ := h1.wrZ (toNat_lt hx).1 hW
  rw [Int.toNat_natCast, e] at hwr
  exact ⟨⟨F, gw, h1, by rw [DkM.ptr_some hw, Int.toNat_natCast, e]⟩, FW, hwr⟩
theorem Do_DWg {d1 : DkM} {K gx : Nat} {w1 : World} (h : DWg w base g d1 K gx w1) (ho : d1.Ok) (hs : d1.Sm 1000) (hK : d1.W K ≠ none) (x : DStep) (hx : x.ok') :
    Calls Try.prog 42 #[.pointer (some ⟨g, 0, none⟩), .agg #[.int .i64 x.Kind, .int .i64 x.W, .int .i64 x.At, .int .i64 x.Many, .string x.Text]] w1 fun e w' => e = .returned (.int .i64 (d1.step x).2) ∧ DWg w base g (d1.step x).1 K gx w' := by
  obtain ⟨⟨F, gw, h1, e⟩, h2⟩ := h
  refine (DDo_c h1 ho hs x hx).mono ?_
  rintro e w2 ⟨e1, F2, gw2, k1, k2, _, k4⟩
  exact ⟨e1, ⟨F2, gw2, k1, by rw [k4 K hK]; assumption⟩, h2.trans (h1.below k2)⟩
theorem DW.toG {d : DkM} {K : Nat} {w1 : World} (h : DW w base g d w1) : ∃ gx, DWg w base g d K gx w1 := by
  obtain ⟨⟨F, gw, h1⟩, h2⟩ := h
  exact ⟨gw K, ⟨F, gw, h1, rfl⟩, h2⟩
theorem putS_step {d : DkM} {k : Nat} {m : WM} (h : d.writer (k : Int) = some m) (A n : Int) (t : ByteArray) : d.step ⟨2, k, A, n, t⟩ = d.put m (m.deed 1 A 0 t) := by
  unfold DkM.step
  rw [if_neg (by show ¬ ((2 : Int) < 1 ∨ 7 < (2 : Int)); omega), if_neg (by show ¬ ((2 : Int) = 1); omega)]
  show (match d.writer (k : Int) with | none => _ | some m => _) = _
  rw [h]
  rfl
end
end Go.Proofs.Ytneoeokfffnonac
