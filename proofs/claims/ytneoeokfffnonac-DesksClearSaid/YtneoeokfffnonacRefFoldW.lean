/- The walks of the reference's MayDo, Do where nothing is done, and a text that comes in. -/
import Derived.Test.YtneoeokfffnonacRefDeedW
import Derived.Test.YtneoeokfffnonacPlain
import Derived.Test.YtneoeokfffnonacAllW
set_option linter.unusedVariables false
set_option linter.unusedSimpArgs false
namespace Go.Proofs.Ytneoeokfffnonac
open Go.RowKit

set_option maxHeartbeats 1000000 in
theorem MayDo_c (a : Option Addr) (cap : Nat) (l : List Ch) (d : Dd) (w : World) (hs : SlCh w a cap l) (hsz : l.length ≤ 140737488355328) (ht : d.Text.size ≤ maxLen) (hG : ∀ c ∈ l, i64ok c.Gone) :
    Calls Try.prog 106 #[.slice a l.length cap, .agg #[.int .i64 d.Kind, .int .i64 d.By, .int .i64 d.No, .int .i64 d.Seen, .int .i64 d.At, .int .i64 d.Many, .string d.Text]] w fun e w' => e = .returned (.int .i64 (mayDo l d)) ∧ Below w.heap.size w w' := by
  have hb0 := (Below.refl w.heap.size w).alloc (Nat.le_refl _) (.cells #[.int .i64 d.Kind, .int .i64 d.By, .int .i64 d.No, .int .i64 d.Seen, .int .i64 d.At, .int .i64 d.Many, .string d.Text] 24)
  have hd0 := DdAt.new w d
  have hs0 := hs.below hb0
  have hv := vis_le d.Seen d.By l
  have HTI := Lib.hid ht
  have HG := Lib.hid hG
  clear hs ht hG
  go_enter Try.func106, Try.ntmps106
  go_upto_region 1 with fail
  generalize hw0 : w.alloc (.cells #[.int .i64 d.Kind, .int .i64 d.By, .int .i64 d.No, .int .i64 d.Seen, .int .i64 d.At, .int .i64 d.Many, .string d.Text] 24) = w0 at *
  clear hw0
  obtain ⟨dlt, d0, d1, d2, d3, d4, d5, d6⟩ := hd0
  have hd0 : DdAt w0 w.heap.size d := ⟨dlt, d0, d1, d2, d3, d4, d5, d6⟩
  go_wp2_with fail
  refine (DeedFault_c d _ HTI.out).mono ?_
  rintro e w1 ⟨rfl, hb1⟩
  have hd1 := hd0.later hb1
  have hx1 := hb0.trans (hb1.mono hb0.size)
  have hs1 := hs0.below hb1
  clear hb1 hd0 d0 d1 d2 d3 d4 d5 d6 dlt hs0 hb0 HTI
  by_cases hf : deedFault d = 0
  case neg =>
    have Hf := Lib.hid (show mayDo l d = deedFault d by unfold mayDo; rw [if_neg hf])
    have hne : (deedFault d != 0) = true := by simpa using hf
    clear hf
    go_wp2
    go_ret
    exact ⟨by rw [Hf.out]; rfl, hx1⟩
  have Hf := Lib.hid (show mayDo l d = if ((vis d.Seen d.By l).length : Int) < d.At + d.Many then 1 else if 200 < l.length + d.Text.size then 9 else 0 by unfold mayDo; rw [if_pos hf])
  rw [hf]
  have hz := deedFault_zero hf
  obtain ⟨_, _, _, _, hse, hat, hat2, hq⟩ := hz
  have htx : d.Text.size ≤ 20 := by
    rcases hq with ⟨_, _, h⟩ | ⟨_, _, _, h⟩
    · unfold textOk at h; simp only [Bool.and_eq_true, decide_eq_true_eq] at h; exact h.1.2
    · omega
  have hmany : 0 ≤ d.Many ∧ d.Many ≤ 200 := by
    rcases hq with ⟨_, h, _⟩ | ⟨_, h1, h2, _⟩ <;> omega
  obtain ⟨hm1, hm2⟩ := hmany
  obtain ⟨N, hN⟩ : ∃ N, N = (vis d.Seen d.By l).length := ⟨_, rfl⟩
  rw [← hN] at hv Hf
  obtain ⟨S, hSz, hC⟩ : ∃ S : ByteArray, S.size = N ∧ ∀ w, SlCh w a cap l → Calls Try.prog 77 #[.slice a l.length cap, .int .i64 d.Seen, .int .i64 d.By] w fun e w' => e = .returned (.string S) ∧ Below w.heap.size w w' :=
    ⟨strOfNums (viewN d.Seen d.By l), by rw [strOfNums_size, viewN_length, hN], fun w hs => ViewOf_c a cap l _ _ w hs HG.out⟩
  have HC := Lib.hid hC
  clear hf hN hC hq
  obtain ⟨dl, d0, d1, d2, d3, d4, d5, d6⟩ := hd1
  have hd1 : DdAt w1 w.heap.size d := ⟨dl, d0, d1, d2, d3, d4, d5, d6⟩
  go_wp2_with fail
  refine (HC.out _ hs1).mono ?_
  rintro e w2 ⟨rfl, hb2⟩
  have HX := Lib.hid (hx1.trans (hb2.mono hx1.size))
  have hd2 := hd1.later hb2
  clear hb2 hd1 dl d0 d1 d2 d3 d4 d5 d6 hs1 hx1 HC HG
  obtain ⟨B, hB1, hB2⟩ : ∃ B : Bool, decide ((200 : Int) < (l.length : Int) + (d.Text.size : Int)) = B ∧ (if 200 < l.length + d.Text.size then (9 : Int) else 0) = if B then 9 else 0 := by
    by_cases h : 200 < l.length + d.Text.size
    · exact ⟨true, by simp; omega, by rw [if_pos h]; rfl⟩
    · exact ⟨false, by simp; omega, by rw [if_neg h]; rfl⟩
  have HB2 := Lib.hid hB2; clear hB2
  have hsum : IntKind.i64.wrap (d.At + d.Many) = d.At + d.Many := by rw [IntKind.wrap_i64]; omega
  obtain ⟨dl, d0, d1, d2, d3, d4, d5, d6⟩ := hd2
  by_cases h1 : (N : Int) < d.At
  · have Hf2 := Lib.hid (show mayDo l d = 1 by rw [Hf.out, if_pos (by omega)])
    clear Hf hB1 HB2
    go_wp2
    go_ret
    exact ⟨by rw [Hf2.out]; rfl, HX.out⟩
  · have h1B : decide ((N : Int) < d.At) = false := by simpa using h1
    by_cases h2 : (N : Int) < d.At + d.Many
    · have Hf2 := Lib.hid (show mayDo l d = 1 by rw [Hf.out, if_pos h2])
      have h2B : decide ((N : Int) < d.At + d.Many) = true := by simpa using h2
      clear Hf hB1 HB2
      go_wp2
      go_ret
      exact ⟨by rw [Hf2.out]; rfl, HX.out⟩
    · have Hf2 := Lib.hid (show mayDo l d = if B then 9 else 0 by rw [Hf.out, if_neg h2, HB2.out])
      have h2B : decide ((N : Int) < d.At + d.Many) = false := by simpa using h2
      clear Hf HB2
      cases B
      all_goals
        go_wp2
        go_ret
        exact ⟨by rw [Hf2.out]; rfl, HX.out⟩

theorem RDo_no (a : Option Addr) (cap : Nat) (l : List Ch) (d : Dd) (number : Int) (w : World) (hs : SlCh w a cap l) (hsz : l.length ≤ 140737488355328) (ht : d.Text.size ≤ maxLen) (hG : ∀ c ∈ l, i64ok c.Gone) (h : mayDo l d ≠ 0 ∨ number < 1) :
    Calls Try.prog 78 #[.slice a l.length cap, .agg #[.int .i64 d.Kind, .int .i64 d.By, .int .i64 d.No, .int .i64 d.Seen, .int .i64 d.At, .int .i64 d.Many, .string d.Text], .int .i64 number] w fun e w' => e = .returned (.tuple #[.slice none 0 0, .int .i64 (doF l d number).2]) ∧ Below w.heap.size w w' := by
  have hb0 := (Below.refl w.heap.size w).alloc (Nat.le_refl _) (.cells #[.int .i64 d.Kind, .int .i64 d.By, .int .i64 d.No, .int .i64 d.Seen, .int .i64 d.At, .int .i64 d.Many, .string d.Text] 24)
  have hd0 := DdAt.new w d
  have hs0 := hs.below hb0
  have HTI := Lib.hid ht
  have HG := Lib.hid hG
  clear hs ht hG
  by_cases hmay : mayDo l d = 0
  · have hn : number < 1 := by rcases h with h | h; exact absurd hmay h; exact h
    have Hf := Lib.hid (show (doF l d number).2 = 1 by unfold doF; rw [if_pos hmay, if_pos hn])
    have HM := Lib.hid hmay
    clear hmay h
    go_enter Try.func78, Try.ntmps78
    go_upto_region 1 with fail
    generalize hw0 : w.alloc (.cells #[.int .i64 d.Kind, .int .i64 d.By, .int .i64 d.No, .int .i64 d.Seen, .int .i64 d.At, .int .i64 d.Many, .string d.Text] 24) = w0 at *
    clear hw0
    obtain ⟨dlt, d0, d1, d2, d3, d4, d5, d6⟩ := hd0
    go_wp2_with fail
    refine (MayDo_c a cap l d _ hs0 hsz HTI.out HG.out).mono ?_
    rintro e w1 ⟨rfl, hb1⟩
    rw [HM.out]
    have hx1 := hb0.trans (hb1.mono hb0.size)
    go_wp2
    go_ret2
    exact ⟨by rw [Hf.out]; rfl, hx1⟩
  · have Hf := Lib.hid (show (doF l d number).2 = mayDo l d by unfold doF; rw [if_neg hmay])
    have hne : (mayDo l d != 0) = true := by simpa using hmay
    clear hmay h
    go_enter Try.func78, Try.ntmps78
    go_upto_region 1 with fail
    generalize hw0 : w.alloc (.cells #[.int .i64 d.Kind, .int .i64 d.By, .int .i64 d.No, .int .i64 d.Seen, .int .i64 d.At, .int .i64 d.Many, .string d.Text] 24) = w0 at *
    clear hw0
    obtain ⟨dlt, d0, d1, d2, d3, d4, d5, d6⟩ := hd0
    go_wp2_with fail
    refine (MayDo_c a cap l d _ hs0 hsz HTI.out HG.out).mono ?_
    rintro e w1 ⟨rfl, hb1⟩
    have hx1 := hb0.trans (hb1.mono hb0.size)
    go_wp2
    go_ret2
    exact ⟨by rw [Hf.out]; rfl, hx1⟩

end Go.Proofs.Ytneoeokfffnonac
