/- charsBegun: the law's own first look at layer 1 is true. -/
import Derived.Test.YtneoeokfffnonaaCheckW
namespace Go.Proofs.Ytneoeokfffnonaa
open Go.RowKit

def Lc : List Ch := [⟨97, 0, 1, 0, 1, 0, 0⟩, ⟨98, 1, 1, 0, 1073741824, 0, 0⟩, ⟨99, 2, 1, 0, 2, 3, 1⟩]
theorem Lc_1 : viewN 2 0 Lc = [97] := by decide +kernel
theorem Lc_2 : viewN 2 1 Lc = [97, 98, 99] := by decide +kernel
theorem Lc_3 : viewN 3 2 Lc = [97] := by decide +kernel
theorem Lc_4 : behind 2 1 Lc 3 = 3 := by decide +kernel
theorem Lc_5 : listFault Lc 3 = 0 := by decide +kernel
theorem Lc_6 : find Lc ⟨99, 2, 1, 0, 2, 3, 1⟩ = 2 := by decide +kernel

theorem Behind_n (a : Option Addr) (cap : Nat) (l : List Ch) (m : Nat) (hm : l.length = m) (seen by_ n : Int) (r : Int) (hr : behind seen by_ l n = r) (w : World) (hs : SlCh w a cap l) (hsz : l.length ≤ 140737488355328) (hn : -9223372036854775808 ≤ n) (hn2 : n < 9223372036854775808) :
    Calls Try.prog 35 #[.slice a m cap, .int .i64 seen, .int .i64 by_, .int .i64 n] w fun e w' => e = .returned (.int .i64 r) ∧ Below w.heap.size w w' := by
  subst hm; subst hr; exact Behind_c a cap l seen by_ n w hs hsz hn hn2
theorem Check_n (a : Option Addr) (cap : Nat) (l : List Ch) (m : Nat) (hm : l.length = m) (log r : Int) (hr : listFault l log = r) (w : World) (hs : SlCh w a cap l) :
    Calls Try.prog 38 #[.slice a m cap, .int .i64 log] w fun e w' => e = .returned (.int .i64 r) ∧ Below w.heap.size w w' := by
  subst hm; subst hr; exact Check_c a cap l log w hs
theorem Find_m (a : Option Addr) (cap : Nat) (l : List Ch) (c : Ch) (m : Nat) (hm : l.length = m) (r : Int) (hr : find l c = r) (w : World) (hs : SlCh w a cap l) :
    Calls Try.prog 37 #[.slice a m cap, .agg #[.int .u8 c.C, .int .i64 c.By, .int .i64 c.No, .int .i64 c.K, .int .i64 c.In, .int .i64 c.Out, .int .i64 c.Gone]] w fun e w' => e = .returned (.int .i64 r) ∧ Below w.heap.size w w' := by
  subst hm; subst hr; exact Find_c a cap l c w hs

set_option maxHeartbeats 1000000 in
theorem charsBegun_c (w : World) : Calls Try.prog 25 #[] w fun e w' => e = .returned (.bool true) ∧ Below w.heap.size w w' := by
  go_enter Try.func25, Try.ntmps25
  go_upto_region 2 with fail
  obtain ⟨w0, hw0⟩ : ∃ w0, w0 = w.alloc (.cells (flat Lc).toArray 24) := ⟨_, rfl⟩
  have hb0 : Below w.heap.size w w0 := by rw [hw0]; exact (Below.refl _ _).alloc (Nat.le_refl _) _
  have hs0 : SlCh w0 (some ⟨w.heap.size, 0, none⟩) 3 Lc := by
    rw [hw0]
    refine OwnRow.slCh (base := 0) (e := 24) ⟨by simp [Lc], by simp [maxLen], by simp [Lc, flat], .inr ⟨w.heap.size, 0, _, rfl, by simp, heap_alloc_new _ _, by simp [flat, Lc], rfl⟩⟩
  change Code.wp _ _ _ _ (w.alloc (.cells (flat Lc).toArray 24))
  rw [← hw0]
  clear hw0
  go_wp2_with fail
  refine (View_n _ _ Lc 3 rfl _ _ _ Lc_1 1 rfl _ hs0 (by simp [Lc])).mono ?_
  rintro e w1 ⟨a1, cap1, rfl, ho1, hb1⟩
  have hs1 := hs0.below hb1
  have hx1 := hb0.trans (hb1.mono hb0.size)
  have hv1 := conv_view ho1 ⟨#[97]⟩ rfl
  clear hs0 hb0 hb1 ho1
  go_wp2_with fail
  refine (View_n _ _ Lc 3 rfl _ _ _ Lc_2 3 rfl _ hs1 (by simp [Lc])).mono ?_
  rintro e w2 ⟨a2, cap2, rfl, ho2, hb2⟩
  have hs2 := hs1.below hb2
  have hx2 := hx1.trans (hb2.mono hx1.size)
  have hv2 := conv_view ho2 ⟨#[97, 98, 99]⟩ rfl
  clear hs1 hx1 hb2 ho2 hv1
  go_wp2_with fail
  refine (View_n _ _ Lc 3 rfl _ _ _ Lc_3 1 rfl _ hs2 (by simp [Lc])).mono ?_
  rintro e w3 ⟨a3, cap3, rfl, ho3, hb3⟩
  have hs3 := hs2.below hb3
  have hx3 := hx2.trans (hb3.mono hx2.size)
  have hv3 := conv_view ho3 ⟨#[97]⟩ rfl
  clear hs2 hx2 hb3 ho3 hv2
  go_wp2_with fail
  refine (Behind_n _ _ Lc 3 rfl _ _ _ _ Lc_4 _ hs3 (by simp [Lc]) (by omega) (by omega)).mono ?_
  rintro e w4 ⟨rfl, hb4⟩
  have hs4 := hs3.below hb4
  have hx4 := hx3.trans (hb4.mono hx3.size)
  clear hs3 hx3 hb4 hv3
  go_wp2_with fail
  refine (Check_n _ _ Lc 3 rfl _ _ Lc_5 _ hs4).mono ?_
  rintro e w5 ⟨rfl, hb5⟩
  have hs5 := hs4.below hb5
  have hx5 := hx4.trans (hb5.mono hx4.size)
  clear hs4 hx4 hb5
  obtain ⟨b, off, ha, hc⟩ := hs5.nth (k := 2) (by simp [Lc])
  cases ha
  obtain ⟨q0, q1, q2, q3, q4, q5, q6⟩ := hc
  simp [Lc] at q0 q1 q2 q3 q4 q5 q6
  go_wp2_with fail
  refine (Find_m _ _ Lc ⟨99, 2, 1, 0, 2, 3, 1⟩ 3 rfl _ Lc_6 _ hs5).mono ?_
  rintro e w6 ⟨rfl, hb6⟩
  have hx6 := hx5.trans (hb6.mono hx5.size)
  clear hs5 hx5 hb6 q0 q1 q2 q3 q4 q5 q6
  have hw : isWriter 3 = true := rfl
  go_wp2_with (go_at_call 31; refine (Writer_c _ _).mono ?_; rintro e w' ⟨rfl, rfl⟩)
  go_ret
  exact ⟨rfl, hx6⟩
end Go.Proofs.Ytneoeokfffnonaa
