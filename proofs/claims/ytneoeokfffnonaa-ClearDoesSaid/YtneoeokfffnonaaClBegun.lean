/- clearBegun: the law's own first look at layer 5 is true. -/
import Derived.Test.YtneoeokfffnonaaMarkW
namespace Go.Proofs.Ytneoeokfffnonaa
open Go.RowKit

theorem At_n (a : Option Addr) (cap : Nat) (l : List Ch) (n : Nat) (hn : l.length = n) (place : Int) (m : Mk) (ok : Bool) (hm : (markAt l place).getD Mk.zero = m) (hok : (markAt l place).isSome = ok) (w : World) (hs : SlCh w a cap l) :
    Calls Try.prog 18 #[.slice a n cap, .int .i64 place] w fun e w' => e = .returned (.tuple #[.agg #[.bool m.Start, .int .i64 m.By, .int .i64 m.No, .int .i64 m.K], .bool ok]) ∧ Below w.heap.size w w' := by
  subst hn; subst hm; subst hok; exact At_c a cap l place w hs
theorem Slide_n (a : Option Addr) (cap : Nat) (l : List Ch) (n : Nat) (hn : l.length = n) (m : Mk) (least : Int) (s : Mk) (ok : Bool) (hm : (markAt l (slideAt least l m)).getD Mk.zero = s) (hok : (markAt l (slideAt least l m)).isSome = ok) (w : World) (hs : SlCh w a cap l) :
    Calls Try.prog 20 #[.slice a n cap, .agg #[.bool m.Start, .int .i64 m.By, .int .i64 m.No, .int .i64 m.K], .int .i64 least] w fun e w' => e = .returned (.tuple #[.agg #[.bool s.Start, .int .i64 s.By, .int .i64 s.No, .int .i64 s.K], .bool ok]) ∧ Below w.heap.size w w' := by
  subst hn; subst hm; subst hok; exact Slide_c a cap l m least w hs
theorem Place_n (a : Option Addr) (cap : Nat) (l : List Ch) (n : Nat) (hn : l.length = n) (m : Mk) (r : Int) (hr : placeOf l m = r) (w : World) (hs : SlCh w a cap l) :
    Calls Try.prog 24 #[.slice a n cap, .agg #[.bool m.Start, .int .i64 m.By, .int .i64 m.No, .int .i64 m.K]] w fun e w' => e = .returned (.int .i64 r) ∧ Below w.heap.size w w' := by
  subst hn; subst hr; exact Place_c a cap l m w hs
theorem Of_n (a : Option Addr) (cap : Nat) (l : List Ch) (n : Nat) (hn : l.length = n) (least : Int) (r : List Ch) (hr : clearOf least l = r) (k : Nat) (hk : r.length = k) (w : World) (hs : SlCh w a cap l) (hsz : l.length * 56 ≤ 140737488355328) (hnil : a = none → cap = 0) :
    Calls Try.prog 23 #[.slice a n cap, .int .i64 least] w fun e w' => ∃ a' cap', e = .returned (.slice a' k cap') ∧ OwnRow w' w.heap.size 24 7 a' k cap' (flat r) ∧ Below w.heap.size w w' := by
  subst hn; subst hr; subst hk; exact Of_c a cap l least w hs hsz hnil
theorem Done_n (c : Ch) (least : Int) (r : Bool) (hr : doneB least c = r) (w : World) :
    Calls Try.prog 21 #[.agg #[.int .u8 c.C, .int .i64 c.By, .int .i64 c.No, .int .i64 c.K, .int .i64 c.In, .int .i64 c.Out, .int .i64 c.Gone], .int .i64 least] w fun e w' => e = .returned (.bool r) ∧ Below w.heap.size w w' := by subst hr; exact Done_c c least w

def Ld : List Ch := [⟨97, 0, 1, 0, 1, 2, 1⟩, ⟨98, 0, 1, 1, 1, 0, 0⟩]

set_option maxHeartbeats 1000000 in
theorem clearBegun_c (w : World) : Calls Try.prog 14 #[] w fun e w' => e = .returned (.bool true) ∧ Below w.heap.size w w' := by
  go_enter Try.func14, Try.ntmps14
  go_upto_region 2 with fail
  obtain ⟨w0, hw0⟩ : ∃ w0, w0 = w.alloc (.cells (flat Ld).toArray 24) := ⟨_, rfl⟩
  have hb0 : Below w.heap.size w w0 := by rw [hw0]; exact (Below.refl _ _).alloc (Nat.le_refl _) _
  have hs0 : SlCh w0 (some ⟨w.heap.size, 0, none⟩) 2 Ld := by
    rw [hw0]
    refine OwnRow.slCh (base := 0) (e := 24) ⟨by simp [Ld], by simp [maxLen], by simp [Ld, flat], .inr ⟨w.heap.size, 0, _, rfl, by simp, heap_alloc_new _ _, by simp [flat, Ld], rfl⟩⟩
  change Code.wp _ _ _ _ (w.alloc (.cells (flat Ld).toArray 24))
  rw [← hw0]
  clear hw0
  go_wp2_with fail
  refine (At_n _ _ Ld 2 rfl 1 ⟨false, 0, 1, 0⟩ true rfl rfl _ hs0).mono ?_
  rintro e w1 ⟨rfl, hb1⟩
  have hs1 := hs0.below hb1
  have hx1 := hb0.trans (hb1.mono hb0.size)
  have hs1' := hs1.below ((Below.refl w1.heap.size w1).alloc (Nat.le_refl _) (.cells #[.bool false, .int .i64 0, .int .i64 1, .int .i64 0] 26))
  have hx1' := hx1.alloc hx1.size (.cells #[.bool false, .int .i64 0, .int .i64 1, .int .i64 0] 26)
  clear hs0 hb0 hb1 hs1
  go_wp2_with fail
  refine (Slide_n _ _ Ld 2 rfl ⟨false, 0, 1, 0⟩ 2 ⟨true, 0, 0, 0⟩ true (by decide +kernel) (by decide +kernel) _ hs1').mono ?_
  rintro e w2 ⟨rfl, hb2⟩
  have hs2 := (hs1'.below hb2).below ((Below.refl w2.heap.size w2).alloc (Nat.le_refl _) (.cells #[.bool true, .int .i64 0, .int .i64 0, .int .i64 0] 26))
  have hx2 := (hx1'.trans (hb2.mono hx1'.size)).alloc (hx1'.trans (hb2.mono hx1'.size)).size (.cells #[.bool true, .int .i64 0, .int .i64 0, .int .i64 0] 26)
  have hBA := hb2.alloc hb2.size (.cells #[.bool true, .int .i64 0, .int .i64 0, .int .i64 0] 26)
  have d0 := (hBA.cell (p := ⟨w1.heap.size, 0, none⟩) (by simp)).trans (World.cell?_alloc_new w1 #[.bool false, .int .i64 0, .int .i64 1, .int .i64 0] 26 0)
  have d1 := (hBA.cell (p := ⟨w1.heap.size, 1, none⟩) (by simp)).trans (World.cell?_alloc_new w1 #[.bool false, .int .i64 0, .int .i64 1, .int .i64 0] 26 1)
  have d2 := (hBA.cell (p := ⟨w1.heap.size, 2, none⟩) (by simp)).trans (World.cell?_alloc_new w1 #[.bool false, .int .i64 0, .int .i64 1, .int .i64 0] 26 2)
  have d3 := (hBA.cell (p := ⟨w1.heap.size, 3, none⟩) (by simp)).trans (World.cell?_alloc_new w1 #[.bool false, .int .i64 0, .int .i64 1, .int .i64 0] 26 3)
  clear hBA
  clear hs1' hx1' hx1
  go_wp2_with fail
  refine (Place_n _ _ Ld 2 rfl ⟨false, 0, 1, 0⟩ 1 (by decide +kernel) _ hs2).mono ?_
  rintro e w3 ⟨rfl, hb3⟩
  have hs3 := hs2.below hb3
  have hx3 := hx2.trans (hb3.mono hx2.size)
  clear hs2 hx2 hb3 hb2 d0 d1 d2 d3
  go_wp2_with fail
  refine (Of_n _ _ Ld 2 rfl 2 [⟨98, 0, 1, 1, 1, 0, 0⟩] (by decide +kernel) 1 rfl _ hs3 (by simp [Ld]) (fun h => by cases h)).mono ?_
  rintro e w4 ⟨a4, cap4, rfl, _, hb4⟩
  have hs4 := hs3.below hb4
  have hx4 := hx3.trans (hb4.mono hx3.size)
  clear hs3 hx3 hb4
  go_wp2_with fail
  refine (Of_n _ _ Ld 2 rfl 1 Ld (by decide +kernel) 2 rfl _ hs4 (by simp [Ld]) (fun h => by cases h)).mono ?_
  rintro e w5 ⟨a5, cap5, rfl, _, hb5⟩
  have hs5 := hs4.below hb5
  have hx5 := hx4.trans (hb5.mono hx4.size)
  clear hs4 hx4 hb5
  obtain ⟨b, off, ha, hc⟩ := hs5.nth (k := 0) (by simp [Ld])
  cases ha
  obtain ⟨q0, q1, q2, q3, q4, q5, q6⟩ := hc
  simp [Ld] at q0 q1 q2 q3 q4 q5 q6
  go_wp2_with fail
  refine (Done_n ⟨97, 0, 1, 0, 1, 2, 1⟩ 2 true (by decide +kernel) _).mono ?_
  rintro e w6 ⟨rfl, hb6⟩
  have hx6 := hx5.trans (hb6.mono hx5.size)
  clear hs5 hx5 hb6 q0 q1 q2 q3 q4 q5 q6
  go_wp2
  go_ret
  exact ⟨rfl, hx6⟩
end Go.Proofs.Ytneoeokfffnonaa
