/- The walk of the law DeedDoes. -/
import Derived.Test.YtneoeokfffnonadDoorDeedG
set_option linter.unusedVariables false
set_option linter.unusedSimpArgs false
namespace Go.Proofs.YtneoeokfffnonadDoor
open Go.RowKit Go

set_option maxRecDepth 100000 in
set_option maxHeartbeats 1000000 in
theorem DeedDoes_c (d : Dd) (s : ByteArray) (w : World) (hd : d.ok) (hs : s.size ≤ maxLen) (hk : LibK w) :
    Calls Tryd.prog 3 #[.agg #[.int .i64 d.Kind, .int .i64 d.By, .int .i64 d.No, .int .i64 d.Seen, .int .i64 d.At, .int .i64 d.Many, .string d.Text], .string s] w fun e w' => e = .returned (.bool true) ∧ Below w.heap.size w w' := by
  have hb0 := (Below.refl w.heap.size w).alloc (Nat.le_refl _) (.cells #[.int .i64 d.Kind, .int .i64 d.By, .int .i64 d.No, .int .i64 d.Seen, .int .i64 d.At, .int .i64 d.Many, .string d.Text] 23)
  have HB0 := Lib.hid hb0
  have HX0 := Lib.hid (DdAt.new w d)
  have HK := Lib.hid hk
  have HD := Lib.hid hd
  clear hk hd hb0
  go_enter Tryd.func3, Tryd.ntmps3
  go_upto_region 1 with fail
  generalize hw0 : w.alloc _ = w0
  have hw0' : w.alloc (.cells #[.int .i64 d.Kind, .int .i64 d.By, .int .i64 d.No, .int .i64 d.Seen, .int .i64 d.At, .int .i64 d.Many, .string d.Text] 23) = w0 := hw0
  rw [hw0'] at HB0 HX0
  clear hw0 hw0'
  generalize w.heap.size = X at HX0 ⊢
  go_wp2_with fail
  refine (deedBegun_c w0 (HK.out.later HB0.out)).mono ?_
  rintro e w1 ⟨rfl, hb1⟩
  have HB1 := Lib.hid (HB0.out.trans (hb1.mono HB0.out.size))
  have HX1 := Lib.hid (HX0.out.later hb1)
  clear hb1 HB0 HX0
  obtain ⟨_, x0, x1, x2, x3, x4, x5, x6⟩ := HX1.out
  by_cases hbig : d.Text.size ≤ 1000 ∧ s.size ≤ 1000
  case neg =>
    by_cases h1 : d.Text.size ≤ 1000
    · have h2 : 1000 < s.size := by omega
      have h2' : decide ((1000 : Int) < (s.size : Int)) = true := decide_eq_true (by omega)
      have h1' : decide ((1000 : Int) < (d.Text.size : Int)) = false := decide_eq_false (by omega)
      go_wp2
      go_ret
      exact ⟨rfl, HB1.out⟩
    · have h1' : decide ((1000 : Int) < (d.Text.size : Int)) = true := decide_eq_true (by omega)
      go_wp2
      go_ret
      exact ⟨rfl, HB1.out⟩
  obtain ⟨hb1, hb2⟩ := hbig
  have h1' : decide ((1000 : Int) < (d.Text.size : Int)) = false := decide_eq_false (by omega)
  have h2' : decide ((1000 : Int) < (s.size : Int)) = false := decide_eq_false (by omega)
  have HS := Lib.hid hb2
  clear hs
  go_wp2_with fail
  refine (Line_c d w1 HD.out (HK.out.later HB1.out)).mono ?_
  rintro e w2 ⟨rfl, hb2'⟩
  have HB2 := Lib.hid (HB1.out.trans (hb2'.mono HB1.out.size))
  have HX2 := Lib.hid (HX1.out.later hb2')
  clear hb2' HB1 HX1 x0 x1 x2 x3 x4 x5 x6 h1' h2' hb1 hb2
  obtain ⟨_, x0, x1, x2, x3, x4, x5, x6⟩ := HX2.out
  obtain ⟨T, hT⟩ : ∃ T : ByteArray, T = ⟨(lineF d).1.toArray⟩ := ⟨_, rfl⟩
  obtain ⟨c, hc⟩ : ∃ c, c = (lineF d).2 := ⟨_, rfl⟩
  have HLO := Lib.hid (fun W (h : LibK W) => show Calls Tryd.prog 8 #[.agg #[.int .i64 d.Kind, .int .i64 d.By, .int .i64 d.No, .int .i64 d.Seen, .int .i64 d.At, .int .i64 d.Many, .string d.Text]] W fun e w' => e = .returned (.tuple #[.string T, .int .i64 c]) ∧ Below W.heap.size W w' from by
    rw [hT, hc]; exact LineOf_c d W HD.out h)
  rw [← hT, ← hc]
  clear hT hc
  go_wp2_with fail
  refine (HLO.out w2 (HK.out.later HB2.out)).mono ?_
  rintro e w3 ⟨rfl, hb3⟩
  have HB3 := Lib.hid (HB2.out.trans (hb3.mono HB2.out.size))
  have HX3 := Lib.hid (HX2.out.later hb3)
  clear hb3 HB2 HX2 x0 x1 x2 x3 x4 x5 x6 HLO
  obtain ⟨p, hp⟩ : ∃ p, p = parseF s.data.toList := ⟨_, rfl⟩
  have HPA := Lib.hid (fun W (h : LibK W) => show Calls Tryd.prog 9 #[.string s] W fun e w' => e = .returned (.tuple #[.agg #[.int .i64 (p.1).Kind, .int .i64 (p.1).By, .int .i64 (p.1).No, .int .i64 (p.1).Seen, .int .i64 (p.1).At, .int .i64 (p.1).Many, .string (p.1).Text], .int .i64 p.2]) ∧ Below W.heap.size W w' from by
    rw [hp]; exact Parse_c s (by have := HS.out; omega) W h)
  have HPB := Lib.hid (fun W (h : LibK W) => show Calls Tryd.prog 10 #[.string s] W fun e w' => e = .returned (.tuple #[.agg #[.int .i64 (p.1).Kind, .int .i64 (p.1).By, .int .i64 (p.1).No, .int .i64 (p.1).Seen, .int .i64 (p.1).At, .int .i64 (p.1).Many, .string (p.1).Text], .int .i64 p.2]) ∧ Below W.heap.size W w' from by
    rw [hp]; exact DeedOf_c s (by have := HS.out; omega) W h)
  clear hp
  obtain ⟨y, pc⟩ := p
  simp only at HPA HPB
  go_wp2_with fail
  refine (HPA.out w3 (HK.out.later HB3.out)).mono ?_
  rintro e w4 ⟨rfl, hb4⟩
  have HB4 := Lib.hid (HB3.out.trans (hb4.mono HB3.out.size))
  have HX4 := Lib.hid (HX3.out.later hb4)
  clear hb4 HB3 HX3
  go_upto_region 8 with fail
  generalize hw5 : w4.alloc _ = w5
  have hw5' : w4.alloc (.cells #[.int .i64 y.Kind, .int .i64 y.By, .int .i64 y.No, .int .i64 y.Seen, .int .i64 y.At, .int .i64 y.Many, .string y.Text] 23) = w5 := hw5
  have hb5 : Below w4.heap.size w4 w5 := by rw [← hw5']; exact (Below.refl w4.heap.size w4).alloc (Nat.le_refl _) _
  have HY5 := Lib.hid (show DdAt w5 w4.heap.size y from by rw [← hw5']; exact DdAt.new w4 y)
  have HB5 := Lib.hid (HB4.out.trans (hb5.mono HB4.out.size))
  have HX5 := Lib.hid (HX4.out.later hb5)
  clear hw5 hw5' hb5 HB4 HX4
  generalize w4.heap.size = Y at HY5 ⊢
  go_wp2_with fail
  refine (HPB.out w5 (HK.out.later HB5.out)).mono ?_
  rintro e w6 ⟨rfl, hb6⟩
  have HB6 := Lib.hid (HB5.out.trans (hb6.mono HB5.out.size))
  have HX6 := Lib.hid (HX5.out.later hb6)
  have HY6 := Lib.hid (HY5.out.later hb6)
  clear hb6 HB5 HX5 HY5
  go_upto_region 9 with fail
  generalize hw7 : w6.alloc _ = w7
  have hw7' : w6.alloc (.cells #[.int .i64 y.Kind, .int .i64 y.By, .int .i64 y.No, .int .i64 y.Seen, .int .i64 y.At, .int .i64 y.Many, .string y.Text] 23) = w7 := hw7
  have hb7 : Below w6.heap.size w6 w7 := by rw [← hw7']; exact (Below.refl w6.heap.size w6).alloc (Nat.le_refl _) _
  have HZ7 := Lib.hid (show DdAt w7 w6.heap.size y from by rw [← hw7']; exact DdAt.new w6 y)
  have HB7 := Lib.hid (HB6.out.trans (hb7.mono HB6.out.size))
  have HX7 := Lib.hid (HX6.out.later hb7)
  have HY7 := Lib.hid (HY6.out.later hb7)
  clear hw7 hw7' hb7 HB6 HX6 HY6
  generalize w6.heap.size = Z at HZ7 ⊢
  obtain ⟨_, x0, x1, x2, x3, x4, x5, x6⟩ := HX7.out
  obtain ⟨_, y0, y1, y2, y3, y4, y5, y6⟩ := HY7.out
  obtain ⟨_, z0, z1, z2, z3, z4, z5, z6⟩ := HZ7.out
  have X0 := later_cell x0
  have X1 := later_cell x1
  have X2 := later_cell x2
  have X3 := later_cell x3
  have X4 := later_cell x4
  have X5 := later_cell x5
  have X6 := later_cell x6
  have Y0 := later_cell y0
  have Y1 := later_cell y1
  have Y2 := later_cell y2
  have Y3 := later_cell y3
  have Y4 := later_cell y4
  have Y5 := later_cell y5
  have Y6 := later_cell y6
  have Z0 := later_cell z0
  have Z1 := later_cell z1
  have Z2 := later_cell z2
  have Z3 := later_cell z3
  have Z4 := later_cell z4
  have Z5 := later_cell z5
  have Z6 := later_cell z6
  have hL : ∀ q : Lt w7, Later w7 q.v := fun q => q.h
  clear x0 x1 x2 x3 x4 x5 x6 y0 y1 y2 y3 y4 y5 y6 z0 z1 z2 z3 z4 z5 z6
  refine wp_region_x [] [] [0, 1, 2, 3, 4, 5, 6, 7, 8, 9, 10, 11, 12, 13, 14, 15, 16, 17, 18, 19, 20, 21, 22, 23, 24, 25] (by kernel_rfl) (by kernel_rfl) ?_
  iterate 1 (refine wpX_step rfl (fun K hK => ?_); go_simp; refine hK _ _ ?_; clear hK K)
  refine wpX_step rfl (fun K hK => ?_)
  go_simp
  refine ⟨_, fun p => quietM p (DCheck_c d p.v HD.out.2.2.2.2.2.2), hK _ _ ?_⟩
  clear hK K
  iterate 1 (refine wpX_step rfl (fun K hK => ?_); go_simp; refine hK _ _ ?_; clear hK K)
  refine wpX_step rfl (fun K hK => ?_)
  go_simp
  refine ⟨_, fun p => quietM p (DeedFault_c d p.v HD.out.2.2.2.2.2.2), hK _ _ ?_⟩
  clear hK K
  generalize deedFault d = df
  iterate 14 (refine wpX_step rfl (fun K hK => ?_); go_simp; refine hK _ _ ?_; clear hK K)
  iterate 8 (refine wpX_step rfl (fun K hK => ?_); go_simp; refine hK _ _ ?_; clear hK K)
  refine wpX_nil ?_
  intro w8 hL8
  have HB8 := Lib.hid (HB7.out.trans (hL8.mono HB7.out.size))
  clear hL8
  go_wp2
  go_ret
  exact ⟨rfl, HB8.out⟩
end Go.Proofs.YtneoeokfffnonadDoor
