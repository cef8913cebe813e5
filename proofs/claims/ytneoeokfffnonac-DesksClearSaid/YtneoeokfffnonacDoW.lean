/- The walks of layer 3: place, taken, Do. -/
import Derived.Test.YtneoeokfffnonacFoldW
import Derived.Test.YtneoeokfffnonacPlain
import Derived.Test.YtneoeokfffnonacClearW
set_option linter.unusedVariables false
set_option linter.unusedSimpArgs false
namespace Go.Proofs.Ytneoeokfffnonac
open Go.RowKit

theorem behind_nonneg (seen by_ : Int) (l : List Ch) (n : Int) (h0 : 0 ≤ n) (h : n ≤ ((vis seen by_ l).length : Int)) : ∃ b : Nat, behind seen by_ l n = (b : Int) ∧ b ≤ l.length := by
  by_cases hz : n = 0
  · subst hz; exact ⟨0, by unfold behind; rw [if_pos rfl]; rfl, Nat.zero_le _⟩
  · obtain ⟨m, rfl⟩ := Int.eq_ofNat_of_zero_le h0
    obtain ⟨k, hk, he, _⟩ := behind_pos seen by_ l m (by omega) (by omega)
    exact ⟨k + 1, by rw [he]; omega, by omega⟩

set_option maxHeartbeats 1000000 in
theorem place_c (a : Option Addr) (cap : Nat) (l : List Ch) (d : Dd) (w : World) (hs : SlCh w a cap l) (hsz : l.length ≤ 140737488355328) (h0 : 0 ≤ d.At) (hat : d.At ≤ ((vis d.Seen d.By l).length : Int)) :
    Calls Try.prog 87 #[.slice a l.length cap, .agg #[.int .i64 d.Kind, .int .i64 d.By, .int .i64 d.No, .int .i64 d.Seen, .int .i64 d.At, .int .i64 d.Many, .string d.Text]] w fun e w' => e = .returned (.int .i64 ((putAt l d : Nat) : Int)) ∧ Below w.heap.size w w' := by
  have hb0 := (Below.refl w.heap.size w).alloc (Nat.le_refl _) (.cells #[.int .i64 d.Kind, .int .i64 d.By, .int .i64 d.No, .int .i64 d.Seen, .int .i64 d.At, .int .i64 d.Many, .string d.Text] 24)
  have hd0 := DdAt.new w d
  have hs0 := hs.below hb0
  have hv := vis_le d.Seen d.By l
  have hlc := hs.1
  obtain ⟨b, hbe, hbl⟩ := behind_nonneg d.Seen d.By l d.At h0 hat
  have Hf := Lib.hid (show putAt l d = skip d.By l b by unfold putAt; rw [hbe]; rfl)
  have HBE := Lib.hid hbe; clear hbe hs
  go_enter Try.func87, Try.ntmps87
  go_upto_region 1 with fail
  generalize hw0 : w.alloc (.cells #[.int .i64 d.Kind, .int .i64 d.By, .int .i64 d.No, .int .i64 d.Seen, .int .i64 d.At, .int .i64 d.Many, .string d.Text] 24) = w0 at *
  clear hw0
  obtain ⟨dlt, d0, d1, d2, d3, d4, d5, d6⟩ := hd0
  have hd0 : DdAt w0 w.heap.size d := ⟨dlt, d0, d1, d2, d3, d4, d5, d6⟩
  go_wp2_with fail
  refine (Behind_c a cap l d.Seen d.By d.At _ hs0 hsz (by omega) (by omega)).mono ?_
  rintro e w1 ⟨rfl, hb1⟩
  rw [HBE.out]
  have hd1 := hd0.later hb1
  have hx1 := hb0.trans (hb1.mono hb0.size)
  have hs1 := hs0.below hb1
  clear hb1 hd0 d0 d1 d2 d3 d4 d5 d6 dlt hs0 hb0 HBE h0 hat
  go_wp2
  go_loopw [5] (fun s5 wr => ∃ k : Nat, k ≤ l.length ∧ s5 = .int .i64 k ∧ Hid (skip d.By l k = skip d.By l b) ∧ Below w1.heap.size w1 wr) (fun s5 _ => l.length - (intOf s5).toNat)
  case atStart => exact ⟨b, hbl, rfl, Lib.hid rfl, Below.refl _ _⟩
  case round =>
    obtain ⟨k, hk, rfl, HS, hb⟩ := hrel
    obtain ⟨dl, d0, d1, d2, d3, d4, d5, d6⟩ := hd1.later hb
    clear d0 d2 d3 d4 d5 d6
    have HX := Lib.hid (hx1.trans (hb.mono hx1.size))
    by_cases hlt : k < l.length
    · obtain ⟨bb, off, rfl, hc⟩ := hs1.nth hlt
      obtain ⟨q0, q1, q2, q3, q4, q5, q6⟩ := hc.below hb hc.lt
      clear q0 q2 q3 q5 q6 hc
      have HK := Lib.hid (skip_step d.By l k hlt)
      have hlt' : (k : Int) < l.length := by omega
      have hk0 : (0 : Int) ≤ (k : Int) := by omega
      have hltB : decide ((k : Int) < (l.length : Int)) = true := by simp; omega
      generalize hx : l[k] = x at *
      clear hx
      have hinc : IntKind.i64.wrap ((k : Int) + 1) = (k : Int) + 1 := by rw [IntKind.wrap_i64]; omega
      cases h1 : (x.In == 1073741824)
      · have HS2 := Lib.hid (show skip d.By l b = k by rw [← HS.out, HK.out, if_neg]; unfold openOther; rw [h1]; simp)
        clear HK HS
        go_upto_region 2 with fail
        go_quiet (fail)
        go_wp2
        go_ret
        exact ⟨by rw [Hf.out, HS2.out]; rfl, bl_drewN HX.out _⟩
      · cases h2 : (x.By != d.By)
        · have HS2 := Lib.hid (show skip d.By l b = k by rw [← HS.out, HK.out, if_neg]; unfold openOther; rw [h1, h2]; simp)
          clear HK HS
          go_upto_region 2 with fail
          go_quiet (fail)
          go_wp2
          go_ret
          exact ⟨by rw [Hf.out, HS2.out]; rfl, bl_drewN HX.out _⟩
        · have HS2 := Lib.hid (show skip d.By l (k + 1) = skip d.By l b by rw [← HS.out, HK.out, if_pos]; unfold openOther; rw [h1, h2]; rfl)
          clear HK HS
          go_upto_region 2 with fail
          go_quiet (fail)
          go_wp2
          exact ⟨⟨k + 1, by omega, by go_num, HS2, bl_drewN hb _⟩, by simp [intOf]; omega⟩
    · obtain rfl : k = l.length := by omega
      have HS2 := Lib.hid (show skip d.By l b = l.length by rw [← HS.out]; exact skip_end _ _ _ (Nat.le_refl _))
      have hltB : decide ((l.length : Int) < (l.length : Int)) = false := by simp
      clear HS
      go_upto_region 2 with fail
      go_quiet (fail)
      go_wp2
      go_ret
      exact ⟨by rw [Hf.out, HS2.out]; rfl, bl_drewN HX.out _⟩
end Go.Proofs.Ytneoeokfffnonac
