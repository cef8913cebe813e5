/- The walk of logBegun. -/
import Derived.Test.YtneoeokfffnonabStepW2
import Derived.Test.YtneoeokfffnonabLsW
set_option linter.unusedVariables false
set_option linter.unusedSimpArgs false
namespace Go.Proofs.Ytneoeokfffnonab
open Go.RowKit

def dA : Dd := ⟨1, 1, 1, 0, 0, 0, ⟨#[97]⟩⟩
def mA1 : LogM := (LogM.new.joinF 1).1
def mA2 : LogM := (mA1.takeF dA).1
theorem mA_join : (LogM.new.joinF 1).2 = (1, 0) := by decide +kernel
theorem mA_take : (mA1.takeF dA).2 = (1, 0) := by decide +kernel
theorem mA_again : (mA2.takeF dA).2 = (0, 7) := by decide +kernel
theorem mA_text : textF mA2.chars = [97] := by decide +kernel
theorem mA_least : mA2.least = 0 := by decide +kernel
theorem mA_here : mA2.hereF 1 = true := by decide +kernel
theorem mA1_ok : mA1.Ok := LogM.new_ok.join 1
theorem mA2_ok : mA2.Ok := mA1_ok.take dA
theorem mA_L : mA2.L = [dA] := by
  have h := (LogM.take_of (m := mA1) dA (by rw [mA_take])).2.2.2.2.2.2
  have : (mA1.takeF dA).1.L = mA1.L ++ [dA] := by rw [h]
  exact this

set_option maxRecDepth 100000 in
set_option maxHeartbeats 1000000 in
theorem logBegun_c (w : World) : Calls Try.prog 23 #[] w fun e w' => e = .returned (.bool true) ∧ Below w.heap.size w w' := by
  go_enter Try.func23, Try.ntmps23
  go_wp2_with fail
  refine (New_log _).mono ?_
  rintro e w1 ⟨F1, g, rfl, hL1, hb1⟩
  have HL1 := Lib.hid hL1; clear hL1
  go_wp2_with fail
  refine (Join_c HL1.out 1 LogM.new_ok).mono ?_
  rintro e w2 ⟨rfl, hL2, hM2⟩
  rw [show (LogM.new.joinF 1).2.1 = 1 from congrArg Prod.fst mA_join, show (LogM.new.joinF 1).2.2 = 0 from congrArg Prod.snd mA_join]
  have HL2 := Lib.hid (show LogAt w2 w.heap.size F1 g mA1 from hL2)
  have hb2 := hb1.trans (HL1.out.below hM2)
  clear hL2 hM2 hb1 HL1
  go_wp2_with fail
  refine (Take_c HL2.out mA1_ok dA (by simp [dA, maxLen, ByteArray.size]) (by simp [dA, i64ok])).mono ?_
  rintro e w3 ⟨rfl, F3, hL3, hM3, hG3⟩
  rw [show (mA1.takeF dA).2.1 = 1 from congrArg Prod.fst mA_take, show (mA1.takeF dA).2.2 = 0 from congrArg Prod.snd mA_take]
  have HL3 := Lib.hid (show LogAt w3 w.heap.size F3 g mA2 from hL3)
  have hb3 := hb2.trans (HL2.out.below hM3)
  clear hL3 hM3 hb2 HL2 hG3
  go_wp2_with fail
  refine (Take_c HL3.out mA2_ok dA (by simp [dA, maxLen, ByteArray.size]) (by simp [dA, i64ok])).mono ?_
  rintro e w4 ⟨rfl, F4, hL4, hM4, hG4⟩
  rw [show (mA2.takeF dA).2.1 = 0 from congrArg Prod.fst mA_again, show (mA2.takeF dA).2.2 = 7 from congrArg Prod.snd mA_again]
  have HL4 := Lib.hid (show LogAt w4 w.heap.size F4 g mA2 from by
    have := (LogM.take_refused (m := mA2) dA (by rw [mA_again]; decide)).1
    rw [this] at hL4; exact hL4)
  have hb4 := hb3.trans (HL3.out.below hM4)
  clear hL4 hM4 hb3 HL3 hG4
  go_wp2_with fail
  refine (Deed_c HL4.out 1).mono ?_
  rintro e w5 ⟨hb5, h5⟩
  rcases h5 with ⟨_, h⟩ | ⟨k, hk, hk1, rfl⟩
  · exfalso; rw [mA_L] at h; simp at h
  obtain rfl : k = 0 := by omega
  have hd : mA2.L[0] = dA := by simp only [mA_L]; rfl
  rw [hd]
  have HL5 := Lib.hid (HL4.out.later hb5)
  have hx5 := hb4.trans (hb5.mono hb4.size)
  clear hk hk1 hd hb5 hb4 HL4
  have hbd := (Below.refl w5.heap.size w5).alloc (Nat.le_refl _) (.cells #[.int .i64 dA.Kind, .int .i64 dA.By, .int .i64 dA.No, .int .i64 dA.Seen, .int .i64 dA.At, .int .i64 dA.Many, .string dA.Text] 25)
  have hd6 := DdAt.new w5 dA
  go_upto_region 8 with fail
  generalize hw6 : w5.alloc _ = w6
  have hw6' : w6 = w5.alloc (.cells #[.int .i64 dA.Kind, .int .i64 dA.By, .int .i64 dA.No, .int .i64 dA.Seen, .int .i64 dA.At, .int .i64 dA.Many, .string dA.Text] 25) := hw6.symm
  rw [← hw6'] at hbd hd6
  clear hw6 hw6'
  have HL6 := Lib.hid (HL5.out.later hbd)
  have hx6 := hx5.trans (hbd.mono hx5.size)
  have c6 : w6.cell? ⟨w5.heap.size, 6, none⟩ = some (.string ⟨#[97]⟩) := hd6.c6
  clear HL5 hbd hx5 hd6
  go_wp2_with fail
  refine (LText_c HL6.out mA2_ok).mono ?_
  rintro e w7 ⟨rfl, hb7⟩
  rw [mA_text, show strOfNums [97] = ⟨#[97]⟩ from rfl]
  have HL7 := Lib.hid (HL6.out.later hb7)
  have hx7 := hx6.trans (hb7.mono hx6.size)
  clear HL6 hb7 hx6 c6
  go_wp2_with fail
  refine (Len_c HL7.out).mono ?_
  rintro e w8 ⟨rfl, rfl⟩
  rw [show (mA2.L.length : Int) = 1 by rw [mA_L]; rfl]
  go_wp2_with fail
  refine (Here_b HL7.out 1 true mA_here).mono ?_
  rintro e w8 ⟨rfl, rfl⟩
  go_wp2_with fail
  refine (Least_c HL7.out).mono ?_
  rintro e w9 ⟨rfl, hb9⟩
  rw [mA_least]
  go_wp2
  go_ret
  exact ⟨rfl, hx7.trans (hb9.mono hx7.size)⟩
end Go.Proofs.Ytneoeokfffnonab
