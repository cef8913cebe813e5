/- The walk of the deeds' beginning. -/
import Derived.Test.YtneoeokfffnonadDoorDeedQ
set_option linter.unusedVariables false
set_option linter.unusedSimpArgs false
namespace Go.Proofs.YtneoeokfffnonadDoor
open Go.RowKit Go

def bDd : Dd := ⟨1, 1, 2, 3, 4, 0, ⟨#[97, 32, 98]⟩⟩
theorem bDd_fault : deedFault bDd = 0 := by decide
theorem itoa_small (u : Nat) (h : u < 10) : Lib.itoa (u : Int) = [UInt8.ofNat (48 + u)] := by
  rw [itoa_nat _ (by omega)]
  rw [Lib.decDigits, dif_pos (show ((u : Int)).toNat < 10 by omega)]
  simp
theorem bDd_line : lineB bDd = [112, 117, 116, 32, 49, 32, 50, 32, 51, 32, 52, 32, 97, 32, 98] := by
  have h1 := itoa_small 1 (by omega)
  have h2 := itoa_small 2 (by omega)
  have h3 := itoa_small 3 (by omega)
  have h4 := itoa_small 4 (by omega)
  show kindB bDd ++ 32 :: (Lib.itoa ((1 : Nat) : Int) ++ 32 :: (Lib.itoa ((2 : Nat) : Int) ++ 32 :: (Lib.itoa ((3 : Nat) : Int) ++ 32 :: (Lib.itoa ((4 : Nat) : Int) ++ 32 :: lastB bDd)))) = _
  rw [h1, h2, h3, h4]
  decide
theorem bDd_ok : bDd.ok := by
  unfold Dd.ok i64ok bDd
  refine ⟨by decide, by decide, by decide, by decide, by decide, by decide, ?_⟩
  show 3 ≤ maxLen
  decide
theorem zDd_fault : deedFault zDd = 2 := by decide

set_option maxRecDepth 100000 in
set_option maxHeartbeats 1000000 in
theorem deedBegun_c (w : World) (hk : LibK w) :
    Calls Tryd.prog 6 #[] w fun e w' => e = .returned (.bool true) ∧ Below w.heap.size w w' := by
  have HK := Lib.hid hk
  clear hk
  go_enter Tryd.func6, Tryd.ntmps6
  go_wp2_with fail
  refine (Line_c bDd w bDd_ok HK.out).mono ?_
  rintro e w1 ⟨rfl, hb1⟩
  have HB1 := Lib.hid hb1
  clear hb1
  rw [show lineF bDd = ([112, 117, 116, 32, 49, 32, 50, 32, 51, 32, 52, 32, 97, 32, 98], 0) from by unfold lineF; rw [if_pos bDd_fault, bDd_line]]
  go_wp2_with fail
  refine (Parse_c ⟨#[112, 117, 116, 32, 49, 32, 50, 32, 51, 32, 52, 32, 97, 32, 98]⟩ (by decide) w1 (HK.out.later HB1.out)).mono ?_
  rintro e w2 ⟨rfl, hb2⟩
  have HB2 := Lib.hid (HB1.out.trans (hb2.mono HB1.out.size))
  rw [show parseF (⟨#[112, 117, 116, 32, 49, 32, 50, 32, 51, 32, 52, 32, 97, 32, 98]⟩ : ByteArray).data.toList = (bDd, 0) from by
    rw [show (⟨#[112, 117, 116, 32, 49, 32, 50, 32, 51, 32, 52, 32, 97, 32, 98]⟩ : ByteArray).data.toList = lineB bDd from bDd_line.symm]
    exact parse_line bDd_fault]
  clear hb2 HB1
  go_upto_region 3 with fail
  generalize hw3 : w2.alloc _ = w3
  have hw3' : w2.alloc (.cells #[.int .i64 bDd.Kind, .int .i64 bDd.By, .int .i64 bDd.No, .int .i64 bDd.Seen, .int .i64 bDd.At, .int .i64 bDd.Many, .string bDd.Text] 23) = w3 := hw3
  have hb3 : Below w2.heap.size w2 w3 := by rw [← hw3']; exact (Below.refl w2.heap.size w2).alloc (Nat.le_refl _) _
  have HY := Lib.hid (show DdAt w3 w2.heap.size bDd from by rw [← hw3']; exact DdAt.new w2 bDd)
  have HB3 := Lib.hid (HB2.out.trans (hb3.mono HB2.out.size))
  clear hw3 hw3' hb3 HB2
  generalize w2.heap.size = Y at HY ⊢
  obtain ⟨_, y0, y1, y2, y3, y4, y5, y6⟩ := HY.out
  change w3.cell? ⟨Y, 4, none⟩ = some (Value.int .i64 4) at y4
  change w3.cell? ⟨Y, 6, none⟩ = some (Value.string ⟨#[97, 32, 98]⟩) at y6
  go_wp2_with fail
  refine (DCheck_c zDd w3 (Nat.zero_le _)).mono ?_
  rintro e w4 ⟨rfl, hb4⟩
  have HB4 := Lib.hid (HB3.out.trans (hb4.mono HB3.out.size))
  rw [zDd_fault]
  clear hb4
  go_wp2
  go_ret
  exact ⟨rfl, HB4.out⟩
end Go.Proofs.YtneoeokfffnonadDoor
