/- The walk of the law DeedOne. -/
import Derived.Test.YtneoeokfffnonadDoorDeedG
set_option linter.unusedVariables false
set_option linter.unusedSimpArgs false
namespace Go.Proofs.YtneoeokfffnonadDoor
open Go.RowKit Go

theorem lineF_zero1 {d : Dd} (h : (lineF d).2 = 0) : deedFault d = 0 ∧ lineF d = (lineB d, 0) := by
  unfold lineF at *
  split at h
  · rename_i e; exact ⟨e, if_pos e⟩
  · rename_i e; exact absurd h e

set_option maxRecDepth 100000 in
set_option maxHeartbeats 1000000 in
theorem DeedOne_c (d : Dd) (w : World) (hd : d.ok) (hk : LibK w) :
    Calls Tryd.prog 5 #[.agg #[.int .i64 d.Kind, .int .i64 d.By, .int .i64 d.No, .int .i64 d.Seen, .int .i64 d.At, .int .i64 d.Many, .string d.Text]] w fun e w' => e = .returned (.bool true) ∧ Below w.heap.size w w' := by
  have hb0 := (Below.refl w.heap.size w).alloc (Nat.le_refl _) (.cells #[.int .i64 d.Kind, .int .i64 d.By, .int .i64 d.No, .int .i64 d.Seen, .int .i64 d.At, .int .i64 d.Many, .string d.Text] 23)
  have HB0 := Lib.hid hb0
  have HX0 := Lib.hid (DdAt.new w d)
  have HK := Lib.hid hk
  have HD := Lib.hid hd
  clear hk hd hb0
  go_enter Tryd.func5, Tryd.ntmps5
  go_upto_region 1 with fail
  generalize hw0 : w.alloc _ = w0
  have hw0' : w.alloc (.cells #[.int .i64 d.Kind, .int .i64 d.By, .int .i64 d.No, .int .i64 d.Seen, .int .i64 d.At, .int .i64 d.Many, .string d.Text] 23) = w0 := hw0
  rw [hw0'] at HB0 HX0
  clear hw0 hw0'
  generalize w.heap.size = X at HX0 ⊢
  go_wp2_with fail
  refine (deedBegun_c w0 (HK.out.later HB0.out)).mono ?_
  rintro e w1 ⟨rfl, hb1⟩
  have HB1 := Lib.hid (HB0.out.trans (hb1.mono HB0.out.size))
  have HX1 := Lib.hid (HX0.out.later hb1)
  clear hb1 HB0 HX0
  obtain ⟨_, x0, x1, x2, x3, x4, x5, x6⟩ := HX1.out
  by_cases hbig : d.Text.size ≤ 1000
  case neg =>
    have h1' : decide ((1000 : Int) < (d.Text.size : Int)) = true := decide_eq_true (by omega)
    go_wp2
    go_ret
    exact ⟨rfl, HB1.out⟩
  have h1' : decide ((1000 : Int) < (d.Text.size : Int)) = false := decide_eq_false (by omega)
  go_wp2_with fail
  refine (Line_c d w1 HD.out (HK.out.later HB1.out)).mono ?_
  rintro e w2 ⟨rfl, hb2'⟩
  have HB2 := Lib.hid (HB1.out.trans (hb2'.mono HB1.out.size))
  have HX2 := Lib.hid (HX1.out.later hb2')
  clear hb2' HB1 HX1 x0 x1 x2 x3 x4 x5 x6 h1' hbig
  obtain ⟨_, x0, x1, x2, x3, x4, x5, x6⟩ := HX2.out
  by_cases hf : deedFault d = 0
  case neg =>
    rw [show lineF d = ([], deedFault d) from by unfold lineF; rw [if_neg hf]]
    have hcB : decide (deedFault d = 0) = false := decide_eq_false hf
    have hcE : (deedFault d != 0) = true := by simpa using hf
    have HDC := Lib.hid (fun W => DCheck_c d W HD.out.2.2.2.2.2.2)
    clear hf
    generalize deedFault d = c at *
    go_wp2_with fail
    refine (HDC.out w2).mono ?_
    rintro e w3 ⟨rfl, hb3⟩
    have HB3 := Lib.hid (HB2.out.trans (hb3.mono HB2.out.size))
    clear hb3 HB2 HX2 HDC
    go_wp2
    go_ret
    exact ⟨rfl, HB3.out⟩
  have HF := Lib.hid hf
  rw [show lineF d = (lineB d, 0) from by unfold lineF; rw [if_pos hf]]
  have HLB := Lib.hid (line_bytes hf)
  have hkind := line_kind hf
  have HLN := Lib.hid (line_len hf)
  clear hf
  obtain ⟨L, hL⟩ : ∃ L, L = lineB d := ⟨_, rfl⟩
  rw [← hL] at HLB hkind HLN ⊢
  clear hL
  have HKD := Lib.hid hkind
  clear hkind
  obtain ⟨T, hT⟩ : ∃ T : ByteArray, T = ⟨L.toArray⟩ := ⟨_, rfl⟩
  rw [← hT]
  have HT := Lib.hid hT
  have hTs : T.size ≤ 200 := by rw [hT]; show L.toArray.size ≤ _; have := HLN.out; simp only [List.size_toArray]; omega
  clear hT
  go_wp2
  go_loop [5] (fun j => ∃ q : Nat, q ≤ T.size ∧ j = .int .i64 (q : Int)) (fun j => T.size - (intOf j).toNat)
  case atStart => exact ⟨0, Nat.zero_le _, rfl⟩
  case round =>
    obtain ⟨q, hq, rfl⟩ := hrel
    by_cases hlt : q < T.size
    · have hb := HLB.out T[q] (by
        have h1 : T.data.toList = L := by rw [HT.out]
        rw [← h1]
        exact List.getElem_mem (l := T.data.toList) (by simpa using hlt))
      have hb1 : decide ((T[q].toNat : Int) < 32) = false := decide_eq_false (by omega)
      have hb2 : decide ((126 : Int) < (T[q].toNat : Int)) = false := decide_eq_false (by omega)
      clear hb
      go_wp2
      exact ⟨⟨q + 1, by omega, by go_num⟩, by first | (simp [intOf]; done) | (simp [intOf]; omega)⟩
    · obtain rfl : q = T.size := by omega
      clear hlt hq
      have HT5 := Lib.hid (fun (l : List UInt8) (n : Nat) (h : L.take n = l) => show T.extract 0 n = ⟨l.toArray⟩ from ba_ext (by rw [Lib.extract_from_zero, HT.out]; simpa using h))
      have HTS := Lib.hid (show T.size = L.length from by rw [HT.out]; show L.toArray.size = _; simp)
      rcases HKD.out with ⟨k1, k2, k3, r, hL, hr⟩ | ⟨k1, k2, k3, r, hL, hr⟩
      · obtain ⟨r0, r', rfl⟩ : ∃ a b, r = a :: b := by
          cases r with
          | nil => simp at hr
          | cons a b => exact ⟨a, b, rfl⟩
        have e4 : T.extract 0 4 = ⟨#[112, 117, 116, 32]⟩ := HT5.out [112, 117, 116, 32] 4 (by rw [hL]; rfl)
        obtain ⟨E, hE⟩ : ∃ E, T.extract 0 5 = E := ⟨_, rfl⟩
        have hEn : E ≠ ⟨#[116, 97, 107, 101, 32]⟩ := by
          rw [← hE, HT5.out [112, 117, 116, 32, r0] 5 (by rw [hL]; rfl)]
          intro h
          have := congrArg (fun b : ByteArray => b.data.toList) h
          simp at this
        have eE : (E.toList == [116, 97, 107, 101, 32]) = false := by
          rw [ByteArray.toList_eq, beq_eq_false_iff_ne]
          exact fun h => hEn (ba_ext (by rw [h]))
        have hs4 : decide ((4 : Int) < (T.size : Int)) = true := decide_eq_true (by rw [HTS.out, hL]; simp; omega)
        have hne : d.Text ≠ ⟨#[]⟩ := fun h => k2 (by rw [h]; rfl)
        have n2 : (d.Text.toList == []) = false := by
          rw [ByteArray.toList_eq, beq_eq_false_iff_ne]
          exact fun h => hne (ba_ext (by rw [h]))
        have hb5 := Nat.lt_or_ge 5 T.size
        clear hL hr hEn
        rw [k1] at x0
        rw [k3] at x5
        clear k1 k2 k3 hne
        rcases hb5 with hb5 | hb5
        · have hs5 : decide ((5 : Int) < (T.size : Int)) = true := decide_eq_true (by omega)
          have hq5 : 5 ≤ T.size := by omega
          have hq4 : 4 ≤ T.size := by omega
          clear hb5
          go_wp2
          go_ret
          exact ⟨rfl, HB2.out⟩
        · have hs5 : decide ((5 : Int) < (T.size : Int)) = false := decide_eq_false (by omega)
          have hq4 : 4 ≤ T.size := by
            have := of_decide_eq_true hs4
            omega
          clear hb5
          go_wp2
          go_ret
          exact ⟨rfl, HB2.out⟩
      · have e5 : T.extract 0 5 = ⟨#[116, 97, 107, 101, 32]⟩ := HT5.out [116, 97, 107, 101, 32] 5 (by rw [hL]; rfl)
        obtain ⟨E, hE⟩ : ∃ E, T.extract 0 4 = E := ⟨_, rfl⟩
        have hEn : E ≠ ⟨#[112, 117, 116, 32]⟩ := by
          rw [← hE, HT5.out [116, 97, 107, 101] 4 (by rw [hL]; rfl)]
          intro h
          have := congrArg (fun b : ByteArray => b.data.toList) h
          simp at this
        have eE : (E.toList == [112, 117, 116, 32]) = false := by
          rw [ByteArray.toList_eq, beq_eq_false_iff_ne]
          exact fun h => hEn (ba_ext (by rw [h]))
        have hs5 : decide ((5 : Int) < (T.size : Int)) = true := decide_eq_true (by rw [HTS.out, hL]; simp; omega)
        have hs4 : decide ((4 : Int) < (T.size : Int)) = true := decide_eq_true (by rw [HTS.out, hL]; simp; omega)
        have hq5 : 5 ≤ T.size := by rw [HTS.out, hL]; simp
        have hq4 : 4 ≤ T.size := by omega
        have ht : d.Text = ⟨#[]⟩ := ba_ext (by
          have h : d.Text.data.size = 0 := k2
          simp [Array.eq_empty_of_size_eq_zero h])
        have hm : decide ((0 : Int) < d.Many) = true := decide_eq_true k3
        rw [ht] at x6
        rw [k1] at x0
        clear hL hr hEn ht k1 k2 k3
        go_wp2
        go_ret
        exact ⟨rfl, HB2.out⟩
end Go.Proofs.YtneoeokfffnonadDoor
