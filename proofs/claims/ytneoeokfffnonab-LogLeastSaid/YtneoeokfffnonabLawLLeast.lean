/- The walk of the law LogLeast. -/
import Derived.Test.YtneoeokfffnonabLLShared
import Derived.Deep.DeepCutAuto
set_option linter.unusedVariables false
set_option linter.unusedSimpArgs false
namespace Go.Proofs.Ytneoeokfffnonab
open Go.RowKit

set_option maxRecDepth 100000 in
set_option maxHeartbeats 1000000 in
theorem LogLeast_c (a : Option Addr) (cap : Nat) (l : List LStep) (w : World) (hs : SlLs w a cap l) (hok : ∀ x ∈ l, x.ok) :
    Calls Try.prog 7 #[.slice a l.length cap] w fun e w' => e = .returned (.bool true) ∧ Below w.heap.size w w' := by
  have HXK := Lib.hid hok; clear hok
  go_enter Try.func7, Try.ntmps7
  go_wp2_with fail
  refine (logBegun_c _).mono ?_
  rintro e w1 ⟨rfl, hb1⟩
  have hs1 := hs.below hb1
  clear hs
  go_wp2_with fail
  refine (greatLog_c a cap l _ hs1).mono ?_
  rintro e w2 ⟨r, rfl, rfl, hr⟩
  cases r
  case true =>
    clear hr
    go_wp2
    go_ret
    exact ⟨rfl, hb1⟩
  obtain ⟨hl150, _⟩ := hr rfl
  clear hr
  go_wp2_with fail
  refine (New_log _).mono ?_
  rintro e w3 ⟨F, g, rfl, hL3, hb3⟩
  have HL3 := Lib.hid hL3
  clear hL3
  go_upto_region 6 with fail
  generalize hw4 : w3.alloc _ = w4
  obtain ⟨hB4, hb4⟩ := both_new HL3.out hw4.symm
  have HB4 := Lib.hid hB4
  have hx4 : Below w2.heap.size w2 w4 := hb3.trans (hb4.mono hb3.size)
  clear hw4 hB4 hb4 hb3 HL3
  generalize w3.heap.size = b at *
  obtain ⟨base, hbase⟩ : ∃ base, base = w2.heap.size := ⟨_, rfl⟩
  rw [← hbase] at HB4 hx4
  have HBS := Lib.hid hbase
  have HBZ := Lib.hid (show base ≤ w2.heap.size from Nat.le_of_eq hbase); clear hbase
  have HB1 := Lib.hid hb1; clear hb1
  have HS1 := Lib.hid hs1; clear hs1
  go_wp2
  go_loopw [5] (fun s5 wr => ∃ k : Nat, k ≤ l.length ∧ s5 = (.int .i64 k) ∧ Hid (Both wr base g b (LogM.new.steps (l.take k))) ∧ Below base w2 wr) (fun s5 _ => l.length - (intOf s5).toNat)
  case atStart => exact ⟨0, Nat.zero_le _, rfl, HB4, hx4⟩
  case round =>
    obtain ⟨k, hk, rfl, HB, hbr⟩ := hrel
    by_cases hlt : k < l.length
    · have hsr := HS1.out.below (by rw [← HBS.out]; exact hbr)
      obtain ⟨bb, off, rfl, q0, q1, q2, q3, q4, q5, q6, q7, q8, q9, q10⟩ := hsr.nth hlt
      have HST := Lib.hid (steps_snoc l k hlt)
      have HMK := Lib.hid (steps_ok l k)
      have HXO := Lib.hid (HXK.out l[k] (List.getElem_mem hlt))
      have hlt' : (k : Int) < l.length := by omega
      have hk0 : (0 : Int) ≤ (k : Int) := by omega
      generalize LogM.new.steps (l.take k) = m at *
      generalize hx : l[k] = x at *
      clear hx hsr
      have HQ := Lib.hid (show LsC wr bb (off + k * 11) x from ⟨q0, q1, q2, q3, q4, q5, q6, q7, q8, q9, q10⟩)
      clear q0 q1 q2 q3 q4 q5 q6 q7 q8 q9 q10
      obtain ⟨F5, B5, hL5, hK5, hFB5⟩ := HB.out
      have HL5 := Lib.hid hL5; have HK5 := Lib.hid hK5; have HFB5 := Lib.hid hFB5
      clear hL5 hK5 hFB5 HB
      go_wp2_with fail
      refine (Least_c HL5.out).mono ?_
      rintro e w5 ⟨rfl, hb5⟩
      have HL6 := Lib.hid (HL5.out.later hb5)
      have HB6 := Lib.hid (show Both w5 base g b m from ⟨F5, B5, HL5.out.later hb5, HK5.out.later hb5, HFB5.out⟩)
      have HQ6 := Lib.hid (HQ.out.below hb5 HQ.out.lt)
      have hx5 := hbr.trans (hb5.mono (Nat.le_trans HBZ.out hbr.size))
      clear hb5 HL5 HK5 HFB5 HQ hbr
      go_wp2_with fail
      refine (Len_c HL6.out).mono ?_
      rintro e w5 ⟨rfl, rfl⟩
      obtain ⟨q0, q1, q2, q3, q4, q5, q6, q7, q8, q9, q10⟩ := HQ6.out
      go_wp2_with fail
      refine (logStep_c HB6.out HMK.out x HXO.out).mono ?_
      rintro e w6 ⟨rfl, hB7, hb7⟩
      have hx7 := hx5.trans hb7
      have HB7 := Lib.hid (show Both w6 base g b (LogM.new.steps (l.take (k + 1))) from by rw [HST.out]; exact hB7)
      obtain ⟨F7, B7, hL7, hK7, hFB7⟩ := hB7
      have HL7 := Lib.hid hL7
      have HSL := Lib.hid (LogM.step_least (m := m) x)
      have HSG := Lib.hid (LogM.step_grows (m := m) x)
      have HM7 := Lib.hid (HMK.out.step x)
      clear hL7 hK7 hFB7 HB6 HL6 HQ6 hb7 hx5 q0 q1 q2 q3 q4 q5 q6 q7 q8 q9 q10
      generalize m.step x = m' at *
      have hc1 : decide (m'.least < m.least) = false := decide_eq_false (by have := HSL.out; omega)
      have hc2 : decide ((m'.L.length : Int) < m'.least) = false := decide_eq_false (by have := m'.least_le; omega)
      go_wp2_with fail
      refine (Least_c HL7.out).mono ?_
      rintro e w7 ⟨rfl, hb8⟩
      have HL8 := Lib.hid (HL7.out.later hb8)
      have HB8 := Lib.hid (Both.later HB7.out hb8)
      have hx8 := hx7.trans (hb8.mono (Nat.le_trans HBZ.out hx7.size))
      clear HL7 HB7 hb8 hx7
      go_wp2_with fail
      refine (Least_c HL8.out).mono ?_
      rintro e w8 ⟨rfl, hb9⟩
      have HL9 := Lib.hid (HL8.out.later hb9)
      have HB9 := Lib.hid (Both.later HB8.out hb9)
      have hx9 := hx8.trans (hb9.mono (Nat.le_trans HBZ.out hx8.size))
      clear HL8 HB8 hb9 hx8
      go_wp2_with fail
      refine (Len_c HL9.out).mono ?_
      rintro e w8 ⟨rfl, rfl⟩
      go_wp2_with fail
      refine (Len_c HL9.out).mono ?_
      rintro e w8 ⟨rfl, rfl⟩
      clear hc1 hc2
      rcases HSG.out with hsame | ⟨d, hgrow, hds⟩
      · have hc3 : decide ((m.L.length : Int) < (m'.L.length : Int)) = false := decide_eq_false (by rw [hsame]; omega)
        have hc3N : decide (m.L.length < m'.L.length) = false := decide_eq_false (by rw [hsame]; omega)
        clear hsame HSG
        go_wp2
        exact ⟨⟨k + 1, by omega, by go_num, HB9, hx9⟩, by simp [intOf]; omega⟩
      · have hlen : m'.L.length = m.L.length + 1 := by rw [hgrow]; simp
        have hc3 : decide ((m.L.length : Int) < (m'.L.length : Int)) = true := decide_eq_true (by omega)
        have hc3N : decide (m.L.length < m'.L.length) = true := decide_eq_true (by omega)
        have hml := HM7.out.len
        have hinc : IntKind.i64.wrap ((m.L.length : Int) + 1) = (m.L.length : Int) + 1 := by rw [IntKind.wrap_i64]; omega
        have HLEN := Lib.hid hlen
        have HD := Lib.hid (show ∀ (j : Nat) (hj : j < m'.L.length), (m.L.length : Int) + 1 = (j : Int) + 1 → m'.L[j] = d from fun j hj h => by
          obtain rfl : j = m.L.length := by omega
          simp only [hgrow]; simp)
        clear HSG hgrow hlen
        go_wp2_with fail
        refine (Deed_c HL9.out _).mono ?_
        rintro e w9 ⟨hb10, h10⟩
        rcases h10 with ⟨_, h⟩ | ⟨j, hj, hj1, rfl⟩
        · exfalso; have := HLEN.out; omega
        have hdj := HD.out j hj hj1
        rw [hdj]
        clear hdj hj1 hj HD
        have HB10 := Lib.hid (Both.later HB9.out hb10)
        have hx10 := hx9.trans (hb10.mono (Nat.le_trans HBZ.out hx9.size))
        clear HB9 HL9 hb10 hx9
        have hbd := (Below.refl w9.heap.size w9).alloc (Nat.le_refl _) (.cells #[.int .i64 d.Kind, .int .i64 d.By, .int .i64 d.No, .int .i64 d.Seen, .int .i64 d.At, .int .i64 d.Many, .string d.Text] 25)
        have hd11 := DdAt.new w9 d
        go_upto_region 15 with fail
        generalize hw11 : w9.alloc _ = w11
        have hw11' : w11 = w9.alloc (.cells #[.int .i64 d.Kind, .int .i64 d.By, .int .i64 d.No, .int .i64 d.Seen, .int .i64 d.At, .int .i64 d.Many, .string d.Text] 25) := hw11.symm
        rw [← hw11'] at hbd hd11
        clear hw11 hw11'
        have HB11 := Lib.hid (Both.later HB10.out hbd)
        have hx11 := hx10.trans (hbd.mono (Nat.le_trans HBZ.out hx10.size))
        have c3 : w11.cell? ⟨w9.heap.size, 3, none⟩ = some (.int .i64 d.Seen) := hd11.c3
        have hc4 : decide (d.Seen < m.least) = false := decide_eq_false (by omega)
        clear HB10 hbd hx10 hd11 hds hc3 hc3N hinc
        go_wp2
        exact ⟨⟨k + 1, by omega, by go_num, HB11, hx11⟩, by simp [intOf]; omega⟩
    · obtain rfl : k = l.length := by omega
      go_wp2
      go_ret
      exact ⟨rfl, HB1.out.trans (hbr.mono (by rw [HBS.out]; exact HB1.out.size))⟩
end Go.Proofs.Ytneoeokfffnonab
