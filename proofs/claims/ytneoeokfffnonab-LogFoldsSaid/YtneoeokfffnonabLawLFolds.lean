/- The walk of the law LogFolds. -/
import Derived.Test.YtneoeokfffnonabLLShared
import Derived.Deep.DeepCutAuto
set_option linter.unusedVariables false
set_option linter.unusedSimpArgs false
namespace Go.Proofs.Ytneoeokfffnonab
open Go.RowKit

set_option maxRecDepth 100000 in
set_option maxHeartbeats 1000000 in
theorem LogFolds_c (a : Option Addr) (cap : Nat) (l : List LStep) (w : World) (hs : SlLs w a cap l) (hok : ∀ x ∈ l, x.ok) :
    Calls Try.prog 11 #[.slice a l.length cap] w fun e w' => e = .returned (.bool true) ∧ Below w.heap.size w w' := by
  have HXK := Lib.hid hok; clear hok
  go_enter Try.func11, Try.ntmps11
  go_wp2_with fail
  refine (logBegun_c _).mono ?_
  rintro e w1 ⟨rfl, hb1⟩
  have hs1 := hs.below hb1
  clear hs
  go_wp2_with fail
  refine (greatLog_c a cap l _ hs1).mono ?_
  rintro e w2 ⟨r, rfl, rfl, hr⟩
  cases r
  case true =>
    clear hr
    go_wp2
    go_ret
    exact ⟨rfl, hb1⟩
  obtain ⟨hl150, _⟩ := hr rfl
  clear hr
  go_wp2_with fail
  refine (New_log _).mono ?_
  rintro e w3 ⟨F, g, rfl, hL3, hb3⟩
  have HL3 := Lib.hid hL3
  clear hL3
  go_upto_region 6 with fail
  generalize hw4 : w3.alloc _ = w4
  obtain ⟨hB4, hb4⟩ := both_new HL3.out hw4.symm
  have HB4 := Lib.hid hB4
  have hx4 : Below w2.heap.size w2 w4 := hb3.trans (hb4.mono hb3.size)
  clear hw4 hB4 hb4 hb3 HL3
  generalize w3.heap.size = b at *
  obtain ⟨base, hbase⟩ : ∃ base, base = w2.heap.size := ⟨_, rfl⟩
  rw [← hbase] at HB4 hx4
  have HBS := Lib.hid hbase
  have HBZ := Lib.hid (show base ≤ w2.heap.size from Nat.le_of_eq hbase); clear hbase
  have HB1 := Lib.hid hb1; clear hb1
  have HS1 := Lib.hid hs1; clear hs1
  go_wp2
  go_loopw [5] (fun s5 wr => ∃ k : Nat, k ≤ l.length ∧ s5 = (.int .i64 k) ∧ Hid (Both wr base g b (LogM.new.steps (l.take k))) ∧ Below base w2 wr) (fun s5 _ => l.length - (intOf s5).toNat)
  case atStart => exact ⟨0, Nat.zero_le _, rfl, HB4, hx4⟩
  case round =>
    obtain ⟨k, hk, rfl, HB, hbr⟩ := hrel
    by_cases hlt : k < l.length
    · have hsr := HS1.out.below (by rw [← HBS.out]; exact hbr)
      obtain ⟨bb, off, rfl, q0, q1, q2, q3, q4, q5, q6, q7, q8, q9, q10⟩ := hsr.nth hlt
      have HST := Lib.hid (steps_snoc l k hlt)
      have HMK := Lib.hid (steps_ok l k)
      have HXO := Lib.hid (HXK.out l[k] (List.getElem_mem hlt))
      have hlt' : (k : Int) < l.length := by omega
      have hk0 : (0 : Int) ≤ (k : Int) := by omega
      generalize LogM.new.steps (l.take k) = m at *
      generalize hx : l[k] = x at *
      clear hx hsr
      go_wp2_with fail
      refine (logStep_c HB.out HMK.out x HXO.out).mono ?_
      rintro e w5 ⟨rfl, hB5, hb5⟩
      have HB5 := Lib.hid hB5
      have hx5 := hbr.trans hb5
      clear hB5 hb5 hbr q0 q1 q2 q3 q4 q5 q6 q7 q8 q9 q10 HB
      go_wp2
      exact ⟨⟨k + 1, by omega, by go_num, Lib.hid (by rw [HST.out]; exact HB5.out), hx5⟩, by simp [intOf]; omega⟩
    · obtain rfl : k = l.length := by omega
      have HMK := Lib.hid (steps_ok l l.length)
      have hml := HMK.out.len
      generalize LogM.new.steps (l.take l.length) = m at *
      obtain ⟨F5, B5, hL5, _, _⟩ := HB.out
      have HL5 := Lib.hid hL5
      clear hL5 HB HB4 hx4 hlt
      go_wp2
      go_loopw [6, 7] (fun s6 s7 wx => ∃ (n : Nat) (a' : Option Addr) (cap' : Nat), n ≤ m.L.length ∧ s7 = (.int .i64 ((n : Int) + 1)) ∧ s6 = .slice a' n cap' ∧ Hid (OwnRow wx wr.heap.size 25 7 a' n cap' (flatD (m.L.take n))) ∧ Below wr.heap.size wr wx) (fun _ s7 _ => m.L.length + 1 - (intOf s7).toNat)
      case atStart => exact ⟨0, none, 0, Nat.zero_le _, rfl, rfl, Lib.hid (OwnRow.nil _ _ _ _ _), Below.refl _ _⟩
      case round =>
        obtain ⟨n, a', cap', hn, rfl, rfl, HO, hbx⟩ := hrel
        have HLx := Lib.hid (HL5.out.later hbx)
        go_wp2_with fail
        refine (Len_c HLx.out).mono ?_
        rintro e w6 ⟨rfl, rfl⟩
        by_cases hnl : n < m.L.length
        · have hnB : decide ((n : Int) + 1 ≤ (m.L.length : Int)) = true := decide_eq_true (by omega)
          go_wp2_with fail
          refine (Deed_c HLx.out _).mono ?_
          rintro e w7 ⟨hb7, h7⟩
          rcases h7 with ⟨_, h⟩ | ⟨j, hj, hj1, rfl⟩
          · exfalso; omega
          obtain rfl : j = n := by omega
          have HLT := Lib.hid (show flatD (m.L.take (j + 1)) = flatD (m.L.take j) ++ Dd.cells m.L[j] from by
            rw [List.take_succ_eq_append_getElem hj, flatD_append]; simp [flatD])
          clear hj1
          generalize m.L[j] = d at *
          have hbd := (Below.refl w7.heap.size w7).alloc (Nat.le_refl _) (.cells #[.int .i64 d.Kind, .int .i64 d.By, .int .i64 d.No, .int .i64 d.Seen, .int .i64 d.At, .int .i64 d.Many, .string d.Text] 25)
          have hd8 := DdAt.new w7 d
          go_upto_region 15 with fail
          generalize hw8 : w7.alloc _ = w8
          have hw8' : w8 = w7.alloc (.cells #[.int .i64 d.Kind, .int .i64 d.By, .int .i64 d.No, .int .i64 d.Seen, .int .i64 d.At, .int .i64 d.Many, .string d.Text] 25) := hw8.symm
          rw [← hw8'] at hbd hd8
          clear hw8 hw8'
          have hx8 : Below wr.heap.size wr w8 := (hbx.trans (hb7.mono hbx.size)).trans (hbd.mono (Nat.le_trans hbx.size hb7.size))
          have HO8 := Lib.hid ((HO.out.below hb7).below hbd)
          obtain ⟨dlt, d0, d1, d2, d3, d4, d5, d6⟩ := hd8
          clear hbd hb7 hbx HO HLx hn
          go_wp2_with (at_builtin; refine wpList_append_new rfl (.tmp 46) (.tmp 48) 23 rfl wr.heap.size 25 7 64 Try.underlying23 ti_Deed a' j cap' _ rfl HO8.out 1 1 (Dd.cells d) rfl rfl (Dd.cells_one d) (by omega) hx8.size ?_)
          intro a3 cap3 w9 hown9 hb9 hz9 hg9
          have HO9 := Lib.hid (show OwnRow w9 wr.heap.size 25 7 a3 (j + 1) cap3 (flatD (m.L.take (j + 1))) by rw [HLT.out]; exact hown9)
          clear hown9 HO8 hg9 d0 d1 d2 d3 d4 d5 d6 hnB
          go_wp2
          exact ⟨⟨j + 1, a3, cap3, by omega, by go_num, rfl, HO9, hx8.trans hb9⟩, by simp [intOf]; omega⟩
        · obtain rfl : n = m.L.length := by omega
          have hnB : decide ((m.L.length : Int) + 1 ≤ (m.L.length : Int)) = false := decide_eq_false (by omega)
          have HO2 := Lib.hid (show SlDd w6 a' cap' m.L from by
            have := HO.out; rw [List.take_length] at this; exact this.slDd)
          have HW6 := Lib.hid (hbr.trans (hbx.mono (Nat.le_trans HBZ.out hbr.size)))
          clear HO hnl hn
          go_wp2_with fail
          refine (All_c a' cap' m.L _ HO2.out HMK.out.many_ok (by omega)).mono ?_
          rintro e w7 ⟨a7, cap7, rfl, ho7, hb7⟩
          rw [HMK.out.all]
          have HC7 := Lib.hid (show SlCh w7 a7 cap7 m.chars from ho7.slCh)
          have HL7 := Lib.hid (HLx.out.later hb7)
          have HW7 := Lib.hid (HW6.out.trans (hb7.mono (Nat.le_trans (Nat.le_trans HBZ.out HW6.out.size) (Nat.le_refl _))))
          obtain ⟨CL, hCL⟩ : ∃ CL, CL = (allF m.L).1.length := ⟨_, rfl⟩
          rw [← hCL]
          have HCL := Lib.hid (show m.chars.length = CL from hCL.symm)
          generalize (allF m.L).2.2 = f2
          clear hCL ho7 hb7 HO2 HLx HW6
          have hbf := (Below.refl w7.heap.size w7).alloc (Nat.le_refl _) (.cells #[.int .i64 0, .int .i64 f2] 29)
          have hf0 : (w7.alloc (.cells #[.int .i64 0, .int .i64 f2] 29)).cell? ⟨w7.heap.size, 0, none⟩ = some (.int .i64 0) := by simp
          go_upto_region 19 with fail
          generalize w7.alloc _ = w8 at *
          have HC8 := Lib.hid (HC7.out.below hbf)
          have HL8 := Lib.hid (HL7.out.later hbf)
          have HW8 := Lib.hid (HW7.out.trans (hbf.mono (Nat.le_trans HBZ.out HW7.out.size)))
          clear HC7 HL7 HW7 hbf
          go_wp2_with fail
          refine (Chars_c HL8.out HMK.out).mono ?_
          rintro e w9 ⟨a9, cap9, rfl, ho9, hb9⟩
          rw [HCL.out]
          have HC9 := Lib.hid (HC8.out.below hb9)
          have HD9 := Lib.hid ho9.slCh
          have HL9 := Lib.hid (HL8.out.later hb9)
          have HW9 := Lib.hid (HW8.out.trans (hb9.mono (Nat.le_trans HBZ.out HW8.out.size)))
          clear HC8 HL8 HW8 ho9 hb9 hf0
          go_wp2_with fail
          refine (Same_t a7 a9 cap7 cap9 m.chars CL HCL.out _ HC9.out HD9.out).mono ?_
          rintro e w10 ⟨rfl, hb10⟩
          have HC10 := Lib.hid (HC9.out.below hb10)
          have HL10 := Lib.hid (HL9.out.later hb10)
          have HW10 := Lib.hid (HW9.out.trans (hb10.mono (Nat.le_trans HBZ.out HW9.out.size)))
          clear HC9 HL9 HW9 HD9 hb10
          obtain ⟨S, hS⟩ : ∃ S, S = strOfNums (textF m.chars) := ⟨_, rfl⟩
          have HT := Lib.hid (fun W (h : SlCh W a7 cap7 m.chars) => show Calls Try.prog 17 #[.slice a7 CL cap7] W fun e w' => e = .returned (.string S) ∧ Below W.heap.size W w' by
            rw [hS, ← HCL.out]; exact Text_c a7 cap7 m.chars W h (by have := HMK.out.chars_len; omega))
          have HT2 := Lib.hid (fun W (h : LogAt W base F5 g m) => show Calls Try.prog 36 #[.pointer (some ⟨g, 0, none⟩)] W fun e w' => e = .returned (.string S) ∧ Below W.heap.size W w' by rw [hS]; exact LText_c h HMK.out)
          clear hS
          go_wp2_with fail
          refine (HT.out _ HC10.out).mono ?_
          rintro e w11 ⟨rfl, hb11⟩
          have HW11 := Lib.hid (HW10.out.trans (hb11.mono (Nat.le_trans HBZ.out HW10.out.size)))
          have HL11 := Lib.hid (HL10.out.later hb11)
          go_wp2_with fail
          refine (HT2.out _ HL11.out).mono ?_
          rintro e w12 ⟨rfl, hb12⟩
          have HW12 := Lib.hid (HW11.out.trans (hb12.mono (Nat.le_trans HBZ.out HW11.out.size)))
          have hm120 : decide ((m.L.length : Int) ≤ 120) = true := decide_eq_true (by omega)
          clear HW10 HW11 HT HT2 hb11 hb12
          go_wp2
          go_ret
          exact ⟨rfl, HB1.out.trans (HW12.out.mono (by rw [HBS.out]; exact HB1.out.size))⟩
end Go.Proofs.Ytneoeokfffnonab
