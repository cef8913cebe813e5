/- The walk of the law LogComes. -/
import Derived.Test.YtneoeokfffnonabLLShared
import Derived.Deep.DeepCutAuto
set_option linter.unusedVariables false
set_option linter.unusedSimpArgs false
namespace Go.Proofs.Ytneoeokfffnonab
open Go.RowKit

theorem came (m : LogM) (ho : m.Ok) (x : Int) (hw : isWriter x = true) (hh : m.hereF x = false) :
    (m.joinF x).2 = (cntBy x m.L + 1, 0) ∧ (m.joinF x).1.L = m.L ∧ (m.joinF x).1.hereF x = true ∧ ((m.joinF x).1.seat x).seen = m.L.length ∧ (m.joinF x).1.Ok := by
  have h1 : (m.seat x).here = false := by unfold LogM.hereF at hh; rw [hw] at hh; simpa using hh
  have e : m.joinF x = (m.put x ⟨true, (m.seat x).last, m.L.length⟩, (m.seat x).last + 1, 0) := by
    unfold LogM.joinF; rw [if_pos hw, h1]; rfl
  have hs := seat_put m x x ⟨true, (m.seat x).last, m.L.length⟩ hw hw
  rw [if_pos rfl] at hs
  refine ⟨by rw [e, ho.last x hw], by rw [e]; rfl, ?_, by rw [e]; show ((m.put x _).seat x).seen = _; rw [hs], ho.join x⟩
  rw [e]; unfold LogM.hereF; rw [hw]; show (true && ((m.put x _).seat x).here) = true; rw [hs]; rfl
theorem gone_left (m : LogM) (ho : m.Ok) (x : Int) (hh : m.hereF x = true) : (m.leaveF x).2 = 0 ∧ (m.leaveF x).1.L = m.L ∧ (m.leaveF x).1.hereF x = false ∧ (m.leaveF x).1.Ok := by
  have hw := (LogM.hereF_writer hh).1
  have e : m.leaveF x = (m.put x ⟨false, (m.seat x).last, (m.seat x).seen⟩, 0) := by unfold LogM.leaveF; rw [hh]; rfl
  have hs := seat_put m x x ⟨false, (m.seat x).last, (m.seat x).seen⟩ hw hw
  rw [if_pos rfl] at hs
  refine ⟨by rw [e], by rw [e]; rfl, ?_, ho.leave x⟩
  rw [e]; unfold LogM.hereF; rw [hw]; show (true && ((m.put x _).seat x).here) = false; rw [hs]; rfl
theorem there_again (m : LogM) (x : Int) (hw : isWriter x = true) (hh : m.hereF x = true) : m.joinF x = (m, 0, 6) := by
  unfold LogM.joinF; rw [if_pos hw, (LogM.hereF_writer hh).2]; rfl
theorem says_old (m : LogM) (x : Int) (hh : m.hereF x = true) (hs : (m.seat x).seen = m.L.length) : m.saysF x ((m.L.length : Int) - 1) = (m, 8) := by
  unfold LogM.saysF; rw [hh, if_pos rfl, if_pos (.inl (by omega))]
theorem says_all (m : LogM) (x : Int) (hh : m.hereF x = true) (hs : (m.seat x).seen = m.L.length) : (m.saysF x (m.L.length : Int)).2 = 0 := by
  unfold LogM.saysF; rw [hh, if_pos rfl, if_neg (by omega)]

set_option maxRecDepth 100000 in
set_option maxHeartbeats 1000000 in
theorem LogComes_c (a : Option Addr) (cap : Nat) (l : List LStep) (y : Int) (w : World) (hs : SlLs w a cap l) (hok : ∀ x ∈ l, x.ok) (_ : i64ok y) :
    Calls Try.prog 10 #[.slice a l.length cap, .int .i64 y] w fun e w' => e = .returned (.bool true) ∧ Below w.heap.size w w' := by
  have HXK := Lib.hid hok; clear hok
  go_enter Try.func10, Try.ntmps10
  go_wp2_with fail
  refine (logBegun_c _).mono ?_
  rintro e w1 ⟨rfl, hb1⟩
  have hs1 := hs.below hb1
  clear hs
  go_wp2_with fail
  refine (greatLog_c a cap l _ hs1).mono ?_
  rintro e w2 ⟨r, rfl, rfl, hr⟩
  cases r
  case true =>
    clear hr
    go_wp2
    go_ret
    exact ⟨rfl, hb1⟩
  obtain ⟨hl150, _⟩ := hr rfl
  clear hr
  obtain ⟨yw, hyw⟩ : ∃ yw, yw = isWriter y := ⟨_, rfl⟩
  have HYW := Lib.hid hyw; clear hyw
  have HIW := Lib.hid (fun W => show Calls Try.prog 21 #[.int .i64 y] W fun e w' => e = .returned (.bool yw) ∧ w' = W by rw [HYW.out]; exact IsWriter_c y W)
  cases yw
  · go_wp2_with (go_at_call 21; refine (HIW.out _).mono ?_; rintro e w2 ⟨rfl, rfl⟩)
    go_ret
    exact ⟨rfl, hb1⟩
  go_upto_region 5 with (go_at_call 21; refine (HIW.out _).mono ?_; rintro e w2 ⟨rfl, rfl⟩)
  clear HIW
  go_wp2_with fail
  refine (New_log _).mono ?_
  rintro e w3 ⟨F, g, rfl, hL3, hb3⟩
  have HL3 := Lib.hid hL3
  clear hL3
  go_upto_region 6 with fail
  generalize hw4 : w3.alloc _ = w4
  obtain ⟨hB4, hb4⟩ := both_new HL3.out hw4.symm
  have HB4 := Lib.hid hB4
  have hx4 : Below w2.heap.size w2 w4 := hb3.trans (hb4.mono hb3.size)
  clear hw4 hB4 hb4 hb3 HL3
  generalize w3.heap.size = b at *
  obtain ⟨base, hbase⟩ : ∃ base, base = w2.heap.size := ⟨_, rfl⟩
  rw [← hbase] at HB4 hx4
  have HBS := Lib.hid hbase
  have HBZ := Lib.hid (show base ≤ w2.heap.size from Nat.le_of_eq hbase); clear hbase
  have HB1 := Lib.hid hb1; clear hb1
  have HS1 := Lib.hid hs1; clear hs1
  go_wp2
  go_loopw [7] (fun s5 wr => ∃ k : Nat, k ≤ l.length ∧ s5 = (.int .i64 k) ∧ Hid (Both wr base g b (LogM.new.steps (l.take k))) ∧ Below base w2 wr) (fun s5 _ => l.length - (intOf s5).toNat)
  case atStart => exact ⟨0, Nat.zero_le _, rfl, HB4, hx4⟩
  case round =>
    obtain ⟨k, hk, rfl, HB, hbr⟩ := hrel
    by_cases hlt : k < l.length
    · have hsr := HS1.out.below (by rw [← HBS.out]; exact hbr)
      obtain ⟨bb, off, rfl, q0, q1, q2, q3, q4, q5, q6, q7, q8, q9, q10⟩ := hsr.nth hlt
      have HST := Lib.hid (steps_snoc l k hlt)
      have HMK := Lib.hid (steps_ok l k)
      have HXO := Lib.hid (HXK.out l[k] (List.getElem_mem hlt))
      have hlt' : (k : Int) < l.length := by omega
      have hk0 : (0 : Int) ≤ (k : Int) := by omega
      generalize LogM.new.steps (l.take k) = m at *
      generalize hx : l[k] = x at *
      clear hx hsr
      go_wp2_with fail
      refine (logStep_c HB.out HMK.out x HXO.out).mono ?_
      rintro e w5 ⟨rfl, hB5, hb5⟩
      have HB5 := Lib.hid hB5
      have hx5 := hbr.trans hb5
      clear hB5 hb5 hbr q0 q1 q2 q3 q4 q5 q6 q7 q8 q9 q10 HB
      go_wp2
      exact ⟨⟨k + 1, by omega, by go_num, Lib.hid (by rw [HST.out]; exact HB5.out), hx5⟩, by simp [intOf]; omega⟩
    · obtain rfl : k = l.length := by omega
      have HMK := Lib.hid (steps_ok l l.length)
      have hml := HMK.out.len
      generalize LogM.new.steps (l.take l.length) = m at *
      obtain ⟨F5, B5, hL5, _, _⟩ := HB.out
      have HL5 := Lib.hid hL5
      have HR5 := Lib.hid hbr
      clear hL5 HB HB4 hx4 hlt hbr
      go_wp2_with fail
      refine (Chars_c HL5.out HMK.out).mono ?_
      rintro e w6 ⟨aW, capW, rfl, hoW, hb6⟩
      have HL6 := Lib.hid (HL5.out.later hb6)
      have HOW := Lib.hid hoW
      have HNF := Lib.hid (show ∀ k, ownB aW capW = some k → ¬ F5 k from fun k h1 h2 => by have := (hoW.base_le k h1).1; have := (HL5.out.foot k h2).2; omega)
      have HR6 := Lib.hid (HR5.out.trans (hb6.mono (Nat.le_trans HBZ.out HR5.out.size)))
      obtain ⟨CL, hCL⟩ : ∃ CL, CL = m.chars.length := ⟨_, rfl⟩
      have HCL := Lib.hid hCL.symm
      rw [← hCL]
      clear hoW hb6 HL5 HR5 hCL
      go_upto_region 11 with fail
      obtain ⟨bl, hbl⟩ : ∃ bl : Bool, bl = false := ⟨_, rfl⟩
      go_cut [52] (fun s52 wx => s52 = .bool false ∧ ∃ m1 : LogM, LogAt wx base F5 g m1 ∧ Moves F5 w6 wx ∧ m1.L = m.L ∧ m1.hereF y = false ∧ m1.Ok)
      case first =>
        obtain ⟨hh, hhe⟩ : ∃ hh, hh = m.hereF y := ⟨_, rfl⟩
        have HHE := Lib.hid hhe; clear hhe
        cases hh
        · go_wp2_with (go_at_call 31; refine (Here_b HL6.out y false HHE.out.symm).mono ?_; rintro e w7 ⟨rfl, rfl⟩)
          go_meet
          exact ⟨rfl, m, HL6.out, Moves.refl _ _, rfl, HHE.out.symm, HMK.out⟩
        · obtain ⟨g1, g2, g3, g4⟩ := gone_left m HMK.out y HHE.out.symm
          have HG1 := Lib.hid g1; have HG2 := Lib.hid g2; have HG3 := Lib.hid g3; have HG4 := Lib.hid g4
          clear g1 g2 g3 g4
          go_wp2_with (first | (go_at_call 31; refine (Here_b HL6.out y true HHE.out.symm).mono ?_; rintro e w7 ⟨rfl, rfl⟩) | (go_at_call 39; refine (Leave_c HL6.out y).mono ?_; rintro e w8 ⟨rfl, hL8, hM8⟩; rw [HG1.out]))
          go_meet
          exact ⟨rfl, _, hL8, hM8, HG2.out, HG3.out, HG4.out⟩
      case rest =>
        obtain ⟨rfl, m1, hL7, hM7, hm1, hh1, hk1⟩ := hcut
        obtain ⟨w7, hw7⟩ : ∃ w7, w7 = wc := ⟨_, rfl⟩
        rw [← hw7] at hL7 hM7 ⊢
        clear hw7 wc
        have HL7 := Lib.hid hL7
        have HR7 := Lib.hid (HR6.out.trans (HL6.out.below hM7))
        have HO7 := Lib.hid (HOW.out.moves hM7 HNF.out)
        obtain ⟨j1, j2, j3, j4, j5⟩ := came m1 hk1 y HYW.out.symm hh1
        have HJ1 := Lib.hid (show (m1.joinF y).2 = (cntBy y m.L + 1, 0) by rw [j1, hm1])
        have HJ2 := Lib.hid (j2.trans hm1)
        have HJ3 := Lib.hid j3
        have HJ4 := Lib.hid (show ((m1.joinF y).1.seat y).seen = m.L.length by rw [j4, hm1])
        have HJ5 := Lib.hid j5
        have HK1 := Lib.hid hk1
        clear hL7 hM7 hm1 hh1 hk1 j1 j2 j3 j4 j5 HL6 HR6 HOW bl hbl
        go_wp2_with fail
        refine (Join_c HL7.out y HK1.out).mono ?_
        rintro e w8 ⟨rfl, hL8, hM8⟩
        rw [HJ1.out]
        simp only
        generalize (m1.joinF y).1 = m2 at *
        have HL8 := Lib.hid hL8
        have HR8 := Lib.hid (HR7.out.trans (HL7.out.below hM8))
        have HO8 := Lib.hid (HO7.out.moves hM8 HNF.out)
        clear hL8 hM8 HL7 HR7 HO7 HJ1
        go_wp2
        go_loopw [11, 12] (fun s11 s12 wx => ∃ n : Nat, n ≤ m.L.length ∧ s12 = (.int .i64 ((n : Int) + 1)) ∧ s11 = (.int .i64 (cntBy y (m.L.take n))) ∧ Below w8.heap.size w8 wx) (fun _ s12 _ => m.L.length + 1 - (intOf s12).toNat)
        case atStart => exact ⟨0, Nat.zero_le _, rfl, rfl, Below.refl _ _⟩
        case round =>
          obtain ⟨n, hn, rfl, rfl, hby⟩ := hrel
          have HLx := Lib.hid (HL8.out.later hby)
          go_wp2_with fail
          refine (Len_c HLx.out).mono ?_
          rintro e w9 ⟨rfl, rfl⟩
          rw [HJ2.out]
          by_cases hnl : n < m.L.length
          · have hnB : decide ((n : Int) + 1 ≤ (m.L.length : Int)) = true := decide_eq_true (by omega)
            go_wp2_with fail
            refine (Deed_c HLx.out _).mono ?_
            rintro e wq ⟨hb7, h7⟩
            rcases h7 with ⟨_, h⟩ | ⟨q, hq, hq1, rfl⟩
            · exfalso; rw [HJ2.out] at h; omega
            obtain rfl : q = n := by omega
            have HDO := Lib.hid (HMK.out.deeds q hnl)
            have hdq : m2.L[q] = m.L[q] := by simp only [HJ2.out]
            rw [hdq]
            have HCN := Lib.hid (show cntBy y (m.L.take (q + 1)) = cntBy y (m.L.take q) + if m.L[q].By = y then 1 else 0 from by rw [List.take_succ_eq_append_getElem hnl, cntBy_add])
            clear hq1 hdq hq
            generalize m.L[q] = d at *
            have hbd := (Below.refl wq.heap.size wq).alloc (Nat.le_refl _) (.cells #[.int .i64 d.Kind, .int .i64 d.By, .int .i64 d.No, .int .i64 d.Seen, .int .i64 d.At, .int .i64 d.Many, .string d.Text] 25)
            have hd8 := DdAt.new wq d
            go_upto_region 19 with fail
            generalize hw8 : wq.alloc _ = wz
            have hw8' : wz = wq.alloc (.cells #[.int .i64 d.Kind, .int .i64 d.By, .int .i64 d.No, .int .i64 d.Seen, .int .i64 d.At, .int .i64 d.Many, .string d.Text] 25) := hw8.symm
            rw [← hw8'] at hbd hd8
            clear hw8 hw8'
            have hxz : Below w8.heap.size w8 wz := (hby.trans (hb7.mono hby.size)).trans (hbd.mono (Nat.le_trans hby.size hb7.size))
            obtain ⟨dlt, d0, d1, d2, d3, d4, d5, d6⟩ := hd8
            clear hbd hb7 hby HLx hn hnB d0 d3 d4 d5 d6
            by_cases hbyy : d.By = y
            · have hbB : (d.By == y) = true := by simpa using hbyy
              have HE := Lib.hid (show d.No = cntBy y (m.L.take (q + 1)) by
                rw [HCN.out, if_pos hbyy, HDO.out.no, hbyy])
              clear hbyy
              go_wp2
              exact ⟨⟨q + 1, by omega, by go_num, by rw [HE.out], hxz⟩, by simp [intOf]; omega⟩
            · have hbB : (d.By == y) = false := by simpa using hbyy
              have HE := Lib.hid (show cntBy y (m.L.take (q + 1)) = cntBy y (m.L.take q) by
                rw [HCN.out, if_neg hbyy, Int.add_zero])
              clear hbyy
              go_wp2
              exact ⟨⟨q + 1, by omega, by go_num, by rw [HE.out], hxz⟩, by simp [intOf]; omega⟩
          · obtain rfl : n = m.L.length := by omega
            have hnB : decide ((m.L.length : Int) + 1 ≤ (m.L.length : Int)) = false := decide_eq_false (by omega)
            have HR9 := Lib.hid (HR8.out.trans (hby.mono (Nat.le_trans HBZ.out HR8.out.size)))
            have HO9 := Lib.hid (HO8.out.below hby)
            rw [List.take_length]
            have hcn0 := cntBy_nonneg y m.L
            have hcn1 := cntBy_le y m.L
            have hinc : IntKind.i64.wrap (cntBy y m.L + 1) = cntBy y m.L + 1 := by rw [IntKind.wrap_i64]; omega
            have hdec : IntKind.i64.wrap ((m.L.length : Int) - 1) = (m.L.length : Int) - 1 := by rw [IntKind.wrap_i64]; omega
            generalize cntBy y m.L = cn at *
            have HAG := Lib.hid (there_again m2 y HYW.out.symm HJ3.out)
            clear hby hnl hn
            go_wp2_with fail
            refine (Join_c HLx.out y HJ5.out).mono ?_
            rintro e w10 ⟨rfl, hL10, hM10⟩
            rw [HAG.out] at hL10 ⊢
            simp only at hL10 ⊢
            have HL10 := Lib.hid hL10
            have HR10 := Lib.hid (HR9.out.trans (HLx.out.below hM10))
            have HO10 := Lib.hid (HO9.out.moves hM10 HNF.out)
            clear hL10 hM10 HLx HR9 HO9 HAG
            go_wp2_with fail
            refine (Here_b HL10.out y true HJ3.out).mono ?_
            rintro e w11 ⟨rfl, rfl⟩
            go_wp2_with fail
            refine (Chars_c HL10.out HJ5.out).mono ?_
            rintro e w12 ⟨aZ, capZ, rfl, hoZ, hb12⟩
            have hcc : m2.chars = m.chars := by unfold LogM.chars; rw [HJ2.out]
            rw [hcc] at hoZ ⊢
            rw [HCL.out]
            have HZ12 := Lib.hid hoZ.slCh
            have HO12 := Lib.hid (HO10.out.below hb12).slCh
            have HL12 := Lib.hid (HL10.out.later hb12)
            have HR12 := Lib.hid (HR10.out.trans (hb12.mono (Nat.le_trans HBZ.out HR10.out.size)))
            clear hcc hoZ hb12 HL10 HR10 HO10
            go_wp2_with fail
            refine (Same_t aW aZ capW capZ m.chars CL HCL.out _ HO12.out HZ12.out).mono ?_
            rintro e w13 ⟨rfl, hb13⟩
            have HL13 := Lib.hid (HL12.out.later hb13)
            have HR13 := Lib.hid (HR12.out.trans (hb13.mono (Nat.le_trans HBZ.out HR12.out.size)))
            clear hb13 HL12 HR12 HO12 HZ12
            go_wp2_with fail
            refine (Len_c HL13.out).mono ?_
            rintro e w14 ⟨rfl, rfl⟩
            rw [HJ2.out]
            have HSO := Lib.hid (says_old m2 y HJ3.out (by rw [HJ4.out, HJ2.out]))
            have HSA := Lib.hid (says_all m2 y HJ3.out (by rw [HJ4.out, HJ2.out]))
            rw [HJ2.out] at HSO HSA
            by_cases hz : m.L.length = 0
            · have hzB : ((m.L.length : Int) == 0) = true := beq_iff_eq.2 (by omega)
              clear hz hinc hdec
              go_wp2_with fail
              refine (Len_c HL13.out).mono ?_
              rintro e w15 ⟨rfl, rfl⟩
              rw [HJ2.out]
              go_wp2_with fail
              refine (Says_c HL13.out y _).mono ?_
              rintro e w16 ⟨rfl, hL16, hM16⟩
              rw [HSA.out]
              have HRF := Lib.hid (HR13.out.trans (HL13.out.below hM16))
              clear hL16 hM16
              go_wp2
              go_ret
              exact ⟨rfl, HB1.out.trans (HRF.out.mono (by rw [HBS.out]; exact HB1.out.size))⟩
            · have hzB : ((m.L.length : Int) == 0) = false := beq_eq_false_iff_ne.2 (by omega)
              clear hz hinc
              go_wp2_with fail
              refine (Len_c HL13.out).mono ?_
              rintro e w15 ⟨rfl, rfl⟩
              rw [HJ2.out]
              go_wp2_with fail
              refine (Says_c HL13.out y _).mono ?_
              rintro e w16 ⟨rfl, hL16, hM16⟩
              rw [HSO.out] at hL16 ⊢
              simp only at hL16 ⊢
              have HL16 := Lib.hid hL16
              have HR16 := Lib.hid (HR13.out.trans (HL13.out.below hM16))
              clear hL16 hM16 HL13 HR13 HSO
              go_wp2_with fail
              refine (Len_c HL16.out).mono ?_
              rintro e w17 ⟨rfl, rfl⟩
              rw [HJ2.out]
              go_wp2_with fail
              refine (Says_c HL16.out y _).mono ?_
              rintro e w18 ⟨rfl, hL18, hM18⟩
              rw [HSA.out]
              have HRF := Lib.hid (HR16.out.trans (HL16.out.below hM18))
              clear hL18 hM18
              go_wp2
              go_ret
              exact ⟨rfl, HB1.out.trans (HRF.out.mono (by rw [HBS.out]; exact HB1.out.size))⟩
end Go.Proofs.Ytneoeokfffnonab
