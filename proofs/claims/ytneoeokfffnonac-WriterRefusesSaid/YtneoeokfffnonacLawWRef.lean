/- Printed by genrefuses.py: the walk of the law WriterRefuses. -/
import Derived.Test.YtneoeokfffnonacRoomA
import Derived.Test.YtneoeokfffnonacCmpW
set_option linter.unusedVariables false
set_option linter.unusedSimpArgs false
namespace Go.Proofs.Ytneoeokfffnonac
open Go.RowKit
theorem mod_4R (x : Int) : ∃ K : Nat, wrap64 ((IntKind.u64.wrap x).tmod 4) = (K : Int) ∧ K < 4 := by
  have hu : 0 ≤ IntKind.u64.wrap x := by
    have : IntKind.u64.wrap x = x % 18446744073709551616 := by simp [IntKind.wrap, IntKind.signed, IntKind.bits]
    rw [this]; exact Int.emod_nonneg _ (by decide)
  rw [Int.tmod_eq_emod_of_nonneg hu]
  have h1 := Int.emod_nonneg (IntKind.u64.wrap x) (show (4 : Int) ≠ 0 by omega)
  have h2 := Int.emod_lt_of_pos (IntKind.u64.wrap x) (show (0 : Int) < (4 : Int) by omega)
  generalize IntKind.u64.wrap x % (4 : Int) = q at *
  refine ⟨q.toNat, ?_, by omega⟩
  unfold wrap64
  omega
theorem SameChars_r (a b : Option Addr) (capa capb : Nat) (l : List Ch) (n : Nat) (hn : l.length = n) (w : World) (hs : SlCh w a capa l) (hs' : SlCh w b capb l) :
    Calls Try.prog 25 #[.slice a n capa, .slice b n capb] w fun e w' => e = .returned (.bool true) ∧ Below w.heap.size w w' := by
  subst hn
  refine (SameChars_c a b capa capb l l w hs hs').mono ?_
  rintro e w' ⟨rfl, hb⟩
  exact ⟨by simp, hb⟩
theorem may_kind {l : List Ch} {d : Dd} (h1 : d.Kind ≠ 1) (h2 : d.Kind ≠ 2) : mayDo l d ≠ 0 := fun h => by
  rcases (deedFault_zero (mayDo_zero h).1).2.2.2.2.2.2.2 with ⟨k, _⟩ | ⟨k, _⟩
  · exact h1 k
  · exact h2 k
set_option maxRecDepth 100000 in
set_option maxHeartbeats 4000000 in
theorem WriterRefuses_c (a : Option Addr) (cap : Nat) (l : List RStep) (d : Dd) (y : Int) (w : World) (hs : SlRs w a cap l) (hok : ∀ x ∈ l, x.ok) (hd : d.ok) (hy : i64ok y) :
    Calls Try.prog 3 #[.slice a l.length cap, .agg #[.int .i64 d.Kind, .int .i64 d.By, .int .i64 d.No, .int .i64 d.Seen, .int .i64 d.At, .int .i64 d.Many, .string d.Text], .int .i64 y] w fun e w' => e = .returned (.bool true) ∧ Below w.heap.size w w' := by
  have HOK := Lib.hid hok
  have HDK := Lib.hid hd
  have hb0 := (Below.refl w.heap.size w).alloc (Nat.le_refl _) (.cells #[.int .i64 d.Kind, .int .i64 d.By, .int .i64 d.No, .int .i64 d.Seen, .int .i64 d.At, .int .i64 d.Many, .string d.Text] 24)
  have HS0 := Lib.hid (hs.below hb0)
  have HX0 := Lib.hid (DdAt.new w d)
  have HB0 := Lib.hid hb0
  clear hok hd hb0 hs
  go_enter Try.func3, Try.ntmps3
  go_upto_region 1 with fail
  generalize hw0 : w.alloc _ = w0
  have hw0' : w.alloc (.cells #[.int .i64 d.Kind, .int .i64 d.By, .int .i64 d.No, .int .i64 d.Seen, .int .i64 d.At, .int .i64 d.Many, .string d.Text] 24) = w0 := hw0
  rw [hw0'] at HS0 HX0 HB0
  clear hw0 hw0'
  obtain ⟨B0, hB0⟩ : ∃ B0, B0 = w.heap.size := ⟨_, rfl⟩
  rw [← hB0] at HX0 HB0 ⊢
  have HBE := Lib.hid hB0
  clear hB0
  go_wp2_with fail
  refine (writerBegun_c w0).mono ?_
  rintro e w1 ⟨rfl, hb1⟩
  have HS1 := Lib.hid (HS0.out.below hb1)
  have HX1 := Lib.hid (HX0.out.later hb1)
  have HB1 := Lib.hid (HB0.out.trans (hb1.mono (by have := HB0.out.size; rw [HBE.out]; exact this)))
  clear hb1 HS0 HX0 HB0
  go_wp2_with fail
  refine (greatRoom_c a cap l w1 HS1.out).mono ?_
  rintro e w2 ⟨r, rfl, rfl, hr⟩
  cases r
  case true =>
    go_wp2
    go_ret
    exact ⟨rfl, (by have h := HB1.out; rw [HBE.out] at h; exact h)⟩
  obtain ⟨hl160, _⟩ := hr rfl
  clear hr
  have hXl := HX1.out.lt
  by_cases ht1 : 100 < d.Text.size
  · have h1 : decide (100 < (d.Text.size : Int)) = true := by simp; omega
    have h1' : decide ((d.Text.size : Int) > 100) = true := h1
    obtain ⟨_, _, _, _, _, _, _, x6⟩ := HX1.out
    clear ht1
    go_wp2
    go_ret
    exact ⟨rfl, (by have h := HB1.out; rw [HBE.out] at h; exact h)⟩
  have h1 : decide (100 < (d.Text.size : Int)) = false := by simp; omega
  have h1' : decide ((d.Text.size : Int) > 100) = false := h1
  have x6 := HX1.out.c6
  clear ht1
  obtain ⟨K, hK, hK4⟩ := mod_4R y
  have hKw : isWriter (K : Int) = true := isWriter_nat hK4
  go_wp2_with fail
  refine (newRoom_c w2).mono ?_
  rintro e w3 ⟨F0, g, gw0, gs0, rfl, hR, hb3⟩
  have HI0 := Lib.hid (show DkM.new.Ok ∧ DkM.new.Sm 0 ∧ RW w2 w2.heap.size g DkM.new w3 from ⟨DkM.new_ok, DkM.new_sm, ⟨_, _, _, hR⟩, hb3⟩)
  clear hR hb3 x6 h1 h1'
  go_wp2
  go_loopw [8] (fun s8 wr => ∃ (k : Nat) (D : DkM), k ≤ l.length ∧ s8 = (.int .i64 k) ∧ Hid (D.Ok ∧ D.Sm k ∧ RW w2 w2.heap.size g D wr)) (fun s8 _ => l.length - (intOf s8).toNat)
  case atStart => exact ⟨0, DkM.new, Nat.zero_le _, rfl, HI0⟩
  case round =>
    obtain ⟨k, D, hk, rfl, HI⟩ := hrel
    clear HI0
    by_cases hlt : k < l.length
    · have HSr := Lib.hid (HS1.out.below HI.out.2.2.2)
      obtain ⟨bb, off, rfl, hq⟩ := HSr.out.nth hlt
      have HX := Lib.hid (HOK.out l[k] (List.getElem_mem hlt))
      have hlt' : (k : Int) < l.length := by omega
      have hk0 : (0 : Int) ≤ (k : Int) := by omega
      generalize l[k] = x at *
      obtain ⟨q0, q1, q2, q3, q4⟩ := hq
      have HO := Lib.hid HI.out.1
      have HSM := Lib.hid (show D.Sm 1000 from HI.out.2.1.mono (by omega))
      have HSK := Lib.hid HI.out.2.1
      have HRW := Lib.hid HI.out.2.2
      clear HI HSr
      go_wp2_with fail
      refine (RStep_RW HRW.out HO.out HSM.out x HX.out).mono ?_
      rintro e w6 ⟨rfl, hb6, hs6, hrw⟩
      clear q0 q1 q2 q3 q4
      cases hov : D.over x with
      | true =>
        have HB6 := Lib.hid (HB1.out.trans (hb6.mono (by have := HB1.out.size; rw [HBE.out]; exact this)))
        clear hb6 hrw
        go_wp2
        go_ret
        exact ⟨rfl, (by have h := HB6.out; rw [HBE.out] at h; exact h)⟩
      | false =>
        have HI6 := Lib.hid (show (D.room false x).Ok ∧ (D.room false x).Sm (k + 1) ∧ RW w2 w2.heap.size g (D.room false x) w6 from ⟨HO.out.room false x, HSK.out.room false x, hrw hov⟩)
        clear hb6 hrw hov HRW
        go_wp2
        exact ⟨⟨k + 1, D.room false x, by omega, by go_num, HI6⟩, by simp [intOf]; omega⟩
    · obtain rfl : k = l.length := by omega
      have hltB : decide ((l.length : Int) < (l.length : Int)) = false := by simp
      have HO := Lib.hid HI.out.1
      have HSM := Lib.hid (show D.Sm 1000 from HI.out.2.1.mono (by omega))
      have HBr := Lib.hid (HB1.out.trans (HI.out.2.2.2.mono (by have := HB1.out.size; rw [HBE.out]; exact this)))
      have HXr := Lib.hid (HX1.out.later HI.out.2.2.2)
      obtain ⟨⟨F, gw, gs, hrm⟩, _⟩ := HI.out.2.2
      have c1 := (hrm.cells K hK4).1
      have HRm := Lib.hid hrm
      have hK0 : (0 : Int) ≤ (K : Int) := by omega
      have hK4' : (K : Int) < 4 := by omega
      clear HI hrm HX1 HB1
      cases hW : D.W K with
      | none =>
        unfold DkM.ptrN at c1
        rw [hW] at c1
        clear hW
        go_wp2
        go_ret
        exact ⟨rfl, (by have h := HBr.out; rw [HBE.out] at h; exact h)⟩
      | some m =>
        have hWN : D.writer (K : Int) = some m := by unfold DkM.writer; rw [if_pos hKw]; simpa using hW
        have HWN := Lib.hid hWN
        unfold DkM.ptrN at c1
        rw [hW] at c1
        obtain ⟨FW, hFW, hcx, hwr, hpx⟩ := HRm.out.wrZ hK4 hW
        clear hcx hpx
        obtain ⟨_, hme, _, t, hin⟩ := HO.out.of_writer hWN
        have hos : m.opn.length ≤ 1000 := HSM.out.writer hWN
        obtain ⟨hn1, hn2⟩ := hin.next_le HO.out.lm 1000 hos
        have hcl := hin.chars_len HO.out.lm
        have hsl := hin.seen
        have hlen := HO.out.lm.len
        have HWR := Lib.hid hwr
        have HCG := Lib.hid (hin.chars_gone HO.out.lm)
        have HNS := Lib.hid hin.ns
        have HNX := Lib.hid (show 0 ≤ m.v.next ∧ m.v.next ≤ 1000000 from by show 0 ≤ m.next ∧ m.next ≤ 1000000; omega)
        have HSN := Lib.hid (show 0 ≤ m.v.seen ∧ m.v.seen ≤ 1000000 from by show 0 ≤ (m.seen : Int) ∧ (m.seen : Int) ≤ 1000000; omega)
        have HKI := Lib.hid hin.kinds
        have HLL := Lib.hid (show m.v.L.length ≤ 1000 from by show m.chars.length ≤ 1000; omega)
        have HOL := Lib.hid (show m.v.os.length ≤ 1000000 from by show m.opn.length ≤ 1000000; omega)
        have HDL := Lib.hid (show m.ds.length = m.v.os.length from by unfold WM.ds; rw [List.length_map]; rfl)
        have HXE := Lib.hid (show B0 ≤ w2.heap.size from by omega)
        have HFB := Lib.hid (show ∀ k, FW k → w2.heap.size ≤ k from fun k hk => (HRm.out.foot k (hFW k hk).1).1)
        obtain ⟨gx, hgx⟩ : ∃ gx, gx = gw K := ⟨_, rfl⟩
        rw [← hgx] at c1 HWR
        obtain ⟨s, hsv⟩ : ∃ s, s = m.v := ⟨_, rfl⟩
        have HSV := Lib.hid (show s.os = m.opn ∧ m.ds = s.os.map (·.d) from by rw [hsv]; exact ⟨rfl, rfl⟩)
        rw [← hsv] at HWR HNX HSN HLL HOL HDL
        have HCG2 := Lib.hid (show ∀ c ∈ s.L, i64ok c.Gone from by rw [hsv]; exact HCG.out)
        have HNS2 := Lib.hid (show s.ns ≤ s.os.length from by rw [hsv]; exact HNS.out)
        have hvs : s.me = (K : Int) := by rw [hsv]; exact hme
        have HKI2 := Lib.hid (show ∀ o ∈ s.os, o.d.Kind = 1 ∨ o.d.Kind = 2 from by rw [HSV.out.1]; exact HKI.out)
        clear hsv hW hWN hme hin hos hn1 hn2 hcl hsl hlen hwr hgx hFW HCG HNS HKI HRm HWN t
        -- its list, its text, how far it has seen, what it has open
        go_wp2_with fail
        refine (WChars_c HWR.out HLL.out).mono ?_
        rintro e w4 ⟨aC, cC, rfl, hoC, hb4⟩
        have HW4 := Lib.hid (HWR.out.later hb4)
        have HX4 := Lib.hid (HXr.out.later hb4)
        have HB4 := Lib.hid (HBr.out.trans (hb4.mono (by have := HBr.out.size; rw [HBE.out]; exact this)))
        have HOC4 := Lib.hid hoC
        have HFC := Lib.hid (show ∀ i, ownB aC cC = some i → ¬ FW i from fun i hi e => by have h1 := (hoC.base_le i hi).1; have h2 := (HWR.out.foot i e).2; omega)
        clear hoC hb4 HWR HXr HBr c1
        go_wp2_with fail
        refine (WText_c HW4.out HLL.out).mono ?_
        rintro e w5 ⟨rfl, hb5⟩
        have HW5 := Lib.hid (HW4.out.later hb5)
        have HX5 := Lib.hid (HX4.out.later hb5)
        have HB5 := Lib.hid (HB4.out.trans (hb5.mono (by have := HB4.out.size; rw [HBE.out]; exact this)))
        have HOC5 := Lib.hid (HOC4.out.below hb5)
        clear hb5 HW4 HX4 HB4 HOC4
        obtain ⟨S, hS⟩ : ∃ S, S = strOfNums (viewN s.seen s.me s.L) := ⟨_, rfl⟩
        rw [← hS]
        have HSE := Lib.hid hS
        clear hS
        go_wp2_with fail
        refine (WSeen_c HW5.out).mono ?_
        rintro e w6 ⟨rfl, rfl⟩
        go_wp2_with fail
        refine (WOpen_c HW5.out HOL.out).mono ?_
        rintro e w7 ⟨aO, cO, rfl, hoO, hb7⟩
        have HW7 := Lib.hid (HW5.out.later hb7)
        have HX7 := Lib.hid (HX5.out.later hb7)
        have HB7 := Lib.hid (HB5.out.trans (hb7.mono (by have := HB5.out.size; rw [HBE.out]; exact this)))
        have HOC7 := Lib.hid (HOC5.out.below hb7)
        have HOO7 := Lib.hid hoO
        have HFO := Lib.hid (show ∀ i, ownB aO cO = some i → ¬ FW i from fun i hi e => by have h1 := (hoO.base_le i hi).1; have h2 := (HW5.out.foot i e).2; omega)
        clear hoO hb7 HW5 HX5 HB5 HOC5
        have HNF := Lib.hid (show ¬ FW B0 from fun e => by have := HFB.out B0 e; have := hXl; omega)
        obtain ⟨_, x0, x1, x2, x3, x4, x5, x6⟩ := HX7.out
        by_cases hk1 : d.Kind = 1
        · have HK1 := Lib.hid hk1
          rw [hk1] at x0
          clear hk1
          go_wp2_with fail
          refine (WPut_c HW7.out HCG2.out HLL.out HOL.out HNS2.out d.At d.Text HDK.out.2.2.2.2.2.2 HNX.out).mono ?_
          rintro e w9 hp
          rcases hp with ⟨hc, rfl, hw9, hm9⟩ | ⟨hc, rfl, F9, hw9, hm9, _⟩
          · obtain ⟨code, hcode⟩ : ∃ code, code = mayDo s.L (s.deed ⟨1, 0, 0, 0, d.At, 0, d.Text⟩) := ⟨_, rfl⟩
            rw [← hcode] at hc ⊢
            have hcB : (code == 0) = false := by simpa using hc
            have hcD : decide (code = 0) = false := decide_eq_false hc
            have hcN : (code != 0) = true := by simpa using hc
            clear hc hcode
            have HW9 := Lib.hid hw9
            have HB9 := Lib.hid (HB7.out.trans ((HW7.out.below hm9).mono (by have := HFB.out gx HW7.out.fg; have := HXE.out; omega)))
            have HC9 := Lib.hid ((HOC7.out.moves hm9 HFC.out).slCh)
            have HO9 := Lib.hid (show SlDd w9 aO cO m.ds from OwnRow.slDd (by rw [HDL.out, HSV.out.2]; exact HOO7.out.moves hm9 HFO.out))
            clear hw9 hm9 HW7 HX7 HB7 HOC7 HOO7 x0 x1 x2 x3 x4 x5 x6
            go_wp2_with fail
            refine (WChars_c HW9.out HLL.out).mono ?_
            rintro e w10 ⟨a10, c10, rfl, ho10, hb10⟩
            have HW10 := Lib.hid (HW9.out.later hb10)
            have HB10 := Lib.hid (HB9.out.trans (hb10.mono (by have := HB9.out.size; rw [HBE.out]; exact this)))
            have HC10 := Lib.hid (HC9.out.below hb10)
            have HD10 := Lib.hid ho10.slCh
            have HO10 := Lib.hid (HO9.out.below hb10)
            clear ho10 hb10 HW9 HB9 HC9 HO9
            go_wp2_with fail
            refine (SameChars_r aC a10 cC c10 s.L s.L.length rfl w10 HC10.out HD10.out).mono ?_
            rintro e w11 ⟨rfl, hb11⟩
            have HW11 := Lib.hid (HW10.out.later hb11)
            have HB11 := Lib.hid (HB10.out.trans (hb11.mono (by have := HB10.out.size; rw [HBE.out]; exact this)))
            have HO11 := Lib.hid (HO10.out.below hb11)
            clear hb11 HW10 HB10 HC10 HD10 HO10
            go_wp2_with fail
            refine (WText_c HW11.out HLL.out).mono ?_
            rintro e w12 ⟨rfl, hb12⟩
            rw [← HSE.out]
            have HW12 := Lib.hid (HW11.out.later hb12)
            have HB12 := Lib.hid (HB11.out.trans (hb12.mono (by have := HB11.out.size; rw [HBE.out]; exact this)))
            have HO12 := Lib.hid (HO11.out.below hb12)
            clear hb12 HW11 HB11 HO11
            go_wp2_with fail
            refine (WSeen_c HW12.out).mono ?_
            rintro e w13 ⟨rfl, rfl⟩
            go_wp2_with fail
            refine (WOpen_c HW12.out HOL.out).mono ?_
            rintro e w14 ⟨a14, c14, rfl, ho14, hb14⟩
            have HB14 := Lib.hid (HB12.out.trans (hb14.mono (by have := HB12.out.size; rw [HBE.out]; exact this)))
            have HO14 := Lib.hid (HO12.out.below hb14)
            have HP14 := Lib.hid (show SlDd w14 a14 c14 m.ds from OwnRow.slDd (by rw [HDL.out, HSV.out.2]; exact ho14))
            clear ho14 hb14 HW12 HB12 HO12
            go_wp2_with fail
            refine (SameDeeds_r aO a14 cO c14 m.ds s.os.length HDL.out w14 HO14.out HP14.out).mono ?_
            rintro e w15 ⟨rfl, hb15⟩
            have HB15 := Lib.hid (HB14.out.trans (hb15.mono (by have := HB14.out.size; rw [HBE.out]; exact this)))
            clear hb15 HB14 HO14 HP14
            go_wp2
            go_ret
            exact ⟨rfl, (by have h := HB15.out; rw [HBE.out] at h; exact h)⟩
          · have HB9 := Lib.hid (HB7.out.trans ((HW7.out.below hm9).mono (by have := HFB.out gx HW7.out.fg; have := HXE.out; omega)))
            have x0 := (hm9.cell HX7.out.lt HNF.out 0).trans x0
            clear hc hw9 hm9 HW7 HX7 HB7 HOC7 HOO7 x1 x2 x3 x4 x5 x6
            go_wp2
            go_ret
            exact ⟨rfl, (by have h := HB9.out; rw [HBE.out] at h; exact h)⟩
        · by_cases hk2 : d.Kind = 2
          · have HK2 := Lib.hid hk2
            rw [hk2] at x0
            clear hk1 hk2
            go_wp2_with fail
            refine (WTake_c HW7.out HCG2.out HLL.out HOL.out HNS2.out d.At d.Many HDK.out.2.2.2.2.2.1 HNX.out).mono ?_
            rintro e w9 hp
            rcases hp with ⟨hc, rfl, hw9, hm9⟩ | ⟨hc, rfl, F9, hw9, hm9, _⟩
            · obtain ⟨code, hcode⟩ : ∃ code, code = mayDo s.L (s.deed ⟨2, 0, 0, 0, d.At, d.Many, ⟨#[]⟩⟩) := ⟨_, rfl⟩
              rw [← hcode] at hc ⊢
              have hcB : (code == 0) = false := by simpa using hc
              have hcD : decide (code = 0) = false := decide_eq_false hc
              have hcN : (code != 0) = true := by simpa using hc
              clear hc hcode
              have HW9 := Lib.hid hw9
              have HB9 := Lib.hid (HB7.out.trans ((HW7.out.below hm9).mono (by have := HFB.out gx HW7.out.fg; have := HXE.out; omega)))
              have HC9 := Lib.hid ((HOC7.out.moves hm9 HFC.out).slCh)
              have HO9 := Lib.hid (show SlDd w9 aO cO m.ds from OwnRow.slDd (by rw [HDL.out, HSV.out.2]; exact HOO7.out.moves hm9 HFO.out))
              clear hw9 hm9 HW7 HX7 HB7 HOC7 HOO7 x0 x1 x2 x3 x4 x5 x6
              go_wp2_with fail
              refine (WChars_c HW9.out HLL.out).mono ?_
              rintro e w10 ⟨a10, c10, rfl, ho10, hb10⟩
              have HW10 := Lib.hid (HW9.out.later hb10)
              have HB10 := Lib.hid (HB9.out.trans (hb10.mono (by have := HB9.out.size; rw [HBE.out]; exact this)))
              have HC10 := Lib.hid (HC9.out.below hb10)
              have HD10 := Lib.hid ho10.slCh
              have HO10 := Lib.hid (HO9.out.below hb10)
              clear ho10 hb10 HW9 HB9 HC9 HO9
              go_wp2_with fail
              refine (SameChars_r aC a10 cC c10 s.L s.L.length rfl w10 HC10.out HD10.out).mono ?_
              rintro e w11 ⟨rfl, hb11⟩
              have HW11 := Lib.hid (HW10.out.later hb11)
              have HB11 := Lib.hid (HB10.out.trans (hb11.mono (by have := HB10.out.size; rw [HBE.out]; exact this)))
              have HO11 := Lib.hid (HO10.out.below hb11)
              clear hb11 HW10 HB10 HC10 HD10 HO10
              go_wp2_with fail
              refine (WText_c HW11.out HLL.out).mono ?_
              rintro e w12 ⟨rfl, hb12⟩
              rw [← HSE.out]
              have HW12 := Lib.hid (HW11.out.later hb12)
              have HB12 := Lib.hid (HB11.out.trans (hb12.mono (by have := HB11.out.size; rw [HBE.out]; exact this)))
              have HO12 := Lib.hid (HO11.out.below hb12)
              clear hb12 HW11 HB11 HO11
              go_wp2_with fail
              refine (WSeen_c HW12.out).mono ?_
              rintro e w13 ⟨rfl, rfl⟩
              go_wp2_with fail
              refine (WOpen_c HW12.out HOL.out).mono ?_
              rintro e w14 ⟨a14, c14, rfl, ho14, hb14⟩
              have HB14 := Lib.hid (HB12.out.trans (hb14.mono (by have := HB12.out.size; rw [HBE.out]; exact this)))
              have HO14 := Lib.hid (HO12.out.below hb14)
              have HP14 := Lib.hid (show SlDd w14 a14 c14 m.ds from OwnRow.slDd (by rw [HDL.out, HSV.out.2]; exact ho14))
              clear ho14 hb14 HW12 HB12 HO12
              go_wp2_with fail
              refine (SameDeeds_r aO a14 cO c14 m.ds s.os.length HDL.out w14 HO14.out HP14.out).mono ?_
              rintro e w15 ⟨rfl, hb15⟩
              have HB15 := Lib.hid (HB14.out.trans (hb15.mono (by have := HB14.out.size; rw [HBE.out]; exact this)))
              clear hb15 HB14 HO14 HP14
              go_wp2
              go_ret
              exact ⟨rfl, (by have h := HB15.out; rw [HBE.out] at h; exact h)⟩
            · have HB9 := Lib.hid (HB7.out.trans ((HW7.out.below hm9).mono (by have := HFB.out gx HW7.out.fg; have := HXE.out; omega)))
              have x0 := (hm9.cell HX7.out.lt HNF.out 0).trans x0
              clear hc hw9 hm9 HW7 HX7 HB7 HOC7 HOO7 x1 x2 x3 x4 x5 x6
              go_wp2
              go_ret
              exact ⟨rfl, (by have h := HB9.out; rw [HBE.out] at h; exact h)⟩
          · have hk1B : decide (d.Kind = 1) = false := decide_eq_false hk1
            have hk1B2 : (d.Kind == 1) = false := by simpa using hk1
            have hk2B : decide (d.Kind = 2) = false := decide_eq_false hk2
            have hk2B2 : (d.Kind == 2) = false := by simpa using hk2
            have HMK := Lib.hid (may_kind (l := s.L) hk1 hk2)
            have HK1 := Lib.hid hk1
            have HK2 := Lib.hid hk2
            clear hk1 hk2
            go_wp2_with fail
            refine (WHear_c HW7.out HCG2.out HLL.out HOL.out HSN.out d HDK.out.2.2.2.2.2.2 HDK.out.2.2.2.2.2.1).mono ?_
            rintro e w9 hp
            rcases hp with ⟨_, rfl, hm9, hcs⟩ | ⟨_, _, rfl, hm9, hw9⟩ | ⟨_, o, os, hop, hod, _, _, _⟩
            · have hcc : (doF s.L d (s.seen + 1)).2 = mayDo s.L d := doF_codeR _ _ _ (by have := HSN.out; omega)
              have hw9 : WrAt w9 w2.heap.size FW gx s := by
                rcases hcs with ⟨_, h⟩ | ⟨h, _⟩
                · exact h
                · rw [hcc] at h; exact absurd h HMK.out
              have hc : (doF s.L d (s.seen + 1)).2 ≠ 0 := by rw [hcc]; exact HMK.out
              clear hcs hcc
              obtain ⟨code, hcode⟩ : ∃ code, code = (doF s.L d (s.seen + 1)).2 := ⟨_, rfl⟩
              rw [← hcode] at hc ⊢
              have hcB : (code == 0) = false := by simpa using hc
              have hcD : decide (code = 0) = false := decide_eq_false hc
              have hcN : (code != 0) = true := by simpa using hc
              clear hc hcode
              have HW9 := Lib.hid hw9
              have HB9 := Lib.hid (HB7.out.trans ((HW7.out.below hm9).mono (by have := HFB.out gx HW7.out.fg; have := HXE.out; omega)))
              have HC9 := Lib.hid ((HOC7.out.moves hm9 HFC.out).slCh)
              have HO9 := Lib.hid (show SlDd w9 aO cO m.ds from OwnRow.slDd (by rw [HDL.out, HSV.out.2]; exact HOO7.out.moves hm9 HFO.out))
              clear hw9 hm9 HW7 HX7 HB7 HOC7 HOO7 x0 x1 x2 x3 x4 x5 x6
              go_wp2_with fail
              refine (WChars_c HW9.out HLL.out).mono ?_
              rintro e w10 ⟨a10, c10, rfl, ho10, hb10⟩
              have HW10 := Lib.hid (HW9.out.later hb10)
              have HB10 := Lib.hid (HB9.out.trans (hb10.mono (by have := HB9.out.size; rw [HBE.out]; exact this)))
              have HC10 := Lib.hid (HC9.out.below hb10)
              have HD10 := Lib.hid ho10.slCh
              have HO10 := Lib.hid (HO9.out.below hb10)
              clear ho10 hb10 HW9 HB9 HC9 HO9
              go_wp2_with fail
              refine (SameChars_r aC a10 cC c10 s.L s.L.length rfl w10 HC10.out HD10.out).mono ?_
              rintro e w11 ⟨rfl, hb11⟩
              have HW11 := Lib.hid (HW10.out.later hb11)
              have HB11 := Lib.hid (HB10.out.trans (hb11.mono (by have := HB10.out.size; rw [HBE.out]; exact this)))
              have HO11 := Lib.hid (HO10.out.below hb11)
              clear hb11 HW10 HB10 HC10 HD10 HO10
              go_wp2_with fail
              refine (WText_c HW11.out HLL.out).mono ?_
              rintro e w12 ⟨rfl, hb12⟩
              rw [← HSE.out]
              have HW12 := Lib.hid (HW11.out.later hb12)
              have HB12 := Lib.hid (HB11.out.trans (hb12.mono (by have := HB11.out.size; rw [HBE.out]; exact this)))
              have HO12 := Lib.hid (HO11.out.below hb12)
              clear hb12 HW11 HB11 HO11
              go_wp2_with fail
              refine (WSeen_c HW12.out).mono ?_
              rintro e w13 ⟨rfl, rfl⟩
              go_wp2_with fail
              refine (WOpen_c HW12.out HOL.out).mono ?_
              rintro e w14 ⟨a14, c14, rfl, ho14, hb14⟩
              have HB14 := Lib.hid (HB12.out.trans (hb14.mono (by have := HB12.out.size; rw [HBE.out]; exact this)))
              have HO14 := Lib.hid (HO12.out.below hb14)
              have HP14 := Lib.hid (show SlDd w14 a14 c14 m.ds from OwnRow.slDd (by rw [HDL.out, HSV.out.2]; exact ho14))
              clear ho14 hb14 HW12 HB12 HO12
              go_wp2_with fail
              refine (SameDeeds_r aO a14 cO c14 m.ds s.os.length HDL.out w14 HO14.out HP14.out).mono ?_
              rintro e w15 ⟨rfl, hb15⟩
              have HB15 := Lib.hid (HB14.out.trans (hb15.mono (by have := HB14.out.size; rw [HBE.out]; exact this)))
              clear hb15 HB14 HO14 HP14
              go_wp2
              go_ret
              exact ⟨rfl, (by have h := HB15.out; rw [HBE.out] at h; exact h)⟩
            · have hc : (12 : Int) ≠ 0 := by omega
              clear hc
              have HW9 := Lib.hid hw9
              have HB9 := Lib.hid (HB7.out.trans ((HW7.out.below hm9).mono (by have := HFB.out gx HW7.out.fg; have := HXE.out; omega)))
              have HC9 := Lib.hid ((HOC7.out.moves hm9 HFC.out).slCh)
              have HO9 := Lib.hid (show SlDd w9 aO cO m.ds from OwnRow.slDd (by rw [HDL.out, HSV.out.2]; exact HOO7.out.moves hm9 HFO.out))
              clear hw9 hm9 HW7 HX7 HB7 HOC7 HOO7 x0 x1 x2 x3 x4 x5 x6
              go_wp2_with fail
              refine (WChars_c HW9.out HLL.out).mono ?_
              rintro e w10 ⟨a10, c10, rfl, ho10, hb10⟩
              have HW10 := Lib.hid (HW9.out.later hb10)
              have HB10 := Lib.hid (HB9.out.trans (hb10.mono (by have := HB9.out.size; rw [HBE.out]; exact this)))
              have HC10 := Lib.hid (HC9.out.below hb10)
              have HD10 := Lib.hid ho10.slCh
              have HO10 := Lib.hid (HO9.out.below hb10)
              clear ho10 hb10 HW9 HB9 HC9 HO9
              go_wp2_with fail
              refine (SameChars_r aC a10 cC c10 s.L s.L.length rfl w10 HC10.out HD10.out).mono ?_
              rintro e w11 ⟨rfl, hb11⟩
              have HW11 := Lib.hid (HW10.out.later hb11)
              have HB11 := Lib.hid (HB10.out.trans (hb11.mono (by have := HB10.out.size; rw [HBE.out]; exact this)))
              have HO11 := Lib.hid (HO10.out.below hb11)
              clear hb11 HW10 HB10 HC10 HD10 HO10
              go_wp2_with fail
              refine (WText_c HW11.out HLL.out).mono ?_
              rintro e w12 ⟨rfl, hb12⟩
              rw [← HSE.out]
              have HW12 := Lib.hid (HW11.out.later hb12)
              have HB12 := Lib.hid (HB11.out.trans (hb12.mono (by have := HB11.out.size; rw [HBE.out]; exact this)))
              have HO12 := Lib.hid (HO11.out.below hb12)
              clear hb12 HW11 HB11 HO11
              go_wp2_with fail
              refine (WSeen_c HW12.out).mono ?_
              rintro e w13 ⟨rfl, rfl⟩
              go_wp2_with fail
              refine (WOpen_c HW12.out HOL.out).mono ?_
              rintro e w14 ⟨a14, c14, rfl, ho14, hb14⟩
              have HB14 := Lib.hid (HB12.out.trans (hb14.mono (by have := HB12.out.size; rw [HBE.out]; exact this)))
              have HO14 := Lib.hid (HO12.out.below hb14)
              have HP14 := Lib.hid (show SlDd w14 a14 c14 m.ds from OwnRow.slDd (by rw [HDL.out, HSV.out.2]; exact ho14))
              clear ho14 hb14 HW12 HB12 HO12
              go_wp2_with fail
              refine (SameDeeds_r aO a14 cO c14 m.ds s.os.length HDL.out w14 HO14.out HP14.out).mono ?_
              rintro e w15 ⟨rfl, hb15⟩
              have HB15 := Lib.hid (HB14.out.trans (hb15.mono (by have := HB14.out.size; rw [HBE.out]; exact this)))
              clear hb15 HB14 HO14 HP14
              go_wp2
              go_ret
              exact ⟨rfl, (by have h := HB15.out; rw [HBE.out] at h; exact h)⟩
            · exfalso
              rcases HKI2.out o (by rw [hop]; exact List.mem_cons_self) with h | h
              · rw [hod] at h; exact HK1.out h
              · rw [hod] at h; exact HK2.out h
end Go.Proofs.Ytneoeokfffnonac
