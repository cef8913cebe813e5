/- The walk of the law StoryWhere. -/
import Derived.Test.YtneoeokfffnonacStoW
set_option linter.unusedVariables false
set_option linter.unusedSimpArgs false
namespace Go.Proofs.Ytneoeokfffnonac
open Go.RowKit
set_option maxRecDepth 100000 in
set_option maxHeartbeats 1000000 in
theorem StoryWhere_c (a : Option Addr) (cap : Nat) (l : List DStep) (x : Ch) (w : World) (hs : SlSt w a cap l) (hok : ∀ x ∈ l, x.ok) (_hx : x.ok) :
    Calls Try.prog 13 #[.slice a l.length cap, .agg #[.int .u8 x.C, .int .i64 x.By, .int .i64 x.No, .int .i64 x.K, .int .i64 x.In, .int .i64 x.Out, .int .i64 x.Gone]] w fun e w' => e = .returned (.bool true) ∧ Below w.heap.size w w' := by
  have HOK := Lib.hid hok
  have hb0 := (Below.refl w.heap.size w).alloc (Nat.le_refl _) (.cells #[.int .u8 x.C, .int .i64 x.By, .int .i64 x.No, .int .i64 x.K, .int .i64 x.In, .int .i64 x.Out, .int .i64 x.Gone] 86)
  have HS0 := Lib.hid (hs.below hb0)
  have HX0 := Lib.hid (show ChAt (w.alloc (.cells #[.int .u8 x.C, .int .i64 x.By, .int .i64 x.No, .int .i64 x.K, .int .i64 x.In, .int .i64 x.Out, .int .i64 x.Gone] 86)) w.heap.size 0 x by simp [ChAt])
  have HB0 := Lib.hid hb0
  clear hok hs hb0
  go_enter Try.func13, Try.ntmps13
  go_upto_region 1 with fail
  generalize hw0 : w.alloc _ = w0
  have hw0' : w.alloc (.cells #[.int .u8 x.C, .int .i64 x.By, .int .i64 x.No, .int .i64 x.K, .int .i64 x.In, .int .i64 x.Out, .int .i64 x.Gone] 86) = w0 := hw0
  rw [hw0'] at HX0 HB0 HS0
  clear hw0 hw0'
  obtain ⟨X, hX⟩ : ∃ X, X = w.heap.size := ⟨_, rfl⟩
  have HXW := Lib.hid hX
  rw [← hX] at HX0 HB0 ⊢
  clear hX
  go_wp2_with fail
  refine (storyBegun_c w0).mono ?_
  rintro e w1 ⟨rfl, hb1⟩
  have HS1 := Lib.hid (HS0.out.below hb1)
  have HX1 := Lib.hid (HX0.out.below hb1 HX0.out.lt)
  have HB1 := Lib.hid (HB0.out.trans (hb1.mono (Nat.le_of_lt HX0.out.lt)))
  clear HS0 HX0 HB0 hb1
  go_wp2_with fail
  refine (greatSteps_c a cap l w1 HS1.out).mono ?_
  rintro e w2 ⟨r, rfl, rfl, hr⟩
  cases r
  case true =>
    go_wp2
    go_ret
    exact ⟨rfl, by rw [← HXW.out]; exact HB1.out⟩
  obtain ⟨hl200, _⟩ := hr rfl
  clear hr
  go_wp2_with fail
  refine (played_c a cap l w2 HS1.out HOK.out hl200).mono ?_
  rintro e w3 ⟨g, rfl, h3⟩
  have H3 := Lib.hid h3
  have HO := Lib.hid (show (DkM.new.plays l).Ok from DkM.Ok.plays _ DkM.new_ok)
  have HX3 := Lib.hid (HX1.out.below h3.2 HX1.out.lt)
  have HB3 := Lib.hid (HB1.out.trans (h3.2.mono (Nat.le_of_lt HX1.out.lt)))
  clear h3 HS1 HX1 HB1
  obtain ⟨gl, FL, c0, hlog, hglt⟩ := H3.out.log
  have HLG := Lib.hid hlog
  clear hlog H3
  generalize DkM.new.plays l = D at *
  go_wp2_with fail
  refine (StOf_c HLG.out HO.out.lm).mono ?_
  rintro e w4 ⟨gs, rfl, hst, hb4⟩
  have HST := Lib.hid hst
  have HX4 := Lib.hid (HX3.out.below hb4 HX3.out.lt)
  have HB4 := Lib.hid (HB3.out.trans (hb4.mono (Nat.le_of_lt HX3.out.lt)))
  have HLO := Lib.hid HO.out.lm.lok
  have hlen := HO.out.lm.len
  clear hst hb4 HLG HO c0 hglt HX3 HB3
  generalize D.lm.L = L at *
  go_wp2
  go_loopw [7, 8, 9] (fun s7 s8 s9 wr => ∃ (n : Nat) (came gone : Bool), n ≤ L.length + 1 ∧ s9 = (.int .i64 n) ∧ s7 = .bool came ∧ s8 = .bool gone ∧ Hid (WhIn L x n came gone) ∧ Hid (Below w4.heap.size w4 wr)) (fun _ _ s9 _ => L.length + 1 - (intOf s9).toNat)
  case atStart => exact ⟨0, false, false, Nat.zero_le _, rfl, rfl, rfl, Lib.hid (WhIn.start L x), Lib.hid (Below.refl _ _)⟩
  case round =>
    obtain ⟨n, came, gone, hn, rfl, rfl, rfl, HW, HB⟩ := hrel
    have HSTr := Lib.hid (HST.out.later HB.out)
    have HXr := Lib.hid (HX4.out.below HB.out HX4.out.lt)
    by_cases hlt : n < L.length + 1
    · have hltB : decide ((n : Int) < (L.length : Int) + 1) = true := decide_eq_true (by omega)
      have hnL : n ≤ L.length := by omega
      have hn0 : (0 : Int) ≤ (n : Int) := by omega
      go_wp2_with fail
      refine (SLen_c HSTr.out).mono ?_
      rintro e w5 ⟨rfl, rfl⟩
      obtain ⟨T, hT⟩ : ∃ T, strOfNums (txtL L n) = T := ⟨_, rfl⟩
      have HTL := Lib.hid (show (bysL L n).length = T.size from by rw [← hT, strOfNums_size, (txt_len L n).1, (txt_len L n).2])
      have hT200 : T.size ≤ 200 := by rw [← HTL.out, (txt_len L n).2]; exact HLO.out.alive_le n hnL
      go_wp2_with fail
      refine (SText_z HSTr.out (n : Int) n rfl hnL HLO.out T hT).mono ?_
      rintro e w6 ⟨rfl, hb6⟩
      have HST6 := Lib.hid (HSTr.out.later hb6)
      have HX6 := Lib.hid (HXr.out.below hb6 HXr.out.lt)
      have HB6 := Lib.hid (HB.out.trans (hb6.mono HB.out.size))
      clear hb6 HSTr HXr HB hT
      go_wp2_with fail
      refine (SBy_z HST6.out (n : Int) n rfl hnL HLO.out (bysL L n) rfl T.size HTL.out).mono ?_
      rintro e w7 ⟨aB, capB, rfl, hsB, hb7⟩
      have HST7 := Lib.hid (HST6.out.later hb7)
      have HX7 := Lib.hid (HX6.out.below hb7 HX6.out.lt)
      have HB7 := Lib.hid (HB6.out.trans (hb7.mono HB6.out.size))
      have HSB := Lib.hid hsB
      clear hb7 HST6 HX6 HB6 hsB
      have HWC := Lib.hid (whL_cases L n x)
      generalize hR : whL L n x = R at *
      have HR := Lib.hid hR
      clear hR
      obtain ⟨y0, y1, y2, y3, y4, y5, y6⟩ := HX7.out
      go_wp2_with fail
      refine (SWhere_z HST7.out (n : Int) n rfl hnL HLO.out x R HR.out).mono ?_
      rintro e w8 ⟨rfl, hb8⟩
      have HX8 := Lib.hid (HX7.out.below hb8 HX7.out.lt)
      have HB8 := Lib.hid (HB7.out.trans (hb8.mono HB7.out.size))
      have HS8 := Lib.hid (HSB.out.below hb8)
      clear hb8 HST7 HX7 HB7 HSB HR y0 y1 y2 y3 y4 y5 y6
      rcases HWC.out with ⟨rfl, hno⟩ | ⟨i, rfl, hi, hby, hhas⟩
      · have HN := Lib.hid (HW.out.notThere HLO.out hnL hno)
        have h1B : decide ((T.size : Int) ≤ -1) = false := decide_eq_false (by omega)
        clear hno HWC HW HS8 HX8
        go_upto_region 18 with fail
        go_quiet (fail)
        have hL9 : Later w8 (w8.drewN nq) := bl_drewN (Below.refl _ _) nq
        have HB9 := Lib.hid (HB8.out.trans (hL9.mono HB8.out.size))
        generalize w8.drewN nq = w9 at *
        clear hL9 HB8
        cases came
        · have HN2 := Lib.hid (show WhIn L x (n + 1) false gone from by have := HN.out; rw [Bool.or_false] at this; exact this)
          go_wp2
          exact ⟨⟨n + 1, false, gone, by omega, by go_num, rfl, rfl, HN2, HB9⟩, by simp [intOf]; omega⟩
        · have HN2 := Lib.hid (show WhIn L x (n + 1) true true from by have := HN.out; rw [Bool.or_true] at this; exact this)
          go_wp2
          exact ⟨⟨n + 1, true, true, by omega, by go_num, rfl, rfl, HN2, HB9⟩, by simp [intOf]; omega⟩
      · obtain ⟨hg, hN⟩ := HW.out.there HLO.out hnL hhas
        subst hg
        have HN := Lib.hid hN
        have hiT : i < T.size := by rw [← HTL.out]; exact hi
        have h1B : decide ((T.size : Int) ≤ (i : Int)) = false := decide_eq_false (by omega)
        have h2B : decide ((i : Int) < -1) = false := decide_eq_false (by omega)
        have h3B : decide ((0 : Int) ≤ (i : Int)) = true := decide_eq_true (by omega)
        have hi0 : (0 : Int) ≤ (i : Int) := by omega
        have hiT' : (i : Int) < (T.size : Int) := by omega
        obtain ⟨b2, o2, rfl, q0⟩ := HS8.out.2.2 i hi
        have hcap := HS8.out.1
        rw [hby] at q0
        rw [HTL.out] at hcap
        obtain ⟨y0, y1, y2, y3, y4, y5, y6⟩ := HX8.out
        clear hhas HWC HW hN hby hi y0 y2 y3 y4 y5 y6
        go_upto_region 18 with fail
        go_quiet (fail)
        have hL9 : Later w8 (w8.drewN nq) := bl_drewN (Below.refl _ _) nq
        have HB9 := Lib.hid (HB8.out.trans (hL9.mono HB8.out.size))
        generalize w8.drewN nq = w9 at *
        clear hL9 HB8 HX8 HS8 q0 y1
        go_wp2
        exact ⟨⟨n + 1, true, false, by omega, by go_num, rfl, rfl, HN, HB9⟩, by simp [intOf]; omega⟩
    · obtain rfl : n = L.length + 1 := by omega
      have hltB : decide ((((L.length + 1 : Nat) : Int)) < (L.length : Int) + 1) = false := decide_eq_false (by omega)
      have HBF := Lib.hid (HB4.out.trans (HB.out.mono (Nat.le_of_lt HX4.out.lt)))
      go_wp2_with fail
      refine (SLen_c HSTr.out).mono ?_
      rintro e w5 ⟨rfl, rfl⟩
      clear HW HST HX4 HB4 HB
      go_upto_region 24 with fail
      obtain ⟨y0, y1, y2, y3, y4, y5, y6⟩ := HXr.out
      have Y0 := later_cell y0
      have Y1 := later_cell y1
      have Y2 := later_cell y2
      have Y3 := later_cell y3
      have Y4 := later_cell y4
      have Y5 := later_cell y5
      have Y6 := later_cell y6
      have hL : ∀ q : Lt w5, Later w5 q.v := fun q => q.h
      clear y0 y1 y2 y3 y4 y5 y6
      refine wp_region_mix [] [0, 1, 2, 3, 4, 5, 6, 7, 8, 9, 10, 11, 12] (by kernel_rfl) (by kernel_rfl) ?_
      iterate 2 (refine wpMix_step rfl (fun K hK => ?_); go_simp; refine hK _ _ ?_; clear hK K)
      refine wpMix_step rfl (fun K hK => ?_)
      go_simp
      refine ⟨_, fun p => quietM p (SWhere_no (HSTr.out.later (hL p)) (-1) (.inl (by omega)) (by omega) x), hK _ _ ?_⟩
      clear hK K
      iterate 4 (refine wpMix_step rfl (fun K hK => ?_); go_simp; refine hK _ _ ?_; clear hK K)
      refine wpMix_step rfl (fun K hK => ?_)
      go_simp
      refine ⟨_, fun p => quietM_same p (SLen_c (HSTr.out.later (hL p))), hK _ _ ?_⟩
      clear hK K
      iterate 1 (refine wpMix_step rfl (fun K hK => ?_); go_simp; refine hK _ _ ?_; clear hK K)
      refine wpMix_step rfl (fun K hK => ?_)
      go_simp
      refine ⟨_, fun p => quietM p (SWhere_no (HSTr.out.later (hL p)) ((L.length : Int) + 1) (.inr (by omega)) (by omega) x), hK _ _ ?_⟩
      clear hK K
      iterate 3 (refine wpMix_step rfl (fun K hK => ?_); go_simp; refine hK _ _ ?_; clear hK K)
      refine wpMix_nil ?_
      intro w7 hL7
      have HB7 := Lib.hid (HBF.out.trans (hL7.mono (Nat.le_of_lt HXr.out.lt)))
      clear hL7 hL Y0 Y1 Y2 Y3 Y4 Y5 Y6 HXr HSTr
      go_wp2
      go_ret
      exact ⟨rfl, by rw [← HXW.out]; exact HB7.out⟩
end Go.Proofs.Ytneoeokfffnonac
