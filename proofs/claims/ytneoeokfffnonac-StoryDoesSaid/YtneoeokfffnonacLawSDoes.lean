/- The walk of the law StoryDoes. -/
import Derived.Test.YtneoeokfffnonacStoR
set_option linter.unusedVariables false
set_option linter.unusedSimpArgs false
namespace Go.Proofs.Ytneoeokfffnonac
open Go.RowKit
set_option maxRecDepth 100000 in
set_option maxHeartbeats 2000000 in
theorem StoryDoes_c (a : Option Addr) (cap : Nat) (l : List DStep) (n : Int) (x : Ch) (w : World) (hs : SlSt w a cap l) (hok : ∀ x ∈ l, x.ok) (_hn : i64ok n) (_hx : x.ok) :
    Calls Try.prog 11 #[.slice a l.length cap, .int .i64 n, .agg #[.int .u8 x.C, .int .i64 x.By, .int .i64 x.No, .int .i64 x.K, .int .i64 x.In, .int .i64 x.Out, .int .i64 x.Gone]] w fun e w' => e = .returned (.bool true) ∧ Below w.heap.size w w' := by
  have HOK := Lib.hid hok
  have hb0 := (Below.refl w.heap.size w).alloc (Nat.le_refl _) (.cells #[.int .u8 x.C, .int .i64 x.By, .int .i64 x.No, .int .i64 x.K, .int .i64 x.In, .int .i64 x.Out, .int .i64 x.Gone] 86)
  have HS0 := Lib.hid (hs.below hb0)
  have HX0 := Lib.hid (show ChAt (w.alloc (.cells #[.int .u8 x.C, .int .i64 x.By, .int .i64 x.No, .int .i64 x.K, .int .i64 x.In, .int .i64 x.Out, .int .i64 x.Gone] 86)) w.heap.size 0 x by simp [ChAt])
  have HB0 := Lib.hid hb0
  clear hok hs hb0 _hn _hx
  go_enter Try.func11, Try.ntmps11
  go_upto_region 1 with fail
  generalize hw0 : w.alloc _ = w0
  have hw0' : w.alloc (.cells #[.int .u8 x.C, .int .i64 x.By, .int .i64 x.No, .int .i64 x.K, .int .i64 x.In, .int .i64 x.Out, .int .i64 x.Gone] 86) = w0 := hw0
  rw [hw0'] at HX0 HB0 HS0
  clear hw0 hw0'
  obtain ⟨X, hX⟩ : ∃ X, X = w.heap.size := ⟨_, rfl⟩
  have HXW := Lib.hid hX
  rw [← hX] at HX0 HB0 ⊢
  clear hX
  go_wp2_with fail
  refine (storyBegun_c w0).mono ?_
  rintro e w1 ⟨rfl, hb1⟩
  have HS1 := Lib.hid (HS0.out.below hb1)
  have HX1 := Lib.hid (HX0.out.below hb1 HX0.out.lt)
  have HB1 := Lib.hid (HB0.out.trans (hb1.mono (Nat.le_of_lt HX0.out.lt)))
  clear HS0 HX0 HB0 hb1
  go_wp2_with fail
  refine (greatSteps_c a cap l w1 HS1.out).mono ?_
  rintro e w2 ⟨r, rfl, rfl, hr⟩
  cases r
  case true =>
    go_wp2
    go_ret
    exact ⟨rfl, by rw [← HXW.out]; exact HB1.out⟩
  obtain ⟨hl200, _⟩ := hr rfl
  clear hr
  go_wp2_with fail
  refine (played_c a cap l w2 HS1.out HOK.out hl200).mono ?_
  rintro e w3 ⟨g, rfl, h3⟩
  have H3 := Lib.hid h3
  have HO := Lib.hid (show (DkM.new.plays l).Ok from DkM.Ok.plays _ DkM.new_ok)
  have HX3 := Lib.hid (HX1.out.below h3.2 HX1.out.lt)
  have HB3 := Lib.hid (HB1.out.trans (h3.2.mono (Nat.le_of_lt HX1.out.lt)))
  clear h3 HS1 HX1 HB1
  obtain ⟨gl, FL, c0, hlog, hglt⟩ := H3.out.log
  have HLG := Lib.hid hlog
  clear hlog
  generalize DkM.new.plays l = D at *
  go_wp2_with fail
  refine (StOf_c HLG.out HO.out.lm).mono ?_
  rintro e w4 ⟨gs, rfl, hst, hb4⟩
  have HST := Lib.hid hst
  have HX4 := Lib.hid (HX3.out.below hb4 HX3.out.lt)
  have HB4 := Lib.hid (HB3.out.trans (hb4.mono (Nat.le_of_lt HX3.out.lt)))
  have HD4 := Lib.hid (H3.out.later hb4)
  have c4 := (hb4.cell (p := ⟨g, 0, none⟩) hglt).trans c0
  have hg4 : g < w4.heap.size := Nat.lt_of_lt_of_le hglt hb4.size
  have HLG4 := Lib.hid (HLG.out.later hb4)
  have HLO := Lib.hid HO.out.lm.lok
  have hlen := HO.out.lm.len
  clear hst hb4 HLG c0 hglt HX3 HB3 H3
  obtain ⟨⟨FD, gwD, hD4⟩, _⟩ := HD4.out
  have HDO := Lib.hid (deedsOf_c hD4 HO.out)
  have HTXT := Lib.hid (show Calls Try.prog 46 #[.pointer (some ⟨gl, 0, none⟩)] w4 fun e w' => e = .returned (.string (strOfNums (textF D.lm.chars))) ∧ Below w4.heap.size w4 w' from LText_c HLG4.out HO.out.lm)
  clear hD4 HD4 HTXT
  obtain ⟨S, hS⟩ : ∃ S, S = strOfNums (txtL D.lm.L D.lm.L.length) := ⟨_, rfl⟩
  have HLT := Lib.hid (fun W (h : LogAt W w2.heap.size FL gl D.lm) => show Calls Try.prog 46 #[.pointer (some ⟨gl, 0, none⟩)] W fun e w' => e = .returned (.string S) ∧ Below W.heap.size W w' by
    have e : textF D.lm.chars = txtL D.lm.L D.lm.L.length := by rw [← HLO.out.txt _ (Nat.le_refl _), pre_len]; rfl
    rw [hS, ← e]; exact LText_c h HO.out.lm)
  have HSE := Lib.hid hS.symm
  clear hS HO
  generalize D.lm = lm at *
  obtain ⟨M, hM⟩ : ∃ M, lm.L.length = M := ⟨_, rfl⟩
  have HM := Lib.hid hM
  rw [hM] at HDO hlen
  clear hM
  obtain ⟨T, c, bs, N, R, hN, hTx, hBy, hWh, hTo, hWi⟩ := story_any HLO.out n x
  have HN := Lib.hid hN; have HTX := Lib.hid hTx; have HBY := Lib.hid hBy; have HWH := Lib.hid hWh; have HTO := Lib.hid hTo; have HWI := Lib.hid hWi
  clear hN hTx hBy hWh hTo hWi
  go_wp2_with fail
  refine HDO.out.mono ?_
  rintro e w5 ⟨ad, capd, rfl, hod, hb5⟩
  have HSD := Lib.hid (show SlDd w5 ad capd lm.L from by rw [← HM.out] at hod; exact hod.slDd)
  have hcapd : M ≤ capd := by have := HSD.out.1; rw [HM.out] at this; exact this
  have HST5 := Lib.hid (HST.out.later hb5)
  have HX5 := Lib.hid (HX4.out.below hb5 HX4.out.lt)
  have HB5 := Lib.hid (HB4.out.trans (hb5.mono (Nat.le_of_lt HX4.out.lt)))
  have c5 := (hb5.cell (p := ⟨g, 0, none⟩) hg4).trans c4
  have hg5 : g < w5.heap.size := Nat.lt_of_lt_of_le hg4 hb5.size
  have HLG5 := Lib.hid (HLG4.out.later hb5)
  clear hod hb5 HST HX4 HB4 HLG4 c4 hg4 HDO
  go_wp2_with fail
  refine (HTX.out _ _ HST5.out).mono ?_
  rintro e w6 ⟨rfl, hb6⟩
  have HSD6 := Lib.hid (HSD.out.below hb6)
  have HST6 := Lib.hid (HST5.out.later hb6)
  have HX6 := Lib.hid (HX5.out.below hb6 HX5.out.lt)
  have HB6 := Lib.hid (HB5.out.trans (hb6.mono (Nat.le_of_lt HX5.out.lt)))
  have c6 := (hb6.cell (p := ⟨g, 0, none⟩) hg5).trans c5
  have hg6 : g < w6.heap.size := Nat.lt_of_lt_of_le hg5 hb6.size
  have HLG6 := Lib.hid (HLG5.out.later hb6)
  clear hb6 HSD HST5 HX5 HB5 HLG5 c5 hg5 HTX
  go_wp2_with fail
  refine (HBY.out _ _ HST6.out).mono ?_
  rintro e w7 ⟨pa, pc, rfl, hp, hb7⟩
  have HP7 := Lib.hid hp
  have HSD7 := Lib.hid (HSD6.out.below hb7)
  have HST7 := Lib.hid (HST6.out.later hb7)
  have HX7 := Lib.hid (HX6.out.below hb7 HX6.out.lt)
  have HB7 := Lib.hid (HB6.out.trans (hb7.mono (Nat.le_of_lt HX6.out.lt)))
  have c7 := (hb7.cell (p := ⟨g, 0, none⟩) hg6).trans c6
  have hg7 : g < w7.heap.size := Nat.lt_of_lt_of_le hg6 hb7.size
  have HLG7 := Lib.hid (HLG6.out.later hb7)
  clear hp hb7 HSD6 HST6 HX6 HB6 HLG6 c6 hg6 HBY
  go_wp2_with fail
  refine (HTO.out _ ad capd M HM.out HSD7.out).mono ?_
  rintro e w8 ⟨qa, qc, rfl, hq, hb8⟩
  have HP8 := Lib.hid (HP7.out.below hb8)
  have HQ8 := Lib.hid hq
  have HSD8 := Lib.hid (HSD7.out.below hb8)
  have HST8 := Lib.hid (HST7.out.later hb8)
  have HX8 := Lib.hid (HX7.out.below hb8 HX7.out.lt)
  have HB8 := Lib.hid (HB7.out.trans (hb8.mono (Nat.le_of_lt HX7.out.lt)))
  have c8 := (hb8.cell (p := ⟨g, 0, none⟩) hg7).trans c7
  have hg8 : g < w8.heap.size := Nat.lt_of_lt_of_le hg7 hb8.size
  have HLG8 := Lib.hid (HLG7.out.later hb8)
  clear hq hb8 HSD7 HST7 HX7 HB7 HLG7 c7 hg7 HTO HP7
  go_upto_region 13 with fail
  obtain ⟨y0, y1, y2, y3, y4, y5, y6⟩ := HX8.out
  have Y0 := later_cell y0
  have Y1 := later_cell y1
  have Y2 := later_cell y2
  have Y3 := later_cell y3
  have Y4 := later_cell y4
  have Y5 := later_cell y5
  have Y6 := later_cell y6
  have hL : ∀ q : Lt w8, Later w8 q.v := fun q => q.h
  clear y0 y1 y2 y3 y4 y5 y6
  have hMw : IntKind.i64.wrap ((M : Int) + 1) = (M : Int) + 1 := by rw [IntKind.wrap_i64]; omega
  refine wp_region_mix [] [0, 1, 2, 3, 4, 5, 6, 7, 8, 9, 10, 11, 12, 13, 14, 15, 16, 17, 18, 19, 20, 21, 22, 23, 24, 25, 26, 27, 28, 29, 30, 31, 32, 33, 34, 35, 36, 37] (by kernel_rfl) (by kernel_rfl) ?_
  iterate 1 (refine wpMix_step rfl (fun K hK => ?_); go_simp; refine hK _ _ ?_; clear hK K)
  refine wpMix_step rfl (fun K hK => ?_)
  go_simp
  refine ⟨_, fun p => quietM_same p (SLen_z (HST8.out.later (hL p)) ((M : Int) + 1) (by rw [HM.out])), hK _ _ ?_⟩
  clear hK K
  iterate 12 (refine wpMix_step rfl (fun K hK => ?_); go_simp; refine hK _ _ ?_; clear hK K)
  refine wpMix_step rfl (fun K hK => ?_)
  go_simp
  refine ⟨_, fun p => quietM p (SameInts_t pa qa pc qc bs N HN.out p.v (HP8.out.below (hL p)) (HQ8.out.below (hL p))), hK _ _ ?_⟩
  clear hK K
  iterate 16 (refine wpMix_step rfl (fun K hK => ?_); go_simp; refine hK _ _ ?_; clear hK K)
  refine wpMix_step rfl (fun K hK => ?_)
  go_simp
  refine ⟨_, fun p => quietM p (HWH.out _ _ (HST8.out.later (hL p))), hK _ _ ?_⟩
  clear hK K
  iterate 3 (refine wpMix_step rfl (fun K hK => ?_); go_simp; refine hK _ _ ?_; clear hK K)
  refine wpMix_step rfl (fun K hK => ?_)
  go_simp
  refine ⟨_, fun p => quietM p (HWI.out _ ad capd M HM.out (HSD8.out.below (hL p))), hK _ _ ?_⟩
  clear hK K
  iterate 2 (refine wpMix_step rfl (fun K hK => ?_); go_simp; refine hK _ _ ?_; clear hK K)
  refine wpMix_nil ?_
  intro w9 hL9
  have HST9 := Lib.hid (HST8.out.later hL9)
  have HB9 := Lib.hid (HB8.out.trans (hL9.mono (Nat.le_of_lt HX8.out.lt)))
  have c9 := (hL9.cell (p := ⟨g, 0, none⟩) hg8).trans c8
  have hg9 : g < w9.heap.size := Nat.lt_of_lt_of_le hg8 hL9.size
  have hx9 : X ≤ w9.heap.size := Nat.le_trans (Nat.le_of_lt HX8.out.lt) hL9.size
  have HLG9 := Lib.hid (HLG8.out.later hL9)
  clear hL9 hL Y0 Y1 Y2 Y3 Y4 Y5 Y6 HSD8 HST8 HX8 HB8 HLG8 c8 hg8 HP8 HQ8 HWH HWI hMw
  go_wp2_with fail
  refine (SText_z HST9.out (M : Int) M rfl (by rw [HM.out]; omega) HLO.out S (by have := HSE.out; rw [HM.out] at this; exact this)).mono ?_
  rintro e w10 ⟨rfl, hb10⟩
  have HB10 := Lib.hid (HB9.out.trans (hb10.mono hx9))
  have c10 := (hb10.cell (p := ⟨g, 0, none⟩) hg9).trans c9
  have HLG10 := Lib.hid (HLG9.out.later hb10)
  have hx10 : X ≤ w10.heap.size := Nat.le_trans hx9 hb10.size
  clear hb10 HST9 HB9 HLG9 c9 hg9
  go_wp2_with fail
  refine (HLT.out _ HLG10.out).mono ?_
  rintro e w11 ⟨rfl, hb11⟩
  have HB11 := Lib.hid (HB10.out.trans (hb11.mono hx10))
  clear hb11 HB10 HLT HLG10 c10
  go_wp2
  go_ret
  exact ⟨rfl, by rw [← HXW.out]; exact HB11.out⟩
end Go.Proofs.Ytneoeokfffnonac
