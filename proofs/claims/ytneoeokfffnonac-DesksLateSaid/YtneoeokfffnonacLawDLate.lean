/- The walk of the law DesksLate. -/
import Derived.Test.YtneoeokfffnonacDkM
set_option linter.unusedVariables false
set_option linter.unusedSimpArgs false
namespace Go.Proofs.Ytneoeokfffnonac
open Go.RowKit
theorem join_here {lm : LogM} {x : Int} (hx : isWriter x = true) (h : (lm.joinF x).2.2 ≠ 0) : lm.hereF x = true := by
  unfold LogM.joinF at h
  rw [if_pos hx] at h
  cases e : (lm.seat x).here
  · rw [e] at h; simp at h
  · unfold LogM.hereF; rw [hx, e]; rfl
theorem joinS_step {d : DkM} (x : Int) : d.step ⟨1, x, 0, 0, ⟨#[]⟩⟩ = if (d.lm.joinF x).2.2 = 0 then (d.set (d.lm.joinF x).1 x (some (WM.new d.lm x)), 0) else (d, (d.lm.joinF x).2.2) := by
  unfold DkM.step
  rw [if_neg (by show ¬ ((1 : Int) < 1 ∨ 7 < (1 : Int)); omega), if_pos (by show (1 : Int) = 1; rfl)]

set_option maxRecDepth 100000 in
set_option maxHeartbeats 1000000 in
theorem DesksLate_c (a : Option Addr) (cap : Nat) (l : List DStep) (y : Int) (t : ByteArray) (w : World) (hs : SlSt w a cap l) (hok : ∀ x ∈ l, x.ok) (hy : i64ok y) (ht : t.size ≤ maxLen) :
    Calls Try.prog 10 #[.slice a l.length cap, .int .i64 y, .string t] w fun e w' => e = .returned (.bool true) ∧ Below w.heap.size w w' := by
  have HOK := Lib.hid hok
  have HT := Lib.hid ht
  clear hok hy ht
  go_enter Try.func10, Try.ntmps10
  go_wp2_with fail
  refine (desksBegun_c w).mono ?_
  rintro e w1 ⟨rfl, hb1⟩
  have HS1 := Lib.hid (hs.below hb1)
  have HB1 := Lib.hid hb1
  clear hs hb1
  go_wp2_with fail
  refine (greatSteps_c a cap l w1 HS1.out).mono ?_
  rintro e w2 ⟨r, rfl, rfl, hr⟩
  cases r
  case true =>
    go_wp2
    go_ret
    exact ⟨rfl, HB1.out⟩
  obtain ⟨hl200, _⟩ := hr rfl
  clear hr
  by_cases ht1 : 100 < t.size
  · have h1 : decide (100 < (t.size : Int)) = true := by simp; omega
    clear ht1
    go_wp2
    go_ret
    exact ⟨rfl, HB1.out⟩
  have h1 : decide (100 < (t.size : Int)) = false := by simp; omega
  have HT1 := Lib.hid (show t.size ≤ 100 from by omega)
  clear ht1
  obtain ⟨K, hK, hK4⟩ := mod_4 y
  have hKw : isWriter (K : Int) = true := isWriter_nat hK4
  go_wp2_with fail
  refine (played_c a cap l w2 HS1.out HOK.out hl200).mono ?_
  rintro e w3 ⟨g, rfl, h3⟩
  have H3 := Lib.hid h3
  have HO := Lib.hid (show (DkM.new.plays l).Ok from DkM.Ok.plays _ DkM.new_ok)
  have HSm := Lib.hid (show (DkM.new.plays l).Sm 200 from (DkM.Sm.plays l DkM.new_sm).mono (by omega))
  clear h3
  generalize DkM.new.plays l = D at *
  have HX1 := Lib.hid (show (⟨1, K, 0, 0, ⟨#[]⟩⟩ : DStep).ok' from ⟨by show i64ok 0; unfold i64ok; omega, by show (0 : Nat) ≤ maxLen; exact Nat.zero_le _⟩)
  have HDO := Lib.hid (Do_DW H3.out HO.out (HSm.out.mono (by omega)) ⟨1, K, 0, 0, ⟨#[]⟩⟩ HX1.out)
  have HJS := Lib.hid (joinS_step (d := D) (K : Int))
  rw [HJS.out] at HDO
  go_wp2_with fail
  refine HDO.out.mono ?_
  rintro e w4 ⟨rfl, h4⟩
  by_cases h0 : (D.lm.joinF (K : Int)).2.2 = 0
  case neg =>
    rw [if_neg h0] at h4 ⊢
    have HHE := Lib.hid (join_here hKw h0)
    have hneB : ((D.lm.joinF (K : Int)).2.2 != 0) = true := by simpa using h0
    have hneD : decide ((D.lm.joinF (K : Int)).2.2 = 0) = false := decide_eq_false h0
    clear h0 HDO HJS
    generalize (D.lm.joinF (K : Int)).2.2 = code at *
    obtain ⟨gl, FL, c0, hlog, hglt⟩ := h4.log
    have HLG := Lib.hid hlog
    have H4 := Lib.hid (show DW w2 w2.heap.size g D w4 from h4)
    clear hlog h4
    go_wp2_with fail
    refine (Here_b HLG.out (K : Int) true HHE.out).mono ?_
    rintro e w5 ⟨rfl, rfl⟩
    go_wp2
    go_ret
    exact ⟨rfl, HB1.out.trans (H4.out.2.mono HB1.out.size)⟩
  rw [if_pos h0] at h4 ⊢
  obtain ⟨hok1, _, hh⟩ := HO.out.join (K : Int) h0
  have HJE := Lib.hid (show (D.lm.joinF (K : Int)).1.L = D.lm.L from by unfold LogM.joinF; rw [if_pos hKw, if_neg (by rw [hh]; simp)]; rfl)
  have hsm1 := HSm.out.step ⟨1, K, 0, 0, ⟨#[]⟩⟩
  rw [HJS.out, if_pos h0] at hsm1
  obtain ⟨lm1, hlm1⟩ : ∃ lm1, lm1 = (D.lm.joinF (K : Int)).1 := ⟨_, rfl⟩
  rw [← hlm1] at HJE hok1 hsm1 h4
  obtain ⟨m0, hm0⟩ : ∃ m0, m0 = WM.new D.lm (K : Int) := ⟨_, rfl⟩
  rw [← hm0] at hok1 hsm1 h4
  obtain ⟨D1, hD1⟩ : ∃ D1, D1 = D.set lm1 (K : Int) (some m0) := ⟨_, rfl⟩
  have HO1 := Lib.hid (show D1.Ok from by rw [hD1]; exact hok1)
  have HS1' := Lib.hid (show D1.Sm 201 from by rw [hD1]; exact hsm1)
  obtain ⟨gx, h4g⟩ := (show DW w2 w2.heap.size g D1 w4 from by rw [hD1]; exact h4).toG (K := K)
  have H4 := Lib.hid h4g
  have HWR := Lib.hid (show D1.writer (K : Int) = some m0 from by rw [hD1, set_writer _ _ _ _ hKw])
  have HWn := Lib.hid (show D1.W K ≠ none from by
    have := HWR.out; unfold DkM.writer at this; rw [if_pos hKw, Int.toNat_natCast] at this; rw [this]; simp)
  have HL1 := Lib.hid (show D1.lm.L = D.lm.L from by rw [hD1]; exact HJE.out)
  have HVE := Lib.hid (show D1.lm.view = D.lm.view from by unfold LogM.view; rw [HL1.out])
  have HMV := Lib.hid (show m0.view = D1.lm.view from by
    rw [HVE.out, hm0]
    show viewN ((D.lm.L.length : Nat) : Int) (K : Int) (allF D.lm.L).1 = textF (allF D.lm.L).1
    exact HO.out.lm.lok.view_all (K : Int))
  have HMO := Lib.hid (show m0.opn = [] from by rw [hm0]; rfl)
  have HMS := Lib.hid (show (m0.seen : Int) = (D1.lm.L.length : Int) from by rw [HL1.out, hm0]; rfl)
  have HMU := Lib.hid (show m0.unsent = [] ∧ m0.ns = 0 ∧ m0.me = (K : Int) from by rw [hm0]; exact ⟨rfl, rfl, rfl⟩)
  clear h0 hok1 hsm1 h4 h4g hD1 hm0 hlm1 HDO HJS hh HJE H3
  obtain ⟨⟨F4, gw4, hd4, hptr⟩, FW, hwr⟩ := H4.out.wr HO1.out HWR.out
  obtain ⟨gl, FL, c0, hlog, hglt⟩ := H4.out.dw.log
  have HD4 := Lib.hid hd4; have HP := Lib.hid hptr; have HWA := Lib.hid hwr; have HLG := Lib.hid hlog
  obtain ⟨_, hme1, _, t1, hin1⟩ := HO1.out.of_writer HWR.out
  have hcl := hin1.chars_len HO1.out.lm
  obtain ⟨S, hS⟩ : ∃ S, S = strOfNums D1.lm.view := ⟨_, rfl⟩
  have HSV := Lib.hid hS
  have HVL := Lib.hid (show S.size = D1.lm.view.length from by rw [hS, strOfNums_size])
  have HSZ := Lib.hid (show S.size ≤ 200 from by
    rw [HVL.out]
    show (viewN 1073741823 (-1) (allF D1.lm.L).1).length ≤ 200
    rw [viewN_length]
    exact Nat.le_trans (List.length_filter_le _ _) HO1.out.lm.chars_len)
  have HTX := Lib.hid (fun W (hl : Later w4 W) => show Calls Try.prog 19 #[.pointer (some ⟨gx, 0, none⟩)] W fun e w' => e = .returned (.string S) ∧ Below W.heap.size W w' from by
    rw [hS, ← HMV.out]; exact WText_c (HWA.out.later hl) (by show m0.chars.length ≤ 1000; omega))
  have HLT := Lib.hid (fun W (hl : Later w4 W) => show Calls Try.prog 46 #[.pointer (some ⟨gl, 0, none⟩)] W fun e w' => e = .returned (.string S) ∧ Below W.heap.size W w' from by
    rw [hS]; exact LText_c (HLG.out.later hl) HO1.out.lm)
  clear hd4 hptr hwr hlog hin1 hme1 hcl hS
  go_wp2_with fail
  refine (DWriter_c HD4.out (K : Int)).mono ?_
  rintro e w5 ⟨rfl, rfl⟩
  rw [HP.out]
  go_upto_region 10 with fail
  have C0 := later_cell c0
  have hL : ∀ q : Lt w5, Later w5 q.v := fun q => q.h
  refine wp_region_mix [24] [0, 1, 2, 3, 4, 5, 6, 7, 8, 9, 10, 11, 12, 13, 14, 15, 16, 17, 18, 19, 20, 21, 22, 23, 24, 25, 26, 27] (by kernel_rfl) (by kernel_rfl) ?_
  iterate 4 (refine wpMix_step rfl (fun K hK => ?_); go_simp; refine hK _ _ ?_; clear hK K)
  refine wpMix_step rfl (fun K hK => ?_)
  go_simp
  refine ⟨_, fun p => quietM p (HTX.out _ (hL p)), hK _ _ ?_⟩
  clear hK K
  iterate 4 (refine wpMix_step rfl (fun K hK => ?_); go_simp; refine hK _ _ ?_; clear hK K)
  refine wpMix_step rfl (fun K hK => ?_)
  go_simp
  refine ⟨_, fun p => quietM p (HLT.out _ (hL p)), hK _ _ ?_⟩
  clear hK K
  iterate 4 (refine wpMix_step rfl (fun K hK => ?_); go_simp; refine hK _ _ ?_; clear hK K)
  refine wpMix_step rfl (fun K hK => ?_)
  go_simp
  refine ⟨_, fun p => quietM_same p (WSeen_c (HWA.out.later (hL p))), hK _ _ ?_⟩
  rw [show m0.v.seen = (D1.lm.L.length : Int) from HMS.out]
  clear hK K
  iterate 4 (refine wpMix_step rfl (fun K hK => ?_); go_simp; refine hK _ _ ?_; clear hK K)
  refine wpMix_step rfl (fun K hK => ?_)
  go_simp
  refine ⟨_, fun p => quietM_same p (Len_c (HLG.out.later (hL p))), hK _ _ ?_⟩
  clear hK K
  iterate 4 (refine wpMix_step rfl (fun K hK => ?_); go_simp; refine hK _ _ ?_; clear hK K)
  refine wpMix_step rfl (fun K hK => ?_)
  go_simp
  intro p
  have hon : m0.v.os.length = 0 := by show m0.opn.length = 0; rw [HMO.out]; rfl
  refine (WOpen_c (HWA.out.later (hL p)) (by rw [hon]; omega)).mono ?_
  rintro e w7 ⟨aO, cO, rfl, hoO, hb7⟩
  rw [hon]
  refine ⟨_, rfl, hb7, hK _ _ ?_⟩
  have HL7 := Lib.hid (show Later w5 w7 from (hL p).trans hb7)
  clear hK K hoO hb7 p hL C0 hon
  iterate 3 (refine wpMix_step rfl (fun K hK => ?_); go_simp; refine hK _ _ ?_; clear hK K)
  refine wpMix_nil ?_
  intro w8 hL8
  have HL8 := Lib.hid (show Later w5 w8 from HL7.out.trans hL8)
  have H8 := Lib.hid (H4.out.later HL8.out)
  clear hL8 HL7 c0
  go_wp2_with fail
  refine (HTX.out _ HL8.out).mono ?_
  rintro e w9 ⟨rfl, hb9⟩
  have H9 := Lib.hid (H8.out.later hb9)
  clear hb9 H8 HTX HLT HWA HLG HD4 HP H4
  -- it puts in at the end
  have HX2 := Lib.hid (show (⟨2, K, S.size, 0, t⟩ : DStep).ok' from ⟨by show i64ok 0; unfold i64ok; omega, HT.out⟩)
  have HDO := Lib.hid (Do_DWg H9.out HO1.out (HS1'.out.mono (by omega)) HWn.out ⟨2, K, S.size, 0, t⟩ HX2.out)
  have HPS := Lib.hid (putS_step HWR.out S.size 0 t)
  rw [HPS.out] at HDO
  obtain ⟨u, hu⟩ : ∃ u, u = m0.deed 1 S.size 0 t := ⟨_, rfl⟩
  rw [← hu] at HDO HPS
  go_wp2_with fail
  refine HDO.out.mono ?_
  rintro e w10 ⟨rfl, h10⟩
  by_cases h0 : mayDo m0.chars u = 0
  case neg =>
    have e1 : (D1.put m0 u) = (D1, mayDo m0.chars u) := by unfold DkM.put; rw [if_neg h0]
    rw [e1] at h10 ⊢
    have hneB : (mayDo m0.chars u != 0) = true := by simpa using h0
    have hneD : decide (mayDo m0.chars u = 0) = false := decide_eq_false h0
    have H10 := Lib.hid h10.2
    clear h0 HDO HPS e1 h10
    generalize mayDo m0.chars u = code at *
    go_wp2
    go_ret
    exact ⟨rfl, HB1.out.trans (H10.out.mono HB1.out.size)⟩
  have hok2 := HO1.out.put HWR.out 1 S.size 0 t
  rw [← hu] at hok2
  have hsm2 := HS1'.out.step ⟨2, K, S.size, 0, t⟩
  rw [HPS.out] at hsm2
  have e1 : (D1.put m0 u) = (D1.set D1.lm (K : Int) (some (m0.doF u)), 0) := by unfold DkM.put; rw [if_pos h0, HMU.out.2.2]
  rw [e1] at h10 hok2 hsm2 ⊢
  have HVD := Lib.hid (show (m0.doF u).view = spl m0.view u from by rw [hu] at h0 ⊢; exact WM.view_do 1 S.size 0 t h0)
  obtain ⟨m1, hm1⟩ : ∃ m1, m1 = m0.doF u := ⟨_, rfl⟩
  rw [← hm1] at h10 hok2 hsm2 HVD
  obtain ⟨D2, hD2⟩ : ∃ D2, D2 = D1.set D1.lm (K : Int) (some m1) := ⟨_, rfl⟩
  have HO2 := Lib.hid (show D2.Ok from by rw [hD2]; exact hok2)
  have HS2 := Lib.hid (show D2.Sm 202 from by rw [hD2]; exact hsm2)
  have H10 := Lib.hid (show DWg w2 w2.heap.size g D2 K gx w10 from by rw [hD2]; exact h10)
  have HWR2 := Lib.hid (show D2.writer (K : Int) = some m1 from by rw [hD2, set_writer _ _ _ _ hKw])
  have HWn2 := Lib.hid (show D2.W K ≠ none from by
    have := HWR2.out; unfold DkM.writer at this; rw [if_pos hKw, Int.toNat_natCast] at this; rw [this]; simp)
  have HLM2 := Lib.hid (show D2.lm = D1.lm from by rw [hD2]; rfl)
  have HUN := Lib.hid (show m1.unsent = [u] from by
    rw [hm1]; unfold WM.unsent WM.ds WM.doF; rw [HMO.out, HMU.out.2.1]; rfl)
  have HUS := Lib.hid (show u.Seen = (D1.lm.L.length : Int) from by rw [hu]; exact HMS.out)
  have HUE := Lib.hid (show ∃ me nx, u = ⟨1, me, nx, u.Seen, (D1.lm.view.length : Nat), 0, t⟩ from ⟨m0.me, m0.next, by rw [hu, HVL.out]; rfl⟩)
  clear h0 hok2 hsm2 h10 e1 hD2 hm1 HDO HPS hu H9
  -- and sends it
  have HX3 := Lib.hid (show (⟨4, K, 0, 0, ⟨#[]⟩⟩ : DStep).ok' from ⟨by show i64ok 0; unfold i64ok; omega, by show (0 : Nat) ≤ maxLen; exact Nat.zero_le _⟩)
  have HDO := Lib.hid (Do_DWg H10.out HO2.out (HS2.out.mono (by omega)) HWn2.out ⟨4, K, 0, 0, ⟨#[]⟩⟩ HX3.out)
  have HSS := Lib.hid (sAll_step HWR2.out)
  rw [HSS.out] at HDO
  go_wp2_with fail
  refine HDO.out.mono ?_
  rintro e w11 ⟨rfl, h11⟩
  by_cases h0 : (D2.send m1).2 = 0
  case neg =>
    have hneB : ((D2.send m1).2 != 0) = true := by simpa using h0
    have hneD : decide ((D2.send m1).2 = 0) = false := decide_eq_false h0
    have H11 := Lib.hid h11.2
    clear h0 HDO HSS h11
    generalize (D2.send m1).2 = code at *
    go_wp2
    go_ret
    exact ⟨rfl, HB1.out.trans (H11.out.mono HB1.out.size)⟩
  rw [h0]
  obtain ⟨u', us', hu', ht', e', _⟩ := HO2.out.send_next HWR2.out h0
  obtain ⟨rfl, _⟩ : u' = u ∧ us' = [] := by
    have := hu'.symm.trans HUN.out
    simpa using this
  have hok3 := (HO2.out.send HWR2.out).1
  rw [e'] at h11 hok3
  have HV3 := Lib.hid (show (D2.set (D2.lm.takeF u').1 (K : Int) (some m1.sendF)).lm.view = spl D1.lm.view u' from by
    show (D2.lm.takeF u').1.view = _
    have := HO2.out.lm.view_take u' ht' (by rw [HUS.out, HLM2.out])
    rw [this, HLM2.out])
  have HW3 := Lib.hid (show (D2.set (D2.lm.takeF u').1 (K : Int) (some m1.sendF)).writer (K : Int) = some m1.sendF from set_writer _ _ _ _ hKw)
  have HMV3 := Lib.hid (show m1.sendF.view = spl D1.lm.view u' from by
    show m1.view = _
    rw [HVD.out, HMV.out])
  obtain ⟨D3, hD3⟩ : ∃ D3, D3 = D2.set (D2.lm.takeF u').1 (K : Int) (some m1.sendF) := ⟨_, rfl⟩
  rw [← hD3] at h11 hok3 HV3 HW3
  have HO3 := Lib.hid hok3
  have H11 := Lib.hid h11
  obtain ⟨⟨F4, gw4, hd4, hptr⟩, FW, hwr⟩ := H11.out.wr HO3.out HW3.out
  obtain ⟨gl3, FL3, c3, hlog3, hglt3⟩ := H11.out.dw.log
  have HWA := Lib.hid hwr; have HLG := Lib.hid hlog3
  obtain ⟨_, _, _, t3, hin3⟩ := HO3.out.of_writer HW3.out
  have hcl3 := hin3.chars_len HO3.out.lm
  have HST := Lib.hid (show strOfNums (spl D1.lm.view u') = S ++ t from by
    obtain ⟨me, nx, e2⟩ := HUE.out
    rw [e2, spl_end, ← HSV.out])
  have HTX := Lib.hid (fun W (hl : Later w11 W) => show Calls Try.prog 19 #[.pointer (some ⟨gx, 0, none⟩)] W fun e w' => e = .returned (.string (S ++ t)) ∧ Below W.heap.size W w' from by
    rw [← HST.out, ← HMV3.out]; exact WText_c (HWA.out.later hl) (by show m1.sendF.chars.length ≤ 1000; omega))
  have HLT := Lib.hid (fun W (hl : Later w11 W) => show Calls Try.prog 46 #[.pointer (some ⟨gl3, 0, none⟩)] W fun e w' => e = .returned (.string (S ++ t)) ∧ Below W.heap.size W w' from by
    rw [← HST.out, ← HV3.out]; exact LText_c (HLG.out.later hl) HO3.out.lm)
  clear hd4 hptr hwr hlog3 hin3 hcl3 h11 hok3 hD3 HST HV3 HMV3 e' ht' hu' h0 HDO HSS
  go_upto_region 15 with fail
  have C3 := later_cell c3
  have hL : ∀ q : Lt w11, Later w11 q.v := fun q => q.h
  refine wp_region_mix [] [0, 1, 2, 3, 4, 5, 6, 7, 8, 9, 10, 11, 12, 13, 14, 15, 16, 17, 18, 19] (by kernel_rfl) (by kernel_rfl) ?_
  iterate 4 (refine wpMix_step rfl (fun K hK => ?_); go_simp; refine hK _ _ ?_; clear hK K)
  refine wpMix_step rfl (fun K hK => ?_)
  go_simp
  refine ⟨_, fun p => quietM p (HLT.out _ (hL p)), hK _ _ ?_⟩
  clear hK K
  iterate 2 (refine wpMix_step rfl (fun K hK => ?_); go_simp; refine hK _ _ ?_; clear hK K)
  refine wpMix_step rfl (fun K hK => ?_)
  go_simp
  refine ⟨.string (S ++ t), fun p => ?_, hK _ _ ?_⟩
  · rw [if_neg (by have := HSZ.out; have := HT1.out; omega)]; exact ⟨rfl, rfl⟩
  clear hK K
  iterate 3 (refine wpMix_step rfl (fun K hK => ?_); go_simp; refine hK _ _ ?_; clear hK K)
  refine wpMix_step rfl (fun K hK => ?_)
  go_simp
  refine ⟨_, fun p => quietM p (HTX.out _ (hL p)), hK _ _ ?_⟩
  clear hK K
  iterate 4 (refine wpMix_step rfl (fun K hK => ?_); go_simp; refine hK _ _ ?_; clear hK K)
  refine wpMix_step rfl (fun K hK => ?_)
  go_simp
  refine ⟨_, fun p => quietM p (HLT.out _ (hL p)), hK _ _ ?_⟩
  clear hK K
  iterate 3 (refine wpMix_step rfl (fun K hK => ?_); go_simp; refine hK _ _ ?_; clear hK K)
  refine wpMix_nil ?_
  intro w12 hL12
  have HB12 := Lib.hid (H11.out.2.trans (Below.mono hL12 H11.out.2.size))
  clear hL12 C3 hL HTX HLT
  go_wp2
  go_ret
  exact ⟨rfl, HB1.out.trans (HB12.out.mono HB1.out.size)⟩
end Go.Proofs.Ytneoeokfffnonac
