/- The walk of the law DesksAgain. -/
import Derived.Test.YtneoeokfffnonacDkM
set_option linter.unusedVariables false
set_option linter.unusedSimpArgs false
namespace Go.Proofs.Ytneoeokfffnonac
open Go.RowKit
/-- The text of the log, and of each that is there, in some desks. -/
structure TextIs (W : World) (g : Nat) (d : DkM) (S : ByteArray) : Prop where
  log : ∃ gl FL base, W.cell? ⟨g, 0, none⟩ = some (.pointer (some ⟨gl, 0, none⟩)) ∧ LogAt W base FL gl d.lm ∧ g < W.heap.size
  txt : strOfNums d.lm.view = S
theorem view_size {lm : LogM} (h : lm.Ok) : lm.view.length ≤ 200 := by
  show (viewN 1073741823 (-1) (allF lm.L).1).length ≤ 200
  rw [viewN_length]
  exact Nat.le_trans (List.length_filter_le _ _) h.chars_len
/-- The text of the log, asked of desks. -/
theorem LogT {w w1 : World} {base g : Nat} {d : DkM} {S : ByteArray} (h : DW w base g d w1) (ho : d.Ok) (hS : S = strOfNums d.lm.view) : ∃ gl FL, w1.cell? ⟨g, 0, none⟩ = some (.pointer (some ⟨gl, 0, none⟩)) ∧ g < w1.heap.size ∧ LogAt w1 base FL gl d.lm ∧
    ∀ W, Below w1.heap.size w1 W → Calls Try.prog 46 #[.pointer (some ⟨gl, 0, none⟩)] W fun e w' => e = .returned (.string S) ∧ Below W.heap.size W w' := by
  obtain ⟨gl, FL, c0, hlog, hglt⟩ := h.log
  refine ⟨gl, FL, c0, hglt, hlog, fun W hl => ?_⟩
  rw [hS]; exact LText_c (hlog.later hl) ho.lm
/-- The text of a writer. -/
theorem WrT {w w1 : World} {base g : Nat} {d : DkM} {S : ByteArray} {x : Int} {m : WM} (h : DW w base g d w1) (ho : d.Ok) (hw : d.writer x = some m) (hS : strOfNums m.view = S) : ∃ gx, (∃ F gw, DkAt w1 base F g gw d ∧ d.ptr gw x = (.pointer (some ⟨gx, 0, none⟩))) ∧
    ∀ W, Below w1.heap.size w1 W → Calls Try.prog 19 #[.pointer (some ⟨gx, 0, none⟩)] W fun e w' => e = .returned (.string S) ∧ Below W.heap.size W w' := by
  obtain ⟨gx, hp, FW, hwr⟩ := h.wr ho hw
  obtain ⟨_, _, _, t, hin⟩ := ho.of_writer hw
  have hcl := hin.chars_len ho.lm
  refine ⟨gx, hp, fun W hl => ?_⟩
  rw [← hS]; exact WText_c (hwr.later hl) (by show m.chars.length ≤ 1000; omega)

set_option maxRecDepth 100000 in
set_option maxHeartbeats 1000000 in
theorem DesksAgain_c (a : Option Addr) (cap : Nat) (l : List DStep) (y z : Int) (t : ByteArray) (w : World) (hs : SlSt w a cap l) (hok : ∀ x ∈ l, x.ok) (hy : i64ok y) (hz : i64ok z) (ht : t.size ≤ maxLen) :
    Calls Try.prog 8 #[.slice a l.length cap, .int .i64 y, .int .i64 z, .string t] w fun e w' => e = .returned (.bool true) ∧ Below w.heap.size w w' := by
  have HOK := Lib.hid hok
  have HT := Lib.hid ht
  clear hok hy ht hz
  go_enter Try.func8, Try.ntmps8
  go_wp2_with fail
  refine (desksBegun_c w).mono ?_
  rintro e w1 ⟨rfl, hb1⟩
  have HS1 := Lib.hid (hs.below hb1)
  have HB1 := Lib.hid hb1
  clear hs hb1
  go_wp2_with fail
  refine (greatSteps_c a cap l w1 HS1.out).mono ?_
  rintro e w2 ⟨r, rfl, rfl, hr⟩
  cases r
  case true =>
    go_wp2
    go_ret
    exact ⟨rfl, HB1.out⟩
  obtain ⟨hl200, _⟩ := hr rfl
  clear hr
  by_cases ht1 : 100 < t.size
  · have h1 : decide (100 < (t.size : Int)) = true := by simp; omega
    clear ht1
    go_wp2
    go_ret
    exact ⟨rfl, HB1.out⟩
  have h1 : decide (100 < (t.size : Int)) = false := by simp; omega
  have HT1 := Lib.hid (show t.size ≤ 100 from by omega)
  clear ht1
  obtain ⟨K, hK, hK4⟩ := mod_4 y
  have hKw : isWriter (K : Int) = true := isWriter_nat hK4
  go_wp2_with fail
  refine (played_c a cap l w2 HS1.out HOK.out hl200).mono ?_
  rintro e w3 ⟨g, rfl, h3⟩
  have H3 := Lib.hid h3
  have HO := Lib.hid (show (DkM.new.plays l).Ok from DkM.Ok.plays _ DkM.new_ok)
  have HSm := Lib.hid (show (DkM.new.plays l).Sm 200 from (DkM.Sm.plays l DkM.new_sm).mono (by omega))
  clear h3
  go_wp2_with fail
  refine (Settle_DW H3.out HO.out (HSm.out.mono (by omega))).mono ?_
  rintro e w4 ⟨⟨v, rfl⟩, h4⟩
  have HSE := Lib.hid (settle_settled HO.out)
  have HN := Lib.hid (HSm.out.settle)
  generalize settle (DkM.new.plays l) = D at *
  have H4 := Lib.hid h4
  clear h4 H3 HO HSm
  obtain ⟨S, hS⟩ : ∃ S, S = strOfNums D.lm.view := ⟨_, rfl⟩
  have HSV := Lib.hid hS
  have HSL := Lib.hid (show S.size = D.lm.view.length from by rw [hS, strOfNums_size])
  have hS200 : S.size ≤ 200 := by rw [HSL.out]; exact view_size HSE.out.ok.lm
  clear hS
  obtain ⟨gl, FL, c0, hglt, hlog, hlt⟩ := LogT H4.out HSE.out.ok HSV.out
  have HLG := Lib.hid hlog; have HLT := Lib.hid hlt
  clear hlog hlt
  go_upto_region 7 with fail
  have C0 := later_cell c0
  have hL : ∀ q : Lt w4, Later w4 q.v := fun q => q.h
  refine wp_region_mix [] [0, 1, 2, 3, 4, 5, 6, 7, 8, 9, 10, 11] (by kernel_rfl) (by kernel_rfl) ?_
  iterate 4 (refine wpMix_step rfl (fun K hK => ?_); go_simp; refine hK _ _ ?_; clear hK K)
  refine wpMix_step rfl (fun K hK => ?_)
  go_simp
  refine ⟨_, fun p => quietM p (HLT.out _ (hL p)), hK _ _ ?_⟩
  clear hK K
  iterate 4 (refine wpMix_step rfl (fun K hK => ?_); go_simp; refine hK _ _ ?_; clear hK K)
  refine wpMix_step rfl (fun K hK => ?_)
  go_simp
  refine ⟨_, fun p => quietM_same p (Len_c (HLG.out.later (hL p))), hK _ _ ?_⟩
  clear hK K
  iterate 2 (refine wpMix_step rfl (fun K hK => ?_); go_simp; refine hK _ _ ?_; clear hK K)
  refine wpMix_nil ?_
  intro w5 hL5
  have H5 := Lib.hid (H4.out.later hL5)
  clear hL5 C0 hL HLT HLG c0 hglt H4
  have HST := Lib.hid (HSE.out.settle)
  have HDO := Lib.hid (Settle_DW H5.out HSE.out.ok (HN.out.mono (by omega)))
  rw [HST.out] at HDO
  go_wp2_with fail
  refine HDO.out.mono ?_
  rintro e w6 ⟨⟨v2, rfl⟩, h6⟩
  have H6 := Lib.hid h6
  clear h6 HDO HST
  obtain ⟨gl, FL, c0, hglt, hlog, hlt⟩ := LogT H6.out HSE.out.ok HSV.out
  have HLG := Lib.hid hlog
  go_wp2_with fail
  refine (hlt _ (Below.refl _ _)).mono ?_
  rintro e w7 ⟨rfl, hb7⟩
  have c7 := (hb7.cell (p := ⟨g, 0, none⟩) hglt).trans c0
  have HL7 := Lib.hid (HLG.out.later hb7)
  have H7 := Lib.hid (H6.out.later hb7)
  clear hlt hlog HLG H6 hb7 c0 hglt
  go_wp2_with fail
  refine (Len_c HL7.out).mono ?_
  rintro e w8 ⟨rfl, rfl⟩
  clear c7 HL7
  have HKe := Lib.hid hK
  cases hw : D.writer (K : Int) with
  | none =>
    obtain ⟨⟨F8, gw8, hd8⟩, hb8⟩ := H7.out
    have HP := Lib.hid (DkM.ptr_none hw gw8)
    have HD8 := Lib.hid hd8
    have HB8 := Lib.hid hb8
    clear hd8 hb8 hw H7
    go_wp2_with fail
    refine (DWriter_c HD8.out (K : Int)).mono ?_
    rintro e w9 ⟨rfl, rfl⟩
    rw [HP.out]
    go_wp2
    go_ret
    exact ⟨rfl, HB1.out.trans (HB8.out.mono HB1.out.size)⟩
  | some m =>
    have HW := Lib.hid hw
    clear hw
    obtain ⟨gx, ⟨F8, gw8, hd8, hptr⟩, _⟩ := H7.out.wr HSE.out.ok HW.out
    have HP := Lib.hid hptr
    have HD8 := Lib.hid hd8
    clear hd8 hptr
    go_wp2_with fail
    refine (DWriter_c HD8.out (K : Int)).mono ?_
    rintro e w9 ⟨rfl, rfl⟩
    rw [HP.out]
    obtain ⟨A, hA, hAS⟩ := mod_k z S.size (by omega)
    have hsz1 : IntKind.i64.wrap ((S.size : Int) + 1) = (S.size : Int) + 1 := by rw [IntKind.wrap_i64]; omega
    have hsz2 : IntKind.u64.wrap ((S.size : Int) + 1) = (S.size : Int) + 1 := by rw [IntKind.wrap_u64]; omega
    have HX2 := Lib.hid (show (⟨2, K, A, 0, t⟩ : DStep).ok' from ⟨by show i64ok 0; unfold i64ok; omega, HT.out⟩)
    have HDO := Lib.hid (Do_DW H7.out HSE.out.ok (HN.out.mono (by omega)) ⟨2, K, A, 0, t⟩ HX2.out)
    have HPS := Lib.hid (putS_step HW.out A 0 t)
    rw [HPS.out] at HDO
    obtain ⟨u, hu⟩ : ∃ u, u = m.deed 1 A 0 t := ⟨_, rfl⟩
    rw [← hu] at HDO HPS
    have HU := Lib.hid hu
    go_wp2_with fail
    refine HDO.out.mono ?_
    rintro e w10 ⟨rfl, h10⟩
    clear hsz1 hsz2
    by_cases h0 : mayDo m.chars u = 0
    case neg =>
      have e1 : (D.put m u) = (D, mayDo m.chars u) := by unfold DkM.put; rw [if_neg h0]
      rw [e1] at h10 ⊢
      have hneB : (mayDo m.chars u != 0) = true := by simpa using h0
      have hneD : decide (mayDo m.chars u = 0) = false := decide_eq_false h0
      have H10 := Lib.hid (show DW w2 w2.heap.size g D w10 from h10)
      clear h0 HDO HPS e1 h10 hu
      generalize mayDo m.chars u = code at *
      obtain ⟨gl, FL, c0, hglt, hlog, hlt⟩ := LogT H10.out HSE.out.ok HSV.out
      clear hlog
      go_wp2_with fail
      refine (hlt _ (Below.refl _ _)).mono ?_
      rintro e w11 ⟨rfl, hb11⟩
      have HB11 := Lib.hid ((H10.out.later hb11).2)
      clear hlt hb11
      go_wp2
      go_ret
      exact ⟨rfl, HB1.out.trans (HB11.out.mono HB1.out.size)⟩
    have hok2 := HSE.out.ok.put HW.out 1 A 0 t
    rw [← hu] at hok2
    have hsm2 := HN.out.step ⟨2, K, A, 0, t⟩
    rw [HPS.out] at hsm2
    have HOM := Lib.hid (show Settled (settle (D.put m u).1) ∧ ((settle (D.put m u).1).writer (K : Int) = none ∧ (settle (D.put m u).1).lm.L = D.lm.L ∨ (D.lm.takeF u).2.2 = 0 ∧ (settle (D.put m u).1).lm.L = D.lm.L ++ [u]) from by
      rw [hu] at h0 ⊢; exact one_more HSE.out HW.out 1 A 0 t h0)
    have hcode : (D.put m u).2 = 0 := by unfold DkM.put; rw [if_pos h0]
    rw [hcode]
    have H10 := Lib.hid h10; have HO2 := Lib.hid hok2; have HS2 := Lib.hid hsm2
    clear h0 hok2 hsm2 h10 hcode HDO HPS hu
    go_wp2_with fail
    refine (Settle_DW H10.out HO2.out (HS2.out.mono (by omega))).mono ?_
    rintro e w11 ⟨⟨v3, rfl⟩, h11⟩
    have HU3 := Lib.hid (show ∀ (h : (D.lm.takeF u).2.2 = 0), (D.lm.takeF u).1.L = D.lm.L ++ [u] from fun h => by
      obtain ⟨_, _, _, _, _, _, e⟩ := LogM.take_of _ h
      rw [e])
    generalize settle (D.put m u).1 = D3 at *
    have H11 := Lib.hid h11
    have HSE3 := Lib.hid HOM.out.1
    clear h11 H10 HO2 HS2
    cases hw3 : D3.writer (K : Int) with
    | none =>
      obtain ⟨⟨F9, gw9, hd9⟩, hb9⟩ := H11.out
      have HP3 := Lib.hid (DkM.ptr_none hw3 gw9)
      have HD9 := Lib.hid hd9
      have HB9 := Lib.hid hb9
      clear hd9 hb9 hw3 H11
      go_wp2_with fail
      refine (DWriter_c HD9.out (K : Int)).mono ?_
      rintro e w12 ⟨rfl, rfl⟩
      rw [HP3.out]
      go_wp2
      go_ret
      exact ⟨rfl, HB1.out.trans (HB9.out.mono HB1.out.size)⟩
    | some m3 =>
      obtain ⟨gx3, ⟨F9, gw9, hd9, hptr3⟩, _⟩ := H11.out.wr HSE3.out.ok hw3
      have HP3 := Lib.hid hptr3
      have HD9 := Lib.hid hd9
      have hV3 : D3.lm.view = spl D.lm.view u := by
        rcases HOM.out.2 with ⟨h1, _⟩ | ⟨h1, h2⟩
        · rw [hw3] at h1; cases h1
        · have hus : u.Seen = (D.lm.L.length : Int) := by rw [HU.out]; show (m.seen : Int) = _; rw [(HSE.out.s _ m HW.out).2]
          have := HSE.out.ok.lm.view_take u h1 hus
          rw [← this]
          unfold LogM.view
          rw [h2, HU3.out h1]
      obtain ⟨T, hT⟩ : ∃ T, T = S.extract 0 A ++ t ++ S.extract A S.size := ⟨_, rfl⟩
      have HTE := Lib.hid (show strOfNums D3.lm.view = T from by
        rw [hV3, HU.out, hT]
        have := spl_str D.lm.view A t m.me m.next m.seen
        rw [HSV.out, strOfNums_size]; exact this)
      have HTT := Lib.hid hT
      clear hd9 hptr3 hw3 hV3 hT
      go_wp2_with fail
      refine (DWriter_c HD9.out (K : Int)).mono ?_
      rintro e w12 ⟨rfl, rfl⟩
      rw [HP3.out]
      go_upto_region 21 with fail
      have hA0 : (0 : Int) ≤ (A : Int) := by omega
      have hAS' : (A : Int) ≤ (S.size : Int) := by omega
      have HSX := Lib.hid (show (S.extract 0 A).size ≤ 200 ∧ (S.extract 0 A ++ t).size ≤ 300 ∧ (S.extract A S.size).size ≤ 200 from by
        rw [ByteArray.size_append, ByteArray.size_extract, ByteArray.size_extract]
        have := HT1.out
        omega)
      have H11' := Lib.hid (show DW w2 w2.heap.size g D3 w12 from H11.out)
      refine wp_region_mix [] [0, 1, 2, 3, 4, 5, 6, 7, 8, 9] (by kernel_rfl) (by kernel_rfl) ?_
      iterate 2 (refine wpMix_step rfl (fun K hK => ?_); go_simp; refine hK _ _ ?_; clear hK K)
      (refine wpMix_step rfl (fun K hK => ?_); go_simp; refine hK _ _ ?_; clear hK K)
      (refine wpMix_step rfl (fun K hK => ?_); go_simp; refine hK _ _ ?_; clear hK K)
      refine wpMix_step rfl (fun K hK => ?_)
      go_simp
      refine ⟨.string (S.extract 0 A ++ t), fun p => ?_, hK _ _ ?_⟩
      · rw [if_neg (by have := HSX.out.1; have := HT1.out; omega)]; exact ⟨rfl, rfl⟩
      clear hK K
      iterate 2 (refine wpMix_step rfl (fun K hK => ?_); go_simp; refine hK _ _ ?_; clear hK K)
      (refine wpMix_step rfl (fun K hK => ?_); go_simp; refine hK _ _ ?_; clear hK K)
      refine wpMix_step rfl (fun K hK => ?_)
      go_simp
      refine ⟨.string (S.extract 0 A ++ t ++ S.extract A S.size), fun p => ?_, hK _ _ ?_⟩
      · rw [if_neg (by have := HT1.out; omega)]; exact ⟨rfl, rfl⟩
      clear hK K
      (refine wpMix_step rfl (fun K hK => ?_); go_simp; refine hK _ _ ?_; clear hK K)
      refine wpMix_nil ?_
      intro w13 hL13
      have H13 := Lib.hid (H11'.out.later hL13)
      rw [← HTT.out]
      clear hL13 H11 H11' HD9 HP3 HTT HSX
      go_wp2
      go_loopw [14] (fun s14 wr => ∃ k : Nat, k ≤ 4 ∧ s14 = (.int .i64 k) ∧ Hid (Below w13.heap.size w13 wr)) (fun s14 _ => 4 - (intOf s14).toNat)
      case atStart => exact ⟨0, by omega, rfl, Lib.hid (Below.refl _ _)⟩
      case round =>
        obtain ⟨k, hk, rfl, HB⟩ := hrel
        have HR := Lib.hid (H13.out.later HB.out)
        by_cases hlt : k < 4
        · have hltB : decide ((k : Int) < 4) = true := decide_eq_true (by omega)
          cases hwk : D3.writer (k : Int) with
          | none =>
            obtain ⟨⟨F5, gw5, hd5⟩, _⟩ := HR.out
            have HD5 := Lib.hid hd5
            have HPk := Lib.hid (DkM.ptr_none hwk gw5)
            clear hd5 hwk
            go_wp2_with fail
            refine (DWriter_c HD5.out (k : Int)).mono ?_
            rintro e w14 ⟨rfl, rfl⟩
            rw [HPk.out]
            go_wp2
            exact ⟨⟨k + 1, by omega, by go_num, HB⟩, by simp [intOf]; omega⟩
          | some mk =>
            obtain ⟨gk, ⟨F5, gw5, hd5, hptrk⟩, hTx⟩ := WrT HR.out HSE3.out.ok hwk (S := T) (by rw [HSE3.out.view _ mk hwk]; exact HTE.out)
            have HD5 := Lib.hid hd5
            have HPk := Lib.hid hptrk
            have HTx := Lib.hid hTx
            clear hd5 hwk hptrk hTx
            go_wp2_with fail
            refine (DWriter_c HD5.out (k : Int)).mono ?_
            rintro e w14 ⟨rfl, rfl⟩
            rw [HPk.out]
            go_wp2_with fail
            refine (HTx.out _ (Below.refl _ _)).mono ?_
            rintro e w15 ⟨rfl, hb15⟩
            have HB15 := Lib.hid (HB.out.trans (hb15.mono HB.out.size))
            clear hb15 HTx
            go_wp2
            exact ⟨⟨k + 1, by omega, by go_num, HB15⟩, by simp [intOf]; omega⟩
        · have hk4 : k = 4 := by omega
          have hltB : decide ((k : Int) < 4) = false := decide_eq_false (by omega)
          clear hk4
          obtain ⟨gl, FL, c0, hglt, hlog, hltx⟩ := LogT HR.out HSE3.out.ok HTE.out.symm
          have HTx := Lib.hid hltx
          clear hlog hltx
          go_wp2_with fail
          refine (HTx.out _ (Below.refl _ _)).mono ?_
          rintro e w15 ⟨rfl, hb15⟩
          have HB15 := Lib.hid ((HR.out.later hb15).2)
          clear hb15 HTx
          go_wp2
          go_ret
          exact ⟨rfl, HB1.out.trans (HB15.out.mono HB1.out.size)⟩
end Go.Proofs.Ytneoeokfffnonac
