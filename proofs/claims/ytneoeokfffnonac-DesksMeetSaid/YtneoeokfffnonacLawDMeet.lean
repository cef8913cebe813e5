/- The walk of the law DesksMeet. -/
import Derived.Test.YtneoeokfffnonacDkL
import Derived.Test.YtneoeokfffnonacMixH
set_option linter.unusedVariables false
set_option linter.unusedSimpArgs false
namespace Go.Proofs.Ytneoeokfffnonac
open Go.RowKit

set_option maxRecDepth 100000 in
set_option maxHeartbeats 1000000 in
theorem DesksMeet_c (a : Option Addr) (cap : Nat) (l : List DStep) (w : World) (hs : SlSt w a cap l) (hok : ∀ x ∈ l, x.ok) :
    Calls Try.prog 9 #[.slice a l.length cap] w fun e w' => e = .returned (.bool true) ∧ Below w.heap.size w w' := by
  have HOK := Lib.hid hok
  clear hok
  go_enter Try.func9, Try.ntmps9
  go_wp2_with fail
  refine (desksBegun_c w).mono ?_
  rintro e w1 ⟨rfl, hb1⟩
  have HS1 := Lib.hid (hs.below hb1)
  have HB1 := Lib.hid hb1
  clear hs hb1
  go_wp2_with fail
  refine (greatSteps_c a cap l w1 HS1.out).mono ?_
  rintro e w2 ⟨r, rfl, rfl, hr⟩
  cases r
  case true =>
    go_wp2
    go_ret
    exact ⟨rfl, HB1.out⟩
  obtain ⟨hl200, _⟩ := hr rfl
  clear hr
  go_wp2_with fail
  refine (played_c a cap l w2 HS1.out HOK.out hl200).mono ?_
  rintro e w3 ⟨g, rfl, h3⟩
  have H3 := Lib.hid h3
  have HO := Lib.hid (show (DkM.new.plays l).Ok from DkM.Ok.plays _ DkM.new_ok)
  have HSm := Lib.hid (show (DkM.new.plays l).Sm 1000 from (DkM.Sm.plays l DkM.new_sm).mono (by omega))
  clear h3
  go_wp2_with fail
  refine (Settle_DW H3.out HO.out HSm.out).mono ?_
  rintro e w4 ⟨⟨v, rfl⟩, h4⟩
  have HSE := Lib.hid (settle_settled HO.out)
  have HN := Lib.hid (HSm.out.settle)
  generalize settle (DkM.new.plays l) = D at *
  have H4 := Lib.hid h4
  clear h4 H3 HO HSm
  obtain ⟨gl, FL, c0, hlog, hglt⟩ := H4.out.log
  have HLG := Lib.hid hlog
  clear hlog
  obtain ⟨S, hS⟩ : ∃ S, S = strOfNums D.lm.view := ⟨_, rfl⟩
  have HLT := Lib.hid (show Calls Try.prog 46 #[.pointer (some ⟨gl, 0, none⟩)] w4 fun e w' => e = .returned (.string S) ∧ Below w4.heap.size w4 w' from by
    rw [hS]; exact LText_c HLG.out HSE.out.ok.lm)
  have HSV := Lib.hid hS
  clear hS
  go_wp2_with fail
  refine HLT.out.mono ?_
  rintro e w5 ⟨rfl, hb5⟩
  have HB5 := Lib.hid hb5
  clear hb5 HLT
  go_wp2
  go_loopw [5] (fun s5 wr => ∃ k : Nat, k ≤ 4 ∧ s5 = (.int .i64 k) ∧ Hid (Below w4.heap.size w4 wr)) (fun s5 _ => 4 - (intOf s5).toNat)
  case atStart => exact ⟨0, by omega, rfl, HB5⟩
  case round =>
    obtain ⟨k, hk, rfl, HB⟩ := hrel
    by_cases hlt : k < 4
    · have hltB : decide ((k : Int) < 4) = true := decide_eq_true (by omega)
      have HR := Lib.hid (H4.out.later HB.out)
      have cr := (HB.out.cell (p := ⟨g, 0, none⟩) hglt).trans c0
      have HLr := Lib.hid (HLG.out.later HB.out)
      clear HB5 c0
      cases hw : D.writer (k : Int) with
      | none =>
        obtain ⟨⟨F5, gw5, hd5⟩, _⟩ := HR.out
        have HD5 := Lib.hid hd5
        have HP := Lib.hid (DkM.ptr_none hw gw5)
        clear hd5 hw
        go_wp2_with fail
        refine (DWriter_c HD5.out (k : Int)).mono ?_
        rintro e w6 ⟨rfl, rfl⟩
        rw [HP.out]
        go_upto_region 12 with fail
        go_quiet (fail)
        have hL : Later w6 (w6.drewN nq) := bl_drewN (Below.refl _ _) nq
        generalize w6.drewN nq = w7 at *
        have HB7 := Lib.hid (HB.out.trans (hL.mono HB.out.size))
        clear hL
        go_wp2
        exact ⟨⟨k + 1, by omega, by go_num, HB7⟩, by simp [intOf]; omega⟩
      | some m =>
        obtain ⟨gx, ⟨F5, gw5, hd5, hptr⟩, FW, hwr⟩ := HR.out.wr HSE.out.ok hw
        obtain ⟨_, hme, _, t, hin⟩ := HSE.out.ok.of_writer hw
        have HD5 := Lib.hid hd5; have HP := Lib.hid hptr; have HWR := Lib.hid hwr
        obtain ⟨hun, hsn⟩ := HSE.out.s _ m hw
        have HON := Lib.hid (show m.v.os.length = 0 from by show m.opn.length = 0; rw [(hin.plain hsn hun).1]; rfl)
        have HSN := Lib.hid (show m.v.seen = (D.lm.L.length : Int) from by show (m.seen : Int) = _; rw [hsn])
        have hcl := hin.chars_len HSE.out.ok.lm
        have HTX := Lib.hid (fun W (hl : Later wr W) => show Calls Try.prog 19 #[.pointer (some ⟨gx, 0, none⟩)] W fun e w' => e = .returned (.string S) ∧ Below W.heap.size W w' from by
          rw [HSV.out, ← HSE.out.view _ m hw]; exact WText_c (HWR.out.later hl) (by show m.chars.length ≤ 1000; omega))
        clear hd5 hptr hwr hun hsn hin hme hcl hw
        go_wp2_with fail
        refine (DWriter_c HD5.out (k : Int)).mono ?_
        rintro e w6 ⟨rfl, rfl⟩
        rw [HP.out]
        go_upto_region 12 with fail
        have C0 := later_cell cr
        have hL : ∀ q : Lt w6, Later w6 q.v := fun q => q.h
        clear cr
        refine wp_region_mix [9] [0, 1, 2, 3, 4, 5, 6, 7, 8, 9, 10, 11, 12, 13, 14, 15, 16, 17, 18, 19, 20, 21, 22, 23] (by kernel_rfl) (by kernel_rfl) ?_
        iterate 4 (refine wpMix_step rfl (fun K hK => ?_); go_simp; refine hK _ _ ?_; clear hK K)
        refine wpMix_step rfl (fun K hK => ?_)
        go_simp
        refine ⟨_, fun p => quietM p (HTX.out _ (hL p)), hK _ _ ?_⟩
        clear hK K
        iterate 4 (refine wpMix_step rfl (fun K hK => ?_); go_simp; refine hK _ _ ?_; clear hK K)
        refine wpMix_step rfl (fun K hK => ?_)
        go_simp
        intro p
        refine (WOpen_c (HWR.out.later (hL p)) (by rw [HON.out]; omega)).mono ?_
        rintro e w7 ⟨aO, cO, rfl, hoO, hb7⟩
        rw [HON.out]
        refine ⟨_, rfl, hb7, hK _ _ ?_⟩
        clear hK K
        have hl7 : Later w6 w7 := (hL p).trans hb7
        have HL7 := Lib.hid hl7
        clear hoO hb7 p hL hl7
        have hL : ∀ q : Lt w7, Later w6 q.v := fun q => HL7.out.trans q.h
        iterate 5 (refine wpMix_step rfl (fun K hK => ?_); go_simp; refine hK _ _ ?_; clear hK K)
        refine wpMix_step rfl (fun K hK => ?_)
        go_simp
        refine ⟨_, fun p => quietM_same p (WSeen_c (HWR.out.later (hL p))), hK _ _ ?_⟩
        rw [HSN.out]
        clear hK K
        iterate 4 (refine wpMix_step rfl (fun K hK => ?_); go_simp; refine hK _ _ ?_; clear hK K)
        refine wpMix_step rfl (fun K hK => ?_)
        go_simp
        refine ⟨_, fun p => quietM_same p (Len_c (HLr.out.later (hL p))), hK _ _ ?_⟩
        clear hK K
        iterate 3 (refine wpMix_step rfl (fun K hK => ?_); go_simp; refine hK _ _ ?_; clear hK K)
        refine wpMix_nil ?_
        intro w8 hL8
        have HB8 := Lib.hid (HB.out.trans ((HL7.out.trans hL8).mono HB.out.size))
        clear hL8 HL7 C0 hL HTX
        go_wp2
        exact ⟨⟨k + 1, by omega, by go_num, HB8⟩, by simp [intOf]; omega⟩
    · have hk4 : k = 4 := by omega
      have hltB : decide ((k : Int) < 4) = false := decide_eq_false (by omega)
      clear hk4
      go_wp2
      go_ret
      exact ⟨rfl, HB1.out.trans ((H4.out.2.trans (HB.out.mono H4.out.2.size)).mono HB1.out.size)⟩
end Go.Proofs.Ytneoeokfffnonac
