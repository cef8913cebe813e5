/- The walk of the law DesksClear. -/
import Derived.Test.YtneoeokfffnonacDkC
set_option linter.unusedVariables false
set_option linter.unusedSimpArgs false
namespace Go.Proofs.Ytneoeokfffnonac
open Go.RowKit
theorem Twins.step6 {d e : DkM} (h : Twins d e) (x : DStep) (h6 : x.Kind = 6) : Twins (d.step x).1 e := by
  unfold DkM.step
  rw [if_neg (by omega), if_neg (by omega)]
  cases hw : d.writer x.W with
  | none => exact h
  | some m =>
    simp only
    rw [if_neg (by omega), if_neg (by omega), if_neg (by omega), if_neg (by omega), if_pos h6]
    exact h.clear hw

theorem LogAt.mono {w : World} {base b2 : Nat} {F : Nat → Prop} {g : Nat} {m : LogM} (h : LogAt w b2 F g m) (hb : base ≤ b2) : LogAt w base F g m := by
  obtain ⟨a, cap, ca, ccap, r0, r1, r2, r3, r4, r5⟩ := h.rows
  exact ⟨h.lt, h.fg, fun k hk => ⟨Nat.le_trans hb (h.foot k hk).1, (h.foot k hk).2⟩, h.fz, ⟨a, cap, ca, ccap, r0, r1, r2.mono hb, r3.mono hb, r4, r5⟩, h.here, h.last, h.seen⟩
theorem DkAt.mono {w : World} {base b2 : Nat} {F : Nat → Prop} {g : Nat} {gw : Nat → Nat} {d : DkM} (h : DkAt w b2 F g gw d) (hb : base ≤ b2) : DkAt w base F g gw d := by
  obtain ⟨gl, FL, FW, r⟩ := h.rows
  exact ⟨h.lt, h.fg, fun k hk => ⟨Nat.le_trans hb (h.foot k hk).1, (h.foot k hk).2⟩, h.fz, gl, FL, FW, ⟨r.c0, r.log.mono hb, r.fl, r.no, fun j hj m e => ⟨(r.wr j hj m e).1, (r.wr j hj m e).2.mono hb⟩, r.fw, r.apart⟩⟩
theorem DW2.self {w w1 : World} {base g1 g2 : Nat} {d e : DkM} (h : DW2 w base g1 g2 d e w1) : DW2 w1 base g1 g2 d e w1 := ⟨h.1, Below.refl _ _⟩

set_option maxRecDepth 100000 in
set_option maxHeartbeats 4000000 in
theorem DesksClear_c (a : Option Addr) (cap : Nat) (l : List DStep) (w : World) (hs : SlSt w a cap l) (hok : ∀ x ∈ l, x.ok) :
    Calls Try.prog 6 #[.slice a l.length cap] w fun e w' => e = .returned (.bool true) ∧ Below w.heap.size w w' := by
  have HOK := Lib.hid hok
  clear hok
  go_enter Try.func6, Try.ntmps6
  go_wp2_with fail
  refine (desksBegun_c w).mono ?_
  rintro e w1 ⟨rfl, hb1⟩
  have HS1 := Lib.hid (hs.below hb1)
  have HB1 := Lib.hid hb1
  clear hs hb1
  go_wp2_with fail
  refine (greatSteps_c a cap l w1 HS1.out).mono ?_
  rintro e w2 ⟨r, rfl, rfl, hr⟩
  cases r
  case true =>
    go_wp2
    go_ret
    exact ⟨rfl, HB1.out⟩
  obtain ⟨hl200, _⟩ := hr rfl
  clear hr
  go_wp2_with fail
  refine (DNew_c w2).mono ?_
  rintro e w3 ⟨F1, g1, gw1, rfl, hd1, hb3⟩
  have HD1 := Lib.hid hd1
  have HB3 := Lib.hid hb3
  clear hd1 hb3
  go_wp2_with fail
  refine (DNew_c w3).mono ?_
  rintro e w4 ⟨F2, g2, gw2, rfl, hd2, hb4⟩
  have HD2 := Lib.hid (show DW2 w2 w2.heap.size g1 g2 DkM.new DkM.new w4 from by
    refine ⟨⟨F1, gw1, F2, gw2, HD1.out.later hb4, ?_, fun k h1 h2 => ?_⟩, HB3.out.trans (hb4.mono HB3.out.size)⟩
    · exact hd2.mono HB3.out.size
    · have := (HD1.out.foot k h1).2; have := (hd2.foot k h2).1; omega)
  clear hd2 hb4 HD1 HB3
  go_wp2
  go_loopw [5] (fun s5 wr => ∃ (k : Nat) (D E : DkM), k ≤ l.length ∧ s5 = (.int .i64 k) ∧ Hid (Twins D E) ∧ Hid (D.Sm k) ∧ Hid (E.Sm k) ∧ Hid (DW2 w2 w2.heap.size g1 g2 D E wr)) (fun s5 _ => l.length - (intOf s5).toNat)
  case atStart => exact ⟨0, DkM.new, DkM.new, Nat.zero_le _, rfl, Lib.hid Twins.new, Lib.hid DkM.new_sm, Lib.hid DkM.new_sm, HD2⟩
  case round =>
    obtain ⟨k, D, E, hk, rfl, HT, HSD, HSE, HR⟩ := hrel
    clear HD2
    by_cases hlt : k < l.length
    · have hsr := HS1.out.below HR.out.2
      obtain ⟨bb, off, rfl, hq⟩ := hsr.nth hlt
      have hbbl : bb < w2.heap.size := by
        obtain ⟨b1, o1, e1, h1⟩ := HS1.out.nth hlt
        cases e1; exact h1.lt
      have HQ := Lib.hid hq
      obtain ⟨q0, q1, q2, q3, q4⟩ := hq
      have HX := Lib.hid (HOK.out l[k] (List.getElem_mem hlt))
      have hlt' : (k : Int) < l.length := by omega
      have hk0 : (0 : Int) ≤ (k : Int) := by omega
      clear hsr
      generalize l[k] = x at *
      have HXO := Lib.hid (show x.ok' from ⟨HX.out.2.2.2.1, HX.out.2.2.2.2⟩)
      by_cases h6 : x.Kind = 6
      · have HT6 := Lib.hid (HT.out.step6 x h6)
        have h6B : (x.Kind == 6) = true := by simpa using h6
        have h6D : decide (x.Kind = 6) = true := decide_eq_true h6
        clear h6
        go_wp2_with fail
        refine (Do_DW2 HR.out HT.out.okd (HSD.out.mono (by omega)) x HXO.out).mono ?_
        rintro e w5 ⟨rfl, h5⟩
        have H5 := Lib.hid h5
        have HS5 := Lib.hid (HSD.out.step x)
        clear h5 q0 q1 q2 q3 q4 HR
        generalize (D.step x).2 = code at *
        go_wp2
        exact ⟨⟨k + 1, _, E, by omega, by go_num, HT6, HS5, Lib.hid (HSE.out.mono (by omega)), H5⟩, by simp [intOf]; omega⟩
      · have HK6 := Lib.hid h6
        have h6B : (x.Kind == 6) = false := by simpa using h6
        have h6D : decide (x.Kind = 6) = false := decide_eq_false h6
        clear h6
        obtain ⟨⟨F1, gw1, F2, gw2, hd1, hd2, hap⟩, hbr⟩ := HR.out
        have HA := Lib.hid hd1; have HE := Lib.hid hd2; have HBr := Lib.hid hbr
        clear hd1 hd2 hap hbr
        have HSN := Lib.hid (HT.out.seen x.W)
        obtain ⟨S, hS⟩ : ∃ S, S = seenS E x.W := ⟨_, rfl⟩
        have HSD1 := Lib.hid (show seenS D x.W = S from by rw [hS]; exact HSN.out)
        have HSE1 := Lib.hid hS.symm
        clear hS HSN
        go_upto_region 11 with fail
        have Q1 := later_cell q1
        have hL : ∀ q : Lt wr, Later wr q.v := fun q => q.h
        refine wp_region_mix [] [0, 1, 2, 3, 4, 5, 6, 7, 8, 9, 10, 11, 12, 13, 14, 15] (by kernel_rfl) (by kernel_rfl) ?_
        iterate 6 (refine wpMix_step rfl (fun K hK => ?_); go_simp; refine hK _ _ ?_; clear hK K)
        refine wpMix_step rfl (fun K hK => ?_)
        go_simp
        refine ⟨.string S, fun p => quietM p (by rw [← HSD1.out]; exact seen_c (HA.out.later (hL p)) HT.out.okd x.W), hK _ _ ?_⟩
        clear hK K
        iterate 6 (refine wpMix_step rfl (fun K hK => ?_); go_simp; refine hK _ _ ?_; clear hK K)
        refine wpMix_step rfl (fun K hK => ?_)
        go_simp
        refine ⟨.string S, fun p => quietM p (by rw [← HSE1.out]; exact seen_c (HE.out.later (hL p)) HT.out.oke x.W), hK _ _ ?_⟩
        clear hK K
        iterate 2 (refine wpMix_step rfl (fun K hK => ?_); go_simp; refine hK _ _ ?_; clear hK K)
        refine wpMix_nil ?_
        intro w5 hL5
        have H5 := Lib.hid (HR.out.later hL5)
        have HQ5 := Lib.hid (HQ.out.below hL5 HQ.out.lt)
        clear hL5 hL Q1 q0 q1 q2 q3 q4 HA HE HBr HR
        obtain ⟨⟨F1, gw1, F2, gw2, hd1, hd2, hap⟩, hbr⟩ := H5.out
        have HE := Lib.hid hd2
        obtain ⟨q0, q1, q2, q3, q4⟩ := HQ5.out
        clear hd1 hd2 hap hbr
        have HTS := Lib.hid (fun h9 => HT.out.step x HK6.out h9)
        go_wp2_with fail
        refine (DWriter_c HE.out x.W).mono ?_
        rintro e w6 ⟨rfl, rfl⟩
        have HDOe := Lib.hid (Do_DW2 H5.out.swap.self HT.out.oke (HSE.out.mono (by omega)) x HXO.out)
        have hEok := HT.out.oke.step x
        have HEO := Lib.hid hEok
        clear hEok
        have closeup : ∀ (w7 : World), DW2 w6 w2.heap.size g2 g1 (E.step x).1 D w7 → DW2 w2 w2.heap.size g2 g1 (E.step x).1 D w7 ∧ StC w7 bb (off + k * 5) x := fun w7 h7 => ⟨⟨h7.1, H5.out.2.trans h7.2⟩, HQ5.out.below h7.2 hbbl⟩
        have HCU := Lib.hid closeup
        clear closeup
        cases hwE : E.writer x.W with
        | none =>
          rw [DkM.ptr_none hwE]
          clear hwE
          go_wp2_with fail
          refine HDOe.out.mono ?_
          rintro e w7 ⟨rfl, h7⟩
          obtain ⟨h7a, h7b⟩ := HCU.out w7 h7
          have H7 := Lib.hid h7a; have HQW := Lib.hid h7b
          clear h7 h7a h7b q0 q1 q2 q3 q4 H5 HQ5 HE HDOe HCU
          by_cases hc9 : (E.step x).2 = 9
          · have HB7 := Lib.hid H7.out.2
            rw [hc9]
            clear hc9 HTS
            go_wp2
            go_ret
            exact ⟨rfl, HB1.out.trans (HB7.out.mono HB1.out.size)⟩
          have hc9B : ((E.step x).2 == 9) = false := by simpa using hc9
          have hc9D : decide ((E.step x).2 = 9) = false := decide_eq_false hc9
          -- the same step at the other desks
          obtain ⟨hcc, hTw⟩ := HTS.out hc9
          have HT' := Lib.hid hTw
          have hw7 : w2.heap.size ≤ w7.heap.size := H7.out.2.size
          have HQ7 := Lib.hid (show StC w7 bb (off + k * 5) x from HQW.out)
          obtain ⟨q0, q1, q2, q3, q4⟩ := HQ7.out
          have HD7 := Lib.hid H7.out.swap
          clear hTw H7
          generalize hcode : (E.step x).2 = code at *
          have HCC := Lib.hid hcc
          clear hcc hcode
          go_upto_region 18 with fail
          have Q0 := MB.cellB (B := w2.heap.size) q0 hbbl
          have Q1 := MB.cellB (B := w2.heap.size) q1 hbbl
          have Q2 := MB.cellB (B := w2.heap.size) q2 hbbl
          have Q3 := MB.cellB (B := w2.heap.size) q3 hbbl
          have Q4 := MB.cellB (B := w2.heap.size) q4 hbbl
          have hB := hw7
          refine MB.wp_region_mixb w2.heap.size [5, 15, 22] [] (.ops [0, 1, 2, 3, 4, 6, 5, 7, 8, 9, 10, 11, 12, 13, 14, 16, 17, 18, 19, 20, 21, 15, 22, 23, 24] .nil) (by kernel_rfl) (by kernel_rfl) ?_
          iterate 6 (refine MB.wpMixF_step hB rfl (fun K hK => ?_); go_simp; refine hK _ _ ?_; clear hK K)
          refine MB.wpMixF_step hB rfl (fun K hK => ?_)
          go_simp
          intro p
          refine (Do_DW2 (HD7.out.later p.h).self HT.out.okd (HSD.out.mono (by omega)) x HXO.out).mono ?_
          rintro e w8 ⟨rfl, h8⟩
          rw [HCC.out]
          refine ⟨_, rfl, fun _ => h8.2, hK _ _ ?_⟩
          clear hK K
          have H8 := Lib.hid (show DW2 w2 w2.heap.size g1 g2 (D.step x).1 (E.step x).1 w8 from ⟨h8.1, (HD7.out.later p.h).2.trans h8.2⟩)
          have hq8 := Lib.hid (show Below w2.heap.size w7 w8 from (Below.mono p.h hB).trans h8.2)
          have HQ8 := Lib.hid (HQ7.out.below hq8.out hbbl)
          clear h8 p Q0 Q1 Q2 Q3 Q4 hB hw7 q0 q1 q2 q3 q4 HD7 hq8 HQ7
          obtain ⟨q0, q1, q2, q3, q4⟩ := HQ8.out
          have Q1 := MB.cellB (B := w2.heap.size) q1 hbbl
          have hB : w2.heap.size ≤ w8.heap.size := H8.out.2.size
          obtain ⟨⟨F1, gw1, F2, gw2', hd1, hd2, hap⟩, hbr⟩ := H8.out
          have HA := Lib.hid hd1; have HE2 := Lib.hid hd2
          clear hd1 hd2 hap hbr
          have HSN := Lib.hid (HT'.out.seen x.W)
          obtain ⟨S', hS'⟩ : ∃ S', S' = seenS (E.step x).1 x.W := ⟨_, rfl⟩
          have HSDn := Lib.hid (show seenS (D.step x).1 x.W = S' from by rw [hS']; exact HSN.out)
          have HSEn := Lib.hid hS'.symm
          clear hS' HSN
          iterate 14 (refine MB.wpMixF_step hB rfl (fun K hK => ?_); go_simp; refine hK _ _ ?_; clear hK K)
          refine MB.wpMixF_step hB rfl (fun K hK => ?_)
          go_simp
          intro p
          refine (seen_c (HA.out.later p.h) HT'.out.okd x.W).mono ?_
          rintro e w9 ⟨rfl, hb9⟩
          rw [HSDn.out]
          refine ⟨_, rfl, MB.Eff.of hb9, hK _ _ ?_⟩
          clear hK K
          have hl9 : Later w8 w9 := Below.trans p.h (hb9.mono p.h.size)
          have hB : w2.heap.size ≤ w9.heap.size := Nat.le_trans hB hl9.size
          have HL9 := Lib.hid hl9
          clear hb9 p hl9
          refine MB.wpMixF_step hB rfl (fun K hK => ?_)
          go_simp
          intro p
          refine (seen_c (HE2.out.later (HL9.out.trans p.h)) HT'.out.oke x.W).mono ?_
          rintro e w10 ⟨rfl, hb10⟩
          rw [HSEn.out]
          refine ⟨_, rfl, MB.Eff.of hb10, hK _ _ ?_⟩
          clear hK K
          have HL10 := Lib.hid (show Later w8 w10 from (HL9.out.trans p.h).trans hb10)
          have hB : w2.heap.size ≤ w10.heap.size := Nat.le_trans H8.out.2.size HL10.out.size
          clear hb10 p HL9
          iterate 2 (refine MB.wpMixF_step hB rfl (fun K hK => ?_); go_simp; refine hK _ _ ?_; clear hK K)
          refine MB.wpMixF_nil ?_
          intro w11 hL11
          have H11 := Lib.hid (H8.out.later (HL10.out.trans hL11))
          have HSDk := Lib.hid (HSD.out.step x)
          have HSEk := Lib.hid (HSE.out.step x)
          clear hL11 HL10 H8 HQ8 q0 q1 q2 q3 q4 Q1 HA HE2 HSDn HSEn
          go_wp2
          exact ⟨⟨k + 1, _, _, by omega, by go_num, HT', HSDk, HSEk, H11⟩, by simp [intOf]; omega⟩
        | some mE =>
          rw [DkM.ptr_some hwE]
          clear hwE
          generalize gw2 x.W.toNat = gxe
          go_wp2_with fail
          refine HDOe.out.mono ?_
          rintro e w7 ⟨rfl, h7⟩
          obtain ⟨h7a, h7b⟩ := HCU.out w7 h7
          have H7 := Lib.hid h7a; have HQW := Lib.hid h7b
          clear h7 h7a h7b q0 q1 q2 q3 q4 H5 HQ5 HE HDOe HCU
          by_cases hc9 : (E.step x).2 = 9
          · have HB7 := Lib.hid H7.out.2
            rw [hc9]
            clear hc9 HTS
            go_wp2
            go_ret
            exact ⟨rfl, HB1.out.trans (HB7.out.mono HB1.out.size)⟩
          have hc9B : ((E.step x).2 == 9) = false := by simpa using hc9
          have hc9D : decide ((E.step x).2 = 9) = false := decide_eq_false hc9
          obtain ⟨⟨Fa, gwa, Fb, gwb, hda, hdb, hab⟩, hbab⟩ := H7.out
          have HE7 := Lib.hid hda
          clear hda hdb hab hbab
          have HQW' := HQW
          obtain ⟨q0, q1, q2, q3, q4⟩ := HQW'.out
          go_wp2_with fail
          refine (DWriter_c HE7.out x.W).mono ?_
          rintro e w7' ⟨rfl, rfl⟩
          cases hwE2 : (E.step x).1.writer x.W with
          | none =>
            rw [DkM.ptr_none hwE2]
            by_cases h7 : x.Kind = 7
            · have h7B : (x.Kind != 7) = false := by simpa using h7
              have h7D : decide (x.Kind = 7) = true := decide_eq_true h7
              clear h7 hwE2 HE7 HQW'
              -- the same step at the other desks
              obtain ⟨hcc, hTw⟩ := HTS.out hc9
              have HT' := Lib.hid hTw
              have hw7' : w2.heap.size ≤ w7'.heap.size := H7.out.2.size
              have HQ7 := Lib.hid (show StC w7' bb (off + k * 5) x from HQW.out)
              obtain ⟨q0, q1, q2, q3, q4⟩ := HQ7.out
              have HD7 := Lib.hid H7.out.swap
              clear hTw H7 q0 q1 q2 q3 q4
              generalize hcode : (E.step x).2 = code at *
              have HCC := Lib.hid hcc
              clear hcc hcode
              go_upto_region 18 with fail
              have Q0 := MB.cellB (B := w2.heap.size) q0 hbbl
              have Q1 := MB.cellB (B := w2.heap.size) q1 hbbl
              have Q2 := MB.cellB (B := w2.heap.size) q2 hbbl
              have Q3 := MB.cellB (B := w2.heap.size) q3 hbbl
              have Q4 := MB.cellB (B := w2.heap.size) q4 hbbl
              have hB := hw7'
              refine MB.wp_region_mixb w2.heap.size [5, 15, 22] [] (.ops [0, 1, 2, 3, 4, 6, 5, 7, 8, 9, 10, 11, 12, 13, 14, 16, 17, 18, 19, 20, 21, 15, 22, 23, 24] .nil) (by kernel_rfl) (by kernel_rfl) ?_
              iterate 6 (refine MB.wpMixF_step hB rfl (fun K hK => ?_); go_simp; refine hK _ _ ?_; clear hK K)
              refine MB.wpMixF_step hB rfl (fun K hK => ?_)
              go_simp
              intro p
              refine (Do_DW2 (HD7.out.later p.h).self HT.out.okd (HSD.out.mono (by omega)) x HXO.out).mono ?_
              rintro e w8 ⟨rfl, h8⟩
              rw [HCC.out]
              refine ⟨_, rfl, fun _ => h8.2, hK _ _ ?_⟩
              clear hK K
              have H8 := Lib.hid (show DW2 w2 w2.heap.size g1 g2 (D.step x).1 (E.step x).1 w8 from ⟨h8.1, (HD7.out.later p.h).2.trans h8.2⟩)
              have hq8 := Lib.hid (show Below w2.heap.size w7' w8 from (Below.mono p.h hB).trans h8.2)
              have HQ8 := Lib.hid (HQ7.out.below hq8.out hbbl)
              clear h8 p Q0 Q1 Q2 Q3 Q4 hB hw7' q0 q1 q2 q3 q4 HD7 hq8 HQ7
              obtain ⟨q0, q1, q2, q3, q4⟩ := HQ8.out
              have Q1 := MB.cellB (B := w2.heap.size) q1 hbbl
              have hB : w2.heap.size ≤ w8.heap.size := H8.out.2.size
              obtain ⟨⟨F1, gw1, F2, gw2', hd1, hd2, hap⟩, hbr⟩ := H8.out
              have HA := Lib.hid hd1; have HE2 := Lib.hid hd2
              clear hd1 hd2 hap hbr
              have HSN := Lib.hid (HT'.out.seen x.W)
              obtain ⟨S', hS'⟩ : ∃ S', S' = seenS (E.step x).1 x.W := ⟨_, rfl⟩
              have HSDn := Lib.hid (show seenS (D.step x).1 x.W = S' from by rw [hS']; exact HSN.out)
              have HSEn := Lib.hid hS'.symm
              clear hS' HSN
              iterate 14 (refine MB.wpMixF_step hB rfl (fun K hK => ?_); go_simp; refine hK _ _ ?_; clear hK K)
              refine MB.wpMixF_step hB rfl (fun K hK => ?_)
              go_simp
              intro p
              refine (seen_c (HA.out.later p.h) HT'.out.okd x.W).mono ?_
              rintro e w9 ⟨rfl, hb9⟩
              rw [HSDn.out]
              refine ⟨_, rfl, MB.Eff.of hb9, hK _ _ ?_⟩
              clear hK K
              have hl9 : Later w8 w9 := Below.trans p.h (hb9.mono p.h.size)
              have hB : w2.heap.size ≤ w9.heap.size := Nat.le_trans hB hl9.size
              have HL9 := Lib.hid hl9
              clear hb9 p hl9
              refine MB.wpMixF_step hB rfl (fun K hK => ?_)
              go_simp
              intro p
              refine (seen_c (HE2.out.later (HL9.out.trans p.h)) HT'.out.oke x.W).mono ?_
              rintro e w10 ⟨rfl, hb10⟩
              rw [HSEn.out]
              refine ⟨_, rfl, MB.Eff.of hb10, hK _ _ ?_⟩
              clear hK K
              have HL10 := Lib.hid (show Later w8 w10 from (HL9.out.trans p.h).trans hb10)
              have hB : w2.heap.size ≤ w10.heap.size := Nat.le_trans H8.out.2.size HL10.out.size
              clear hb10 p HL9
              iterate 2 (refine MB.wpMixF_step hB rfl (fun K hK => ?_); go_simp; refine hK _ _ ?_; clear hK K)
              refine MB.wpMixF_nil ?_
              intro w11 hL11
              have H11 := Lib.hid (H8.out.later (HL10.out.trans hL11))
              have HSDk := Lib.hid (HSD.out.step x)
              have HSEk := Lib.hid (HSE.out.step x)
              clear hL11 HL10 H8 HQ8 q0 q1 q2 q3 q4 Q1 HA HE2 HSDn HSEn
              go_wp2
              exact ⟨⟨k + 1, _, _, by omega, by go_num, HT', HSDk, HSEk, H11⟩, by simp [intOf]; omega⟩
            · have HB7 := Lib.hid H7.out.2
              have h7B : (x.Kind != 7) = true := by simpa using h7
              have h7D : decide (x.Kind = 7) = false := decide_eq_false h7
              clear h7 hwE2 HE7 HTS hc9
              generalize (E.step x).2 = code at *
              go_wp2
              go_ret
              exact ⟨rfl, HB1.out.trans (HB7.out.mono HB1.out.size)⟩
          | some mE2 =>
            rw [DkM.ptr_some hwE2]
            clear hwE2 HE7 HQW'
            generalize gwa x.W.toNat = gxf
            -- the same step at the other desks
            obtain ⟨hcc, hTw⟩ := HTS.out hc9
            have HT' := Lib.hid hTw
            have hw7' : w2.heap.size ≤ w7'.heap.size := H7.out.2.size
            have HQ7 := Lib.hid (show StC w7' bb (off + k * 5) x from HQW.out)
            obtain ⟨q0, q1, q2, q3, q4⟩ := HQ7.out
            have HD7 := Lib.hid H7.out.swap
            clear hTw H7 q0 q1 q2 q3 q4
            generalize hcode : (E.step x).2 = code at *
            have HCC := Lib.hid hcc
            clear hcc hcode
            go_upto_region 18 with fail
            have Q0 := MB.cellB (B := w2.heap.size) q0 hbbl
            have Q1 := MB.cellB (B := w2.heap.size) q1 hbbl
            have Q2 := MB.cellB (B := w2.heap.size) q2 hbbl
            have Q3 := MB.cellB (B := w2.heap.size) q3 hbbl
            have Q4 := MB.cellB (B := w2.heap.size) q4 hbbl
            have hB := hw7'
            refine MB.wp_region_mixb w2.heap.size [5, 15, 22] [] (.ops [0, 1, 2, 3, 4, 6, 5, 7, 8, 9, 10, 11, 12, 13, 14, 16, 17, 18, 19, 20, 21, 15, 22, 23, 24] .nil) (by kernel_rfl) (by kernel_rfl) ?_
            iterate 6 (refine MB.wpMixF_step hB rfl (fun K hK => ?_); go_simp; refine hK _ _ ?_; clear hK K)
            refine MB.wpMixF_step hB rfl (fun K hK => ?_)
            go_simp
            intro p
            refine (Do_DW2 (HD7.out.later p.h).self HT.out.okd (HSD.out.mono (by omega)) x HXO.out).mono ?_
            rintro e w8 ⟨rfl, h8⟩
            rw [HCC.out]
            refine ⟨_, rfl, fun _ => h8.2, hK _ _ ?_⟩
            clear hK K
            have H8 := Lib.hid (show DW2 w2 w2.heap.size g1 g2 (D.step x).1 (E.step x).1 w8 from ⟨h8.1, (HD7.out.later p.h).2.trans h8.2⟩)
            have hq8 := Lib.hid (show Below w2.heap.size w7' w8 from (Below.mono p.h hB).trans h8.2)
            have HQ8 := Lib.hid (HQ7.out.below hq8.out hbbl)
            clear h8 p Q0 Q1 Q2 Q3 Q4 hB hw7' q0 q1 q2 q3 q4 HD7 hq8 HQ7
            obtain ⟨q0, q1, q2, q3, q4⟩ := HQ8.out
            have Q1 := MB.cellB (B := w2.heap.size) q1 hbbl
            have hB : w2.heap.size ≤ w8.heap.size := H8.out.2.size
            obtain ⟨⟨F1, gw1, F2, gw2', hd1, hd2, hap⟩, hbr⟩ := H8.out
            have HA := Lib.hid hd1; have HE2 := Lib.hid hd2
            clear hd1 hd2 hap hbr
            have HSN := Lib.hid (HT'.out.seen x.W)
            obtain ⟨S', hS'⟩ : ∃ S', S' = seenS (E.step x).1 x.W := ⟨_, rfl⟩
            have HSDn := Lib.hid (show seenS (D.step x).1 x.W = S' from by rw [hS']; exact HSN.out)
            have HSEn := Lib.hid hS'.symm
            clear hS' HSN
            iterate 14 (refine MB.wpMixF_step hB rfl (fun K hK => ?_); go_simp; refine hK _ _ ?_; clear hK K)
            refine MB.wpMixF_step hB rfl (fun K hK => ?_)
            go_simp
            intro p
            refine (seen_c (HA.out.later p.h) HT'.out.okd x.W).mono ?_
            rintro e w9 ⟨rfl, hb9⟩
            rw [HSDn.out]
            refine ⟨_, rfl, MB.Eff.of hb9, hK _ _ ?_⟩
            clear hK K
            have hl9 : Later w8 w9 := Below.trans p.h (hb9.mono p.h.size)
            have hB : w2.heap.size ≤ w9.heap.size := Nat.le_trans hB hl9.size
            have HL9 := Lib.hid hl9
            clear hb9 p hl9
            refine MB.wpMixF_step hB rfl (fun K hK => ?_)
            go_simp
            intro p
            refine (seen_c (HE2.out.later (HL9.out.trans p.h)) HT'.out.oke x.W).mono ?_
            rintro e w10 ⟨rfl, hb10⟩
            rw [HSEn.out]
            refine ⟨_, rfl, MB.Eff.of hb10, hK _ _ ?_⟩
            clear hK K
            have HL10 := Lib.hid (show Later w8 w10 from (HL9.out.trans p.h).trans hb10)
            have hB : w2.heap.size ≤ w10.heap.size := Nat.le_trans H8.out.2.size HL10.out.size
            clear hb10 p HL9
            iterate 2 (refine MB.wpMixF_step hB rfl (fun K hK => ?_); go_simp; refine hK _ _ ?_; clear hK K)
            refine MB.wpMixF_nil ?_
            intro w11 hL11
            have H11 := Lib.hid (H8.out.later (HL10.out.trans hL11))
            have HSDk := Lib.hid (HSD.out.step x)
            have HSEk := Lib.hid (HSE.out.step x)
            clear hL11 HL10 H8 HQ8 q0 q1 q2 q3 q4 Q1 HA HE2 HSDn HSEn
            go_wp2
            exact ⟨⟨k + 1, _, _, by omega, by go_num, HT', HSDk, HSEk, H11⟩, by simp [intOf]; omega⟩
    · obtain rfl : k = l.length := by omega
      have hltB : decide ((l.length : Int) < (l.length : Int)) = false := by simp
      obtain ⟨⟨F1, gw1, F2, gw2, hd1, hd2, hap⟩, hbr⟩ := HR.out
      have HA := Lib.hid hd1; have HE := Lib.hid hd2; have HBr := Lib.hid hbr
      obtain ⟨gl1, FL1, c1, hlog1, hglt1⟩ := hd1.dw.log
      obtain ⟨gl2, FL2, c2, hlog2, hglt2⟩ := hd2.dw.log
      have HL1 := Lib.hid hlog1; have HL2 := Lib.hid hlog2
      have hlm : D.lm = E.lm := HT.out.lm
      obtain ⟨S, hS⟩ : ∃ S, S = strOfNums (textF E.lm.chars) := ⟨_, rfl⟩
      have HT1 := Lib.hid (fun W (hl : Later wr W) => show Calls Try.prog 46 #[.pointer (some ⟨gl1, 0, none⟩)] W fun e w' => e = .returned (.string S) ∧ Below W.heap.size W w' from by
        rw [hS, ← hlm]; exact LText_c (HL1.out.later hl) HT.out.okd.lm)
      have HT2 := Lib.hid (fun W (hl : Later wr W) => show Calls Try.prog 46 #[.pointer (some ⟨gl2, 0, none⟩)] W fun e w' => e = .returned (.string S) ∧ Below W.heap.size W w' from by
        rw [hS]; exact LText_c (HL2.out.later hl) HT.out.oke.lm)
      have HDD := Lib.hid (fun W (hl : Later wr W) => show Calls Try.prog 45 #[.pointer (some ⟨g1, 0, none⟩)] W fun e w' => ∃ a' cap', e = .returned (.slice a' E.lm.L.length cap') ∧ OwnRow w' W.heap.size 24 7 a' E.lm.L.length cap' (flatD E.lm.L) ∧ Below W.heap.size W w' from by
        rw [← hlm]; exact deedsOf_c (HA.out.later hl) HT.out.okd)
      have HLM := Lib.hid hlm
      clear hd1 hd2 hap hbr hlog1 hlog2 hS hlm
      go_upto_region 20 with fail
      have C1 := later_cell c1
      have C2 := later_cell c2
      have hL : ∀ q : Lt wr, Later wr q.v := fun q => q.h
      clear c1 c2
      refine wp_region_mix [1, 3] [0, 2, 1, 3, 4, 5, 6, 7, 8, 9, 10, 11, 12, 13, 14, 15, 16, 17, 18] (by kernel_rfl) (by kernel_rfl) ?_
      iterate 2 (refine wpMix_step rfl (fun K hK => ?_); go_simp; refine hK _ _ ?_; clear hK K)
      refine wpMix_step rfl (fun K hK => ?_)
      go_simp
      intro p
      refine (HDD.out p.v (hL p)).mono ?_
      rintro e w5 ⟨a1, cap1, rfl, ho1, hb5⟩
      refine ⟨_, rfl, hb5, hK _ _ ?_⟩
      clear hK K
      have HL5 := Lib.hid (show Later wr w5 from (hL p).trans hb5)
      have HO5 := Lib.hid ho1.slDd
      clear ho1 hb5 p hL
      refine wpMix_step rfl (fun K hK => ?_)
      go_simp
      intro p
      refine (deedsOf_c (HE.out.later (HL5.out.trans p.h)) HT.out.oke).mono ?_
      rintro e w6 ⟨a2, cap2, rfl, ho2, hb6⟩
      refine ⟨_, rfl, hb6, hK _ _ ?_⟩
      clear hK K
      have HL56 := Lib.hid (show Later w5 w6 from Later.trans p.h hb6)
      have HL6 := Lib.hid (show Later wr w6 from HL5.out.trans HL56.out)
      have HO5' := Lib.hid (HO5.out.below HL56.out)
      have HO6 := Lib.hid ho2.slDd
      clear ho2 hb6 p HO5 HL56
      have hL : ∀ q : Lt w6, Later wr q.v := fun q => HL6.out.trans q.h
      refine wpMix_step rfl (fun K hK => ?_)
      go_simp
      refine ⟨_, fun p => quietM p (SameDeeds_t a1 a2 cap1 cap2 E.lm.L p.v (HO5'.out.below p.h) (HO6.out.below p.h)), hK _ _ ?_⟩
      clear hK K
      iterate 5 (refine wpMix_step rfl (fun K hK => ?_); go_simp; refine hK _ _ ?_; clear hK K)
      refine wpMix_step rfl (fun K hK => ?_)
      go_simp
      refine ⟨_, fun p => quietM p (HT1.out _ (hL p)), hK _ _ ?_⟩
      clear hK K
      iterate 4 (refine wpMix_step rfl (fun K hK => ?_); go_simp; refine hK _ _ ?_; clear hK K)
      refine wpMix_step rfl (fun K hK => ?_)
      go_simp
      refine ⟨_, fun p => quietM p (HT2.out _ (hL p)), hK _ _ ?_⟩
      clear hK K
      iterate 3 (refine wpMix_step rfl (fun K hK => ?_); go_simp; refine hK _ _ ?_; clear hK K)
      refine wpMix_nil ?_
      intro w7 hL7
      have HB7 := Lib.hid (HBr.out.trans (Below.mono (HL6.out.trans hL7) HBr.out.size))
      clear hL7 hL C1 C2 HO5' HO6 HT1 HT2 HDD HL6
      go_wp2
      go_ret
      exact ⟨rfl, HB1.out.trans (HB7.out.mono HB1.out.size)⟩
end Go.Proofs.Ytneoeokfffnonac
