/- Printed by genacks.py: the walk of the law WriterAcks. -/
import Derived.Test.YtneoeokfffnonabRoomA
set_option linter.unusedVariables false
set_option linter.unusedSimpArgs false
namespace Go.Proofs.Ytneoeokfffnonab
open Go.RowKit
set_option maxRecDepth 100000 in
set_option maxHeartbeats 4000000 in
theorem WriterAcks_c (a : Option Addr) (cap : Nat) (l : List RStep) (w : World) (hs : SlRs w a cap l) (hok : ∀ x ∈ l, x.ok) :
    Calls Try.prog 12 #[.slice a l.length cap] w fun e w' => e = .returned (.bool true) ∧ Below w.heap.size w w' := by
  have HOK := Lib.hid hok
  clear hok
  go_enter Try.func12, Try.ntmps12
  go_wp2_with fail
  refine (writerBegun_c w).mono ?_
  rintro e w1 ⟨rfl, hb1⟩
  have HS1 := Lib.hid (hs.below hb1)
  have HB1 := Lib.hid hb1
  clear hs hb1
  go_wp2_with fail
  refine (greatRoom_c a cap l w1 HS1.out).mono ?_
  rintro e w2 ⟨r, rfl, rfl, hr⟩
  cases r
  case true =>
    go_wp2
    go_ret
    exact ⟨rfl, HB1.out⟩
  obtain ⟨hl160, _⟩ := hr rfl
  clear hr
  go_wp2_with fail
  refine (newRoom_c w2).mono ?_
  rintro e w3 ⟨F0, g, gw0, gs0, rfl, hR, hb3⟩
  have HI0 := Lib.hid (show DkM.new.Ok ∧ DkM.new.Sm 0 ∧ RW w2 w2.heap.size g DkM.new w3 from ⟨DkM.new_ok, DkM.new_sm, ⟨_, _, _, hR⟩, hb3⟩)
  clear hR hb3
  go_wp2
  go_loopw [4] (fun s4 wr => ∃ (k : Nat) (d : DkM), k ≤ l.length ∧ s4 = (.int .i64 k) ∧ Hid (d.Ok ∧ d.Sm k ∧ RW w2 w2.heap.size g d wr)) (fun s4 _ => l.length - (intOf s4).toNat)
  case atStart => exact ⟨0, DkM.new, Nat.zero_le _, rfl, HI0⟩
  case round =>
    obtain ⟨k, d, hk, rfl, HI⟩ := hrel
    clear HI0
    by_cases hlt : k < l.length
    · have HSr := Lib.hid (HS1.out.below HI.out.2.2.2)
      obtain ⟨bb, off, rfl, hq⟩ := HSr.out.nth hlt
      have HX := Lib.hid (HOK.out l[k] (List.getElem_mem hlt))
      have hlt' : (k : Int) < l.length := by omega
      have hk0 : (0 : Int) ≤ (k : Int) := by omega
      generalize l[k] = x at *
      obtain ⟨q0, q1, q2, q3, q4⟩ := hq
      have HO := Lib.hid HI.out.1
      have HSM := Lib.hid (show d.Sm 1000 from HI.out.2.1.mono (by omega))
      have HSK := Lib.hid HI.out.2.1
      have HRW := Lib.hid HI.out.2.2
      clear HI HSr
      go_upto_region 10 with fail
      generalize hw4 : wr.alloc _ = w4
      have hw4' : wr.alloc (.cells #[.int .i64 x.Do, .int .i64 x.W, .int .i64 x.At, .int .i64 x.Many, .string x.Text] 73) = w4 := hw4
      have hb4 : Below wr.heap.size wr w4 := by rw [← hw4']; exact (Below.refl wr.heap.size wr).alloc (Nat.le_refl _) _
      have HX4 := Lib.hid (show RsC w4 wr.heap.size 0 x from by rw [← hw4']; simp [RsC])
      clear hw4 hw4' q0 q1 q2 q3 q4
      obtain ⟨X, hX⟩ : ∃ X, X = wr.heap.size := ⟨_, rfl⟩
      rw [← hX] at HX4 ⊢
      have hXw : w2.heap.size ≤ X := by rw [hX]; exact HRW.out.size
      have HR4 := Lib.hid (HRW.out.later hb4)
      have HXE := Lib.hid hX
      have HB45 := Lib.hid hb4
      clear hX hb4
      obtain ⟨A, hA⟩ : ∃ A, A = (isWriter x.W && (d.writer x.W).isSome && (x.Do == 4)) := ⟨_, rfl⟩
      go_upto_region 13 with fail
      go_cut [47] (fun s47 wx => s47 = .bool A ∧ Hid (Below w4.heap.size w4 wx))
      case first =>
        obtain ⟨b0, b1, _, _, _⟩ := HX4.out
        have hL : ∀ q : Lt w4, Later w4 q.v := fun q => q.h
        cases hiw : isWriter x.W with
        | false =>
          have hAf : A = false := by rw [hA, hiw]; rfl
          have HAf := Lib.hid hAf
          clear hA hAf
          have B0 := later_cell b0
          have B1 := later_cell b1
          clear b0 b1
          refine wp_region_x [] [] [0, 1, 2, 3, 4, 5, 6, 7, 8, 9, 10, 11, 12, 13, 14, 15, 16, 17] (by kernel_rfl) (by kernel_rfl) ?_
          iterate 2 (refine wpX_step rfl (fun K hK => ?_); go_simp; refine hK _ _ ?_; clear hK K)
          refine wpX_step rfl (fun K hK => ?_)
          go_simp
          refine ⟨_, fun p => quietM_same p (IsWriter_c x.W p.v), hK _ _ ?_⟩
          clear hK K
          rw [hiw]
          iterate 15 (refine wpX_step rfl (fun K hK => ?_); go_simp; refine hK _ _ ?_; clear hK K)
          refine wpX_nil ?_
          intro w6 hL6
          have HL6 := Lib.hid hL6
          clear hL6
          go_wp2
          go_meet
          exact ⟨by rw [HAf.out], HL6⟩
        | true =>
          obtain ⟨j, hj, hxj⟩ := writer_natR hiw
          have hij : isWriter (j : Int) = true := isWriter_nat hj
          have hwj : d.writer x.W = d.W j := by rw [hxj]; unfold DkM.writer; rw [if_pos hij]; simp
          rw [hxj] at b1
          obtain ⟨⟨F4, gw4, gs4, hr4⟩, _⟩ := HR4.out
          have c1 := (hr4.cells j hj).1
          have hj0 : (0 : Int) ≤ (j : Int) := by omega
          have hj4 : (j : Int) < 4 := by omega
          clear hr4
          cases hW : d.W j with
          | none =>
            have hAf : A = false := by rw [hA, hiw, hwj, hW]; rfl
            have HAf := Lib.hid hAf
            unfold DkM.ptrN at c1
            rw [hW] at c1
            clear hA hAf hwj hW hxj hiw
            have B0 := later_cell b0
            have B1 := later_cell b1
            have C1 := later_cell c1
            clear b0 b1 c1
            refine wp_region_x [] [] [0, 1, 2, 3, 4, 5, 6, 7, 8, 9, 10, 11, 12, 13, 14, 15, 16, 17] (by kernel_rfl) (by kernel_rfl) ?_
            iterate 2 (refine wpX_step rfl (fun K hK => ?_); go_simp; refine hK _ _ ?_; clear hK K)
            refine wpX_step rfl (fun K hK => ?_)
            go_simp
            refine ⟨_, fun p => quietM_same p (IsWriter_c (j : Int) p.v), hK _ _ ?_⟩
            clear hK K
            rw [hij]
            iterate 15 (refine wpX_step rfl (fun K hK => ?_); go_simp; refine hK _ _ ?_; clear hK K)
            refine wpX_nil ?_
            intro w6 hL6
            have HL6 := Lib.hid hL6
            clear hL6
            go_wp2
            go_meet
            exact ⟨by rw [HAf.out], HL6⟩
          | some m =>
            have hAf : A = (x.Do == 4) := by rw [hA, hiw, hwj, hW]; rfl
            have HAf := Lib.hid hAf
            unfold DkM.ptrN at c1
            rw [hW] at c1
            clear hA hAf hwj hW hxj hiw
            cases hB4 : (x.Do == 4) with
            | false =>
              rw [hB4] at HAf
              have hD4 : decide (x.Do = 4) = false := by simpa using hB4
              have B0 := later_cell b0
              have B1 := later_cell b1
              have C1 := later_cell c1
              clear b0 b1 c1
              refine wp_region_x [] [] [0, 1, 2, 3, 4, 5, 6, 7, 8, 9, 10, 11, 12, 13, 14, 15, 16, 17] (by kernel_rfl) (by kernel_rfl) ?_
              iterate 2 (refine wpX_step rfl (fun K hK => ?_); go_simp; refine hK _ _ ?_; clear hK K)
              refine wpX_step rfl (fun K hK => ?_)
              go_simp
              refine ⟨_, fun p => quietM_same p (IsWriter_c (j : Int) p.v), hK _ _ ?_⟩
              clear hK K
              rw [hij]
              iterate 15 (refine wpX_step rfl (fun K hK => ?_); go_simp; refine hK _ _ ?_; clear hK K)
              refine wpX_nil ?_
              intro w6 hL6
              have HL6 := Lib.hid hL6
              clear hL6
              go_wp2
              go_meet
              exact ⟨by rw [HAf.out], HL6⟩
            | true =>
              rw [hB4] at HAf
              have hD4 : decide (x.Do = 4) = true := by simpa using hB4
              have B0 := later_cell b0
              have B1 := later_cell b1
              have C1 := later_cell c1
              clear b0 b1 c1
              refine wp_region_x [] [] [0, 1, 2, 3, 4, 5, 6, 7, 8, 9, 10, 11, 12, 13, 14, 15, 16, 17] (by kernel_rfl) (by kernel_rfl) ?_
              iterate 2 (refine wpX_step rfl (fun K hK => ?_); go_simp; refine hK _ _ ?_; clear hK K)
              refine wpX_step rfl (fun K hK => ?_)
              go_simp
              refine ⟨_, fun p => quietM_same p (IsWriter_c (j : Int) p.v), hK _ _ ?_⟩
              clear hK K
              rw [hij]
              iterate 15 (refine wpX_step rfl (fun K hK => ?_); go_simp; refine hK _ _ ?_; clear hK K)
              refine wpX_nil ?_
              intro w6 hL6
              have HL6 := Lib.hid hL6
              clear hL6
              go_wp2
              go_meet
              exact ⟨by rw [HAf.out], HL6⟩
      case rest =>
        obtain ⟨rfl, hcutB⟩ := hcut
        have HR5 := Lib.hid (HR4.out.later hcutB.out)
        have HX5 := Lib.hid (HX4.out.below hcutB.out HX4.out.lt)
        clear HR4 HX4
        generalize wc = w5 at *
        cases A with
        | false =>
          clear hA
          obtain ⟨b0, b1, b2, b3, b4⟩ := HX5.out
          go_wp2_with fail
          refine (RStep_RW HR5.out HO.out HSM.out x HX.out).mono ?_
          rintro e w6 ⟨rfl, hb6, hs6, hrw⟩
          clear b0 b1 b2 b3 b4
          cases hov : d.over x with
          | true =>
            have HB6 := Lib.hid (HB1.out.trans (hb6.mono HB1.out.size))
            clear hb6 hrw
            go_wp2
            go_ret
            exact ⟨rfl, HB6.out⟩
          | false =>
            have HI6 := Lib.hid (show (d.room false x).Ok ∧ (d.room false x).Sm (k + 1) ∧ RW w2 w2.heap.size g (d.room false x) w6 from ⟨HO.out.room false x, HSK.out.room false x, hrw hov⟩)
            clear hb6 hrw hov HR5 HX5
            go_wp2
            exact ⟨⟨k + 1, d.room false x, by omega, by go_num, HI6⟩, by simp [intOf]; omega⟩
        | true =>
          obtain ⟨⟨hiw, hws⟩, hd4⟩ : (isWriter x.W = true ∧ (d.writer x.W).isSome = true) ∧ (x.Do == 4) = true := by
            have h := hA.symm
            rw [Bool.and_eq_true, Bool.and_eq_true] at h
            exact h
          obtain ⟨m, hm⟩ := Option.isSome_iff_exists.1 hws
          obtain ⟨j, hj, hxj⟩ := writer_natR hiw
          have HM := Lib.hid hm
          have HD4 := Lib.hid (show x.Do = 4 by simpa using hd4)
          have HXJ := Lib.hid hxj
          have HMJ := Lib.hid (show d.writer (j : Int) = some m from by rw [← hxj]; exact hm)
          have HWJ := Lib.hid (show d.W j = some m from by
            have h := HMJ.out
            unfold DkM.writer at h
            rw [if_pos (isWriter_nat hj)] at h
            simpa using h)
          clear hA hws hd4 hm hxj
          obtain ⟨⟨F, gw, gs, hrm⟩, _⟩ := HRW.out
          have HFX := Lib.hid (show ∀ k, F k → k < X from fun k hk => by have := (hrm.foot k hk).2; rw [HXE.out]; exact this)
          have hb5 : Below wr.heap.size wr w5 := HB45.out.trans (hcutB.out.mono HB45.out.size)
          have HRm := Lib.hid (hrm.later hb5)
          have HBB := Lib.hid (show Below w2.heap.size w2 w5 from HRW.out.2.trans (hb5.mono HRW.out.size))
          clear hrm hb5
          obtain ⟨FW, _, c1, hwr, _⟩ := HRm.out.wrZ hj HWJ.out
          obtain ⟨gl, FL, _, c0, hlog, _⟩ := HRm.out.logZ
          have HWR := Lib.hid hwr
          have HLG := Lib.hid hlog
          obtain ⟨_, hme, _, t, hin⟩ := HO.out.of_writer HMJ.out
          have hsl := hin.seen
          have hcl := hin.chars_len HO.out.lm
          have hos : m.opn.length ≤ 1000 := HSM.out.writer HMJ.out
          have hlen := HO.out.lm.len
          have hglt := HRm.out.lt
          have hXl5 : X < w5.heap.size := HX5.out.lt
          have hsn : IntKind.i64.wrap ((m.seen : Int) + 1) = (m.seen : Int) + 1 := by rw [IntKind.wrap_i64]; omega
          have hvs : m.v.seen = (m.seen : Int) := rfl
          have hj0 : (0 : Int) ≤ (j : Int) := by omega
          have hj4 : (j : Int) < 4 := by omega
          clear hwr hlog hin hme t
          obtain ⟨b0, b1, b2, b3, b4⟩ := HX5.out
          rw [HXJ.out] at b1
          go_upto_region 14 with fail
          go_cut [10, 11] (fun s7 s8 wx => ∃ (Y : Nat) (dd : Dd) (b : Bool), s7 = (.pointer (some ⟨Y, 0, none⟩)) ∧ s8 = .bool b ∧ Hid (DdAt wx Y dd) ∧ Hid (w5.heap.size ≤ Y) ∧ Hid (Below w5.heap.size w5 wx) ∧
            Hid (b = false ∧ m.seen = d.lm.L.length ∨ b = true ∧ ∃ (hk : m.seen < d.lm.L.length), dd = d.lm.L[m.seen]))
          case first =>
            have hB : w5.heap.size ≤ w5.heap.size := Nat.le_refl _
            have C0 := MB.cellB (B := w5.heap.size) c0 hglt
            have B1 := MB.cellB (B := w5.heap.size) b1 hXl5
            have C1 := MB.cellB (B := w5.heap.size) c1 hglt
            refine MB.wp_region_mixb w5.heap.size [13, 17, 18] [] (.ops [0, 1, 2, 3, 4, 5, 6, 7, 8, 9, 10, 11, 12] (.fork 13 (.ops [14, 15, 16, 17, 18, 19] .nil) 17 (.ops [13, 14, 15, 16, 18, 19] .nil))) (by kernel_rfl) (by kernel_rfl) ?_
            iterate 11 (refine MB.wpMixF_step hB rfl (fun K hK => ?_); go_simp; refine hK _ _ ?_; clear hK K)
            refine MB.wpMixF_step hB rfl (fun K hK => ?_)
            go_simp
            refine ⟨_, fun p => MB.quiet_same (WSeen_c (HWR.out.later p.h)), hK _ _ ?_⟩
            rw [hvs]
            clear hK K
            (refine MB.wpMixF_step hB rfl (fun K hK => ?_); go_simp; refine hK _ _ ?_; clear hK K)
            refine MB.wpMixF_fork ?_ ?_
            · refine MB.wpCut_step rfl (fun K hK => ?_)
              go_simp
              intro p
              refine (Deed_gR (HLG.out.later p.h) ((m.seen : Int) + 1)).mono ?_
              rintro e v2 ⟨dd, b, rfl, hbv2, h2⟩
              refine ⟨_, rfl, MB.Eff.of hbv2, hK _ _ ?_⟩
              clear hK K
              have hv2 : Below w5.heap.size w5 v2 := Below.trans p.h (hbv2.mono p.h.size)
              have hB : w5.heap.size ≤ v2.heap.size := hv2.size
              have H2 := Lib.hid h2
              clear hbv2 p C0 B1 C1 h2
              iterate 3 (refine MB.wpMixF_step hB rfl (fun K hK => ?_); go_simp; refine hK _ _ ?_; clear hK K)
              refine MB.wpMixF_step hB rfl (fun K hK => ?_)
              go_simp
              intro p
              have hbp := (Below.refl p.v.heap.size p.v).alloc (Nat.le_refl _) (.cells #[.int .i64 0, .int .i64 0, .int .i64 0, .int .i64 0, .int .i64 0, .int .i64 0, .string ⟨#[]⟩] 25)
              refine ⟨MB.Eff.of hbp, hK _ _ ?_⟩
              clear hK K
              have HX := Lib.hid (show DdAt (p.v.alloc (.cells #[.int .i64 0, .int .i64 0, .int .i64 0, .int .i64 0, .int .i64 0, .int .i64 0, .string ⟨#[]⟩] 25)) p.v.heap.size zD from DdAt.new p.v zD)
              have HFX := Lib.hid (show ∀ j, j < 7 → (p.v.alloc (.cells #[.int .i64 0, .int .i64 0, .int .i64 0, .int .i64 0, .int .i64 0, .int .i64 0, .string ⟨#[]⟩] 25)).frozen? ⟨p.v.heap.size, j, none⟩ = false from fun j _ => by simp)
              have hw3 : Below w5.heap.size w5 (p.v.alloc (.cells #[.int .i64 0, .int .i64 0, .int .i64 0, .int .i64 0, .int .i64 0, .int .i64 0, .string ⟨#[]⟩] 25)) := (hv2.trans (Below.mono p.h hB)).trans (hbp.mono (Nat.le_trans hB p.h.size))
              have HYW := Lib.hid (show w5.heap.size ≤ p.v.heap.size from Nat.le_trans hB p.h.size)
              generalize p.v.alloc (.cells #[.int .i64 0, .int .i64 0, .int .i64 0, .int .i64 0, .int .i64 0, .int .i64 0, .string ⟨#[]⟩] 25) = w3 at *
              generalize p.v.heap.size = Y at *
              clear hbp p hB hv2
              have hB : w5.heap.size ≤ w3.heap.size := hw3.size
              refine MB.wpMixF_step hB rfl (fun K hK => ?_)
              go_simp
              intro p
              have hXp := HX.out.later p.h
              obtain ⟨dlt, d0, d1, d2, d3, d4, d5, d6⟩ := hXp
              have f0 := (Below.frozen p.h (p := ⟨Y, 0, none⟩) HX.out.lt).trans (HFX.out 0 (by omega))
              have f1 := (Below.frozen p.h (p := ⟨Y, 1, none⟩) HX.out.lt).trans (HFX.out 1 (by omega))
              have f2 := (Below.frozen p.h (p := ⟨Y, 2, none⟩) HX.out.lt).trans (HFX.out 2 (by omega))
              have f3 := (Below.frozen p.h (p := ⟨Y, 3, none⟩) HX.out.lt).trans (HFX.out 3 (by omega))
              have f4 := (Below.frozen p.h (p := ⟨Y, 4, none⟩) HX.out.lt).trans (HFX.out 4 (by omega))
              have f5 := (Below.frozen p.h (p := ⟨Y, 5, none⟩) HX.out.lt).trans (HFX.out 5 (by omega))
              have f6 := (Below.frozen p.h (p := ⟨Y, 6, none⟩) HX.out.lt).trans (HFX.out 6 (by omega))
              go_simp
              change MB.Eff _ _ (putDd p.v Y dd) ∧ K _ (putDd p.v Y dd)
              have hbp := putDd_below dd (Below.refl Y p.v) (Nat.le_refl _)
              refine ⟨fun _ => hbp.mono HYW.out, hK _ _ ?_⟩
              clear hK K
              have HX4 := Lib.hid ((HX.out.later p.h).putAll dd)
              have hw4 : Below w5.heap.size w5 (putDd p.v Y dd) := (hw3.trans (Below.mono p.h hB)).trans (hbp.mono HYW.out)
              generalize putDd p.v Y dd = w4 at *
              clear d0 d1 d2 d3 d4 d5 d6 dlt f0 f1 f2 f3 f4 f5 f6 hbp p hw3 HX HFX hB
              have hB : w5.heap.size ≤ w4.heap.size := hw4.size
              (refine MB.wpMixF_step hB rfl (fun K hK => ?_); go_simp; refine hK _ _ ?_; clear hK K)
              refine MB.wpMixF_nil ?_
              intro w5 hL5
              have HX5 := Lib.hid (HX4.out.later hL5)
              have hw5 := Lib.hid (hw4.trans (Below.mono hL5 hB))
              have HC5 := Lib.hid (show b = false ∧ m.seen = d.lm.L.length ∨ b = true ∧ ∃ (hk : m.seen < d.lm.L.length), dd = d.lm.L[m.seen] from by
                rcases H2.out with ⟨e1, _, e2⟩ | ⟨e1, k, hk, e2, e3⟩
                · exact .inl ⟨e1, by omega⟩
                · obtain rfl : k = m.seen := by omega
                  exact .inr ⟨e1, hk, e3⟩)
              clear hL5 HX4 hw4 hB H2
              go_wp2
              go_meet
              exact ⟨Y, dd, b, rfl, rfl, HX5, HYW, hw5, HC5⟩
            · have hw0 : Below w5.heap.size w5 w5 := Below.refl _ _
              refine MB.wpCut_step rfl (fun K hK => ?_)
              go_simp
              intro p
              have hbp := (Below.refl p.v.heap.size p.v).alloc (Nat.le_refl _) (.cells #[.int .i64 0, .int .i64 0, .int .i64 0, .int .i64 0, .int .i64 0, .int .i64 0, .string ⟨#[]⟩] 25)
              refine ⟨MB.Eff.of hbp, hK _ _ ?_⟩
              clear hK K
              have HX := Lib.hid (show DdAt (p.v.alloc (.cells #[.int .i64 0, .int .i64 0, .int .i64 0, .int .i64 0, .int .i64 0, .int .i64 0, .string ⟨#[]⟩] 25)) p.v.heap.size zD from DdAt.new p.v zD)
              have HFX := Lib.hid (show ∀ j, j < 7 → (p.v.alloc (.cells #[.int .i64 0, .int .i64 0, .int .i64 0, .int .i64 0, .int .i64 0, .int .i64 0, .string ⟨#[]⟩] 25)).frozen? ⟨p.v.heap.size, j, none⟩ = false from fun j _ => by simp)
              have hw3 : Below w5.heap.size w5 (p.v.alloc (.cells #[.int .i64 0, .int .i64 0, .int .i64 0, .int .i64 0, .int .i64 0, .int .i64 0, .string ⟨#[]⟩] 25)) := (hw0.trans (Below.mono p.h hB)).trans (hbp.mono (Nat.le_trans hB p.h.size))
              have HYW := Lib.hid (show w5.heap.size ≤ p.v.heap.size from Nat.le_trans hB p.h.size)
              generalize p.v.alloc (.cells #[.int .i64 0, .int .i64 0, .int .i64 0, .int .i64 0, .int .i64 0, .int .i64 0, .string ⟨#[]⟩] 25) = w3 at *
              generalize p.v.heap.size = Y at *
              clear hbp p hB hw0
              have hB : w5.heap.size ≤ w3.heap.size := hw3.size
              refine MB.wpMixF_step hB rfl (fun K hK => ?_)
              go_simp
              intro p
              refine (Deed_gR (HLG.out.later (hw3.trans (Below.mono p.h hB))) ((m.seen : Int) + 1)).mono ?_
              rintro e v2 ⟨dd, b, rfl, hbv2, h2⟩
              refine ⟨_, rfl, MB.Eff.of hbv2, hK _ _ ?_⟩
              clear hK K
              have hl2 : Below w3.heap.size w3 v2 := Below.trans p.h (hbv2.mono p.h.size)
              have hv2 : Below w5.heap.size w5 v2 := hw3.trans (hl2.mono hB)
              have HX2 := Lib.hid (HX.out.later hl2)
              have HFX2 := Lib.hid (fun j (hj : j < 7) => (Below.frozen hl2 (p := ⟨Y, j, none⟩) HX.out.lt).trans (HFX.out j hj))
              have H2 := Lib.hid h2
              clear hbv2 p C0 B1 C1 h2 hl2 hB HX HFX hw3
              have HX := HX2; have HFX := HFX2; have hw3 := hv2
              clear HX2 HFX2 hv2
              have hB : w5.heap.size ≤ v2.heap.size := hw3.size
              iterate 3 (refine MB.wpMixF_step hB rfl (fun K hK => ?_); go_simp; refine hK _ _ ?_; clear hK K)
              refine MB.wpMixF_step hB rfl (fun K hK => ?_)
              go_simp
              intro p
              have hXp := HX.out.later p.h
              obtain ⟨dlt, d0, d1, d2, d3, d4, d5, d6⟩ := hXp
              have f0 := (Below.frozen p.h (p := ⟨Y, 0, none⟩) HX.out.lt).trans (HFX.out 0 (by omega))
              have f1 := (Below.frozen p.h (p := ⟨Y, 1, none⟩) HX.out.lt).trans (HFX.out 1 (by omega))
              have f2 := (Below.frozen p.h (p := ⟨Y, 2, none⟩) HX.out.lt).trans (HFX.out 2 (by omega))
              have f3 := (Below.frozen p.h (p := ⟨Y, 3, none⟩) HX.out.lt).trans (HFX.out 3 (by omega))
              have f4 := (Below.frozen p.h (p := ⟨Y, 4, none⟩) HX.out.lt).trans (HFX.out 4 (by omega))
              have f5 := (Below.frozen p.h (p := ⟨Y, 5, none⟩) HX.out.lt).trans (HFX.out 5 (by omega))
              have f6 := (Below.frozen p.h (p := ⟨Y, 6, none⟩) HX.out.lt).trans (HFX.out 6 (by omega))
              go_simp
              change MB.Eff _ _ (putDd p.v Y dd) ∧ K _ (putDd p.v Y dd)
              have hbp := putDd_below dd (Below.refl Y p.v) (Nat.le_refl _)
              refine ⟨fun _ => hbp.mono HYW.out, hK _ _ ?_⟩
              clear hK K
              have HX4 := Lib.hid ((HX.out.later p.h).putAll dd)
              have hw4 : Below w5.heap.size w5 (putDd p.v Y dd) := (hw3.trans (Below.mono p.h hB)).trans (hbp.mono HYW.out)
              generalize putDd p.v Y dd = w4 at *
              clear d0 d1 d2 d3 d4 d5 d6 dlt f0 f1 f2 f3 f4 f5 f6 hbp p hw3 HX HFX hB
              have hB : w5.heap.size ≤ w4.heap.size := hw4.size
              (refine MB.wpMixF_step hB rfl (fun K hK => ?_); go_simp; refine hK _ _ ?_; clear hK K)
              refine MB.wpMixF_nil ?_
              intro w5 hL5
              have HX5 := Lib.hid (HX4.out.later hL5)
              have hw5 := Lib.hid (hw4.trans (Below.mono hL5 hB))
              have HC5 := Lib.hid (show b = false ∧ m.seen = d.lm.L.length ∨ b = true ∧ ∃ (hk : m.seen < d.lm.L.length), dd = d.lm.L[m.seen] from by
                rcases H2.out with ⟨e1, _, e2⟩ | ⟨e1, k, hk, e2, e3⟩
                · exact .inl ⟨e1, by omega⟩
                · obtain rfl : k = m.seen := by omega
                  exact .inr ⟨e1, hk, e3⟩)
              clear hL5 HX4 hw4 hB H2
              go_wp2
              go_meet
              exact ⟨Y, dd, b, rfl, rfl, HX5, HYW, hw5, HC5⟩
          case rest =>
            obtain ⟨Y, dd, b, rfl, rfl, HY, HYW, hwx, HC⟩ := hcut
            have HR6 := Lib.hid (HRm.out.later hwx.out)
            have HW6 := Lib.hid (HWR.out.later hwx.out)
            have HX6 := Lib.hid (HX5.out.below hwx.out HX5.out.lt)
            have HB6 := Lib.hid (HBB.out.trans (hwx.out.mono HBB.out.size))
            have c1 := (hwx.out.cell (p := ⟨g, 1 + j, none⟩) hglt).trans c1
            have hw56 := hwx.out.size
            clear b0 b1 b2 b3 b4 c0 HRm HWR HX5 HBB HR5 HLG hwx HYW
            generalize wc = w6 at *
            obtain ⟨b0, b1, b2, b3, b4⟩ := HX6.out
            rw [HXJ.out] at b1
            obtain ⟨_, d0, d1, d2, d3, d4, d5, d6⟩ := HY.out
            obtain ⟨ow, how⟩ : ∃ ow, ow = (b && (dd.By == (j : Int))) := ⟨_, rfl⟩
            have HOWN := Lib.hid how
            go_upto_region 15 with fail
            go_cut [8, 9] (fun s8 s9 wx => s8 = .bool ow ∧ s9 = .bool b ∧ wx = w6)
            case first =>
              cases b with
              | false =>
                have HO2 := Lib.hid (show ow = false by rw [how]; rfl)
                clear how
                go_wp2
                go_meet
                exact ⟨by rw [HO2.out], rfl, rfl⟩
              | true =>
                cases hby : (dd.By == (j : Int)) with
                | false =>
                  have HO2 := Lib.hid (show ow = false by rw [how, hby]; rfl)
                  have hbyD : decide (dd.By = (j : Int)) = false := by simpa using hby
                  clear how
                  go_wp2
                  go_meet
                  exact ⟨by rw [HO2.out], rfl, rfl⟩
                | true =>
                  have HO2 := Lib.hid (show ow = true by rw [how, hby]; rfl)
                  have hbyD : decide (dd.By = (j : Int)) = true := by simpa using hby
                  clear how
                  go_wp2
                  go_meet
                  exact ⟨by rw [HO2.out], rfl, rfl⟩
            case rest =>
              obtain ⟨rfl, rfl, hwe⟩ := hcut
              rw [hwe]
              clear hwe wc how d0 d1 d2 d3 d4 d5 d6 HY
              obtain ⟨S, hS⟩ : ∃ S, S = strOfNums m.view := ⟨_, rfl⟩
              have HTX := Lib.hid (fun W (h : Later w6 W) => show Calls Try.prog 46 #[.pointer (some ⟨(gw j), 0, none⟩)] W fun e w' => e = .returned (.string S) ∧ Below W.heap.size W w' from by
                rw [hS]; exact WText_c (HW6.out.later h) (by show m.chars.length ≤ 1000; omega))
              have HSE := Lib.hid hS
              obtain ⟨N, hN⟩ : ∃ N, m.opn.length = N := ⟨_, rfl⟩
              have hN1 : N ≤ 1000 := by rw [← hN]; exact hos
              have HOP := Lib.hid (fun W (h : Later w6 W) => show Calls Try.prog 47 #[.pointer (some ⟨(gw j), 0, none⟩)] W fun e w' => ∃ a' cap', e = .returned (.slice a' N cap') ∧ OwnRow w' W.heap.size 25 7 a' N cap' (flatD m.ds) ∧ Below W.heap.size W w' from by
                rw [← hN]; exact WOpen_c (HW6.out.later h) (by show m.opn.length ≤ 1000000; omega))
              have HN := Lib.hid hN
              clear hS hN hos
              go_upto_region 16 with fail
              have B1 := later_cell b1
              have C1 := later_cell c1
              have hL : ∀ q : Lt w6, Later w6 q.v := fun q => q.h
              clear b0 b1 b2 b3 b4 c1
              refine wp_region_x [15] [] [0, 1, 2, 3, 4, 5, 6, 7, 8, 9, 10, 11, 12, 13, 14, 15, 16, 17] (by kernel_rfl) (by kernel_rfl) ?_
              iterate 7 (refine wpX_step rfl (fun K hK => ?_); go_simp; refine hK _ _ ?_; clear hK K)
              refine wpX_step rfl (fun K hK => ?_)
              go_simp
              refine ⟨_, fun p => quietM p (HTX.out p.v (hL p)), hK _ _ ?_⟩
              clear hK K
              iterate 7 (refine wpX_step rfl (fun K hK => ?_); go_simp; refine hK _ _ ?_; clear hK K)
              refine wpX_step rfl (fun K hK => ?_)
              go_simp
              intro p
              refine (HOP.out p.v (hL p)).mono ?_
              rintro e w7 ⟨aO, cO, rfl, hoO, hb7⟩
              refine ⟨_, rfl, hb7, hK _ _ ?_⟩
              clear hK K
              have HL7 := Lib.hid (show Later w6 w7 from Below.trans p.h (hb7.mono p.h.size))
              have HOO := Lib.hid (hoO.mono (show w6.heap.size ≤ p.v.heap.size from p.h.size))
              clear hoO hb7 p hL B1 C1
              iterate 2 (refine wpX_step rfl (fun K hK => ?_); go_simp; refine hK _ _ ?_; clear hK K)
              refine wpX_nil ?_
              intro w8 hL8
              have hl8 : Later w6 w8 := HL7.out.trans hL8
              have HOO8 := Lib.hid (HOO.out.below hL8)
              have HR8 := Lib.hid (HR6.out.later hl8)
              have HX8 := Lib.hid (HX6.out.below hl8 HX6.out.lt)
              have HB8 := Lib.hid (HB6.out.trans (hl8.mono HB6.out.size))
              have HF8 := Lib.hid (show ∀ k, F k → k < w6.heap.size from fun k hk => (HR6.out.foot k hk).2)
              clear hL8 hl8 HL7 HOO HR6 HX6 HB6 HTX HOP HW6
              obtain ⟨b0, b1, b2, b3, b4⟩ := HX8.out
              go_wp2_with fail
              refine (RStep_c HR8.out HO.out HSM.out x HX.out).mono ?_
              rintro e w9 ⟨rfl, hpost, hbl⟩
              have HB9 := Lib.hid (HB8.out.trans hbl)
              clear hbl b0 b1 b2 b3 b4
              cases hov : d.over x with
              | true =>
                have HBF := Lib.hid (HB1.out.trans (HB9.out.mono HB1.out.size))
                clear hpost
                go_wp2
                go_ret
                exact ⟨rfl, HBF.out⟩
              | false =>
                obtain ⟨F9, gw9, gs9, h9, m9, g9⟩ := hpost hov
                have HI9 := Lib.hid (show (d.room false x).Ok ∧ (d.room false x).Sm (k + 1) ∧ RW w2 w2.heap.size g (d.room false x) w9 from ⟨HO.out.room false x, HSK.out.room false x, ⟨F9, gw9, gs9, h9⟩, HB9.out⟩)
                have HR9 := Lib.hid h9
                have HX9 := Lib.hid (HX8.out.of_block (m9.block X HX8.out.lt fun e => by have := HFX.out X e; omega))
                have HOO9 := Lib.hid (HOO8.out.moves m9 fun i hi e => by have h1 := (HOO8.out.base_le i hi).1; have h2 := HF8.out i e; omega)
                have HOV := Lib.hid hov
                clear hpost h9 m9 g9 hov HR8 HX8 HOO8 HB8 HB9 HF8
                cases b with
                | false =>
                  clear HC HX9 HR9 HOO9
                  go_wp2
                  exact ⟨⟨k + 1, d.room false x, by omega, by go_num, HI9⟩, by simp [intOf]; omega⟩
                | true =>
                  have HC2 := Lib.hid (show ∃ (hk : m.seen < d.lm.L.length), dd = d.lm.L[m.seen] from by
                    rcases HC.out with ⟨h, _⟩ | ⟨_, h⟩
                    · cases h
                    · exact h)
                  obtain ⟨m', HWm, HAC⟩ : ∃ m', Hid ((d.room false x).writer (j : Int) = some m') ∧ Hid ((ow = true → m'.view = m.view ∧ m.ds ≠ [] ∧ m'.ds = m.ds.tail) ∧ (ow = false → m'.ds = m.ds)) := by
                    obtain ⟨hl, hdd⟩ := HC2.out
                    obtain ⟨m', e1, e2, e3⟩ := room_acks HO.out false x HOV.out HD4.out HM.out hl
                    rw [HXJ.out] at e1 e2 e3
                    rw [← hdd] at e2 e3
                    refine ⟨m', Lib.hid e1, Lib.hid ⟨fun h => e2 ?_, fun h => e3 ?_⟩⟩
                    · have h2 := HOWN.out; rw [h] at h2; simpa using h2.symm
                    · have h2 := HOWN.out; rw [h] at h2; simpa using h2.symm
                  clear HC HC2 HOWN
                  generalize d.room false x = d' at *
                  have HWJ' := Lib.hid (show d'.W j = some m' from by
                    have h := HWm.out
                    unfold DkM.writer at h
                    rw [if_pos (isWriter_nat hj)] at h
                    simpa using h)
                  obtain ⟨FW9, _, c1, hw9, _⟩ := HR9.out.wrZ hj HWJ'.out
                  obtain ⟨_, _, _, t', hin'⟩ := HI9.out.1.of_writer HWm.out
                  have hcl' := hin'.chars_len HI9.out.1.lm
                  have hos' : m'.opn.length ≤ 1000 := (HI9.out.2.1.mono (show k + 1 ≤ 1000 by omega)).writer HWm.out
                  obtain ⟨N', hN'⟩ : ∃ N', m'.opn.length = N' := ⟨_, rfl⟩
                  have hdl' : m'.ds.length = N' := by rw [← hN']; unfold WM.ds; rw [List.length_map]
                  have hdl : m.ds.length = N := by rw [← HN.out]; unfold WM.ds; rw [List.length_map]
                  have HDL' := Lib.hid hdl'; have HDL := Lib.hid hdl
                  have HTX := Lib.hid (fun W (h : Later w9 W) => show Calls Try.prog 46 #[.pointer (some ⟨(gw9 j), 0, none⟩)] W fun e w' => e = .returned (.string (strOfNums m'.view)) ∧ Below W.heap.size W w' from
                    WText_c (hw9.later h) (by show m'.chars.length ≤ 1000; omega))
                  have HOP := Lib.hid (fun W (h : Later w9 W) => show Calls Try.prog 47 #[.pointer (some ⟨(gw9 j), 0, none⟩)] W fun e w' => ∃ a' cap', e = .returned (.slice a' N' cap') ∧ OwnRow w' W.heap.size 25 7 a' N' cap' (flatD m'.ds) ∧ Below W.heap.size W w' from by
                    rw [← hN']; exact WOpen_c (hw9.later h) (by show m'.opn.length ≤ 1000000; omega))
                  have hN1' : N' ≤ 1000 := by rw [← hN']; exact hos'
                  have HSL9 := Lib.hid (show SlDd w9 aO cO m.ds from OwnRow.slDd (by rw [HDL.out]; exact HOO9.out))
                  clear hw9 hin' hcl' hos' hN' hdl' hdl HOO9
                  go_upto_region 21 with fail
                  obtain ⟨_, b1, _, _, _⟩ := HX9.out
                  rw [HXJ.out] at b1
                  have B1 := later_cell b1
                  have C1 := later_cell c1
                  have hL : ∀ q : Lt w9, Later w9 q.v := fun q => q.h
                  refine wp_region_x [7] [] [0, 1, 2, 3, 4, 5, 6, 7, 8] (by kernel_rfl) (by kernel_rfl) ?_
                  iterate 7 (refine wpX_step rfl (fun K hK => ?_); go_simp; refine hK _ _ ?_; clear hK K)
                  refine wpX_step rfl (fun K hK => ?_)
                  go_simp
                  intro p
                  refine (HOP.out p.v (hL p)).mono ?_
                  rintro e w10 ⟨a2, c2, rfl, ho2, hb10⟩
                  refine ⟨_, rfl, hb10, hK _ _ ?_⟩
                  clear hK K
                  have HL10 := Lib.hid (show Later w9 w10 from Below.trans p.h (hb10.mono p.h.size))
                  have HS2 := Lib.hid (show SlDd w10 a2 c2 m'.ds from OwnRow.slDd (by rw [HDL'.out]; exact ho2))
                  clear ho2 hb10 p hL B1 C1
                  iterate 1 (refine wpX_step rfl (fun K hK => ?_); go_simp; refine hK _ _ ?_; clear hK K)
                  refine wpX_nil ?_
                  intro w11 hL11
                  have HL11 := Lib.hid (HL10.out.trans hL11)
                  have HS11 := Lib.hid (HS2.out.below hL11)
                  have HT11 := Lib.hid (HSL9.out.below HL11.out)
                  have b1 := (HL11.out.cell (p := ⟨X, 0 + 1, none⟩) HX9.out.lt).trans b1
                  have c1 := (HL11.out.cell (p := ⟨g, 1 + j, none⟩) HR9.out.lt).trans c1
                  clear hL11 HL10 HS2 HSL9
                  go_upto_region 22 with fail
                  have B1 := later_cell b1
                  have C1 := later_cell c1
                  have hL : ∀ q : Lt w11, Later w11 q.v := fun q => q.h
                  clear b1 c1
                  cases ow with
                  | false =>
                    have e1 := HAC.out.2 rfl
                    rw [e1] at HS11 HDL'
                    have e2 : N' = N := by rw [← HDL'.out, HDL.out]
                    subst e2
                    clear e1
                    refine wp_region_x [] [] [0, 1, 2, 3, 4, 5, 6, 7, 8, 9, 10, 11, 12, 13, 14, 15, 16, 17, 18, 19, 20, 21, 22, 23, 24, 25, 26, 27, 28, 29, 30, 31, 32, 33, 34, 35, 36, 37] (by kernel_rfl) (by kernel_rfl) ?_
                    iterate 34 (refine wpX_step rfl (fun K hK => ?_); go_simp; refine hK _ _ ?_; clear hK K)
                    refine wpX_step rfl (fun K hK => ?_)
                    go_simp
                    refine ⟨_, fun p => quietM p (SameDeeds_r a2 aO c2 cO m.ds N' HDL'.out p.v (HS11.out.below (hL p)) (HT11.out.below (hL p))), hK _ _ ?_⟩
                    clear hK K
                    iterate 3 (refine wpX_step rfl (fun K hK => ?_); go_simp; refine hK _ _ ?_; clear hK K)
                    refine wpX_nil ?_
                    intro w12 hL12
                    have HI12 := Lib.hid (show d'.Ok ∧ d'.Sm (k + 1) ∧ RW w2 w2.heap.size g d' w12 from ⟨HI9.out.1, HI9.out.2.1, HI9.out.2.2.later (HL11.out.trans hL12)⟩)
                    clear hL12 hL B1 C1 HS11 HT11 HL11 HR9 HX9 HI9
                    go_wp2
                    exact ⟨⟨k + 1, d', by omega, by go_num, HI12⟩, by simp [intOf]; omega⟩
                  | true =>
                    obtain ⟨hv, hne, htl⟩ := HAC.out.1 rfl
                    have HV := Lib.hid hv
                    have hds1 : 1 ≤ m.ds.length := by
                      cases hh : m.ds with
                      | nil => exact absurd hh hne
                      | cons _ _ => simp
                    have hNN : N = N' + 1 := by
                      have h1 := HDL'.out
                      rw [htl, List.length_tail, HDL.out] at h1
                      rw [HDL.out] at hds1
                      omega
                    obtain ⟨bO, oO, rfl, hq0⟩ := HT11.out.2.2 0 hds1
                    clear hq0
                    have HTL := Lib.hid (HT11.out.tail1 hds1)
                    rw [← htl] at HTL
                    have hcO : N ≤ cO := by have := HT11.out.1; rw [HDL.out] at this; exact this
                    have hTXT : ∀ p : Lt w11, Calls Try.prog 46 #[.pointer (some ⟨(gw9 j), 0, none⟩)] p.v fun e w' => e = .returned (.string S) ∧ Below p.v.heap.size p.v w' := fun p => by
                      have h := HTX.out p.v (HL11.out.trans (hL p))
                      rw [HV.out, ← HSE.out] at h
                      exact h
                    have HTXT := Lib.hid hTXT
                    subst hNN
                    have hw1 : IntKind.i64.wrap ((N' : Int) + 1) = (N' : Int) + 1 := by rw [IntKind.wrap_i64]; omega
                    have h1N : (1 : Int) ≤ (N' : Int) + 1 := by omega
                    have hcN : (N' : Int) + 1 ≤ (cO : Int) := by omega
                    clear hv hne htl hds1 hTXT
                    refine wp_region_x [] [] [0, 1, 2, 3, 4, 5, 6, 7, 8, 9, 10, 11, 12, 13, 14, 15, 16, 17, 18, 19, 20, 21, 22, 23, 24, 25, 26, 27, 28, 29, 30, 31, 32, 33, 34, 35, 36, 37] (by kernel_rfl) (by kernel_rfl) ?_
                    iterate 9 (refine wpX_step rfl (fun K hK => ?_); go_simp; refine hK _ _ ?_; clear hK K)
                    refine wpX_step rfl (fun K hK => ?_)
                    go_simp
                    refine ⟨_, fun p => quietM p (HTXT.out p), hK _ _ ?_⟩
                    clear hK K
                    iterate 14 (refine wpX_step rfl (fun K hK => ?_); go_simp; refine hK _ _ ?_; clear hK K)
                    refine wpX_step rfl (fun K hK => ?_)
                    go_simp
                    refine ⟨_, fun p => quietM p (SameDeeds_r a2 _ c2 _ m'.ds N' HDL'.out p.v (HS11.out.below (hL p)) (HTL.out.below (hL p))), hK _ _ ?_⟩
                    clear hK K
                    iterate 13 (refine wpX_step rfl (fun K hK => ?_); go_simp; refine hK _ _ ?_; clear hK K)
                    refine wpX_nil ?_
                    intro w12 hL12
                    have HI12 := Lib.hid (show d'.Ok ∧ d'.Sm (k + 1) ∧ RW w2 w2.heap.size g d' w12 from ⟨HI9.out.1, HI9.out.2.1, HI9.out.2.2.later (HL11.out.trans hL12)⟩)
                    clear hL12 hL B1 C1 HS11 HT11 HL11 HR9 HX9 HI9 HTL HTXT
                    go_wp2
                    exact ⟨⟨k + 1, d', by omega, by go_num, HI12⟩, by simp [intOf]; omega⟩
    · obtain rfl : k = l.length := by omega
      have hltB : decide ((l.length : Int) < (l.length : Int)) = false := by simp
      have HF := Lib.hid (HB1.out.trans (HI.out.2.2.2.mono HB1.out.size))
      clear HI
      go_wp2
      go_ret
      exact ⟨rfl, HF.out⟩
end Go.Proofs.Ytneoeokfffnonab
