/- Printed by gentsame.py: the walk of the law DesksDoes. -/
import Derived.Test.YtneoeokfffnonacGreatTnSame
import Derived.Test.YtneoeokfffnonacGreatTnSet
set_option linter.unusedVariables false
set_option linter.unusedSimpArgs false
namespace Go.Proofs.YtneoeokfffnonacGreat
open Go.RowKit
theorem same_DT {w0 w : World} {base g gt : Nat} {d : DkM} (h : DT w0 base g gt d d w) (ho : d.Ok) (hs : d.Sm 1000) :
    Calls Tryz.prog 10 #[.pointer (some ⟨g, 0, none⟩), .pointer (some ⟨gt, 0, none⟩)] w fun e w' => e = .returned (.bool true) ∧ Below w.heap.size w w' := by
  obtain ⟨⟨F1, gw, F2, gs, h1, h2, _⟩, _⟩ := h
  exact sameDesks_c h1 h2 ho hs
set_option maxRecDepth 100000 in
set_option maxHeartbeats 2000000 in
theorem DesksDoes_c (a : Option Addr) (cap : Nat) (l : List DStep) (w : World) (hs : SlSt w a cap l) (hok : ∀ x ∈ l, x.ok) :
    Calls Tryz.prog 3 #[.slice a l.length cap] w fun e w' => e = .returned (.bool true) ∧ Below w.heap.size w w' := by
  have HOK := Lib.hid hok
  clear hok
  go_enter Tryz.func3, Tryz.ntmps3
  go_wp2_with fail
  refine (desksBegun_c w).mono ?_
  rintro e w1 ⟨rfl, hb1⟩
  have HS1 := Lib.hid (hs.below hb1)
  have HB1 := Lib.hid hb1
  clear hs hb1
  go_wp2_with fail
  refine (greatSteps_c a cap l w1 HS1.out).mono ?_
  rintro e w2 ⟨r, rfl, rfl, hr⟩
  cases r
  case true =>
    go_wp2
    go_ret
    exact ⟨rfl, HB1.out⟩
  obtain ⟨hl200, _⟩ := hr rfl
  clear hr
  go_wp2_with fail
  refine (DNew_c w2).mono ?_
  rintro e w3 ⟨F1, g, gw, rfl, hd3, hb3⟩
  have HD3 := Lib.hid hd3
  have HB3 := Lib.hid hb3
  clear hd3 hb3
  go_wp2_with fail
  refine (NewTown_c w3).mono ?_
  rintro e w4 ⟨F2, gt, gs, rfl, ht4, hb4⟩
  have HI0 := Lib.hid (show DkM.new.Ok ∧ DkM.new.Sm 0 ∧ DT w2 w2.heap.size g gt DkM.new DkM.new w4 from
    ⟨DkM.new_ok, DkM.new_sm, ⟨F1, gw, F2, gs, HD3.out.later hb4, ht4.baseLe HB3.out.size, fun k h1 h2 => by
      have := (HD3.out.foot k h1).2; have := (ht4.foot k h2).1; omega⟩, HB3.out.trans (hb4.mono HB3.out.size)⟩)
  clear ht4 hb4 HD3 HB3
  go_wp2
  go_loopw [5] (fun s5 wr => ∃ (k : Nat) (d : DkM), k ≤ l.length ∧ s5 = (.int .i64 k) ∧ Hid (d.Ok ∧ d.Sm k ∧ DT w2 w2.heap.size g gt d d wr)) (fun s5 _ => l.length - (intOf s5).toNat)
  case atStart => exact ⟨0, DkM.new, Nat.zero_le _, rfl, HI0⟩
  case round =>
    obtain ⟨k, d, hk, rfl, HI⟩ := hrel
    clear HI0
    by_cases hlt : k < l.length
    · have HSr := Lib.hid (HS1.out.below HI.out.2.2.2)
      obtain ⟨bb, off, rfl, hq⟩ := HSr.out.nth hlt
      obtain ⟨bb1, off1, hbo, hq1⟩ := HS1.out.nth hlt
      cases hbo
      have hbbl := hq1.lt
      have HX := Lib.hid (HOK.out l[k] (List.getElem_mem hlt))
      have hlt' : (k : Int) < l.length := by omega
      have hk0 : (0 : Int) ≤ (k : Int) := by omega
      generalize l[k] = x at *
      clear hq1
      obtain ⟨q0, q1, q2, q3, q4⟩ := hq
      have HXO := Lib.hid (show x.ok' from ⟨HX.out.2.2.2.1, HX.out.2.2.2.2⟩)
      have HO := Lib.hid HI.out.1
      have HSM := Lib.hid (show d.Sm 1000 from HI.out.2.1.mono (by omega))
      have HSK := Lib.hid HI.out.2.1
      have HDT := Lib.hid HI.out.2.2
      have hB : w2.heap.size ≤ wr.heap.size := HI.out.2.2.2.size
      obtain ⟨c, hc⟩ : ∃ c, c = (d.step x).2 := ⟨_, rfl⟩
      have HO' := Lib.hid (HO.out.step x)
      have HSK' := Lib.hid (HSK.out.step x)
      have HSM' := Lib.hid (show (d.step x).1.Sm 1000 from HSK'.out.mono (by omega))
      obtain ⟨d', hd'⟩ : ∃ d', d' = (d.step x).1 := ⟨_, rfl⟩
      rw [← hd'] at HO' HSK' HSM'
      have HDO := Lib.hid (fun W (h : DT w2 w2.heap.size g gt d d W) => show Calls Tryz.prog 8 #[.pointer (some ⟨g, 0, none⟩), .agg #[.int .i64 x.Kind, .int .i64 x.W, .int .i64 x.At, .int .i64 x.Many, .string x.Text]] W fun en w' => en = .returned (.int .i64 c) ∧ DT W w2.heap.size g gt d' d w' from by
        rw [hc, hd']; exact Do_DT h.self HO.out HSM.out x HXO.out)
      have HTO := Lib.hid (fun W (h : DT w2 w2.heap.size g gt d' d W) => show Calls Tryz.prog 9 #[.pointer (some ⟨gt, 0, none⟩), .agg #[.int .i64 x.Kind, .int .i64 x.W, .int .i64 x.At, .int .i64 x.Many, .string x.Text]] W fun en w' => en = .returned (.int .i64 c) ∧ DT W w2.heap.size g gt d' d' w' from by
        rw [hc, hd']; rw [hd'] at h; exact TDo_DT h.self HO.out HSM.out x HXO.out)
      clear HI HSr hc hd'
      go_upto_region 9 with fail
      have Q0 := MB.cellB (B := w2.heap.size) q0 hbbl
      have Q1 := MB.cellB (B := w2.heap.size) q1 hbbl
      have Q2 := MB.cellB (B := w2.heap.size) q2 hbbl
      have Q3 := MB.cellB (B := w2.heap.size) q3 hbbl
      have Q4 := MB.cellB (B := w2.heap.size) q4 hbbl
      clear q0 q1 q2 q3 q4
      obtain ⟨r, hr⟩ : ∃ r, (k : Int).tmod 4 = r := ⟨_, rfl⟩
      have hr1 : 0 ≤ r ∧ r < 4 := by rw [← hr, Int.tmod_eq_emod_of_nonneg hk0]; omega
      have hwr : IntKind.i64.wrap r = r := by rw [IntKind.wrap_i64]; omega
      refine MB.wp_region_mixb w2.heap.size [5, 11, 20] [] (.ops [0, 1, 2, 3, 4, 6, 7, 8, 9, 10, 5, 11, 12, 13, 14, 15, 16, 17, 18, 19, 20, 21, 22, 23] .nil) (by kernel_rfl) (by kernel_rfl) ?_
      iterate 10 (refine MB.wpMixF_step hB rfl (fun K hK => ?_); go_simp; refine hK _ _ ?_; clear hK K)
      refine MB.wpMixF_step hB rfl (fun K hK => ?_)
      go_simp
      intro p
      refine (HDO.out p.v (HDT.out.later p.h)).mono ?_
      rintro e w6 ⟨rfl, h6⟩
      refine ⟨_, rfl, fun _ => h6.2, hK _ _ ?_⟩
      clear hK K
      have H6 := Lib.hid ((HDT.out.later p.h).from h6)
      have hB6 : w2.heap.size ≤ w6.heap.size := H6.out.2.size
      clear h6 p hB Q0 Q1 Q2 Q3 Q4
      have hB := hB6
      refine MB.wpMixF_step hB rfl (fun K hK => ?_)
      go_simp
      intro p
      refine (HTO.out p.v (H6.out.later p.h)).mono ?_
      rintro e w7 ⟨rfl, h7⟩
      refine ⟨_, rfl, fun _ => h7.2, hK _ _ ?_⟩
      clear hK K
      have H7 := Lib.hid ((H6.out.later p.h).from h7)
      have hB7 : w2.heap.size ≤ w7.heap.size := H7.out.2.size
      clear h7 p hB hB6 H6
      have hB := hB7
      by_cases h0 : r = 0
      · subst h0
        clear hr1 hwr
        iterate 8 (refine MB.wpMixF_step hB rfl (fun K hK => ?_); go_simp; refine hK _ _ ?_; clear hK K)
        refine MB.wpMixF_step hB rfl (fun K hK => ?_)
        go_simp
        intro p
        refine (same_DT (H7.out.later p.h) HO'.out HSM'.out).mono ?_
        rintro e w8 ⟨rfl, hb8⟩
        refine ⟨_, rfl, MB.Eff.of hb8, hK _ _ ?_⟩
        clear hK K
        have H8 := Lib.hid ((H7.out.later p.h).later hb8)
        have hB8 : w2.heap.size ≤ w8.heap.size := H8.out.2.size
        clear hb8 p hB hB7 H7
        have hB := hB8
        iterate 3 (refine MB.wpMixF_step hB rfl (fun K hK => ?_); go_simp; refine hK _ _ ?_; clear hK K)
        refine MB.wpMixF_nil ?_
        intro w9 hL9
        have HI9 := Lib.hid (show d'.Ok ∧ d'.Sm (k + 1) ∧ DT w2 w2.heap.size g gt d' d' w9 from ⟨HO'.out, HSK'.out, H8.out.later hL9⟩)
        clear hL9 H8 hB hB8 HDO HTO HDT
        go_wp2
        exact ⟨⟨k + 1, d', by omega, by go_num, HI9⟩, by simp [intOf]; omega⟩
      · have h0B : decide (r = 0) = false := decide_eq_false h0
        have h0E : (r == 0) = false := by simpa using h0
        iterate 12 (refine MB.wpMixF_step hB rfl (fun K hK => ?_); go_simp; refine hK _ _ ?_; clear hK K)
        refine MB.wpMixF_nil ?_
        intro w9 hL9
        have HI9 := Lib.hid (show d'.Ok ∧ d'.Sm (k + 1) ∧ DT w2 w2.heap.size g gt d' d' w9 from ⟨HO'.out, HSK'.out, H7.out.later hL9⟩)
        clear hL9 H7 hB hB7 HDO HTO HDT
        go_wp2
        exact ⟨⟨k + 1, d', by omega, by go_num, HI9⟩, by simp [intOf]; omega⟩
    · obtain rfl : k = l.length := by omega
      have hltB : decide ((l.length : Int) < (l.length : Int)) = false := by simp
      have HO := Lib.hid HI.out.1
      have HSM := Lib.hid (show d.Sm 1000 from HI.out.2.1.mono (by omega))
      have HDT := Lib.hid HI.out.2.2
      clear HI
      go_wp2_with fail
      refine (same_DT HDT.out HO.out HSM.out).mono ?_
      rintro e w5 ⟨rfl, hb5⟩
      have H5 := Lib.hid (HDT.out.later hb5)
      clear hb5 HDT
      go_wp2_with fail
      refine (Settle_DT H5.out HO.out HSM.out).mono ?_
      rintro e w6 ⟨⟨v, rfl⟩, h6⟩
      have H6 := Lib.hid h6
      clear h6 H5
      go_wp2_with fail
      refine (TSettle_DT H6.out HO.out HSM.out).mono ?_
      rintro e w7 ⟨⟨v2, rfl⟩, h7⟩
      have H7 := Lib.hid h7
      have HSE := Lib.hid (settle_settled HO.out)
      have HN := Lib.hid (HSM.out.settle)
      clear h7 H6
      go_wp2_with fail
      refine (same_DT H7.out HSE.out.ok HN.out).mono ?_
      rintro e w8 ⟨rfl, hb8⟩
      have HF := Lib.hid (HB1.out.trans ((H7.out.later hb8).2.mono HB1.out.size))
      clear hb8 H7
      go_wp2
      go_ret
      exact ⟨rfl, HF.out⟩
end Go.Proofs.YtneoeokfffnonacGreat
