/- The walk of the law LogDoes. -/
import Derived.Test.YtneoeokfffnonabLLShared
import Derived.Deep.RegionWith
import Derived.Deep.DeepCutAuto
import Derived.Test.YtneoeokfffnonabMixH
set_option linter.unusedVariables false
set_option linter.unusedSimpArgs false
namespace Go.Proofs.Ytneoeokfffnonab
open Go.RowKit

theorem guard_Deed : Try.prog.eqGuardType Try.prog.depth 25 = false := by kernel_rfl
theorem eql_Deed (x : Dd) (w : World) : (binOp .eql 25 (.agg #[.int .i64 x.Kind, .int .i64 x.By, .int .i64 x.No, .int .i64 x.Seen, .int .i64 x.At, .int .i64 x.Many, .string x.Text]) (.agg #[.int .i64 x.Kind, .int .i64 x.By, .int .i64 x.No, .int .i64 x.Seen, .int .i64 x.At, .int .i64 x.Many, .string x.Text])).run Try.prog w = .ok (.bool true) w := by
  have u3 := Try.underlying3
  have a3 := Try.isAgg3
  have z3 := Try.sizeOf3
  have u5 := Try.underlying9
  have a5 := Try.isAgg9
  have z5 := Try.sizeOf9
  have hS : Try.prog.underlying 25 = some (.struct (Try.prog.fieldsOf 25)) := by kernel_rfl
  have hp : Try.prog.stoodInHeld 25 = false := by kernel_rfl
  rw [run_eql_struct, show (10000 : Nat) = 9999 + 1 from rfl, run_equalIn_agg w 9999 25 _ _ hS hp]
  simp only [Program.fieldsOf, Try.underlying25]
  go_simp
theorem BookAt.above {w w' : World} {base A b : Nat} {F : Nat → Prop} {m : LogM} (h : BookAt w base F b m) (hb : Below A w w') (hF : ∀ k, F k → k < A) : BookAt w' base F b m :=
  h.moves (G := fun k => A ≤ k) ⟨hb.os, hb.tape, hb.output, hb.size, fun k _ hn => hb.block k (by omega)⟩ (fun k h1 h2 => by have := hF k h1; omega)
theorem DdAt.belowB {w w' : World} {b B : Nat} {d : Dd} (h : DdAt w b d) (hl : Below B w w') (hb : b < B) : DdAt w' b d := h.of_block hl.size (hl.block b hb)
theorem DdAt.put0 {w : World} {b : Nat} {d : Dd} (h : DdAt w b d) (v : Int) : DdAt (w.setCell ⟨b, 0, none⟩ (.int .i64 v)) b { d with Kind := v } := by
  obtain ⟨lt, h0, h1, h2, h3, h4, h5, h6⟩ := h
  refine ⟨by simpa using lt, ?_, ?_, ?_, ?_, ?_, ?_, ?_⟩
  · exact World.cell?_setCell_same _ _ _ h0
  · exact (World.cell?_setCell_other _ _ _ _ (by simp)).trans h1
  · exact (World.cell?_setCell_other _ _ _ _ (by simp)).trans h2
  · exact (World.cell?_setCell_other _ _ _ _ (by simp)).trans h3
  · exact (World.cell?_setCell_other _ _ _ _ (by simp)).trans h4
  · exact (World.cell?_setCell_other _ _ _ _ (by simp)).trans h5
  · exact (World.cell?_setCell_other _ _ _ _ (by simp)).trans h6
theorem DdAt.put1 {w : World} {b : Nat} {d : Dd} (h : DdAt w b d) (v : Int) : DdAt (w.setCell ⟨b, 1, none⟩ (.int .i64 v)) b { d with By := v } := by
  obtain ⟨lt, h0, h1, h2, h3, h4, h5, h6⟩ := h
  refine ⟨by simpa using lt, ?_, ?_, ?_, ?_, ?_, ?_, ?_⟩
  · exact (World.cell?_setCell_other _ _ _ _ (by simp)).trans h0
  · exact World.cell?_setCell_same _ _ _ h1
  · exact (World.cell?_setCell_other _ _ _ _ (by simp)).trans h2
  · exact (World.cell?_setCell_other _ _ _ _ (by simp)).trans h3
  · exact (World.cell?_setCell_other _ _ _ _ (by simp)).trans h4
  · exact (World.cell?_setCell_other _ _ _ _ (by simp)).trans h5
  · exact (World.cell?_setCell_other _ _ _ _ (by simp)).trans h6
theorem DdAt.put2 {w : World} {b : Nat} {d : Dd} (h : DdAt w b d) (v : Int) : DdAt (w.setCell ⟨b, 2, none⟩ (.int .i64 v)) b { d with No := v } := by
  obtain ⟨lt, h0, h1, h2, h3, h4, h5, h6⟩ := h
  refine ⟨by simpa using lt, ?_, ?_, ?_, ?_, ?_, ?_, ?_⟩
  · exact (World.cell?_setCell_other _ _ _ _ (by simp)).trans h0
  · exact (World.cell?_setCell_other _ _ _ _ (by simp)).trans h1
  · exact World.cell?_setCell_same _ _ _ h2
  · exact (World.cell?_setCell_other _ _ _ _ (by simp)).trans h3
  · exact (World.cell?_setCell_other _ _ _ _ (by simp)).trans h4
  · exact (World.cell?_setCell_other _ _ _ _ (by simp)).trans h5
  · exact (World.cell?_setCell_other _ _ _ _ (by simp)).trans h6
theorem DdAt.put3 {w : World} {b : Nat} {d : Dd} (h : DdAt w b d) (v : Int) : DdAt (w.setCell ⟨b, 3, none⟩ (.int .i64 v)) b { d with Seen := v } := by
  obtain ⟨lt, h0, h1, h2, h3, h4, h5, h6⟩ := h
  refine ⟨by simpa using lt, ?_, ?_, ?_, ?_, ?_, ?_, ?_⟩
  · exact (World.cell?_setCell_other _ _ _ _ (by simp)).trans h0
  · exact (World.cell?_setCell_other _ _ _ _ (by simp)).trans h1
  · exact (World.cell?_setCell_other _ _ _ _ (by simp)).trans h2
  · exact World.cell?_setCell_same _ _ _ h3
  · exact (World.cell?_setCell_other _ _ _ _ (by simp)).trans h4
  · exact (World.cell?_setCell_other _ _ _ _ (by simp)).trans h5
  · exact (World.cell?_setCell_other _ _ _ _ (by simp)).trans h6
theorem DdAt.put4 {w : World} {b : Nat} {d : Dd} (h : DdAt w b d) (v : Int) : DdAt (w.setCell ⟨b, 4, none⟩ (.int .i64 v)) b { d with At := v } := by
  obtain ⟨lt, h0, h1, h2, h3, h4, h5, h6⟩ := h
  refine ⟨by simpa using lt, ?_, ?_, ?_, ?_, ?_, ?_, ?_⟩
  · exact (World.cell?_setCell_other _ _ _ _ (by simp)).trans h0
  · exact (World.cell?_setCell_other _ _ _ _ (by simp)).trans h1
  · exact (World.cell?_setCell_other _ _ _ _ (by simp)).trans h2
  · exact (World.cell?_setCell_other _ _ _ _ (by simp)).trans h3
  · exact World.cell?_setCell_same _ _ _ h4
  · exact (World.cell?_setCell_other _ _ _ _ (by simp)).trans h5
  · exact (World.cell?_setCell_other _ _ _ _ (by simp)).trans h6
theorem DdAt.put5 {w : World} {b : Nat} {d : Dd} (h : DdAt w b d) (v : Int) : DdAt (w.setCell ⟨b, 5, none⟩ (.int .i64 v)) b { d with Many := v } := by
  obtain ⟨lt, h0, h1, h2, h3, h4, h5, h6⟩ := h
  refine ⟨by simpa using lt, ?_, ?_, ?_, ?_, ?_, ?_, ?_⟩
  · exact (World.cell?_setCell_other _ _ _ _ (by simp)).trans h0
  · exact (World.cell?_setCell_other _ _ _ _ (by simp)).trans h1
  · exact (World.cell?_setCell_other _ _ _ _ (by simp)).trans h2
  · exact (World.cell?_setCell_other _ _ _ _ (by simp)).trans h3
  · exact (World.cell?_setCell_other _ _ _ _ (by simp)).trans h4
  · exact World.cell?_setCell_same _ _ _ h5
  · exact (World.cell?_setCell_other _ _ _ _ (by simp)).trans h6
theorem DdAt.put6 {w : World} {b : Nat} {d : Dd} (h : DdAt w b d) (v : ByteArray) : DdAt (w.setCell ⟨b, 6, none⟩ (.string v)) b { d with Text := v } := by
  obtain ⟨lt, h0, h1, h2, h3, h4, h5, h6⟩ := h
  refine ⟨by simpa using lt, ?_, ?_, ?_, ?_, ?_, ?_, ?_⟩
  · exact (World.cell?_setCell_other _ _ _ _ (by simp)).trans h0
  · exact (World.cell?_setCell_other _ _ _ _ (by simp)).trans h1
  · exact (World.cell?_setCell_other _ _ _ _ (by simp)).trans h2
  · exact (World.cell?_setCell_other _ _ _ _ (by simp)).trans h3
  · exact (World.cell?_setCell_other _ _ _ _ (by simp)).trans h4
  · exact (World.cell?_setCell_other _ _ _ _ (by simp)).trans h5
  · exact World.cell?_setCell_same _ _ _ h6
def dZ : Dd := ⟨0, 0, 0, 0, 0, 0, ⟨#[]⟩⟩

set_option maxRecDepth 100000 in
set_option maxHeartbeats 4000000 in
theorem LogDoes_c (a : Option Addr) (cap : Nat) (l : List LStep) (y : Int) (w : World) (hs : SlLs w a cap l) (hok : ∀ x ∈ l, x.ok) (hy : i64ok y) :
    Calls Try.prog 8 #[.slice a l.length cap, .int .i64 y] w fun e w' => e = .returned (.bool true) ∧ Below w.heap.size w w' := by
  have HXK := Lib.hid hok; clear hok
  go_enter Try.func8, Try.ntmps8
  go_wp2_with fail
  refine (logBegun_c _).mono ?_
  rintro e w1 ⟨rfl, hb1⟩
  have hs1 := hs.below hb1
  clear hs
  go_wp2_with fail
  refine (greatLog_c a cap l _ hs1).mono ?_
  rintro e w2 ⟨r, rfl, rfl, hr⟩
  cases r
  case true =>
    clear hr
    go_wp2
    go_ret
    exact ⟨rfl, hb1⟩
  obtain ⟨hl150, _⟩ := hr rfl
  clear hr
  go_wp2_with fail
  refine (New_log _).mono ?_
  rintro e w3 ⟨F, g, rfl, hL3, hb3⟩
  have HL3 := Lib.hid hL3
  clear hL3
  go_upto_region 6 with fail
  generalize hw4 : w3.alloc _ = w4
  obtain ⟨hB4, hb4⟩ := both_new HL3.out hw4.symm
  have HB4 := Lib.hid hB4
  have hx4 : Below w2.heap.size w2 w4 := hb3.trans (hb4.mono hb3.size)
  clear hw4 hB4 hb4 hb3 HL3
  generalize w3.heap.size = b at *
  obtain ⟨base, hbase⟩ : ∃ base, base = w2.heap.size := ⟨_, rfl⟩
  rw [← hbase] at HB4 hx4
  have HBS := Lib.hid hbase
  have HBZ := Lib.hid (show base ≤ w2.heap.size from Nat.le_of_eq hbase); clear hbase
  have HB1 := Lib.hid hb1; clear hb1
  have HS1 := Lib.hid hs1; clear hs1
  have HYI := Lib.hid hy
  go_wp2
  go_loopw [7] (fun s5 wr => ∃ k : Nat, k ≤ l.length ∧ s5 = (.int .i64 k) ∧ Hid (Both wr base g b (LogM.new.steps (l.take k))) ∧ Below base w2 wr) (fun s5 _ => l.length - (intOf s5).toNat)
  case atStart => exact ⟨0, Nat.zero_le _, rfl, HB4, hx4⟩
  case round =>
    obtain ⟨k, hk, rfl, HB, hbr⟩ := hrel
    by_cases hlt : k < l.length
    · have hsr := HS1.out.below (by rw [← HBS.out]; exact hbr)
      obtain ⟨bb, off, rfl, hq⟩ := hsr.nth hlt
      have hbbl : bb < base := by
        obtain ⟨b1, o1, e1, h1⟩ := HS1.out.nth hlt
        cases e1; rw [HBS.out]; exact h1.lt
      have HST := Lib.hid (steps_snoc l k hlt)
      have HMK := Lib.hid (steps_ok l k)
      have HXO := Lib.hid (HXK.out l[k] (List.getElem_mem hlt))
      have hlt' : (k : Int) < l.length := by omega
      have hk0 : (0 : Int) ≤ (k : Int) := by omega
      generalize LogM.new.steps (l.take k) = m at *
      generalize hx : l[k] = x at *
      clear hx hsr
      have HQ := Lib.hid hq
      have HBR := Lib.hid hbr
      obtain ⟨q0, q1, q2, q3, q4, q5, q6, q7, q8, q9, q10⟩ := hq
      have HKC := Lib.hid (HMK.out.step x)
      generalize hm' : m.step x = m' at *
      have HM' := Lib.hid hm'; clear hm' hbr
      go_upto_region 9 with fail
      have Q0 := later_cell q0
      have Q1 := later_cell q1
      have Q2 := later_cell q2
      have Q3 := later_cell q3
      have Q4 := later_cell q4
      have Q5 := later_cell q5
      have Q6 := later_cell q6
      have Q7 := later_cell q7
      have Q8 := later_cell q8
      have Q9 := later_cell q9
      have Q10 := later_cell q10
      clear q0 q1 q2 q3 q4 q5 q6 q7 q8 q9 q10
      have hL0 : ∀ q : Lt wr, Later wr q.v := fun q => q.h
      refine wp_region_mixh [] [6] [0, 1, 2, 3, 4, 5, 6, 7, 8, 9, 10, 11, 12, 13, 14, 15, 16, 17, 18, 19, 20, 21, 22, 23, 24, 25, 26, 27, 28, 29, 30, 31, 32, 33, 34, 35, 36, 37, 38, 39, 40, 41] (by kernel_rfl) (by kernel_rfl) ?_
      iterate 6 (refine wpMixH_step rfl (fun K hK => ?_); go_simp; refine hK _ _ ?_; clear hK K)
      refine wpMixH_step rfl (fun K hK => ?_)
      go_simp
      intro p
      refine (logStep_c (HB.out.later p.h) HMK.out x HXO.out).mono ?_
      rintro e w5 ⟨rfl, hB5, hb5⟩
      refine ⟨_, rfl, hK _ _ ?_⟩
      clear hK K
      have hp5 : Below base wr w5 := (Below.mono p.h (by have := HBR.out.size; have := HBZ.out; omega)).trans hb5
      have HX5 := Lib.hid (HBR.out.trans hp5)
      have HQ5 := Lib.hid (HQ.out.below hp5 hbbl)
      rw [HM'.out] at hB5
      obtain ⟨F7, B7, hL7, hK7, hFB7⟩ := hB5
      have HL7 := Lib.hid hL7; have HK7 := Lib.hid hK7; have HFB7 := Lib.hid hFB7
      clear hL0 hL7 hK7 hFB7 hb5 hp5 p Q0 Q1 Q2 Q3 Q4 Q5 Q6 Q7 Q8 Q9 Q10 HB
      have Q1 := later_cell HQ5.out.2.1
      obtain ⟨ab, cb, r0, _, _⟩ := HK7.out.rows
      have R0 := later_cell r0
      clear r0
      have hL : ∀ q : Lt w5, Later w5 q.v := fun q => q.h
      iterate 3 (refine wpMixH_step rfl (fun K hK => ?_); go_simp; refine hK _ _ ?_; clear hK K)
      refine wpMixH_step rfl (fun K hK => ?_)
      go_simp
      refine ⟨_, fun p => quietM p (Least_c (HL7.out.later (hL p))), hK _ _ ?_⟩
      clear hK K
      iterate 1 (refine wpMixH_step rfl (fun K hK => ?_); go_simp; refine hK _ _ ?_; clear hK K)
      refine wpMixH_step rfl (fun K hK => ?_)
      go_simp
      refine ⟨_, fun p => quietM_same p (BLeast_c (HK7.out.later (hL p))), hK _ _ ?_⟩
      clear hK K
      iterate 4 (refine wpMixH_step rfl (fun K hK => ?_); go_simp; refine hK _ _ ?_; clear hK K)
      refine wpMixH_step rfl (fun K hK => ?_)
      go_simp
      refine ⟨_, fun p => quietM_same p (Len_c (HL7.out.later (hL p))), hK _ _ ?_⟩
      clear hK K
      iterate 14 (refine wpMixH_step rfl (fun K hK => ?_); go_simp; refine hK _ _ ?_; clear hK K)
      refine wpMixH_step rfl (fun K hK => ?_)
      go_simp
      refine ⟨_, fun p => quietM_same p (Here_c (HL7.out.later (hL p)) x.W), hK _ _ ?_⟩
      clear hK K
      iterate 6 (refine wpMixH_step rfl (fun K hK => ?_); go_simp; refine hK _ _ ?_; clear hK K)
      refine wpMixH_step rfl (fun K hK => ?_)
      go_simp
      refine ⟨_, fun p => quietM_same p (BHere_c (HK7.out.later (hL p)) x.W), hK _ _ ?_⟩
      clear hK K
      iterate 2 (refine wpMixH_step rfl (fun K hK => ?_); go_simp; refine hK _ _ ?_; clear hK K)
      refine wpMixH_nil ?_
      intro w8 hL8
      have HBn := Lib.hid (show Both w8 base g b (LogM.new.steps (l.take (k + 1))) from by rw [HST.out]; exact ⟨F7, B7, HL7.out.later hL8, HK7.out.later hL8, HFB7.out⟩)
      have HXn := Lib.hid (HX5.out.trans (hL8.mono (Nat.le_trans HBZ.out HX5.out.size)))
      clear HX5 HL7 HK7 HFB7 HQ5 R0 Q1 hL hL8 HQ HBR
      go_wp2
      exact ⟨⟨k + 1, by omega, by go_num, HBn, HXn.out⟩, by simp [intOf]; omega⟩
    · obtain rfl : k = l.length := by omega
      have HMK := Lib.hid (steps_ok l l.length)
      have hml := HMK.out.len
      generalize LogM.new.steps (l.take l.length) = m at *
      obtain ⟨F5, B5, hL5, hK5, _⟩ := HB.out
      have HL5 := Lib.hid hL5
      have HK5 := Lib.hid hK5
      have HR5 := Lib.hid hbr
      clear hL5 hK5 HB HB4 hx4 hlt hbr
      go_wp2_with fail
      refine (Deed_c HL5.out y).mono ?_
      rintro e w20 ⟨hb20, h20⟩
      rcases h20 with ⟨rfl, hout⟩ | ⟨j, hj, hjy, rfl⟩
      · skip
        have HL20 := Lib.hid (HL5.out.later hb20)
        have HK20 := Lib.hid (HK5.out.later hb20)
        have HR20 := Lib.hid (HR5.out.trans (hb20.mono (Nat.le_trans HBZ.out HR5.out.size)))
        clear HL5 HK5 HR5 hb20
        have hbp := ((Below.refl w20.heap.size w20).alloc (Nat.le_refl _) (.cells #[.int .i64 dZ.Kind, .int .i64 dZ.By, .int .i64 dZ.No, .int .i64 dZ.Seen, .int .i64 dZ.At, .int .i64 dZ.Many, .string dZ.Text] 25)).alloc (by simp) (.cells #[.int .i64 dZ.Kind, .int .i64 dZ.By, .int .i64 dZ.No, .int .i64 dZ.Seen, .int .i64 dZ.At, .int .i64 dZ.Many, .string dZ.Text] 25)
        have HAp := Lib.hid (show DdAt ((w20.alloc (.cells #[.int .i64 dZ.Kind, .int .i64 dZ.By, .int .i64 dZ.No, .int .i64 dZ.Seen, .int .i64 dZ.At, .int .i64 dZ.Many, .string dZ.Text] 25)).alloc (.cells #[.int .i64 dZ.Kind, .int .i64 dZ.By, .int .i64 dZ.No, .int .i64 dZ.Seen, .int .i64 dZ.At, .int .i64 dZ.Many, .string dZ.Text] 25)) w20.heap.size dZ from (DdAt.new w20 dZ).later ((Below.refl _ _).alloc (Nat.le_refl _) _))
        have HBp := Lib.hid (show DdAt ((w20.alloc (.cells #[.int .i64 dZ.Kind, .int .i64 dZ.By, .int .i64 dZ.No, .int .i64 dZ.Seen, .int .i64 dZ.At, .int .i64 dZ.Many, .string dZ.Text] 25)).alloc (.cells #[.int .i64 dZ.Kind, .int .i64 dZ.By, .int .i64 dZ.No, .int .i64 dZ.Seen, .int .i64 dZ.At, .int .i64 dZ.Many, .string dZ.Text] 25)) (w20.heap.size + 1) dZ from by
          have := DdAt.new (w20.alloc (.cells #[.int .i64 dZ.Kind, .int .i64 dZ.By, .int .i64 dZ.No, .int .i64 dZ.Seen, .int .i64 dZ.At, .int .i64 dZ.Many, .string dZ.Text] 25)) dZ
          simpa using this)
        have HFp := Lib.hid (show ∀ j, j < 7 → ((w20.alloc (.cells #[.int .i64 dZ.Kind, .int .i64 dZ.By, .int .i64 dZ.No, .int .i64 dZ.Seen, .int .i64 dZ.At, .int .i64 dZ.Many, .string dZ.Text] 25)).alloc (.cells #[.int .i64 dZ.Kind, .int .i64 dZ.By, .int .i64 dZ.No, .int .i64 dZ.Seen, .int .i64 dZ.At, .int .i64 dZ.Many, .string dZ.Text] 25)).frozen? ⟨w20.heap.size + 1, j, none⟩ = false from fun j _ => by
          have e : w20.heap.size + 1 = (w20.alloc (.cells #[.int .i64 dZ.Kind, .int .i64 dZ.By, .int .i64 dZ.No, .int .i64 dZ.Seen, .int .i64 dZ.At, .int .i64 dZ.Many, .string dZ.Text] 25)).heap.size := by simp
          rw [e, World.frozen?_alloc_new])
        go_upto_region 13 with fail
        generalize hwy : (w20.alloc _).alloc _ = wy
        have hwy' : (w20.alloc (.cells #[.int .i64 dZ.Kind, .int .i64 dZ.By, .int .i64 dZ.No, .int .i64 dZ.Seen, .int .i64 dZ.At, .int .i64 dZ.Many, .string dZ.Text] 25)).alloc (.cells #[.int .i64 dZ.Kind, .int .i64 dZ.By, .int .i64 dZ.No, .int .i64 dZ.Seen, .int .i64 dZ.At, .int .i64 dZ.Many, .string dZ.Text] 25) = wy := hwy
        rw [hwy'] at hbp HAp HBp HFp
        clear hwy hwy'
        have HLy := Lib.hid (HL20.out.later hbp)
        have HKy := Lib.hid (HK20.out.later hbp)
        have HRy := Lib.hid (HR20.out.trans (hbp.mono (Nat.le_trans HBZ.out HR20.out.size)))
        obtain ⟨ab, cb, r0, r2, _⟩ := HKy.out.rows
        have hAB : (∃ c1 : Bool, decide (1 ≤ y) = c1 ∧ (c1 = false ∨ decide (y ≤ (m.L.length : Int)) = false)) := by
          refine ⟨_, rfl, ?_⟩
          rcases hout with h | h
          · left; exact decide_eq_false (by omega)
          · right; exact decide_eq_false (by omega)
        have HLz := HLy; have HKz := HKy; have HRz := HRy
        have HAz := HAp
        have HBz := HBp
        clear hout HLy HKy HRy HAp HBp HFp hbp HL20 HK20 HR20 r2
        obtain ⟨c1, hc1, hc2⟩ := hAB
        cases c1
        · clear hc2
          have HZ15 := Lib.hid (BChars_c HKz.out HMK.out)
          go_wp2_with fail
          refine (HZ15.out).mono ?_
          rintro e w21 ⟨aC, capC, rfl, hoC, hb21⟩
          obtain ⟨CL, hCL⟩ : ∃ CL, CL = m.chars.length := ⟨_, rfl⟩
          have HCL := Lib.hid hCL.symm
          rw [← hCL]
          have HC21 := Lib.hid hoC.slCh
          have HL21 := Lib.hid (HLz.out.later hb21)
          have HK21 := Lib.hid (HKz.out.later hb21)
          have HA21 := Lib.hid (HAz.out.later hb21)
          have HB21 := Lib.hid (HBz.out.later hb21)
          have HR21 := Lib.hid (HRz.out.trans (hb21.mono (Nat.le_trans HBZ.out HRz.out.size)))
          clear hCL hoC hb21 HZ15 HLz HKz HAz HBz HRz
          obtain ⟨_, x0, x1, x2, x3, x4, x5, x6⟩ := HA21.out
          obtain ⟨_, z0, z1, z2, z3, z4, z5, z6⟩ := HB21.out
          obtain ⟨ab, cb, r0, _, _⟩ := HK21.out.rows
          have hgd := guard_Deed
          have heq := eql_Deed dZ
          go_wp2_with fail
          refine (Chars_c HL21.out HMK.out).mono ?_
          rintro e w22 ⟨aZ, capZ, rfl, hoZ, hb22⟩
          rw [HCL.out]
          have HZ22 := Lib.hid hoZ.slCh
          have HC22 := Lib.hid (HC21.out.below hb22)
          have HL22 := Lib.hid (HL21.out.later hb22)
          have HR22 := Lib.hid (HR21.out.trans (hb22.mono (Nat.le_trans HBZ.out HR21.out.size)))
          clear hoZ hb22 HC21 HL21 HK21 HA21 HB21 HR21 x0 x1 x2 x3 x4 x5 x6 z0 z1 z2 z3 z4 z5 z6 r0 hgd heq
          go_wp2_with fail
          refine (Same_t aZ aC capZ capC m.chars CL HCL.out _ HZ22.out HC22.out).mono ?_
          rintro e w23 ⟨rfl, hb23⟩
          have HC23 := Lib.hid (HC22.out.below hb23)
          have HL23 := Lib.hid (HL22.out.later hb23)
          have HR23 := Lib.hid (HR22.out.trans (hb23.mono (Nat.le_trans HBZ.out HR22.out.size)))
          clear hb23 HZ22 HC22 HL22 HR22
          obtain ⟨S, hS⟩ : ∃ S, S = strOfNums (textF m.chars) := ⟨_, rfl⟩
          have HT2 := Lib.hid (fun W (h : SlCh W aC capC m.chars) => show Calls Try.prog 37 #[.slice aC CL capC] W fun e w' => e = .returned (.string S) ∧ Below W.heap.size W w' by
            rw [hS, ← HCL.out]; exact RTextOf_c aC capC m.chars W h HMK.out.gone_okB)
          have HT1 := Lib.hid (show Calls Try.prog 36 #[.pointer (some ⟨g, 0, none⟩)] w23 fun e w' => e = .returned (.string S) ∧ Below w23.heap.size w23 w' by rw [hS]; exact LText_c HL23.out HMK.out)
          clear hS
          go_wp2_with fail
          refine (HT1.out).mono ?_
          rintro e w24 ⟨rfl, hb24⟩
          have HC24 := Lib.hid (HC23.out.below hb24)
          have HR24 := Lib.hid (HR23.out.trans (hb24.mono (Nat.le_trans HBZ.out HR23.out.size)))
          clear hb24 HT1 HC23 HL23 HR23
          go_wp2_with fail
          refine (HT2.out _ HC24.out).mono ?_
          rintro e w25 ⟨rfl, hb25⟩
          have HR25 := Lib.hid (HR24.out.trans (hb25.mono (Nat.le_trans HBZ.out HR24.out.size)))
          clear hb25 HT2 HC24 HR24
          go_wp2
          go_ret
          exact ⟨rfl, HB1.out.trans (HR25.out.mono (by rw [HBS.out]; exact HB1.out.size))⟩
        · rcases hc2 with h | hc2
          · cases h
          have HZ15 := Lib.hid (BChars_c HKz.out HMK.out)
          go_wp2_with fail
          refine (HZ15.out).mono ?_
          rintro e w21 ⟨aC, capC, rfl, hoC, hb21⟩
          obtain ⟨CL, hCL⟩ : ∃ CL, CL = m.chars.length := ⟨_, rfl⟩
          have HCL := Lib.hid hCL.symm
          rw [← hCL]
          have HC21 := Lib.hid hoC.slCh
          have HL21 := Lib.hid (HLz.out.later hb21)
          have HK21 := Lib.hid (HKz.out.later hb21)
          have HA21 := Lib.hid (HAz.out.later hb21)
          have HB21 := Lib.hid (HBz.out.later hb21)
          have HR21 := Lib.hid (HRz.out.trans (hb21.mono (Nat.le_trans HBZ.out HRz.out.size)))
          clear hCL hoC hb21 HZ15 HLz HKz HAz HBz HRz
          obtain ⟨_, x0, x1, x2, x3, x4, x5, x6⟩ := HA21.out
          obtain ⟨_, z0, z1, z2, z3, z4, z5, z6⟩ := HB21.out
          obtain ⟨ab, cb, r0, _, _⟩ := HK21.out.rows
          have hgd := guard_Deed
          have heq := eql_Deed dZ
          go_wp2_with fail
          refine (Chars_c HL21.out HMK.out).mono ?_
          rintro e w22 ⟨aZ, capZ, rfl, hoZ, hb22⟩
          rw [HCL.out]
          have HZ22 := Lib.hid hoZ.slCh
          have HC22 := Lib.hid (HC21.out.below hb22)
          have HL22 := Lib.hid (HL21.out.later hb22)
          have HR22 := Lib.hid (HR21.out.trans (hb22.mono (Nat.le_trans HBZ.out HR21.out.size)))
          clear hoZ hb22 HC21 HL21 HK21 HA21 HB21 HR21 x0 x1 x2 x3 x4 x5 x6 z0 z1 z2 z3 z4 z5 z6 r0 hgd heq
          go_wp2_with fail
          refine (Same_t aZ aC capZ capC m.chars CL HCL.out _ HZ22.out HC22.out).mono ?_
          rintro e w23 ⟨rfl, hb23⟩
          have HC23 := Lib.hid (HC22.out.below hb23)
          have HL23 := Lib.hid (HL22.out.later hb23)
          have HR23 := Lib.hid (HR22.out.trans (hb23.mono (Nat.le_trans HBZ.out HR22.out.size)))
          clear hb23 HZ22 HC22 HL22 HR22
          obtain ⟨S, hS⟩ : ∃ S, S = strOfNums (textF m.chars) := ⟨_, rfl⟩
          have HT2 := Lib.hid (fun W (h : SlCh W aC capC m.chars) => show Calls Try.prog 37 #[.slice aC CL capC] W fun e w' => e = .returned (.string S) ∧ Below W.heap.size W w' by
            rw [hS, ← HCL.out]; exact RTextOf_c aC capC m.chars W h HMK.out.gone_okB)
          have HT1 := Lib.hid (show Calls Try.prog 36 #[.pointer (some ⟨g, 0, none⟩)] w23 fun e w' => e = .returned (.string S) ∧ Below w23.heap.size w23 w' by rw [hS]; exact LText_c HL23.out HMK.out)
          clear hS
          go_wp2_with fail
          refine (HT1.out).mono ?_
          rintro e w24 ⟨rfl, hb24⟩
          have HC24 := Lib.hid (HC23.out.below hb24)
          have HR24 := Lib.hid (HR23.out.trans (hb24.mono (Nat.le_trans HBZ.out HR23.out.size)))
          clear hb24 HT1 HC23 HL23 HR23
          go_wp2_with fail
          refine (HT2.out _ HC24.out).mono ?_
          rintro e w25 ⟨rfl, hb25⟩
          have HR25 := Lib.hid (HR24.out.trans (hb25.mono (Nat.le_trans HBZ.out HR24.out.size)))
          clear hb25 HT2 HC24 HR24
          go_wp2
          go_ret
          exact ⟨rfl, HB1.out.trans (HR25.out.mono (by rw [HBS.out]; exact HB1.out.size))⟩
      · obtain ⟨dd, hdd⟩ : ∃ dd, dd = m.L[j] := ⟨_, rfl⟩
        rw [← hdd]
        have HDD := Lib.hid hdd; clear hdd
        subst hjy
        have HL20 := Lib.hid (HL5.out.later hb20)
        have HK20 := Lib.hid (HK5.out.later hb20)
        have HR20 := Lib.hid (HR5.out.trans (hb20.mono (Nat.le_trans HBZ.out HR5.out.size)))
        clear HL5 HK5 HR5 hb20
        have hbp := ((Below.refl w20.heap.size w20).alloc (Nat.le_refl _) (.cells #[.int .i64 dd.Kind, .int .i64 dd.By, .int .i64 dd.No, .int .i64 dd.Seen, .int .i64 dd.At, .int .i64 dd.Many, .string dd.Text] 25)).alloc (by simp) (.cells #[.int .i64 dZ.Kind, .int .i64 dZ.By, .int .i64 dZ.No, .int .i64 dZ.Seen, .int .i64 dZ.At, .int .i64 dZ.Many, .string dZ.Text] 25)
        have HAp := Lib.hid (show DdAt ((w20.alloc (.cells #[.int .i64 dd.Kind, .int .i64 dd.By, .int .i64 dd.No, .int .i64 dd.Seen, .int .i64 dd.At, .int .i64 dd.Many, .string dd.Text] 25)).alloc (.cells #[.int .i64 dZ.Kind, .int .i64 dZ.By, .int .i64 dZ.No, .int .i64 dZ.Seen, .int .i64 dZ.At, .int .i64 dZ.Many, .string dZ.Text] 25)) w20.heap.size dd from (DdAt.new w20 dd).later ((Below.refl _ _).alloc (Nat.le_refl _) _))
        have HBp := Lib.hid (show DdAt ((w20.alloc (.cells #[.int .i64 dd.Kind, .int .i64 dd.By, .int .i64 dd.No, .int .i64 dd.Seen, .int .i64 dd.At, .int .i64 dd.Many, .string dd.Text] 25)).alloc (.cells #[.int .i64 dZ.Kind, .int .i64 dZ.By, .int .i64 dZ.No, .int .i64 dZ.Seen, .int .i64 dZ.At, .int .i64 dZ.Many, .string dZ.Text] 25)) (w20.heap.size + 1) dZ from by
          have := DdAt.new (w20.alloc (.cells #[.int .i64 dd.Kind, .int .i64 dd.By, .int .i64 dd.No, .int .i64 dd.Seen, .int .i64 dd.At, .int .i64 dd.Many, .string dd.Text] 25)) dZ
          simpa using this)
        have HFp := Lib.hid (show ∀ j, j < 7 → ((w20.alloc (.cells #[.int .i64 dd.Kind, .int .i64 dd.By, .int .i64 dd.No, .int .i64 dd.Seen, .int .i64 dd.At, .int .i64 dd.Many, .string dd.Text] 25)).alloc (.cells #[.int .i64 dZ.Kind, .int .i64 dZ.By, .int .i64 dZ.No, .int .i64 dZ.Seen, .int .i64 dZ.At, .int .i64 dZ.Many, .string dZ.Text] 25)).frozen? ⟨w20.heap.size + 1, j, none⟩ = false from fun j _ => by
          have e : w20.heap.size + 1 = (w20.alloc (.cells #[.int .i64 dd.Kind, .int .i64 dd.By, .int .i64 dd.No, .int .i64 dd.Seen, .int .i64 dd.At, .int .i64 dd.Many, .string dd.Text] 25)).heap.size := by simp
          rw [e, World.frozen?_alloc_new])
        go_upto_region 13 with fail
        generalize hwy : (w20.alloc _).alloc _ = wy
        have hwy' : (w20.alloc (.cells #[.int .i64 dd.Kind, .int .i64 dd.By, .int .i64 dd.No, .int .i64 dd.Seen, .int .i64 dd.At, .int .i64 dd.Many, .string dd.Text] 25)).alloc (.cells #[.int .i64 dZ.Kind, .int .i64 dZ.By, .int .i64 dZ.No, .int .i64 dZ.Seen, .int .i64 dZ.At, .int .i64 dZ.Many, .string dZ.Text] 25) = wy := hwy
        rw [hwy'] at hbp HAp HBp HFp
        clear hwy hwy'
        have HLy := Lib.hid (HL20.out.later hbp)
        have HKy := Lib.hid (HK20.out.later hbp)
        have HRy := Lib.hid (HR20.out.trans (hbp.mono (Nat.le_trans HBZ.out HR20.out.size)))
        obtain ⟨ab, cb, r0, r2, _⟩ := HKy.out.rows
        have hc1 : decide (1 ≤ (j : Int) + 1) = true := decide_eq_true (by omega)
        have hc2 : decide ((j : Int) + 1 ≤ (m.L.length : Int)) = true := decide_eq_true (by omega)
        have hdec : IntKind.i64.wrap ((j : Int) + 1 - 1) = (j : Int) := by rw [IntKind.wrap_i64]; omega
        have hj' : (j : Int) < m.L.length := by omega
        have hj0 : (0 : Int) ≤ (j : Int) := by omega
        obtain ⟨bb, off, rfl, q0, q1, q2, q3, q4, q5, q6⟩ := r2.slDd.nth hj
        rw [← HDD.out] at q0 q1 q2 q3 q4 q5 q6
        have HFb := Lib.hid (show (∀ k, F5 k → k < w20.heap.size + 1) ∧ (∀ k, B5 k → k < w20.heap.size + 1) from ⟨fun k h => by have := (HL20.out.foot k h).2; omega, fun k h => by have := (HK20.out.foot k h).2; omega⟩)
        have hP1 : w20.heap.size < w20.heap.size + 1 := Nat.lt_succ_self _
        have hP1 : base ≤ w20.heap.size + 1 := by have := HL20.out.base_le; omega
        have HBy := HBp
        obtain ⟨P2, hP2⟩ : ∃ P2, P2 = w20.heap.size + 1 := ⟨_, rfl⟩
        obtain ⟨P1, hP1e⟩ : ∃ P1, P1 = w20.heap.size := ⟨_, rfl⟩
        have hP12 : P1 < P2 := by omega
        rw [← hP2] at HBy HFb HFp hP1 ⊢
        rw [← hP1e] at HAp ⊢
        have hf := fun j hj => HFp.out j hj
        have f0 := hf 0 (by omega)
        have f1 := hf 1 (by omega)
        have f2 := hf 2 (by omega)
        have f3 := hf 3 (by omega)
        have f4 := hf 4 (by omega)
        have f5 := hf 5 (by omega)
        have f6 := hf 6 (by omega)
        obtain ⟨plt, p0, p1, p2, p3, p4, p5, p6⟩ := HBy.out
        have HBW := Lib.hid (show Below P2 wy (((((((wy.setCell ⟨P2, 0, none⟩ (.int .i64 dd.Kind)).setCell ⟨P2, 1, none⟩ (.int .i64 dd.By)).setCell ⟨P2, 2, none⟩ (.int .i64 dd.No)).setCell ⟨P2, 3, none⟩ (.int .i64 dd.Seen)).setCell ⟨P2, 4, none⟩ (.int .i64 dd.At)).setCell ⟨P2, 5, none⟩ (.int .i64 dd.Many)).setCell ⟨P2, 6, none⟩ (.string dd.Text)) from ((((((((Below.refl P2 wy).setCell (p := ⟨P2, 0, none⟩) (Nat.le_refl _) _).setCell (p := ⟨P2, 1, none⟩) (Nat.le_refl _) _).setCell (p := ⟨P2, 2, none⟩) (Nat.le_refl _) _).setCell (p := ⟨P2, 3, none⟩) (Nat.le_refl _) _).setCell (p := ⟨P2, 4, none⟩) (Nat.le_refl _) _).setCell (p := ⟨P2, 5, none⟩) (Nat.le_refl _) _).setCell (p := ⟨P2, 6, none⟩) (Nat.le_refl _) _))
        have HBz := Lib.hid (show DdAt (((((((wy.setCell ⟨P2, 0, none⟩ (.int .i64 dd.Kind)).setCell ⟨P2, 1, none⟩ (.int .i64 dd.By)).setCell ⟨P2, 2, none⟩ (.int .i64 dd.No)).setCell ⟨P2, 3, none⟩ (.int .i64 dd.Seen)).setCell ⟨P2, 4, none⟩ (.int .i64 dd.At)).setCell ⟨P2, 5, none⟩ (.int .i64 dd.Many)).setCell ⟨P2, 6, none⟩ (.string dd.Text)) P2 dd from (((((((HBy.out.put0 dd.Kind).put1 dd.By).put2 dd.No).put3 dd.Seen).put4 dd.At).put5 dd.Many).put6 dd.Text))
        have HLz := Lib.hid (HLy.out.above HBW.out HFb.out.1)
        have HKz := Lib.hid (HKy.out.above HBW.out HFb.out.2)
        have HAz := Lib.hid (HAp.out.belowB HBW.out hP12)
        have HRz := Lib.hid (HRy.out.trans (HBW.out.mono hP1))
        clear HLy HKy HRy HAp HBp HBy HFp hbp HL20 HK20 HR20 r2 HBW hf hP2 hP1e
        go_upto_region 15 with fail
        clear q0 q1 q2 q3 q4 q5 q6 p0 p1 p2 p3 p4 p5 p6 f0 f1 f2 f3 f4 f5 f6 r0 plt
        generalize hwz : ((((((wy.setCell ⟨P2, 0, none⟩ (.int .i64 dd.Kind)).setCell ⟨P2, 1, none⟩ (.int .i64 dd.By)).setCell ⟨P2, 2, none⟩ (.int .i64 dd.No)).setCell ⟨P2, 3, none⟩ (.int .i64 dd.Seen)).setCell ⟨P2, 4, none⟩ (.int .i64 dd.At)).setCell ⟨P2, 5, none⟩ (.int .i64 dd.Many)).setCell ⟨P2, 6, none⟩ (.string dd.Text) = wz at *
        clear hwz
        have HZ15 := Lib.hid (BChars_c HKz.out HMK.out)
        go_wp2_with fail
        refine (HZ15.out).mono ?_
        rintro e w21 ⟨aC, capC, rfl, hoC, hb21⟩
        obtain ⟨CL, hCL⟩ : ∃ CL, CL = m.chars.length := ⟨_, rfl⟩
        have HCL := Lib.hid hCL.symm
        rw [← hCL]
        have HC21 := Lib.hid hoC.slCh
        have HL21 := Lib.hid (HLz.out.later hb21)
        have HK21 := Lib.hid (HKz.out.later hb21)
        have HA21 := Lib.hid (HAz.out.later hb21)
        have HB21 := Lib.hid (HBz.out.later hb21)
        have HR21 := Lib.hid (HRz.out.trans (hb21.mono (Nat.le_trans HBZ.out HRz.out.size)))
        clear hCL hoC hb21 HZ15 HLz HKz HAz HBz HRz
        obtain ⟨_, x0, x1, x2, x3, x4, x5, x6⟩ := HA21.out
        obtain ⟨_, z0, z1, z2, z3, z4, z5, z6⟩ := HB21.out
        obtain ⟨ab, cb, r0, _, _⟩ := HK21.out.rows
        have hgd := guard_Deed
        have heq := eql_Deed dd
        go_wp2_with fail
        refine (Chars_c HL21.out HMK.out).mono ?_
        rintro e w22 ⟨aZ, capZ, rfl, hoZ, hb22⟩
        rw [HCL.out]
        have HZ22 := Lib.hid hoZ.slCh
        have HC22 := Lib.hid (HC21.out.below hb22)
        have HL22 := Lib.hid (HL21.out.later hb22)
        have HR22 := Lib.hid (HR21.out.trans (hb22.mono (Nat.le_trans HBZ.out HR21.out.size)))
        clear hoZ hb22 HC21 HL21 HK21 HA21 HB21 HR21 x0 x1 x2 x3 x4 x5 x6 z0 z1 z2 z3 z4 z5 z6 r0 hgd heq
        go_wp2_with fail
        refine (Same_t aZ aC capZ capC m.chars CL HCL.out _ HZ22.out HC22.out).mono ?_
        rintro e w23 ⟨rfl, hb23⟩
        have HC23 := Lib.hid (HC22.out.below hb23)
        have HL23 := Lib.hid (HL22.out.later hb23)
        have HR23 := Lib.hid (HR22.out.trans (hb23.mono (Nat.le_trans HBZ.out HR22.out.size)))
        clear hb23 HZ22 HC22 HL22 HR22
        obtain ⟨S, hS⟩ : ∃ S, S = strOfNums (textF m.chars) := ⟨_, rfl⟩
        have HT2 := Lib.hid (fun W (h : SlCh W aC capC m.chars) => show Calls Try.prog 37 #[.slice aC CL capC] W fun e w' => e = .returned (.string S) ∧ Below W.heap.size W w' by
          rw [hS, ← HCL.out]; exact RTextOf_c aC capC m.chars W h HMK.out.gone_okB)
        have HT1 := Lib.hid (show Calls Try.prog 36 #[.pointer (some ⟨g, 0, none⟩)] w23 fun e w' => e = .returned (.string S) ∧ Below w23.heap.size w23 w' by rw [hS]; exact LText_c HL23.out HMK.out)
        clear hS
        go_wp2_with fail
        refine (HT1.out).mono ?_
        rintro e w24 ⟨rfl, hb24⟩
        have HC24 := Lib.hid (HC23.out.below hb24)
        have HR24 := Lib.hid (HR23.out.trans (hb24.mono (Nat.le_trans HBZ.out HR23.out.size)))
        clear hb24 HT1 HC23 HL23 HR23
        go_wp2_with fail
        refine (HT2.out _ HC24.out).mono ?_
        rintro e w25 ⟨rfl, hb25⟩
        have HR25 := Lib.hid (HR24.out.trans (hb25.mono (Nat.le_trans HBZ.out HR24.out.size)))
        clear hb25 HT2 HC24 HR24
        go_wp2
        go_ret
        exact ⟨rfl, HB1.out.trans (HR25.out.mono (by rw [HBS.out]; exact HB1.out.size))⟩
end Go.Proofs.Ytneoeokfffnonab
