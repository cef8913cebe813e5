/- The walk of the law LogOnce. -/
import Derived.Test.YtneoeokfffnonabLLShared
import Derived.Test.YtneoeokfffnonabPlain
import Derived.Deep.DeepCutAuto
set_option linter.unusedVariables false
set_option linter.unusedSimpArgs false
namespace Go.Proofs.Ytneoeokfffnonab
open Go.RowKit

structure ArrJ (w : World) (A : Nat) (f : Nat → Int) : Prop where
  lt : A < w.heap.size
  c : ∀ j, j < 4 → w.cell? ⟨A, j, none⟩ = some (.int .i64 (f j))
  fz : ∀ j, j < 4 → w.frozen? ⟨A, j, none⟩ = false
theorem ArrJ.of {w w' : World} {A : Nat} {f : Nat → Int} (h : ArrJ w A f) (hz : w.heap.size ≤ w'.heap.size) (hc : ∀ o, w'.cell? ⟨A, o, none⟩ = w.cell? ⟨A, o, none⟩) (hf : ∀ o, w'.frozen? ⟨A, o, none⟩ = w.frozen? ⟨A, o, none⟩) : ArrJ w' A f :=
  ⟨Nat.lt_of_lt_of_le h.lt hz, fun j hj => (hc j).trans (h.c j hj), fun j hj => (hf j).trans (h.fz j hj)⟩
theorem ArrJ.later {w w' : World} {A : Nat} {f : Nat → Int} (h : ArrJ w A f) (hl : Below w.heap.size w w') : ArrJ w' A f :=
  h.of hl.size (fun o => hl.cell (p := ⟨A, o, none⟩) h.lt) (fun o => hl.frozen (p := ⟨A, o, none⟩) h.lt)
theorem ArrJ.other {w : World} {A : Nat} {f : Nat → Int} (h : ArrJ w A f) (b i : Nat) (hb : b ≠ A) (v : Value) : ArrJ (w.setCell ⟨b, i, none⟩ v) A f :=
  h.of (by simp) (fun o => World.cell?_setCell_other _ _ _ _ (fun e => hb (by cases e; rfl))) (fun o => World.frozen?_setCell _ _ _ _)
theorem ArrJ.set {w : World} {A : Nat} {f : Nat → Int} (h : ArrJ w A f) (i : Nat) (v : Int) (g : Nat → Int) (hg : ∀ j, j < 4 → g j = if j = i then v else f j) : ArrJ (w.setCell ⟨A, i, none⟩ (.int .i64 v)) A g := by
  refine ⟨by simpa using h.lt, fun j hj => ?_, fun j hj => by rw [World.frozen?_setCell]; exact h.fz j hj⟩
  rw [hg j hj]
  by_cases e : j = i
  · subst e; rw [if_pos rfl]; exact World.cell?_setCell_same _ _ _ (h.c j hj)
  · rw [if_neg e, World.cell?_setCell_other _ _ _ _ (fun h => e (by cases h; rfl))]; exact h.c j hj
theorem ArrJ.drew {w : World} {A : Nat} {f : Nat → Int} (h : ArrJ w A f) : ArrJ w.drew A f := h.of (Nat.le_refl _) (fun _ => rfl) (fun _ => rfl)
def cntF (L : List Dd) (n : Nat) (j : Nat) : Int := cntBy (j : Int) (L.take n)
def seenF (L : List Dd) (n : Nat) (j : Nat) : Int := lastSeen (j : Int) (L.take n)
theorem cntF_step (L : List Dd) (n : Nat) (h : n < L.length) (i : Nat) (hi : L[n].By = i) (v : Int) (hv : v = cntF L n i + 1) (j : Nat) : cntF L (n + 1) j = if j = i then v else cntF L n j := by
  unfold cntF at *
  rw [List.take_succ_eq_append_getElem h, cntBy_add, hi]
  by_cases e : j = i
  · subst e; rw [if_pos rfl, if_pos rfl, hv]
  · rw [if_neg (by omega), if_neg e, Int.add_zero]
theorem seenF_step (L : List Dd) (n : Nat) (h : n < L.length) (i : Nat) (hi : L[n].By = i) (j : Nat) : seenF L (n + 1) j = if j = i then L[n].Seen else seenF L n j := by
  unfold seenF at *
  rw [List.take_succ_eq_append_getElem h, lastSeen_snoc, hi]
  by_cases e : j = i
  · subst e; rw [if_pos rfl, if_pos rfl]
  · rw [if_neg (by omega), if_neg e]

set_option maxRecDepth 100000 in
set_option maxHeartbeats 1000000 in
theorem LogOnce_c (a : Option Addr) (cap : Nat) (l : List LStep) (w : World) (hs : SlLs w a cap l) (hok : ∀ x ∈ l, x.ok) :
    Calls Try.prog 6 #[.slice a l.length cap] w fun e w' => e = .returned (.bool true) ∧ Below w.heap.size w w' := by
  have HXK := Lib.hid hok; clear hok
  go_enter Try.func6, Try.ntmps6
  go_wp2_with fail
  refine (logBegun_c _).mono ?_
  rintro e w1 ⟨rfl, hb1⟩
  have hs1 := hs.below hb1
  clear hs
  go_wp2_with fail
  refine (greatLog_c a cap l _ hs1).mono ?_
  rintro e w2 ⟨r, rfl, rfl, hr⟩
  cases r
  case true =>
    clear hr
    go_wp2
    go_ret
    exact ⟨rfl, hb1⟩
  obtain ⟨hl150, _⟩ := hr rfl
  clear hr
  go_wp2_with fail
  refine (New_log _).mono ?_
  rintro e w3 ⟨F, g, rfl, hL3, hb3⟩
  have HL3 := Lib.hid hL3
  clear hL3
  go_upto_region 6 with fail
  generalize hw4 : w3.alloc _ = w4
  obtain ⟨hB4, hb4⟩ := both_new HL3.out hw4.symm
  have HB4 := Lib.hid hB4
  have hx4 : Below w2.heap.size w2 w4 := hb3.trans (hb4.mono hb3.size)
  clear hw4 hB4 hb4 hb3 HL3
  generalize w3.heap.size = b at *
  obtain ⟨base, hbase⟩ : ∃ base, base = w2.heap.size := ⟨_, rfl⟩
  rw [← hbase] at HB4 hx4
  have HBS := Lib.hid hbase
  have HBZ := Lib.hid (show base ≤ w2.heap.size from Nat.le_of_eq hbase); clear hbase
  have HB1 := Lib.hid hb1; clear hb1
  have HS1 := Lib.hid hs1; clear hs1
  go_wp2
  go_loopw [5] (fun s5 wr => ∃ k : Nat, k ≤ l.length ∧ s5 = (.int .i64 k) ∧ Hid (Both wr base g b (LogM.new.steps (l.take k))) ∧ Below base w2 wr) (fun s5 _ => l.length - (intOf s5).toNat)
  case atStart => exact ⟨0, Nat.zero_le _, rfl, HB4, hx4⟩
  case round =>
    obtain ⟨k, hk, rfl, HB, hbr⟩ := hrel
    by_cases hlt : k < l.length
    · have hsr := HS1.out.below (by rw [← HBS.out]; exact hbr)
      obtain ⟨bb, off, rfl, q0, q1, q2, q3, q4, q5, q6, q7, q8, q9, q10⟩ := hsr.nth hlt
      have HST := Lib.hid (steps_snoc l k hlt)
      have HMK := Lib.hid (steps_ok l k)
      have HXO := Lib.hid (HXK.out l[k] (List.getElem_mem hlt))
      have hlt' : (k : Int) < l.length := by omega
      have hk0 : (0 : Int) ≤ (k : Int) := by omega
      generalize LogM.new.steps (l.take k) = m at *
      generalize hx : l[k] = x at *
      clear hx hsr
      go_wp2_with fail
      refine (logStep_c HB.out HMK.out x HXO.out).mono ?_
      rintro e w5 ⟨rfl, hB5, hb5⟩
      have HB5 := Lib.hid hB5
      have hx5 := hbr.trans hb5
      clear hB5 hb5 hbr q0 q1 q2 q3 q4 q5 q6 q7 q8 q9 q10 HB
      go_wp2
      exact ⟨⟨k + 1, by omega, by go_num, Lib.hid (by rw [HST.out]; exact HB5.out), hx5⟩, by simp [intOf]; omega⟩
    · obtain rfl : k = l.length := by omega
      have HMK := Lib.hid (steps_ok l l.length)
      have hml := HMK.out.len
      generalize LogM.new.steps (l.take l.length) = m at *
      obtain ⟨F5, B5, hL5, _, _⟩ := HB.out
      have HL5 := Lib.hid hL5
      have hbx := ((Below.refl wr.heap.size wr).alloc (Nat.le_refl _) (.cells #[.int .i64 0, .int .i64 0, .int .i64 0, .int .i64 0] 41)).alloc (by simp) (.cells #[.int .i64 0, .int .i64 0, .int .i64 0, .int .i64 0] 41)
      have hA6 : ArrJ ((wr.alloc (.cells #[.int .i64 0, .int .i64 0, .int .i64 0, .int .i64 0] 41)).alloc (.cells #[.int .i64 0, .int .i64 0, .int .i64 0, .int .i64 0] 41)) wr.heap.size (cntF m.L 0) := by
        refine ⟨by simp; omega, fun j hj => ?_, fun j hj => by simp⟩
        rcases (show j = 0 ∨ j = 1 ∨ j = 2 ∨ j = 3 by omega) with rfl | rfl | rfl | rfl <;> simp [cntF, cntBy]
      have hA7 : ArrJ ((wr.alloc (.cells #[.int .i64 0, .int .i64 0, .int .i64 0, .int .i64 0] 41)).alloc (.cells #[.int .i64 0, .int .i64 0, .int .i64 0, .int .i64 0] 41)) (wr.heap.size + 1) (seenF m.L 0) := by
        have e : wr.heap.size + 1 = (wr.alloc (.cells #[.int .i64 0, .int .i64 0, .int .i64 0, .int .i64 0] 41)).heap.size := by simp
        rw [e]
        refine ⟨by simp, fun j hj => ?_, fun j hj => by simp⟩
        rcases (show j = 0 ∨ j = 1 ∨ j = 2 ∨ j = 3 by omega) with rfl | rfl | rfl | rfl <;> simp [seenF, lastSeen]
      have HA6 := Lib.hid hA6; have HA7 := Lib.hid hA7
      clear hL5 HB HB4 hx4 hlt hA6 hA7
      go_upto_region 11 with fail
      generalize (wr.alloc _).alloc _ = w5 at *
      have HLB := HL5
      have hzw : wr.heap.size + 1 < w5.heap.size := HA7.out.lt
      go_wp2
      go_loopw [8] (fun s8 wx => ∃ n : Nat, n ≤ m.L.length ∧ s8 = (.int .i64 ((n : Int) + 1)) ∧ Hid (ArrJ wx wr.heap.size (cntF m.L n)) ∧ Hid (ArrJ wx (wr.heap.size + 1) (seenF m.L n)) ∧ Below wr.heap.size wr wx) (fun s8 _ => m.L.length + 1 - (intOf s8).toNat)
      case atStart => exact ⟨0, Nat.zero_le _, rfl, HA6, HA7, hbx⟩
      case round =>
        obtain ⟨n, hn, rfl, HP, HS, hby⟩ := hrel
        have HLx := Lib.hid (HLB.out.later hby)
        go_wp2_with fail
        refine (Len_c HLx.out).mono ?_
        rintro e w6 ⟨rfl, rfl⟩
        by_cases hnl : n < m.L.length
        · have hnB : decide ((n : Int) + 1 ≤ (m.L.length : Int)) = true := decide_eq_true (by omega)
          go_wp2_with fail
          refine (Deed_c HLx.out _).mono ?_
          rintro e w7 ⟨hb7, h7⟩
          rcases h7 with ⟨_, h⟩ | ⟨q, hq, hq1, rfl⟩
          · exfalso; omega
          obtain rfl : q = n := by omega
          have HDO := Lib.hid (HMK.out.deeds q hq)
          have HCS := Lib.hid (fun i hi v hv j => cntF_step m.L q hq i hi v hv j)
          have HSS := Lib.hid (fun i hi j => seenF_step m.L q hq i hi j)
          clear hq1
          generalize m.L[q] = d at *
          have hbd := (Below.refl w7.heap.size w7).alloc (Nat.le_refl _) (.cells #[.int .i64 d.Kind, .int .i64 d.By, .int .i64 d.No, .int .i64 d.Seen, .int .i64 d.At, .int .i64 d.Many, .string d.Text] 25)
          have hd8 := DdAt.new w7 d
          go_upto_region 15 with fail
          generalize hw8 : w7.alloc _ = w8
          have hw8' : w8 = w7.alloc (.cells #[.int .i64 d.Kind, .int .i64 d.By, .int .i64 d.No, .int .i64 d.Seen, .int .i64 d.At, .int .i64 d.Many, .string d.Text] 25) := hw8.symm
          rw [← hw8'] at hbd hd8
          clear hw8 hw8'
          have hx8 : Below wr.heap.size wr w8 := (hby.trans (hb7.mono hby.size)).trans (hbd.mono (Nat.le_trans hby.size hb7.size))
          have HP8 := Lib.hid ((HP.out.later hb7).later hbd)
          have HS8 := Lib.hid ((HS.out.later hb7).later hbd)
          have hA7lt : wr.heap.size + 1 < w7.heap.size := Nat.lt_of_lt_of_le HS.out.lt hb7.size
          obtain ⟨D, hD⟩ : ∃ D, D = w7.heap.size := ⟨_, rfl⟩
          rw [← hD] at hd8 hA7lt ⊢
          have HD8 := Lib.hid hd8
          clear hbd hb7 hby HP HS HLx hn hd8 hD hnB
          obtain ⟨dlt, d0, d1, d2, d3, d4, d5, d6⟩ := HD8.out
          have hw := HDO.out.w
          clear d0 d4 d5 d6
          rcases isWriter_cases hw with e | e | e | e
          · have c6 : w8.cell? ⟨wr.heap.size, 0, none⟩ = some (.int .i64 (cntF m.L q 0)) := HP8.out.c 0 (by omega)
            have c7 : w8.cell? ⟨wr.heap.size + 1, 0, none⟩ = some (.int .i64 (seenF m.L q 0)) := HS8.out.c 0 (by omega)
            have f6 := HP8.out.fz 0 (by omega)
            have f7 := HS8.out.fz 0 (by omega)
            have hno : d.No = cntF m.L q 0 + 1 := by have := HDO.out.no; rw [e] at this; exact this
            have hse : seenF m.L q 0 ≤ d.Seen := by have := HDO.out.s2; rw [e] at this; exact this
            have hs1 := HDO.out.s1
            have hcl : 0 ≤ cntF m.L q 0 ∧ cntF m.L q 0 ≤ q := by
              have h1 := cntBy_nonneg (((0 : Nat)) : Int) (m.L.take q)
              have h2 := cntBy_le (((0 : Nat)) : Int) (m.L.take q)
              rw [List.length_take] at h2
              unfold cntF; exact ⟨h1, by omega⟩
            have HNO := Lib.hid hno
            have HBY := Lib.hid e
            rw [e] at d1
            have hcN : (d.No != cntF m.L q 0 + 1) = false := by simp only [bne_eq_false_iff_eq]; exact hno
            have hinc : IntKind.i64.wrap (cntF m.L q 0 + 1) = cntF m.L q 0 + 1 := by rw [IntKind.wrap_i64]; omega
            have hcS : decide ((q : Int) + 1 ≤ d.Seen) = false := decide_eq_false (by omega)
            have hcT : decide (d.Seen < seenF m.L q 0) = false := decide_eq_false (by omega)
            clear hno hse hs1 hcl e hw
            have hL : ∀ q : Lt w8, Later w8 q.v := fun q => q.h
            have r1 := later_cell d1
            have r2 := later_cell d2
            have r3 := later_cell d3
            have r6 := later_cell c6
            have r7 := later_cell c7
            refine wp_region_mix [] [0, 1, 2, 3, 4, 5, 6, 7, 8, 9, 10, 11, 12, 13, 14, 15, 16, 17, 18, 19, 20, 21, 22, 23, 24, 25, 26, 27, 28] (by kernel_rfl) (by kernel_rfl) ?_
            repeat (refine wpMix_step rfl (fun K hK => ?_); go_simp; first | (refine hK _ _ ?_; clear hK K) | (apply Exists.intro; refine ⟨?_, hK _ _ ?_⟩; (focus (intro p; (go_at_call 21; exact quietM_same p (IsWriter_c _ _)))); clear hK K))
            refine wpMix_nil ?_
            intro w9 hL9
            have HPx := Lib.hid (HP8.out.later hL9)
            have HSx := Lib.hid (HS8.out.later hL9)
            have HDx := Lib.hid (HD8.out.later hL9)
            have HWx := Lib.hid (hx8.trans (Below.mono hL9 hx8.size))
            clear hL r1 r2 r3 r6 r7 d1 d2 d3 c6 c7 f6 f7 hcN hinc hcS hcT dlt HP8 HS8 HD8 hL9 hx8
            have c6 : w9.cell? ⟨wr.heap.size, 0, none⟩ = some (.int .i64 (cntF m.L q 0)) := HPx.out.c 0 (by omega)
            have c7 : w9.cell? ⟨wr.heap.size + 1, 0, none⟩ = some (.int .i64 (seenF m.L q 0)) := HSx.out.c 0 (by omega)
            have f6 := HPx.out.fz 0 (by omega)
            have f7 := HSx.out.fz 0 (by omega)
            have dlt := HDx.out.lt
            have d1 : w9.cell? ⟨D, 1, none⟩ = some (.int .i64 0) := by rw [← HBY.out]; exact HDx.out.c1
            have d2 := HDx.out.c2
            have d3 := HDx.out.c3
            have HP9 := Lib.hid ((HPx.out.set 0 d.No (cntF m.L (q + 1)) (fun j _ => HCS.out 0 HBY.out d.No HNO.out j)).other (wr.heap.size + 1) 0 (by omega) (.int .i64 d.Seen)).drew
            have HS9 := Lib.hid ((HSx.out.other wr.heap.size 0 (by omega) (.int .i64 d.No)).set 0 d.Seen (seenF m.L (q + 1)) (fun j _ => HSS.out 0 HBY.out j)).drew
            have HW9 := Lib.hid (((HWx.out.setCell (p := ⟨wr.heap.size, 0, none⟩) (Nat.le_refl _) (.int .i64 d.No)).setCell (p := ⟨wr.heap.size + 1, 0, none⟩) (Nat.le_succ _) (.int .i64 d.Seen)).trans ⟨rfl, rfl, rfl, Nat.le_refl _, fun _ _ => rfl⟩)
            clear HPx HSx HDx HWx
            go_upto_region 17 with fail
            go_region
            go_wp2
            exact ⟨⟨q + 1, by omega, by go_num, HP9, HS9, HW9.out.trans ⟨rfl, rfl, rfl, Nat.le_refl _, fun _ _ => rfl⟩⟩, by simp [intOf]; omega⟩
          · have c6 : w8.cell? ⟨wr.heap.size, 1, none⟩ = some (.int .i64 (cntF m.L q 1)) := HP8.out.c 1 (by omega)
            have c7 : w8.cell? ⟨wr.heap.size + 1, 1, none⟩ = some (.int .i64 (seenF m.L q 1)) := HS8.out.c 1 (by omega)
            have f6 := HP8.out.fz 1 (by omega)
            have f7 := HS8.out.fz 1 (by omega)
            have hno : d.No = cntF m.L q 1 + 1 := by have := HDO.out.no; rw [e] at this; exact this
            have hse : seenF m.L q 1 ≤ d.Seen := by have := HDO.out.s2; rw [e] at this; exact this
            have hs1 := HDO.out.s1
            have hcl : 0 ≤ cntF m.L q 1 ∧ cntF m.L q 1 ≤ q := by
              have h1 := cntBy_nonneg (((1 : Nat)) : Int) (m.L.take q)
              have h2 := cntBy_le (((1 : Nat)) : Int) (m.L.take q)
              rw [List.length_take] at h2
              unfold cntF; exact ⟨h1, by omega⟩
            have HNO := Lib.hid hno
            have HBY := Lib.hid e
            rw [e] at d1
            have hcN : (d.No != cntF m.L q 1 + 1) = false := by simp only [bne_eq_false_iff_eq]; exact hno
            have hinc : IntKind.i64.wrap (cntF m.L q 1 + 1) = cntF m.L q 1 + 1 := by rw [IntKind.wrap_i64]; omega
            have hcS : decide ((q : Int) + 1 ≤ d.Seen) = false := decide_eq_false (by omega)
            have hcT : decide (d.Seen < seenF m.L q 1) = false := decide_eq_false (by omega)
            clear hno hse hs1 hcl e hw
            have hL : ∀ q : Lt w8, Later w8 q.v := fun q => q.h
            have r1 := later_cell d1
            have r2 := later_cell d2
            have r3 := later_cell d3
            have r6 := later_cell c6
            have r7 := later_cell c7
            refine wp_region_mix [] [0, 1, 2, 3, 4, 5, 6, 7, 8, 9, 10, 11, 12, 13, 14, 15, 16, 17, 18, 19, 20, 21, 22, 23, 24, 25, 26, 27, 28] (by kernel_rfl) (by kernel_rfl) ?_
            repeat (refine wpMix_step rfl (fun K hK => ?_); go_simp; first | (refine hK _ _ ?_; clear hK K) | (apply Exists.intro; refine ⟨?_, hK _ _ ?_⟩; (focus (intro p; (go_at_call 21; exact quietM_same p (IsWriter_c _ _)))); clear hK K))
            refine wpMix_nil ?_
            intro w9 hL9
            have HPx := Lib.hid (HP8.out.later hL9)
            have HSx := Lib.hid (HS8.out.later hL9)
            have HDx := Lib.hid (HD8.out.later hL9)
            have HWx := Lib.hid (hx8.trans (Below.mono hL9 hx8.size))
            clear hL r1 r2 r3 r6 r7 d1 d2 d3 c6 c7 f6 f7 hcN hinc hcS hcT dlt HP8 HS8 HD8 hL9 hx8
            have c6 : w9.cell? ⟨wr.heap.size, 1, none⟩ = some (.int .i64 (cntF m.L q 1)) := HPx.out.c 1 (by omega)
            have c7 : w9.cell? ⟨wr.heap.size + 1, 1, none⟩ = some (.int .i64 (seenF m.L q 1)) := HSx.out.c 1 (by omega)
            have f6 := HPx.out.fz 1 (by omega)
            have f7 := HSx.out.fz 1 (by omega)
            have dlt := HDx.out.lt
            have d1 : w9.cell? ⟨D, 1, none⟩ = some (.int .i64 1) := by rw [← HBY.out]; exact HDx.out.c1
            have d2 := HDx.out.c2
            have d3 := HDx.out.c3
            have HP9 := Lib.hid ((HPx.out.set 1 d.No (cntF m.L (q + 1)) (fun j _ => HCS.out 1 HBY.out d.No HNO.out j)).other (wr.heap.size + 1) 1 (by omega) (.int .i64 d.Seen)).drew
            have HS9 := Lib.hid ((HSx.out.other wr.heap.size 1 (by omega) (.int .i64 d.No)).set 1 d.Seen (seenF m.L (q + 1)) (fun j _ => HSS.out 1 HBY.out j)).drew
            have HW9 := Lib.hid (((HWx.out.setCell (p := ⟨wr.heap.size, 1, none⟩) (Nat.le_refl _) (.int .i64 d.No)).setCell (p := ⟨wr.heap.size + 1, 1, none⟩) (Nat.le_succ _) (.int .i64 d.Seen)).trans ⟨rfl, rfl, rfl, Nat.le_refl _, fun _ _ => rfl⟩)
            clear HPx HSx HDx HWx
            go_upto_region 17 with fail
            go_region
            go_wp2
            exact ⟨⟨q + 1, by omega, by go_num, HP9, HS9, HW9.out.trans ⟨rfl, rfl, rfl, Nat.le_refl _, fun _ _ => rfl⟩⟩, by simp [intOf]; omega⟩
          · have c6 : w8.cell? ⟨wr.heap.size, 2, none⟩ = some (.int .i64 (cntF m.L q 2)) := HP8.out.c 2 (by omega)
            have c7 : w8.cell? ⟨wr.heap.size + 1, 2, none⟩ = some (.int .i64 (seenF m.L q 2)) := HS8.out.c 2 (by omega)
            have f6 := HP8.out.fz 2 (by omega)
            have f7 := HS8.out.fz 2 (by omega)
            have hno : d.No = cntF m.L q 2 + 1 := by have := HDO.out.no; rw [e] at this; exact this
            have hse : seenF m.L q 2 ≤ d.Seen := by have := HDO.out.s2; rw [e] at this; exact this
            have hs1 := HDO.out.s1
            have hcl : 0 ≤ cntF m.L q 2 ∧ cntF m.L q 2 ≤ q := by
              have h1 := cntBy_nonneg (((2 : Nat)) : Int) (m.L.take q)
              have h2 := cntBy_le (((2 : Nat)) : Int) (m.L.take q)
              rw [List.length_take] at h2
              unfold cntF; exact ⟨h1, by omega⟩
            have HNO := Lib.hid hno
            have HBY := Lib.hid e
            rw [e] at d1
            have hcN : (d.No != cntF m.L q 2 + 1) = false := by simp only [bne_eq_false_iff_eq]; exact hno
            have hinc : IntKind.i64.wrap (cntF m.L q 2 + 1) = cntF m.L q 2 + 1 := by rw [IntKind.wrap_i64]; omega
            have hcS : decide ((q : Int) + 1 ≤ d.Seen) = false := decide_eq_false (by omega)
            have hcT : decide (d.Seen < seenF m.L q 2) = false := decide_eq_false (by omega)
            clear hno hse hs1 hcl e hw
            have hL : ∀ q : Lt w8, Later w8 q.v := fun q => q.h
            have r1 := later_cell d1
            have r2 := later_cell d2
            have r3 := later_cell d3
            have r6 := later_cell c6
            have r7 := later_cell c7
            refine wp_region_mix [] [0, 1, 2, 3, 4, 5, 6, 7, 8, 9, 10, 11, 12, 13, 14, 15, 16, 17, 18, 19, 20, 21, 22, 23, 24, 25, 26, 27, 28] (by kernel_rfl) (by kernel_rfl) ?_
            repeat (refine wpMix_step rfl (fun K hK => ?_); go_simp; first | (refine hK _ _ ?_; clear hK K) | (apply Exists.intro; refine ⟨?_, hK _ _ ?_⟩; (focus (intro p; (go_at_call 21; exact quietM_same p (IsWriter_c _ _)))); clear hK K))
            refine wpMix_nil ?_
            intro w9 hL9
            have HPx := Lib.hid (HP8.out.later hL9)
            have HSx := Lib.hid (HS8.out.later hL9)
            have HDx := Lib.hid (HD8.out.later hL9)
            have HWx := Lib.hid (hx8.trans (Below.mono hL9 hx8.size))
            clear hL r1 r2 r3 r6 r7 d1 d2 d3 c6 c7 f6 f7 hcN hinc hcS hcT dlt HP8 HS8 HD8 hL9 hx8
            have c6 : w9.cell? ⟨wr.heap.size, 2, none⟩ = some (.int .i64 (cntF m.L q 2)) := HPx.out.c 2 (by omega)
            have c7 : w9.cell? ⟨wr.heap.size + 1, 2, none⟩ = some (.int .i64 (seenF m.L q 2)) := HSx.out.c 2 (by omega)
            have f6 := HPx.out.fz 2 (by omega)
            have f7 := HSx.out.fz 2 (by omega)
            have dlt := HDx.out.lt
            have d1 : w9.cell? ⟨D, 1, none⟩ = some (.int .i64 2) := by rw [← HBY.out]; exact HDx.out.c1
            have d2 := HDx.out.c2
            have d3 := HDx.out.c3
            have HP9 := Lib.hid ((HPx.out.set 2 d.No (cntF m.L (q + 1)) (fun j _ => HCS.out 2 HBY.out d.No HNO.out j)).other (wr.heap.size + 1) 2 (by omega) (.int .i64 d.Seen)).drew
            have HS9 := Lib.hid ((HSx.out.other wr.heap.size 2 (by omega) (.int .i64 d.No)).set 2 d.Seen (seenF m.L (q + 1)) (fun j _ => HSS.out 2 HBY.out j)).drew
            have HW9 := Lib.hid (((HWx.out.setCell (p := ⟨wr.heap.size, 2, none⟩) (Nat.le_refl _) (.int .i64 d.No)).setCell (p := ⟨wr.heap.size + 1, 2, none⟩) (Nat.le_succ _) (.int .i64 d.Seen)).trans ⟨rfl, rfl, rfl, Nat.le_refl _, fun _ _ => rfl⟩)
            clear HPx HSx HDx HWx
            go_upto_region 17 with fail
            go_region
            go_wp2
            exact ⟨⟨q + 1, by omega, by go_num, HP9, HS9, HW9.out.trans ⟨rfl, rfl, rfl, Nat.le_refl _, fun _ _ => rfl⟩⟩, by simp [intOf]; omega⟩
          · have c6 : w8.cell? ⟨wr.heap.size, 3, none⟩ = some (.int .i64 (cntF m.L q 3)) := HP8.out.c 3 (by omega)
            have c7 : w8.cell? ⟨wr.heap.size + 1, 3, none⟩ = some (.int .i64 (seenF m.L q 3)) := HS8.out.c 3 (by omega)
            have f6 := HP8.out.fz 3 (by omega)
            have f7 := HS8.out.fz 3 (by omega)
            have hno : d.No = cntF m.L q 3 + 1 := by have := HDO.out.no; rw [e] at this; exact this
            have hse : seenF m.L q 3 ≤ d.Seen := by have := HDO.out.s2; rw [e] at this; exact this
            have hs1 := HDO.out.s1
            have hcl : 0 ≤ cntF m.L q 3 ∧ cntF m.L q 3 ≤ q := by
              have h1 := cntBy_nonneg (((3 : Nat)) : Int) (m.L.take q)
              have h2 := cntBy_le (((3 : Nat)) : Int) (m.L.take q)
              rw [List.length_take] at h2
              unfold cntF; exact ⟨h1, by omega⟩
            have HNO := Lib.hid hno
            have HBY := Lib.hid e
            rw [e] at d1
            have hcN : (d.No != cntF m.L q 3 + 1) = false := by simp only [bne_eq_false_iff_eq]; exact hno
            have hinc : IntKind.i64.wrap (cntF m.L q 3 + 1) = cntF m.L q 3 + 1 := by rw [IntKind.wrap_i64]; omega
            have hcS : decide ((q : Int) + 1 ≤ d.Seen) = false := decide_eq_false (by omega)
            have hcT : decide (d.Seen < seenF m.L q 3) = false := decide_eq_false (by omega)
            clear hno hse hs1 hcl e hw
            have hL : ∀ q : Lt w8, Later w8 q.v := fun q => q.h
            have r1 := later_cell d1
            have r2 := later_cell d2
            have r3 := later_cell d3
            have r6 := later_cell c6
            have r7 := later_cell c7
            refine wp_region_mix [] [0, 1, 2, 3, 4, 5, 6, 7, 8, 9, 10, 11, 12, 13, 14, 15, 16, 17, 18, 19, 20, 21, 22, 23, 24, 25, 26, 27, 28] (by kernel_rfl) (by kernel_rfl) ?_
            repeat (refine wpMix_step rfl (fun K hK => ?_); go_simp; first | (refine hK _ _ ?_; clear hK K) | (apply Exists.intro; refine ⟨?_, hK _ _ ?_⟩; (focus (intro p; (go_at_call 21; exact quietM_same p (IsWriter_c _ _)))); clear hK K))
            refine wpMix_nil ?_
            intro w9 hL9
            have HPx := Lib.hid (HP8.out.later hL9)
            have HSx := Lib.hid (HS8.out.later hL9)
            have HDx := Lib.hid (HD8.out.later hL9)
            have HWx := Lib.hid (hx8.trans (Below.mono hL9 hx8.size))
            clear hL r1 r2 r3 r6 r7 d1 d2 d3 c6 c7 f6 f7 hcN hinc hcS hcT dlt HP8 HS8 HD8 hL9 hx8
            have c6 : w9.cell? ⟨wr.heap.size, 3, none⟩ = some (.int .i64 (cntF m.L q 3)) := HPx.out.c 3 (by omega)
            have c7 : w9.cell? ⟨wr.heap.size + 1, 3, none⟩ = some (.int .i64 (seenF m.L q 3)) := HSx.out.c 3 (by omega)
            have f6 := HPx.out.fz 3 (by omega)
            have f7 := HSx.out.fz 3 (by omega)
            have dlt := HDx.out.lt
            have d1 : w9.cell? ⟨D, 1, none⟩ = some (.int .i64 3) := by rw [← HBY.out]; exact HDx.out.c1
            have d2 := HDx.out.c2
            have d3 := HDx.out.c3
            have HP9 := Lib.hid ((HPx.out.set 3 d.No (cntF m.L (q + 1)) (fun j _ => HCS.out 3 HBY.out d.No HNO.out j)).other (wr.heap.size + 1) 3 (by omega) (.int .i64 d.Seen)).drew
            have HS9 := Lib.hid ((HSx.out.other wr.heap.size 3 (by omega) (.int .i64 d.No)).set 3 d.Seen (seenF m.L (q + 1)) (fun j _ => HSS.out 3 HBY.out j)).drew
            have HW9 := Lib.hid (((HWx.out.setCell (p := ⟨wr.heap.size, 3, none⟩) (Nat.le_refl _) (.int .i64 d.No)).setCell (p := ⟨wr.heap.size + 1, 3, none⟩) (Nat.le_succ _) (.int .i64 d.Seen)).trans ⟨rfl, rfl, rfl, Nat.le_refl _, fun _ _ => rfl⟩)
            clear HPx HSx HDx HWx
            go_upto_region 17 with fail
            go_region
            go_wp2
            exact ⟨⟨q + 1, by omega, by go_num, HP9, HS9, HW9.out.trans ⟨rfl, rfl, rfl, Nat.le_refl _, fun _ _ => rfl⟩⟩, by simp [intOf]; omega⟩
        · obtain rfl : n = m.L.length := by omega
          have hnB : decide ((m.L.length : Int) + 1 ≤ (m.L.length : Int)) = false := decide_eq_false (by omega)
          have HWZ := Lib.hid (hbr.trans (hby.mono (Nat.le_trans HBZ.out hbr.size)))
          go_wp2
          go_ret
          exact ⟨rfl, HB1.out.trans (HWZ.out.mono (by rw [HBS.out]; exact HB1.out.size))⟩
end Go.Proofs.Ytneoeokfffnonab
