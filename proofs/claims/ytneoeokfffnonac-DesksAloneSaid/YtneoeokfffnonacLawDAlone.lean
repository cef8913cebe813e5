/- Printed by genalone.py: the walk of the law DesksAlone. -/
import Derived.Test.YtneoeokfffnonacDkT
set_option linter.unusedVariables false
set_option linter.unusedSimpArgs false
namespace Go.Proofs.Ytneoeokfffnonac
open Go.RowKit
theorem takeS_step {d : DkM} {k : Nat} {m : WM} (h : d.writer (k : Int) = some m) (A n : Int) (t : ByteArray) : d.step ⟨3, k, A, n, t⟩ = d.put m (m.deed 2 A n ByteArray.empty) := by
  unfold DkM.step
  rw [if_neg (by show ¬ ((3 : Int) < 1 ∨ 7 < (3 : Int)); omega), if_neg (by show ¬ ((3 : Int) = 1); omega)]
  show (match d.writer (k : Int) with | none => _ | some m => _) = _
  rw [h]
  rfl
/-- What holds of desks of one alone, ahead of each step. -/
structure Alone (D : DkM) (N : Nat) : Prop where
  se : Settled D
  sm : D.Sm N
  wr : ∃ m, D.writer 0 = some m
theorem alone_view {D : DkM} (h : Settled D) {m : WM} (hw : D.writer 0 = some m) : m.view.length = (vis m.seen m.me m.chars).length := viewN_length _ _ _
/-- A deed that is done: where it is, and what comes of it. -/
theorem alone_do {D : DkM} (h : Settled D) {m : WM} (hw : D.writer 0 = some m) (k A n : Int) (t : ByteArray) (h0 : mayDo m.chars (m.deed k A n t) = 0) :
    0 ≤ A ∧ A + n ≤ (D.lm.view.length : Int) ∧ (k = 1 → n = 0) ∧ (k = 2 → 1 ≤ n) ∧ (m.doF (m.deed k A n t)).view = spl D.lm.view (m.deed k A n t) ∧
    Settled (settle (D.put m (m.deed k A n t)).1) ∧ ((settle (D.put m (m.deed k A n t)).1).writer 0 = none ∨ (settle (D.put m (m.deed k A n t)).1).lm.view = spl D.lm.view (m.deed k A n t)) := by
  obtain ⟨f1, g1, g2⟩ := mayDo_zero h0
  have hv : (vis m.seen m.me m.chars).length = D.lm.view.length := by rw [← alone_view h hw, h.view 0 m hw]
  have hz := deedFault_zero f1
  have hvd := WM.view_do k A n t h0
  rw [h.view 0 m hw] at hvd
  have hom := one_more h hw k A n t h0
  have hAn : A + n ≤ (D.lm.view.length : Int) := by
    have : A + n ≤ ((vis m.seen m.me m.chars).length : Int) := by first | exact g1 | exact g1.2 | exact g2
    rw [hv] at this; exact this
  refine ⟨hz.2.2.2.2.2.1, hAn, fun e => ?_, fun e => ?_, hvd, hom.1, ?_⟩
  · rcases hz.2.2.2.2.2.2.2 with ⟨_, h2, _⟩ | ⟨h1, _⟩
    · exact h2
    · have h1' : k = 2 := h1; omega
  · rcases hz.2.2.2.2.2.2.2 with ⟨h1, _⟩ | ⟨_, h2, _⟩
    · have h1' : k = 1 := h1; omega
    · exact h2
  · rcases hom.2 with ⟨h1, _⟩ | ⟨h1, h2⟩
    · exact .inl h1
    · right
      have hus : (m.deed k A n t).Seen = (D.lm.L.length : Int) := by show (m.seen : Int) = _; rw [(h.s 0 m hw).2]
      have := h.ok.lm.view_take (m.deed k A n t) h1 hus
      rw [← this]
      obtain ⟨_, _, _, _, _, _, e⟩ := LogM.take_of _ h1
      unfold LogM.view
      rw [h2, e]
theorem alone_join : ∃ D1, DkM.new.step ⟨1, 0, 0, 0, ⟨#[]⟩⟩ = (D1, 0) ∧ Settled D1 ∧ D1.Sm 1 ∧ (∃ m, D1.writer 0 = some m) ∧ D1.lm.view = [] := by
  refine ⟨(DkM.new.step ⟨1, 0, 0, 0, ⟨#[]⟩⟩).1, Prod.ext rfl e1_c, ⟨DkM.new_ok.step _, fun k m hk => ?_⟩, DkM.new_sm.step _, ?_, by decide⟩
  · have hk4 := DkM.writer_cases hk
    have key : ∀ j : Int, (j = 0 ∨ j = 1 ∨ j = 2 ∨ j = 3) → ∀ m, (DkM.new.step ⟨1, 0, 0, 0, ⟨#[]⟩⟩).1.writer j = some m → m = WM.new LogM.new 0 := by
      rintro j (rfl | rfl | rfl | rfl) m hm
      · have : (DkM.new.step ⟨1, 0, 0, 0, ⟨#[]⟩⟩).1.writer 0 = some (WM.new LogM.new 0) := by rfl
        rw [this] at hm; cases hm; rfl
      · have : (DkM.new.step ⟨1, 0, 0, 0, ⟨#[]⟩⟩).1.writer 1 = none := by rfl
        rw [this] at hm; cases hm
      · have : (DkM.new.step ⟨1, 0, 0, 0, ⟨#[]⟩⟩).1.writer 2 = none := by rfl
        rw [this] at hm; cases hm
      · have : (DkM.new.step ⟨1, 0, 0, 0, ⟨#[]⟩⟩).1.writer 3 = none := by rfl
        rw [this] at hm; cases hm
    have := key k hk4 m hk
    subst this
    exact ⟨rfl, rfl⟩
  · exact ⟨WM.new LogM.new 0, rfl⟩

set_option maxRecDepth 100000 in
set_option maxHeartbeats 2000000 in
theorem DesksAlone_c (a : Option Addr) (cap : Nat) (l : List DStep) (w : World) (hs : SlSt w a cap l) (hok : ∀ x ∈ l, x.ok) :
    Calls Try.prog 7 #[.slice a l.length cap] w fun e w' => e = .returned (.bool true) ∧ Below w.heap.size w w' := by
  have HOK := Lib.hid hok
  clear hok
  go_enter Try.func7, Try.ntmps7
  go_wp2_with fail
  refine (desksBegun_c w).mono ?_
  rintro e w1 ⟨rfl, hb1⟩
  have HS1 := Lib.hid (hs.below hb1)
  have HB1 := Lib.hid hb1
  clear hs hb1
  go_wp2_with fail
  refine (greatSteps_c a cap l w1 HS1.out).mono ?_
  rintro e w2 ⟨r, rfl, rfl, hr⟩
  cases r
  case true =>
    go_wp2
    go_ret
    exact ⟨rfl, HB1.out⟩
  obtain ⟨hl200, htx⟩ := hr rfl
  have HTX := Lib.hid htx
  clear hr htx
  go_wp2_with fail
  refine (DNew_c w2).mono ?_
  rintro e w3 ⟨F, g, gw, rfl, hd, hb⟩
  have H3 := Lib.hid (show DW w2 w2.heap.size g DkM.new w3 from ⟨⟨F, gw, hd⟩, hb⟩)
  clear hd hb
  obtain ⟨D1, j1, j2, j3, j4, j5⟩ := alone_join
  have HDO := Lib.hid (Do_DW H3.out DkM.new_ok (DkM.new_sm.mono (by omega)) ⟨1, 0, 0, 0, ⟨#[]⟩⟩ ⟨by show i64ok 0; unfold i64ok; omega, by show (0 : Nat) ≤ maxLen; exact Nat.zero_le _⟩)
  rw [j1] at HDO
  go_wp2_with fail
  refine HDO.out.mono ?_
  rintro e w4 ⟨rfl, h4⟩
  have H4 := Lib.hid h4
  have HA4 := Lib.hid (show Alone D1 1 from ⟨j2, j3, j4⟩)
  have HV4 := Lib.hid (show strOfNums D1.lm.view = ⟨#[]⟩ from by rw [j5]; rfl)
  clear h4 HDO H3 j1 j2 j3 j4 j5
  go_wp2
  go_loopw [4, 5] (fun s4 s5 wr => ∃ (k : Nat) (D : DkM), k ≤ l.length ∧ s5 = (.int .i64 k) ∧ s4 = .string (strOfNums D.lm.view) ∧ Hid (Alone D (k + 1)) ∧ Hid (DW w2 w2.heap.size g D wr)) (fun _ s5 _ => l.length - (intOf s5).toNat)
  case atStart => exact ⟨0, D1, by omega, rfl, by rw [HV4.out], HA4, H4⟩
  case round =>
    obtain ⟨k, D, hk, rfl, rfl, HA, HR⟩ := hrel
    clear H4 HV4 HA4
    by_cases hlt : k < l.length
    · obtain ⟨bb, off, rfl, hq⟩ := (HS1.out.below HR.out.2).nth hlt
      obtain ⟨q0, q1, q2, q3, q4⟩ := hq
      have HX := Lib.hid (HOK.out l[k] (List.getElem_mem hlt))
      have HXT := Lib.hid (HTX.out l[k] (List.getElem_mem hlt))
      have hlt' : (k : Int) < l.length := by omega
      have hk0 : (0 : Int) ≤ (k : Int) := by omega
      generalize l[k] = x at *
      obtain ⟨m, hw⟩ := HA.out.wr
      have HW := Lib.hid hw
      obtain ⟨S, hS⟩ : ∃ S, S = strOfNums D.lm.view := ⟨_, rfl⟩
      rw [← hS]
      have HSV := Lib.hid hS
      have hSL : S.size = D.lm.view.length := by rw [hS, strOfNums_size]
      have hS200 : S.size ≤ 200 := by rw [hSL]; exact view_size HA.out.se.ok.lm
      have HSL := Lib.hid hSL
      clear hS hw hSL
      have hWB := Lib.hid (show ∀ o, Below w2.heap.size w2 (wr.alloc o) from fun o => HR.out.2.trans ((Below.refl wr.heap.size wr).alloc (Nat.le_refl _) o |>.mono HR.out.2.size))
      by_cases h2 : x.Kind = 2
      · rw [h2] at q0
        clear h2
        go_upto_region 15 with fail
        generalize hw5 : wr.alloc _ = w5
        have hw5' : w5 = wr.alloc (.cells #[.int .i64 2, .int .i64 0, .int .i64 x.At, .int .i64 x.Many, .string x.Text] 74) := hw5.symm
        have hb5 := (Below.refl wr.heap.size wr).alloc (Nat.le_refl _) (.cells #[.int .i64 2, .int .i64 0, .int .i64 x.At, .int .i64 x.Many, .string x.Text] 74)
        rw [← hw5'] at hb5
        have H5 := Lib.hid (HR.out.later hb5)
        obtain ⟨Y, hY⟩ : ∃ Y, Y = wr.heap.size := ⟨_, rfl⟩
        have y0 : w5.cell? ⟨Y, 0, none⟩ = some (.int .i64 2) := by rw [hw5', hY]; simp
        have y1 : w5.cell? ⟨Y, 1, none⟩ = some (.int .i64 0) := by rw [hw5', hY]; simp
        have y2 : w5.cell? ⟨Y, 2, none⟩ = some (.int .i64 x.At) := by rw [hw5', hY]; simp
        have y3 : w5.cell? ⟨Y, 3, none⟩ = some (.int .i64 x.Many) := by rw [hw5', hY]; simp
        have y4 : w5.cell? ⟨Y, 4, none⟩ = some (.string x.Text) := by rw [hw5', hY]; simp
        have hYl : Y < w5.heap.size := by rw [hw5', hY]; simp
        rw [← hY]
        have HYb := Lib.hid (show w2.heap.size ≤ Y from by rw [hY]; exact HR.out.2.size)
        have HY5 := Lib.hid (show ∃ F gw, DkAt w5 w2.heap.size F g gw D ∧ ¬ F Y from by
          obtain ⟨⟨F, gw, hd⟩, _⟩ := HR.out
          exact ⟨F, gw, hd.later hb5, fun h => by have := (hd.foot Y h).2; omega⟩)
        clear hw5 hw5' hY hb5 HR q0 q1 q2 q3 q4
        obtain ⟨F5, gw5, hd5, hnf⟩ := HY5.out
        have HX1 := Lib.hid (show (⟨2, 0, x.At, x.Many, x.Text⟩ : DStep).ok' from ⟨HX.out.2.2.2.1, HX.out.2.2.2.2⟩)
        have HDO := Lib.hid (show Calls Try.prog 42 #[.pointer (some ⟨g, 0, none⟩), .agg #[.int .i64 2, .int .i64 0, .int .i64 x.At, .int .i64 x.Many, .string x.Text]] w5 (DoPost w5 w2.heap.size F5 g gw5 D ⟨2, 0, x.At, x.Many, x.Text⟩) from DDo_c hd5 HA.out.se.ok (HA.out.sm.mono (by omega)) ⟨2, 0, x.At, x.Many, x.Text⟩ HX1.out)
        have HNF := Lib.hid hnf
        have HB5 := Lib.hid H5.out.2
        have HDD5 := Lib.hid hd5
        clear hnf hd5
        have HPS := Lib.hid (show D.step ⟨2, 0, x.At, x.Many, x.Text⟩ = D.put m (m.deed 1 x.At 0 x.Text) from putS_step (k := 0) HW.out x.At x.Many x.Text)
        go_wp2_with fail
        refine HDO.out.mono ?_
        rintro e w6 ⟨rfl, F6, gw6, hd6, hm6, _, _⟩
        rw [HPS.out] at hd6 ⊢
        have y0 := (hm6.cell hYl HNF.out 0).trans y0
        have y2 := (hm6.cell hYl HNF.out 2).trans y2
        have y3 := (hm6.cell hYl HNF.out 3).trans y3
        have y4 := (hm6.cell hYl HNF.out 4).trans y4
        have H6 := Lib.hid (show DW w2 w2.heap.size g (D.put m (m.deed 1 x.At 0 x.Text)).1 w6 from ⟨⟨F6, gw6, hd6⟩, HB5.out.trans (HDD5.out.below hm6)⟩)
        have HME := Lib.hid (HA.out.se.ok.of_writer HW.out).2.1
        clear hd6 hm6 HNF HB5 HDD5 HDO HY5 H5 hYl
        by_cases h0 : mayDo m.chars (m.deed 1 x.At 0 x.Text) = 0
        case neg =>
          have hep : D.put m (m.deed 1 x.At 0 x.Text) = (D, mayDo m.chars (m.deed 1 x.At 0 x.Text)) := by unfold DkM.put; rw [if_neg h0]
          rw [hep] at H6 ⊢
          have hneB : (mayDo m.chars (m.deed 1 x.At 0 x.Text) == 0) = false := by simpa using h0
          have hneD : decide (mayDo m.chars (m.deed 1 x.At 0 x.Text) = 0) = false := decide_eq_false h0
          clear h0 hep HPS
          generalize mayDo m.chars (m.deed 1 x.At 0 x.Text) = code at *
          have H6 := Lib.hid (show DW w2 w2.heap.size g D w6 from H6.out)
          have HO6 := Lib.hid HA.out.se.ok
          have HN6 := Lib.hid (HA.out.sm.mono (show k + 1 ≤ k + 1 + 1 by omega))
          have HN6' := Lib.hid (HA.out.sm.mono (show k + 1 ≤ 1000 by omega))
          have HMV6 := Lib.hid (show strOfNums m.view = S from by rw [HA.out.se.view 0 m HW.out]; exact HSV.out.symm)
          -- what is seen, then all settle
          obtain ⟨gx, ⟨F5, gw5, hd5, hptr5⟩, hTx⟩ := WrT H6.out HO6.out HW.out (S := S) HMV6.out
          have HD5 := Lib.hid hd5; have HP5 := Lib.hid hptr5; have HTx := Lib.hid hTx
          clear hd5 hptr5 hTx
          go_wp2_with fail
          refine (DWriter_c HD5.out 0).mono ?_
          rintro e w7 ⟨rfl, rfl⟩
          rw [HP5.out]
          go_wp2_with fail
          refine (DWriter_c HD5.out 0).mono ?_
          rintro e w8 ⟨rfl, rfl⟩
          rw [HP5.out]
          go_wp2_with fail
          refine (HTx.out _ (Below.refl _ _)).mono ?_
          rintro e w9 ⟨rfl, hb9⟩
          have H9 := Lib.hid (H6.out.later hb9)
          clear hb9 HTx HD5 HP5 H6
          go_wp2_with fail
          refine (Settle_DW H9.out HO6.out HN6'.out).mono ?_
          rintro e w10 ⟨⟨v10, rfl⟩, h10⟩
          have HSET := Lib.hid (show Settled (settle D) from by rw [HA.out.se.settle]; exact HA.out.se)
          have HVS := Lib.hid (show (settle D).writer 0 = none ∨ strOfNums (settle D).lm.view = S from .inr (by rw [HA.out.se.settle]; exact HSV.out.symm))
          have HSMS := Lib.hid (show (settle D).Sm (k + 1 + 1) from HN6.out.settle)
          generalize settle D = D3 at *
          have H10 := Lib.hid h10
          clear h10 H9
          cases hw3 : D3.writer 0 with
          | none =>
            obtain ⟨⟨F9, gw9, hd9⟩, hb9⟩ := H10.out
            have HP9 := Lib.hid (DkM.ptr_none hw3 gw9)
            have HD9 := Lib.hid hd9
            have HB9 := Lib.hid hb9
            clear hd9 hb9 hw3 H10
            go_wp2_with fail
            refine (DWriter_c HD9.out 0).mono ?_
            rintro e w12 ⟨rfl, rfl⟩
            rw [HP9.out]
            go_wp2
            go_ret
            exact ⟨rfl, HB1.out.trans (HB9.out.mono HB1.out.size)⟩
          | some m3 =>
            have HV3 := Lib.hid (show strOfNums D3.lm.view = S from by
              rcases HVS.out with h | h
              · rw [hw3] at h; cases h
              · exact h)
            have HAL := Lib.hid (show Alone D3 (k + 1 + 1) from ⟨HSET.out, HSMS.out, m3, hw3⟩)
            obtain ⟨gx3, ⟨F9, gw9, hd9, hptr9⟩, hTx9⟩ := WrT H10.out HSET.out.ok hw3 (S := S) (by rw [HSET.out.view 0 m3 hw3]; exact HV3.out)
            obtain ⟨gl9, FL9, c9, hglt9, hlog9, hlt9⟩ := LogT H10.out HSET.out.ok HV3.out.symm
            have HD9 := Lib.hid hd9; have HP9 := Lib.hid hptr9; have HTx := Lib.hid hTx9; have HLt := Lib.hid hlt9
            clear hd9 hptr9 hTx9 hlt9 hlog9 hw3
            go_wp2_with fail
            refine (DWriter_c HD9.out 0).mono ?_
            rintro e w12 ⟨rfl, rfl⟩
            rw [HP9.out]
            go_wp2_with fail
            refine (HTx.out _ (Below.refl _ _)).mono ?_
            rintro e w13 ⟨rfl, hb13⟩
            have c13 := (hb13.cell (p := ⟨g, 0, none⟩) hglt9).trans c9
            have HB13 := Lib.hid hb13
            clear hb13
            go_wp2_with fail
            refine (HLt.out _ HB13.out).mono ?_
            rintro e w14 ⟨rfl, hb14⟩
            have H14 := Lib.hid (H10.out.later (HB13.out.trans (hb14.mono HB13.out.size)))
            clear hb14 c13 HLt HTx HD9 HP9 H10
            go_wp2
            exact ⟨⟨k + 1, D3, by omega, by go_num, by rw [HV3.out], HAL, H14⟩, by simp [intOf]; omega⟩

        have hAD := alone_do HA.out.se HW.out 1 x.At 0 x.Text h0
        have hep : D.put m (m.deed 1 x.At 0 x.Text) = (D.set D.lm 0 (some (m.doF (m.deed 1 x.At 0 x.Text))), 0) := by unfold DkM.put; rw [if_pos h0, HME.out]
        have hok2 := HA.out.se.ok.put HW.out 1 x.At 0 x.Text
        have hsm2 := HA.out.sm.step ⟨2, 0, x.At, x.Many, x.Text⟩
        rw [HPS.out] at hsm2
        rw [hep] at H6 hok2 hsm2 hAD ⊢
        obtain ⟨hA0, hAn, hk1, hk2, hvd, hset, hvs⟩ := hAD
        obtain ⟨A, hA⟩ : ∃ A : Nat, x.At = (A : Int) := ⟨x.At.toNat, by omega⟩
        obtain ⟨T, hT⟩ : ∃ T, T = (S.extract 0 A ++ x.Text ++ S.extract A S.size) := ⟨_, rfl⟩
        have HTE := Lib.hid (show strOfNums (spl D.lm.view (m.deed 1 x.At 0 x.Text)) = T from by
          rw [hA, hT]
          have := spl_str D.lm.view A x.Text m.me m.next m.seen
          rw [← HSV.out, ← HSL.out] at this; exact this)
        obtain ⟨D2, hD2⟩ : ∃ D2, D2 = D.set D.lm 0 (some (m.doF (m.deed 1 x.At 0 x.Text))) := ⟨_, rfl⟩
        rw [← hD2] at H6 hok2 hsm2 hset hvs
        have H6 := Lib.hid (show DW w2 w2.heap.size g D2 w6 from H6.out)
        have HO6 := Lib.hid (show D2.Ok from hok2)
        have HN6 := Lib.hid (show D2.Sm (k + 1 + 1) from hsm2)
        have HN6' := Lib.hid (show D2.Sm 1000 from hsm2.mono (by omega))
        have HW6 := Lib.hid (show D2.writer 0 = some (m.doF (m.deed 1 x.At 0 x.Text)) from by rw [hD2]; exact set_writer _ _ _ _ rfl)
        have HMV6 := Lib.hid (show strOfNums (m.doF (m.deed 1 x.At 0 x.Text)).view = T from by rw [hvd]; exact HTE.out)
        have HSE6 := Lib.hid (show Settled (settle D2) from hset)
        have HVS6 := Lib.hid (show (settle D2).writer 0 = none ∨ strOfNums (settle D2).lm.view = T from hvs.imp id fun h => by rw [h]; exact HTE.out)
        rw [hA] at y2
        have hAi : (0 : Int) ≤ (A : Int) := by omega
        have hAs : (A : Int) ≤ (S.size : Int) := by have := HSL.out; omega
        have hd1 : decide ((A : Int) < 0) = false := decide_eq_false (by omega)
        have hd2 : decide ((S.size : Int) < (A : Int)) = false := decide_eq_false (by omega)
        have HXT2 := HXT
        have HTT := Lib.hid hT
        have HSB := Lib.hid (show S.size ≤ 200 ∧ A ≤ S.size from ⟨hS200, by omega⟩)
        clear h0 hep hok2 hsm2 hA0 hAn hk1 hk2 hvd hset hvs hD2 hT hA HPS
        go_upto_region 19 with fail
        have Y2 := later_cell y2
        have Y3 := later_cell y3
        have Y4 := later_cell y4
        have hL : ∀ q : Lt w6, Later w6 q.v := fun q => q.h
        refine wp_region_mix [] [0, 1, 2, 3, 4, 5, 6, 7, 8, 9, 10, 11, 12] (by kernel_rfl) (by kernel_rfl) ?_
        iterate 6 (refine wpMix_step rfl (fun K hK => ?_); go_simp; refine hK _ _ ?_; clear hK K)
        refine wpMix_step rfl (fun K hK => ?_)
        go_simp
        refine ⟨.string (S.extract 0 A ++ x.Text), fun p => ?_, hK _ _ ?_⟩
        · rw [if_neg (by have := HSB.out; have := HXT2.out; omega)]; exact ⟨rfl, rfl⟩
        clear hK K
        iterate 4 (refine wpMix_step rfl (fun K hK => ?_); go_simp; refine hK _ _ ?_; clear hK K)
        refine wpMix_step rfl (fun K hK => ?_)
        go_simp
        refine ⟨.string (S.extract 0 A ++ x.Text ++ S.extract A S.size), fun p => ?_, hK _ _ ?_⟩
        · rw [if_neg (by have := HSB.out; have := HXT2.out; omega)]; exact ⟨rfl, rfl⟩
        clear hK K
        (refine wpMix_step rfl (fun K hK => ?_); go_simp; refine hK _ _ ?_; clear hK K)
        refine wpMix_nil ?_
        intro w20 hL20
        have H7 := Lib.hid (H6.out.later hL20)
        clear hL20 hL Y2 Y3 Y4 y0 y2 y3 y4 H6 HXT2
        rw [← HTT.out]
        clear HTT
        -- what is seen, then all settle
        obtain ⟨gx, ⟨F5, gw5, hd5, hptr5⟩, hTx⟩ := WrT H7.out HO6.out HW6.out (S := T) HMV6.out
        have HD5 := Lib.hid hd5; have HP5 := Lib.hid hptr5; have HTx := Lib.hid hTx
        clear hd5 hptr5 hTx
        go_wp2_with fail
        refine (DWriter_c HD5.out 0).mono ?_
        rintro e w7 ⟨rfl, rfl⟩
        rw [HP5.out]
        go_wp2_with fail
        refine (DWriter_c HD5.out 0).mono ?_
        rintro e w8 ⟨rfl, rfl⟩
        rw [HP5.out]
        go_wp2_with fail
        refine (HTx.out _ (Below.refl _ _)).mono ?_
        rintro e w9 ⟨rfl, hb9⟩
        have H9 := Lib.hid (H7.out.later hb9)
        clear hb9 HTx HD5 HP5 H7
        go_wp2_with fail
        refine (Settle_DW H9.out HO6.out HN6'.out).mono ?_
        rintro e w10 ⟨⟨v10, rfl⟩, h10⟩
        have HSET := HSE6
        have HVS := HVS6
        have HSMS := Lib.hid (show (settle D2).Sm (k + 1 + 1) from HN6.out.settle)
        generalize settle D2 = D3 at *
        have H10 := Lib.hid h10
        clear h10 H9
        cases hw3 : D3.writer 0 with
        | none =>
          obtain ⟨⟨F9, gw9, hd9⟩, hb9⟩ := H10.out
          have HP9 := Lib.hid (DkM.ptr_none hw3 gw9)
          have HD9 := Lib.hid hd9
          have HB9 := Lib.hid hb9
          clear hd9 hb9 hw3 H10
          go_wp2_with fail
          refine (DWriter_c HD9.out 0).mono ?_
          rintro e w12 ⟨rfl, rfl⟩
          rw [HP9.out]
          go_wp2
          go_ret
          exact ⟨rfl, HB1.out.trans (HB9.out.mono HB1.out.size)⟩
        | some m3 =>
          have HV3 := Lib.hid (show strOfNums D3.lm.view = T from by
            rcases HVS.out with h | h
            · rw [hw3] at h; cases h
            · exact h)
          have HAL := Lib.hid (show Alone D3 (k + 1 + 1) from ⟨HSET.out, HSMS.out, m3, hw3⟩)
          obtain ⟨gx3, ⟨F9, gw9, hd9, hptr9⟩, hTx9⟩ := WrT H10.out HSET.out.ok hw3 (S := T) (by rw [HSET.out.view 0 m3 hw3]; exact HV3.out)
          obtain ⟨gl9, FL9, c9, hglt9, hlog9, hlt9⟩ := LogT H10.out HSET.out.ok HV3.out.symm
          have HD9 := Lib.hid hd9; have HP9 := Lib.hid hptr9; have HTx := Lib.hid hTx9; have HLt := Lib.hid hlt9
          clear hd9 hptr9 hTx9 hlt9 hlog9 hw3
          go_wp2_with fail
          refine (DWriter_c HD9.out 0).mono ?_
          rintro e w12 ⟨rfl, rfl⟩
          rw [HP9.out]
          go_wp2_with fail
          refine (HTx.out _ (Below.refl _ _)).mono ?_
          rintro e w13 ⟨rfl, hb13⟩
          have c13 := (hb13.cell (p := ⟨g, 0, none⟩) hglt9).trans c9
          have HB13 := Lib.hid hb13
          clear hb13
          go_wp2_with fail
          refine (HLt.out _ HB13.out).mono ?_
          rintro e w14 ⟨rfl, hb14⟩
          have H14 := Lib.hid (H10.out.later (HB13.out.trans (hb14.mono HB13.out.size)))
          clear hb14 c13 HLt HTx HD9 HP9 H10
          go_wp2
          exact ⟨⟨k + 1, D3, by omega, by go_num, by rw [HV3.out], HAL, H14⟩, by simp [intOf]; omega⟩


      by_cases h3 : x.Kind = 3
      · rw [h3] at q0
        clear h2 h3
        go_upto_region 15 with fail
        generalize hw5 : wr.alloc _ = w5
        have hw5' : w5 = wr.alloc (.cells #[.int .i64 3, .int .i64 0, .int .i64 x.At, .int .i64 x.Many, .string x.Text] 74) := hw5.symm
        have hb5 := (Below.refl wr.heap.size wr).alloc (Nat.le_refl _) (.cells #[.int .i64 3, .int .i64 0, .int .i64 x.At, .int .i64 x.Many, .string x.Text] 74)
        rw [← hw5'] at hb5
        have H5 := Lib.hid (HR.out.later hb5)
        obtain ⟨Y, hY⟩ : ∃ Y, Y = wr.heap.size := ⟨_, rfl⟩
        have y0 : w5.cell? ⟨Y, 0, none⟩ = some (.int .i64 3) := by rw [hw5', hY]; simp
        have y1 : w5.cell? ⟨Y, 1, none⟩ = some (.int .i64 0) := by rw [hw5', hY]; simp
        have y2 : w5.cell? ⟨Y, 2, none⟩ = some (.int .i64 x.At) := by rw [hw5', hY]; simp
        have y3 : w5.cell? ⟨Y, 3, none⟩ = some (.int .i64 x.Many) := by rw [hw5', hY]; simp
        have y4 : w5.cell? ⟨Y, 4, none⟩ = some (.string x.Text) := by rw [hw5', hY]; simp
        have hYl : Y < w5.heap.size := by rw [hw5', hY]; simp
        rw [← hY]
        have HYb := Lib.hid (show w2.heap.size ≤ Y from by rw [hY]; exact HR.out.2.size)
        have HY5 := Lib.hid (show ∃ F gw, DkAt w5 w2.heap.size F g gw D ∧ ¬ F Y from by
          obtain ⟨⟨F, gw, hd⟩, _⟩ := HR.out
          exact ⟨F, gw, hd.later hb5, fun h => by have := (hd.foot Y h).2; omega⟩)
        clear hw5 hw5' hY hb5 HR q0 q1 q2 q3 q4
        obtain ⟨F5, gw5, hd5, hnf⟩ := HY5.out
        have HX1 := Lib.hid (show (⟨3, 0, x.At, x.Many, x.Text⟩ : DStep).ok' from ⟨HX.out.2.2.2.1, HX.out.2.2.2.2⟩)
        have HDO := Lib.hid (show Calls Try.prog 42 #[.pointer (some ⟨g, 0, none⟩), .agg #[.int .i64 3, .int .i64 0, .int .i64 x.At, .int .i64 x.Many, .string x.Text]] w5 (DoPost w5 w2.heap.size F5 g gw5 D ⟨3, 0, x.At, x.Many, x.Text⟩) from DDo_c hd5 HA.out.se.ok (HA.out.sm.mono (by omega)) ⟨3, 0, x.At, x.Many, x.Text⟩ HX1.out)
        have HNF := Lib.hid hnf
        have HB5 := Lib.hid H5.out.2
        have HDD5 := Lib.hid hd5
        clear hnf hd5
        have HPS := Lib.hid (show D.step ⟨3, 0, x.At, x.Many, x.Text⟩ = D.put m (m.deed 2 x.At x.Many ByteArray.empty) from takeS_step (k := 0) HW.out x.At x.Many x.Text)
        go_wp2_with fail
        refine HDO.out.mono ?_
        rintro e w6 ⟨rfl, F6, gw6, hd6, hm6, _, _⟩
        rw [HPS.out] at hd6 ⊢
        have y0 := (hm6.cell hYl HNF.out 0).trans y0
        have y2 := (hm6.cell hYl HNF.out 2).trans y2
        have y3 := (hm6.cell hYl HNF.out 3).trans y3
        have y4 := (hm6.cell hYl HNF.out 4).trans y4
        have H6 := Lib.hid (show DW w2 w2.heap.size g (D.put m (m.deed 2 x.At x.Many ByteArray.empty)).1 w6 from ⟨⟨F6, gw6, hd6⟩, HB5.out.trans (HDD5.out.below hm6)⟩)
        have HME := Lib.hid (HA.out.se.ok.of_writer HW.out).2.1
        clear hd6 hm6 HNF HB5 HDD5 HDO HY5 H5 hYl
        by_cases h0 : mayDo m.chars (m.deed 2 x.At x.Many ByteArray.empty) = 0
        case neg =>
          have hep : D.put m (m.deed 2 x.At x.Many ByteArray.empty) = (D, mayDo m.chars (m.deed 2 x.At x.Many ByteArray.empty)) := by unfold DkM.put; rw [if_neg h0]
          rw [hep] at H6 ⊢
          have hneB : (mayDo m.chars (m.deed 2 x.At x.Many ByteArray.empty) == 0) = false := by simpa using h0
          have hneD : decide (mayDo m.chars (m.deed 2 x.At x.Many ByteArray.empty) = 0) = false := decide_eq_false h0
          clear h0 hep HPS
          generalize mayDo m.chars (m.deed 2 x.At x.Many ByteArray.empty) = code at *
          have H6 := Lib.hid (show DW w2 w2.heap.size g D w6 from H6.out)
          have HO6 := Lib.hid HA.out.se.ok
          have HN6 := Lib.hid (HA.out.sm.mono (show k + 1 ≤ k + 1 + 1 by omega))
          have HN6' := Lib.hid (HA.out.sm.mono (show k + 1 ≤ 1000 by omega))
          have HMV6 := Lib.hid (show strOfNums m.view = S from by rw [HA.out.se.view 0 m HW.out]; exact HSV.out.symm)
          -- what is seen, then all settle
          obtain ⟨gx, ⟨F5, gw5, hd5, hptr5⟩, hTx⟩ := WrT H6.out HO6.out HW.out (S := S) HMV6.out
          have HD5 := Lib.hid hd5; have HP5 := Lib.hid hptr5; have HTx := Lib.hid hTx
          clear hd5 hptr5 hTx
          go_wp2_with fail
          refine (DWriter_c HD5.out 0).mono ?_
          rintro e w7 ⟨rfl, rfl⟩
          rw [HP5.out]
          go_wp2_with fail
          refine (DWriter_c HD5.out 0).mono ?_
          rintro e w8 ⟨rfl, rfl⟩
          rw [HP5.out]
          go_wp2_with fail
          refine (HTx.out _ (Below.refl _ _)).mono ?_
          rintro e w9 ⟨rfl, hb9⟩
          have H9 := Lib.hid (H6.out.later hb9)
          clear hb9 HTx HD5 HP5 H6
          go_wp2_with fail
          refine (Settle_DW H9.out HO6.out HN6'.out).mono ?_
          rintro e w10 ⟨⟨v10, rfl⟩, h10⟩
          have HSET := Lib.hid (show Settled (settle D) from by rw [HA.out.se.settle]; exact HA.out.se)
          have HVS := Lib.hid (show (settle D).writer 0 = none ∨ strOfNums (settle D).lm.view = S from .inr (by rw [HA.out.se.settle]; exact HSV.out.symm))
          have HSMS := Lib.hid (show (settle D).Sm (k + 1 + 1) from HN6.out.settle)
          generalize settle D = D3 at *
          have H10 := Lib.hid h10
          clear h10 H9
          cases hw3 : D3.writer 0 with
          | none =>
            obtain ⟨⟨F9, gw9, hd9⟩, hb9⟩ := H10.out
            have HP9 := Lib.hid (DkM.ptr_none hw3 gw9)
            have HD9 := Lib.hid hd9
            have HB9 := Lib.hid hb9
            clear hd9 hb9 hw3 H10
            go_wp2_with fail
            refine (DWriter_c HD9.out 0).mono ?_
            rintro e w12 ⟨rfl, rfl⟩
            rw [HP9.out]
            go_wp2
            go_ret
            exact ⟨rfl, HB1.out.trans (HB9.out.mono HB1.out.size)⟩
          | some m3 =>
            have HV3 := Lib.hid (show strOfNums D3.lm.view = S from by
              rcases HVS.out with h | h
              · rw [hw3] at h; cases h
              · exact h)
            have HAL := Lib.hid (show Alone D3 (k + 1 + 1) from ⟨HSET.out, HSMS.out, m3, hw3⟩)
            obtain ⟨gx3, ⟨F9, gw9, hd9, hptr9⟩, hTx9⟩ := WrT H10.out HSET.out.ok hw3 (S := S) (by rw [HSET.out.view 0 m3 hw3]; exact HV3.out)
            obtain ⟨gl9, FL9, c9, hglt9, hlog9, hlt9⟩ := LogT H10.out HSET.out.ok HV3.out.symm
            have HD9 := Lib.hid hd9; have HP9 := Lib.hid hptr9; have HTx := Lib.hid hTx9; have HLt := Lib.hid hlt9
            clear hd9 hptr9 hTx9 hlt9 hlog9 hw3
            go_wp2_with fail
            refine (DWriter_c HD9.out 0).mono ?_
            rintro e w12 ⟨rfl, rfl⟩
            rw [HP9.out]
            go_wp2_with fail
            refine (HTx.out _ (Below.refl _ _)).mono ?_
            rintro e w13 ⟨rfl, hb13⟩
            have c13 := (hb13.cell (p := ⟨g, 0, none⟩) hglt9).trans c9
            have HB13 := Lib.hid hb13
            clear hb13
            go_wp2_with fail
            refine (HLt.out _ HB13.out).mono ?_
            rintro e w14 ⟨rfl, hb14⟩
            have H14 := Lib.hid (H10.out.later (HB13.out.trans (hb14.mono HB13.out.size)))
            clear hb14 c13 HLt HTx HD9 HP9 H10
            go_wp2
            exact ⟨⟨k + 1, D3, by omega, by go_num, by rw [HV3.out], HAL, H14⟩, by simp [intOf]; omega⟩

        have hAD := alone_do HA.out.se HW.out 2 x.At x.Many ByteArray.empty h0
        have hep : D.put m (m.deed 2 x.At x.Many ByteArray.empty) = (D.set D.lm 0 (some (m.doF (m.deed 2 x.At x.Many ByteArray.empty))), 0) := by unfold DkM.put; rw [if_pos h0, HME.out]
        have hok2 := HA.out.se.ok.put HW.out 2 x.At x.Many ByteArray.empty
        have hsm2 := HA.out.sm.step ⟨3, 0, x.At, x.Many, x.Text⟩
        rw [HPS.out] at hsm2
        rw [hep] at H6 hok2 hsm2 hAD ⊢
        obtain ⟨hA0, hAn, hk1, hk2, hvd, hset, hvs⟩ := hAD
        obtain ⟨A, hA⟩ : ∃ A : Nat, x.At = (A : Int) := ⟨x.At.toNat, by omega⟩
        obtain ⟨M, hM⟩ : ∃ M : Nat, x.Many = (M : Int) := ⟨x.Many.toNat, by have := hk2 rfl; omega⟩
        obtain ⟨T, hT⟩ : ∃ T, T = (S.extract 0 A ++ S.extract (A + M) S.size) := ⟨_, rfl⟩
        have HTE := Lib.hid (show strOfNums (spl D.lm.view (m.deed 2 x.At x.Many ByteArray.empty)) = T from by
          rw [hA, hM, hT]
          have := cut_str D.lm.view A (A + M)
          rw [← HSV.out, ← HSL.out] at this
          rw [← this]
          unfold spl
          rw [if_neg (by show ¬ ((2 : Int) = 1); omega)]
          rfl)
        obtain ⟨D2, hD2⟩ : ∃ D2, D2 = D.set D.lm 0 (some (m.doF (m.deed 2 x.At x.Many ByteArray.empty))) := ⟨_, rfl⟩
        rw [← hD2] at H6 hok2 hsm2 hset hvs
        have H6 := Lib.hid (show DW w2 w2.heap.size g D2 w6 from H6.out)
        have HO6 := Lib.hid (show D2.Ok from hok2)
        have HN6 := Lib.hid (show D2.Sm (k + 1 + 1) from hsm2)
        have HN6' := Lib.hid (show D2.Sm 1000 from hsm2.mono (by omega))
        have HW6 := Lib.hid (show D2.writer 0 = some (m.doF (m.deed 2 x.At x.Many ByteArray.empty)) from by rw [hD2]; exact set_writer _ _ _ _ rfl)
        have HMV6 := Lib.hid (show strOfNums (m.doF (m.deed 2 x.At x.Many ByteArray.empty)).view = T from by rw [hvd]; exact HTE.out)
        have HSE6 := Lib.hid (show Settled (settle D2) from hset)
        have HVS6 := Lib.hid (show (settle D2).writer 0 = none ∨ strOfNums (settle D2).lm.view = T from hvs.imp id fun h => by rw [h]; exact HTE.out)
        rw [hA] at y2
        rw [hM] at y3
        have hMs : A + M ≤ S.size := by have := HSL.out; omega
        have hwr : IntKind.i64.wrap ((A : Int) + (M : Int)) = (A : Int) + (M : Int) := by rw [IntKind.wrap_i64]; omega
        have hMt : ((A : Int) + (M : Int)).toNat = A + M := by omega
        have hwr2 : IntKind.i64.wrap ((S.size : Int) - (A : Int)) = (S.size : Int) - (A : Int) := by rw [IntKind.wrap_i64]; omega
        have hd3 : decide ((M : Int) < 0) = false := decide_eq_false (by omega)
        have hd4 : decide ((S.size : Int) - (A : Int) < (M : Int)) = false := decide_eq_false (by omega)
        have hMi : (0 : Int) ≤ (A : Int) + (M : Int) := by omega
        have hMj : (A : Int) + (M : Int) ≤ (S.size : Int) := by omega
        have hAi : (0 : Int) ≤ (A : Int) := by omega
        have hAs : (A : Int) ≤ (S.size : Int) := by have := HSL.out; omega
        have hd1 : decide ((A : Int) < 0) = false := decide_eq_false (by omega)
        have hd2 : decide ((S.size : Int) < (A : Int)) = false := decide_eq_false (by omega)
        have HXT2 := HXT
        have HTT := Lib.hid hT
        have HSB := Lib.hid (show S.size ≤ 200 ∧ A ≤ S.size from ⟨hS200, by omega⟩)
        clear h0 hep hok2 hsm2 hA0 hAn hk1 hk2 hvd hset hvs hD2 hT hA HPS
        go_upto_region 20 with fail
        have Y2 := later_cell y2
        have Y3 := later_cell y3
        have Y4 := later_cell y4
        have hL : ∀ q : Lt w6, Later w6 q.v := fun q => q.h
        refine wp_region_mix [] [0, 1, 2, 3, 4, 5, 6, 7, 8, 9, 10, 11, 12] (by kernel_rfl) (by kernel_rfl) ?_
        iterate 11 (refine wpMix_step rfl (fun K hK => ?_); go_simp; refine hK _ _ ?_; clear hK K)
        refine wpMix_step rfl (fun K hK => ?_)
        go_simp
        refine ⟨.string (S.extract 0 A ++ S.extract (A + M) S.size), fun p => ?_, hK _ _ ?_⟩
        · rw [if_neg (by have := HSB.out; have := HXT2.out; omega)]; exact ⟨rfl, rfl⟩
        clear hK K
        (refine wpMix_step rfl (fun K hK => ?_); go_simp; refine hK _ _ ?_; clear hK K)
        refine wpMix_nil ?_
        intro w20 hL20
        have H7 := Lib.hid (H6.out.later hL20)
        clear hL20 hL Y2 Y3 Y4 y0 y2 y3 y4 H6 HXT2
        rw [← HTT.out]
        clear HTT
        -- what is seen, then all settle
        obtain ⟨gx, ⟨F5, gw5, hd5, hptr5⟩, hTx⟩ := WrT H7.out HO6.out HW6.out (S := T) HMV6.out
        have HD5 := Lib.hid hd5; have HP5 := Lib.hid hptr5; have HTx := Lib.hid hTx
        clear hd5 hptr5 hTx
        go_wp2_with fail
        refine (DWriter_c HD5.out 0).mono ?_
        rintro e w7 ⟨rfl, rfl⟩
        rw [HP5.out]
        go_wp2_with fail
        refine (DWriter_c HD5.out 0).mono ?_
        rintro e w8 ⟨rfl, rfl⟩
        rw [HP5.out]
        go_wp2_with fail
        refine (HTx.out _ (Below.refl _ _)).mono ?_
        rintro e w9 ⟨rfl, hb9⟩
        have H9 := Lib.hid (H7.out.later hb9)
        clear hb9 HTx HD5 HP5 H7
        go_wp2_with fail
        refine (Settle_DW H9.out HO6.out HN6'.out).mono ?_
        rintro e w10 ⟨⟨v10, rfl⟩, h10⟩
        have HSET := HSE6
        have HVS := HVS6
        have HSMS := Lib.hid (show (settle D2).Sm (k + 1 + 1) from HN6.out.settle)
        generalize settle D2 = D3 at *
        have H10 := Lib.hid h10
        clear h10 H9
        cases hw3 : D3.writer 0 with
        | none =>
          obtain ⟨⟨F9, gw9, hd9⟩, hb9⟩ := H10.out
          have HP9 := Lib.hid (DkM.ptr_none hw3 gw9)
          have HD9 := Lib.hid hd9
          have HB9 := Lib.hid hb9
          clear hd9 hb9 hw3 H10
          go_wp2_with fail
          refine (DWriter_c HD9.out 0).mono ?_
          rintro e w12 ⟨rfl, rfl⟩
          rw [HP9.out]
          go_wp2
          go_ret
          exact ⟨rfl, HB1.out.trans (HB9.out.mono HB1.out.size)⟩
        | some m3 =>
          have HV3 := Lib.hid (show strOfNums D3.lm.view = T from by
            rcases HVS.out with h | h
            · rw [hw3] at h; cases h
            · exact h)
          have HAL := Lib.hid (show Alone D3 (k + 1 + 1) from ⟨HSET.out, HSMS.out, m3, hw3⟩)
          obtain ⟨gx3, ⟨F9, gw9, hd9, hptr9⟩, hTx9⟩ := WrT H10.out HSET.out.ok hw3 (S := T) (by rw [HSET.out.view 0 m3 hw3]; exact HV3.out)
          obtain ⟨gl9, FL9, c9, hglt9, hlog9, hlt9⟩ := LogT H10.out HSET.out.ok HV3.out.symm
          have HD9 := Lib.hid hd9; have HP9 := Lib.hid hptr9; have HTx := Lib.hid hTx9; have HLt := Lib.hid hlt9
          clear hd9 hptr9 hTx9 hlt9 hlog9 hw3
          go_wp2_with fail
          refine (DWriter_c HD9.out 0).mono ?_
          rintro e w12 ⟨rfl, rfl⟩
          rw [HP9.out]
          go_wp2_with fail
          refine (HTx.out _ (Below.refl _ _)).mono ?_
          rintro e w13 ⟨rfl, hb13⟩
          have c13 := (hb13.cell (p := ⟨g, 0, none⟩) hglt9).trans c9
          have HB13 := Lib.hid hb13
          clear hb13
          go_wp2_with fail
          refine (HLt.out _ HB13.out).mono ?_
          rintro e w14 ⟨rfl, hb14⟩
          have H14 := Lib.hid (H10.out.later (HB13.out.trans (hb14.mono HB13.out.size)))
          clear hb14 c13 HLt HTx HD9 HP9 H10
          go_wp2
          exact ⟨⟨k + 1, D3, by omega, by go_num, by rw [HV3.out], HAL, H14⟩, by simp [intOf]; omega⟩


      · have h2B : (x.Kind != 2) = true := by simpa using h2
        have h3B : (x.Kind != 3) = true := by simpa using h3
        have h2D : decide (x.Kind = 2) = false := decide_eq_false h2
        have h3D : decide (x.Kind = 3) = false := decide_eq_false h3
        have HRn := Lib.hid (show ∀ o, DW w2 w2.heap.size g D (wr.alloc o) from fun o => HR.out.later ((Below.refl wr.heap.size wr).alloc (Nat.le_refl _) o))
        clear h2 h3 HR
        go_wp2
        exact ⟨⟨k + 1, D, by omega, by go_num, by rw [HSV.out], Lib.hid ⟨HA.out.se, HA.out.sm.mono (by omega), HA.out.wr⟩, Lib.hid (HRn.out _)⟩, by simp [intOf]; omega⟩
    · obtain rfl : k = l.length := by omega
      have hltB : decide ((l.length : Int) < (l.length : Int)) = false := by simp
      go_wp2
      go_ret
      exact ⟨rfl, HB1.out.trans (HR.out.2.mono HB1.out.size)⟩
end Go.Proofs.Ytneoeokfffnonac
