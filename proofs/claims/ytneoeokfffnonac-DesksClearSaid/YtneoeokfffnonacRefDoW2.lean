/- The walk of the reference's Do, bytes that go. -/
import Derived.Test.YtneoeokfffnonacRefFoldW
import Derived.Test.YtneoeokfffnonacDoW3
set_option linter.unusedVariables false
set_option linter.unusedSimpArgs false
namespace Go.Proofs.Ytneoeokfffnonac
open Go.RowKit

theorem gone_addW (g b : Int) (hb : isWriter b = true) (h : took g b = false) (hg : i64ok g) : IntKind.i64.wrap (g + bitOf b) = g + bitOf b := by
  rw [IntKind.wrap_i64]
  unfold i64ok at hg
  rcases isWriter_cases hb with rfl | rfl | rfl | rfl
  · rw [took_0] at h; simp [bitOf] at *; omega
  · rw [took_1] at h; simp [bitOf] at *; omega
  · rw [took_2] at h; simp [bitOf] at *; omega
  · rw [took_3] at h; simp [bitOf] at *; omega

theorem ChAt.box (w : World) (x : Ch) : ChAt (w.alloc (.cells #[.int .u8 x.C, .int .i64 x.By, .int .i64 x.No, .int .i64 x.K, .int .i64 x.In, .int .i64 x.Out, .int .i64 x.Gone] 86)) w.heap.size 0 x := by
  refine ⟨?_, ?_, ?_, ?_, ?_, ?_, ?_⟩ <;> simp
theorem ChAt.setOut {w : World} {b : Nat} {x : Ch} (h : ChAt w b 0 x) (v : Int) : ChAt (w.setCell ⟨b, 5, none⟩ (.int .i64 v)) b 0 { x with Out := v } := by
  obtain ⟨h0, h1, h2, h3, h4, h5, h6⟩ := h
  refine ⟨?_, ?_, ?_, ?_, ?_, ?_, ?_⟩
  · exact (World.cell?_setCell_other _ _ _ _ (by simp)).trans h0
  · exact (World.cell?_setCell_other _ _ _ _ (by simp)).trans h1
  · exact (World.cell?_setCell_other _ _ _ _ (by simp)).trans h2
  · exact (World.cell?_setCell_other _ _ _ _ (by simp)).trans h3
  · exact (World.cell?_setCell_other _ _ _ _ (by simp)).trans h4
  · exact World.cell?_setCell_same _ _ _ h5
  · exact (World.cell?_setCell_other _ _ _ _ (by simp)).trans h6
theorem ChAt.setGone {w : World} {b : Nat} {x : Ch} (h : ChAt w b 0 x) (v : Int) : ChAt (w.setCell ⟨b, 6, none⟩ (.int .i64 v)) b 0 { x with Gone := v } := by
  obtain ⟨h0, h1, h2, h3, h4, h5, h6⟩ := h
  refine ⟨?_, ?_, ?_, ?_, ?_, ?_, ?_⟩
  · exact (World.cell?_setCell_other _ _ _ _ (by simp)).trans h0
  · exact (World.cell?_setCell_other _ _ _ _ (by simp)).trans h1
  · exact (World.cell?_setCell_other _ _ _ _ (by simp)).trans h2
  · exact (World.cell?_setCell_other _ _ _ _ (by simp)).trans h3
  · exact (World.cell?_setCell_other _ _ _ _ (by simp)).trans h4
  · exact (World.cell?_setCell_other _ _ _ _ (by simp)).trans h5
  · exact World.cell?_setCell_same _ _ _ h6
theorem tk_snoc (l : List Ch) (d : Dd) (number : Int) (i : Nat) (h : i < l.length) :
    (takeGo d.Seen d.By d.At (d.At + d.Many) number l 0).take (i + 1) = (takeGo d.Seen d.By d.At (d.At + d.Many) number l 0).take i ++
      [if l[i].sees d.Seen d.By = true ∧ d.At ≤ (cntTo l d i : Int) ∧ (cntTo l d i : Int) < d.At + d.Many then mark d.By number l[i] else l[i]] := by
  rw [List.take_add_one, takeGo_get, List.getElem?_eq_getElem h]
  simp only [cntTo, Int.zero_add, Option.map_some, Option.toList_some]
  by_cases hh : l[i].sees d.Seen d.By = true ∧ d.At ≤ ((vis d.Seen d.By (List.take i l)).length : Int) ∧ ((vis d.Seen d.By (List.take i l)).length : Int) < d.At + d.Many
  · rw [if_pos hh]; exact congrArg (fun z => _ ++ [z]) (if_pos hh).symm
  · rw [if_neg hh]; exact congrArg (fun z => _ ++ [z]) (if_neg hh).symm
theorem tk_len (l : List Ch) (d : Dd) (number : Int) (i : Nat) (h : i ≤ l.length) : ((takeGo d.Seen d.By d.At (d.At + d.Many) number l 0).take i).length = i := by
  rw [List.length_take, takeGo_length]; omega
/-- 2 to the power of a writer's number. -/
theorem bit_pow (b : Int) (hb : isWriter b = true) : ∃ n : Nat, b = n ∧ n ≤ 3 ∧ bitOf b = (2 ^ n : Nat) := by
  rcases isWriter_cases hb with rfl | rfl | rfl | rfl
  · exact ⟨0, rfl, by omega, rfl⟩
  · exact ⟨1, rfl, by omega, rfl⟩
  · exact ⟨2, rfl, by omega, rfl⟩
  · exact ⟨3, rfl, by omega, rfl⟩

set_option maxRecDepth 100000 in
set_option maxHeartbeats 1000000 in
/-- Bytes go. -/
theorem RDo_take (a : Option Addr) (cap : Nat) (l : List Ch) (d : Dd) (number : Int) (w : World) (hs : SlCh w a cap l) (hG : ∀ c ∈ l, i64ok c.Gone) (hmay : mayDo l d = 0) (hn : 1 ≤ number) (hk : d.Kind = 2) :
    Calls Try.prog 78 #[.slice a l.length cap, .agg #[.int .i64 d.Kind, .int .i64 d.By, .int .i64 d.No, .int .i64 d.Seen, .int .i64 d.At, .int .i64 d.Many, .string d.Text], .int .i64 number] w fun e w' => ∃ a' cap', e = .returned (.tuple #[.slice a' (doF l d number).1.length cap', .int .i64 (doF l d number).2]) ∧
      OwnRow w' w.heap.size 86 7 a' (doF l d number).1.length cap' (flat (doF l d number).1) ∧ Below w.heap.size w w' := by
  obtain ⟨hf, hcnt, hlen⟩ := mayDo_zero hmay
  obtain ⟨hw, _, _, _, hse, hat, hat2, hq⟩ := deedFault_zero hf
  have hm0 : 1 ≤ d.Many ∧ d.Many ≤ 200 := by rcases hq with ⟨h, _⟩ | ⟨_, h1, h2, _⟩ <;> omega
  obtain ⟨hm1, hm2⟩ := hm0
  have hres : doF l d number = (takeGo d.Seen d.By d.At (d.At + d.Many) number l 0, 0) := by
    rcases doF_cases l d number with ⟨h1, e⟩ | ⟨_, hn, e⟩ | ⟨h1, hn, hk, e⟩ | ⟨h1, hn, hk2, e⟩
    · exact absurd hmay h1
    · omega
    · omega
    · exact e
  have hkB : (d.Kind == 1) = false := by rw [hk]; rfl
  have hll : l.length ≤ 200 := by omega
  have HRL := Lib.hid (takeGo_length d.Seen d.By d.At (d.At + d.Many) number l 0)
  have HST := Lib.hid (fun i h => tk_snoc l d number i h)
  have HTL := Lib.hid (fun i h => tk_len l d number i h)
  have hb0 := (Below.refl w.heap.size w).alloc (Nat.le_refl _) (.cells #[.int .i64 d.Kind, .int .i64 d.By, .int .i64 d.No, .int .i64 d.Seen, .int .i64 d.At, .int .i64 d.Many, .string d.Text] 24)
  have hd0 := DdAt.new w d
  have hs0 := hs.below hb0
  have HR := Lib.hid hres; have HM := Lib.hid hmay; have HG := Lib.hid hG
  have HW := Lib.hid hw
  obtain ⟨nb, hnb1, hnb2, hnb3⟩ := bit_pow d.By hw
  have HNB := Lib.hid hnb1; have HNB3 := Lib.hid hnb3
  have HTX := Lib.hid (show d.Text.size ≤ maxLen from by unfold maxLen; omega)
  clear hs hres hmay hcnt hf hse hq hG hw hlen hk hnb1 hnb3
  go_enter Try.func78, Try.ntmps78
  go_upto_region 1 with fail
  generalize hw0 : w.alloc (.cells #[.int .i64 d.Kind, .int .i64 d.By, .int .i64 d.No, .int .i64 d.Seen, .int .i64 d.At, .int .i64 d.Many, .string d.Text] 24) = w0 at *
  clear hw0
  obtain ⟨dlt, d0, d1, d2, d3, d4, d5, d6⟩ := hd0
  have hd0 : DdAt w0 w.heap.size d := ⟨dlt, d0, d1, d2, d3, d4, d5, d6⟩
  go_wp2_with fail
  refine (MayDo_c a cap l d _ hs0 (by omega) HTX.out HG.out).mono ?_
  rintro e w1 ⟨rfl, hb1⟩
  rw [HM.out]
  have hd1 := hd0.later hb1
  have hx1 := hb0.trans (hb1.mono hb0.size)
  have hs1 := hs0.below hb1
  clear hb1 hd0 d0 d1 d2 d3 d4 d5 d6 dlt hs0 hb0 HM
  obtain ⟨dl, d0, d1, d2, d3, d4, d5, d6⟩ := hd1
  have hd1 : DdAt w1 w.heap.size d := ⟨dl, d0, d1, d2, d3, d4, d5, d6⟩
  go_wp2
  clear d0 d1 d2 d3 d4 d5 d6
  go_loopw [9, 11, 12] (fun s9 s11 s12 wr => ∃ (i : Nat) (a' : Option Addr) (cap' : Nat), i ≤ l.length ∧ s12 = .int .i64 i ∧ s11 = .int .i64 (cntTo l d i : Nat) ∧ s9 = .slice a' i cap' ∧
    OwnRow wr w1.heap.size 86 7 a' i cap' (flat ((takeGo d.Seen d.By d.At (d.At + d.Many) number l 0).take i)) ∧ Below w1.heap.size w1 wr) (fun _ _ s12 _ => l.length - (intOf s12).toNat)
  case atStart => exact ⟨0, none, 0, Nat.zero_le _, rfl, rfl, rfl, OwnRow.nil _ _ _ _ _, Below.refl _ _⟩
  case round =>
    obtain ⟨i, a', cap', hi, rfl, rfl, rfl, hown, hb⟩ := hrel
    by_cases hlt : i < l.length
    · obtain ⟨bb, off, rfl, hc⟩ := hs1.nth hlt
      obtain ⟨q0, q1, q2, q3, q4, q5, q6⟩ := hc.below hb hc.lt
      have HS := Lib.hid (HST.out i hlt)
      have HC := Lib.hid (cntTo_snoc l d i hlt)
      have hcl := cntTo_le l d i
      have hgl := HG.out l[i] (List.getElem_mem hlt)
      have HGL := Lib.hid hgl
      have hlt' : (i : Int) < l.length := by omega
      have hi0 : (0 : Int) ≤ (i : Int) := by omega
      have HO := Lib.hid hown; clear hown hc hgl
      generalize hx : l[i] = x at *
      generalize cntTo l d i = N at *
      clear hx
      have HDr := Lib.hid (hd1.later hb)
      have hbA := (Below.refl wr.heap.size wr).alloc (Nat.le_refl _) (.cells #[.int .u8 x.C, .int .i64 x.By, .int .i64 x.No, .int .i64 x.K, .int .i64 x.In, .int .i64 x.Out, .int .i64 x.Gone] 86)
      have HCA := Lib.hid (ChAt.box wr x)
      have HFA := Lib.hid (show ∀ j, j < 7 → (wr.alloc (.cells #[.int .u8 x.C, .int .i64 x.By, .int .i64 x.No, .int .i64 x.K, .int .i64 x.In, .int .i64 x.Out, .int .i64 x.Gone] 86)).frozen? ⟨wr.heap.size, j, none⟩ = false from fun j _ => by simp)
      have hzA : (wr.alloc (.cells #[.int .u8 x.C, .int .i64 x.By, .int .i64 x.No, .int .i64 x.K, .int .i64 x.In, .int .i64 x.Out, .int .i64 x.Gone] 86)).heap.size = wr.heap.size + 1 := by simp
      obtain ⟨y, hy⟩ : ∃ y, y = if x.sees d.Seen d.By = true ∧ d.At ≤ (N : Int) ∧ (N : Int) < d.At + d.Many then mark d.By number x else x := ⟨_, rfl⟩
      rw [← hy] at HS
      have HY := Lib.hid hy; clear hy
      go_upto_region 18 with fail
      generalize wr.alloc _ = wA at *
      have hDA := HDr.out.later hbA
      obtain ⟨dl, d0, d1, d2, d3, d4, d5, d6⟩ := hDA
      have HDA := Lib.hid (DdAt.mk dl d0 d1 d2 d3 d4 d5 d6)
      clear q0 q1 q2 q3 q4 q5 q6
      obtain ⟨q0, q1, q2, q3, q4, q5, q6⟩ := HCA.out
      go_wp2_with fail
      refine (RSees_c x d.Seen d.By _ HGL.out).mono ?_
      rintro e w2 ⟨rfl, hb2⟩
      have hb12 : Below wr.heap.size wr w2 := hbA.trans (hb2.mono (by omega))
      have HC2 := Lib.hid (HCA.out.below hb2 (by omega))
      have HF2 := Lib.hid (fun j (hj : j < 7) => (hb2.frozen (p := ⟨wr.heap.size, j, none⟩) (by show wr.heap.size < wA.heap.size; omega)).trans (HFA.out j hj))
      have HD2 := Lib.hid (HDA.out.later hb2)
      have hlt2 : wr.heap.size < w2.heap.size := by have := hb2.size; omega
      clear hb2 HCA HFA HDA hbA hzA dl d0 d1 d2 d3 d4 d5 d6 q0 q1 q2 q3 q4 q5 q6 HDr
      generalize hBx : wr.heap.size = Bx at *
      obtain ⟨sb, hsb⟩ : ∃ sb, sb = x.sees d.Seen d.By := ⟨_, rfl⟩
      rw [← hsb]
      have HSB := Lib.hid hsb; clear hsb
      go_upto_if 88 with (fail)
      go_cut [11] (fun s11 wx => s11 = .int .i64 (cntTo l d (i + 1) : Nat) ∧ ChAt wx Bx 0 y ∧ Below Bx w2 wx)
      case first =>
        obtain ⟨q0, q1, q2, q3, q4, q5, q6⟩ := HC2.out
        obtain ⟨dl, d0, d1, d2, d3, d4, d5, d6⟩ := HD2.out
        have f5 := HF2.out 5 (by omega)
        have f6 := HF2.out 6 (by omega)
        have hNl : N ≤ 200 := by omega
        have hsum : IntKind.i64.wrap (d.At + d.Many) = d.At + d.Many := by rw [IntKind.wrap_i64]; omega
        cases sb
        · have HN2 := Lib.hid (show cntTo l d (i + 1) = N by rw [HC.out, ← HSB.out]; rfl)
          have HY2 := Lib.hid (show y = x by rw [HY.out, ← HSB.out]; simp)
          go_wp2
          go_meet
          exact ⟨by rw [HN2.out], by rw [HY2.out]; exact HC2.out, Below.refl _ _⟩
        · have HN2 := Lib.hid (show cntTo l d (i + 1) = N + 1 by rw [HC.out, ← HSB.out]; rfl)
          have HT := Lib.hid (sees_took (show x.sees d.Seen d.By = true from HSB.out.symm))
          have hincN : IntKind.i64.wrap ((N : Int) + 1) = (N : Int) + 1 := by rw [IntKind.wrap_i64]; omega
          by_cases h1 : d.At ≤ (N : Int)
          · by_cases h2 : (N : Int) < d.At + d.Many
            · have HY2 := Lib.hid (show y = mark d.By number x by rw [HY.out, ← HSB.out]; simp [h1, h2])
              have HAD := Lib.hid (show IntKind.i64.wrap (x.Gone + ((2 ^ nb : Nat) : Int)) = x.Gone + bitOf d.By by rw [← HNB3.out]; exact gone_addW _ _ HW.out HT.out HGL.out)
              rw [HNB.out] at d1
              go_wp2
              go_loopw [14, 15] (fun s14 s15 wl => ∃ j : Nat, j ≤ nb ∧ s15 = (.int .i64 j) ∧ s14 = (.int .i64 ((2 ^ j : Nat) : Int)) ∧ wl = w2) (fun _ s15 _ => nb - (intOf s15).toNat)
              case atStart => exact ⟨0, Nat.zero_le _, rfl, rfl, rfl⟩
              case round =>
                obtain ⟨j, hj, rfl, rfl, hwl⟩ := hrel
                rw [hwl]
                clear hwl
                by_cases hjl : j < nb
                · have hjB : decide ((j : Int) < (nb : Int)) = true := decide_eq_true (by omega)
                  have hp : IntKind.i64.wrap (((2 ^ j : Nat) : Int) * 2) = ((2 ^ (j + 1) : Nat) : Int) := by
                    rcases (show j = 0 ∨ j = 1 ∨ j = 2 by omega) with rfl | rfl | rfl <;> rfl
                  have hji : IntKind.i64.wrap ((j : Int) + 1) = ((j + 1 : Nat) : Int) := by rw [IntKind.wrap_i64]; omega
                  have HPW := Lib.hid hp; have HJI := Lib.hid hji
                  generalize ((2 ^ j : Nat) : Int) = tj at *
                  obtain ⟨tj1, htj1⟩ : ∃ tj1, tj1 = ((2 ^ (j + 1) : Nat) : Int) := ⟨_, rfl⟩
                  rw [← htj1] at hp HPW
                  have HT1 := Lib.hid htj1; clear htj1
                  go_wp2
                  exact ⟨⟨j + 1, by omega, by go_num, by rw [HT1.out], trivial⟩, by simp [intOf]; omega⟩
                · obtain rfl : j = nb := by omega
                  have hjB : decide ((j : Int) < (j : Int)) = false := by simp
                  have hAD := HAD.out
                  generalize ((2 ^ j : Nat) : Int) = tj at *
                  have HC3 := Lib.hid (HC2.out.setGone (x.Gone + bitOf d.By))
                  have HF3 := Lib.hid (show (w2.setCell ⟨Bx, 6, none⟩ (.int .i64 (x.Gone + bitOf d.By))).frozen? ⟨Bx, 5, none⟩ = false from by rw [World.frozen?_setCell]; exact f5)
                  have HB3 := Lib.hid ((Below.refl Bx w2).setCell (p := ⟨Bx, 6, none⟩) (Nat.le_refl _) (.int .i64 (x.Gone + bitOf d.By)))
                  go_upto_region 26 with fail
                  generalize w2.setCell _ _ = w3 at *
                  obtain ⟨q0, q1, q2, q3, q4, q5, q6⟩ := HC3.out
                  have hMK : mark d.By number x = ⟨x.C, x.By, x.No, x.K, x.In, if number ≠ 1073741824 ∧ (x.Out = 0 ∨ number < x.Out) then number else x.Out, x.Gone + bitOf d.By⟩ := rfl
                  have HMK := Lib.hid hMK; clear hMK
                  have HC4 := Lib.hid (HC3.out.setOut number)
                  have HB4 := Lib.hid (HB3.out.setCell (p := ⟨Bx, 5, none⟩) (Nat.le_refl _) (.int .i64 number))
                  have f5' := HF3.out
                  clear q0 q1 q2 q3 q4 f5 f6 HAD hAD d0 d1 d2 d3 d4 d5 d6
                  cases h3 : (number != 1073741824)
                  · have HY3 := Lib.hid (show y = { x with Gone := x.Gone + bitOf d.By } by
                      rw [HY2.out, HMK.out, if_neg]; intro h; simp only [bne_eq_false_iff_eq] at h3; exact h.1 h3)
                    go_wp2
                    go_meet
                    exact ⟨by rw [HN2.out]; go_num, by rw [HY3.out]; exact HC3.out, HB3.out⟩
                  · cases h4 : (x.Out == 0)
                    · by_cases h5 : number < x.Out
                      · have HY3 := Lib.hid (show y = { x with Gone := x.Gone + bitOf d.By, Out := number } by
                          rw [HY2.out, HMK.out, if_pos]; exact ⟨by simpa using h3, .inr h5⟩)
                        go_wp2
                        go_meet
                        exact ⟨by rw [HN2.out]; go_num, by rw [HY3.out]; exact HC4.out, HB4.out⟩
                      · have HY3 := Lib.hid (show y = { x with Gone := x.Gone + bitOf d.By } by
                          rw [HY2.out, HMK.out, if_neg]; intro h; rcases h.2 with h | h
                          · simp [h] at h4
                          · exact h5 h)
                        have h5' : decide (number < x.Out) = false := by simpa using h5
                        go_wp2
                        go_meet
                        exact ⟨by rw [HN2.out]; go_num, by rw [HY3.out]; exact HC3.out, HB3.out⟩
                    · have HY3 := Lib.hid (show y = { x with Gone := x.Gone + bitOf d.By, Out := number } by
                        rw [HY2.out, HMK.out, if_pos]; exact ⟨by simpa using h3, .inl (by simpa using h4)⟩)
                      go_wp2
                      go_meet
                      exact ⟨by rw [HN2.out]; go_num, by rw [HY3.out]; exact HC4.out, HB4.out⟩
            · have HY2 := Lib.hid (show y = x by rw [HY.out]; simp [h2])
              have h2' : decide ((N : Int) < d.At + d.Many) = false := by simpa using h2
              go_wp2
              go_meet
              exact ⟨by rw [HN2.out]; go_num, by rw [HY2.out]; exact HC2.out, Below.refl _ _⟩
          · have HY2 := Lib.hid (show y = x by rw [HY.out]; simp [h1])
            have h1' : decide (d.At ≤ (N : Int)) = false := by simpa using h1
            go_wp2
            go_meet
            exact ⟨by rw [HN2.out]; go_num, by rw [HY2.out]; exact HC2.out, Below.refl _ _⟩
      case rest =>
        obtain ⟨rfl, hCy, hbx⟩ := hcut
        obtain ⟨q0, q1, q2, q3, q4, q5, q6⟩ := hCy
        have hb0x : Below Bx wr wc := hb12.trans hbx
        have hbs : Below w1.heap.size w1 wc := hb.trans (hb0x.mono (by rw [← hBx]; exact hb.size))
        have HOx := Lib.hid (HO.out.below (by rw [hBx]; exact hb0x))
        have HL := Lib.hid (HTL.out (i + 1) (by omega))
        clear HO
        go_wp2_with (at_builtin; refine wpList_append_new rfl (.tmp 132) (.tmp 134) 41 rfl w1.heap.size 86 7 56 Try.underlying41 ti_Char a' i cap' _ rfl HOx.out 1 1 y.cells rfl rfl (Ch.cells_one y) (by omega) hbs.size ?_)
        intro a3 cap3 w3 hown3 hb3 hz3 hg3
        have HO3 := Lib.hid (show OwnRow w3 w1.heap.size 86 7 a3 (i + 1) cap3 (flat ((takeGo d.Seen d.By d.At (d.At + d.Many) number l 0).take (i + 1))) by rw [HS.out, flat_append]; simpa [flat] using hown3)
        clear hown3 HOx hg3 q0 q1 q2 q3 q4 q5 q6
        go_wp2
        exact ⟨⟨i + 1, a3, cap3, by omega, by go_num, rfl, rfl, HO3.out, hbs.trans hb3⟩, by simp [intOf]; omega⟩
    · obtain rfl : i = l.length := by omega
      have HE := Lib.hid (hx1.trans (hb.mono hx1.size))
      have HF := Lib.hid (hown.mono hx1.size)
      have HTT := Lib.hid (show (takeGo d.Seen d.By d.At (d.At + d.Many) number l 0).take l.length = takeGo d.Seen d.By d.At (d.At + d.Many) number l 0 from List.take_of_length_le (by rw [HRL.out]; exact Nat.le_refl _))
      clear hown
      go_wp2
      go_ret2
      refine ⟨a', cap', ?_, ?_, HE.out⟩
      · rw [HR.out]; show Ending.returned (.tuple #[.slice a' l.length cap', _]) = _; rw [HRL.out]; rfl
      · rw [HR.out]; show OwnRow wr w.heap.size 86 7 a' (takeGo d.Seen d.By d.At (d.At + d.Many) number l 0).length cap' _; rw [HRL.out, ← HTT.out]; exact HF.out
end Go.Proofs.Ytneoeokfffnonac
