/- The walk of the law StoryFirst. -/
import Derived.Test.YtneoeokfffnonadStoW
set_option linter.unusedVariables false
set_option linter.unusedSimpArgs false
namespace Go.Proofs.Ytneoeokfffnonad
open Go.RowKit
theorem Do_DSt {w w1 : World} {base : Nat} {F : Nat → Prop} {g : Nat} {d1 : DkM} (h : DSt w base F g d1 w1) (ho : d1.Ok) (hs : d1.Sm 1000) (x : DStep) (hx : x.ok') :
    Calls Try.prog 8 #[.pointer (some ⟨g, 0, none⟩), .agg #[.int .i64 x.Kind, .int .i64 x.W, .int .i64 x.At, .int .i64 x.Many, .string x.Text]] w1 fun e w' => e = .returned (.int .i64 (d1.step x).2) ∧ DSt w base F g (d1.step x).1 w' := by
  obtain ⟨F1, gw1, h1, h2, h3⟩ := h
  refine (DDo_c h1 ho hs x hx).mono ?_
  rintro e w2 ⟨e1, F2, gw2, k1, k2, k3, _⟩
  exact ⟨e1, F2, gw2, k1, h2.transG h3 k2, h3.trans h2.size k3⟩
set_option maxRecDepth 100000 in
set_option maxHeartbeats 2000000 in
theorem StoryFirst_c (a : Option Addr) (cap : Nat) (l : List DStep) (b : Option Addr) (capb : Nat) (m : List DStep) (w : World) (hs : SlSt w a cap l) (hok : ∀ x ∈ l, x.ok) (hs' : SlSt w b capb m) (hok' : ∀ x ∈ m, x.ok) :
    Calls Try.prog 3 #[.slice a l.length cap, .slice b m.length capb] w fun e w' => e = .returned (.bool true) ∧ Below w.heap.size w w' := by
  have HOK := Lib.hid hok; have HOM := Lib.hid hok'
  clear hok hok'
  go_enter Try.func3, Try.ntmps3
  go_wp2_with fail
  refine (storyBegun_c w).mono ?_
  rintro e w1 ⟨rfl, hb1⟩
  have HS1 := Lib.hid (hs.below hb1)
  have HM1 := Lib.hid (hs'.below hb1)
  have HB1 := Lib.hid hb1
  clear hs hs' hb1
  go_wp2_with fail
  refine (greatSteps_c a cap l w1 HS1.out).mono ?_
  rintro e w2 ⟨r, rfl, rfl, hr⟩
  cases r
  case true =>
    go_wp2
    go_ret
    exact ⟨rfl, HB1.out⟩
  obtain ⟨hl200, _⟩ := hr rfl
  clear hr
  go_wp2_with fail
  refine (greatSteps_c b capb m w2 HM1.out).mono ?_
  rintro e w2' ⟨r, rfl, rfl, hr⟩
  cases r
  case true =>
    go_wp2
    go_ret
    exact ⟨rfl, HB1.out⟩
  obtain ⟨hm200, _⟩ := hr rfl
  clear hr
  by_cases hgt : (200 : Int) < (l.length : Int) + (m.length : Int)
  · have hgB : decide ((200 : Int) < (l.length : Int) + (m.length : Int)) = true := decide_eq_true hgt
    have hgB2 : decide ((l.length : Int) + (m.length : Int) > 200) = true := decide_eq_true hgt
    go_wp2
    go_ret
    exact ⟨rfl, HB1.out⟩
  have hgB : decide ((200 : Int) < (l.length : Int) + (m.length : Int)) = false := decide_eq_false hgt
  have hlm : l.length + m.length ≤ 200 := by omega
  go_wp2_with fail
  refine (played_c a cap l _ HS1.out HOK.out hl200).mono ?_
  rintro e w3 ⟨g, rfl, h3⟩
  have H3 := Lib.hid h3
  have HO := Lib.hid (show (DkM.new.plays l).Ok from DkM.Ok.plays _ DkM.new_ok)
  have HSM := Lib.hid (show (DkM.new.plays l).Sm 200 from (DkM.Sm.plays l DkM.new_sm).mono (by omega))
  have HM3 := Lib.hid (HM1.out.below (h3.2.mono (Nat.le_refl _)))
  clear h3 HS1 hgt hgB
  generalize DkM.new.plays l = D at *
  obtain ⟨⟨FD, gwD, hD⟩, hBD⟩ := H3.out
  have HD3 := Lib.hid hD; have HBD := Lib.hid hBD
  have hfoot := hD.foot
  have HFT := Lib.hid hfoot
  clear hD hBD hfoot
  obtain ⟨gl, FL, c0, hlog, hglt⟩ := H3.out.log
  have HLG := Lib.hid hlog
  clear hlog H3
  go_wp2_with fail
  refine (StOf_in HLG.out HO.out.lm).mono ?_
  rintro e w4 ⟨gs, rfl, ⟨sa, sc, es, hst⟩, hb4⟩
  have HST := Lib.hid hst
  have HD4 := Lib.hid (HD3.out.later hb4)
  have HB4 := Lib.hid (HBD.out.trans (hb4.mono HD3.out.base_le))
  have HF3 := Lib.hid (show ∀ k, FD k → k < w3.heap.size from fun k hk => (HFT.out k hk).2)
  clear hst hb4 HM3 HLG c0 hglt HD3 HBD HFT
  go_wp2
  go_loopw [7] (fun s7 wr => ∃ k : Nat, k ≤ m.length ∧ s7 = (.int .i64 k) ∧ Hid (DSt w4 w2'.heap.size FD g (D.plays (m.take k)) wr)) (fun s7 _ => m.length - (intOf s7).toNat)
  case atStart => exact ⟨0, Nat.zero_le _, rfl, Lib.hid (DSt.same HD4.out)⟩
  case round =>
    obtain ⟨k, hk, rfl, HR⟩ := hrel
    have HBR := Lib.hid (show Below w2'.heap.size w2' wr from by
      obtain ⟨_, _, _, k2, _⟩ := HR.out
      exact HB4.out.trans (HD4.out.below k2))
    by_cases hlt : k < m.length
    · obtain ⟨bb, off, rfl, hq⟩ := (HM1.out.below HBR.out).nth hlt
      obtain ⟨q0, q1, q2, q3, q4⟩ := hq
      have HSS := Lib.hid (DkM.plays_snoc D m k hlt)
      have HOk := Lib.hid (show (D.plays (m.take k)).Ok from DkM.Ok.plays _ HO.out)
      have HSm := Lib.hid (show (D.plays (m.take k)).Sm 1000 from (DkM.Sm.plays (m.take k) HSM.out).mono (by rw [List.length_take]; omega))
      have HX := Lib.hid (HOM.out m[k] (List.getElem_mem hlt))
      have hlt' : (k : Int) < m.length := by omega
      have hk0 : (0 : Int) ≤ (k : Int) := by omega
      generalize D.plays (m.take k) = dk at *
      generalize m[k] = x at *
      go_wp2_with fail
      refine (Do_DSt HR.out HOk.out HSm.out x ⟨HX.out.2.2.2.1, HX.out.2.2.2.2⟩).mono ?_
      rintro e w5 ⟨rfl, h5⟩
      have H5 := Lib.hid (show DSt w4 w2'.heap.size FD g (D.plays (m.take (k + 1))) w5 from by rw [HSS.out]; exact h5)
      clear h5 q0 q1 q2 q3 q4 HR HSS HOk HSm HX HBR
      generalize (dk.step x).2 = code
      go_wp2
      exact ⟨⟨k + 1, by omega, by go_num, H5⟩, by simp [intOf]; omega⟩
    · obtain rfl : k = m.length := by omega
      have H5 := Lib.hid (show DSt w4 w2'.heap.size FD g (D.plays m) wr from by have := HR.out; rw [List.take_length] at this; exact this)
      have HO1 := Lib.hid (show (D.plays m).Ok from DkM.Ok.plays _ HO.out)
      obtain ⟨X, hX⟩ := DkM.plays_pre m D
      have HPR := Lib.hid (show ∀ n, n ≤ D.lm.L.length → txtL (D.plays m).lm.L n = txtL D.lm.L n ∧ bysL (D.plays m).lm.L n = bysL D.lm.L n from fun n hn => by rw [hX]; exact txtL_append _ _ _ hn)
      have hle : D.lm.L.length ≤ (D.plays m).lm.L.length := by rw [hX, List.length_append]; omega
      have HS5 := Lib.hid (show StoIn wr w3.heap.size gs D.lm.L D.lm.L.length sa sc es from by
        obtain ⟨_, _, _, k2, _⟩ := H5.out
        exact HST.out.moves k2 HF3.out)
      have HL0 := Lib.hid HO.out.lm.lok
      have hlen0 := HO.out.lm.len
      have HL1 := Lib.hid HO1.out.lm.lok
      have hlen1 := HO1.out.lm.len
      have H5D := Lib.hid (show DW w2' w2'.heap.size g (D.plays m) wr from by
        obtain ⟨F5, g5, k1, k2, k3⟩ := H5.out
        exact ⟨⟨F5, g5, k1⟩, HBR.out⟩)
      clear HR hX HST HD4 HB4 HF3 HO H5 HM1
      generalize D.plays m = E at *
      generalize D.lm.L = L at *
      obtain ⟨gl, FL, c0, hlog, hglt⟩ := H5D.out.log
      have HLG := Lib.hid hlog
      clear hlog
      go_wp2_with fail
      refine (StOf_c HLG.out HO1.out.lm).mono ?_
      rintro e w6 ⟨gt, rfl, hst, hb6⟩
      have HT6 := Lib.hid hst
      have HS6 := Lib.hid (HS5.out.later hb6).done
      have HB6 := Lib.hid (HBR.out.trans (hb6.mono HBR.out.size))
      clear hst hb6 HS5 HBR H5D HLG HO1 c0 hglt
      generalize E.lm.L = L2 at *
      go_wp2_with fail
      refine (SLen_c HT6.out).mono ?_
      rintro e w7 ⟨rfl, rfl⟩
      go_wp2_with fail
      refine (SLen_c HS6.out).mono ?_
      rintro e w8 ⟨rfl, rfl⟩
      have hleN : decide (L2.length < L.length) = false := decide_eq_false (by omega)
      have hleB : decide ((L2.length : Int) + 1 < (L.length : Int) + 1) = false := decide_eq_false (by omega)
      go_wp2
      go_loopw [9] (fun s9 wr => ∃ n : Nat, n ≤ L.length + 1 ∧ s9 = (.int .i64 n) ∧ Hid (Below w8.heap.size w8 wr)) (fun s9 _ => L.length + 1 - (intOf s9).toNat)
      case atStart => exact ⟨0, Nat.zero_le _, rfl, Lib.hid (Below.refl _ _)⟩
      case round =>
        obtain ⟨n, hn, rfl, HB⟩ := hrel
        have HSr := Lib.hid (HS6.out.later HB.out)
        have HTr := Lib.hid (HT6.out.later HB.out)
        go_wp2_with fail
        refine (SLen_c HSr.out).mono ?_
        rintro e w9 ⟨rfl, rfl⟩
        by_cases hnl : n < L.length + 1
        · have hnB : decide ((n : Int) < (L.length : Int) + 1) = true := decide_eq_true (by omega)
          have hn0 : n ≤ L.length := by omega
          obtain ⟨ht, hb⟩ := HPR.out n hn0
          obtain ⟨T, hT⟩ : ∃ T, strOfNums (txtL L n) = T := ⟨_, rfl⟩
          obtain ⟨bs, hbs⟩ : ∃ bs, bysL L n = bs := ⟨_, rfl⟩
          obtain ⟨N, hN⟩ : ∃ N, bs.length = N := ⟨_, rfl⟩
          have HE1 := Lib.hid hT
          have HE2 := Lib.hid (show strOfNums (txtL L2 n) = T from by rw [ht]; exact hT)
          have HE3 := Lib.hid hbs
          have HE4 := Lib.hid (show bysL L2 n = bs from by rw [hb]; exact hbs)
          have HN := Lib.hid hN
          clear ht hb hT hbs hN
          go_wp2_with fail
          refine (SText_z HSr.out (n : Int) n rfl hn0 HL0.out T HE1.out).mono ?_
          rintro e w10 ⟨rfl, hb10⟩
          have HSa := Lib.hid (HSr.out.later hb10)
          have HTa := Lib.hid (HTr.out.later hb10)
          have HBa := Lib.hid (HB.out.trans (hb10.mono HB.out.size))
          clear hb10 HSr HTr HB
          go_wp2_with fail
          refine (SText_z HTa.out (n : Int) n rfl (by omega) HL1.out T HE2.out).mono ?_
          rintro e w11 ⟨rfl, hb11⟩
          have HSb := Lib.hid (HSa.out.later hb11)
          have HTb := Lib.hid (HTa.out.later hb11)
          have HBb := Lib.hid (HBa.out.trans (hb11.mono HBa.out.size))
          clear hb11 HSa HTa HBa
          go_wp2_with fail
          refine (SBy_z HSb.out (n : Int) n rfl hn0 HL0.out bs HE3.out N HN.out).mono ?_
          rintro e w12 ⟨pa, pc, rfl, hp, hb12⟩
          have HP := Lib.hid hp
          have HTc := Lib.hid (HTb.out.later hb12)
          have HBc := Lib.hid (HBb.out.trans (hb12.mono HBb.out.size))
          clear hp hb12 HSb HTb HBb
          go_wp2_with fail
          refine (SBy_z HTc.out (n : Int) n rfl (by omega) HL1.out bs HE4.out N HN.out).mono ?_
          rintro e w13 ⟨qa, qc, rfl, hq, hb13⟩
          have HPd := Lib.hid (HP.out.below hb13)
          have HQd := Lib.hid hq
          have HBd := Lib.hid (HBc.out.trans (hb13.mono HBc.out.size))
          clear hq hb13 HP HTc HBc
          go_wp2_with fail
          refine (SameInts_t pa qa pc qc bs N HN.out w13 HPd.out HQd.out).mono ?_
          rintro e w14 ⟨rfl, hb14⟩
          have HBe := Lib.hid (HBd.out.trans (hb14.mono HBd.out.size))
          clear hb14 HPd HQd HBd HE1 HE2 HE3 HE4 HN
          go_wp2
          exact ⟨⟨n + 1, by omega, by go_num, HBe⟩, by simp [intOf]; omega⟩
        · obtain rfl : n = L.length + 1 := by omega
          have hnB : decide ((((L.length + 1 : Nat) : Int)) < (L.length : Int) + 1) = false := decide_eq_false (by omega)
          have HF := Lib.hid (HB1.out.trans ((HB6.out.trans (HB.out.mono HB6.out.size)).mono HB1.out.size))
          clear HB HSr HTr HS6 HT6
          go_wp2
          go_ret
          exact ⟨rfl, HF.out⟩
end Go.Proofs.Ytneoeokfffnonad
