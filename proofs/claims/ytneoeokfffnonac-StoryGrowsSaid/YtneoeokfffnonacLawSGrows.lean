/- The walk of the law StoryGrows. -/
import Derived.Test.YtneoeokfffnonacStoW
set_option linter.unusedVariables false
set_option linter.unusedSimpArgs false
namespace Go.Proofs.Ytneoeokfffnonac
open Go.RowKit
/-- A byte that is there, as the law compares it. -/
def prT (c : Ch) : Int × Int := (((UInt8.ofNat c.C.toNat).toNat : Int), c.By)
def prs (L : List Dd) (n : Nat) : List (Int × Int) := (alive (pre L n)).map prT
theorem prs_len (L : List Dd) (n : Nat) : (prs L n).length = (alive (pre L n)).length := by unfold prs; simp
theorem prs_str (L : List Dd) (n : Nat) (T : ByteArray) (hT : strOfNums (txtL L n) = T) (i : Nat) (h : i < T.size) (h2 : i < (bysL L n).length) (h3 : i < (prs L n).length) : (prs L n)[i] = ((T[i].toNat : Int), (bysL L n)[i]) := by
  subst hT
  have hx : i < (txtL L n).length := by rw [(txt_len L n).1]; rw [prs_len] at h3; exact h3
  have e : (strOfNums (txtL L n)).data.toList[i]? = some (UInt8.ofNat ((txtL L n)[i]).toNat) := by
    rw [strOfNums_list, List.getElem?_map, List.getElem?_eq_getElem hx]; rfl
  have e2 : (strOfNums (txtL L n))[i] = UInt8.ofNat ((txtL L n)[i]).toNat := by
    have h4 : (strOfNums (txtL L n)).data.toList[i]? = some ((strOfNums (txtL L n))[i]) := by
      rw [List.getElem?_eq_getElem (by simpa using h)]; rfl
    rw [h4] at e; injection e
  rw [e2]
  simp only [prs, txtL, bysL, List.getElem_map, prT]
theorem LOk.prs_put {L : List Dd} (h : LOk L) (n : Nat) (hn : n < L.length) (d : Dd) (hd : d = L[n]) (hk : d.Kind = 1) (PA PB : List (Int × Int)) (hA : PA = prs L n) (hB : PB = prs L (n + 1)) : PB.length = PA.length + d.Text.size ∧
    ∀ i j : Nat, i ≤ PA.length → i ≤ PB.length → (∀ (h1 : i < PA.length) (h2 : i < PB.length), PA[i] ≠ PB[i]) → j ≤ PA.length - i →
      (∀ (h1 : j < PA.length - i) (h2 : j < PB.length - i), PA[PA.length - 1 - j] ≠ PB[PB.length - 1 - j]) → i + j = PA.length := by
  subst hd hA hB
  rcases h.grows n hn with ⟨_, u, v, e1, e2⟩ | ⟨hk', _⟩
  · have p1 : prs L n = u.map prT ++ v.map prT := by unfold prs; rw [e1]; simp
    have p2 : prs L (n + 1) = u.map prT ++ (newOf L[n] ((n : Int) + 1)).map prT ++ v.map prT := by unfold prs; rw [e2]; simp
    have p3 : ((newOf L[n] ((n : Int) + 1)).map prT).length = L[n].Text.size := by rw [List.length_map, newOf_length]
    refine ⟨?_, fun i j h1 h2 h3 h4 h5 => common _ _ _ _ _ p1 p2 i ⟨h1, h2⟩ h3 j h4 h5⟩
    rw [p1, p2]; simp only [List.length_append, p3]; omega
  · exact absurd hk hk'
theorem LOk.prs_take {L : List Dd} (h : LOk L) (n : Nat) (hn : n < L.length) (d : Dd) (hd : d = L[n]) (hk : d.Kind ≠ 1) (PA PB : List (Int × Int)) (hA : PA = prs L n) (hB : PB = prs L (n + 1)) : PB.length ≤ PA.length ∧ (PA.length : Int) ≤ PB.length + d.Many := by
  subst hd hA hB
  rcases h.grows n hn with ⟨hk', _⟩ | ⟨_, h1, h2⟩
  · exact absurd hk' hk
  · rw [prs_len, prs_len]; exact ⟨h1, h2⟩
set_option maxRecDepth 100000 in
set_option maxHeartbeats 4000000 in
theorem StoryGrows_c (a : Option Addr) (cap : Nat) (l : List DStep) (n : Int) (w : World) (hs : SlSt w a cap l) (hok : ∀ x ∈ l, x.ok) (hn : i64ok n) :
    Calls Try.prog 12 #[.slice a l.length cap, .int .i64 n] w fun e w' => e = .returned (.bool true) ∧ Below w.heap.size w w' := by
  have HOK := Lib.hid hok
  clear hok hn
  go_enter Try.func12, Try.ntmps12
  go_wp2_with fail
  refine (storyBegun_c w).mono ?_
  rintro e w1 ⟨rfl, hb1⟩
  have HS1 := Lib.hid (hs.below hb1)
  have HB1 := Lib.hid hb1
  clear hs hb1
  go_wp2_with fail
  refine (greatSteps_c a cap l w1 HS1.out).mono ?_
  rintro e w2 ⟨r, rfl, rfl, hr⟩
  cases r
  case true =>
    go_wp2
    go_ret
    exact ⟨rfl, HB1.out⟩
  obtain ⟨hl200, _⟩ := hr rfl
  clear hr
  go_wp2_with fail
  refine (played_c a cap l w2 HS1.out HOK.out hl200).mono ?_
  rintro e w3 ⟨g, rfl, h3⟩
  have H3 := Lib.hid h3
  have HO := Lib.hid (show (DkM.new.plays l).Ok from DkM.Ok.plays _ DkM.new_ok)
  have HB3 := Lib.hid (HB1.out.trans (h3.2.mono HB1.out.size))
  clear h3 HS1 HB1
  obtain ⟨gl, FL, c0, hlog, hglt⟩ := H3.out.log
  have HLG := Lib.hid hlog
  clear hlog H3
  generalize DkM.new.plays l = D at *
  go_wp2_with fail
  refine (StOf_c HLG.out HO.out.lm).mono ?_
  rintro e w4 ⟨gs, rfl, hst, hb4⟩
  have HST := Lib.hid hst
  have HLG4 := Lib.hid (HLG.out.later hb4)
  have c4 := (hb4.cell (p := ⟨g, 0, none⟩) hglt).trans c0
  have HB4 := Lib.hid (HB3.out.trans (hb4.mono HB3.out.size))
  have HLO := Lib.hid HO.out.lm.lok
  have hlen := HO.out.lm.len
  have HDD := Lib.hid HO.out.lm.deeds
  clear hst hb4 HLG HO c0 hglt HB3 HDD
  go_wp2_with fail
  refine (Deed_g HLG4.out n).mono ?_
  rintro e w5 ⟨dd, b, rfl, hb5, h5⟩
  rcases h5 with ⟨rfl, _, _⟩ | ⟨rfl, k, hk, rfl, hdd⟩
  · have HB5 := Lib.hid (HB4.out.trans (hb5.mono HB4.out.size))
    have hbz : ∀ o, Below w.heap.size w (w5.alloc o) := fun o => HB5.out.alloc HB5.out.size o
    have HBZ := Lib.hid hbz
    clear hb5 hbz
    go_wp2
    go_ret
    exact ⟨rfl, HBZ.out _⟩
  generalize D.lm.L = L at *
  have HDE := Lib.hid hdd
  have hb8 := hb5.trans (((Below.refl w5.heap.size w5).alloc (Nat.le_refl _) (.cells #[.int .i64 dd.Kind, .int .i64 dd.By, .int .i64 dd.No, .int .i64 dd.Seen, .int .i64 dd.At, .int .i64 dd.Many, .string dd.Text] 24)).mono hb5.size)
  have HX8 := Lib.hid (show DdAt (w5.alloc (.cells #[.int .i64 dd.Kind, .int .i64 dd.By, .int .i64 dd.No, .int .i64 dd.Seen, .int .i64 dd.At, .int .i64 dd.Many, .string dd.Text] 24)) w5.heap.size dd from DdAt.new w5 dd)
  have HST8 := Lib.hid (HST.out.later hb8)
  have HB8 := Lib.hid (HB4.out.trans (hb8.mono HB4.out.size))
  clear hb5 hb8 hdd HST HLG4 c4 HB4
  go_upto_region 10 with fail
  generalize hw8 : w5.alloc _ = w8
  have hw8' : w5.alloc (.cells #[.int .i64 dd.Kind, .int .i64 dd.By, .int .i64 dd.No, .int .i64 dd.Seen, .int .i64 dd.At, .int .i64 dd.Many, .string dd.Text] 24) = w8 := hw8
  rw [hw8'] at HX8 HST8 HB8
  clear hw8 hw8'
  obtain ⟨Y, hY⟩ : ∃ Y, Y = w5.heap.size := ⟨_, rfl⟩
  rw [← hY] at HX8 ⊢
  clear hY
  obtain ⟨TA, hTA⟩ : ∃ T, strOfNums (txtL L k) = T := ⟨_, rfl⟩
  obtain ⟨TB, hTB⟩ : ∃ T, strOfNums (txtL L (k + 1)) = T := ⟨_, rfl⟩
  have HA1 := Lib.hid (show (bysL L k).length = TA.size from by rw [← hTA, strOfNums_size, (txt_len L k).1, (txt_len L k).2])
  have HB1 := Lib.hid (show (bysL L (k + 1)).length = TB.size from by rw [← hTB, strOfNums_size, (txt_len L (k + 1)).1, (txt_len L (k + 1)).2])
  have HA2 := Lib.hid (show (prs L k).length = TA.size from by rw [← HA1.out, prs_len, (txt_len L k).2])
  have HB2 := Lib.hid (show (prs L (k + 1)).length = TB.size from by rw [← HB1.out, prs_len, (txt_len L (k + 1)).2])
  have hA200 : TA.size ≤ 200 := by rw [← HA1.out, (txt_len L k).2]; exact HLO.out.alive_le k (by omega)
  have hB200 : TB.size ≤ 200 := by rw [← HB1.out, (txt_len L (k + 1)).2]; exact HLO.out.alive_le (k + 1) (by omega)
  have HGA := Lib.hid (fun i h h2 h3 => prs_str L k TA hTA i h h2 h3)
  have HGB := Lib.hid (fun i h h2 h3 => prs_str L (k + 1) TB hTB i h h2 h3)
  have hkz : IntKind.i64.wrap ((k : Int) + 1 - 1) = (k : Int) := by rw [IntKind.wrap_i64]; omega
  go_wp2_with fail
  refine (SText_z HST8.out (k : Int) k rfl (by omega) HLO.out TA hTA).mono ?_
  rintro e w9 ⟨rfl, hb9⟩
  have HX9 := Lib.hid (HX8.out.later hb9)
  have HST9 := Lib.hid (HST8.out.later hb9)
  have HB9 := Lib.hid (HB8.out.trans (hb9.mono HB8.out.size))
  clear hb9 HX8 HST8 HB8 hTA
  go_wp2_with fail
  refine (SText_z HST9.out ((k : Int) + 1) (k + 1) (by omega) (by omega) HLO.out TB hTB).mono ?_
  rintro e w10 ⟨rfl, hb10⟩
  have HX10 := Lib.hid (HX9.out.later hb10)
  have HST10 := Lib.hid (HST9.out.later hb10)
  have HB10 := Lib.hid (HB9.out.trans (hb10.mono HB9.out.size))
  clear hb10 HX9 HST9 HB9 hTB
  go_wp2_with fail
  refine (SBy_z HST10.out (k : Int) k rfl (by omega) HLO.out (bysL L k) rfl TA.size HA1.out).mono ?_
  rintro e w11 ⟨pa, pc, rfl, hp, hb11⟩
  have HX11 := Lib.hid (HX10.out.later hb11)
  have HST11 := Lib.hid (HST10.out.later hb11)
  have HB11 := Lib.hid (HB10.out.trans (hb11.mono HB10.out.size))
  have HP11 := Lib.hid hp
  clear hb11 HX10 HST10 HB10 hp
  go_wp2_with fail
  refine (SBy_z HST11.out ((k : Int) + 1) (k + 1) (by omega) (by omega) HLO.out (bysL L (k + 1)) rfl TB.size HB1.out).mono ?_
  rintro e w12 ⟨qa, qc, rfl, hq, hb12⟩
  have HX12 := Lib.hid (HX11.out.later hb12)
  have HB12 := Lib.hid (HB11.out.trans (hb12.mono HB11.out.size))
  have HP12 := Lib.hid (HP11.out.below hb12)
  have HQ12 := Lib.hid hq
  clear hb12 HX11 HST11 HB11 HP11 hq hkz
  obtain ⟨ps, hps⟩ : ∃ ps, ps = bysL L k := ⟨_, rfl⟩
  obtain ⟨qs, hqs⟩ : ∃ qs, qs = bysL L (k + 1) := ⟨_, rfl⟩
  rw [← hps] at HP12 HA1 HGA
  rw [← hqs] at HQ12 HB1 HGB
  clear hps hqs
  obtain ⟨PA, hPA⟩ : ∃ PA, PA = prs L k := ⟨_, rfl⟩
  obtain ⟨PB, hPB⟩ : ∃ PB, PB = prs L (k + 1) := ⟨_, rfl⟩
  have HPUT := Lib.hid (fun hk1 => HLO.out.prs_put k hk dd HDE.out hk1 PA PB hPA hPB)
  have HTAK := Lib.hid (fun hk1 => HLO.out.prs_take k hk dd HDE.out hk1 PA PB hPA hPB)
  rw [← hPA] at HA2 HGA
  rw [← hPB] at HB2 HGB
  clear hPA hPB
  have HTX := Lib.hid (show deedFault dd = 0 from by rw [HDE.out]; exact (mayDo_zero (pre_succ HLO.out.all k hk).1).1)
  clear HLO HDE
  go_wp2
  go_loopw [17] (fun s17 wr => ∃ i : Nat, i ≤ TA.size ∧ i ≤ TB.size ∧ s17 = (.int .i64 i) ∧ Hid (Below w12.heap.size w12 wr)) (fun s17 _ => TA.size - (intOf s17).toNat)
  case atStart => exact ⟨0, Nat.zero_le _, Nat.zero_le _, rfl, Lib.hid (Below.refl _ _)⟩
  case round =>
    obtain ⟨i, hiA, hiB, rfl, HB⟩ := hrel
    have hi0 : (0 : Int) ≤ (i : Int) := by omega
    have HPr := Lib.hid (HP12.out.below HB.out)
    have HQr := Lib.hid (HQ12.out.below HB.out)
    go_upto_region 19 with fail
    go_cut [118] (fun s118 wx => ∃ c : Bool, s118 = .bool c ∧ Hid (Below wr.heap.size wr wx) ∧ Hid (c = true → i < TA.size ∧ i < TB.size) ∧ Hid (c = false → ∀ (h1 : i < PA.length) (h2 : i < PB.length), PA[i] ≠ PB[i]))
    case first =>
      by_cases h1 : i < TA.size
      · have h1B : decide ((i : Int) < (TA.size : Int)) = true := decide_eq_true (by omega)
        have h1N : decide (i < TA.size) = true := decide_eq_true h1
        have h1' : (i : Int) < (TA.size : Int) := by omega
        by_cases h2 : i < TB.size
        · have h2B : decide ((i : Int) < (TB.size : Int)) = true := decide_eq_true (by omega)
          have h2N : decide (i < TB.size) = true := decide_eq_true h2
          have h2' : (i : Int) < (TB.size : Int) := by omega
          obtain ⟨b1, o1, rfl, p0⟩ := HPr.out.2.2 i (by rw [HA1.out]; exact h1)
          obtain ⟨b2, o2, rfl, q0⟩ := HQr.out.2.2 i (by rw [HB1.out]; exact h2)
          have hpc : TA.size ≤ pc := by have := HPr.out.1; rw [HA1.out] at this; exact this
          have hqc : TB.size ≤ qc := by have := HQr.out.1; rw [HB1.out] at this; exact this
          have ga := HGA.out i h1 (by rw [HA1.out]; exact h1) (by rw [HA2.out]; exact h1)
          have gb := HGB.out i h2 (by rw [HB1.out]; exact h2) (by rw [HB2.out]; exact h2)
          generalize hx : ps[i]'(by rw [HA1.out]; exact h1) = x at *
          generalize hy : qs[i]'(by rw [HB1.out]; exact h2) = y at *
          have GA := Lib.hid ga; have GB := Lib.hid gb
          clear ga gb hx hy
          by_cases h3 : (TA[i].toNat : Int) = (TB[i].toNat : Int)
          · have h3B : ((TA[i].toNat : Int) == (TB[i].toNat : Int)) = true := by simpa using h3
            have h3D : decide ((TA[i].toNat : Int) = (TB[i].toNat : Int)) = true := decide_eq_true h3
            have H3 := Lib.hid h3
            clear h3
            by_cases h4 : x = y
            · subst h4
              go_quiet (fail)
              have hL : Below wr.heap.size wr (wr.drewN nq) := bl_drewN (Below.refl _ _) nq
              have HL := Lib.hid hL
              clear hL
              go_wp2
              go_meet
              exact ⟨true, rfl, HL, Lib.hid (fun _ => ⟨h1, h2⟩), Lib.hid (fun e => by cases e)⟩
            · have h4B : (x == y) = false := by simpa using h4
              have h4D : decide (x = y) = false := decide_eq_false h4
              have H4 := Lib.hid h4
              clear h4
              go_quiet (fail)
              have hL : Below wr.heap.size wr (wr.drewN nq) := bl_drewN (Below.refl _ _) nq
              have HL := Lib.hid hL
              clear hL
              go_wp2
              go_meet
              refine ⟨false, rfl, HL, Lib.hid (fun e => by cases e), Lib.hid (fun _ k1 k2 e => ?_)⟩
              rw [GA.out, GB.out] at e
              exact H4.out (congrArg Prod.snd e)
          · have h3B : ((TA[i].toNat : Int) == (TB[i].toNat : Int)) = false := by simpa using h3
            have h3D : decide ((TA[i].toNat : Int) = (TB[i].toNat : Int)) = false := decide_eq_false h3
            have H3 := Lib.hid h3
            clear h3
            go_quiet (fail)
            have hL : Below wr.heap.size wr (wr.drewN nq) := bl_drewN (Below.refl _ _) nq
            have HL := Lib.hid hL
            clear hL
            go_wp2
            go_meet
            refine ⟨false, rfl, HL, Lib.hid (fun e => by cases e), Lib.hid (fun _ k1 k2 e => ?_)⟩
            rw [GA.out, GB.out] at e
            exact H3.out (congrArg Prod.fst e)
        · have h2B : decide ((i : Int) < (TB.size : Int)) = false := decide_eq_false (by omega)
          have h2N : decide (i < TB.size) = false := decide_eq_false h2
          go_quiet (fail)
          have hL : Below wr.heap.size wr (wr.drewN nq) := bl_drewN (Below.refl _ _) nq
          have HL := Lib.hid hL
          clear hL
          go_wp2
          go_meet
          exact ⟨false, rfl, HL, Lib.hid (fun e => by cases e), Lib.hid (fun _ k1 k2 => absurd (by rw [← HB2.out]; exact k2) h2)⟩
      · have h1B : decide ((i : Int) < (TA.size : Int)) = false := decide_eq_false (by omega)
        have h1N : decide (i < TA.size) = false := decide_eq_false h1
        go_quiet (fail)
        have hL : Below wr.heap.size wr (wr.drewN nq) := bl_drewN (Below.refl _ _) nq
        have HL := Lib.hid hL
        clear hL
        go_wp2
        go_meet
        exact ⟨false, rfl, HL, Lib.hid (fun e => by cases e), Lib.hid (fun _ k1 k2 => absurd (by rw [← HA2.out]; exact k1) h1)⟩
    case rest =>
      obtain ⟨c, rfl, HL, HT, HF⟩ := hcut
      have HBx := Lib.hid (HB.out.trans (HL.out.mono HB.out.size))
      clear HPr HQr HL HB
      cases c
      case true =>
        obtain ⟨h1, h2⟩ := HT.out rfl
        have hinc : IntKind.i64.wrap ((i : Int) + 1) = (i : Int) + 1 := by rw [IntKind.wrap_i64]; omega
        clear HT HF
        go_wp2
        exact ⟨⟨i + 1, by omega, by omega, by go_num, HBx⟩, by simp [intOf]; omega⟩
      case false =>
        have HSTOP := Lib.hid (HF.out rfl)
        clear HT HF
        generalize wc = w13 at *
        go_wp2
        go_loopw [18] (fun s18 wr => ∃ j : Nat, j ≤ TA.size - i ∧ j ≤ TB.size - i ∧ s18 = (.int .i64 j) ∧ Hid (Below w12.heap.size w12 wr)) (fun s18 _ => TA.size - (intOf s18).toNat)
        case atStart => exact ⟨0, Nat.zero_le _, Nat.zero_le _, rfl, HBx⟩
        case round =>
          obtain ⟨j, hjA, hjB, rfl, HB⟩ := hrel
          clear HBx
          have hj0 : (0 : Int) ≤ (j : Int) := by omega
          have HPr := Lib.hid (HP12.out.below HB.out)
          have HQr := Lib.hid (HQ12.out.below HB.out)
          have eA : IntKind.i64.wrap ((TA.size : Int) - (i : Int)) = (TA.size : Int) - (i : Int) := by rw [IntKind.wrap_i64]; omega
          have eB : IntKind.i64.wrap ((TB.size : Int) - (i : Int)) = (TB.size : Int) - (i : Int) := by rw [IntKind.wrap_i64]; omega
          go_upto_region 22 with fail
          go_cut [170] (fun s170 wx => ∃ c : Bool, s170 = .bool c ∧ Hid (Below wr.heap.size wr wx) ∧ Hid (c = true → j < TA.size - i ∧ j < TB.size - i) ∧ Hid (c = false → ∀ (h1 : j < PA.length - i) (h2 : j < PB.length - i), PA[PA.length - 1 - j] ≠ PB[PB.length - 1 - j]))
          case first =>
            by_cases h1 : j < TA.size - i
            · have h1B : decide ((j : Int) < (TA.size : Int) - (i : Int)) = true := decide_eq_true (by omega)
              by_cases h2 : j < TB.size - i
              · have h2B : decide ((j : Int) < (TB.size : Int) - (i : Int)) = true := decide_eq_true (by omega)
                obtain ⟨u, hu⟩ : ∃ u : Nat, u = TA.size - 1 - j := ⟨_, rfl⟩
                obtain ⟨v, hv⟩ : ∃ v : Nat, v = TB.size - 1 - j := ⟨_, rfl⟩
                have hu1 : u < TA.size := by omega
                have hv1 : v < TB.size := by omega
                have hu' : (u : Int) < (TA.size : Int) := by omega
                have hv' : (v : Int) < (TB.size : Int) := by omega
                have hu0 : (0 : Int) ≤ (u : Int) := by omega
                have hv0 : (0 : Int) ≤ (v : Int) := by omega
                have eU : IntKind.i64.wrap ((TA.size : Int) - 1 - (j : Int)) = (u : Int) := by rw [IntKind.wrap_i64]; omega
                have eV : IntKind.i64.wrap ((TB.size : Int) - 1 - (j : Int)) = (v : Int) := by rw [IntKind.wrap_i64]; omega
                have eA1 : IntKind.i64.wrap ((TA.size : Int) - 1) = (TA.size : Int) - 1 := by rw [IntKind.wrap_i64]; omega
                have eB1 : IntKind.i64.wrap ((TB.size : Int) - 1) = (TB.size : Int) - 1 := by rw [IntKind.wrap_i64]; omega
                obtain ⟨b1, o1, rfl, p0⟩ := HPr.out.2.2 u (by rw [HA1.out]; exact hu1)
                obtain ⟨b2, o2, rfl, q0⟩ := HQr.out.2.2 v (by rw [HB1.out]; exact hv1)
                have hpc : TA.size ≤ pc := by have := HPr.out.1; rw [HA1.out] at this; exact this
                have hqc : TB.size ≤ qc := by have := HQr.out.1; rw [HB1.out] at this; exact this
                have ga := HGA.out u hu1 (by rw [HA1.out]; exact hu1) (by rw [HA2.out]; exact hu1)
                have gb := HGB.out v hv1 (by rw [HB1.out]; exact hv1) (by rw [HB2.out]; exact hv1)
                generalize hx : ps[u]'(by rw [HA1.out]; exact hu1) = x at *
                generalize hy : qs[v]'(by rw [HB1.out]; exact hv1) = y at *
                have hPu : PA.length - 1 - j = u := by rw [HA2.out]; exact hu.symm
                have hPv : PB.length - 1 - j = v := by rw [HB2.out]; exact hv.symm
                have GA := Lib.hid ga; have GB := Lib.hid gb
                have HU := Lib.hid hPu; have HV := Lib.hid hPv
                clear ga gb hx hy hu hv hPu hPv
                by_cases h3 : (TA[u].toNat : Int) = (TB[v].toNat : Int)
                · have h3B : ((TA[u].toNat : Int) == (TB[v].toNat : Int)) = true := by simpa using h3
                  have h3D : decide ((TA[u].toNat : Int) = (TB[v].toNat : Int)) = true := decide_eq_true h3
                  clear h3
                  by_cases h4 : x = y
                  · subst h4
                    go_quiet (fail)
                    have hL : Below wr.heap.size wr (wr.drewN nq) := bl_drewN (Below.refl _ _) nq
                    have HL := Lib.hid hL
                    clear hL
                    go_wp2
                    go_meet
                    exact ⟨true, rfl, HL, Lib.hid (fun _ => ⟨h1, h2⟩), Lib.hid (fun e => by cases e)⟩
                  · have h4B : (x == y) = false := by simpa using h4
                    have h4D : decide (x = y) = false := decide_eq_false h4
                    have H4 := Lib.hid h4
                    clear h4
                    go_quiet (fail)
                    have hL : Below wr.heap.size wr (wr.drewN nq) := bl_drewN (Below.refl _ _) nq
                    have HL := Lib.hid hL
                    clear hL
                    go_wp2
                    go_meet
                    refine ⟨false, rfl, HL, Lib.hid (fun e => by cases e), Lib.hid (fun _ k1 k2 e => ?_)⟩
                    simp only [HU.out, HV.out] at e
                    rw [GA.out, GB.out] at e
                    exact H4.out (congrArg Prod.snd e)
                · have h3B : ((TA[u].toNat : Int) == (TB[v].toNat : Int)) = false := by simpa using h3
                  have h3D : decide ((TA[u].toNat : Int) = (TB[v].toNat : Int)) = false := decide_eq_false h3
                  have H3 := Lib.hid h3
                  clear h3
                  go_quiet (fail)
                  have hL : Below wr.heap.size wr (wr.drewN nq) := bl_drewN (Below.refl _ _) nq
                  have HL := Lib.hid hL
                  clear hL
                  go_wp2
                  go_meet
                  refine ⟨false, rfl, HL, Lib.hid (fun e => by cases e), Lib.hid (fun _ k1 k2 e => ?_)⟩
                  simp only [HU.out, HV.out] at e
                  rw [GA.out, GB.out] at e
                  exact H3.out (congrArg Prod.fst e)
              · have h2B : decide ((j : Int) < (TB.size : Int) - (i : Int)) = false := decide_eq_false (by omega)
                go_quiet (fail)
                have hL : Below wr.heap.size wr (wr.drewN nq) := bl_drewN (Below.refl _ _) nq
                have HL := Lib.hid hL
                clear hL
                go_wp2
                go_meet
                exact ⟨false, rfl, HL, Lib.hid (fun e => by cases e), Lib.hid (fun _ k1 k2 => absurd (by rw [← HB2.out]; exact k2) h2)⟩
            · have h1B : decide ((j : Int) < (TA.size : Int) - (i : Int)) = false := decide_eq_false (by omega)
              go_quiet (fail)
              have hL : Below wr.heap.size wr (wr.drewN nq) := bl_drewN (Below.refl _ _) nq
              have HL := Lib.hid hL
              clear hL
              go_wp2
              go_meet
              exact ⟨false, rfl, HL, Lib.hid (fun e => by cases e), Lib.hid (fun _ k1 k2 => absurd (by rw [← HA2.out]; exact k1) h1)⟩
          case rest =>
            obtain ⟨c, rfl, HL, HT, HF⟩ := hcut
            have HBy := Lib.hid (HB.out.trans (HL.out.mono HB.out.size))
            clear HPr HQr HL HB eA eB
            cases c
            case true =>
              obtain ⟨h1, h2⟩ := HT.out rfl
              have hinc : IntKind.i64.wrap ((j : Int) + 1) = (j : Int) + 1 := by rw [IntKind.wrap_i64]; omega
              clear HT HF
              go_wp2
              exact ⟨⟨j + 1, by omega, by omega, by go_num, HBy⟩, by simp [intOf]; omega⟩
            case false =>
              have HSTOP2 := Lib.hid (HF.out rfl)
              have HXc := Lib.hid (HX12.out.later HBy.out)
              have HBF := Lib.hid (HB12.out.trans (HBy.out.mono HB12.out.size))
              clear HT HF HBy
              obtain ⟨xlt, x0, x1, x2, x3, x4, x5, x6⟩ := HXc.out
              have hfz := (deedFault_zero HTX.out).2.2.2.2.2.2.2
              by_cases hk1 : dd.Kind = 1
              · obtain ⟨e1, e2⟩ := HPUT.out hk1
                have e3 := e2 i j (by rw [HA2.out]; exact hiA) (by rw [HB2.out]; exact hiB) HSTOP.out (by rw [HA2.out]; exact hjA) HSTOP2.out
                rw [HA2.out, HB2.out] at e1
                rw [HA2.out] at e3
                have htx : dd.Text.size ≤ 20 := by
                  rcases hfz with ⟨_, _, h⟩ | ⟨h, _⟩
                  · exact (textOk_size h).2
                  · omega
                have hk1B : (dd.Kind == 1) = true := by simpa using hk1
                have hk1D : decide (dd.Kind = 1) = true := decide_eq_true hk1
                have hs2 : (i : Int) + (j : Int) = (TA.size : Int) := by omega
                have hs3 : (TB.size : Int) = (TA.size : Int) + (dd.Text.size : Int) := by omega
                have hs2B : ((i : Int) + (j : Int) == (TA.size : Int)) = true := by simpa using hs2
                have hs2D : decide ((i : Int) + (j : Int) = (TA.size : Int)) = true := decide_eq_true hs2
                have hs3B : ((TB.size : Int) == (TA.size : Int) + (dd.Text.size : Int)) = true := by simpa using hs3
                have hs3D : decide ((TB.size : Int) = (TA.size : Int) + (dd.Text.size : Int)) = true := decide_eq_true hs3
                clear hs2 hs3
                clear hk1 e1 e2 e3 HPUT HTAK HSTOP HSTOP2 hfz
                go_wp2
                go_ret
                exact ⟨rfl, HBF.out⟩
              · obtain ⟨e1, e2⟩ := HTAK.out hk1
                rw [HA2.out, HB2.out] at e1 e2
                have hk1B : (dd.Kind == 1) = false := by simpa using hk1
                have hk1D : decide (dd.Kind = 1) = false := decide_eq_false hk1
                have hl1 : decide ((TB.size : Int) ≤ (TA.size : Int)) = true := decide_eq_true (by omega)
                have hl2 : decide (TB.size ≤ TA.size) = true := decide_eq_true e1
                have hmy : 1 ≤ dd.Many ∧ dd.Many ≤ 200 := by
                  rcases hfz with ⟨h, _⟩ | ⟨_, h2, h3, _⟩
                  · exact absurd h hk1
                  · exact ⟨h2, h3⟩
                obtain ⟨hm1, hm2⟩ := hmy
                have hl3 : decide ((TA.size : Int) - dd.Many ≤ (TB.size : Int)) = true := decide_eq_true (by omega)
                have hws : IntKind.i64.wrap ((TA.size : Int) - dd.Many) = (TA.size : Int) - dd.Many := by rw [IntKind.wrap_i64]; omega
                clear hk1 e1 e2 HPUT HTAK HSTOP HSTOP2 hfz
                go_wp2
                go_ret
                exact ⟨rfl, HBF.out⟩
end Go.Proofs.Ytneoeokfffnonac
