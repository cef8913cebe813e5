/- Printed by gendoes.py: the walk of the law WriterDoes. -/
import Derived.Test.YtneoeokfffnonacRoomA
import Derived.Test.YtneoeokfffnonacCmpW
import Derived.Test.YtneoeokfffnonacWrKn
import Derived.Test.YtneoeokfffnonacScrT
set_option linter.unusedVariables false
set_option linter.unusedSimpArgs false
namespace Go.Proofs.Ytneoeokfffnonac
open Go.RowKit
theorem SameChars_d (a b : Option Addr) (capa capb : Nat) (l : List Ch) (n : Nat) (hn : l.length = n) (w : World) (hs : SlCh w a capa l) (hs' : SlCh w b capb l) :
    Calls Try.prog 25 #[.slice a n capa, .slice b n capb] w fun e w' => e = .returned (.bool true) ∧ Below w.heap.size w w' := by
  subst hn
  refine (SameChars_c a b capa capb l l w hs hs').mono ?_
  rintro e w' ⟨rfl, hb⟩
  exact ⟨by simp, hb⟩
/-- What a writer and its Scribe tell, wherever they are asked: the same. -/
structure Tell (w : World) (gx gy : Nat) (n le : Int) (O NC NB : Nat) (S : ByteArray) (ds : List Dd) (cs bs : List Ch) : Prop where
  seen : ∀ W, Later w W → Calls Try.prog 20 #[.pointer (some ⟨gx, 0, none⟩)] W fun e w' => e = .returned (.int .i64 n) ∧ w' = W
  least : ∀ W, Later w W → Calls Try.prog 27 #[.pointer (some ⟨gx, 0, none⟩)] W fun e w' => e = .returned (.int .i64 le) ∧ Below W.heap.size W w'
  leastS : ∀ W, Later w W → Calls Try.prog 28 #[.pointer (some ⟨gy, 0, none⟩)] W fun e w' => e = .returned (.int .i64 le) ∧ Below W.heap.size W w'
  opn : ∀ W, Later w W → Calls Try.prog 21 #[.pointer (some ⟨gx, 0, none⟩)] W fun e w' => ∃ a' cap', e = .returned (.slice a' O cap') ∧ SlDd w' a' cap' ds ∧ Below W.heap.size W w'
  text : ∀ W, Later w W → Calls Try.prog 19 #[.pointer (some ⟨gx, 0, none⟩)] W fun e w' => e = .returned (.string S) ∧ Below W.heap.size W w'
  textS : ∀ W, Later w W → Calls Try.prog 29 #[.pointer (some ⟨gy, 0, none⟩)] W fun e w' => e = .returned (.string S) ∧ Below W.heap.size W w'
  chars : ∀ W, Later w W → Calls Try.prog 18 #[.pointer (some ⟨gx, 0, none⟩)] W fun e w' => ∃ a' cap', e = .returned (.slice a' NC cap') ∧ SlCh w' a' cap' cs ∧ Below W.heap.size W w'
  charsS : ∀ W, Later w W → Calls Try.prog 30 #[.pointer (some ⟨gy, 0, none⟩)] W fun e w' => ∃ a' cap', e = .returned (.slice a' NC cap') ∧ SlCh w' a' cap' cs ∧ Below W.heap.size W w'
  known : ∀ W, Later w W → Calls Try.prog 31 #[.pointer (some ⟨gx, 0, none⟩)] W fun e w' => ∃ a' cap', e = .returned (.slice a' NB cap') ∧ SlCh w' a' cap' bs ∧ Below W.heap.size W w'
  c1 : w.cell? ⟨gy, 1, none⟩ = some (.int .i64 n)
  c4 : ∃ oa oc, w.cell? ⟨gy, 4, none⟩ = some (.slice oa O oc) ∧ SlDd w oa oc ds
  c3 : ∃ a c, w.cell? ⟨gy, 3, none⟩ = some (.slice a NB c) ∧ SlCh w a c bs
  lo : ds.length = O
  lc : cs.length = NC
  lb : bs.length = NB
theorem tells {w : World} {base : Nat} {F : Nat → Prop} {g : Nat} {gw gs : Nat → Nat} {d : DkM} {bare : Bool} (h : RmAt w base F g gw gs d d.scs bare) (ho : d.Ok) (hs : d.Sm 1000) {j : Nat} (hj : j < 4) {m : WM} (hw : d.W j = some m) :
    ∃ n le O NC NB S ds cs bs, Tell w (gw j) (gs j) n le O NC NB S ds cs bs := by
  have hwn : d.writer (j : Int) = some m := by unfold DkM.writer; rw [if_pos (isWriter_nat hj)]; simpa using hw
  obtain ⟨hx, hme, hW, tt, hin⟩ := ho.of_writer hwn
  obtain ⟨FW, hFW, _, hwr, _⟩ := h.wrZ hj hw
  obtain ⟨FSk, hFS, _, hsc, _⟩ := h.scZ hj (show d.scs j = some m.sc from by unfold DkM.scs; rw [hw]; rfl)
  have hos : m.opn.length ≤ 1000 := hs.writer hwn
  have hcl := hin.chars_len ho.lm
  have hbl := hin.base_len ho.lm
  have hdl : m.ds.length = m.opn.length := by unfold WM.ds; rw [List.length_map]
  have hkn : knownOf (clrOf m.me) m.opn m.chars = m.base := hin.known ho.lm _ (clr_undo (by rw [hme]; exact hx))
  obtain ⟨a, cap, oa, ocap, r0, r1, r2, r3, _, _⟩ := hsc.rows
  refine ⟨(m.seen : Int), m.least, m.opn.length, m.chars.length, m.base.length, strOfNums (viewN m.seen m.me m.chars), m.ds, m.chars, m.base,
    fun W hl => WSeen_c (hwr.later hl), fun W hl => WLeast_c (hwr.later hl) (by show m.opn.length ≤ 1000000; omega), fun W hl => SLeast_c (hsc.later hl) m.ns rfl (by show m.ds.length ≤ 1000000; omega), fun W hl => ?_,
    fun W hl => WText_c (hwr.later hl) (by show m.chars.length ≤ 1000; omega), fun W hl => SText_c (hsc.later hl) hin.chain (hin.base_gone ho.lm) (by show m.base.length ≤ 1000; omega) (by show m.ds.length ≤ 1000000; omega), fun W hl => ?_, fun W hl => ?_, fun W hl => ?_, hsc.c1, ⟨oa, ocap, by rw [← hdl]; exact r1, r3.slDd⟩, ⟨a, cap, r0, r2.slCh⟩, hdl, rfl, rfl⟩
  · refine (WOpen_c (hwr.later hl) (by show m.opn.length ≤ 1000000; omega)).mono ?_
    rintro e w' ⟨a', cap', rfl, ho', hb'⟩
    exact ⟨a', cap', rfl, OwnRow.slDd (by rw [hdl]; exact ho'), hb'⟩
  · refine (WChars_c (hwr.later hl) (by show m.chars.length ≤ 1000; omega)).mono ?_
    rintro e w' ⟨a', cap', rfl, ho', hb'⟩
    exact ⟨a', cap', rfl, ho'.slCh, hb'⟩
  · refine (SChars_c (hsc.later hl) hin.chain (hin.base_gone ho.lm) (by show m.base.length ≤ 1000; omega) (by show m.ds.length ≤ 1000000; omega)).mono ?_
    rintro e w' ⟨a', cap', rfl, hs', _, hb'⟩
    exact ⟨a', cap', rfl, hs', hb'⟩
  · refine (WKnown_c (hwr.later hl) (by show m.chars.length ≤ 1000; omega) (by show m.opn.length ≤ 1000000; omega) (by show isWriter m.me = true; rw [hme]; exact hx)).mono ?_
    rintro e w' ⟨a', cap', rfl, ho', hb'⟩
    have e2 : knownOf (clrOf m.v.me) m.v.os m.v.L = m.base := hkn
    rw [e2] at ho' ⊢
    exact ⟨a', cap', rfl, ho'.slCh, hb'⟩
set_option maxRecDepth 100000 in
set_option maxHeartbeats 4000000 in
theorem WriterDoes_c (a : Option Addr) (cap : Nat) (l : List RStep) (w : World) (hs : SlRs w a cap l) (hok : ∀ x ∈ l, x.ok) :
    Calls Try.prog 4 #[.slice a l.length cap] w fun e w' => e = .returned (.bool true) ∧ Below w.heap.size w w' := by
  have HOK := Lib.hid hok
  clear hok
  go_enter Try.func4, Try.ntmps4
  go_wp2_with fail
  refine (writerBegun_c w).mono ?_
  rintro e w1 ⟨rfl, hb1⟩
  have HS1 := Lib.hid (hs.below hb1)
  have HB1 := Lib.hid hb1
  clear hs hb1
  go_wp2_with fail
  refine (greatRoom_c a cap l w1 HS1.out).mono ?_
  rintro e w2 ⟨r, rfl, rfl, hr⟩
  cases r
  case true =>
    go_wp2
    go_ret
    exact ⟨rfl, HB1.out⟩
  obtain ⟨hl160, _⟩ := hr rfl
  clear hr
  go_wp2_with fail
  refine (newRoom_c w2).mono ?_
  rintro e w3 ⟨F0, g, gw0, gs0, rfl, hR, hb3⟩
  have HI0 := Lib.hid (show DkM.new.Ok ∧ DkM.new.Sm 0 ∧ RW w2 w2.heap.size g DkM.new w3 from ⟨DkM.new_ok, DkM.new_sm, ⟨_, _, _, hR⟩, hb3⟩)
  clear hR hb3
  go_wp2
  go_loopw [4] (fun s4 wr => ∃ (k : Nat) (d : DkM), k ≤ l.length ∧ s4 = (.int .i64 k) ∧ Hid (d.Ok ∧ d.Sm k ∧ RW w2 w2.heap.size g d wr)) (fun s4 _ => l.length - (intOf s4).toNat)
  case atStart => exact ⟨0, DkM.new, Nat.zero_le _, rfl, HI0⟩
  case round =>
    obtain ⟨k, d, hk, rfl, HI⟩ := hrel
    clear HI0
    by_cases hlt : k < l.length
    · have HSr := Lib.hid (HS1.out.below HI.out.2.2.2)
      obtain ⟨bb, off, rfl, hq⟩ := HSr.out.nth hlt
      have HX := Lib.hid (HOK.out l[k] (List.getElem_mem hlt))
      have hlt' : (k : Int) < l.length := by omega
      have hk0 : (0 : Int) ≤ (k : Int) := by omega
      generalize l[k] = x at *
      obtain ⟨q0, q1, q2, q3, q4⟩ := hq
      have HO := Lib.hid HI.out.1
      have HSM := Lib.hid (show d.Sm 1000 from HI.out.2.1.mono (by omega))
      have HSK := Lib.hid HI.out.2.1
      have HRW := Lib.hid HI.out.2.2
      clear HI HSr
      go_wp2_with fail
      refine (RStep_RW HRW.out HO.out HSM.out x HX.out).mono ?_
      rintro e w6 ⟨rfl, hb6, hs6, hrw⟩
      clear q0 q1 q2 q3 q4
      cases hov : d.over x with
      | true =>
        have HB6 := Lib.hid (HB1.out.trans (hb6.mono HB1.out.size))
        clear hb6 hrw
        go_wp2
        go_ret
        exact ⟨rfl, HB6.out⟩
      | false =>
        have HI6 := Lib.hid (show (d.room false x).Ok ∧ (d.room false x).Sm (k + 1) from ⟨HO.out.room false x, HSK.out.room false x⟩)
        have HR6 := Lib.hid (hrw hov)
        clear hb6 hrw hov HRW HO HSM HSK
        generalize d.room false x = d' at *
        have HSM := Lib.hid (show d'.Sm 1000 from HI6.out.2.mono (by omega))
        go_wp2
        go_loopw [7] (fun s7 wx => ∃ q : Nat, q ≤ 4 ∧ s7 = (.int .i64 q) ∧ Hid (RW w2 w2.heap.size g d' wx)) (fun s7 _ => 4 - (intOf s7).toNat)
        case atStart => exact ⟨0, Nat.zero_le _, rfl, HR6⟩
        case round =>
          obtain ⟨q, hq, rfl, HR⟩ := hrel
          clear HR6
          by_cases hq4 : q < 4
          · have hq0 : (0 : Int) ≤ (q : Int) := by omega
            have hq4' : (q : Int) < 4 := by omega
            have hq4B : decide ((q : Int) < 4) = true := decide_eq_true hq4'
            obtain ⟨⟨F, gw, gs, hrm⟩, _⟩ := HR.out
            obtain ⟨c1, c5⟩ := hrm.cells q hq4
            have HRM := Lib.hid hrm
            clear hrm
            cases hW : d'.W q with
            | none =>
              unfold DkM.ptrN at c1 c5
              rw [hW] at c1 c5
              clear hW
              go_upto_region 17 with fail
              go_quiet (fail)
              have hL1 : Later wr (wr.drewN nq) := bl_drewN (Below.refl _ _) nq
              generalize wr.drewN nq = w7 at *
              have HR7 := Lib.hid (HR.out.later hL1)
              clear hL1 HR HRM c1 c5
              go_wp2
              exact ⟨⟨q + 1, by omega, by go_num, HR7⟩, by simp [intOf]; omega⟩
            | some m =>
              unfold DkM.ptrN at c1 c5
              rw [hW] at c1 c5
              obtain ⟨n, le, O, NC, NB, S, ds, cs, bs, ht⟩ := tells HRM.out HI6.out.1 HSM.out hq4 hW
              have HT := Lib.hid ht
              clear ht hW
              generalize gw q = gx at *
              generalize gs q = gy at *
              go_upto_region 17 with fail
              go_quiet (fail)
              have hL1 : Later wr (wr.drewN nq) := bl_drewN (Below.refl _ _) nq
              generalize wr.drewN nq = w7 at *
              have HR7 := Lib.hid (HR.out.later hL1)
              have hgy := World.block_lt_of_cell? _ _ HT.out.c1
              have d1 := (hL1.cell (p := ⟨gy, 1, none⟩) hgy).trans HT.out.c1
              obtain ⟨oa, oc, d4, hso⟩ := HT.out.c4
              obtain ⟨ba, bc, d3, hsb⟩ := HT.out.c3
              have d4 := (hL1.cell (p := ⟨gy, 4, none⟩) hgy).trans d4
              have d3 := (hL1.cell (p := ⟨gy, 3, none⟩) hgy).trans d3
              have HSO := Lib.hid (hso.below hL1)
              have HSB := Lib.hid (hsb.below hL1)
              have HL7 := Lib.hid hL1
              clear hL1 HR HRM c1 c5 hso hsb hgy
              go_upto_region 19 with fail
              have D1 := later_cell d1
              have D4 := later_cell d4
              have D3 := later_cell d3
              have hL : ∀ q : Lt w7, Later wr q.v := fun q => HL7.out.trans q.h
              have hM : ∀ q : Lt w7, Later w7 q.v := fun q => q.h
              clear d1 d4 d3
              refine wp_region_x [16, 33, 35, 41] [] [0, 1, 2, 3, 4, 5, 6, 7, 8, 9, 10, 11, 12, 13, 14, 15, 17, 18, 19, 20, 16, 21, 22, 23, 24, 25, 26, 27, 28, 29, 30, 31, 32, 34, 33, 35, 36, 37, 38, 39, 40, 42, 43, 44, 45, 41, 46, 47, 48] (by kernel_rfl) (by kernel_rfl) ?_
              iterate 1 (refine wpX_step rfl (fun K hK => ?_); go_simp; refine hK _ _ ?_; clear hK K)
              refine wpX_step rfl (fun K hK => ?_)
              go_simp
              refine ⟨_, fun p => quietM_same p (HT.out.seen p.v (hL p)), hK _ _ ?_⟩
              clear hK K
              iterate 7 (refine wpX_step rfl (fun K hK => ?_); go_simp; refine hK _ _ ?_; clear hK K)
              refine wpX_step rfl (fun K hK => ?_)
              go_simp
              refine ⟨_, fun p => quietM p (HT.out.least p.v (hL p)), hK _ _ ?_⟩
              clear hK K
              iterate 1 (refine wpX_step rfl (fun K hK => ?_); go_simp; refine hK _ _ ?_; clear hK K)
              refine wpX_step rfl (fun K hK => ?_)
              go_simp
              refine ⟨_, fun p => quietM p (HT.out.leastS p.v (hL p)), hK _ _ ?_⟩
              clear hK K
              iterate 8 (refine wpX_step rfl (fun K hK => ?_); go_simp; refine hK _ _ ?_; clear hK K)
              -- what it has open
              refine wpX_step rfl (fun K hK => ?_)
              go_simp
              intro p
              refine (HT.out.opn p.v (hL p)).mono ?_
              rintro e w8 ⟨a8, c8, rfl, ho8, hb8⟩
              refine ⟨_, rfl, hb8, hK _ _ ?_⟩
              clear hK K
              have HL8 := Lib.hid (show Later w7 w8 from Below.trans p.h (hb8.mono p.h.size))
              have HO8 := Lib.hid ho8
              have HSO8 := Lib.hid (HSO.out.below HL8.out)
              have D3 := later_cell ((HL8.out.cell (p := ⟨gy, 3, none⟩) (World.block_lt_of_cell? _ _ (D3 w7 (Later.refl _)))).trans (D3 w7 (Later.refl _)))
              clear ho8 hb8 p hL hM D1 D4
              have hL : ∀ q : Lt w8, Later wr q.v := fun q => (HL7.out.trans HL8.out).trans q.h
              have hM : ∀ q : Lt w8, Later w8 q.v := fun q => q.h
              refine wpX_step rfl (fun K hK => ?_)
              go_simp
              refine ⟨_, fun p => quietM p (SameDeeds_r a8 oa c8 oc ds O HT.out.lo p.v (HO8.out.below p.h) (HSO8.out.below p.h)), hK _ _ ?_⟩
              clear hK K
              iterate 4 (refine wpX_step rfl (fun K hK => ?_); go_simp; refine hK _ _ ?_; clear hK K)
              -- what it sees
              refine wpX_step rfl (fun K hK => ?_)
              go_simp
              refine ⟨_, fun p => quietM p (HT.out.text p.v (hL p)), hK _ _ ?_⟩
              clear hK K
              iterate 1 (refine wpX_step rfl (fun K hK => ?_); go_simp; refine hK _ _ ?_; clear hK K)
              refine wpX_step rfl (fun K hK => ?_)
              go_simp
              refine ⟨_, fun p => quietM p (HT.out.textS p.v (hL p)), hK _ _ ?_⟩
              clear hK K
              iterate 5 (refine wpX_step rfl (fun K hK => ?_); go_simp; refine hK _ _ ?_; clear hK K)
              -- its list
              refine wpX_step rfl (fun K hK => ?_)
              go_simp
              intro p
              refine (HT.out.chars p.v (hL p)).mono ?_
              rintro e w9 ⟨a9, c9, rfl, ho9, hb9⟩
              refine ⟨_, rfl, hb9, hK _ _ ?_⟩
              clear hK K
              have HL9 := Lib.hid (show Later w8 w9 from Below.trans p.h (hb9.mono p.h.size))
              have HC9 := Lib.hid ho9
              have D3 := later_cell ((HL9.out.cell (p := ⟨gy, 3, none⟩) (World.block_lt_of_cell? _ _ (D3 w8 (Later.refl _)))).trans (D3 w8 (Later.refl _)))
              clear ho9 hb9 p hL hM HO8 HSO8
              have hL : ∀ q : Lt w9, Later wr q.v := fun q => ((HL7.out.trans HL8.out).trans HL9.out).trans q.h
              have hM : ∀ q : Lt w9, Later w9 q.v := fun q => q.h
              refine wpX_step rfl (fun K hK => ?_)
              go_simp
              intro p
              refine (HT.out.charsS p.v (hL p)).mono ?_
              rintro e w10 ⟨a10, c10, rfl, ho10, hb10⟩
              refine ⟨_, rfl, hb10, hK _ _ ?_⟩
              clear hK K
              have HL10 := Lib.hid (show Later w9 w10 from Below.trans p.h (hb10.mono p.h.size))
              have HC10 := Lib.hid (HC9.out.below HL10.out)
              have HE10 := Lib.hid ho10
              have D3 := later_cell ((HL10.out.cell (p := ⟨gy, 3, none⟩) (World.block_lt_of_cell? _ _ (D3 w9 (Later.refl _)))).trans (D3 w9 (Later.refl _)))
              clear ho10 hb10 p hL hM HC9
              have hL : ∀ q : Lt w10, Later wr q.v := fun q => (((HL7.out.trans HL8.out).trans HL9.out).trans HL10.out).trans q.h
              have hM : ∀ q : Lt w10, Later w10 q.v := fun q => q.h
              refine wpX_step rfl (fun K hK => ?_)
              go_simp
              refine ⟨_, fun p => quietM p (SameChars_d a9 a10 c9 c10 cs NC HT.out.lc p.v (HC10.out.below p.h) (HE10.out.below p.h)), hK _ _ ?_⟩
              clear hK K
              iterate 8 (refine wpX_step rfl (fun K hK => ?_); go_simp; refine hK _ _ ?_; clear hK K)
              -- what it knows
              refine wpX_step rfl (fun K hK => ?_)
              go_simp
              intro p
              refine (HT.out.known p.v (hL p)).mono ?_
              rintro e w11 ⟨a11, c11, rfl, ho11, hb11⟩
              refine ⟨_, rfl, hb11, hK _ _ ?_⟩
              clear hK K
              have HL11 := Lib.hid (show Later w10 w11 from Below.trans p.h (hb11.mono p.h.size))
              have HK11 := Lib.hid ho11
              have HSB11 := Lib.hid (HSB.out.below (((HL8.out.trans HL9.out).trans HL10.out).trans HL11.out))
              clear ho11 hb11 p hL hM HC10 HE10 D3
              refine wpX_step rfl (fun K hK => ?_)
              go_simp
              refine ⟨_, fun p => quietM p (SameChars_d a11 ba c11 bc bs NB HT.out.lb p.v (HK11.out.below p.h) (HSB11.out.below p.h)), hK _ _ ?_⟩
              clear hK K
              iterate 2 (refine wpX_step rfl (fun K hK => ?_); go_simp; refine hK _ _ ?_; clear hK K)
              refine wpX_nil ?_
              intro w12 hL12
              have HR12 := Lib.hid (HR7.out.later ((((HL8.out.trans HL9.out).trans HL10.out).trans HL11.out).trans hL12))
              clear hL12 HL11 HK11 HSB11 HL10 HL9 HL8 HL7 HR7 HT HSO HSB
              go_wp2
              exact ⟨⟨q + 1, by omega, by go_num, HR12⟩, by simp [intOf]; omega⟩
          · obtain rfl : q = 4 := by omega
            have HIF := Lib.hid (show d'.Ok ∧ d'.Sm (k + 1) ∧ RW w2 w2.heap.size g d' wr from ⟨HI6.out.1, HI6.out.2, HR.out⟩)
            clear HR HI6 HSM
            go_wp2
            exact ⟨⟨k + 1, d', by omega, by go_num, HIF⟩, by simp [intOf]; omega⟩
    · obtain rfl : k = l.length := by omega
      have hltB : decide ((l.length : Int) < (l.length : Int)) = false := by simp
      have HF := Lib.hid (HB1.out.trans (HI.out.2.2.2.mono HB1.out.size))
      clear HI
      go_wp2
      go_ret
      exact ⟨rfl, HF.out⟩
end Go.Proofs.Ytneoeokfffnonac
