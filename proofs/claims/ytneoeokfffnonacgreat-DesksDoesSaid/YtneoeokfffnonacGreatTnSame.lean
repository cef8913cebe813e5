/- Printed by gentsame.py: desks and a town tell the same. -/
import Derived.Test.YtneoeokfffnonacGreatTnW
import Derived.Test.YtneoeokfffnonacGreatDkC
import Derived.Test.YtneoeokfffnonacGreatCmpW
import Derived.Test.YtneoeokfffnonacGreatWrKn
import Derived.Test.YtneoeokfffnonacGreatMixX
set_option linter.unusedVariables false
set_option linter.unusedSimpArgs false
namespace Go.Proofs.YtneoeokfffnonacGreat
open Go.RowKit
theorem SameChars_d (a b : Option Addr) (capa capb : Nat) (l : List Ch) (n : Nat) (hn : l.length = n) (w : World) (hs : SlCh w a capa l) (hs' : SlCh w b capb l) :
    Calls Tryz.prog 49 #[.slice a n capa, .slice b n capb] w fun e w' => e = .returned (.bool true) ∧ Below w.heap.size w w' := by
  subst hn
  refine (SameChars_c a b capa capb l l w hs hs').mono ?_
  rintro e w' ⟨rfl, hb⟩
  exact ⟨by simp, hb⟩
theorem SameDeeds_d (a b : Option Addr) (capa capb : Nat) (l : List Dd) (n : Nat) (hn : l.length = n) (w : World) (hs : SlDd w a capa l) (hs' : SlDd w b capb l) :
    Calls Tryz.prog 39 #[.slice a n capa, .slice b n capb] w fun e w' => e = .returned (.bool true) ∧ Below w.heap.size w w' := by
  subst hn
  exact SameDeeds_t a b capa capb l w hs hs'
/-- What a writer and its Scribe tell, wherever they are asked: the same. -/
structure TellT (w : World) (gx gy : Nat) (n le : Int) (O NB : Nat) (S : ByteArray) (ds : List Dd) (bs : List Ch) : Prop where
  seen : ∀ W, Later w W → Calls Tryz.prog 46 #[.pointer (some ⟨gx, 0, none⟩)] W fun e w' => e = .returned (.int .i64 n) ∧ w' = W
  least : ∀ W, Later w W → Calls Tryz.prog 47 #[.pointer (some ⟨gx, 0, none⟩)] W fun e w' => e = .returned (.int .i64 le) ∧ Below W.heap.size W w'
  leastS : ∀ W, Later w W → Calls Tryz.prog 36 #[.pointer (some ⟨gy, 0, none⟩)] W fun e w' => e = .returned (.int .i64 le) ∧ Below W.heap.size W w'
  opn : ∀ W, Later w W → Calls Tryz.prog 48 #[.pointer (some ⟨gx, 0, none⟩)] W fun e w' => ∃ a' cap', e = .returned (.slice a' O cap') ∧ SlDd w' a' cap' ds ∧ Below W.heap.size W w'
  text : ∀ W, Later w W → Calls Tryz.prog 15 #[.pointer (some ⟨gx, 0, none⟩)] W fun e w' => e = .returned (.string S) ∧ Below W.heap.size W w'
  textS : ∀ W, Later w W → Calls Tryz.prog 45 #[.pointer (some ⟨gy, 0, none⟩)] W fun e w' => e = .returned (.string S) ∧ Below W.heap.size W w'
  known : ∀ W, Later w W → Calls Tryz.prog 50 #[.pointer (some ⟨gx, 0, none⟩)] W fun e w' => ∃ a' cap', e = .returned (.slice a' NB cap') ∧ SlCh w' a' cap' bs ∧ Below W.heap.size W w'
  c1 : w.cell? ⟨gy, 1, none⟩ = some (.int .i64 n)
  c4 : ∃ oa oc, w.cell? ⟨gy, 4, none⟩ = some (.slice oa O oc) ∧ SlDd w oa oc ds
  c3 : ∃ a c, w.cell? ⟨gy, 3, none⟩ = some (.slice a NB c) ∧ SlCh w a c bs
  lo : ds.length = O
  lb : bs.length = NB
section
variable {w : World} {b1 b2 g gt : Nat} {F1 F2 : Nat → Prop} {gw gs : Nat → Nat} {d : DkM}
theorem tellsT (h : DkAt w b1 F1 g gw d) (k : TnAt w b2 F2 gt gs d) (ho : d.Ok) (hs : d.Sm 1000) {j : Nat} (hj : j < 4) {m : WM} (hwn : d.writer (j : Int) = some m) :
    ∃ n le O NB S ds bs, TellT w (gw j) (gs j) n le O NB S ds bs := by
  obtain ⟨hx, hme, hW, tt, hin⟩ := ho.of_writer hwn
  have hw : d.W j = some m := by simpa using hW
  obtain ⟨FW, hFW, _, hwr, _⟩ := h.wrZ hj hw
  obtain ⟨FSk, hFS, _, hsc, _⟩ := k.wrZ hj hw
  have hos : m.opn.length ≤ 1000 := hs.writer hwn
  have hcl := hin.chars_len ho.lm
  have hbl := hin.base_len ho.lm
  have hdl : m.ds.length = m.opn.length := by unfold WM.ds; rw [List.length_map]
  have hkn : knownOf (clrOf m.me) m.opn m.chars = m.base := hin.known ho.lm _ (clr_undo (by rw [hme]; exact hx))
  obtain ⟨a, cap, oa, ocap, r0, r1, r2, r3, _, _⟩ := hsc.rows
  refine ⟨(m.seen : Int), m.least, m.opn.length, m.base.length, strOfNums (viewN m.seen m.me m.chars), m.ds, m.base,
    fun W hl => WSeen_c (hwr.later hl), fun W hl => WLeast_c (hwr.later hl) (by show m.opn.length ≤ 1000000; omega), fun W hl => SLeast_c (hsc.later hl) m.ns rfl (by show m.ds.length ≤ 1000000; omega), fun W hl => ?_,
    fun W hl => WText_c (hwr.later hl) (by show m.chars.length ≤ 1000; omega), fun W hl => SText_c (hsc.later hl) hin.chain (hin.base_gone ho.lm) (by show m.base.length ≤ 1000; omega) (by show m.ds.length ≤ 1000000; omega), fun W hl => ?_, hsc.c1, ⟨oa, ocap, by rw [← hdl]; exact r1, OwnRow.slDd r3⟩, ⟨a, cap, r0, r2.slCh⟩, hdl, rfl⟩
  · refine (WOpen_c (hwr.later hl) (by show m.opn.length ≤ 1000000; omega)).mono ?_
    rintro e w' ⟨a', cap', rfl, ho', hb'⟩
    exact ⟨a', cap', rfl, OwnRow.slDd (by rw [hdl]; exact ho'), hb'⟩
  · refine (WKnown_c (hwr.later hl) (by show m.chars.length ≤ 1000; omega) (by show m.opn.length ≤ 1000000; omega) (by show isWriter m.me = true; rw [hme]; exact hx)).mono ?_
    rintro e w' ⟨a', cap', rfl, ho', hb'⟩
    have e2 : knownOf (clrOf m.v.me) m.v.os m.v.L = m.base := hkn
    rw [e2] at ho' ⊢
    exact ⟨a', cap', rfl, ho'.slCh, hb'⟩
theorem hereF_none (ho : d.Ok) {x : Int} (h : d.writer x = none) : d.lm.hereF x = false := by
  unfold LogM.hereF
  cases hx : isWriter x with
  | false => rfl
  | true =>
    obtain ⟨j, hj, rfl⟩ := writer_nat hx
    have hW : d.W j = none := by unfold DkM.writer at h; rw [if_pos hx] at h; simpa using h
    have := ho.no j hj hW
    simpa [LogM.seat] using this
theorem hereF_some (ho : d.Ok) {x : Int} {m : WM} (h : d.writer x = some m) : d.lm.hereF x = true := by
  unfold LogM.hereF
  rw [(ho.of_writer h).1, ho.here_of h]
  rfl
set_option maxRecDepth 100000 in
set_option maxHeartbeats 4000000 in
theorem sameDesks_c (h : DkAt w b1 F1 g gw d) (k : TnAt w b2 F2 gt gs d) (ho : d.Ok) (hs : d.Sm 1000) :
    Calls Tryz.prog 10 #[.pointer (some ⟨g, 0, none⟩), .pointer (some ⟨gt, 0, none⟩)] w fun e w' => e = .returned (.bool true) ∧ Below w.heap.size w w' := by
  have HD := Lib.hid h
  have HT := Lib.hid k
  have HO := Lib.hid ho
  have HSM := Lib.hid hs
  obtain ⟨gl, FL, _, c0, hlog, _⟩ := h.logZ
  obtain ⟨gb, FB, _, e0, hbook, _⟩ := k.logZ
  obtain ⟨aB, capB, r0, r2, _⟩ := hbook.rows
  have hlen := ho.lm.len
  have HLG := Lib.hid hlog
  have HBK := Lib.hid hbook
  have HSB := Lib.hid r2.slDd
  obtain ⟨le, hle⟩ : ∃ le, le = d.lm.least := ⟨_, rfl⟩
  have HL1 := Lib.hid (fun W (hl : Later w W) => show Calls Tryz.prog 41 #[.pointer (some ⟨gl, 0, none⟩)] W fun e w' => e = .returned (.int .i64 le) ∧ Below W.heap.size W w' from by
    rw [hle]; exact Least_c (hlog.later hl))
  have HL2 := Lib.hid (fun W (hl : Later w W) => show Calls Tryz.prog 42 #[.pointer (some ⟨gb, 0, none⟩)] W fun e w' => e = .returned (.int .i64 le) ∧ w' = W from by
    rw [hle]; exact BLeast_c (hbook.later hl))
  obtain ⟨S, hS⟩ : ∃ S, S = strOfNums (textF d.lm.chars) := ⟨_, rfl⟩
  have HL3 := Lib.hid (fun W (hl : Later w W) => show Calls Tryz.prog 14 #[.pointer (some ⟨gl, 0, none⟩)] W fun e w' => e = .returned (.string S) ∧ Below W.heap.size W w' from by
    rw [hS]; exact LText_c (hlog.later hl) ho.lm)
  obtain ⟨CL, hCL⟩ : ∃ CL, CL = d.lm.chars.length := ⟨_, rfl⟩
  have HGN := Lib.hid (show ∀ c ∈ d.lm.chars, i64ok c.Gone from ho.lm.gone_okB)
  have HL4 := Lib.hid (fun W (hl : Later w W) => show Calls Tryz.prog 28 #[.pointer (some ⟨gb, 0, none⟩)] W fun e w' => ∃ a' cap', e = .returned (.slice a' CL cap') ∧ SlCh w' a' cap' d.lm.chars ∧ Below W.heap.size W w' from by
    refine (BChars_c (hbook.later hl) ho.lm).mono ?_
    rintro e w' ⟨a', cap', rfl, hO, hb⟩
    exact ⟨a', cap', by rw [hCL], hO.slCh, hb⟩)
  have HL5 := Lib.hid (fun W a cap (hc : SlCh W a cap d.lm.chars) => show Calls Tryz.prog 43 #[.slice a CL cap] W fun e w' => e = .returned (.string S) ∧ Below W.heap.size W w' from by
    rw [hS, hCL]; exact RTextOf_c a cap _ W hc HGN.out)
  obtain ⟨LN, hLN⟩ : ∃ LN, d.lm.L.length = LN := ⟨_, rfl⟩
  have HL6 := Lib.hid (fun W (hl : Later w W) => show Calls Tryz.prog 40 #[.pointer (some ⟨g, 0, none⟩)] W fun e w' => ∃ a' cap', e = .returned (.slice a' LN cap') ∧ SlDd w' a' cap' d.lm.L ∧ Below W.heap.size W w' from by
    refine (deedsOf_c (h.later hl) ho).mono ?_
    rintro e w' ⟨a', cap', rfl, hO, hb⟩
    exact ⟨a', cap', by rw [hLN], OwnRow.slDd hO, hb⟩)
  have HHR := Lib.hid (fun W (hl : Later w W) (x : Int) => Here_c (hlog.later hl) x)
  rw [hLN] at r0
  have HLN := Lib.hid hLN
  clear h k ho hs hlog hbook r2 hle hS hCL hLN
  go_enter Tryz.func10, Tryz.ntmps10
  go_upto_region 1 with fail
  have C0 := later_cell c0
  have E0 := later_cell e0
  have R0 := later_cell r0
  have hL : ∀ q : Lt w, Later w q.v := fun q => q.h
  refine wp_region_x [1, 34] [] [0, 2, 3, 4, 5, 6, 7, 8, 1, 9, 10, 11, 12, 13, 14, 15, 16, 17, 18, 19, 20, 21, 22, 23, 24, 25, 26, 27, 28, 29, 30, 31, 32, 33, 34, 35, 36, 37] (by kernel_rfl) (by kernel_rfl) ?_
  iterate 8 (refine wpX_step rfl (fun K hK => ?_); go_simp; refine hK _ _ ?_; clear hK K)
  refine wpX_step rfl (fun K hK => ?_)
  go_simp
  intro p
  refine (HL6.out p.v (hL p)).mono ?_
  rintro e w1 ⟨aO, cO, rfl, hoO, hb1⟩
  refine ⟨_, rfl, hb1, hK _ _ ?_⟩
  clear hK K
  have HLA := Lib.hid (show Later w w1 from (hL p).trans hb1)
  have HOO := Lib.hid hoO
  clear hoO hb1 p hL C0 E0 R0
  have C0 := later_cell ((HLA.out.cell (p := ⟨g, 0, none⟩) HD.out.lt).trans c0)
  have E0 := later_cell ((HLA.out.cell (p := ⟨gt, 0, none⟩) HT.out.lt).trans e0)
  have hL : ∀ q : Lt w1, Later w q.v := fun q => HLA.out.trans q.h
  have hM : ∀ q : Lt w1, Later w1 q.v := fun q => q.h
  refine wpX_step rfl (fun K hK => ?_)
  go_simp
  refine ⟨_, fun p => quietM p (SameDeeds_d aO aB cO capB d.lm.L LN HLN.out p.v (HOO.out.below p.h) (HSB.out.below (hL p))), hK _ _ ?_⟩
  clear hK K
  iterate 6 (refine wpX_step rfl (fun K hK => ?_); go_simp; refine hK _ _ ?_; clear hK K)
  refine wpX_step rfl (fun K hK => ?_)
  go_simp
  refine ⟨_, fun p => quietM p (HL1.out p.v (hL p)), hK _ _ ?_⟩
  clear hK K
  iterate 4 (refine wpX_step rfl (fun K hK => ?_); go_simp; refine hK _ _ ?_; clear hK K)
  refine wpX_step rfl (fun K hK => ?_)
  go_simp
  refine ⟨_, fun p => quietM_same p (HL2.out p.v (hL p)), hK _ _ ?_⟩
  clear hK K
  iterate 7 (refine wpX_step rfl (fun K hK => ?_); go_simp; refine hK _ _ ?_; clear hK K)
  refine wpX_step rfl (fun K hK => ?_)
  go_simp
  refine ⟨_, fun p => quietM p (HL3.out p.v (hL p)), hK _ _ ?_⟩
  clear hK K
  iterate 4 (refine wpX_step rfl (fun K hK => ?_); go_simp; refine hK _ _ ?_; clear hK K)
  refine wpX_step rfl (fun K hK => ?_)
  go_simp
  intro p
  refine (HL4.out p.v (hL p)).mono ?_
  rintro e w2 ⟨aC, cC, rfl, hoC, hb2⟩
  refine ⟨_, rfl, hb2, hK _ _ ?_⟩
  clear hK K
  have HLC := Lib.hid (show Later w w2 from (hL p).trans hb2)
  have HOC := Lib.hid hoC
  clear hoC hb2 p hL hM C0 E0
  refine wpX_step rfl (fun K hK => ?_)
  go_simp
  refine ⟨_, fun p => quietM p (HL5.out p.v aC cC (HOC.out.below p.h)), hK _ _ ?_⟩
  clear hK K
  iterate 2 (refine wpX_step rfl (fun K hK => ?_); go_simp; refine hK _ _ ?_; clear hK K)
  refine wpX_nil ?_
  intro w3 hL3
  have HB3 := Lib.hid (show Below w.heap.size w w3 from HLC.out.trans hL3)
  clear hL3 HLC HOC HLA HOO HL1 HL2 HL3 HL4 HL5 HL6 HSB HGN HLN r0
  go_wp2
  go_loopw [5] (fun s5 wr => ∃ q : Nat, q ≤ 6 ∧ s5 = (.int .i64 ((q : Int) - 1)) ∧ Hid (Below w.heap.size w wr)) (fun s5 _ => 6 - (intOf s5 + 1).toNat)
  case atStart => exact ⟨0, by omega, rfl, HB3⟩
  case round =>
    obtain ⟨q, hq, rfl, HB⟩ := hrel
    clear HB3
    obtain ⟨x, hx⟩ : ∃ x, (q : Int) - 1 = x := ⟨_, rfl⟩
    rw [hx]
    have HXQ := Lib.hid hx
    by_cases hq6 : q < 6
    · have hxB : decide (x ≤ 4) = true := decide_eq_true (by omega)
      have hwx : IntKind.i64.wrap (x + 1) = ((q + 1 : Nat) : Int) - 1 := by rw [IntKind.wrap_i64]; omega
      have HWX := Lib.hid hwx
      have HQ6 := Lib.hid hq6
      clear hx hwx hq6
      have HDr := Lib.hid (HD.out.later HB.out)
      have HTr := Lib.hid (HT.out.later HB.out)
      have c0 := (HB.out.cell (p := ⟨g, 0, none⟩) HD.out.lt).trans c0
      go_wp2_with fail
      refine (DWriter_c HDr.out x).mono ?_
      rintro e wr2 ⟨rfl, rfl⟩
      cases hw : d.writer x with
      | none =>
        rw [DkM.ptr_none hw]
        have HHF := Lib.hid (show Calls Tryz.prog 44 #[.pointer (some ⟨gl, 0, none⟩), .int .i64 x] wr2 fun e w' => e = .returned (.bool false) ∧ w' = wr2 from by
          have := HHR.out wr2 HB.out x
          rw [hereF_none HO.out hw] at this; exact this)
        cases hiw : isWriter x with
        | false =>
          have HIW := Lib.hid hiw
          clear hw hiw
          go_wp2_with fail
          refine (IsWriter_c x wr2).mono ?_
          rintro e w4 ⟨rfl, rfl⟩
          rw [HIW.out]
          go_wp2_with fail
          refine HHF.out.mono ?_
          rintro e w5 ⟨rfl, rfl⟩
          have HB5 := HB
          clear HB HDr HTr HHF
          go_wp2
          exact ⟨⟨q + 1, by have := HQ6.out; omega, by
            have h2 := HWX.out
            have h3 : wrap64 (x + 1) = ((q + 1 : Nat) : Int) - 1 := by have h4 := HXQ.out; have h0 := HQ6.out; unfold wrap64; omega
            have h4 := HXQ.out
            first | (rw [h3]; done) | (rw [h2]; done) | (show Value.int .i64 _ = Value.int .i64 _; congr 1; omega), HB5⟩, by
            have h0 := HQ6.out
            have h2 := HWX.out
            have h3 : wrap64 (x + 1) = ((q + 1 : Nat) : Int) - 1 := by have h4 := HXQ.out; have h0 := HQ6.out; unfold wrap64; omega
            have h4 := HXQ.out
            simp only [intOf]
            first | omega | (rw [h3]; omega) | (rw [h2]; omega)⟩
        | true =>
          obtain ⟨j, hj, hxj⟩ := writer_nat hiw
          have hij : isWriter (j : Int) = true := isWriter_nat hj
          have hwj : d.W j = none := by
            have e := hw; rw [hxj] at e; unfold DkM.writer at e; rw [if_pos hij] at e; simpa using e
          obtain ⟨_, _, _, rr⟩ := HTr.out.rows
          have c1 := rr.no j hj hwj
          have hj0 : (0 : Int) ≤ (j : Int) := by omega
          have hj4 : (j : Int) < 4 := by omega
          clear rr hwj hiw hw
          subst hxj
          go_wp2_with fail
          refine (IsWriter_c (j : Int) wr2).mono ?_
          rintro e w4 ⟨rfl, rfl⟩
          rw [hij]
          go_wp2_with fail
          refine HHF.out.mono ?_
          rintro e w5 ⟨rfl, rfl⟩
          have HB5 := HB
          clear HB HDr HTr HHF
          go_wp2
          exact ⟨⟨q + 1, by have := HQ6.out; omega, by
            have h2 := HWX.out
            have h3 : wrap64 ((j : Int) + 1) = ((q + 1 : Nat) : Int) - 1 := by have h4 := HXQ.out; have h0 := HQ6.out; unfold wrap64; omega
            have h4 := HXQ.out
            first | (rw [h3]; done) | (rw [h2]; done) | (show Value.int .i64 _ = Value.int .i64 _; congr 1; omega), HB5⟩, by
            have h0 := HQ6.out
            have h2 := HWX.out
            have h3 : wrap64 ((j : Int) + 1) = ((q + 1 : Nat) : Int) - 1 := by have h4 := HXQ.out; have h0 := HQ6.out; unfold wrap64; omega
            have h4 := HXQ.out
            simp only [intOf]
            first | omega | (rw [h3]; omega) | (rw [h2]; omega)⟩
      | some m =>
        obtain ⟨hiw, _, hW0, _⟩ := HO.out.of_writer hw
        obtain ⟨j, hj, hxj⟩ := writer_nat hiw
        have hij : isWriter (j : Int) = true := isWriter_nat hj
        subst hxj
        rw [DkM.ptr_some hw]
        have HHF := Lib.hid (fun W (hl : Later wr2 W) => show Calls Tryz.prog 44 #[.pointer (some ⟨gl, 0, none⟩), .int .i64 (j : Int)] W fun e w' => e = .returned (.bool true) ∧ w' = W from by
          have := HHR.out W (HB.out.trans (hl.mono HB.out.size)) (j : Int)
          rw [hereF_some HO.out hw] at this; exact this)
        obtain ⟨n, le, O, NB, S, ds, bs, ht⟩ := tellsT HDr.out HTr.out HO.out HSM.out hj hw
        have HTL := Lib.hid ht
        obtain ⟨FSk, _, c1, _, _⟩ := HTr.out.wrZ hj (show d.W j = some m by simpa using hW0)
        have hj0 : (0 : Int) ≤ (j : Int) := by omega
        have hj4 : (j : Int) < 4 := by omega
        simp only [Int.toNat_natCast]
        clear ht hw hW0 hiw
        generalize gw j = gx at *
        generalize gs j = gy at *
        go_wp2_with fail
        refine (IsWriter_c (j : Int) wr2).mono ?_
        rintro e w4 ⟨rfl, rfl⟩
        rw [hij]
        go_upto_region 11 with fail
        obtain ⟨oa, oc, d4, hso⟩ := HTL.out.c4
        obtain ⟨ba, bc, d3, hsb⟩ := HTL.out.c3
        have d1 := HTL.out.c1
        have HSO := Lib.hid hso
        have HSB := Lib.hid hsb
        have D0 := later_cell c0
        have D1 := later_cell d1
        have D4 := later_cell d4
        have D3 := later_cell d3
        have hL : ∀ q : Lt w4, Later w4 q.v := fun q => q.h
        clear d1 d4 hso hsb c1
        refine wp_region_x [36, 46] [] [0, 1, 2, 3, 4, 5, 6, 7, 8, 9, 10, 11, 12, 13, 14, 15, 16, 17, 18, 19, 20, 21, 22, 23, 24, 25, 26, 27, 28, 29, 30, 31, 32, 33, 34, 35, 37, 38, 39, 40, 36, 41, 42, 43, 44, 45, 47, 48, 49, 50, 46, 51, 52, 53] (by kernel_rfl) (by kernel_rfl) ?_
        iterate 8 (refine wpX_step rfl (fun K hK => ?_); go_simp; refine hK _ _ ?_; clear hK K)
        refine wpX_step rfl (fun K hK => ?_)
        go_simp
        refine ⟨_, fun p => quietM_same p (HHF.out p.v (hL p)), hK _ _ ?_⟩
        clear hK K
        iterate 4 (refine wpX_step rfl (fun K hK => ?_); go_simp; refine hK _ _ ?_; clear hK K)
        refine wpX_step rfl (fun K hK => ?_)
        go_simp
        refine ⟨_, fun p => quietM p (HTL.out.text p.v (hL p)), hK _ _ ?_⟩
        clear hK K
        iterate 1 (refine wpX_step rfl (fun K hK => ?_); go_simp; refine hK _ _ ?_; clear hK K)
        refine wpX_step rfl (fun K hK => ?_)
        go_simp
        refine ⟨_, fun p => quietM p (HTL.out.textS p.v (hL p)), hK _ _ ?_⟩
        clear hK K
        iterate 4 (refine wpX_step rfl (fun K hK => ?_); go_simp; refine hK _ _ ?_; clear hK K)
        refine wpX_step rfl (fun K hK => ?_)
        go_simp
        refine ⟨_, fun p => quietM_same p (HTL.out.seen p.v (hL p)), hK _ _ ?_⟩
        clear hK K
        iterate 8 (refine wpX_step rfl (fun K hK => ?_); go_simp; refine hK _ _ ?_; clear hK K)
        refine wpX_step rfl (fun K hK => ?_)
        go_simp
        refine ⟨_, fun p => quietM p (HTL.out.least p.v (hL p)), hK _ _ ?_⟩
        clear hK K
        iterate 1 (refine wpX_step rfl (fun K hK => ?_); go_simp; refine hK _ _ ?_; clear hK K)
        refine wpX_step rfl (fun K hK => ?_)
        go_simp
        refine ⟨_, fun p => quietM p (HTL.out.leastS p.v (hL p)), hK _ _ ?_⟩
        clear hK K
        iterate 8 (refine wpX_step rfl (fun K hK => ?_); go_simp; refine hK _ _ ?_; clear hK K)
        refine wpX_step rfl (fun K hK => ?_)
        go_simp
        intro p
        refine (HTL.out.opn p.v (hL p)).mono ?_
        rintro e w8 ⟨a8, c8, rfl, ho8, hb8⟩
        refine ⟨_, rfl, hb8, hK _ _ ?_⟩
        clear hK K
        have HL8 := Lib.hid (show Later w4 w8 from Below.trans p.h (hb8.mono p.h.size))
        have HO8 := Lib.hid ho8
        have HSO8 := Lib.hid (HSO.out.below HL8.out)
        clear ho8 hb8 p hL D0 D1 D4 D3
        have D3 := later_cell ((HL8.out.cell (p := ⟨gy, 3, none⟩) (World.block_lt_of_cell? _ _ d3)).trans d3)
        have hL : ∀ q : Lt w8, Later w4 q.v := fun q => HL8.out.trans q.h
        have hM : ∀ q : Lt w8, Later w8 q.v := fun q => q.h
        refine wpX_step rfl (fun K hK => ?_)
        go_simp
        refine ⟨_, fun p => quietM p (SameDeeds_d a8 oa c8 oc ds O HTL.out.lo p.v (HO8.out.below p.h) (HSO8.out.below p.h)), hK _ _ ?_⟩
        clear hK K
        iterate 8 (refine wpX_step rfl (fun K hK => ?_); go_simp; refine hK _ _ ?_; clear hK K)
        refine wpX_step rfl (fun K hK => ?_)
        go_simp
        intro p
        refine (HTL.out.known p.v (hL p)).mono ?_
        rintro e w11 ⟨a11, c11, rfl, ho11, hb11⟩
        refine ⟨_, rfl, hb11, hK _ _ ?_⟩
        clear hK K
        have HL11 := Lib.hid (show Later w4 w11 from (hL p).trans hb11)
        have HK11 := Lib.hid ho11
        have HSB11 := Lib.hid (HSB.out.below HL11.out)
        clear ho11 hb11 p hL hM D3 HO8 HSO8
        refine wpX_step rfl (fun K hK => ?_)
        go_simp
        refine ⟨_, fun p => quietM p (SameChars_d a11 ba c11 bc bs NB HTL.out.lb p.v (HK11.out.below p.h) (HSB11.out.below p.h)), hK _ _ ?_⟩
        clear hK K
        iterate 2 (refine wpX_step rfl (fun K hK => ?_); go_simp; refine hK _ _ ?_; clear hK K)
        refine wpX_nil ?_
        intro w12 hL12
        have HB12 := Lib.hid (HB.out.trans ((HL11.out.trans hL12).mono HB.out.size))
        clear hL12 HL11 HL8 HK11 HSB11 HTL HHF HSO HSB HB HDr HTr
        go_wp2
        exact ⟨⟨q + 1, by have := HQ6.out; omega, by
            have h2 := HWX.out
            have h3 : wrap64 ((j : Int) + 1) = ((q + 1 : Nat) : Int) - 1 := by have h4 := HXQ.out; have h0 := HQ6.out; unfold wrap64; omega
            have h4 := HXQ.out
            first | (rw [h3]; done) | (rw [h2]; done) | (show Value.int .i64 _ = Value.int .i64 _; congr 1; omega), HB12⟩, by
            have h0 := HQ6.out
            have h2 := HWX.out
            have h3 : wrap64 ((j : Int) + 1) = ((q + 1 : Nat) : Int) - 1 := by have h4 := HXQ.out; have h0 := HQ6.out; unfold wrap64; omega
            have h4 := HXQ.out
            simp only [intOf]
            first | omega | (rw [h3]; omega) | (rw [h2]; omega)⟩
    · have hxB : decide (x ≤ 4) = false := decide_eq_false (by omega)
      clear hx
      go_wp2
      go_ret
      exact ⟨rfl, HB.out⟩
end
end Go.Proofs.YtneoeokfffnonacGreat
