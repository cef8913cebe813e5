/- The walks of desks' methods. -/
import Derived.Test.YtneoeokfffnonacDkObj
import Derived.Test.YtneoeokfffnonacWrPT
import Derived.Test.YtneoeokfffnonacMixH
import Derived.Test.YtneoeokfffnonacPlainD
import Derived.Test.YtneoeokfffnonacLogW2
set_option linter.unusedVariables false
set_option linter.unusedSimpArgs false
namespace Go.Proofs.Ytneoeokfffnonac
open Go.RowKit
section
variable {w : World} {base : Nat} {F : Nat → Prop} {g : Nat} {gw : Nat → Nat} {d : DkM}
theorem writer_nat {x : Int} (h : isWriter x = true) : ∃ j : Nat, j < 4 ∧ x = (j : Int) := ⟨x.toNat, (toNat_lt h).1, (toNat_lt h).2.symm⟩
theorem DWriter_c (h : DkAt w base F g gw d) (x : Int) : Calls Try.prog 44 #[.pointer (some ⟨g, 0, none⟩), .int .i64 x] w fun e w' => e = .returned (d.ptr gw x) ∧ w' = w := by
  obtain ⟨gl, FL, FW, r⟩ := h.rows
  cases hx : isWriter x
  · have HP := Lib.hid (show d.ptr gw x = .pointer none from DkM.ptr_none (by unfold DkM.writer; rw [hx]; rfl) gw)
    clear r h
    go_enter Try.func44, Try.ntmps44
    go_wp2_with (go_at_call 96; refine (Writer_c _ _).mono ?_; rintro e w' ⟨rfl, rfl⟩)
    go_ret
    exact ⟨by rw [HP.out]; rfl, rfl⟩
  · obtain ⟨j, hj, rfl⟩ := writer_nat hx
    have HP := Lib.hid (show d.ptr gw (j : Int) = d.ptrN gw j from by have := DkM.ptr_N (d := d) hx gw; simpa using this)
    have c := r.cellW j hj
    have hj0 : (0 : Int) ≤ (j : Int) := by omega
    have hj4 : (j : Int) < 4 := by omega
    clear r h
    go_enter Try.func44, Try.ntmps44
    go_wp2_with (go_at_call 96; refine (Writer_c _ _).mono ?_; rintro e w' ⟨rfl, rfl⟩)
    go_ret
    exact ⟨by rw [HP.out]; rfl, rfl⟩

/-- What a step of desks leaves behind. -/
def DPost (w : World) (base : Nat) (F : Nat → Prop) (g : Nat) (gw : Nat → Nat) (d d' : DkM) (w' : World) : Prop :=
  ∃ F' gw', DkAt w' base F' g gw' d' ∧ Moves F w w' ∧ Grows F w F' ∧ ∀ j, d.W j ≠ none → gw' j = gw j
theorem DPost.same {w' : World} (h : DkAt w' base F g gw d) (hm : Moves F w w') : DPost w base F g gw d d w' := ⟨F, gw, h, hm, fun _ hk => .inl hk, fun _ _ => rfl⟩
theorem LogM.join_code {m : LogM} {x : Int} (h : (m.joinF x).2.2 ≠ 0) : (m.joinF x).1 = m := by
  unfold LogM.joinF at *
  split
  · rename_i h1
    rw [if_pos h1] at h
    split
    · rfl
    · rename_i h2; rw [if_neg h2] at h; exact absurd rfl h
  · rfl
theorem LogM.Ok.fault {m : LogM} (h : m.Ok) : listFault m.chars (m.L.length : Int) = 0 := (lists_check m.L (by have := h.len; omega) (fun j hj => let d := h.deeds j hj; ⟨d.w, d.no, d.s1⟩) h.all).1
theorem LogM.Ok.shut {m : LogM} (h : m.Ok) : ∀ c ∈ m.chars, c.In ≠ 1073741824 := by
  intro c hc
  have hc' : c ∈ pre m.L m.L.length := by rw [pre_len]; exact hc
  have g := (h.lok.made m.L.length (Nat.le_refl _)).good c hc'
  have := h.len
  have := g.in2
  omega

def JoinPost (w : World) (base : Nat) (F : Nat → Prop) (g : Nat) (gw : Nat → Nat) (d : DkM) (x : Int) (e : Ending) (w' : World) : Prop :=
  e = .returned (.int .i64 (d.lm.joinF x).2.2) ∧ DPost w base F g gw d (if (d.lm.joinF x).2.2 = 0 then d.set (d.lm.joinF x).1 x (some (WM.new d.lm x)) else d) w'

set_option maxRecDepth 100000 in
theorem Djoin_c (h : DkAt w base F g gw d) (ho : d.Ok) (x : Int) : Calls Try.prog 91 #[.pointer (some ⟨g, 0, none⟩), .int .i64 x] w (JoinPost w base F g gw d x) := by
  obtain ⟨gl, FL, hFL, c0, hlog, put⟩ := h.logZ
  have HO := Lib.hid ho
  have HJ := Lib.hid (ho.join x)
  have HLK := Lib.hid ho.lm
  have HJO := Lib.hid (ho.lm.join x)
  have HPut := Lib.hid put
  have HD := Lib.hid h
  clear put h ho
  go_enter Try.func91, Try.ntmps91
  go_wp2_with fail
  refine (Join_c hlog x HLK.out).mono ?_
  rintro e w1 ⟨rfl, hL1, hM1⟩
  obtain ⟨hD1, hm1, hg1⟩ := HPut.out w1 FL (d.lm.joinF x).1 hM1 hL1 (fun k hk => .inl hk)
  have HD1 := Lib.hid hD1; have HM1 := Lib.hid hm1; have HG1 := Lib.hid hg1
  clear hlog hL1 hM1 hD1 hm1 hg1 HPut c0 hFL
  by_cases h0 : (d.lm.joinF x).2.2 = 0
  case neg =>
    have HE := Lib.hid (LogM.join_code h0)
    have HIF := Lib.hid (show (if (d.lm.joinF x).2.2 = 0 then d.set (d.lm.joinF x).1 x (some (WM.new d.lm x)) else d) = d from if_neg h0)
    have hneB : ((d.lm.joinF x).2.2 != 0) = true := by simpa using h0
    have hneD : decide ((d.lm.joinF x).2.2 = 0) = false := decide_eq_false h0
    clear h0
    have HD2 := Lib.hid (HD1.out.congr (show d.setL (d.lm.joinF x).1 = d from by rw [HE.out]; rfl))
    have HFIN := Lib.hid (show JoinPost w base F g gw d x (.returned (.int .i64 (d.lm.joinF x).2.2)) w1 from ⟨rfl, by rw [HIF.out]; exact ⟨_, gw, HD2.out, HM1.out, HG1.out, fun _ _ => rfl⟩⟩)
    clear HD1 HE HIF HJ HJO HD2
    generalize hcode : (d.lm.joinF x).2.2 = code at *
    generalize (d.lm.joinF x).2.1 = nx at *
    clear hcode
    go_wp2
    go_ret
    exact HFIN.out
  obtain ⟨hok, hx, hh⟩ := HJ.out h0
  have HIF := Lib.hid (show (if (d.lm.joinF x).2.2 = 0 then d.set (d.lm.joinF x).1 x (some (WM.new d.lm x)) else d) = d.set (d.lm.joinF x).1 x (some (WM.new d.lm x)) from if_pos h0)
  have HC0 := Lib.hid h0
  rw [h0]
  have HNX := Lib.hid (show (d.lm.joinF x).2.1 = (d.lm.seat x).last + 1 ∧ (d.lm.joinF x).1.L = d.lm.L from by
    unfold LogM.joinF; rw [if_pos hx, if_neg (by rw [hh]; simp)]; exact ⟨rfl, rfl⟩)
  have HNN := Lib.hid (show d.W x.toNat = none from by
    cases e : d.W x.toNat with
    | none => rfl
    | some m =>
      have := HO.out.here_of (w := x) (m := m) (by unfold DkM.writer; rw [if_pos hx]; exact e)
      rw [hh] at this; cases this)
  have HCH := Lib.hid (show (d.lm.joinF x).1.chars = d.lm.chars from by unfold LogM.chars; rw [HNX.out.2])
  have HLA := Lib.hid (show 0 ≤ (d.lm.seat x).last from by
    have h1 := HLK.out.last x hx
    have h3 := cntBy_nonneg x d.lm.L
    omega)
  clear h0 hok hh HJ
  obtain ⟨j, hj, rfl⟩ := writer_nat hx
  obtain ⟨lm1, hlm⟩ : ∃ lm1, lm1 = (d.lm.joinF (j : Int)).1 := ⟨_, rfl⟩
  rw [← hlm] at HD1 HNX HCH HJO
  have HLM := Lib.hid hlm
  rw [HNX.out.1]
  clear hlm
  have hLL : lm1.L = d.lm.L := HNX.out.2
  obtain ⟨nx, hnx⟩ : ∃ nx, nx = (d.lm.seat (j : Int)).last + 1 := ⟨_, rfl⟩
  rw [← hnx]
  have HNE := Lib.hid hnx
  clear hnx
  go_upto_region 4 with fail
  obtain ⟨gl, FL, hFL, c0, hlog, put⟩ := HD1.out.logZ
  have C0 := later_cell c0
  have HLG := Lib.hid (show LogAt w1 _ FL gl lm1 from hlog)
  have hlen : d.lm.L.length ≤ 120 := HLK.out.len
  clear c0 hlog put hFL
  have hL : ∀ q : Lt w1, Later w1 q.v := fun q => q.h
  have hj0 : (0 : Int) ≤ (j : Int) := by omega
  have hj4 : (j : Int) < 4 := by omega
  refine wp_region_mixh [13, 14] [18] [0, 1, 2, 3, 4, 5, 6, 7, 8, 9, 10, 11, 12, 15, 16, 13, 14, 17, 18] (by kernel_rfl) (by kernel_rfl) ?_
  iterate 8 (refine wpMixH_step rfl (fun K hK => ?_); go_simp; refine hK _ _ ?_; clear hK K)
  refine wpMixH_step rfl (fun K hK => ?_)
  go_simp
  refine ⟨_, fun p => quietM_same p (Len_c (HLG.out.later (hL p))), hK _ _ ?_⟩
  clear hK K
  iterate 6 (refine wpMixH_step rfl (fun K hK => ?_); go_simp; refine hK _ _ ?_; clear hK K)
  refine wpMixH_step rfl (fun K hK => ?_)
  go_simp
  intro p
  refine (Chars_c (HLG.out.later (hL p)) HJO.out).mono ?_
  rintro e w2 ⟨aC, capC, rfl, hoC, hbC⟩
  refine ⟨_, rfl, hbC, hK _ _ ?_⟩
  clear hK K
  have hl2 : Later w1 w2 := (hL p).trans hbC
  have HSC := Lib.hid hoC.slCh
  have HNC := Lib.hid hoC.nilcap
  clear hoC hbC p hL
  refine wpMixH_step rfl (fun K hK => ?_)
  go_simp
  intro p
  refine (WNew_c (j : Int) nx (d.lm.L.length : Int) aC capC lm1.chars p.v (HSC.out.below p.h) HNC.out (isWriter_nat hj) (by have := HLA.out; have := HNE.out; omega) (by omega) (by rw [← hLL]; exact HJO.out.fault) HJO.out.shut).mono ?_
  rintro e w3 ⟨F2, g2, rfl, hW3, hb3⟩
  refine ⟨_, rfl, hb3, hK _ _ ?_⟩
  clear hK K
  have hl3 : Later w1 w3 := (hl2.trans p.h).trans hb3
  have HW3 := Lib.hid (hW3.mono (show w1.heap.size ≤ p.v.heap.size from (hl2.trans p.h).size))
  clear hW3 hb3 p hl2 HSC HNC
  (refine wpMixH_step rfl (fun K hK => ?_); go_simp; refine hK _ _ ?_; clear hK K)
  refine wpMixH_step rfl (fun K hK => ?_)
  have HDp := Lib.hid (fun (p : Lt w3) => HD1.out.later (hl3.trans p.h))
  have HWp := Lib.hid (fun (p : Lt w3) => HW3.out.later p.h)
  go_simp
  intro p
  have HP3 := Lib.hid p.h
  have hfz : p.v.frozen? ⟨g, 1 + j, none⟩ = false := (HDp.out p).fz (1 + j) (by omega)
  obtain ⟨_, _, _, rr⟩ := (HDp.out p).rows
  have hcell := rr.cellW j hj
  have HWq := Lib.hid (HWp.out p)
  have HLq := Lib.hid (hl3.trans p.h)
  clear rr HDp HWp hl3
  go_simp
  refine hK _ _ ?_
  clear hK K hfz hcell
  obtain ⟨q1, q2, q3⟩ := HD1.out.comeW hj HLq.out (m := WM.new d.lm (j : Int)) (F2 := F2) (g2 := g2) (by
    have h4 := HWq.out
    have e : (⟨(j : Int), (d.lm.L.length : Int), nx, lm1.chars, [], 0⟩ : WrV) = (WM.new d.lm (j : Int)).v := by
      rw [HNE.out, HCH.out]; rfl
    rw [← e]; exact h4)
  refine wpMixH_nil ?_
  intro w5 hL5
  have HD5 := Lib.hid (q1.later hL5)
  have HM5 := Lib.hid ((HM1.out.trans q2 (fun k hk h => by
    rcases HG1.out k h with h1 | h1
    · exact h1
    · omega)).trans (Moves.of_below (F := F) hL5) (fun _ _ k => k))
  have HG5 := Lib.hid (show Grows F w _ from fun k hk => by
    rcases q3 k hk with h1 | h1
    · exact HG1.out k h1
    · exact .inr (Nat.le_trans HM1.out.size h1))
  clear q1 q2 q3 hL5
  have HFIN := Lib.hid (show JoinPost w base F g gw d (j : Int) (.returned (.int .i64 0)) w5 from ⟨by rw [HC0.out], by
    rw [HIF.out]
    refine ⟨_, _, HD5.out.congr ?_, HM5.out, HG5.out, fun i hi => if_neg fun e => hi ?_⟩
    · rw [DkM.set_eq, ← HLM.out]; simp only [Int.toNat_natCast]
    · rw [e]; have := HNN.out; simpa using this⟩)
  clear HD5 HM5 HG5 HWq
  go_wp2
  go_ret
  exact HFIN.out

/-- What a step of desks leaves behind, where nobody comes. -/
def DPost' (w : World) (base : Nat) (F : Nat → Prop) (g : Nat) (gw : Nat → Nat) (d' : DkM) (w' : World) : Prop := ∃ F', DkAt w' base F' g gw d' ∧ Moves F w w' ∧ Grows F w F'
theorem DPost'.post {d' : DkM} {w' : World} (h : DPost' w base F g gw d' w') : DPost w base F g gw d d' w' := by
  obtain ⟨F', h1, h2, h3⟩ := h
  exact ⟨F', gw, h1, h2, h3, fun _ _ => rfl⟩
theorem DPost'.same {w' : World} (h : DkAt w' base F g gw d) (hm : Moves F w w') : DPost' w base F g gw d w' := ⟨F, h, hm, fun _ hk => .inl hk⟩
theorem Grows.trans {F F1 F2 : Nat → Prop} {w w1 : World} (h : Grows F w F1) (hs : w.heap.size ≤ w1.heap.size) (k : Grows F1 w1 F2) : Grows F w F2 := fun i hi => by
  rcases k i hi with h1 | h1
  · exact h i h1
  · exact .inr (Nat.le_trans hs h1)
theorem Moves.transG {F F1 : Nat → Prop} {w w1 w2 : World} (h : Moves F w w1) (hg : Grows F w F1) (k : Moves F1 w1 w2) : Moves F w w2 := h.trans k fun i hi h1 => by
  rcases hg i h1 with h2 | h2
  · exact h2
  · omega
theorem DPost'.trans {d1 d2 : DkM} {w1 w2 : World} (h : DPost' w base F g gw d1 w1) (k : ∀ F1, DkAt w1 base F1 g gw d1 → DPost' w1 base F1 g gw d2 w2) : DPost' w base F g gw d2 w2 := by
  obtain ⟨F1, h1, h2, h3⟩ := h
  obtain ⟨F2, k1, k2, k3⟩ := k F1 h1
  exact ⟨F2, k1, h2.transG h3 k2, h3.trans h2.size k3⟩

theorem Ddrop_c (h : DkAt w base F g gw d) (x : Int) (hx : isWriter x = true) : Calls Try.prog 95 #[.pointer (some ⟨g, 0, none⟩), .int .i64 x] w fun e w' => (∃ v, e = .returned v) ∧ DPost' w base F g gw (d.drop x) w' := by
  obtain ⟨gl, FL, hFL, c0, hlog, put⟩ := h.logZ
  obtain ⟨j, hj, rfl⟩ := writer_nat hx
  have HPut := Lib.hid put
  have hj0 : (0 : Int) ≤ (j : Int) := by omega
  have hj4 : (j : Int) < 4 := by omega
  clear put h
  go_enter Try.func95, Try.ntmps95
  go_wp2_with fail
  refine (Leave_c hlog (j : Int)).mono ?_
  rintro e w1 ⟨rfl, hL1, hM1⟩
  obtain ⟨hD1, hm1, hg1⟩ := HPut.out w1 FL (d.lm.leaveF (j : Int)).1 hM1 hL1 (fun k hk => .inl hk)
  have hfz := hD1.fz (1 + j) (by omega)
  obtain ⟨_, _, _, rr⟩ := hD1.rows
  have hcell := rr.cellW j hj
  obtain ⟨q1, q2⟩ := hD1.goneW hj
  have HQ := Lib.hid (show DPost' w base F g gw (d.drop (j : Int)) (w1.setCell ⟨g, 1 + j, none⟩ (.pointer none)) from ⟨_, q1.congr (by simp only [DkM.drop, DkM.set_eq, Int.toNat_natCast]), hm1.transG hg1 q2, hg1⟩)
  clear rr q1 q2 hD1 hm1 hg1 hL1 hM1 HPut hlog hFL c0
  generalize (d.lm.leaveF (j : Int)).2 = code
  go_wp2
  refine bodyPost_end (results_none rfl _ _ _) rfl ?_
  exact ⟨⟨_, rfl⟩, HQ.out⟩

def leastTo (lm : LogM) (seen i : Nat) : Int := ((lm.L.take i).drop seen).foldl (fun n d => min n d.Seen) lm.least
theorem leastTo_start (lm : LogM) (seen : Nat) : leastTo lm seen seen = lm.least := by
  unfold leastTo; rw [List.drop_eq_nil_of_le (by rw [List.length_take]; omega)]; rfl
theorem leastTo_end (lm : LogM) (seen : Nat) : leastTo lm seen lm.L.length = leastFor lm seen := by unfold leastTo leastFor; rw [List.take_length]
theorem leastTo_step (lm : LogM) (seen i : Nat) (h : seen ≤ i) (hi : i < lm.L.length) : leastTo lm seen (i + 1) = min (leastTo lm seen i) lm.L[i].Seen := by
  unfold leastTo
  rw [List.take_succ_eq_append_getElem hi, List.drop_append_of_le_length (by rw [List.length_take]; omega), List.foldl_append]; rfl

theorem Dleast_c (h : DkAt w base F g gw d) (ho : d.Ok) (x : Int) {m : WM} (hw : d.writer x = some m) : Calls Try.prog 94 #[.pointer (some ⟨g, 0, none⟩), .pointer (some ⟨(gw x.toNat), 0, none⟩)] w fun e w' => e = .returned (.int .i64 (leastFor d.lm m.seen)) ∧ Below w.heap.size w w' := by
  obtain ⟨hx, hme, hW, t, hin⟩ := ho.of_writer hw
  have hsl := hin.seen
  have hlen := ho.lm.len
  obtain ⟨gl, FL, hFL, c0, hlog, _⟩ := h.logZ
  obtain ⟨FW, _, c1, hwr, _⟩ := h.wrZ (toNat_lt hx).1 hW
  have hglt := h.lt
  have HLG := Lib.hid hlog
  have HWR := Lib.hid hwr
  have HLE := Lib.hid (leastTo_end d.lm m.seen)
  have HLS := Lib.hid (leastTo_start d.lm m.seen)
  have HST := Lib.hid (leastTo_step d.lm m.seen)
  clear hlog hwr c1 hFL h ho hW hin hw
  generalize gw x.toNat = gx at *
  go_enter Try.func94, Try.ntmps94
  go_wp2_with fail
  refine (Least_c HLG.out).mono ?_
  rintro e w1 ⟨rfl, hb1⟩
  have hsn : IntKind.i64.wrap ((m.seen : Int) + 1) = (m.seen : Int) + 1 := by rw [IntKind.wrap_i64]; omega
  have hvs : m.v.seen = (m.seen : Int) := rfl
  go_wp2_with fail
  refine (WSeen_c (HWR.out.later hb1)).mono ?_
  rintro e w2 ⟨rfl, rfl⟩
  rw [hvs]
  clear hvs
  go_wp2
  go_loopw [5, 6] (fun s5 s6 wr => ∃ i : Nat, m.seen ≤ i ∧ i ≤ d.lm.L.length ∧ s6 = (.int .i64 ((i : Int) + 1)) ∧ s5 = (.int .i64 (leastTo d.lm m.seen i)) ∧ Below w.heap.size w wr) (fun _ s6 _ => d.lm.L.length + 1 - (intOf s6).toNat)
  case atStart => exact ⟨m.seen, Nat.le_refl _, hsl, rfl, by rw [HLS.out], hb1⟩
  case round =>
    obtain ⟨i, hi1, hi2, rfl, rfl, hb⟩ := hrel
    clear hb1
    have c0r := (hb.cell (p := ⟨g, 0, none⟩) hglt).trans c0
    have HL := Lib.hid (HLG.out.later hb)
    generalize hlo : leastTo d.lm m.seen i = n0 at *
    by_cases hlt : i < d.lm.L.length
    · have hltB : decide ((i : Int) + 1 ≤ (d.lm.L.length : Int)) = true := decide_eq_true (by omega)
      have HS := Lib.hid (HST.out i hi1 hlt)
      rw [hlo] at HS
      have hin : IntKind.i64.wrap ((i : Int) + 1 + 1) = (i : Int) + 1 + 1 := by rw [IntKind.wrap_i64]; omega
      clear hlo
      go_wp2_with fail
      refine (Len_c HL.out).mono ?_
      rintro e w3 ⟨rfl, rfl⟩
      go_wp2_with fail
      refine (Deed_c HL.out ((i : Int) + 1)).mono ?_
      rintro e w4 ⟨hb4, h4⟩
      rcases h4 with ⟨_, h5⟩ | ⟨k, hk, e1, rfl⟩
      · exfalso; omega
      · obtain rfl : k = i := by omega
        generalize d.lm.L[k] = dd at *
        have hbx := (hb.trans (hb4.mono hb.size)).alloc (Nat.le_trans hb.size hb4.size) (.cells #[.int .i64 dd.Kind, .int .i64 dd.By, .int .i64 dd.No, .int .i64 dd.Seen, .int .i64 dd.At, .int .i64 dd.Many, .string dd.Text] 24)
        clear hb hb4 c0r
        go_wp2
        exact ⟨⟨k + 1, by omega, by omega, by go_num, by rw [HS.out]; first | rfl | (simp; omega), hbx⟩, by simp [intOf]; omega⟩
    · obtain rfl : i = d.lm.L.length := by omega
      have hltB : decide ((d.lm.L.length : Int) + 1 ≤ (d.lm.L.length : Int)) = false := decide_eq_false (by omega)
      go_wp2_with fail
      refine (Len_c HL.out).mono ?_
      rintro e w3 ⟨rfl, rfl⟩
      go_wp2
      go_ret
      exact ⟨by rw [← HLE.out, hlo]; rfl, hb⟩
end
end Go.Proofs.Ytneoeokfffnonac
