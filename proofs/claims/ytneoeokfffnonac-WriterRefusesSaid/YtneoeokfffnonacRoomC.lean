/- Printed by genroomc.py: the room clears. -/
import Derived.Test.YtneoeokfffnonacRoomH
set_option linter.unusedVariables false
set_option linter.unusedSimpArgs false
namespace Go.Proofs.Ytneoeokfffnonac
open Go.RowKit
def leastToR (lm : LogM) (seen i : Nat) : Int := ((lm.L.take i).drop seen).foldl (fun n d => min n d.Seen) lm.least
theorem leastToR_start (lm : LogM) (seen : Nat) : leastToR lm seen seen = lm.least := by
  unfold leastToR; rw [List.drop_eq_nil_of_le (by rw [List.length_take]; omega)]; rfl
theorem leastToR_end (lm : LogM) (seen : Nat) : leastToR lm seen lm.L.length = leastFor lm seen := by unfold leastToR leastFor; rw [List.take_length]
theorem leastToR_step (lm : LogM) (seen i : Nat) (h : seen ≤ i) (hi : i < lm.L.length) : leastToR lm seen (i + 1) = min (leastToR lm seen i) lm.L[i].Seen := by
  unfold leastToR
  rw [List.take_succ_eq_append_getElem hi, List.drop_append_of_le_length (by rw [List.length_take]; omega), List.foldl_append]; rfl
section
variable {w : World} {base : Nat} {F : Nat → Prop} {g : Nat} {gw gs : Nat → Nat} {d : DkM} {e : Nat → Option ScV} {bare : Bool}
theorem RClear_c (h : RmAt w base F g gw gs d e bare) (ho : d.Ok) {j : Nat} (hj : j < 4) {m : WM} (hw : d.writer (j : Int) = some m) (n : Int) (hn : n = leastFor d.lm m.seen) :
    Calls Try.prog 72 #[.pointer (some ⟨(gw j), 0, none⟩), .int .i64 n] w fun en w' => en = .returned (.int .i64 ((m.chars.length : Int) - (m.clearF n).chars.length)) ∧ (m.clearF n).chars.length ≤ m.chars.length ∧ RmS w base F g gw gs bare (d.setW j (some (m.clearF n))) e w' := by
  obtain ⟨hx, hme, hW, tt, hin⟩ := ho.of_writer hw
  rw [Int.toNat_natCast] at hW
  obtain ⟨FW, hFW, _, hwr, put⟩ := h.wrZ hj hW
  have hlen := hin.chars_len ho.lm
  have hcc := (hin.clear ho.lm).2.1
  rw [← hn] at hcc
  refine (WClear_c hwr n (by show m.chars.length ≤ 1000; omega)).mono ?_
  rintro en w' ⟨rfl, F4, h4, hm4, hg4⟩
  have e1 : (m.clearF n).v = { m.v with L := clearOf n m.v.L } := by
    show (⟨m.me, m.seen, m.next, (m.clearF n).chars, m.opn, m.ns⟩ : WrV) = ⟨m.me, m.seen, m.next, clearOf n m.chars, m.opn, m.ns⟩
    rw [hcc]
  rw [← e1] at h4
  obtain ⟨F5, q1, q2, q3⟩ := put w' F4 (m.clearF n) hm4 h4 hg4
  refine ⟨by rw [hcc]; rfl, by rw [hcc]; unfold clearOf; exact List.length_filter_le _ _, F5, q1, q2, q3⟩
theorem RSClear_c (h : RmAt w base F g gw gs d e bare) {d0 : DkM} (ho : d0.Ok) {j : Nat} (hj : j < 4) {m : WM} (hw : d0.writer (j : Int) = some m) (he : e j = some m.sc) (n : Int) :
    Calls Try.prog 73 #[.pointer (some ⟨(gs j), 0, none⟩), .int .i64 n] w fun en w' => (∃ v, en = .returned v) ∧ RmS w base F g gw gs bare d (setN e j (some (m.clearF n).sc)) w' := by
  obtain ⟨hx, hme, hW, tt, hin⟩ := ho.of_writer hw
  obtain ⟨FSk, hFS, _, hsc, put⟩ := h.scZ hj he
  have hbl := hin.base_len ho.lm
  refine (SClear_c hsc n (by show m.base.length ≤ 1000; omega)).mono ?_
  rintro en w' ⟨hv, F4, h4, hm4, hg4⟩
  obtain ⟨F5, q1, q2, q3⟩ := put w' F4 (m.clearF n).sc hm4 h4 hg4
  exact ⟨hv, F5, q1, q2, q3⟩
end
section
variable {w : World} {base : Nat} {F : Nat → Prop} {g : Nat} {gw gs : Nat → Nat} {d : DkM} {bare : Bool}
set_option maxRecDepth 100000 in
set_option maxHeartbeats 1000000 in
theorem RStep_bare (h : RmAt w base F g gw gs d d.scs bare) (ho : d.Ok) (hs : d.Sm 1000) (x : RStep) (hx : x.ok) (hiw : isWriter x.W = true) {m : WM} (hw : d.writer x.W = some m) (hd : x.Do = 5) (hbare : bare = true) :
    Calls Try.prog 17 #[.pointer (some ⟨g, 0, none⟩), .agg #[.int .i64 x.Do, .int .i64 x.W, .int .i64 x.At, .int .i64 x.Many, .string x.Text]] w (RStepPost w base F g bare d x) := by
  have HDo := Lib.hid hd
  have HBA := Lib.hid hbare
  clear hd hbare
  have HR := Lib.hid h
  have HXK := Lib.hid hx
  have hb0 := (Below.refl w.heap.size w).alloc (Nat.le_refl _) (.cells #[.int .i64 x.Do, .int .i64 x.W, .int .i64 x.At, .int .i64 x.Many, .string x.Text] 32)
  have HB0 := Lib.hid hb0
  have HR0 := Lib.hid (h.later hb0)
  have HX0 := Lib.hid (show RsC (w.alloc (.cells #[.int .i64 x.Do, .int .i64 x.W, .int .i64 x.At, .int .i64 x.Many, .string x.Text] 32)) w.heap.size 0 x by simp [RsC])
  have HO := Lib.hid ho
  have HSM := Lib.hid hs
  have HFX := Lib.hid (show ∀ k, F k → k < w.heap.size from fun k hk => (h.foot k hk).2)
  clear hb0 h ho hx hs
  go_enter Try.func17, Try.ntmps17
  go_upto_region 1 with fail
  generalize hw0 : w.alloc _ = w0
  have hw0' : w.alloc (.cells #[.int .i64 x.Do, .int .i64 x.W, .int .i64 x.At, .int .i64 x.Many, .string x.Text] 32) = w0 := hw0
  rw [hw0'] at HB0 HR0 HX0
  clear hw0 hw0'
  obtain ⟨X, hX⟩ : ∃ X, X = w.heap.size := ⟨_, rfl⟩
  rw [← hX] at HX0 HFX ⊢
  clear hX
  have hXl := HX0.out.lt
  obtain ⟨b0, b1, b2, b3, b4⟩ := HX0.out
  go_wp2_with fail
  refine (IsWriter_c x.W _).mono ?_
  rintro e w1 ⟨rfl, rfl⟩
  obtain ⟨j, hj, hxj⟩ := writer_natR hiw
  rw [hiw]
  have hcl := HR0.out.cells j hj
  obtain ⟨hcw, hcs⟩ := hcl
  have HWn := Lib.hid hw
  have hwj : d.W j = some m := by
    have e := HWn.out
    rw [hxj] at e
    unfold DkM.writer at e
    rw [if_pos (isWriter_nat hj)] at e
    simpa using e
  have HPT := Lib.hid (show d.ptrN gw j = .pointer (some ⟨(gw j), 0, none⟩) ∧ d.ptrN gs j = .pointer (some ⟨(gs j), 0, none⟩) from by unfold DkM.ptrN; rw [hwj]; exact ⟨rfl, rfl⟩)
  rw [HPT.out.1] at hcw
  rw [HPT.out.2] at hcs
  have HWJ := Lib.hid hwj
  have HXJ := Lib.hid hxj
  have HWN := Lib.hid (show d.writer (j : Int) = some m from by rw [← hxj]; exact HWn.out)
  rw [hxj] at b1
  have hj0 : (0 : Int) ≤ (j : Int) := by omega
  have hj4 : (j : Int) < 4 := by omega
  clear hwj hxj HPT hw
  go_upto_region 3 with fail
  go_quiet (fail)
  have hL1 : Later w1 (w1.drewN nq) := bl_drewN (Below.refl _ _) nq
  generalize w1.drewN nq = w2 at *
  have HR2 := Lib.hid (HR0.out.later hL1)
  have HX2 := Lib.hid (HX0.out.below hL1 HX0.out.lt)
  have HB2 := Lib.hid (HB0.out.trans (hL1.mono HB0.out.size))
  clear hL1 hcw hcs b0 b1 b2 b3 b4 HR0 HX0 HB0 hXl
  obtain ⟨b0, b1, b2, b3, b4⟩ := HX2.out
  rw [HXJ.out] at b1
  rw [HDo.out] at b0
  have HFIN := Lib.hid (RStepPost.done (x := x) HR.out (over_no (by have := HDo.out; omega) (by have := HDo.out; omega)) (by
    rw [room_not (fun a => a.2.2.2 ⟨HBA.out, HDo.out⟩)]; exact RmPost.same HR.out HB2.out))
  have c9 := HR2.out.c9
  rw [HBA.out] at c9
  go_wp2
  go_ret2
  exact HFIN.out

set_option maxRecDepth 100000 in
set_option maxHeartbeats 2000000 in
theorem RStep_clear (h : RmAt w base F g gw gs d d.scs bare) (ho : d.Ok) (hs : d.Sm 1000) (x : RStep) (hx : x.ok) (hiw : isWriter x.W = true) {m : WM} (hw : d.writer x.W = some m) (hd : x.Do = 5) (hbare : bare = false) :
    Calls Try.prog 17 #[.pointer (some ⟨g, 0, none⟩), .agg #[.int .i64 x.Do, .int .i64 x.W, .int .i64 x.At, .int .i64 x.Many, .string x.Text]] w (RStepPost w base F g bare d x) := by
  have HDo := Lib.hid hd
  have HBA := Lib.hid hbare
  clear hd hbare
  have HR := Lib.hid h
  have HXK := Lib.hid hx
  have hb0 := (Below.refl w.heap.size w).alloc (Nat.le_refl _) (.cells #[.int .i64 x.Do, .int .i64 x.W, .int .i64 x.At, .int .i64 x.Many, .string x.Text] 32)
  have HB0 := Lib.hid hb0
  have HR0 := Lib.hid (h.later hb0)
  have HX0 := Lib.hid (show RsC (w.alloc (.cells #[.int .i64 x.Do, .int .i64 x.W, .int .i64 x.At, .int .i64 x.Many, .string x.Text] 32)) w.heap.size 0 x by simp [RsC])
  have HO := Lib.hid ho
  have HSM := Lib.hid hs
  have HFX := Lib.hid (show ∀ k, F k → k < w.heap.size from fun k hk => (h.foot k hk).2)
  clear hb0 h ho hx hs
  go_enter Try.func17, Try.ntmps17
  go_upto_region 1 with fail
  generalize hw0 : w.alloc _ = w0
  have hw0' : w.alloc (.cells #[.int .i64 x.Do, .int .i64 x.W, .int .i64 x.At, .int .i64 x.Many, .string x.Text] 32) = w0 := hw0
  rw [hw0'] at HB0 HR0 HX0
  clear hw0 hw0'
  obtain ⟨X, hX⟩ : ∃ X, X = w.heap.size := ⟨_, rfl⟩
  rw [← hX] at HX0 HFX ⊢
  clear hX
  have hXl := HX0.out.lt
  obtain ⟨b0, b1, b2, b3, b4⟩ := HX0.out
  go_wp2_with fail
  refine (IsWriter_c x.W _).mono ?_
  rintro e w1 ⟨rfl, rfl⟩
  obtain ⟨j, hj, hxj⟩ := writer_natR hiw
  rw [hiw]
  have hcl := HR0.out.cells j hj
  obtain ⟨hcw, hcs⟩ := hcl
  have HWn := Lib.hid hw
  have hwj : d.W j = some m := by
    have e := HWn.out
    rw [hxj] at e
    unfold DkM.writer at e
    rw [if_pos (isWriter_nat hj)] at e
    simpa using e
  have HPT := Lib.hid (show d.ptrN gw j = .pointer (some ⟨(gw j), 0, none⟩) ∧ d.ptrN gs j = .pointer (some ⟨(gs j), 0, none⟩) from by unfold DkM.ptrN; rw [hwj]; exact ⟨rfl, rfl⟩)
  rw [HPT.out.1] at hcw
  rw [HPT.out.2] at hcs
  have HWJ := Lib.hid hwj
  have HXJ := Lib.hid hxj
  have HWN := Lib.hid (show d.writer (j : Int) = some m from by rw [← hxj]; exact HWn.out)
  rw [hxj] at b1
  have hj0 : (0 : Int) ≤ (j : Int) := by omega
  have hj4 : (j : Int) < 4 := by omega
  clear hwj hxj HPT hw
  go_upto_region 3 with fail
  go_quiet (fail)
  have hL1 : Later w1 (w1.drewN nq) := bl_drewN (Below.refl _ _) nq
  generalize w1.drewN nq = w2 at *
  have HR2 := Lib.hid (HR0.out.later hL1)
  have HX2 := Lib.hid (HX0.out.below hL1 HX0.out.lt)
  have HB2 := Lib.hid (HB0.out.trans (hL1.mono HB0.out.size))
  clear hL1 hcw hcs b0 b1 b2 b3 b4 HR0 HX0 HB0 hXl
  obtain ⟨b0, b1, b2, b3, b4⟩ := HX2.out
  rw [HXJ.out] at b1
  rw [HDo.out] at b0
  have HRO := Lib.hid (show d.room bare x = d.setW j (some (m.clearF (leastFor d.lm m.seen))) from by
    have hd := HDo.out
    obtain ⟨_, hme, _⟩ := HO.out.of_writer HWN.out
    rw [room_is HO.out ⟨by omega, by omega, hiw, fun a => by have := a.1; rw [HBA.out] at this; cases this⟩ HWn.out]
    rw [if_neg (by omega), if_neg (by omega), if_neg (by omega), if_neg (by omega), if_neg (by omega), hme, DkM.set_eq, Int.toNat_natCast]; rfl)
  have HOV := Lib.hid (show d.over x = false from by have hd := HDo.out; exact over_no (by omega) (by omega))
  have c9 := HR2.out.c9
  rw [HBA.out] at c9
  obtain ⟨FW, hFW, _, hwr, _⟩ := HR2.out.wrZ hj HWJ.out
  obtain ⟨gl, FL, hFL, c0, hlog, _⟩ := HR2.out.logZ
  have HWR := Lib.hid hwr
  have HLG := Lib.hid hlog
  obtain ⟨_, hme, _, t, hin⟩ := HO.out.of_writer HWN.out
  have hsl := hin.seen
  have hcl := hin.chars_len HO.out.lm
  have hlen := HO.out.lm.len
  have hglt := HR2.out.lt
  have hsn : IntKind.i64.wrap ((m.seen : Int) + 1) = (m.seen : Int) + 1 := by rw [IntKind.wrap_i64]; omega
  have hvs : m.v.seen = (m.seen : Int) := rfl
  have HLE := Lib.hid (leastToR_end d.lm m.seen)
  have HLS := Lib.hid (leastToR_start d.lm m.seen)
  have HST := Lib.hid (leastToR_step d.lm m.seen)
  have HRC := Lib.hid (fun (w' : World) (F' : Nat → Prop) (h' : RmAt w' base F' g gw gs d d.scs bare) n hn => RClear_c h' HO.out hj HWN.out n hn)
  have HSC := Lib.hid (fun (w' : World) (F' : Nat → Prop) (d' : DkM) (h' : RmAt w' base F' g gw gs d' d.scs bare) n => RSClear_c h' HO.out hj HWN.out (show d.scs j = some m.sc from by unfold DkM.scs; rw [HWJ.out]; rfl) n)
  clear hwr hlog hFW hFL hin hme t HDo
  go_wp2_with fail
  refine (Least_c HLG.out).mono ?_
  rintro e w3 ⟨rfl, hb3⟩
  have c0_3 := (hb3.cell (p := ⟨g, 0, none⟩) hglt).trans c0
  go_wp2_with fail
  refine (WSeen_c (HWR.out.later hb3)).mono ?_
  rintro e w4 ⟨rfl, rfl⟩
  rw [hvs]
  clear hvs c0_3 b0 b1 b2 b3 b4 c9
  go_wp2
  go_loopw [29, 30] (fun s5 s6 wr => ∃ i : Nat, m.seen ≤ i ∧ i ≤ d.lm.L.length ∧ s6 = (.int .i64 ((i : Int) + 1)) ∧ s5 = (.int .i64 (leastToR d.lm m.seen i)) ∧ Below w2.heap.size w2 wr) (fun _ s6 _ => d.lm.L.length + 1 - (intOf s6).toNat)
  case atStart => exact ⟨m.seen, Nat.le_refl _, hsl, rfl, by rw [HLS.out], hb3⟩
  case round =>
    obtain ⟨i, hi1, hi2, rfl, rfl, hb⟩ := hrel
    clear hb3
    have c0r := (hb.cell (p := ⟨g, 0, none⟩) hglt).trans c0
    have HL := Lib.hid (HLG.out.later hb)
    generalize hlo : leastToR d.lm m.seen i = n0 at *
    by_cases hlt : i < d.lm.L.length
    · have hltB : decide ((i : Int) + 1 ≤ (d.lm.L.length : Int)) = true := decide_eq_true (by omega)
      have HS := Lib.hid (HST.out i hi1 hlt)
      rw [hlo] at HS
      have hin : IntKind.i64.wrap ((i : Int) + 1 + 1) = (i : Int) + 1 + 1 := by rw [IntKind.wrap_i64]; omega
      clear hlo
      go_wp2_with fail
      refine (Len_c HL.out).mono ?_
      rintro e w5 ⟨rfl, rfl⟩
      go_wp2_with fail
      refine (Deed_c HL.out ((i : Int) + 1)).mono ?_
      rintro e w6 ⟨hb6, h6⟩
      rcases h6 with ⟨_, h5⟩ | ⟨k, hk, e1, rfl⟩
      · exfalso; omega
      · obtain rfl : k = i := by omega
        generalize d.lm.L[k] = dd at *
        have hbx := (hb.trans (hb6.mono hb.size)).alloc (Nat.le_trans hb.size hb6.size) (.cells #[.int .i64 dd.Kind, .int .i64 dd.By, .int .i64 dd.No, .int .i64 dd.Seen, .int .i64 dd.At, .int .i64 dd.Many, .string dd.Text] 24)
        clear hb hb6 c0r
        go_wp2
        exact ⟨⟨k + 1, by omega, by omega, by go_num, by rw [HS.out]; first | rfl | (simp; omega), hbx⟩, by simp [intOf]; omega⟩
    · obtain rfl : i = d.lm.L.length := by omega
      have hltB : decide ((d.lm.L.length : Int) + 1 ≤ (d.lm.L.length : Int)) = false := decide_eq_false (by omega)
      have HN0 := Lib.hid (show n0 = leastFor d.lm m.seen from by rw [← hlo, HLE.out])
      clear hlo
      have HWr := Lib.hid (HWR.out.later hb)
      have HRr := Lib.hid (HR2.out.later hb)
      have HBr := Lib.hid hb
      have hbsz := hb.size
      clear hb
      go_wp2_with fail
      refine (Len_c HL.out).mono ?_
      rintro e w5 ⟨rfl, rfl⟩
      clear c0r HL
      obtain ⟨CL, hCL⟩ : ∃ CL, CL = m.chars.length := ⟨_, rfl⟩
      have HWC := Lib.hid (WChars_c HWr.out (by show m.chars.length ≤ 1000; omega))
      rw [show m.v.L.length = CL from hCL.symm] at HWC
      go_wp2_with fail
      refine HWC.out.mono ?_
      rintro e w6 ⟨ac, capc, rfl, _, hb6⟩
      have HR6 := Lib.hid (HRr.out.later hb6)
      have HB6 := Lib.hid (HBr.out.trans (hb6.mono hbsz))
      have HRC6 := Lib.hid (HRC.out _ _ HR6.out n0 HN0.out)
      obtain ⟨CM, hCM⟩ : ∃ CM, CM = (m.clearF n0).chars.length := ⟨_, rfl⟩
      rw [← hCL, ← hCM] at HRC6
      have hcl2 : CL ≤ 200 := by rw [hCL]; exact hcl
      have HCM := Lib.hid hCM
      clear hCL hCM hcl
      clear hb6 HWC HRr HBr HWr HRC
      go_wp2_with fail
      refine HRC6.out.mono ?_
      rintro e w7 ⟨rfl, hle, F7, h7, m7, g7⟩
      have HR7 := Lib.hid h7
      have HM7 := Lib.hid ((Moves.of_below (F := F) HB6.out).trans m7 (fun _ _ k => k))
      have HG7 := Lib.hid (show Grows F w2 F7 from fun k hk => by
        rcases g7 k hk with h | h
        · exact .inl h
        · exact .inr (Nat.le_trans HB6.out.size h))
      clear h7 m7 g7 HRC6 HR6
      go_wp2_with fail
      refine (HSC.out _ _ _ HR7.out n0).mono ?_
      rintro e w8 ⟨⟨v, rfl⟩, F8, h8, m8, g8⟩
      have HS8 := Lib.hid (show RmS w2 base F g gw gs bare (d.setW j (some (m.clearF n0))) (setN d.scs j (some (m.clearF n0).sc)) w8 from ⟨F8, h8, MovesR.transG HM7.out HG7.out m8, GrowsR.trans HG7.out HM7.out.size g8⟩)
      obtain ⟨FW8, _, _, hw8, _⟩ := h8.wrZ hj (show (d.setW j (some (m.clearF n0))).W j = some (m.clearF n0) from by unfold DkM.setW; simp)
      have HWC := Lib.hid (WChars_c hw8 (by show (m.clearF n0).chars.length ≤ 1000; rw [← HCM.out]; omega))
      rw [show (m.clearF n0).v.L.length = CM from HCM.out.symm] at HWC
      have hsb : IntKind.i64.wrap ((CL : Int) - (CM : Int)) = (CL : Int) - (CM : Int) := by rw [IntKind.wrap_i64]; omega
      clear h8 m8 g8 hw8 HSC HR7 HM7 HG7
      go_wp2_with fail
      refine HWC.out.mono ?_
      rintro e w9 ⟨a9, cap9, rfl, _, hb9⟩
      have HFIN := Lib.hid (RStepPost.done (x := x) HR.out HOV.out (by
        rw [HRO.out, ← HN0.out]
        exact RmPost.of HB2.out (HS8.out.later hb9) (scs_setW d j (m.clearF n0)).symm))
      clear hb9 HWC HS8
      go_wp2
      go_ret2
      exact HFIN.out
end
end Go.Proofs.Ytneoeokfffnonac
