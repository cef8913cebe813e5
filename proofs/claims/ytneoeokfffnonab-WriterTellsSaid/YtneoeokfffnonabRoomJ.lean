/- Printed by genroomj.py: a writer comes into the room; room.step, whole. -/
import Derived.Test.YtneoeokfffnonabRoomC
set_option linter.unusedVariables false
set_option linter.unusedSimpArgs false
namespace Go.Proofs.Ytneoeokfffnonab
open Go.RowKit
theorem LogM.Ok.faultR {m : LogM} (h : m.Ok) : listFault m.chars (m.L.length : Int) = 0 := (lists_check m.L (by have := h.len; omega) (fun j hj => let d := h.deeds j hj; ⟨d.w, d.no, d.s1⟩) h.all).1
theorem LogM.Ok.shutR {m : LogM} (h : m.Ok) : ∀ c ∈ m.chars, c.In ≠ 1073741824 := by
  intro c hc
  have hc' : c ∈ pre m.L m.L.length := by rw [pre_len]; exact hc
  have g := (h.lok.made m.L.length (Nat.le_refl _)).good c hc'
  have := h.len
  have := g.in2
  omega

section
variable {w : World} {base : Nat} {F : Nat → Prop} {g : Nat} {gw gs : Nat → Nat} {d : DkM} {bare : Bool}
set_option maxRecDepth 100000 in
set_option maxHeartbeats 2000000 in
theorem RStep_join (h : RmAt w base F g gw gs d d.scs bare) (ho : d.Ok) (hs : d.Sm 1000) (x : RStep) (hx : x.ok) (hiw : isWriter x.W = true) (hw : d.writer x.W = none) (hd : x.Do = 0) :
    Calls Try.prog 48 #[.pointer (some ⟨g, 0, none⟩), .agg #[.int .i64 x.Do, .int .i64 x.W, .int .i64 x.At, .int .i64 x.Many, .string x.Text]] w (RStepPost w base F g bare d x) := by
  have HDo := Lib.hid hd
  clear hd
  have HR := Lib.hid h
  have HXK := Lib.hid hx
  have hb0 := (Below.refl w.heap.size w).alloc (Nat.le_refl _) (.cells #[.int .i64 x.Do, .int .i64 x.W, .int .i64 x.At, .int .i64 x.Many, .string x.Text] 73)
  have HB0 := Lib.hid hb0
  have HR0 := Lib.hid (h.later hb0)
  have HX0 := Lib.hid (show RsC (w.alloc (.cells #[.int .i64 x.Do, .int .i64 x.W, .int .i64 x.At, .int .i64 x.Many, .string x.Text] 73)) w.heap.size 0 x by simp [RsC])
  have HO := Lib.hid ho
  have HSM := Lib.hid hs
  have HFX := Lib.hid (show ∀ k, F k → k < w.heap.size from fun k hk => (h.foot k hk).2)
  clear hb0 h ho hx hs
  go_enter Try.func48, Try.ntmps48
  go_upto_region 1 with fail
  generalize hw0 : w.alloc _ = w0
  have hw0' : w.alloc (.cells #[.int .i64 x.Do, .int .i64 x.W, .int .i64 x.At, .int .i64 x.Many, .string x.Text] 73) = w0 := hw0
  rw [hw0'] at HB0 HR0 HX0
  clear hw0 hw0'
  obtain ⟨X, hX⟩ : ∃ X, X = w.heap.size := ⟨_, rfl⟩
  rw [← hX] at HX0 HFX ⊢
  clear hX
  have hXl := HX0.out.lt
  obtain ⟨b0, b1, b2, b3, b4⟩ := HX0.out
  go_wp2_with fail
  refine (IsWriter_c x.W _).mono ?_
  rintro e w1 ⟨rfl, rfl⟩
  obtain ⟨j, hj, hxj⟩ := writer_natR hiw
  rw [hiw]
  have hcl := HR0.out.cells j hj
  obtain ⟨hcw, hcs⟩ := hcl
  have HWn := Lib.hid hw
  have hwj : d.W j = none := by
    have e := HWn.out
    rw [hxj] at e
    unfold DkM.writer at e
    rw [if_pos (isWriter_nat hj)] at e
    simpa using e
  have HPT := Lib.hid (show d.ptrN gw j = .pointer none ∧ d.ptrN gs j = .pointer none from by unfold DkM.ptrN; rw [hwj]; exact ⟨rfl, rfl⟩)
  rw [HPT.out.1] at hcw
  rw [HPT.out.2] at hcs
  have HWJ := Lib.hid hwj
  have HXJ := Lib.hid hxj
  have HWN := Lib.hid (show d.writer (j : Int) = none from by rw [← hxj]; exact HWn.out)
  rw [hxj] at b1
  have hj0 : (0 : Int) ≤ (j : Int) := by omega
  have hj4 : (j : Int) < 4 := by omega
  clear hwj hxj HPT hw
  go_upto_region 3 with fail
  go_quiet (fail)
  have hL1 : Later w1 (w1.drewN nq) := bl_drewN (Below.refl _ _) nq
  generalize w1.drewN nq = w2 at *
  have HR2 := Lib.hid (HR0.out.later hL1)
  have HX2 := Lib.hid (HX0.out.below hL1 HX0.out.lt)
  have HB2 := Lib.hid (HB0.out.trans (hL1.mono HB0.out.size))
  clear hL1 hcw hcs b0 b1 b2 b3 b4 HR0 HX0 HB0 hXl
  obtain ⟨b0, b1, b2, b3, b4⟩ := HX2.out
  rw [HXJ.out] at b1
  rw [HDo.out] at b0
  have hh : (d.lm.seat (j : Int)).here = false := by rw [seat_nat]; exact HO.out.no j hj HWJ.out
  have hjn : d.lm.joinF (j : Int) = (d.lm.put (j : Int) ⟨true, (d.lm.seat (j : Int)).last, d.lm.L.length⟩, (d.lm.seat (j : Int)).last + 1, 0) := by
    unfold LogM.joinF; rw [if_pos (isWriter_nat hj), if_neg (by rw [hh]; simp)]
  have HJN := Lib.hid hjn
  have HRO := Lib.hid (show d.room bare x = (d.setL (d.lm.joinF (j : Int)).1).setW j (some (WM.new d.lm (j : Int))) from by
    have hd := HDo.out
    have ha : x.acts bare := ⟨by omega, by omega, hiw, fun a => by have := a.2; omega⟩
    have hk : x.d.Kind = x.Do + 1 := rfl
    have hW : x.d.W = x.W := rfl
    unfold DkM.room
    rw [if_pos ha]
    unfold DkM.step
    rw [if_neg (by rw [hk]; omega), if_pos (by rw [hk]; omega), hW, HXJ.out, if_pos (by rw [HJN.out]), DkM.set_eq, Int.toNat_natCast])
  have HOV := Lib.hid (show d.over x = false from by have hd := HDo.out; exact over_no (by omega) (by omega))
  have HJO := Lib.hid (HO.out.lm.join (j : Int))
  have HLA := Lib.hid (show 0 ≤ (d.lm.seat (j : Int)).last from by
    have h1 := HO.out.lm.last (j : Int) (isWriter_nat hj)
    have h3 := cntBy_nonneg (j : Int) d.lm.L
    omega)
  have hlen := HO.out.lm.len
  obtain ⟨lm1, hlm⟩ : ∃ lm1, lm1 = (d.lm.joinF (j : Int)).1 := ⟨_, rfl⟩
  obtain ⟨nx, hnx⟩ : ∃ nx, nx = (d.lm.seat (j : Int)).last + 1 := ⟨_, rfl⟩
  have HNX := Lib.hid hnx
  have HJ1 := Lib.hid (show (d.lm.joinF (j : Int)).2.1 = nx from by rw [HJN.out, hnx])
  have HJ2 := Lib.hid (show (d.lm.joinF (j : Int)).2.2 = 0 from by rw [HJN.out])
  have HLL := Lib.hid (show lm1.L = d.lm.L from by rw [hlm, HJN.out]; rfl)
  have HCH := Lib.hid (show lm1.chars = d.lm.chars from by unfold LogM.chars; rw [HLL.out])
  rw [← hlm] at HJO HRO
  have HFS := Lib.hid (And.intro HJO.out.faultR HJO.out.shutR)
  obtain ⟨gl, FL, hFL, c0, hlog, put⟩ := HR2.out.logZ
  have HPut := Lib.hid (fun (w' : World) (h1 : Moves FL w2 w') (h2 : LogAt w' base FL gl lm1) => put w' FL lm1 h1 h2 (fun k hk => .inl hk))
  have HJC := Lib.hid (fun (w' : World) (h' : LogAt w' base FL gl d.lm) => Join_c h' (j : Int) HO.out.lm)
  rw [HJ1.out, HJ2.out, ← hlm] at HJC
  have HLG := Lib.hid hlog
  have HSC := Lib.hid (show (d.setL lm1).scs = d.scs from rfl)
  clear hh hjn hlm hnx put hlog hFL
  go_upto_region 5 with fail
  have C0 := later_cell c0
  have B1 := later_cell b1
  clear c0 b0 b1 b2 b3 b4
  have hL : ∀ q : Lt w2, Later w2 q.v := fun q => q.h
  refine wp_region_mixh [] [6] [0, 1, 2, 3, 4, 5, 6, 7, 8, 9, 10, 11] (by kernel_rfl) (by kernel_rfl) ?_
  iterate 6 (refine wpMixH_step rfl (fun K hK => ?_); go_simp; refine hK _ _ ?_; clear hK K)
  refine wpMixH_step rfl (fun K hK => ?_)
  go_simp
  intro p
  refine (HJC.out _ (HLG.out.later (hL p))).mono ?_
  rintro e w3 ⟨rfl, hL3, hM3⟩
  refine ⟨_, rfl, hK _ _ ?_⟩
  clear hK K
  obtain ⟨F3, q1, q2, q3⟩ := HPut.out w3 ((Moves.of_below (F := FL) (hL p)).trans hM3 (fun _ _ k => k)) hL3
  have HS3 := Lib.hid (show RmS w2 base F g gw gs bare (d.setL lm1) d.scs w3 from ⟨F3, q1, q2, q3⟩)
  clear q1 q2 q3 hL3 hM3 p hL C0 B1 HLG HJC HPut
  iterate 5 (refine wpMixH_step rfl (fun K hK => ?_); go_simp; refine hK _ _ ?_; clear hK K)
  refine wpMixH_nil ?_
  intro w4 hL4
  obtain ⟨F4, h4, m4, g4⟩ := HS3.out.later hL4
  have HR4 := Lib.hid h4; have HM4 := Lib.hid m4; have HG4 := Lib.hid g4
  clear h4 m4 g4 hL4 HS3
  have HX4 := Lib.hid (HX2.out.of_block (HM4.out.block X HX2.out.lt fun e => by have := HFX.out X e; omega))
  obtain ⟨gl4, FL4, _, c0, hlog4, _⟩ := HR4.out.logZ
  have HLG4 := Lib.hid (show LogAt w4 base FL4 gl4 lm1 from hlog4)
  clear hlog4
  go_wp2_with fail
  refine (Chars_c HLG4.out HJO.out).mono ?_
  rintro e w5 ⟨aC, capC, rfl, hoC, hb5⟩
  have HOC := Lib.hid hoC
  have HSL := Lib.hid hoC.slCh
  have hg4 : g < w4.heap.size := HR4.out.lt
  have HNC := Lib.hid hoC.nilcap
  have HR5 := Lib.hid (HR4.out.later hb5)
  have HM5 := Lib.hid (HM4.out.trans (Moves.of_below (F := F) hb5) (fun _ _ k => k))
  have HX5 := Lib.hid (HX4.out.below hb5 HX4.out.lt)
  have HLG5 := Lib.hid (HLG4.out.later hb5)
  have c0 := (hb5.cell (p := ⟨g, 0, none⟩) HR4.out.lt).trans c0
  clear hoC hb5 HR4 HM4 HX4 HLG4
  go_upto_region 9 with fail
  obtain ⟨_, b1, _, _, _⟩ := HX5.out
  rw [HXJ.out] at b1
  have C0 := later_cell c0
  have B1 := later_cell b1
  clear c0 b1
  have hL : ∀ q : Lt w5, Later w5 q.v := fun q => q.h
  refine wp_region_mixh [12] [16] [0, 1, 2, 3, 4, 5, 6, 7, 8, 9, 10, 11, 13, 14, 12, 15, 16] (by kernel_rfl) (by kernel_rfl) ?_
  iterate 10 (refine wpMixH_step rfl (fun K hK => ?_); go_simp; refine hK _ _ ?_; clear hK K)
  refine wpMixH_step rfl (fun K hK => ?_)
  go_simp
  refine ⟨_, fun p => quietM_same p (Len_c (HLG5.out.later (hL p))), hK _ _ ?_⟩
  clear hK K
  iterate 3 (refine wpMixH_step rfl (fun K hK => ?_); go_simp; refine hK _ _ ?_; clear hK K)
  refine wpMixH_step rfl (fun K hK => ?_)
  go_simp
  intro p
  refine (WNew_c (j : Int) nx (lm1.L.length : Int) aC capC lm1.chars p.v (HSL.out.below p.h) HNC.out (isWriter_nat hj) (by have := HLA.out; have := HNX.out; omega) (by rw [HLL.out]; omega) HFS.out.1 HFS.out.2).mono ?_
  rintro e w6 ⟨F2, g2, rfl, hW6, hb6⟩
  refine ⟨_, rfl, hb6, hK _ _ ?_⟩
  clear hK K
  have hl6 : Later w5 w6 := Below.trans p.h (hb6.mono p.h.size)
  have HW6 := Lib.hid (hW6.mono (show w5.heap.size ≤ p.v.heap.size from p.h.size))
  clear hW6 hb6 p hL
  (refine wpMixH_step rfl (fun K hK => ?_); go_simp; refine hK _ _ ?_; clear hK K)
  refine wpMixH_step rfl (fun K hK => ?_)
  have HDp := Lib.hid (fun (p : Lt w6) => HR5.out.later (hl6.trans p.h))
  have HWp := Lib.hid (fun (p : Lt w6) => HW6.out.later p.h)
  go_simp
  intro p
  have hfz : p.v.frozen? ⟨g, 1 + j, none⟩ = false := (HDp.out p).fz (1 + j) (by omega)
  have hcell : p.v.cell? ⟨g, 1 + j, none⟩ = some (.pointer none) := by
    have hc := ((HDp.out p).rows).choose_spec.choose_spec.dk
    obtain ⟨_, _, _, rr⟩ := hc.rows
    exact rr.no j hj (show (d.setL lm1).W j = none from HWJ.out)
  have HWq := Lib.hid (HWp.out p)
  have HLq := Lib.hid (hl6.trans p.h)
  clear HDp HWp hl6
  go_simp
  refine hK _ _ ?_
  clear hK K hfz hcell C0 B1
  obtain ⟨q1, q2, q3⟩ := HR5.out.comeW hj HLq.out (m := WM.new d.lm (j : Int)) (F2 := F2) (g2 := g2) (by
    have h4 := HWq.out
    have e : (⟨(j : Int), (lm1.L.length : Int), nx, lm1.chars, [], 0⟩ : WrV) = (WM.new d.lm (j : Int)).v := by
      rw [HNX.out, HCH.out, HLL.out]; rfl
    rw [← e]; exact h4)
  refine wpMixH_nil ?_
  intro w7 hL7
  have HR7 := Lib.hid (q1.later hL7)
  have HM7 := Lib.hid ((MovesR.transG HM5.out HG4.out q2).trans (Moves.of_below (F := F) hL7) (fun _ _ k => k))
  have HG7 := Lib.hid (GrowsR.trans HG4.out HM5.out.size q3)
  have HOC7 := Lib.hid (((HOC.out.below HLq.out).setCell ⟨g, 1 + j, none⟩ (.pointer (some ⟨g2, 0, none⟩)) (fun k hk => by have h1 := (HOC.out.base_le k hk).1; show k ≠ g; omega)).below hL7)
  clear q1 q2 q3 hL7 HWq HLq HR5 HM5 HG4 HSL HLG5 HX5 HOC
  have HX7 := Lib.hid (HX2.out.of_block (HM7.out.block X HX2.out.lt fun e => by have := HFX.out X e; omega))
  have HSL7 := Lib.hid HOC7.out.slCh
  have hcl7 := HJO.out.chars_len
  obtain ⟨gl7, FL7, _, c0, hlog7, _⟩ := HR7.out.logZ
  have HLG7 := Lib.hid (show LogAt w7 base FL7 gl7 lm1 from hlog7)
  clear hlog7
  go_upto_region 10 with fail
  obtain ⟨_, b1, _, _, _⟩ := HX7.out
  rw [HXJ.out] at b1
  have C0 := later_cell c0
  have B1 := later_cell b1
  clear c0 b1
  have hL : ∀ q : Lt w7, Later w7 q.v := fun q => q.h
  refine wp_region_mixh [12] [16] [0, 1, 2, 3, 4, 5, 6, 7, 8, 9, 10, 11, 13, 14, 12, 15, 16] (by kernel_rfl) (by kernel_rfl) ?_
  iterate 10 (refine wpMixH_step rfl (fun K hK => ?_); go_simp; refine hK _ _ ?_; clear hK K)
  refine wpMixH_step rfl (fun K hK => ?_)
  go_simp
  refine ⟨_, fun p => quietM_same p (Len_c (HLG7.out.later (hL p))), hK _ _ ?_⟩
  clear hK K
  iterate 3 (refine wpMixH_step rfl (fun K hK => ?_); go_simp; refine hK _ _ ?_; clear hK K)
  refine wpMixH_step rfl (fun K hK => ?_)
  go_simp
  intro p
  refine (NewScribe_c (j : Int) nx (lm1.L.length : Int) aC capC lm1.chars p.v (HSL7.out.below p.h) (by omega)).mono ?_
  rintro e w8 ⟨F3, g3, rfl, hW8, hb8⟩
  refine ⟨_, rfl, hb8, hK _ _ ?_⟩
  clear hK K
  have hl8 : Later w7 w8 := Below.trans p.h (hb8.mono p.h.size)
  have HW8 := Lib.hid (hW8.mono (show w7.heap.size ≤ p.v.heap.size from p.h.size))
  clear hW8 hb8 p hL
  (refine wpMixH_step rfl (fun K hK => ?_); go_simp; refine hK _ _ ?_; clear hK K)
  refine wpMixH_step rfl (fun K hK => ?_)
  have HDp := Lib.hid (fun (p : Lt w8) => HR7.out.later (hl8.trans p.h))
  have HWp := Lib.hid (fun (p : Lt w8) => HW8.out.later p.h)
  go_simp
  intro p
  have hfz : p.v.frozen? ⟨g, 5 + j, none⟩ = false := (HDp.out p).fz (5 + j) (by omega)
  have hcell : p.v.cell? ⟨g, 5 + j, none⟩ = some (.pointer none) := by
    have hc := ((HDp.out p).rows).choose_spec.choose_spec.sc
    exact hc.no j hj (by unfold DkM.scs; rw [HWJ.out]; rfl)
  have HWq := Lib.hid (HWp.out p)
  have HLq := Lib.hid (hl8.trans p.h)
  clear HDp HWp hl8
  go_simp
  refine hK _ _ ?_
  clear hK K hfz hcell C0 B1
  obtain ⟨q1, q2, q3⟩ := HR7.out.comeS hj HLq.out (s := (WM.new d.lm (j : Int)).sc) (F2 := F3) (g2 := g3) (by
    have h4 := HWq.out
    have e : (⟨(j : Int), (lm1.L.length : Int), nx, lm1.chars, [], 0⟩ : ScV) = (WM.new d.lm (j : Int)).sc := by
      rw [HNX.out, HCH.out, HLL.out]; rfl
    rw [← e]; exact h4)
  refine wpMixH_nil ?_
  intro w9 hL9
  have HR9 := Lib.hid (q1.later hL9)
  have HM9 := Lib.hid ((MovesR.transG HM7.out HG7.out q2).trans (Moves.of_below (F := F) hL9) (fun _ _ k => k))
  have HG9 := Lib.hid (GrowsR.trans HG7.out HM7.out.size q3)
  clear q1 q2 q3 hL9 HWq HLq HR7 HM7 HG7 HSL7 HLG7 HX7 HOC7
  have HX9 := Lib.hid (HX2.out.of_block (HM9.out.block X HX2.out.lt fun e => by have := HFX.out X e; omega))
  obtain ⟨_, b1, _, _, _⟩ := HX9.out
  rw [HXJ.out] at b1
  obtain ⟨_, _, c1, _, _⟩ := HR9.out.wrZ hj (show ((d.setL lm1).setW j (some (WM.new d.lm (j : Int)))).W j = some (WM.new d.lm (j : Int)) from by unfold DkM.setW; simp)
  rw [setN_same] at c1
  go_upto_region 11 with fail
  go_quiet (fail)
  have hLq : Later w9 (w9.drewN nq) := bl_drewN (Below.refl _ _) nq
  have HFIN := Lib.hid (RStepPost.done (x := x) HR.out HOV.out (by
    rw [HRO.out]
    refine RmPost.after HB2.out ⟨_, _, _, ((HR9.out.later hLq).congr rfl ?_), HM9.out.trans (Moves.of_below (F := F) hLq) (fun _ _ k => k), HG9.out⟩
    exact (scs_setW (d.setL lm1) j (WM.new d.lm (j : Int))).symm))
  generalize w9.drewN nq = w10 at *
  clear hLq HR9 HM9 HG9 c1 b1
  go_wp2
  go_ret2
  exact HFIN.out
/-- A step in a room, whatever it is. -/
theorem RStep_c (h : RmAt w base F g gw gs d d.scs bare) (ho : d.Ok) (hs : d.Sm 1000) (x : RStep) (hx : x.ok) :
    Calls Try.prog 48 #[.pointer (some ⟨g, 0, none⟩), .agg #[.int .i64 x.Do, .int .i64 x.W, .int .i64 x.At, .int .i64 x.Many, .string x.Text]] w (RStepPost w base F g bare d x) := by
  cases hiw : isWriter x.W with
  | false => exact RStep_no h ho hs x hx hiw
  | true =>
    cases hw : d.writer x.W with
    | none =>
      by_cases h0 : x.Do = 0
      · exact RStep_join h ho hs x hx hiw hw h0
      · exact RStep_none h ho hs x hx hiw hw h0
    | some m =>
      by_cases h1 : x.Do = 1
      · exact RStep_put h ho hs x hx hiw hw h1
      by_cases h2 : x.Do = 2
      · exact RStep_take h ho hs x hx hiw hw h2
      by_cases h3 : x.Do = 3
      · cases hun : m.unsent with
        | nil => exact RStep_send0 h ho hs x hx hiw hw h3 hun
        | cons u us => exact RStep_send1 h ho hs x hx hiw hw h3 hun
      by_cases h4 : x.Do = 4
      · exact RStep_hear h ho hs x hx hiw hw h4
      by_cases h5 : x.Do = 5
      · cases hb : bare with
        | true => subst hb; exact RStep_bare h ho hs x hx hiw hw h5 rfl
        | false => subst hb; exact RStep_clear h ho hs x hx hiw hw h5 rfl
      exact RStep_idle h ho hs x hx hiw hw (by omega)
end
end Go.Proofs.Ytneoeokfffnonab
