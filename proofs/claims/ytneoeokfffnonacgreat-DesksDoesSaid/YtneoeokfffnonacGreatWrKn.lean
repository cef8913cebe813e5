/- The walk of the Writer's Known. -/
import Derived.Test.YtneoeokfffnonacGreatWrNum
import Derived.Test.YtneoeokfffnonacGreatMixX
import Derived.Test.YtneoeokfffnonacGreatMixH
set_option linter.unusedVariables false
set_option linter.unusedSimpArgs false
namespace Go.Proofs.YtneoeokfffnonacGreat
open Go.RowKit
/-- A number without a writer's bit. -/
def clrOf (me g : Int) : Int := bits .andNot .i64 g (bitOf me)
theorem clr_all : ∀ me : Fin 4, ∀ g : Fin 16, took (g.val : Int) (me.val : Int) = false → clrOf (me.val : Int) ((g.val : Int) + bitOf (me.val : Int)) = (g.val : Int) := by decide +kernel
theorem clr_undo {me : Int} (hw : isWriter me = true) : Undo me (clrOf me) := by
  intro g ht h0 h1
  have hm : 0 ≤ me ∧ me < 4 := by simpa [isWriter] using hw
  have h := clr_all ⟨me.toNat, by omega⟩ ⟨g.toNat, by omega⟩
  have e1 : ((me.toNat : Nat) : Int) = me := by omega
  have e2 : ((g.toNat : Nat) : Int) = g := by omega
  simp only [e1, e2] at h
  exact h ht
theorem known_step (clr : Int → Int) (os : List OpenD) (l : List Ch) (i : Nat) (h : i < l.length) : knownOf clr os (l.take (i + 1)) = knownOf clr os (l.take i) ++ (if isOpen l[i] then [] else [ungos clr os l[i]]) := by
  rw [List.take_succ_eq_append_getElem h]
  unfold knownOf
  rw [List.filter_append, List.map_append]
  congr 1
  cases hO : isOpen l[i] <;> simp [hO]
theorem ungos_step (clr : Int → Int) (os : List OpenD) (c : Ch) (j : Nat) (h : j < os.length) : ungos clr (os.take (j + 1)) c = ungo clr os[j] (ungos clr (os.take j) c) := by
  rw [List.take_succ_eq_append_getElem h]
  unfold ungos
  rw [List.foldl_append]; rfl
theorem known_len (clr : Int → Int) (os : List OpenD) (l : List Ch) : (knownOf clr os l).length ≤ l.length := by
  unfold knownOf; rw [List.length_map]; exact List.length_filter_le _ _
/-- A byte in a block of its own, that may be stored into. -/
structure ChBox (w : World) (b : Nat) (c : Ch) : Prop where
  at_ : ChAt w b 0 c
  fz : ∀ o, o < 7 → w.frozen? ⟨b, o, none⟩ = false
theorem ChBox.new (w : World) (c : Ch) : ChBox (w.alloc (.cells #[.int .u8 c.C, .int .i64 c.By, .int .i64 c.No, .int .i64 c.K, .int .i64 c.In, .int .i64 c.Out, .int .i64 c.Gone] 104)) w.heap.size c := ⟨by simp [ChAt], fun o ho => by simp⟩
theorem ChBox.later {w w' : World} {b : Nat} {c : Ch} (h : ChBox w b c) (hl : Below w.heap.size w w') : ChBox w' b c := ⟨h.at_.below hl h.at_.lt, fun o ho => (hl.frozen (p := ⟨b, o, none⟩) h.at_.lt).trans (h.fz o ho)⟩
theorem ChBox.gone {w : World} {b : Nat} {c : Ch} (h : ChBox w b c) (v : Int) : ChBox (w.setCell ⟨b, 6, none⟩ (.int .i64 v)) b { c with Gone := v } := by
  obtain ⟨q0, q1, q2, q3, q4, q5, q6⟩ := h.at_
  have ho : ∀ o, o ≠ 6 → (w.setCell ⟨b, 6, none⟩ (.int .i64 v)).cell? ⟨b, o, none⟩ = w.cell? ⟨b, o, none⟩ := fun o ho => World.cell?_setCell_other _ _ _ _ (fun e => ho (by have := congrArg Addr.off e; simp at this; omega))
  simp only [Nat.zero_add] at q0 q1 q2 q3 q4 q5 q6
  refine ⟨⟨(ho 0 (by omega)).trans q0, (ho 1 (by omega)).trans q1, (ho 2 (by omega)).trans q2, (ho 3 (by omega)).trans q3, (ho 4 (by omega)).trans q4, (ho 5 (by omega)).trans q5, World.cell?_setCell_same _ _ _ q6⟩, fun o ho => by rw [World.frozen?_setCell]; exact h.fz o ho⟩

theorem known1_c (x c : Ch) (Z : Nat) (w : World) (hc : ChAt w Z 0 c) :
    Calls Tryz.prog 74 #[.agg #[.int .u8 x.C, .int .i64 x.By, .int .i64 x.No, .int .i64 x.K, .int .i64 x.In, .int .i64 x.Out, .int .i64 x.Gone], .pointer (some ⟨Z, 0, none⟩)] w fun e w' => e = .returned (.bool (x.same c)) ∧ Below w.heap.size w w' := by
  have hlt := hc.lt
  have hb := (Below.refl w.heap.size w).alloc (Nat.le_refl _) (.cells #[.int .u8 x.C, .int .i64 x.By, .int .i64 x.No, .int .i64 x.K, .int .i64 x.In, .int .i64 x.Out, .int .i64 x.Gone] 104)
  have HB := Lib.hid hb
  have hc1 := hc.below hb hlt
  have hn : ChAt (w.alloc (.cells #[.int .u8 x.C, .int .i64 x.By, .int .i64 x.No, .int .i64 x.K, .int .i64 x.In, .int .i64 x.Out, .int .i64 x.Gone] 104)) w.heap.size 0 x := by simp [ChAt]
  clear hc
  go_enter Tryz.func74, Tryz.ntmps74
  go_upto_region 1 with fail
  generalize hw1 : w.alloc _ = w1
  have hw1' : w.alloc (.cells #[.int .u8 x.C, .int .i64 x.By, .int .i64 x.No, .int .i64 x.K, .int .i64 x.In, .int .i64 x.Out, .int .i64 x.Gone] 104) = w1 := hw1
  rw [hw1'] at hc1 hn hb HB
  clear hw1 hw1' hb
  obtain ⟨Y, hYe⟩ : ∃ Y, Y = w.heap.size := ⟨_, rfl⟩
  rw [← hYe] at hn HB ⊢
  have HYe := Lib.hid hYe
  clear hYe
  obtain ⟨q0, q1, q2, q3, q4, q5, q6⟩ := hc1
  obtain ⟨p0, p1, p2, p3, p4, p5, p6⟩ := hn
  simp only [Nat.zero_add] at p0 p1 p2 p3 p4 p5 p6 q0 q1 q2 q3 q4 q5 q6
  go_wp2_with fail
  refine (Same_c x c w1).mono ?_
  rintro e w2 ⟨rfl, hb2⟩
  have HB2 := Lib.hid (show Below w.heap.size w w2 from by have h := HB.out.trans (hb2.mono (by rw [HYe.out]; exact HB.out.size)); rw [HYe.out] at h; exact h)
  clear hb2 q0 q1 q2 q3 q4 q5 q6 p0 p1 p2 p3 p4 p5 p6
  go_wp2
  go_ret
  exact ⟨rfl, HB2.out⟩

section
variable {w : World} {base : Nat} {F : Nat → Prop} {g : Nat} {s : WrV}
set_option maxRecDepth 100000 in
set_option maxHeartbeats 2000000 in
theorem WKnown_c (h : WrAt w base F g s) (hl : s.L.length ≤ 1000) (hos : s.os.length ≤ 1000000) (hme : isWriter s.me = true) : Calls Tryz.prog 50 #[.pointer (some ⟨g, 0, none⟩)] w fun e w' => ∃ a' cap', e = .returned (.slice a' (knownOf (clrOf s.me) s.os s.L).length cap') ∧
    OwnRow w' w.heap.size 104 7 a' (knownOf (clrOf s.me) s.os s.L).length cap' (flat (knownOf (clrOf s.me) s.os s.L)) ∧ Below w.heap.size w w' := by
  obtain ⟨a, cap, oa, ocap, es, r⟩ := h.rows
  have hglt := h.lt
  have c3 := r.c3
  have c4 := r.c4
  have c0 := h.c0
  have HME := Lib.hid (show s.me = 0 ∨ s.me = 1 ∨ s.me = 2 ∨ s.me = 3 from by
    have hm : 0 ≤ s.me ∧ s.me < 4 := by simpa [isWriter] using hme
    omega)
  have hel : es.length ≤ 1000000 := by rw [r.len]; exact hos
  have HEO := Lib.hid (show es.map OpE.o = s.os from r.eo)
  have HSL := Lib.hid r.ra.slCh
  have HR := Lib.hid r
  obtain ⟨B0, hB0⟩ : ∃ B0, B0 = w.heap.size := ⟨_, rfl⟩
  rw [← hB0] at hglt ⊢
  have HB0 := Lib.hid hB0
  have HBR := Lib.hid (show Below B0 w w from Below.refl _ _)
  clear r h hme hB0
  go_enter Tryz.func50, Tryz.ntmps50
  go_wp2
  go_loopw [3, 13] (fun s3 s13 wr => ∃ (i n : Nat) (a' : Option Addr) (cap' : Nat), i ≤ s.L.length ∧ s13 = (.int .i64 i) ∧ s3 = .slice a' n cap' ∧ n ≤ i ∧ Hid (OwnRow wr B0 104 7 a' n cap' (flat (knownOf (clrOf s.me) s.os (s.L.take i))) ∧ n = (knownOf (clrOf s.me) s.os (s.L.take i)).length) ∧ Hid (Below B0 w wr)) (fun _ s13 _ => s.L.length - (intOf s13).toNat)
  case atStart => exact ⟨0, 0, none, 0, Nat.zero_le _, rfl, rfl, Nat.le_refl _, Lib.hid ⟨OwnRow.nil _ _ _ _ _, rfl⟩, HBR⟩
  case round =>
    obtain ⟨i, n, a', cap', hi, rfl, rfl, hni, HO, HB⟩ := hrel
    clear c3 HBR
    by_cases hlt : i < s.L.length
    · obtain ⟨cb, off, rfl, hcc⟩ := (HSL.out.below (by rw [HB0.out] at HB; exact HB.out)).nth hlt
      have HKS := Lib.hid (known_step (clrOf s.me) s.os s.L i hlt)
      have hlt' : (i : Int) < s.L.length := by omega
      have hi0 : (0 : Int) ≤ (i : Int) := by omega
      have hltB : decide ((i : Int) < (s.L.length : Int)) = true := decide_eq_true hlt'
      generalize s.L[i] = c at *
      obtain ⟨q0, q1, q2, q3, q4, q5, q6⟩ := hcc
      have hsw : B0 ≤ wr.heap.size := by have := HB.out.size; rw [HB0.out]; exact this
      go_upto_region 5 with fail
      generalize hw5 : wr.alloc _ = w5
      have hw5' : wr.alloc (.cells #[.int .u8 c.C, .int .i64 c.By, .int .i64 c.No, .int .i64 c.K, .int .i64 c.In, .int .i64 c.Out, .int .i64 c.Gone] 104) = w5 := hw5
      have hb5 : Below wr.heap.size wr w5 := by rw [← hw5']; exact (Below.refl wr.heap.size wr).alloc (Nat.le_refl _) _
      have HX5 := Lib.hid (show ChBox w5 wr.heap.size c from by rw [← hw5']; exact ChBox.new wr c)
      clear hw5 hw5' q0 q1 q2 q3 q4 q5 q6
      obtain ⟨Z, hZ⟩ : ∃ Z, Z = wr.heap.size := ⟨_, rfl⟩
      rw [← hZ] at HX5 ⊢
      have HZB := Lib.hid (show B0 ≤ Z by omega)
      have HZO := Lib.hid (show ∀ k, ownB a' cap' = some k → k ≠ Z from fun k hk e => by have := (HO.out.1.base_le k hk).2; omega)
      have HO5 := Lib.hid (show OwnRow w5 B0 104 7 a' n cap' (flat (knownOf (clrOf s.me) s.os (s.L.take i))) from HO.out.1.below hb5)
      have HN := Lib.hid HO.out.2
      have HB5 := Lib.hid (HB.out.trans (hb5.mono hsw))
      clear hZ hb5 HO HB hsw
      obtain ⟨q0, q1, q2, q3, q4, q5, q6⟩ := HX5.out.at_
      simp only [Nat.zero_add] at q0 q1 q2 q3 q4 q5 q6
      cases hop : isOpen c with
      | true =>
        have hin : c.In = 1073741824 := by unfold isOpen at hop; simpa using hop
        have HKN := Lib.hid (show OwnRow w5 B0 104 7 a' n cap' (flat (knownOf (clrOf s.me) s.os (s.L.take (i + 1)))) ∧ n = (knownOf (clrOf s.me) s.os (s.L.take (i + 1))).length from by
          rw [HKS.out, hop, if_pos rfl, List.append_nil]; exact ⟨HO5.out, HN.out⟩)
        rw [hin] at q4
        clear HKS hop hin q0 q1 q2 q3 q5 q6 HO5 HN HX5
        go_wp2
        exact ⟨⟨i + 1, n, a', cap', by omega, by go_num, rfl, by omega, HKN, HB5⟩, by simp [intOf]; omega⟩
      | false =>
        have hinB : decide (c.In = 1073741824) = false := by unfold isOpen at hop; simpa using hop
        have hinB2 : (c.In == 1073741824) = false := by simpa using hinB
        rw [hop] at HKS
        clear hop q0 q1 q2 q3 q5 q6
        have c4' := (HB5.out.cell (p := ⟨g, 4, none⟩) hglt).trans c4
        go_wp2
        clear c4' q4 hinB hinB2
        go_loopw [25] (fun s25 wx => ∃ (j : Nat), j ≤ es.length ∧ s25 = (.int .i64 j) ∧ Hid (ChBox wx Z (ungos (clrOf s.me) (s.os.take j) c)) ∧ Hid (OwnRow wx B0 104 7 a' n cap' (flat (knownOf (clrOf s.me) s.os (s.L.take i)))) ∧ Hid (Below B0 w wx)) (fun s25 _ => es.length - (intOf s25).toNat)
        case atStart => exact ⟨0, Nat.zero_le _, rfl, HX5, HO5, HB5⟩
        case round =>
          obtain ⟨j, hj, rfl, HX, HO, HB⟩ := hrel
          clear HX5 HO5 HB5
          by_cases hjl : j < es.length
          · obtain ⟨b, off, rfl, hbb, hbl, _, p0, p1, p2, p3, p4, p5, p6, p7, p8⟩ := HR.out.nth j hjl
            have hc : ∀ o, wr.cell? ⟨b, o, none⟩ = w.cell? ⟨b, o, none⟩ := fun o => HB.out.cell (p := ⟨b, o, none⟩) (by rw [HB0.out]; exact hbl)
            rw [← hc] at p0 p1 p2 p3 p4 p5 p6 p7 p8
            clear hc
            have hjs : j < s.os.length := by rw [← HEO.out, List.length_map]; exact hjl
            have HOE := Lib.hid (show s.os[j] = es[j].o from by
              have : (es.map OpE.o)[j]'(by simpa using hjl) = es[j].o := by simp
              rw [← this]; simp only [HEO.out])
            have HTK := Lib.hid (show SlCh wr es[j].ta es[j].tc es[j].took from (HR.out.rt es[j] (List.getElem_mem hjl)).1.slCh.below (by have := HB.out; rw [HB0.out] at this; exact this))
            have HUS := Lib.hid (ungos_step (clrOf s.me) s.os c j hjs)
            rw [HOE.out] at HUS
            have hjl' : (j : Int) < es.length := by omega
            have hj0 : (0 : Int) ≤ (j : Int) := by omega
            have hjlB : decide ((j : Int) < (es.length : Int)) = true := decide_eq_true hjl'
            generalize es[j] = e at *
            generalize ungos (clrOf s.me) (s.os.take j) c = u at *
            have hsw : B0 ≤ wr.heap.size := by have := HB.out.size; rw [HB0.out]; exact this
            go_upto_region 9 with fail
            generalize hw6 : wr.alloc _ = w6
            have hw6' : wr.alloc (.cells #[.int .i64 e.d.Kind, .int .i64 e.d.By, .int .i64 e.d.No, .int .i64 e.d.Seen, .int .i64 e.d.At, .int .i64 e.d.Many, .string e.d.Text, .slice e.ta e.took.length e.tc, .bool e.sent] 102) = w6 := hw6
            have hb6 : Below wr.heap.size wr w6 := by rw [← hw6']; exact (Below.refl wr.heap.size wr).alloc (Nat.le_refl _) _
            have x7 : w6.cell? ⟨wr.heap.size, 7, none⟩ = some (.slice e.ta e.took.length e.tc) := by rw [← hw6']; simp
            clear hw6 hw6' p0 p1 p2 p3 p4 p5 p6 p7 p8
            generalize wr.heap.size = Y at x7 ⊢
            have HX6 := Lib.hid (HX.out.later hb6)
            have HO6 := Lib.hid (HO.out.below hb6)
            have HB6 := Lib.hid (HB.out.trans (hb6.mono hsw))
            have HTK6 := Lib.hid (HTK.out.below hb6)
            clear hb6 HX HO HB HTK hsw
            have hp : PredCall Tryz.prog 74 #[] #[.pointer (some ⟨Z, 0, none⟩)] (fun x => x.same u) w6 := fun x W hb => known1_c x u Z W (HX6.out.at_.below hb HX6.out.at_.lt)
            go_wp2_with fail
            refine (ContainsFunc_c e.ta e.tc e.took _ _ _ _ _ HTK6.out hp (enters_of Tryz.func74 (by kernel_rfl) rfl)).mono ?_
            rintro en w7 ⟨rfl, hb7⟩
            have HX7 := Lib.hid (HX6.out.later hb7)
            have HO7 := Lib.hid (HO6.out.below hb7)
            have HB7 := Lib.hid (HB6.out.trans (hb7.mono (by have := HB6.out.size; rw [HB0.out]; exact this)))
            clear hp hb7 HX6 HO6 HB6 HTK6 x7
            cases hany : (e.took.any fun x => x.same u) with
            | false =>
              have HX8 := Lib.hid (show ChBox w7 Z (ungos (clrOf s.me) (s.os.take (j + 1)) c) from by
                rw [HUS.out]; unfold ungo
                rw [show (e.o.took.any fun x => x.same u) = false from hany]
                exact HX7.out)
              clear hany HUS HOE HX7
              go_wp2
              exact ⟨⟨j + 1, by omega, by go_num, HX8, HO7, HB7⟩, by simp [intOf]; omega⟩
            | true =>
              have HUE := Lib.hid (show ungos (clrOf s.me) (s.os.take (j + 1)) c = { u with Gone := clrOf s.me u.Gone } from by
                rw [HUS.out]; unfold ungo
                rw [show (e.o.took.any fun x => x.same u) = true from hany, if_pos rfl])
              clear hany HUS HOE
              have q6 := HX7.out.at_.2.2.2.2.2.2
              simp only [Nat.zero_add] at q6
              have f6 := HX7.out.fz 6 (by omega)
              have hZl := HX7.out.at_.lt
              have c0' := (HB7.out.cell (p := ⟨g, 0, none⟩) hglt).trans c0
              go_upto_region 10 with fail
              have HQ := Lib.hid (fun W (hW : Later w7 W) => show ChBox (W.setCell ⟨Z, 6, none⟩ (.int .i64 (clrOf s.me u.Gone))) Z { u with Gone := clrOf s.me u.Gone } ∧ OwnRow (W.setCell ⟨Z, 6, none⟩ (.int .i64 (clrOf s.me u.Gone))) B0 104 7 a' n cap' (flat (knownOf (clrOf s.me) s.os (s.L.take i))) ∧ Below B0 w (W.setCell ⟨Z, 6, none⟩ (.int .i64 (clrOf s.me u.Gone))) from
                ⟨(HX7.out.later hW).gone _, (HO7.out.below hW).setCell _ _ HZO.out, (HB7.out.trans (hW.mono (by have := HB7.out.size; rw [HB0.out]; exact this))).setCell (p := ⟨Z, 6, none⟩) HZB.out _⟩)
              rw [← HUE.out] at HQ
              have HRE := Lib.hid (show ∃ R, R = knownOf (clrOf s.me) s.os (s.L.take i) from ⟨_, rfl⟩)
              have F6 : ∀ q : Lt w7, q.v.frozen? ⟨Z, 6, none⟩ = false := fun q => (Below.frozen q.h (p := ⟨Z, 6, none⟩) hZl).trans f6
              have Q6 := later_cell q6
              have C0 := later_cell c0'
              have hL : ∀ q : Lt w7, Later w7 q.v := fun q => q.h
              clear q6 f6 c0' HX7 HO7 HB7 HUE HRE hZl
              obtain ⟨cv, hcv⟩ : ∃ cv, cv = clrOf s.me u.Gone := ⟨_, rfl⟩
              rw [← hcv] at HQ
              have HCV := Lib.hid hcv
              obtain ⟨me, hme⟩ : ∃ me, me = s.me := ⟨_, rfl⟩
              rw [← hme] at C0 hcv
              have HM4 := Lib.hid (show me = 0 ∨ me = 1 ∨ me = 2 ∨ me = 3 from by rw [hme]; exact HME.out)
              clear hme
              rcases HM4.out with rfl | rfl | rfl | rfl
              all_goals
                unfold clrOf at hcv
                refine wp_region_x [] [9] [0, 1, 2, 3, 4, 5, 6, 7, 8, 9] (by kernel_rfl) (by kernel_rfl) ?_
                iterate 9 (refine wpX_step rfl (fun K hK => ?_); go_simp; refine hK _ _ ?_; clear hK K)
                refine wpX_step rfl (fun K hK => ?_)
                go_simp
                intro p
                have hf := F6 p
                have hq := Q6 p.v (hL p)
                go_simp
                change K _ (p.v.setCell ⟨Z, 6, none⟩ (.int .i64 _))
                refine hK _ _ ?_
                clear hK K hf hq
                have HQp := Lib.hid (HQ.out p.v p.h)
                clear HQ F6 Q6 C0 hL
                refine wpX_nil ?_
                intro w8 hL8
                have hL9 : Later (p.v.setCell ⟨Z, 6, none⟩ (.int .i64 cv)) w8 := by rw [hcv]; exact hL8
                have HX8 := Lib.hid (HQp.out.1.later hL9)
                have HO8 := Lib.hid (HQp.out.2.1.below hL9)
                have HB8 := Lib.hid (HQp.out.2.2.trans (Below.mono hL9 (by have := HQp.out.2.2.size; rw [HB0.out]; exact this)))
                clear hL8 hL9 HQp hcv HCV
                go_wp2
                exact ⟨⟨j + 1, by omega, by go_num, HX8, HO8, HB8⟩, by simp [intOf]; omega⟩
          · obtain rfl : j = es.length := by omega
            have hltB2 : decide ((es.length : Int) < (es.length : Int)) = false := by simp
            have hfull : s.os.take es.length = s.os := by rw [← HEO.out, List.take_of_length_le (by simp)]
            rw [hfull] at HX
            have HKN := Lib.hid (show flat (knownOf (clrOf s.me) s.os (s.L.take i)) ++ Ch.cells (ungos (clrOf s.me) s.os c) = flat (knownOf (clrOf s.me) s.os (s.L.take (i + 1))) ∧ n + 1 = (knownOf (clrOf s.me) s.os (s.L.take (i + 1))).length from by
              rw [HKS.out, if_neg (by simp), flat_append, List.length_append, ← HN.out]
              exact ⟨by simp [flat], rfl⟩)
            generalize ungos (clrOf s.me) s.os c = u at *
            obtain ⟨q0, q1, q2, q3, q4, q5, q6⟩ := HX.out.at_
            simp only [Nat.zero_add] at q0 q1 q2 q3 q4 q5 q6
            clear hfull HX HKS HN
            have hx8 : B0 ≤ wr.heap.size := by have := HB.out.size; rw [HB0.out]; exact this
            go_wp2_with (at_builtin; refine wpList_append_new rfl (.tmp 43) (.tmp 45) 64 rfl B0 104 7 56 Tryz.underlying64 ti_Char a' n cap' _ rfl HO.out 1 1 (Ch.cells u) rfl rfl (Ch.cells_one u) (by omega) hx8 ?_)
            intro a3 cap3 w9 hown9 hb9 hz9 hg9
            have HO9 := Lib.hid (show OwnRow w9 B0 104 7 a3 (n + 1) cap3 (flat (knownOf (clrOf s.me) s.os (s.L.take (i + 1)))) ∧ n + 1 = (knownOf (clrOf s.me) s.os (s.L.take (i + 1))).length from ⟨by rw [← HKN.out.1]; exact hown9, HKN.out.2⟩)
            have HB9 := Lib.hid (HB.out.trans hb9)
            clear hown9 hb9 hg9 HKN HO HB q0 q1 q2 q3 q4 q5 q6
            go_wp2
            exact ⟨⟨i + 1, n + 1, a3, cap3, by omega, by go_num, rfl, by omega, HO9, HB9⟩, by simp [intOf]; omega⟩
    · obtain rfl : i = s.L.length := by omega
      have hltB : decide ((s.L.length : Int) < (s.L.length : Int)) = false := by simp
      have HO2 := Lib.hid (show OwnRow wr B0 104 7 a' n cap' (flat (knownOf (clrOf s.me) s.os s.L)) ∧ n = (knownOf (clrOf s.me) s.os s.L).length from by
        have := HO.out
        rw [List.take_length] at this
        exact this)
      clear HO
      go_wp2
      go_ret
      exact ⟨a', cap', by rw [← HO2.out.2]; rfl, by rw [← HO2.out.2]; exact HO2.out.1, HB.out⟩
end
end Go.Proofs.YtneoeokfffnonacGreat
