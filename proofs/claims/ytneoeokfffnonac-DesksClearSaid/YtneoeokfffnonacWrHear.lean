/- The walk of the Writer's Hear. -/
import Derived.Test.YtneoeokfffnonacWrNum
set_option linter.unusedVariables false
set_option linter.unusedSimpArgs false
namespace Go.Proofs.Ytneoeokfffnonac
open Go.RowKit

theorem guard_DeedW : Try.prog.eqGuardType Try.prog.depth 24 = false := by kernel_rfl
theorem neq_Deed (x y : Dd) (w : World) : (binOp .neq 24 (.agg #[.int .i64 x.Kind, .int .i64 x.By, .int .i64 x.No, .int .i64 x.Seen, .int .i64 x.At, .int .i64 x.Many, .string x.Text]) (.agg #[.int .i64 y.Kind, .int .i64 y.By, .int .i64 y.No, .int .i64 y.Seen, .int .i64 y.At, .int .i64 y.Many, .string y.Text])).run Try.prog w = .ok (.bool (!decide (x = y))) w := by
  have u3 := Try.underlying3
  have a3 := Try.isAgg3
  have z3 := Try.sizeOf3
  have u5 := Try.underlying9
  have a5 := Try.isAgg9
  have z5 := Try.sizeOf9
  have hS : Try.prog.underlying 24 = some (.struct (Try.prog.fieldsOf 24)) := by kernel_rfl
  have hp : Try.prog.stoodInHeld 24 = false := by kernel_rfl
  rw [run_neq_struct, show (10000 : Nat) = 9999 + 1 from rfl, run_equalIn_agg w 9999 24 _ _ hS hp]
  simp only [Program.fieldsOf, Try.underlying24]
  obtain ⟨k, b, n, s, a, m, t⟩ := x
  obtain ⟨k', b', n', s', a', m', t'⟩ := y
  have e : decide ((⟨k, b, n, s, a, m, t⟩ : Dd) = ⟨k', b', n', s', a', m', t'⟩) = (decide (k = k') && decide (b = b') && decide (n = n') && decide (s = s') && decide (a = a') && decide (m = m') && decide (t = t')) := by
    simp only [Dd.mk.injEq, Bool.decide_and, Bool.and_assoc]
  rw [e]
  have ht : (t.toList = t'.toList) ↔ t = t' := ⟨fun h => ba_ext (by rwa [ByteArray.toList_eq, ByteArray.toList_eq] at h), fun h => by rw [h]⟩
  go_simp
  try simp only [ht]
  repeat' split
  all_goals simp_all

/-- What Hear does. -/
def WHearPost (w : World) (base : Nat) (F : Nat → Prop) (g : Nat) (s : WrV) (d : Dd) (e : Ending) (w' : World) : Prop :=
  (d.By ≠ s.me ∧ e = .returned (.int .i64 (doF s.L d (s.seen + 1)).2) ∧ Moves F w w' ∧ ((doF s.L d (s.seen + 1)).2 ≠ 0 ∧ WrAt w' base F g s ∨ (doF s.L d (s.seen + 1)).2 = 0 ∧ ∃ F', WrAt w' base F' g { s with L := (doF s.L d (s.seen + 1)).1, seen := s.seen + 1 } ∧ Grows F w F')) ∨
  (d.By = s.me ∧ (∀ o, s.os.head? = some o → o.d ≠ d) ∧ e = .returned (.int .i64 12) ∧ Moves F w w' ∧ WrAt w' base F g s) ∨
  (d.By = s.me ∧ ∃ o os, s.os = o :: os ∧ o.d = d ∧ e = .returned (.int .i64 0) ∧ Moves F w w' ∧ WrAt w' base F g { s with L := s.L.map (numC s.me d.No (s.seen + 1) fun k => decide (k ∈ o.took.map key)), os := os, ns := s.ns - 1, seen := s.seen + 1 })

set_option maxRecDepth 100000 in
set_option maxHeartbeats 2000000 in
theorem WHear_c {w : World} {base : Nat} {F : Nat → Prop} {g : Nat} {s : WrV} (h : WrAt w base F g s) (hG : ∀ c ∈ s.L, i64ok c.Gone) (hl : s.L.length ≤ 1000) (hos : s.os.length ≤ 1000000) (hsn : 0 ≤ s.seen ∧ s.seen ≤ 1000000) (d : Dd) (hdt : d.Text.size ≤ maxLen) (hdm : i64ok d.Many) :
    Calls Try.prog 24 #[.pointer (some ⟨g, 0, none⟩), .agg #[.int .i64 d.Kind, .int .i64 d.By, .int .i64 d.No, .int .i64 d.Seen, .int .i64 d.At, .int .i64 d.Many, .string d.Text]] w (WHearPost w base F g s d) := by
  have hb0 := (Below.refl w.heap.size w).alloc (Nat.le_refl _) (.cells #[.int .i64 d.Kind, .int .i64 d.By, .int .i64 d.No, .int .i64 d.Seen, .int .i64 d.At, .int .i64 d.Many, .string d.Text] 24)
  have HA0 := Lib.hid (h.later hb0)
  have HD0 := Lib.hid (DdAt.new w d)
  have HM0 := Lib.hid (Moves.of_below (F := F) hb0)
  have HNF := Lib.hid (show ¬ F w.heap.size from fun hf => Nat.lt_irrefl _ (h.foot _ hf).2)
  have HFX := Lib.hid (show ∀ k, F k → k < w.heap.size from fun k hk => (h.foot k hk).2)
  have HFG := Lib.hid h.fg
  have HG := Lib.hid hG
  have HDT := Lib.hid hdt
  have HDM := Lib.hid hdm
  have hbs := h.base_le
  have hinc : IntKind.i64.wrap (s.seen + 1) = s.seen + 1 := by rw [IntKind.wrap_i64]; omega
  clear h hb0 hG hdt hdm
  go_enter Try.func24, Try.ntmps24
  have c1 := HA0.out.c1
  go_upto_region 2 with fail
  clear c1
  generalize hw0 : w.alloc _ = w0
  have hw0' : w.alloc (.cells #[.int .i64 d.Kind, .int .i64 d.By, .int .i64 d.No, .int .i64 d.Seen, .int .i64 d.At, .int .i64 d.Many, .string d.Text] 24) = w0 := hw0
  rw [hw0'] at HA0 HD0 HM0
  clear hw0 hw0'
  obtain ⟨X, hX⟩ : ∃ X, X = w.heap.size := ⟨_, rfl⟩
  rw [← hX] at HD0 HNF HFX ⊢
  have hXB : base ≤ X := by omega
  have HXW := Lib.hid hX
  have hXl : X < w0.heap.size := HD0.out.lt
  clear hX
  obtain ⟨N, hN⟩ : ∃ N, N = s.seen + 1 := ⟨_, rfl⟩
  have HNE := Lib.hid hN
  have hN1 : 1 ≤ N := by omega
  rw [← hN]
  clear hN hinc
  have c0 := HA0.out.c0
  obtain ⟨_, _, d1, _, _, _, _, _⟩ := HD0.out
  by_cases hown : d.By = s.me
  case neg =>
    have HOW := Lib.hid hown
    have hneB : (d.By != s.me) = true := by simpa using hown
    have hneD : decide (d.By = s.me) = false := decide_eq_false hown
    clear hown
    go_quiet (fail)
    have hL1 : Later w0 (w0.drewN nq) := bl_drewN (Below.refl _ _) nq
    generalize w0.drewN nq = w1 at *
    have HA1 := Lib.hid (HA0.out.later hL1)
    have HD1 := Lib.hid (HD0.out.later hL1)
    have HM1 := Lib.hid (HM0.out.trans (Moves.of_below (F := F) hL1) (fun _ _ k => k))
    clear hL1 c0 d1 HA0 HD0 HM0 hneB hneD hXl
    obtain ⟨dlt, d0, d1, d2, d3, d4, d5, d6⟩ := HD1.out
    obtain ⟨a, cap, oa, ocap, es, r⟩ := HA1.out.rows
    have D0 := later_cell d0
    have D1 := later_cell d1
    have D2 := later_cell d2
    have D3 := later_cell d3
    have D4 := later_cell d4
    have D5 := later_cell d5
    have D6 := later_cell d6
    have C3 := later_cell r.c3
    have HSL := Lib.hid r.ra.slCh
    have HNC := Lib.hid r.ra.nilcap
    clear d0 d1 d2 d3 d4 d5 d6 r
    have hL : ∀ q : Lt w1, Later w1 q.v := fun q => q.h
    go_upto_region 3 with fail
    refine wp_region_mix [6] [0, 1, 2, 3, 4, 5, 6, 7, 8, 9, 10, 11] (by kernel_rfl) (by kernel_rfl) ?_
    iterate 6 (refine wpMix_step rfl (fun K hK => ?_); go_simp; refine hK _ _ ?_; clear hK K)
    refine wpMix_step rfl (fun K hK => ?_)
    go_simp
    intro p
    refine (Do_c a cap s.L d N p.v (HSL.out.below p.h) HNC.out (by omega) HDT.out HDM.out HG.out).mono ?_
    rintro e w3 ⟨a3, cap3, rfl, ho3, hb3⟩
    refine ⟨_, rfl, hb3, hK _ _ ?_⟩
    clear hK K
    have hl3 : Later w1 w3 := (hL p).trans hb3
    have HO3 := Lib.hid (ho3.mono (show w1.heap.size ≤ p.v.heap.size from (hL p).size))
    clear ho3 hb3 p hL HSL HNC D0 D1 D2 D3 D4 D5 D6 C3
    iterate 5 (refine wpMix_step rfl (fun K hK => ?_); go_simp; refine hK _ _ ?_; clear hK K)
    refine wpMix_nil ?_
    intro w4 hL4
    have hl4 : Below w1.heap.size w1 w4 := hl3.trans hL4
    have HO4 := Lib.hid (HO3.out.below hL4)
    have HA4 := Lib.hid (HA1.out.later hl4)
    have HM4 := Lib.hid (HM1.out.trans (Moves.of_below (F := F) hl4) (fun _ _ k => k))
    have hx1 : w.heap.size ≤ w1.heap.size := HM1.out.size
    have HNF4 := Lib.hid (show ∀ k, ownB a3 cap3 = some k → ¬ F k from fun k hk hf => by
      have h1 := (HO4.out.base_le k hk).1; have h2 := (HA1.out.foot k hf).2; omega)
    have HGR := Lib.hid (fun k (hk : ownB a3 cap3 = some k) => Nat.le_trans hx1 (HO4.out.base_le k hk).1)
    have hbs1 : base ≤ w1.heap.size := HA1.out.base_le
    clear hl3 hL4 HO3 hl4 HA1 HD1 HM1 dlt hx1
    obtain ⟨l3, hl3⟩ : ∃ l3, l3 = (doF s.L d N).1 := ⟨_, rfl⟩
    obtain ⟨code, hcode⟩ : ∃ code, code = (doF s.L d N).2 := ⟨_, rfl⟩
    rw [← hl3] at HO4 ⊢
    rw [← hcode]
    have HL3 := Lib.hid hl3
    have HCO := Lib.hid hcode
    clear hl3 hcode
    by_cases hc : code = 0
    · subst hc
      have c3 := HA4.out.rows
      obtain ⟨a, cap, oa, ocap, es, r⟩ := HA4.out.rows
      have c3 := r.c3
      have f3 := HA4.out.fz 3 (by omega)
      have c1 := HA4.out.c1
      have f1 := HA4.out.fz 1 (by omega)
      clear r
      have HE := Lib.hid ((HA4.out.setList a3 cap3 l3 (HO4.out.mono hbs1) HNF4.out).setSeen N)
      have HM5 := Lib.hid ((HM4.out.trans (Moves.setCell w4 ⟨g, 3, none⟩ (.slice a3 l3.length cap3) HFG.out) (fun _ _ k => k)).trans (Moves.setCell (w4.setCell ⟨g, 3, none⟩ (.slice a3 l3.length cap3)) ⟨g, 1, none⟩ (.int .i64 N) HFG.out) (fun _ _ k => k))
      clear HA4 HM4 HO4
      go_wp2
      go_ret
      refine Or.inl ⟨HOW.out, ?_, HM5.out, Or.inr ⟨?_, fun k => F k ∨ ownB a3 cap3 = some k, ?_, ?_⟩⟩
      · rw [← HNE.out, ← HCO.out]; rfl
      · rw [← HNE.out]; exact HCO.out.symm
      · rw [← HNE.out, ← HL3.out]; exact HE.out
      · intro k hk
        rcases hk with hk | hk
        · exact .inl hk
        · exact .inr (HGR.out k hk)
    · have hcB : (code == 0) = false := by simpa using hc
      have hcD : decide (code = 0) = false := decide_eq_false hc
      have HCN := Lib.hid hc
      clear hc HO4
      go_wp2
      go_ret
      refine Or.inl ⟨HOW.out, ?_, HM4.out, Or.inl ⟨?_, HA4.out⟩⟩
      · rw [← HNE.out, ← HCO.out]; rfl
      · rw [← HNE.out, ← HCO.out]; exact HCN.out
  case pos =>
    have HOW := Lib.hid hown
    rw [hown] at d1
    clear hown
    go_quiet (fail)
    have hL1 : Later w0 (w0.drewN nq) := bl_drewN (Below.refl _ _) nq
    generalize w0.drewN nq = w1 at *
    have HA1 := Lib.hid (HA0.out.later hL1)
    have HD1 := Lib.hid (HD0.out.later hL1)
    have HM1 := Lib.hid (HM0.out.trans (Moves.of_below (F := F) hL1) (fun _ _ k => k))
    clear hL1 c0 d1 HA0 HD0 HM0 hXl
    obtain ⟨dlt, d0, d1, d2, d3, d4, d5, d6⟩ := HD1.out
    obtain ⟨a, cap, oa, ocap, es, r⟩ := HA1.out.rows
    have c4 := r.c4
    have hel := r.len
    cases es with
    | nil =>
      have HNO := Lib.hid (show ∀ o, s.os.head? = some o → o.d ≠ d from fun o ho => by
        have := r.eo; rw [← this] at ho; cases ho)
      have c4 : w1.cell? ⟨g, 4, none⟩ = some (.slice oa 0 ocap) := c4
      clear r hel
      go_upto_region 7 with fail
      go_quiet (fail)
      have hL2 : Later w1 (w1.drewN nq) := bl_drewN (Below.refl _ _) nq
      generalize w1.drewN nq = w2 at *
      have HA2 := Lib.hid (HA1.out.later hL2)
      have HM2 := Lib.hid (HM1.out.trans (Moves.of_below (F := F) hL2) (fun _ _ k => k))
      clear hL2 HA1 HD1 HM1 c4 d0 d1 d2 d3 d4 d5 d6 dlt
      go_wp2
      go_ret
      exact Or.inr (Or.inl ⟨HOW.out, HNO.out, rfl, HM2.out, HA2.out⟩)
    | cons e0 es' =>
      obtain ⟨b, off, eoa, hbb, hbl, hob, q0, q1, q2, q3, q4, q5, q6, q7, q8⟩ := r.nth 0 (by simp)
      subst eoa
      simp only [Nat.zero_mul, Nat.add_zero, List.getElem_cons_zero] at q0 q1 q2 q3 q4 q5 q6 q7 q8
      have hgd := guard_DeedW
      have hneq := neq_Deed e0.d d
      have HEO := Lib.hid r.eo
      have hlpos : (0 : Int) < (((e0 :: es').length : Nat) : Int) := by show (0 : Int) < ((es'.length + 1 : Nat) : Int); omega
      have hlne : ((((e0 :: es').length : Nat) : Int) == 0) = false := by rw [beq_eq_false_iff_ne]; show ((es'.length + 1 : Nat) : Int) ≠ 0; omega
      have hlnd : decide ((((e0 :: es').length : Nat) : Int) = 0) = false := decide_eq_false (by omega)
      obtain ⟨nn, hnn⟩ : ∃ nn, nn = (e0 :: es').length := ⟨_, rfl⟩
      rw [← hnn] at c4 hlpos hlne hlnd
      have HNN := Lib.hid hnn
      have hnn1 : 0 < nn := by rw [hnn]; simp
      clear hnn
      have HR := Lib.hid r
      go_upto_region 7 with fail
      by_cases hde : e0.d = d
      · have HDE := Lib.hid hde
        have hdeB : decide (e0.d = d) = true := decide_eq_true hde
        clear r hde
        go_quiet (fail)
        have hL2 : Later w1 (w1.drewN nq) := bl_drewN (Below.refl _ _) nq
        generalize w1.drewN nq = w2 at *
        have HA2 := Lib.hid (HA1.out.later hL2)
        have HM2 := Lib.hid (HM1.out.trans (Moves.of_below (F := F) hL2) (fun _ _ k => k))
        have hmb : Moves (fun k => w1.heap.size ≤ k) w1 w2 := Moves.of_below hL2
        have HR2 := Lib.hid (HR.out.moves HA1.out.lt HA1.out.fg hmb fun k hk => by have := (HA1.out.foot k hk).2; omega)
        clear hL2 hmb HA1 HD1 HM1 c4 d0 d1 d2 d3 d4 d5 d6 dlt q0 q1 q2 q3 q4 q5 q6 q7 q8 hneq hgd HR hlpos hlne hlnd hdeB
        have c4 := HR2.out.c4
        rw [← HNN.out] at c4
        obtain ⟨b', off', eoa, hbb, hbl, hob, q0, q1, q2, q3, q4, q5, q6, q7, q8⟩ := HR2.out.nth 0 (by simp)
        cases eoa
        simp only [Nat.zero_mul, Nat.add_zero, List.getElem_cons_zero] at q0 q1 q2 q3 q4 q5 q6 q7 q8
        have hnn0 : (0 : Int) < (nn : Int) := by omega
        have HWN := Lib.hid (Wnumber_c HA2.out HR2.out e0 (by simp) N hl)
        go_wp2_with fail
        refine HWN.out.mono ?_
        rintro e w3 ⟨⟨v, rfl⟩, hA3, hR3, hm3⟩
        rw [HDE.out] at hA3 hR3
        have c4 := hR3.c4
        rw [← HNN.out] at c4
        have f4 := hA3.fz 4 (by omega)
        have c1 := hA3.c1
        have f1 := hA3.fz 1 (by omega)
        have hcap : nn ≤ ocap := by rw [HNN.out]; exact hR3.ro.le
        have h1n : (1 : Int) ≤ (nn : Int) := by omega
        by_cases hc1 : ocap = 1
        · subst hc1
          have hnn2 : nn = 1 := by omega
          have HN1 := Lib.hid (show (e0 :: es').length = 1 from by rw [← HNN.out]; exact hnn2)
          subst hnn2
          have HA4 := Lib.hid ((hA3.dropLast hR3 HN1.out).setSeen N)
          have HM4 := Lib.hid (((HM2.out.trans hm3 (fun _ _ k => k)).trans (Moves.setCell w3 ⟨g, 4, none⟩ (.slice (some ⟨b, off, none⟩) 0 0) HFG.out) (fun _ _ k => k)).trans (Moves.setCell _ ⟨g, 1, none⟩ (.int .i64 N) HFG.out) (fun _ _ k => k))
          clear hA3 hR3 hm3 HWN HA2 HM2 HR2 q0 q1 q2 q3 q4 q5 q6 q7 q8 hbb hbl hob
          go_wp2
          go_ret
          refine Or.inr (Or.inr ⟨HOW.out, e0.o, es'.map OpE.o, HEO.out.symm, HDE.out, rfl, HM4.out, ?_⟩)
          have h4 := HA4.out
          rw [← HNE.out]
          have e1 : s.os.tail = es'.map OpE.o := by rw [← HEO.out]; rfl
          rw [e1] at h4
          exact h4
        · have hcs : ocap - 1 ≠ 0 := by omega
          have hcs2 : ¬ ocap ≤ 1 := by omega
          have hcs3 : 1 < ocap := by omega
          have hcs4 : (1 : Int) < (ocap : Int) := by omega
          have HA4 := Lib.hid (((show WrAt (w3.setCell ⟨g, 4, none⟩ (.slice (some ⟨b, off + 9, none⟩) (nn - 1) (ocap - 1))) base F g _ from by rw [HNN.out]; exact hA3.dropOpen hR3 (by simp))).setSeen N)
          have HM4 := Lib.hid (((HM2.out.trans hm3 (fun _ _ k => k)).trans (Moves.setCell w3 ⟨g, 4, none⟩ (.slice (some ⟨b, off + 9, none⟩) (nn - 1) (ocap - 1)) HFG.out) (fun _ _ k => k)).trans (Moves.setCell _ ⟨g, 1, none⟩ (.int .i64 N) HFG.out) (fun _ _ k => k))
          clear hA3 hR3 hm3 HWN HA2 HM2 HR2 q0 q1 q2 q3 q4 q5 q6 q7 q8 hbb hbl hob
          go_wp2
          go_ret
          refine Or.inr (Or.inr ⟨HOW.out, e0.o, es'.map OpE.o, HEO.out.symm, HDE.out, rfl, HM4.out, ?_⟩)
          have h4 := HA4.out
          rw [← HNE.out]
          have e1 : s.os.tail = es'.map OpE.o := by rw [← HEO.out]; rfl
          rw [e1] at h4
          exact h4
      · have hdeB : decide (e0.d = d) = false := decide_eq_false hde
        have HNO := Lib.hid (show ∀ o, s.os.head? = some o → o.d ≠ d from fun o ho => by
          rw [← HEO.out] at ho; simp at ho; subst ho; exact hde)
        clear r hde
        go_quiet (fail)
        have hL2 : Later w1 (w1.drewN nq) := bl_drewN (Below.refl _ _) nq
        generalize w1.drewN nq = w2 at *
        have HA2 := Lib.hid (HA1.out.later hL2)
        have HM2 := Lib.hid (HM1.out.trans (Moves.of_below (F := F) hL2) (fun _ _ k => k))
        clear hL2 HA1 HD1 HM1 c4 d0 d1 d2 d3 d4 d5 d6 dlt q0 q1 q2 q3 q4 q5 q6 q7 q8 hneq hgd
        go_wp2
        go_ret
        exact Or.inr (Or.inl ⟨HOW.out, HNO.out, rfl, HM2.out, HA2.out⟩)
end Go.Proofs.Ytneoeokfffnonac
