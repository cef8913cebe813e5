/- The walk of the law's own logStep: a deed that is taken. -/
import Derived.Test.YtneoeokfffnonabStepW
import Derived.Deep.DeepCutAuto
set_option linter.unusedVariables false
set_option linter.unusedSimpArgs false
namespace Go.Proofs.Ytneoeokfffnonab
open Go.RowKit


theorem DdAt.setNo {w : World} {b : Nat} {d : Dd} (h : DdAt w b d) (v : Int) : DdAt (w.setCell ⟨b, 2, none⟩ (.int .i64 v)) b { d with No := v } := by
  obtain ⟨lt, h0, h1, h2, h3, h4, h5, h6⟩ := h
  refine ⟨by simpa using lt, ?_, ?_, ?_, ?_, ?_, ?_, ?_⟩
  · exact (World.cell?_setCell_other _ _ _ _ (by simp)).trans h0
  · exact (World.cell?_setCell_other _ _ _ _ (by simp)).trans h1
  · exact World.cell?_setCell_same _ _ _ h2
  · exact (World.cell?_setCell_other _ _ _ _ (by simp)).trans h3
  · exact (World.cell?_setCell_other _ _ _ _ (by simp)).trans h4
  · exact (World.cell?_setCell_other _ _ _ _ (by simp)).trans h5
  · exact (World.cell?_setCell_other _ _ _ _ (by simp)).trans h6
theorem DdAt.setSeen {w : World} {b : Nat} {d : Dd} (h : DdAt w b d) (v : Int) : DdAt (w.setCell ⟨b, 3, none⟩ (.int .i64 v)) b { d with Seen := v } := by
  obtain ⟨lt, h0, h1, h2, h3, h4, h5, h6⟩ := h
  refine ⟨by simpa using lt, ?_, ?_, ?_, ?_, ?_, ?_, ?_⟩
  · exact (World.cell?_setCell_other _ _ _ _ (by simp)).trans h0
  · exact (World.cell?_setCell_other _ _ _ _ (by simp)).trans h1
  · exact (World.cell?_setCell_other _ _ _ _ (by simp)).trans h2
  · exact World.cell?_setCell_same _ _ _ h3
  · exact (World.cell?_setCell_other _ _ _ _ (by simp)).trans h4
  · exact (World.cell?_setCell_other _ _ _ _ (by simp)).trans h5
  · exact (World.cell?_setCell_other _ _ _ _ (by simp)).trans h6

theorem right_seen (sn : Int) (ln : Nat) (S : Int) (h0 : 0 ≤ sn) (h1 : sn ≤ ln) (h2 : ln ≤ 120) : wrap64 (sn + wrap64 ((IntKind.u64.wrap S).tmod ((ln : Int) - sn + 1))) = sn + IntKind.u64.wrap S % ((ln : Int) - sn + 1) := by
  have hu : 0 ≤ IntKind.u64.wrap S := by rw [IntKind.wrap_u64]; omega
  rw [Int.tmod_eq_emod_of_nonneg hu]
  have h3 := Int.emod_nonneg (IntKind.u64.wrap S) (b := (ln : Int) - sn + 1) (by omega)
  have h4 := Int.emod_lt_of_pos (IntKind.u64.wrap S) (b := (ln : Int) - sn + 1) (by omega)
  generalize IntKind.u64.wrap S % ((ln : Int) - sn + 1) = r at *
  unfold wrap64
  omega
theorem right_ok {m : LogM} {x : LStep} (ho : m.Ok) (hx : x.ok) : (m.right x).Text.size ≤ maxLen ∧ i64ok (m.right x).Many ∧ i64ok (m.right x).No := by
  obtain ⟨_, _, _, hd⟩ := hx
  obtain ⟨_, _, h2, _, _, h5, h6⟩ := hd
  unfold LogM.right
  by_cases h : (x.Right && isWriter x.D.By) = true
  · rw [if_pos h]
    have hw : isWriter x.D.By = true := by simp at h; exact h.2
    have h1 := ho.last x.D.By hw
    have h3 := cntBy_le x.D.By m.L
    have h4 := cntBy_nonneg x.D.By m.L
    have h7 := ho.len
    refine ⟨h6, h5, ?_⟩
    show i64ok ((m.seat x.D.By).last + 1)
    unfold i64ok; omega
  · rw [if_neg h]; exact ⟨h6, h5, h2⟩

section
variable {w : World} {base g b : Nat} {m : LogM}
set_option maxRecDepth 100000 in
set_option maxHeartbeats 1600000 in
theorem logStep_take (hB : Both w base g b m) (ho : m.Ok) (x : LStep) (hx : x.ok) (hd : x.Do = 2) :
    Calls Try.prog 26 #[.pointer (some ⟨g, 0, none⟩), .pointer (some ⟨b, 0, none⟩), .agg #[.int .i64 x.Do, .int .i64 x.W, .int .i64 x.N, .int .i64 x.D.Kind, .int .i64 x.D.By, .int .i64 x.D.No, .int .i64 x.D.Seen, .int .i64 x.D.At, .int .i64 x.D.Many, .string x.D.Text, .bool x.Right]] w (StepPost w base g b m x) := by
  obtain ⟨F, B, hL, hK, hFB⟩ := hB
  have hst := Lib.hid (show m.step x = (m.takeF (m.right x)).1 by unfold LogM.step; rw [if_neg (by omega), if_neg (by omega), if_pos hd])
  have HO := Lib.hid ho; clear ho
  have HXK := Lib.hid hx; clear hx
  have HFB := Lib.hid hFB; clear hFB
  have hb0 := (Below.refl w.heap.size w).alloc (Nat.le_refl _) (.cells #[.int .i64 x.Do, .int .i64 x.W, .int .i64 x.N, .int .i64 x.D.Kind, .int .i64 x.D.By, .int .i64 x.D.No, .int .i64 x.D.Seen, .int .i64 x.D.At, .int .i64 x.D.Many, .string x.D.Text, .bool x.Right] 54)
  have HL0 := Lib.hid (hL.later hb0)
  have HK0 := Lib.hid (hK.later hb0)
  have HX0 := Lib.hid (LsAt.new w x)
  have HW0 := Lib.hid (hb0.mono hL.base_le)
  have h0B : (x.Do == 0) = false := by simp; omega
  have h1B : (x.Do == 1) = false := by simp; omega
  have h2B : (x.Do == 2) = true := by simpa using hd
  clear hL hK hd
  go_enter Try.func26, Try.ntmps26
  go_upto_region 1 with fail
  generalize w.alloc (.cells #[.int .i64 x.Do, .int .i64 x.W, .int .i64 x.N, .int .i64 x.D.Kind, .int .i64 x.D.By, .int .i64 x.D.No, .int .i64 x.D.Seen, .int .i64 x.D.At, .int .i64 x.D.Many, .string x.D.Text, .bool x.Right] 54) = w0 at *
  obtain ⟨xl, c0, c1, c2, c3, c4, c5, c6, c7, c8, c9, c10⟩ := HX0.out
  have hbA := (Below.refl w0.heap.size w0).alloc (Nat.le_refl _) (.cells #[.int .i64 x.D.Kind, .int .i64 x.D.By, .int .i64 x.D.No, .int .i64 x.D.Seen, .int .i64 x.D.At, .int .i64 x.D.Many, .string x.D.Text] 25)
  have HDA := Lib.hid (DdAt.new w0 x.D)
  have HFA := Lib.hid (show ∀ j, j < 7 → (w0.alloc (.cells #[.int .i64 x.D.Kind, .int .i64 x.D.By, .int .i64 x.D.No, .int .i64 x.D.Seen, .int .i64 x.D.At, .int .i64 x.D.Many, .string x.D.Text] 25)).frozen? ⟨w0.heap.size, j, none⟩ = false from fun j _ => by simp)
  clear c1 c2
  go_upto_region 10 with fail
  generalize w0.alloc (.cells #[.int .i64 x.D.Kind, .int .i64 x.D.By, .int .i64 x.D.No, .int .i64 x.D.Seen, .int .i64 x.D.At, .int .i64 x.D.Many, .string x.D.Text] 25) = w1 at *
  have HL1 := Lib.hid (HL0.out.later hbA)
  have HK1 := Lib.hid (HK0.out.later hbA)
  have HW1 := Lib.hid (HW0.out.trans (hbA.mono (Nat.le_trans HL0.out.base_le (Nat.le_refl _))))
  have hc10 : w1.cell? ⟨w.heap.size, 10, none⟩ = some (.bool x.Right) := (hbA.cell (p := ⟨w.heap.size, 10, none⟩) xl).trans c10
  have HNF := Lib.hid (fun h => Nat.lt_irrefl _ (HL0.out.foot w0.heap.size h).2)
  have HNB := Lib.hid (fun h => Nat.lt_irrefl _ (HK0.out.foot w0.heap.size h).2)
  have HBB := Lib.hid (show base ≤ w0.heap.size from HL0.out.base_le)
  have hxlt : w.heap.size < w0.heap.size := xl
  have HFX := Lib.hid (fun k hk => (HL0.out.foot k hk).2)
  have HBX := Lib.hid (fun k hk => (HK0.out.foot k hk).2)
  clear c0 c3 c4 c5 c6 c7 c8 c9 c10 xl hbA HL0 HK0 HX0 HW0 h0B h1B h2B
  obtain ⟨X, hX⟩ : ∃ X, X = w0.heap.size := ⟨_, rfl⟩
  rw [← hX] at HDA HFA HNF HNB HBB hxlt HFX HBX ⊢
  clear hX
  obtain ⟨rb, hrb⟩ : ∃ rb, rb = x.Right := ⟨_, rfl⟩
  rw [← hrb] at hc10
  have HRB := Lib.hid hrb; clear hrb
  obtain ⟨R, hR⟩ : ∃ R, R = (rb && isWriter x.D.By) := ⟨_, rfl⟩
  have HR := Lib.hid hR; clear hR
  obtain ⟨dlt, d0, d1, d2, d3, d4, d5, d6⟩ := HDA.out
  go_cut [63] (fun s63 wx => s63 = .bool R ∧ wx = w1)
  case first =>
    clear d0 d2 d3 d4 d5 d6
    cases rb
    · have HE := Lib.hid (show R = false from HR.out)
      go_wp2
      go_meet
      exact ⟨by rw [HE.out], rfl⟩
    · have HE := Lib.hid (show R = isWriter x.D.By from HR.out)
      go_wp2_with (go_at_call 21; refine (IsWriter_c _ _).mono ?_; rintro e w' ⟨rfl, rfl⟩)
      go_meet
      exact ⟨by rw [HE.out], rfl⟩
  case rest =>
    obtain ⟨rfl, hwe⟩ := hcut
    rw [hwe]
    clear hwe wc
    go_upto_if 63 with (fail)
    obtain ⟨D, hD⟩ : ∃ D, D = m.right x := ⟨_, rfl⟩
    have HD := Lib.hid hD; clear hD
    go_cut [] (fun wx => DdAt wx X D ∧ Below X w1 wx)
    case first =>
      cases hR2 : R
      · have HE := Lib.hid (show D = x.D by
          rw [HD.out]; unfold LogM.right; rw [← HRB.out, ← HR.out, hR2]; rfl)
        go_wp2
        go_meet
        exact ⟨by rw [HE.out]; exact HDA.out, Below.refl _ _⟩
      · have hwr : rb = true ∧ isWriter x.D.By = true := by
          have := HR.out; rw [hR2] at this
          simpa using this.symm
        have HDV := Lib.hid (show D = { x.D with No := (m.seat x.D.By).last + 1, Seen := (m.seat x.D.By).seen + (IntKind.u64.wrap x.D.Seen) % ((m.L.length : Int) - (m.seat x.D.By).seen + 1) } by
          rw [HD.out]; unfold LogM.right; rw [← HRB.out, hwr.1, hwr.2]; rfl)
        have hsl := HO.out.seen1 x.D.By hwr.2
        have hs0 := HO.out.seen0 x.D.By hwr.2
        have hln := HO.out.len
        rcases isWriter_cases hwr.2 with e | e | e | e
        · have HST := Lib.hid (show m.seat x.D.By = m.S 0 by rw [e]; rfl)
          rw [HST.out] at hsl hs0 HDV
          rw [e] at d1
          have c2 : w1.cell? ⟨b, 5, none⟩ = some (.int .i64 (m.S 0).last) := HK1.out.last 0 (by omega)
          obtain ⟨hl0, hl1⟩ := HO.out.last_le 0 (by omega)
          have hn : IntKind.i64.wrap ((m.S 0).last + 1) = (m.S 0).last + 1 := by rw [IntKind.wrap_i64]; omega
          have f2 := HFA.out 2 (by omega)
          have HD2 := Lib.hid ((HDA.out.setNo ((m.S 0).last + 1)).later (bl_drewB _))
          have HK2 := Lib.hid ((HK1.out.moves (Moves.setCell (F := fun k => k = X) w1 ⟨X, 2, none⟩ (.int .i64 ((m.S 0).last + 1)) rfl) (fun k hk e => HNB.out (e ▸ hk))).drew)
          have HB2 := Lib.hid (show Below X w1 (w1.setCell ⟨X, 2, none⟩ (.int .i64 ((m.S 0).last + 1))).drew from ((Below.refl X w1).setCell (p := ⟨X, 2, none⟩) (Nat.le_refl _) _).trans ⟨rfl, rfl, rfl, Nat.le_refl _, fun _ _ => rfl⟩)
          have HF2 := Lib.hid (show (w1.setCell ⟨X, 2, none⟩ (.int .i64 ((m.S 0).last + 1))).drew.frozen? ⟨X, 3, none⟩ = false from (World.frozen?_setCell _ _ _ _).trans (HFA.out 3 (by omega)))
          have HE := Lib.hid e
          clear e hwr hc10 d0 d3 d4 d5 d6
          go_upto_region 11 with fail
          go_region
          go_upto_region 12 with fail
          generalize (w1.setCell ⟨X, 2, none⟩ (.int .i64 ((m.S 0).last + 1))).drew = w2 at *
          clear c2 f2 hn d1 d2 dlt
          have dlt := HD2.out.lt
          have d1 : w2.cell? ⟨X, 1, none⟩ = some (.int .i64 0) := by rw [← HE.out]; exact HD2.out.c1
          have d3 : w2.cell? ⟨X, 3, none⟩ = some (.int .i64 x.D.Seen) := HD2.out.c3
          obtain ⟨a, cap, r0, _, _⟩ := HK2.out.rows
          have c3 : w2.cell? ⟨b, 9, none⟩ = some (.int .i64 (m.S 0).seen) := HK2.out.seen 0 (by omega)
          have f3 := HF2.out
          generalize (m.S 0).seen = sn at *
          generalize m.L.length = ln at *
          go_region
          go_wp2
          go_meet
          exact ⟨by rw [HDV.out, ← right_seen sn ln x.D.Seen hs0 hsl hln]; exact (HD2.out.setSeen _).later (bl_drewB _), ((HB2.out).setCell (p := ⟨X, 3, none⟩) (Nat.le_refl _) _).trans ⟨rfl, rfl, rfl, Nat.le_refl _, fun _ _ => rfl⟩⟩
        · have HST := Lib.hid (show m.seat x.D.By = m.S 1 by rw [e]; rfl)
          rw [HST.out] at hsl hs0 HDV
          rw [e] at d1
          have c2 : w1.cell? ⟨b, 6, none⟩ = some (.int .i64 (m.S 1).last) := HK1.out.last 1 (by omega)
          obtain ⟨hl0, hl1⟩ := HO.out.last_le 1 (by omega)
          have hn : IntKind.i64.wrap ((m.S 1).last + 1) = (m.S 1).last + 1 := by rw [IntKind.wrap_i64]; omega
          have f2 := HFA.out 2 (by omega)
          have HD2 := Lib.hid ((HDA.out.setNo ((m.S 1).last + 1)).later (bl_drewB _))
          have HK2 := Lib.hid ((HK1.out.moves (Moves.setCell (F := fun k => k = X) w1 ⟨X, 2, none⟩ (.int .i64 ((m.S 1).last + 1)) rfl) (fun k hk e => HNB.out (e ▸ hk))).drew)
          have HB2 := Lib.hid (show Below X w1 (w1.setCell ⟨X, 2, none⟩ (.int .i64 ((m.S 1).last + 1))).drew from ((Below.refl X w1).setCell (p := ⟨X, 2, none⟩) (Nat.le_refl _) _).trans ⟨rfl, rfl, rfl, Nat.le_refl _, fun _ _ => rfl⟩)
          have HF2 := Lib.hid (show (w1.setCell ⟨X, 2, none⟩ (.int .i64 ((m.S 1).last + 1))).drew.frozen? ⟨X, 3, none⟩ = false from (World.frozen?_setCell _ _ _ _).trans (HFA.out 3 (by omega)))
          have HE := Lib.hid e
          clear e hwr hc10 d0 d3 d4 d5 d6
          go_upto_region 11 with fail
          go_region
          go_upto_region 12 with fail
          generalize (w1.setCell ⟨X, 2, none⟩ (.int .i64 ((m.S 1).last + 1))).drew = w2 at *
          clear c2 f2 hn d1 d2 dlt
          have dlt := HD2.out.lt
          have d1 : w2.cell? ⟨X, 1, none⟩ = some (.int .i64 1) := by rw [← HE.out]; exact HD2.out.c1
          have d3 : w2.cell? ⟨X, 3, none⟩ = some (.int .i64 x.D.Seen) := HD2.out.c3
          obtain ⟨a, cap, r0, _, _⟩ := HK2.out.rows
          have c3 : w2.cell? ⟨b, 10, none⟩ = some (.int .i64 (m.S 1).seen) := HK2.out.seen 1 (by omega)
          have f3 := HF2.out
          generalize (m.S 1).seen = sn at *
          generalize m.L.length = ln at *
          go_region
          go_wp2
          go_meet
          exact ⟨by rw [HDV.out, ← right_seen sn ln x.D.Seen hs0 hsl hln]; exact (HD2.out.setSeen _).later (bl_drewB _), ((HB2.out).setCell (p := ⟨X, 3, none⟩) (Nat.le_refl _) _).trans ⟨rfl, rfl, rfl, Nat.le_refl _, fun _ _ => rfl⟩⟩
        · have HST := Lib.hid (show m.seat x.D.By = m.S 2 by rw [e]; rfl)
          rw [HST.out] at hsl hs0 HDV
          rw [e] at d1
          have c2 : w1.cell? ⟨b, 7, none⟩ = some (.int .i64 (m.S 2).last) := HK1.out.last 2 (by omega)
          obtain ⟨hl0, hl1⟩ := HO.out.last_le 2 (by omega)
          have hn : IntKind.i64.wrap ((m.S 2).last + 1) = (m.S 2).last + 1 := by rw [IntKind.wrap_i64]; omega
          have f2 := HFA.out 2 (by omega)
          have HD2 := Lib.hid ((HDA.out.setNo ((m.S 2).last + 1)).later (bl_drewB _))
          have HK2 := Lib.hid ((HK1.out.moves (Moves.setCell (F := fun k => k = X) w1 ⟨X, 2, none⟩ (.int .i64 ((m.S 2).last + 1)) rfl) (fun k hk e => HNB.out (e ▸ hk))).drew)
          have HB2 := Lib.hid (show Below X w1 (w1.setCell ⟨X, 2, none⟩ (.int .i64 ((m.S 2).last + 1))).drew from ((Below.refl X w1).setCell (p := ⟨X, 2, none⟩) (Nat.le_refl _) _).trans ⟨rfl, rfl, rfl, Nat.le_refl _, fun _ _ => rfl⟩)
          have HF2 := Lib.hid (show (w1.setCell ⟨X, 2, none⟩ (.int .i64 ((m.S 2).last + 1))).drew.frozen? ⟨X, 3, none⟩ = false from (World.frozen?_setCell _ _ _ _).trans (HFA.out 3 (by omega)))
          have HE := Lib.hid e
          clear e hwr hc10 d0 d3 d4 d5 d6
          go_upto_region 11 with fail
          go_region
          go_upto_region 12 with fail
          generalize (w1.setCell ⟨X, 2, none⟩ (.int .i64 ((m.S 2).last + 1))).drew = w2 at *
          clear c2 f2 hn d1 d2 dlt
          have dlt := HD2.out.lt
          have d1 : w2.cell? ⟨X, 1, none⟩ = some (.int .i64 2) := by rw [← HE.out]; exact HD2.out.c1
          have d3 : w2.cell? ⟨X, 3, none⟩ = some (.int .i64 x.D.Seen) := HD2.out.c3
          obtain ⟨a, cap, r0, _, _⟩ := HK2.out.rows
          have c3 : w2.cell? ⟨b, 11, none⟩ = some (.int .i64 (m.S 2).seen) := HK2.out.seen 2 (by omega)
          have f3 := HF2.out
          generalize (m.S 2).seen = sn at *
          generalize m.L.length = ln at *
          go_region
          go_wp2
          go_meet
          exact ⟨by rw [HDV.out, ← right_seen sn ln x.D.Seen hs0 hsl hln]; exact (HD2.out.setSeen _).later (bl_drewB _), ((HB2.out).setCell (p := ⟨X, 3, none⟩) (Nat.le_refl _) _).trans ⟨rfl, rfl, rfl, Nat.le_refl _, fun _ _ => rfl⟩⟩
        · have HST := Lib.hid (show m.seat x.D.By = m.S 3 by rw [e]; rfl)
          rw [HST.out] at hsl hs0 HDV
          rw [e] at d1
          have c2 : w1.cell? ⟨b, 8, none⟩ = some (.int .i64 (m.S 3).last) := HK1.out.last 3 (by omega)
          obtain ⟨hl0, hl1⟩ := HO.out.last_le 3 (by omega)
          have hn : IntKind.i64.wrap ((m.S 3).last + 1) = (m.S 3).last + 1 := by rw [IntKind.wrap_i64]; omega
          have f2 := HFA.out 2 (by omega)
          have HD2 := Lib.hid ((HDA.out.setNo ((m.S 3).last + 1)).later (bl_drewB _))
          have HK2 := Lib.hid ((HK1.out.moves (Moves.setCell (F := fun k => k = X) w1 ⟨X, 2, none⟩ (.int .i64 ((m.S 3).last + 1)) rfl) (fun k hk e => HNB.out (e ▸ hk))).drew)
          have HB2 := Lib.hid (show Below X w1 (w1.setCell ⟨X, 2, none⟩ (.int .i64 ((m.S 3).last + 1))).drew from ((Below.refl X w1).setCell (p := ⟨X, 2, none⟩) (Nat.le_refl _) _).trans ⟨rfl, rfl, rfl, Nat.le_refl _, fun _ _ => rfl⟩)
          have HF2 := Lib.hid (show (w1.setCell ⟨X, 2, none⟩ (.int .i64 ((m.S 3).last + 1))).drew.frozen? ⟨X, 3, none⟩ = false from (World.frozen?_setCell _ _ _ _).trans (HFA.out 3 (by omega)))
          have HE := Lib.hid e
          clear e hwr hc10 d0 d3 d4 d5 d6
          go_upto_region 11 with fail
          go_region
          go_upto_region 12 with fail
          generalize (w1.setCell ⟨X, 2, none⟩ (.int .i64 ((m.S 3).last + 1))).drew = w2 at *
          clear c2 f2 hn d1 d2 dlt
          have dlt := HD2.out.lt
          have d1 : w2.cell? ⟨X, 1, none⟩ = some (.int .i64 3) := by rw [← HE.out]; exact HD2.out.c1
          have d3 : w2.cell? ⟨X, 3, none⟩ = some (.int .i64 x.D.Seen) := HD2.out.c3
          obtain ⟨a, cap, r0, _, _⟩ := HK2.out.rows
          have c3 : w2.cell? ⟨b, 12, none⟩ = some (.int .i64 (m.S 3).seen) := HK2.out.seen 3 (by omega)
          have f3 := HF2.out
          generalize (m.S 3).seen = sn at *
          generalize m.L.length = ln at *
          go_region
          go_wp2
          go_meet
          exact ⟨by rw [HDV.out, ← right_seen sn ln x.D.Seen hs0 hsl hln]; exact (HD2.out.setSeen _).later (bl_drewB _), ((HB2.out).setCell (p := ⟨X, 3, none⟩) (Nat.le_refl _) _).trans ⟨rfl, rfl, rfl, Nat.le_refl _, fun _ _ => rfl⟩⟩
    case rest =>
      obtain ⟨hD1, hbx⟩ := hcut
      obtain ⟨w2, hw2⟩ : ∃ w2, w2 = wc := ⟨_, rfl⟩
      rw [← hw2] at hD1 hbx ⊢
      clear hw2 wc
      have hmv : Moves (fun k => X ≤ k) w1 w2 := ⟨hbx.os, hbx.tape, hbx.output, hbx.size, fun k _ hn => hbx.block k (by omega)⟩
      have HL2 := Lib.hid (HL1.out.moves hmv (fun k hk h => by have := HFX.out k hk; omega))
      have HK2 := Lib.hid (HK1.out.moves hmv (fun k hk h => by have := HBX.out k hk; omega))
      have HW2 := Lib.hid (HW1.out.trans (hbx.mono HBB.out))
      have HD1 := Lib.hid hD1
      have hxX : X < w2.heap.size := hD1.lt
      have HDT := Lib.hid (right_ok HO.out HXK.out)
      rw [← HD.out] at HDT
      clear hD1 hbx hmv HL1 HK1 HW1 d0 d1 d2 d3 d4 d5 d6 dlt hc10 HDA HFA
      obtain ⟨dlt, d0, d1, d2, d3, d4, d5, d6⟩ := HD1.out
      go_wp2_with fail
      refine (Take_c HL2.out HO.out D HDT.out.1 HDT.out.2.1).mono ?_
      rintro e w3 ⟨rfl, F', hL3, hM3, hG3⟩
      have HL3 := Lib.hid hL3
      have HK3 := Lib.hid (HK2.out.moves hM3 (fun k h1 h2 => HFB.out k h2 h1))
      have HD3 := Lib.hid (show DdAt w3 X D from by
        have hc := fun o => hM3.cell dlt HNF.out o
        exact ⟨Nat.lt_of_lt_of_le dlt hM3.size, (hc _).trans d0, (hc _).trans d1, (hc _).trans d2, (hc _).trans d3, (hc _).trans d4, (hc _).trans d5, (hc _).trans d6⟩)
      have HW3 := Lib.hid (HW2.out.trans (HL2.out.below hM3))
      have HF3 := Lib.hid (show ∀ k, F' k → ¬ B k from fun k h1 h2 => by
        rcases hG3 k h1 with h | h
        · exact HFB.out k h h2
        · have := (HK2.out.foot k h2).2; omega)
      clear hL3 hM3 hG3 HL2 HK2 HW2 HD1 d0 d1 d2 d3 d4 d5 d6 dlt
      obtain ⟨dlt, d0, d1, d2, d3, d4, d5, d6⟩ := HD3.out
      go_wp2_with fail
      refine (BTake_c HK3.out HO.out D HDT.out.1 HDT.out.2.2).mono ?_
      rintro e w4 ⟨rfl, B', hK4, hM4, hG4⟩
      have HL4 := Lib.hid (HL3.out.moves hM4 (fun k h1 h2 => HF3.out k h1 h2))
      have HK4 := Lib.hid hK4
      have HW4 := Lib.hid (HW3.out.trans (HK3.out.below hM4))
      have HF4 := Lib.hid (show ∀ k, F' k → ¬ B' k from fun k h1 h2 => by
        rcases hG4 k h2 with h | h
        · exact HF3.out k h1 h
        · have := (HL3.out.foot k h1).2; omega)
      clear hK4 hM4 hG4 HL3 HK3 HW3 HD3 d0 d1 d2 d3 d4 d5 d6 dlt
      go_wp2
      go_ret
      exact ⟨rfl, by rw [hst.out, ← HD.out]; exact ⟨F', B', HL4.out, HK4.out, HF4.out⟩, HW4.out⟩

theorem logStep_c (hB : Both w base g b m) (ho : m.Ok) (x : LStep) (hx : x.ok) :
    Calls Try.prog 26 #[.pointer (some ⟨g, 0, none⟩), .pointer (some ⟨b, 0, none⟩), .agg #[.int .i64 x.Do, .int .i64 x.W, .int .i64 x.N, .int .i64 x.D.Kind, .int .i64 x.D.By, .int .i64 x.D.No, .int .i64 x.D.Seen, .int .i64 x.D.At, .int .i64 x.D.Many, .string x.D.Text, .bool x.Right]] w (StepPost w base g b m x) := by
  by_cases h0 : x.Do = 0
  · exact logStep_join hB ho x h0
  · by_cases h1 : x.Do = 1
    · exact logStep_leave hB x h1
    · by_cases h2 : x.Do = 2
      · exact logStep_take hB ho x hx h2
      · by_cases h3 : x.Do = 3
        · exact logStep_says hB x h3
        · exact logStep_none hB x h0 h1 h2 h3
end
end Go.Proofs.Ytneoeokfffnonab
