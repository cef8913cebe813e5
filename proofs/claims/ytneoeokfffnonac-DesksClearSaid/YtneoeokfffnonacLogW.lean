/- The walks of the log's methods: Len, Here, Join, Leave, Says. -/
import Derived.Test.YtneoeokfffnonacLogObj
import Derived.Test.YtneoeokfffnonacCharsW
set_option linter.unusedVariables false
set_option linter.unusedSimpArgs false
namespace Go.Proofs.Ytneoeokfffnonac
open Go.RowKit

theorem Moves.drew {F : Nat → Prop} (w : World) : Moves F w w.drew := ⟨rfl, rfl, rfl, Nat.le_refl _, fun _ _ _ => rfl⟩
theorem LogAt.drew {w : World} {base : Nat} {F : Nat → Prop} {g : Nat} {m : LogM} (h : LogAt w base F g m) : LogAt w.drew base F g m := h.moves (G := fun _ => False) (Moves.drew w) (fun _ _ h => h)
theorem LogAt.congr {w : World} {base : Nat} {F : Nat → Prop} {g : Nat} {m m' : LogM} (h : LogAt w base F g m) (e : m = m') : LogAt w base F g m' := e ▸ h
theorem LogM.Ok.last_le {m : LogM} (h : m.Ok) (j : Nat) (hj : j < 4) : 0 ≤ (m.S j).last ∧ (m.S j).last ≤ 120 := by
  have hw : isWriter (j : Int) = true := by simp [isWriter]; omega
  have h1 := h.last j hw
  have h2 := cntBy_le j m.L
  have h3 := cntBy_nonneg j m.L
  have h4 := h.len
  unfold LogM.seat at h1
  simp at h1
  omega

section
variable {w : World} {base : Nat} {F : Nat → Prop} {g : Nat} {m : LogM}
theorem Len_c (h : LogAt w base F g m) : Calls Try.prog 49 #[.pointer (some ⟨g, 0, none⟩)] w fun e w' => e = .returned (.int .i64 m.L.length) ∧ w' = w := by
  obtain ⟨a, cap, ca, ccap, r0, _⟩ := h.rows
  go_enter Try.func49, Try.ntmps49
  go_wp2
  go_ret
  exact ⟨rfl, rfl⟩

theorem Here_c (h : LogAt w base F g m) (x : Int) : Calls Try.prog 50 #[.pointer (some ⟨g, 0, none⟩), .int .i64 x] w fun e w' => e = .returned (.bool (m.hereF x)) ∧ w' = w := by
  cases hx : isWriter x
  · have Hf := Lib.hid (show m.hereF x = false by unfold LogM.hereF; rw [hx]; rfl)
    go_enter Try.func50, Try.ntmps50
    go_wp2_with (go_at_call 96; refine (Writer_c _ _).mono ?_; rintro e w' ⟨rfl, rfl⟩)
    go_ret
    exact ⟨by rw [Hf.out]; rfl, rfl⟩
  · have Hf := Lib.hid (show m.hereF x = (m.S x.toNat).here by unfold LogM.hereF LogM.seat; rw [hx]; rfl)
    have H0 := h.here 0 (by omega)
    have H1 := h.here 1 (by omega)
    have H2 := h.here 2 (by omega)
    have H3 := h.here 3 (by omega)
    simp only [Nat.mul_zero, Nat.mul_one, Nat.add_zero, Nat.reduceMul, Nat.reduceAdd] at H0 H1 H2 H3
    rcases isWriter_cases hx with rfl | rfl | rfl | rfl
    all_goals
      go_enter Try.func50, Try.ntmps50
      go_wp2_with (go_at_call 96; refine (Writer_c _ _).mono ?_; rintro e w' ⟨rfl, rfl⟩)
      go_ret
      exact ⟨by rw [Hf.out]; rfl, rfl⟩
theorem Here_b (h : LogAt w base F g m) (x : Int) (b : Bool) (hb : m.hereF x = b) : Calls Try.prog 50 #[.pointer (some ⟨g, 0, none⟩), .int .i64 x] w fun e w' => e = .returned (.bool b) ∧ w' = w := by subst hb; exact Here_c h x

theorem Join_c (h : LogAt w base F g m) (x : Int) (ho : m.Ok) : Calls Try.prog 64 #[.pointer (some ⟨g, 0, none⟩), .int .i64 x] w fun e w' =>
    e = .returned (.tuple #[.int .i64 (m.joinF x).2.1, .int .i64 (m.joinF x).2.2]) ∧ LogAt w' base F g (m.joinF x).1 ∧ Moves F w w' := by
  have HL := Lib.hid h
  cases hx : isWriter x
  · have Hf := Lib.hid (show m.joinF x = (m, 0, 1) by unfold LogM.joinF; rw [hx]; rfl)
    go_enter Try.func64, Try.ntmps64
    go_wp2_with (go_at_call 96; refine (Writer_c _ _).mono ?_; rintro e w' ⟨rfl, rfl⟩)
    go_ret2
    exact ⟨by rw [Hf.out]; rfl, by rw [Hf.out]; exact HL.out, Moves.refl _ _⟩
  · obtain ⟨a, cap, ca, ccap, r0, _⟩ := h.rows
    rcases isWriter_cases hx with rfl | rfl | rfl | rfl
    · have Hf := Lib.hid (show m.joinF 0 = if (m.S 0).here then (m, 0, 6) else (⟨m.L, upd m.S 0 ⟨true, (m.S 0).last, m.L.length⟩⟩, (m.S 0).last + 1, 0) by unfold LogM.joinF LogM.seat LogM.put; rw [hx]; rfl)
      have c1 : w.cell? ⟨g, 2, none⟩ = some (.bool (m.S 0).here) := h.here 0 (by omega)
      have c2 : w.cell? ⟨g, 3, none⟩ = some (.int .i64 (m.S 0).last) := h.last 0 (by omega)
      have c3 : w.cell? ⟨g, 4, none⟩ = some (.int .i64 (m.S 0).seen) := h.seen 0 (by omega)
      have f1 := h.fz 2 (by omega)
      have f3 := h.fz 4 (by omega)
      obtain ⟨hl0, hl1⟩ := ho.last_le 0 (by omega)
      have hn : IntKind.i64.wrap ((m.S 0).last + 1) = (m.S 0).last + 1 := by rw [IntKind.wrap_i64]; omega
      have HE := Lib.hid ((((h.setHere 0 2 rfl true).setSeen 0 4 rfl m.L.length).drew).congr (show _ = (⟨m.L, upd m.S 0 ⟨true, (m.S 0).last, m.L.length⟩⟩ : LogM) by simp only [upd_upd, upd_same]))
      have HM := Lib.hid (fun v v' => ((Moves.setCell w ⟨g, 2, none⟩ v h.fg).trans (Moves.setCell (w.setCell ⟨g, 2, none⟩ v) ⟨g, 4, none⟩ v' h.fg) (fun _ _ k => k)).trans (Moves.drew _) (fun _ _ k => k))
      clear h ho
      cases hh : (m.S 0).here
      all_goals
        rw [hh] at c1
        go_enter Try.func64, Try.ntmps64
        go_wp2_with (go_at_call 96; refine (Writer_c _ _).mono ?_; rintro e w' ⟨rfl, rfl⟩)
      · go_region
        go_wp2
        go_ret2
        rw [Hf.out, hh]
        exact ⟨rfl, HE.out, HM.out _ _⟩
      · go_ret2
        rw [Hf.out, hh]
        exact ⟨rfl, HL.out, Moves.refl _ _⟩
    · have Hf := Lib.hid (show m.joinF 1 = if (m.S 1).here then (m, 0, 6) else (⟨m.L, upd m.S 1 ⟨true, (m.S 1).last, m.L.length⟩⟩, (m.S 1).last + 1, 0) by unfold LogM.joinF LogM.seat LogM.put; rw [hx]; rfl)
      have c1 : w.cell? ⟨g, 5, none⟩ = some (.bool (m.S 1).here) := h.here 1 (by omega)
      have c2 : w.cell? ⟨g, 6, none⟩ = some (.int .i64 (m.S 1).last) := h.last 1 (by omega)
      have c3 : w.cell? ⟨g, 7, none⟩ = some (.int .i64 (m.S 1).seen) := h.seen 1 (by omega)
      have f1 := h.fz 5 (by omega)
      have f3 := h.fz 7 (by omega)
      obtain ⟨hl0, hl1⟩ := ho.last_le 1 (by omega)
      have hn : IntKind.i64.wrap ((m.S 1).last + 1) = (m.S 1).last + 1 := by rw [IntKind.wrap_i64]; omega
      have HE := Lib.hid ((((h.setHere 1 5 rfl true).setSeen 1 7 rfl m.L.length).drew).congr (show _ = (⟨m.L, upd m.S 1 ⟨true, (m.S 1).last, m.L.length⟩⟩ : LogM) by simp only [upd_upd, upd_same]))
      have HM := Lib.hid (fun v v' => ((Moves.setCell w ⟨g, 5, none⟩ v h.fg).trans (Moves.setCell (w.setCell ⟨g, 5, none⟩ v) ⟨g, 7, none⟩ v' h.fg) (fun _ _ k => k)).trans (Moves.drew _) (fun _ _ k => k))
      clear h ho
      cases hh : (m.S 1).here
      all_goals
        rw [hh] at c1
        go_enter Try.func64, Try.ntmps64
        go_wp2_with (go_at_call 96; refine (Writer_c _ _).mono ?_; rintro e w' ⟨rfl, rfl⟩)
      · go_region
        go_wp2
        go_ret2
        rw [Hf.out, hh]
        exact ⟨rfl, HE.out, HM.out _ _⟩
      · go_ret2
        rw [Hf.out, hh]
        exact ⟨rfl, HL.out, Moves.refl _ _⟩
    · have Hf := Lib.hid (show m.joinF 2 = if (m.S 2).here then (m, 0, 6) else (⟨m.L, upd m.S 2 ⟨true, (m.S 2).last, m.L.length⟩⟩, (m.S 2).last + 1, 0) by unfold LogM.joinF LogM.seat LogM.put; rw [hx]; rfl)
      have c1 : w.cell? ⟨g, 8, none⟩ = some (.bool (m.S 2).here) := h.here 2 (by omega)
      have c2 : w.cell? ⟨g, 9, none⟩ = some (.int .i64 (m.S 2).last) := h.last 2 (by omega)
      have c3 : w.cell? ⟨g, 10, none⟩ = some (.int .i64 (m.S 2).seen) := h.seen 2 (by omega)
      have f1 := h.fz 8 (by omega)
      have f3 := h.fz 10 (by omega)
      obtain ⟨hl0, hl1⟩ := ho.last_le 2 (by omega)
      have hn : IntKind.i64.wrap ((m.S 2).last + 1) = (m.S 2).last + 1 := by rw [IntKind.wrap_i64]; omega
      have HE := Lib.hid ((((h.setHere 2 8 rfl true).setSeen 2 10 rfl m.L.length).drew).congr (show _ = (⟨m.L, upd m.S 2 ⟨true, (m.S 2).last, m.L.length⟩⟩ : LogM) by simp only [upd_upd, upd_same]))
      have HM := Lib.hid (fun v v' => ((Moves.setCell w ⟨g, 8, none⟩ v h.fg).trans (Moves.setCell (w.setCell ⟨g, 8, none⟩ v) ⟨g, 10, none⟩ v' h.fg) (fun _ _ k => k)).trans (Moves.drew _) (fun _ _ k => k))
      clear h ho
      cases hh : (m.S 2).here
      all_goals
        rw [hh] at c1
        go_enter Try.func64, Try.ntmps64
        go_wp2_with (go_at_call 96; refine (Writer_c _ _).mono ?_; rintro e w' ⟨rfl, rfl⟩)
      · go_region
        go_wp2
        go_ret2
        rw [Hf.out, hh]
        exact ⟨rfl, HE.out, HM.out _ _⟩
      · go_ret2
        rw [Hf.out, hh]
        exact ⟨rfl, HL.out, Moves.refl _ _⟩
    · have Hf := Lib.hid (show m.joinF 3 = if (m.S 3).here then (m, 0, 6) else (⟨m.L, upd m.S 3 ⟨true, (m.S 3).last, m.L.length⟩⟩, (m.S 3).last + 1, 0) by unfold LogM.joinF LogM.seat LogM.put; rw [hx]; rfl)
      have c1 : w.cell? ⟨g, 11, none⟩ = some (.bool (m.S 3).here) := h.here 3 (by omega)
      have c2 : w.cell? ⟨g, 12, none⟩ = some (.int .i64 (m.S 3).last) := h.last 3 (by omega)
      have c3 : w.cell? ⟨g, 13, none⟩ = some (.int .i64 (m.S 3).seen) := h.seen 3 (by omega)
      have f1 := h.fz 11 (by omega)
      have f3 := h.fz 13 (by omega)
      obtain ⟨hl0, hl1⟩ := ho.last_le 3 (by omega)
      have hn : IntKind.i64.wrap ((m.S 3).last + 1) = (m.S 3).last + 1 := by rw [IntKind.wrap_i64]; omega
      have HE := Lib.hid ((((h.setHere 3 11 rfl true).setSeen 3 13 rfl m.L.length).drew).congr (show _ = (⟨m.L, upd m.S 3 ⟨true, (m.S 3).last, m.L.length⟩⟩ : LogM) by simp only [upd_upd, upd_same]))
      have HM := Lib.hid (fun v v' => ((Moves.setCell w ⟨g, 11, none⟩ v h.fg).trans (Moves.setCell (w.setCell ⟨g, 11, none⟩ v) ⟨g, 13, none⟩ v' h.fg) (fun _ _ k => k)).trans (Moves.drew _) (fun _ _ k => k))
      clear h ho
      cases hh : (m.S 3).here
      all_goals
        rw [hh] at c1
        go_enter Try.func64, Try.ntmps64
        go_wp2_with (go_at_call 96; refine (Writer_c _ _).mono ?_; rintro e w' ⟨rfl, rfl⟩)
      · go_region
        go_wp2
        go_ret2
        rw [Hf.out, hh]
        exact ⟨rfl, HE.out, HM.out _ _⟩
      · go_ret2
        rw [Hf.out, hh]
        exact ⟨rfl, HL.out, Moves.refl _ _⟩

theorem Leave_c (h : LogAt w base F g m) (x : Int) : Calls Try.prog 117 #[.pointer (some ⟨g, 0, none⟩), .int .i64 x] w fun e w' =>
    e = .returned (.int .i64 (m.leaveF x).2) ∧ LogAt w' base F g (m.leaveF x).1 ∧ Moves F w w' := by
  have HL := Lib.hid h
  cases hx : m.hereF x
  · have Hf := Lib.hid (show m.leaveF x = (m, 5) by unfold LogM.leaveF; rw [hx]; rfl)
    have HX := Lib.hid hx
    clear hx
    go_enter Try.func117, Try.ntmps117
    go_wp2_with (go_at_call 50; refine (Here_b (by assumption) _ _ (Hid.out (by assumption))).mono ?_; rintro e w' ⟨rfl, rfl⟩)
    go_ret
    exact ⟨by rw [Hf.out]; rfl, by rw [Hf.out]; exact HL.out, Moves.refl _ _⟩
  · have HX := Lib.hid hx
    rcases isWriter_cases (LogM.hereF_writer hx).1 with rfl | rfl | rfl | rfl
    · have Hf := Lib.hid (show m.leaveF 0 = (⟨m.L, upd m.S 0 ⟨false, (m.S 0).last, (m.S 0).seen⟩⟩, 0) by unfold LogM.leaveF LogM.seat LogM.put; rw [hx]; rfl)
      have c1 : w.cell? ⟨g, 2, none⟩ = some (.bool (m.S 0).here) := h.here 0 (by omega)
      have f1 := h.fz 2 (by omega)
      have HE := Lib.hid (h.setHere 0 2 rfl false)
      have HM := Lib.hid (fun v => Moves.setCell w ⟨g, 2, none⟩ v h.fg)
      clear hx
      go_enter Try.func117, Try.ntmps117
      go_wp2_with (go_at_call 50; refine (Here_b (by assumption) _ _ (Hid.out (by assumption))).mono ?_; rintro e w' ⟨rfl, rfl⟩)
      go_ret
      rw [Hf.out]
      exact ⟨rfl, HE.out, HM.out _⟩
    · have Hf := Lib.hid (show m.leaveF 1 = (⟨m.L, upd m.S 1 ⟨false, (m.S 1).last, (m.S 1).seen⟩⟩, 0) by unfold LogM.leaveF LogM.seat LogM.put; rw [hx]; rfl)
      have c1 : w.cell? ⟨g, 5, none⟩ = some (.bool (m.S 1).here) := h.here 1 (by omega)
      have f1 := h.fz 5 (by omega)
      have HE := Lib.hid (h.setHere 1 5 rfl false)
      have HM := Lib.hid (fun v => Moves.setCell w ⟨g, 5, none⟩ v h.fg)
      clear hx
      go_enter Try.func117, Try.ntmps117
      go_wp2_with (go_at_call 50; refine (Here_b (by assumption) _ _ (Hid.out (by assumption))).mono ?_; rintro e w' ⟨rfl, rfl⟩)
      go_ret
      rw [Hf.out]
      exact ⟨rfl, HE.out, HM.out _⟩
    · have Hf := Lib.hid (show m.leaveF 2 = (⟨m.L, upd m.S 2 ⟨false, (m.S 2).last, (m.S 2).seen⟩⟩, 0) by unfold LogM.leaveF LogM.seat LogM.put; rw [hx]; rfl)
      have c1 : w.cell? ⟨g, 8, none⟩ = some (.bool (m.S 2).here) := h.here 2 (by omega)
      have f1 := h.fz 8 (by omega)
      have HE := Lib.hid (h.setHere 2 8 rfl false)
      have HM := Lib.hid (fun v => Moves.setCell w ⟨g, 8, none⟩ v h.fg)
      clear hx
      go_enter Try.func117, Try.ntmps117
      go_wp2_with (go_at_call 50; refine (Here_b (by assumption) _ _ (Hid.out (by assumption))).mono ?_; rintro e w' ⟨rfl, rfl⟩)
      go_ret
      rw [Hf.out]
      exact ⟨rfl, HE.out, HM.out _⟩
    · have Hf := Lib.hid (show m.leaveF 3 = (⟨m.L, upd m.S 3 ⟨false, (m.S 3).last, (m.S 3).seen⟩⟩, 0) by unfold LogM.leaveF LogM.seat LogM.put; rw [hx]; rfl)
      have c1 : w.cell? ⟨g, 11, none⟩ = some (.bool (m.S 3).here) := h.here 3 (by omega)
      have f1 := h.fz 11 (by omega)
      have HE := Lib.hid (h.setHere 3 11 rfl false)
      have HM := Lib.hid (fun v => Moves.setCell w ⟨g, 11, none⟩ v h.fg)
      clear hx
      go_enter Try.func117, Try.ntmps117
      go_wp2_with (go_at_call 50; refine (Here_b (by assumption) _ _ (Hid.out (by assumption))).mono ?_; rintro e w' ⟨rfl, rfl⟩)
      go_ret
      rw [Hf.out]
      exact ⟨rfl, HE.out, HM.out _⟩

theorem Says_c (h : LogAt w base F g m) (x n : Int) : Calls Try.prog 71 #[.pointer (some ⟨g, 0, none⟩), .int .i64 x, .int .i64 n] w fun e w' =>
    e = .returned (.int .i64 (m.saysF x n).2) ∧ LogAt w' base F g (m.saysF x n).1 ∧ Moves F w w' := by
  have HL := Lib.hid h
  cases hx : m.hereF x
  · have Hf := Lib.hid (show m.saysF x n = (m, 5) by unfold LogM.saysF; rw [hx]; rfl)
    have HX := Lib.hid hx
    clear hx
    go_enter Try.func71, Try.ntmps71
    go_wp2_with (go_at_call 50; refine (Here_b (by assumption) _ _ (Hid.out (by assumption))).mono ?_; rintro e w' ⟨rfl, rfl⟩)
    go_ret
    exact ⟨by rw [Hf.out]; rfl, by rw [Hf.out]; exact HL.out, Moves.refl _ _⟩
  · have HX := Lib.hid hx
    obtain ⟨a, cap, ca, ccap, r0, _⟩ := h.rows
    rcases isWriter_cases (LogM.hereF_writer hx).1 with rfl | rfl | rfl | rfl
    · have Hf := Lib.hid (show m.saysF 0 n = if n < (m.S 0).seen ∨ (m.L.length : Int) < n then (m, 8) else (⟨m.L, upd m.S 0 ⟨(m.S 0).here, (m.S 0).last, n⟩⟩, 0) by unfold LogM.saysF LogM.seat LogM.put; rw [hx]; rfl)
      have c3 : w.cell? ⟨g, 4, none⟩ = some (.int .i64 (m.S 0).seen) := h.seen 0 (by omega)
      have f3 := h.fz 4 (by omega)
      have HE := Lib.hid (h.setSeen 0 4 rfl n)
      have HM := Lib.hid (fun v => Moves.setCell w ⟨g, 4, none⟩ v h.fg)
      clear hx
      by_cases h1 : n < (m.S 0).seen
      · have h1B : decide (n < (m.S 0).seen) = true := by simpa using h1
        have Hf2 := Lib.hid (Hf.out.trans (if_pos (.inl h1)))
        clear Hf h1
        go_enter Try.func71, Try.ntmps71
        go_wp2_with (go_at_call 50; refine (Here_b (by assumption) _ _ (Hid.out (by assumption))).mono ?_; rintro e w' ⟨rfl, rfl⟩)
        go_ret
        rw [Hf2.out]
        exact ⟨rfl, HL.out, Moves.refl _ _⟩
      · have h1B : decide (n < (m.S 0).seen) = false := by simpa using h1
        by_cases h2 : (m.L.length : Int) < n
        · have h2B : decide ((m.L.length : Int) < n) = true := by simpa using h2
          have Hf2 := Lib.hid (Hf.out.trans (if_pos (.inr h2)))
          clear Hf h1 h2
          go_enter Try.func71, Try.ntmps71
          go_wp2_with (go_at_call 50; refine (Here_b (by assumption) _ _ (Hid.out (by assumption))).mono ?_; rintro e w' ⟨rfl, rfl⟩)
          go_ret
          rw [Hf2.out]
          exact ⟨rfl, HL.out, Moves.refl _ _⟩
        · have h2B : decide ((m.L.length : Int) < n) = false := by simpa using h2
          have Hf2 := Lib.hid (Hf.out.trans (if_neg (by omega)))
          clear Hf h1 h2
          go_enter Try.func71, Try.ntmps71
          go_wp2_with (go_at_call 50; refine (Here_b (by assumption) _ _ (Hid.out (by assumption))).mono ?_; rintro e w' ⟨rfl, rfl⟩)
          go_ret
          rw [Hf2.out]
          exact ⟨rfl, HE.out, HM.out _⟩
    · have Hf := Lib.hid (show m.saysF 1 n = if n < (m.S 1).seen ∨ (m.L.length : Int) < n then (m, 8) else (⟨m.L, upd m.S 1 ⟨(m.S 1).here, (m.S 1).last, n⟩⟩, 0) by unfold LogM.saysF LogM.seat LogM.put; rw [hx]; rfl)
      have c3 : w.cell? ⟨g, 7, none⟩ = some (.int .i64 (m.S 1).seen) := h.seen 1 (by omega)
      have f3 := h.fz 7 (by omega)
      have HE := Lib.hid (h.setSeen 1 7 rfl n)
      have HM := Lib.hid (fun v => Moves.setCell w ⟨g, 7, none⟩ v h.fg)
      clear hx
      by_cases h1 : n < (m.S 1).seen
      · have h1B : decide (n < (m.S 1).seen) = true := by simpa using h1
        have Hf2 := Lib.hid (Hf.out.trans (if_pos (.inl h1)))
        clear Hf h1
        go_enter Try.func71, Try.ntmps71
        go_wp2_with (go_at_call 50; refine (Here_b (by assumption) _ _ (Hid.out (by assumption))).mono ?_; rintro e w' ⟨rfl, rfl⟩)
        go_ret
        rw [Hf2.out]
        exact ⟨rfl, HL.out, Moves.refl _ _⟩
      · have h1B : decide (n < (m.S 1).seen) = false := by simpa using h1
        by_cases h2 : (m.L.length : Int) < n
        · have h2B : decide ((m.L.length : Int) < n) = true := by simpa using h2
          have Hf2 := Lib.hid (Hf.out.trans (if_pos (.inr h2)))
          clear Hf h1 h2
          go_enter Try.func71, Try.ntmps71
          go_wp2_with (go_at_call 50; refine (Here_b (by assumption) _ _ (Hid.out (by assumption))).mono ?_; rintro e w' ⟨rfl, rfl⟩)
          go_ret
          rw [Hf2.out]
          exact ⟨rfl, HL.out, Moves.refl _ _⟩
        · have h2B : decide ((m.L.length : Int) < n) = false := by simpa using h2
          have Hf2 := Lib.hid (Hf.out.trans (if_neg (by omega)))
          clear Hf h1 h2
          go_enter Try.func71, Try.ntmps71
          go_wp2_with (go_at_call 50; refine (Here_b (by assumption) _ _ (Hid.out (by assumption))).mono ?_; rintro e w' ⟨rfl, rfl⟩)
          go_ret
          rw [Hf2.out]
          exact ⟨rfl, HE.out, HM.out _⟩
    · have Hf := Lib.hid (show m.saysF 2 n = if n < (m.S 2).seen ∨ (m.L.length : Int) < n then (m, 8) else (⟨m.L, upd m.S 2 ⟨(m.S 2).here, (m.S 2).last, n⟩⟩, 0) by unfold LogM.saysF LogM.seat LogM.put; rw [hx]; rfl)
      have c3 : w.cell? ⟨g, 10, none⟩ = some (.int .i64 (m.S 2).seen) := h.seen 2 (by omega)
      have f3 := h.fz 10 (by omega)
      have HE := Lib.hid (h.setSeen 2 10 rfl n)
      have HM := Lib.hid (fun v => Moves.setCell w ⟨g, 10, none⟩ v h.fg)
      clear hx
      by_cases h1 : n < (m.S 2).seen
      · have h1B : decide (n < (m.S 2).seen) = true := by simpa using h1
        have Hf2 := Lib.hid (Hf.out.trans (if_pos (.inl h1)))
        clear Hf h1
        go_enter Try.func71, Try.ntmps71
        go_wp2_with (go_at_call 50; refine (Here_b (by assumption) _ _ (Hid.out (by assumption))).mono ?_; rintro e w' ⟨rfl, rfl⟩)
        go_ret
        rw [Hf2.out]
        exact ⟨rfl, HL.out, Moves.refl _ _⟩
      · have h1B : decide (n < (m.S 2).seen) = false := by simpa using h1
        by_cases h2 : (m.L.length : Int) < n
        · have h2B : decide ((m.L.length : Int) < n) = true := by simpa using h2
          have Hf2 := Lib.hid (Hf.out.trans (if_pos (.inr h2)))
          clear Hf h1 h2
          go_enter Try.func71, Try.ntmps71
          go_wp2_with (go_at_call 50; refine (Here_b (by assumption) _ _ (Hid.out (by assumption))).mono ?_; rintro e w' ⟨rfl, rfl⟩)
          go_ret
          rw [Hf2.out]
          exact ⟨rfl, HL.out, Moves.refl _ _⟩
        · have h2B : decide ((m.L.length : Int) < n) = false := by simpa using h2
          have Hf2 := Lib.hid (Hf.out.trans (if_neg (by omega)))
          clear Hf h1 h2
          go_enter Try.func71, Try.ntmps71
          go_wp2_with (go_at_call 50; refine (Here_b (by assumption) _ _ (Hid.out (by assumption))).mono ?_; rintro e w' ⟨rfl, rfl⟩)
          go_ret
          rw [Hf2.out]
          exact ⟨rfl, HE.out, HM.out _⟩
    · have Hf := Lib.hid (show m.saysF 3 n = if n < (m.S 3).seen ∨ (m.L.length : Int) < n then (m, 8) else (⟨m.L, upd m.S 3 ⟨(m.S 3).here, (m.S 3).last, n⟩⟩, 0) by unfold LogM.saysF LogM.seat LogM.put; rw [hx]; rfl)
      have c3 : w.cell? ⟨g, 13, none⟩ = some (.int .i64 (m.S 3).seen) := h.seen 3 (by omega)
      have f3 := h.fz 13 (by omega)
      have HE := Lib.hid (h.setSeen 3 13 rfl n)
      have HM := Lib.hid (fun v => Moves.setCell w ⟨g, 13, none⟩ v h.fg)
      clear hx
      by_cases h1 : n < (m.S 3).seen
      · have h1B : decide (n < (m.S 3).seen) = true := by simpa using h1
        have Hf2 := Lib.hid (Hf.out.trans (if_pos (.inl h1)))
        clear Hf h1
        go_enter Try.func71, Try.ntmps71
        go_wp2_with (go_at_call 50; refine (Here_b (by assumption) _ _ (Hid.out (by assumption))).mono ?_; rintro e w' ⟨rfl, rfl⟩)
        go_ret
        rw [Hf2.out]
        exact ⟨rfl, HL.out, Moves.refl _ _⟩
      · have h1B : decide (n < (m.S 3).seen) = false := by simpa using h1
        by_cases h2 : (m.L.length : Int) < n
        · have h2B : decide ((m.L.length : Int) < n) = true := by simpa using h2
          have Hf2 := Lib.hid (Hf.out.trans (if_pos (.inr h2)))
          clear Hf h1 h2
          go_enter Try.func71, Try.ntmps71
          go_wp2_with (go_at_call 50; refine (Here_b (by assumption) _ _ (Hid.out (by assumption))).mono ?_; rintro e w' ⟨rfl, rfl⟩)
          go_ret
          rw [Hf2.out]
          exact ⟨rfl, HL.out, Moves.refl _ _⟩
        · have h2B : decide ((m.L.length : Int) < n) = false := by simpa using h2
          have Hf2 := Lib.hid (Hf.out.trans (if_neg (by omega)))
          clear Hf h1 h2
          go_enter Try.func71, Try.ntmps71
          go_wp2_with (go_at_call 50; refine (Here_b (by assumption) _ _ (Hid.out (by assumption))).mono ?_; rintro e w' ⟨rfl, rfl⟩)
          go_ret
          rw [Hf2.out]
          exact ⟨rfl, HE.out, HM.out _⟩
end
end Go.Proofs.Ytneoeokfffnonac
