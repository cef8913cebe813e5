/- The walks of the log's methods: New, Least, Deed, Chars, Text. -/
import Derived.Test.YtneoeokfffnonacLogW
import Derived.Test.YtneoeokfffnonacFoN
import Derived.Test.YtneoeokfffnonacPlainL
set_option linter.unusedVariables false
set_option linter.unusedSimpArgs false
namespace Go.Proofs.Ytneoeokfffnonac
open Go.RowKit

theorem New_log (w : World) : Calls Try.prog 62 #[] w fun e w' => ∃ F g, e = .returned (.pointer (some ⟨g, 0, none⟩)) ∧ LogAt w' w.heap.size F g LogM.new ∧ Below w.heap.size w w' := by
  go_enter Try.func62, Try.ntmps62
  go_wp2
  go_ret
  refine ⟨fun k => k = w.heap.size, w.heap.size, rfl, ?_, (Below.refl _ _).alloc (Nat.le_refl _) _⟩
  refine ⟨by simp, rfl, fun k hk => by subst hk; simp, fun o ho => by simp, ⟨none, 0, none, 0, by simp [LogM.new], by simp [LogM.new, LogM.chars, allF, allFrom], OwnRow.nil _ _ _ _ _, OwnRow.nil _ _ _ _ _, fun k hk => by simp [ownB] at hk, fun k hk => by simp [ownB] at hk⟩, fun j hj => ?_, fun j hj => ?_, fun j hj => ?_⟩
  all_goals rcases (show j = 0 ∨ j = 1 ∨ j = 2 ∨ j = 3 by omega) with rfl | rfl | rfl | rfl <;> simp [LogM.new]

section
variable {w : World} {base : Nat} {F : Nat → Prop} {g : Nat} {m : LogM}

theorem Deed_c (h : LogAt w base F g m) (n : Int) : Calls Try.prog 32 #[.pointer (some ⟨g, 0, none⟩), .int .i64 n] w fun e w' => Below w.heap.size w w' ∧
    (e = .returned (.tuple #[.agg #[.int .i64 0, .int .i64 0, .int .i64 0, .int .i64 0, .int .i64 0, .int .i64 0, .string ⟨#[]⟩], .bool false]) ∧ (n < 1 ∨ (m.L.length : Int) < n) ∨
     ∃ (k : Nat) (hk : k < m.L.length), n = (k : Int) + 1 ∧ e = .returned (.tuple #[.agg #[.int .i64 m.L[k].Kind, .int .i64 m.L[k].By, .int .i64 m.L[k].No, .int .i64 m.L[k].Seen, .int .i64 m.L[k].At, .int .i64 m.L[k].Many, .string m.L[k].Text], .bool true])) := by
  obtain ⟨a, cap, ca, ccap, r0, _, r2, _⟩ := h.rows
  have hs := r2.slDd
  have hlt := h.lt
  have hb := fun o => (Below.refl w.heap.size w).alloc (Nat.le_refl _) o
  have HB := Lib.hid hb
  have r0' : ∀ o, (w.alloc o).cell? ⟨g, 0, none⟩ = some (.slice a m.L.length cap) := fun o => ((hb o).cell (p := ⟨g, 0, none⟩) hlt).trans r0
  have R0 := r0' (.cells #[.int .i64 0, .int .i64 0, .int .i64 0, .int .i64 0, .int .i64 0, .int .i64 0, .string ⟨#[]⟩] 24)
  have hm : m.L.length ≤ maxLen := Nat.le_trans hs.1 hs.2.1
  unfold maxLen at hm
  by_cases h1 : n < 1
  · have h1B : decide (n < 1) = true := by simpa using h1
    have HO := Lib.hid (show n < 1 ∨ (m.L.length : Int) < n from .inl h1)
    clear r0 r0' hs h r2 h1 hb
    go_enter Try.func32, Try.ntmps32
    go_wp2
    exact bodyPost_ret (v := .tuple #[.agg #[.int .i64 0, .int .i64 0, .int .i64 0, .int .i64 0, .int .i64 0, .int .i64 0, .string ⟨#[]⟩], .bool false]) (by simp [results, Try.results32, go_sem]) rfl ⟨HB.out _, .inl ⟨rfl, HO.out⟩⟩
  · have h1B : decide (n < 1) = false := by simpa using h1
    by_cases h2 : (m.L.length : Int) < n
    · have h2B : decide ((m.L.length : Int) < n) = true := by simpa using h2
      have HO := Lib.hid (show n < 1 ∨ (m.L.length : Int) < n from .inr h2)
      clear r0 r0' hs h r2 h1 h2 hb
      go_enter Try.func32, Try.ntmps32
      go_wp2
      exact bodyPost_ret (v := .tuple #[.agg #[.int .i64 0, .int .i64 0, .int .i64 0, .int .i64 0, .int .i64 0, .int .i64 0, .string ⟨#[]⟩], .bool false]) (by simp [results, Try.results32, go_sem]) rfl ⟨HB.out _, .inl ⟨rfl, HO.out⟩⟩
    · obtain ⟨k, rfl⟩ : ∃ k : Nat, n = (k : Int) + 1 := ⟨(n - 1).toNat, by omega⟩
      have h2B : decide ((m.L.length : Int) < (k : Int) + 1) = false := by simpa using h2
      have hk : k < m.L.length := by omega
      have hk' : (k : Int) < m.L.length := by omega
      have hk0 : (0 : Int) ≤ (k : Int) := by omega
      have hw : IntKind.i64.wrap ((k : Int) + 1 - 1) = (k : Int) := by rw [IntKind.wrap_i64]; omega
      have HK := Lib.hid hk
      obtain ⟨bb, off, ha, hc⟩ := hs.nth hk
      subst ha
      have hbl := hb (.cells #[.int .i64 0, .int .i64 0, .int .i64 0, .int .i64 0, .int .i64 0, .int .i64 0, .string ⟨#[]⟩] 24)
      obtain ⟨q0, q1, q2, q3, q4, q5, q6⟩ := hc
      have qlt := World.block_lt_of_cell? w _ q0
      have hcl : ∀ o u, w.cell? ⟨bb, o, none⟩ = some u → (w.alloc (.cells #[.int .i64 0, .int .i64 0, .int .i64 0, .int .i64 0, .int .i64 0, .int .i64 0, .string ⟨#[]⟩] 24)).cell? ⟨bb, o, none⟩ = some u := fun o u h => (hbl.cell (p := ⟨bb, o, none⟩) qlt).trans h
      have q0 := hcl _ _ q0
      have q1 := hcl _ _ q1
      have q2 := hcl _ _ q2
      have q3 := hcl _ _ q3
      have q4 := hcl _ _ q4
      have q5 := hcl _ _ q5
      have q6 := hcl _ _ q6
      have HX := Lib.hid (show ∃ d, m.L[k] = d from ⟨_, rfl⟩)
      clear r0 r0' hs h r2 h1 h2 hb hbl hcl
      have HG := Lib.hid (show ∀ (P : Dd → Prop), P m.L[k] → ∃ (j : Nat) (hj : j < m.L.length), (k : Int) + 1 = (j : Int) + 1 ∧ P m.L[j] from fun P h => ⟨k, HK.out, rfl, h⟩)
      generalize m.L[k] = d at *
      go_enter Try.func32, Try.ntmps32
      go_wp2
      refine bodyPost_ret (v := .tuple #[.agg #[.int .i64 d.Kind, .int .i64 d.By, .int .i64 d.No, .int .i64 d.Seen, .int .i64 d.At, .int .i64 d.Many, .string d.Text], .bool true]) (by simp [results, Try.results32, go_sem]) rfl ⟨HB.out _, .inr ?_⟩
      obtain ⟨j, hj, e1, e2⟩ := HG.out (fun x => x = d) rfl
      exact ⟨j, by omega, hj, by rw [e2]⟩

theorem seat_ix0 (v0 v1 v2 v3 v4 v5 v6 v7 v8 v9 v10 v11 : Value) (w : World) : (Instr.index 126 (.agg #[v0, v1, v2, v3, v4, v5, v6, v7, v8, v9, v10, v11]) (.int .i64 0)).run Try.prog w = .ok (.agg #[v0, v1, v2]) w := by kernel_rfl
theorem seat_ix1 (v0 v1 v2 v3 v4 v5 v6 v7 v8 v9 v10 v11 : Value) (w : World) : (Instr.index 126 (.agg #[v0, v1, v2, v3, v4, v5, v6, v7, v8, v9, v10, v11]) (.int .i64 1)).run Try.prog w = .ok (.agg #[v3, v4, v5]) w := by kernel_rfl
theorem seat_ix2 (v0 v1 v2 v3 v4 v5 v6 v7 v8 v9 v10 v11 : Value) (w : World) : (Instr.index 126 (.agg #[v0, v1, v2, v3, v4, v5, v6, v7, v8, v9, v10, v11]) (.int .i64 2)).run Try.prog w = .ok (.agg #[v6, v7, v8]) w := by kernel_rfl
theorem seat_ix3 (v0 v1 v2 v3 v4 v5 v6 v7 v8 v9 v10 v11 : Value) (w : World) : (Instr.index 126 (.agg #[v0, v1, v2, v3, v4, v5, v6, v7, v8, v9, v10, v11]) (.int .i64 3)).run Try.prog w = .ok (.agg #[v9, v10, v11]) w := by kernel_rfl
set_option maxRecDepth 100000 in
theorem Least_c (h : LogAt w base F g m) : Calls Try.prog 36 #[.pointer (some ⟨g, 0, none⟩)] w fun e w' => e = .returned (.int .i64 m.least) ∧ Below w.heap.size w w' := by
  obtain ⟨a, cap, ca, ccap, r0, _⟩ := h.rows
  have H0 : w.cell? ⟨g, 2, none⟩ = some (.bool (m.S 0).here) := h.here 0 (by omega)
  have H1 : w.cell? ⟨g, 5, none⟩ = some (.bool (m.S 1).here) := h.here 1 (by omega)
  have H2 : w.cell? ⟨g, 8, none⟩ = some (.bool (m.S 2).here) := h.here 2 (by omega)
  have H3 : w.cell? ⟨g, 11, none⟩ = some (.bool (m.S 3).here) := h.here 3 (by omega)
  have L0 : w.cell? ⟨g, 3, none⟩ = some (.int .i64 (m.S 0).last) := h.last 0 (by omega)
  have L1 : w.cell? ⟨g, 6, none⟩ = some (.int .i64 (m.S 1).last) := h.last 1 (by omega)
  have L2 : w.cell? ⟨g, 9, none⟩ = some (.int .i64 (m.S 2).last) := h.last 2 (by omega)
  have L3 : w.cell? ⟨g, 12, none⟩ = some (.int .i64 (m.S 3).last) := h.last 3 (by omega)
  have S0 : w.cell? ⟨g, 4, none⟩ = some (.int .i64 (m.S 0).seen) := h.seen 0 (by omega)
  have S1 : w.cell? ⟨g, 7, none⟩ = some (.int .i64 (m.S 1).seen) := h.seen 1 (by omega)
  have S2 : w.cell? ⟨g, 10, none⟩ = some (.int .i64 (m.S 2).seen) := h.seen 2 (by omega)
  have S3 : w.cell? ⟨g, 13, none⟩ = some (.int .i64 (m.S 3).seen) := h.seen 3 (by omega)
  have I0 := seat_ix0; have I1 := seat_ix1; have I2 := seat_ix2; have I3 := seat_ix3
  go_enter Try.func36, Try.ntmps36
  go_wp2
  go_loopw [3, 15] (fun s3 s15 wr => ∃ k : Nat, k ≤ 4 ∧ s15 = .int .i64 k ∧ s3 = .int .i64 (m.leastTo k) ∧ Below w.heap.size w wr) (fun _ s15 _ => 4 - (intOf s15).toNat)
  case atStart => exact ⟨0, by omega, rfl, rfl, Below.refl _ _⟩
  case round =>
    obtain ⟨k, hk, rfl, rfl, hb⟩ := hrel
    clear H0 H1 H2 H3 L0 L1 L2 L3 S0 S1 S2 S3 r0
    have HB := Lib.hid hb
    have HA := Lib.hid (fun o => hb.alloc hb.size o)
    rcases (show k = 0 ∨ k = 1 ∨ k = 2 ∨ k = 3 ∨ k = 4 by omega) with rfl | rfl | rfl | rfl | rfl
    · have HS := Lib.hid (show m.leastTo 1 = if (m.S 0).here then min (m.leastTo 0) (m.S 0).seen else m.leastTo 0 from rfl)
      generalize m.leastTo 0 = n0 at *
      cases hh : (m.S 0).here
      all_goals
        rw [hh] at HS
        go_wp2
        exact ⟨⟨1, by omega, by go_num, by rw [HS.out]; first | rfl | (simp; omega), HA.out _⟩, by simp [intOf]⟩
    · have HS := Lib.hid (show m.leastTo 2 = if (m.S 1).here then min (m.leastTo 1) (m.S 1).seen else m.leastTo 1 from rfl)
      generalize m.leastTo 1 = n0 at *
      cases hh : (m.S 1).here
      all_goals
        rw [hh] at HS
        go_wp2
        exact ⟨⟨2, by omega, by go_num, by rw [HS.out]; first | rfl | (simp; omega), HA.out _⟩, by simp [intOf]⟩
    · have HS := Lib.hid (show m.leastTo 3 = if (m.S 2).here then min (m.leastTo 2) (m.S 2).seen else m.leastTo 2 from rfl)
      generalize m.leastTo 2 = n0 at *
      cases hh : (m.S 2).here
      all_goals
        rw [hh] at HS
        go_wp2
        exact ⟨⟨3, by omega, by go_num, by rw [HS.out]; first | rfl | (simp; omega), HA.out _⟩, by simp [intOf]⟩
    · have HS := Lib.hid (show m.leastTo 4 = if (m.S 3).here then min (m.leastTo 3) (m.S 3).seen else m.leastTo 3 from rfl)
      generalize m.leastTo 3 = n0 at *
      cases hh : (m.S 3).here
      all_goals
        rw [hh] at HS
        go_wp2
        exact ⟨⟨4, by omega, by go_num, by rw [HS.out]; first | rfl | (simp; omega), HA.out _⟩, by simp [intOf]⟩
    · go_wp2
      go_ret
      exact ⟨rfl, HB.out⟩

theorem LogM.Ok.chars_len {m : LogM} (h : m.Ok) : m.chars.length ≤ 200 := by
  have := (h.lok.made m.L.length (Nat.le_refl _)).max
  rw [pre_len] at this; exact this

theorem Chars_c (h : LogAt w base F g m) (ho : m.Ok) : Calls Try.prog 65 #[.pointer (some ⟨g, 0, none⟩)] w fun e w' => ∃ a' cap', e = .returned (.slice a' m.chars.length cap') ∧
      OwnRow w' w.heap.size 86 7 a' m.chars.length cap' (flat m.chars) ∧ Below w.heap.size w w' := by
  obtain ⟨a, cap, ca, ccap, _, r1, _, r3, _⟩ := h.rows
  have hl := ho.chars_len
  have hs := r3.slCh
  have hn : ca = none → ccap = 0 := fun e => by
    subst e
    rcases r3.own with h0 | ⟨g, off, cur, h1, _⟩
    · exact h0
    · cases h1
  go_enter Try.func65, Try.ntmps65
  go_wp2_with fail
  refine (Clone_c ca ccap m.chars _ hs (by omega) hn).mono ?_
  rintro e w1 ⟨a1, cap1, rfl, ho1, hb1⟩
  go_wp2
  go_ret
  exact ⟨a1, cap1, rfl, ho1, hb1⟩

theorem LText_c (h : LogAt w base F g m) (ho : m.Ok) : Calls Try.prog 46 #[.pointer (some ⟨g, 0, none⟩)] w fun e w' => e = .returned (.string (strOfNums (textF m.chars))) ∧ Below w.heap.size w w' := by
  obtain ⟨a, cap, ca, ccap, _, r1, _, r3, _⟩ := h.rows
  have hl := ho.chars_len
  have hs := r3.slCh
  go_enter Try.func46, Try.ntmps46
  go_wp2_with fail
  refine (Text_c ca ccap m.chars _ hs (by omega)).mono ?_
  rintro e w1 ⟨rfl, hb1⟩
  go_wp2
  go_ret
  exact ⟨rfl, hb1⟩
end
end Go.Proofs.Ytneoeokfffnonac
