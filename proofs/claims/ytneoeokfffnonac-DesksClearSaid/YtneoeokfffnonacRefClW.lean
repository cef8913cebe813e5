/- The walks of the reference's Own and ClearOf. -/
import Derived.Test.YtneoeokfffnonacRefW
import Derived.Test.YtneoeokfffnonacPlain
set_option linter.unusedVariables false
set_option linter.unusedSimpArgs false
namespace Go.Proofs.Ytneoeokfffnonac
open Go.RowKit

theorem Own_c (a : Option Addr) (cap : Nat) (l : List Ch) (w : World) (hs : SlCh w a cap l) (hsz : l.length * 56 ≤ 140737488355328) :
    Calls Try.prog 103 #[.slice a l.length cap] w fun e w' => ∃ a' cap', e = .returned (.slice a' l.length cap') ∧
      OwnRow w' w.heap.size 86 7 a' l.length cap' (flat l) ∧ Below w.heap.size w w' := by
  have HXC := Lib.hid (show l.length = 0 ∨ ∃ ad', a = some ad' ∧ ∀ j u, (flat l)[j]? = some u → w.cell? (ad'.add j) = some u from by
    rcases hs.take_cells l.length with h | h | ⟨x, hx, hc⟩
    · exact .inl h
    · exact .inl h
    · exact .inr ⟨x, hx, by rw [List.take_length] at hc; exact hc⟩)
  have hlc := hs.1
  have hmx := hs.2.1
  unfold maxLen at hmx
  clear hs
  go_enter Try.func103, Try.ntmps103
  go_wp2_with (at_builtin; refine wpList_append_row _ rfl (.tmp 4) (.tmp 5) 41 rfl w.heap.size 86 7 56 Try.underlying41 ti_Char none 0 0 [] rfl (OwnRow.nil _ _ _ _ _) a l.length cap (flat l) rfl (flat_length l) HXC.out (flat_one l) (by omega) (Nat.le_refl _) ?_)
  intro a3 cap3 w3 hown3 hg3
  intros
  have hbx : Below w.heap.size w w3 := below_grownBy hg3 (Nat.le_refl _) (fun k hk => by simp [ownB] at hk)
  have hown3 : OwnRow w3 w.heap.size 86 7 a3 l.length cap3 (flat l) := by simpa using hown3
  clear HXC hg3
  go_wp2
  go_ret
  exact ⟨a3, cap3, by simp, hown3, hbx⟩

theorem keep_done (least : Int) (c : Ch) : (!doneB least c) = (c.Out == 0 || (decide (least < c.Out) || decide (c.Out < 0))) := by
  unfold doneB
  by_cases h1 : c.Out = 0
  · simp [h1]
  · by_cases h2 : c.Out < 0
    · have : ¬ 0 < c.Out := by omega
      simp [h1, h2, this]
    · have h3 : 0 < c.Out := by omega
      by_cases h4 : least < c.Out
      · have : ¬ c.Out ≤ least := by omega
        simp [h4, this]
      · have : c.Out ≤ least := by omega
        simp [h1, h2, h3, h4, this]

set_option maxHeartbeats 400000 in
theorem ClearOf_c (a : Option Addr) (cap : Nat) (l : List Ch) (least : Int) (w : World) (hs : SlCh w a cap l) (hsz : l.length * 56 ≤ 140737488355328) :
    Calls Try.prog 104 #[.slice a l.length cap, .int .i64 least] w fun e w' => ∃ a' cap', e = .returned (.slice a' (clearOf least l).length cap') ∧
      OwnRow w' w.heap.size 86 7 a' (clearOf least l).length cap' (flat (clearOf least l)) ∧ Below w.heap.size w w' := by
  have hlc := hs.1
  have hmx := hs.2.1
  unfold maxLen at hmx
  go_enter Try.func104, Try.ntmps104
  go_wp2
  go_loopw [5, 6] (fun s5 s6 wr => ∃ (i : Nat) (a' : Option Addr) (cap' : Nat), i ≤ l.length ∧ s6 = .int .i64 i ∧ s5 = .slice a' (clearOf least (l.take i)).length cap' ∧
    OwnRow wr w.heap.size 86 7 a' (clearOf least (l.take i)).length cap' (flat (clearOf least (l.take i))) ∧ Below w.heap.size w wr) (fun _ s6 _ => l.length - (intOf s6).toNat)
  case atStart => exact ⟨0, none, 0, Nat.zero_le _, rfl, rfl, OwnRow.nil _ _ _ _ _, Below.refl _ _⟩
  case round =>
    obtain ⟨i, a', cap', hi, rfl, rfl, hown, hb⟩ := hrel
    by_cases hlt : i < l.length
    · obtain ⟨bb, off, rfl, hc⟩ := hs.nth hlt
      obtain ⟨q0, q1, q2, q3, q4, q5, q6⟩ := hc.below hb hc.lt
      have HK := Lib.hid (clearOf_snoc least l i hlt)
      have HD := Lib.hid (keep_done least l[i])
      have hcl := clearOf_le least (l.take i)
      rw [List.length_take] at hcl
      have hlt' : (i : Int) < l.length := by omega
      have hi0 : (0 : Int) ≤ (i : Int) := by omega
      have HO := Lib.hid hown; clear hown hc
      generalize hx : l[i] = x at *
      clear hx
      have HGo := Lib.hid (show doneB least x = true → clearOf least (l.take (i + 1)) = clearOf least (l.take i) from fun h => by rw [HK.out, h]; simp)
      have HSt := Lib.hid (show doneB least x = false → clearOf least (l.take (i + 1)) = clearOf least (l.take i) ++ [x] from fun h => by rw [HK.out, h]; simp)
      clear HK
      have e1 := HD.out
      cases h1 : (x.Out == 0)
      · cases h2 : decide (least < x.Out)
        · cases h3 : decide (x.Out < 0)
          · have HD2 := Lib.hid (HGo.out (by rw [h1, h2, h3] at e1; simpa using e1))
            clear HD HGo HSt e1
            go_wp2
            exact ⟨⟨i + 1, a', cap', by omega, by go_num, by rw [HD2.out], by rw [HD2.out]; exact HO.out, hb⟩, by simp [intOf]; omega⟩
          · have HD2 := Lib.hid (HSt.out (by rw [h1, h2, h3] at e1; simpa using e1))
            clear HD HGo HSt e1
            go_wp2_with (at_builtin; refine wpList_append_new rfl (.tmp 36) (.tmp 41) 41 rfl w.heap.size 86 7 56 Try.underlying41 ti_Char a' _ cap' _ rfl HO.out 1 1 x.cells rfl rfl (Ch.cells_one x) (by omega) hb.size ?_)
            intro a3 cap3 w3 hown3 hb3 hz3 hg3
            have HO3 := Lib.hid (show OwnRow w3 w.heap.size 86 7 a3 (clearOf least (l.take (i + 1))).length cap3 (flat (clearOf least (l.take (i + 1)))) by rw [HD2.out, flat_append, List.length_append]; exact hown3)
            clear hown3 HO hg3
            go_wp2
            exact ⟨⟨i + 1, a3, cap3, by omega, by go_num, by rw [HD2.out]; simp, HO3.out, hb.trans hb3⟩, by simp [intOf]; omega⟩
        · have HD2 := Lib.hid (HSt.out (by rw [h1, h2] at e1; simpa using e1))
          clear HD HGo HSt e1
          go_wp2_with (at_builtin; refine wpList_append_new rfl (.tmp 36) (.tmp 41) 41 rfl w.heap.size 86 7 56 Try.underlying41 ti_Char a' _ cap' _ rfl HO.out 1 1 x.cells rfl rfl (Ch.cells_one x) (by omega) hb.size ?_)
          intro a3 cap3 w3 hown3 hb3 hz3 hg3
          have HO3 := Lib.hid (show OwnRow w3 w.heap.size 86 7 a3 (clearOf least (l.take (i + 1))).length cap3 (flat (clearOf least (l.take (i + 1)))) by rw [HD2.out, flat_append, List.length_append]; exact hown3)
          clear hown3 HO hg3
          go_wp2
          exact ⟨⟨i + 1, a3, cap3, by omega, by go_num, by rw [HD2.out]; simp, HO3.out, hb.trans hb3⟩, by simp [intOf]; omega⟩
      · have HD2 := Lib.hid (HSt.out (by rw [h1] at e1; simpa using e1))
        clear HD HGo HSt e1
        go_wp2_with (at_builtin; refine wpList_append_new rfl (.tmp 36) (.tmp 41) 41 rfl w.heap.size 86 7 56 Try.underlying41 ti_Char a' _ cap' _ rfl HO.out 1 1 x.cells rfl rfl (Ch.cells_one x) (by omega) hb.size ?_)
        intro a3 cap3 w3 hown3 hb3 hz3 hg3
        have HO3 := Lib.hid (show OwnRow w3 w.heap.size 86 7 a3 (clearOf least (l.take (i + 1))).length cap3 (flat (clearOf least (l.take (i + 1)))) by rw [HD2.out, flat_append, List.length_append]; exact hown3)
        clear hown3 HO hg3
        go_wp2
        exact ⟨⟨i + 1, a3, cap3, by omega, by go_num, by rw [HD2.out]; simp, HO3.out, hb.trans hb3⟩, by simp [intOf]; omega⟩
    · obtain rfl : i = l.length := by omega
      have HO := Lib.hid hown; clear hown
      rw [List.take_length] at HO ⊢
      go_wp2
      go_ret
      exact ⟨a', cap', rfl, HO.out, hb⟩
end Go.Proofs.Ytneoeokfffnonac
