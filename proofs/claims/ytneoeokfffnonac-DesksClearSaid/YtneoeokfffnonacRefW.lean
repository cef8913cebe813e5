/- The walks of the reference's functions on bytes. -/
import Derived.Test.YtneoeokfffnonacProg
import Derived.Test.YtneoeokfffnonacPlain
import Derived.Test.YtneoeokfffnonacTypes
import Derived.StillTailTactics
set_option linter.unusedVariables false
set_option linter.unusedSimpArgs false
namespace Go.Proofs.Ytneoeokfffnonac
open Go.RowKit

theorem IsWriter_c (x : Int) (w : World) :
    Calls Try.prog 63 #[.int .i64 x] w fun e w' => e = .returned (.bool (isWriter x)) ∧ w' = w := by
  go_enter Try.func63, Try.ntmps63
  by_cases h1 : 0 ≤ x <;> by_cases h2 : x < 4
  all_goals (go_wp2; go_ret; exact ⟨by simp [isWriter, h1, h2], rfl⟩)

theorem Took_pos (g x : Int) (w : World) (h0 : 0 ≤ g) (h1 : g < 9223372036854775808) :
    Calls Try.prog 126 #[.int .i64 g, .int .i64 x] w fun e w' => e = .returned (.bool (took g x)) ∧ w' = w := by
  go_enter Try.func126, Try.ntmps126
  cases hw : isWriter x
  · have Hf := Lib.hid (took_no g x hw)
    go_wp2_with (go_at_call 63; refine (IsWriter_c _ _).mono ?_; rintro e w' ⟨rfl, rfl⟩)
    go_ret
    exact ⟨by rw [Hf.out]; rfl, rfl⟩
  · have Hf := Lib.hid (took_halves g x hw)
    have hx : 0 ≤ x ∧ x < 4 := by simpa [isWriter] using hw
    obtain ⟨hx0, hx1⟩ := hx
    go_wp2_with (go_at_call 63; refine (IsWriter_c _ _).mono ?_; rintro e w' ⟨rfl, rfl⟩)
    go_loop [0, 5] (fun G i => ∃ (k : Nat) (g' : Int), k ≤ x.toNat ∧ i = .int .i64 k ∧ G = .int .i64 g' ∧ 0 ≤ g' ∧ g' < 9223372036854775808 ∧ Hid (halves (x.toNat - k) g' = halves x.toNat g)) (fun _ i => x.toNat - (intOf i).toNat)
    case atStart => exact ⟨0, g, Nat.zero_le _, rfl, rfl, h0, h1, Lib.hid rfl⟩
    case round =>
      obtain ⟨k, g', hk, rfl, rfl, hg0, hg1, HE⟩ := hrel
      by_cases hlt : k < x.toNat
      · have hlt' : (k : Int) < x := by omega
        have HE2 := Lib.hid (show halves (x.toNat - (k + 1)) (g' / 2) = halves x.toNat g by
          rw [← HE.out, show x.toNat - k = (x.toNat - (k + 1)) + 1 by omega]; rfl)
        clear HE
        go_wp2
        exact ⟨⟨k + 1, g' / 2, by omega, by go_num, rfl, by omega, by omega, HE2⟩, by simp [intOf]; omega⟩
      · have hge : ¬ (k : Int) < x := by omega
        have HE2 := Lib.hid (show halves x.toNat g = g' by rw [← HE.out, show x.toNat - k = 0 by omega]; rfl)
        clear HE
        go_wp2
        go_ret
        exact ⟨by rw [Hf.out, HE2.out]; rfl, rfl⟩

theorem Took_c (g x : Int) (w : World) (h : i64ok g) :
    Calls Try.prog 126 #[.int .i64 g, .int .i64 x] w fun e w' => e = .returned (.bool (took g x)) ∧ w' = w := by
  obtain ⟨h0, h1⟩ := h
  rcases Int.lt_or_le g 0 with hg | hg
  case inr => exact Took_pos g x w hg h1
  cases hw : isWriter x
  · have Hf := Lib.hid (took_no g x hw)
    go_enter Try.func126, Try.ntmps126
    go_wp2_with (go_at_call 63; refine (IsWriter_c _ _).mono ?_; rintro e w' ⟨rfl, rfl⟩)
    go_ret
    exact ⟨by rw [Hf.out]; rfl, rfl⟩
  · have Hf := Lib.hid (show took g x = !took (-g - 1) x by rw [took_compl g x hw]; simp)
    by_cases hmin : g = -9223372036854775808
    · subst hmin
      have e1 : wrap64 (wrap64 9223372036854775808 - 1) = 9223372036854775807 := by
        rw [show wrap64 9223372036854775808 = -9223372036854775808 by unfold wrap64; omega]; unfold wrap64; omega
      go_enter Try.func126, Try.ntmps126
      go_wp2_with (go_at_call 63; refine (IsWriter_c _ _).mono ?_; rintro e w' ⟨rfl, rfl⟩)
      refine (Took_pos _ _ _ (by omega) (by omega)).mono ?_
      rintro e w' ⟨rfl, rfl⟩
      go_wp2
      go_ret
      exact ⟨by rw [Hf.out]; rfl, rfl⟩
    · go_enter Try.func126, Try.ntmps126
      go_wp2_with (go_at_call 63; refine (IsWriter_c _ _).mono ?_; rintro e w' ⟨rfl, rfl⟩)
      refine (Took_pos _ _ _ (by omega) (by omega)).mono ?_
      rintro e w' ⟨rfl, rfl⟩
      go_wp2
      go_ret
      exact ⟨by rw [Hf.out]; rfl, rfl⟩

theorem KnowsIn_c (c : Ch) (seen by_ : Int) (w : World) :
    Calls Try.prog 119 #[.agg #[.int .u8 c.C, .int .i64 c.By, .int .i64 c.No, .int .i64 c.K, .int .i64 c.In, .int .i64 c.Out, .int .i64 c.Gone], .int .i64 seen, .int .i64 by_] w fun e w' => e = .returned (.bool (c.knowsIn seen by_)) ∧ Below w.heap.size w w' := by
  go_enter Try.func119, Try.ntmps119
  by_cases h1 : c.In ≤ seen <;> by_cases h2 : c.By = by_
  all_goals (go_wp2; go_ret; exact ⟨by simp [Ch.knowsIn, h1, h2], (Below.refl _ _).alloc (Nat.le_refl _) _⟩)

theorem KnowsOut_c (c : Ch) (seen by_ : Int) (w : World) (h : i64ok c.Gone) :
    Calls Try.prog 120 #[.agg #[.int .u8 c.C, .int .i64 c.By, .int .i64 c.No, .int .i64 c.K, .int .i64 c.In, .int .i64 c.Out, .int .i64 c.Gone], .int .i64 seen, .int .i64 by_] w fun e w' => e = .returned (.bool (c.knowsOut seen by_)) ∧ Below w.heap.size w w' := by
  have Hf := Lib.hid (knowsOut_took c seen by_)
  have Hend := Lib.hid (fun o => ((Below.refl w.heap.size w).alloc (Nat.le_refl _) o))
  have H := Lib.hid h; clear h
  go_enter Try.func120, Try.ntmps120
  cases h1 : took c.Gone by_
  · by_cases h2 : 0 < c.Out <;> by_cases h3 : c.Out ≤ seen
    all_goals
      go_wp2_with (go_at_call 126; refine (Took_c _ _ _ H.out).mono ?_; rintro e w' ⟨rfl, rfl⟩)
      go_ret
      exact ⟨by rw [Hf.out, h1]; simp [h2, h3], Hend.out _⟩
  · go_wp2_with (go_at_call 126; refine (Took_c _ _ _ H.out).mono ?_; rintro e w' ⟨rfl, rfl⟩)
    go_ret
    exact ⟨by rw [Hf.out, h1]; rfl, Hend.out _⟩

theorem RSees_c (c : Ch) (seen by_ : Int) (w : World) (h : i64ok c.Gone) :
    Calls Try.prog 98 #[.agg #[.int .u8 c.C, .int .i64 c.By, .int .i64 c.No, .int .i64 c.K, .int .i64 c.In, .int .i64 c.Out, .int .i64 c.Gone], .int .i64 seen, .int .i64 by_] w fun e w' => e = .returned (.bool (c.sees seen by_)) ∧ Below w.heap.size w w' := by
  have H := Lib.hid h; clear h
  go_enter Try.func98, Try.ntmps98
  have Hf := Lib.hid (show c.sees seen by_ = (c.knowsIn seen by_ && !c.knowsOut seen by_) from rfl)
  cases h1 : c.knowsIn seen by_
  · go_wp2_with (go_at_call 119; refine (KnowsIn_c c _ _ _).mono ?_; rintro e w1 ⟨rfl, hb1⟩)
    go_ret
    exact ⟨by rw [Hf.out, h1]; rfl, ((Below.refl _ _).alloc (Nat.le_refl _) _).trans (hb1.mono (by simp))⟩
  · go_wp2_with fail
    refine (KnowsIn_c c _ _ _).mono ?_
    rintro e w1 ⟨rfl, hb1⟩
    obtain ⟨hc1, hf1⟩ := bcell hb1
    go_wp2_with fail
    refine (KnowsOut_c c _ _ _ H.out).mono ?_
    rintro e w2 ⟨rfl, hb2⟩
    go_wp2
    go_ret
    exact ⟨by rw [Hf.out, h1]; rfl, (((Below.refl _ _).alloc (Nat.le_refl _) _).trans (hb1.mono (by simp))).trans (hb2.mono (by have := hb1.size; simp at this; omega))⟩

theorem BehindOf_c (a : Option Addr) (cap : Nat) (l : List Ch) (seen by_ n : Int) (w : World) (hs : SlCh w a cap l) (hg : ∀ c ∈ l, i64ok c.Gone) :
    Calls Try.prog 107 #[.slice a l.length cap, .int .i64 seen, .int .i64 by_, .int .i64 n] w fun e w' => e = .returned (.int .i64 (behind seen by_ l n)) ∧ Below w.heap.size w w' := by
  have hm : l.length ≤ maxLen := Nat.le_trans hs.1 hs.2.1
  unfold maxLen at hm
  have HG := Lib.hid hg; clear hg
  by_cases hz : n = 0
  · subst hz
    go_enter Try.func107, Try.ntmps107
    go_wp2
    go_ret
    exact ⟨rfl, Below.refl _ _⟩
  have hz : (n == 0) = false := by simpa using hz
  have Hf := Lib.hid (show behind seen by_ l n = behindFrom seen by_ l n 0 by unfold behind; rw [if_neg (by simpa using hz)])
  go_enter Try.func107, Try.ntmps107
  go_wp2
  go_loopw [9, 10] (fun m i wr => ∃ (k M : Nat), k ≤ l.length ∧ M ≤ k ∧ i = .int .i64 k ∧ m = .int .i64 M ∧ Hid (behindFrom seen by_ (l.drop k) (n - M) k = behindFrom seen by_ l n 0) ∧ Below w.heap.size w wr) (fun _ i _ => l.length - (intOf i).toNat)
  case atStart => exact ⟨0, 0, Nat.zero_le _, Nat.le_refl _, rfl, rfl, Lib.hid (by simp), Below.refl _ _⟩
  case round =>
    obtain ⟨k, M, hk, hM, rfl, rfl, HE, hb⟩ := hrel
    by_cases hlt : k < l.length
    · obtain ⟨b, off, rfl, hc⟩ := hs.nth hlt
      obtain ⟨q0, q1, q2, q3, q4, q5, q6⟩ := hc.below hb hc.lt
      have hlt' : (k : Int) < l.length := by omega
      have HD := Lib.hid (show behindFrom seen by_ (l.drop k) (n - M) k = if l[k].sees seen by_ then (if n - M = 1 then (k : Int) + 1 else behindFrom seen by_ (l.drop (k + 1)) (n - M - 1) (k + 1)) else behindFrom seen by_ (l.drop (k + 1)) (n - M) (k + 1) by
        rw [List.drop_eq_getElem_cons hlt]; rfl)
      go_wp2_with fail
      refine (RSees_c l[k] _ _ _ (HG.out _ (List.getElem_mem hlt))).mono ?_
      rintro e w2 ⟨rfl, hb2⟩
      clear q0 q1 q2 q3 q4 q5 q6
      have hbx : Below w.heap.size w w2 := hb.trans (hb2.mono hb.size)
      cases hsee : l[k].sees seen by_
      · have HD2 := Lib.hid (show behindFrom seen by_ (l.drop (k + 1)) (n - M) ((k + 1 : Nat) : Int) = behindFrom seen by_ l n 0 by rw [← HE.out, HD.out, hsee]; simp)
        clear HD HE
        go_wp2
        exact ⟨⟨k + 1, M, by omega, by omega, by go_num, rfl, HD2, hbx⟩, by simp [intOf]; omega⟩
      · by_cases h1 : n - M = 1
        · have HD2 := Lib.hid (show behindFrom seen by_ l n 0 = (k : Int) + 1 by rw [← HE.out, HD.out, hsee, if_pos rfl, if_pos h1])
          clear HD HE
          obtain rfl : n = (M : Int) + 1 := by omega
          go_wp2
          go_ret
          exact ⟨by rw [Hf.out, HD2.out]; rfl, hbx⟩
        · have HD2 := Lib.hid (show behindFrom seen by_ (l.drop (k + 1)) (n - (M + 1 : Nat)) ((k + 1 : Nat) : Int) = behindFrom seen by_ l n 0 by rw [← HE.out, HD.out, hsee, if_pos rfl, if_neg h1]; simp [Int.sub_sub])
          clear HD HE
          have h2 : ((M : Int) + 1 == n) = false := by simp; omega
          go_wp2
          exact ⟨⟨k + 1, M + 1, by omega, by omega, by go_num, by go_num, HD2, hbx⟩, by simp [intOf]; omega⟩
    · obtain rfl : k = l.length := by omega
      have HD2 := Lib.hid (show behindFrom seen by_ l n 0 = -1 by rw [← HE.out]; simp [behindFrom])
      clear HE
      go_wp2
      go_ret
      exact ⟨by rw [Hf.out, HD2.out]; rfl, hb⟩
end Go.Proofs.Ytneoeokfffnonac
