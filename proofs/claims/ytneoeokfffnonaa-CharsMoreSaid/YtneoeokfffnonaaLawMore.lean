/- The walk of the law CharsMore. -/
import Derived.Test.YtneoeokfffnonaaChBegun
import Derived.Test.YtneoeokfffnonaaRefW
import Derived.Test.YtneoeokfffnonaaCalm
namespace Go.Proofs.Ytneoeokfffnonaa
open Go.RowKit

theorem Took_b (g x : Int) (r : Bool) (hr : took g x = r) (w : World) (h : i64ok g) :
    Calls Try.prog 28 #[.int .i64 g, .int .i64 x] w fun e w' => e = .returned (.bool r) ∧ w' = w := by subst hr; exact Took_c g x w h

/-- What may be, of what a writer knows that has seen so far, and of what it knows when it has seen more. -/
theorem more_cases (c : Ch) (seen more by_ : Int) (h : seen ≤ more) : ∃ i o t : Bool, c.knowsIn seen by_ = i ∧ c.knowsOut seen by_ = o ∧ took c.Gone by_ = t ∧ c.sees seen by_ = (i && !o) ∧ (i = true → c.knowsIn more by_ = true) ∧ (o = true → c.knowsOut more by_ = true) ∧ (t = true → o = true) := by
  refine ⟨_, _, _, rfl, rfl, rfl, rfl, ?_, ?_, ?_⟩
  · simp [Ch.knowsIn]; intro h; rcases h with h | h
    · left; omega
    · right; exact h
  · rw [knowsOut_took, knowsOut_took]; simp; intro h; rcases h with h | h
    · left; exact h
    · right; omega
  · rw [knowsOut_took]; intro h; rw [h]; rfl

set_option maxRecDepth 100000 in
set_option maxHeartbeats 2000000 in
theorem CharsMore_c (a : Option Addr) (cap : Nat) (l : List Ch) (seen more by_ : Int) (w : World) (hs : SlCh w a cap l) (hok : ∀ c ∈ l, c.ok) :
    Calls Try.prog 5 #[.slice a l.length cap, .int .i64 seen, .int .i64 more, .int .i64 by_] w fun e w' => e = .returned (.bool true) ∧ Below w.heap.size w w' := by
  have hm : l.length ≤ maxLen := Nat.le_trans hs.1 hs.2.1
  unfold maxLen at hm
  have HOK := Lib.hid hok; clear hok
  go_enter Try.func5, Try.ntmps5
  go_wp2_with fail
  refine (charsBegun_c _).mono ?_
  rintro e w1 ⟨rfl, hb1⟩
  have hs1 := hs.below hb1
  clear hs
  by_cases hbig : 300 < l.length
  · go_wp2
    go_ret
    exact ⟨rfl, hb1⟩
  by_cases hless : more < seen
  · go_wp2
    go_ret
    exact ⟨rfl, hb1⟩
  have hge : seen ≤ more := by omega
  have hd1 : decide (300 < (l.length : Int)) = false := by simp; omega
  have hd2 : decide (more < seen) = false := by simpa using hless
  clear hless hbig
  go_wp2
  go_loopw [9] (fun i wr => ∃ k : Nat, k ≤ l.length ∧ i = .int .i64 k ∧ Below w1.heap.size w1 wr) (fun i _ => l.length - (intOf i).toNat)
  case atStart => exact ⟨0, Nat.zero_le _, rfl, Below.refl _ _⟩
  case round =>
    obtain ⟨k, hk, rfl, hb⟩ := hrel
    by_cases hlt : k < l.length
    · obtain ⟨b, off, rfl, hc⟩ := hs1.nth hlt
      obtain ⟨q0, q1, q2, q3, q4, q5, q6⟩ := hc.below hb hc.lt
      have hlt' : (k : Int) < l.length := by omega
      have Hok := Lib.hid (HOK.out _ (List.getElem_mem hlt))
      go_upto_region 9 with fail
      obtain ⟨wz, hwz⟩ : ∃ wz, wz = wr.alloc (.cells #[.int .u8 l[k].C, .int .i64 l[k].By, .int .i64 l[k].No, .int .i64 l[k].K, .int .i64 l[k].In, .int .i64 l[k].Out, .int .i64 l[k].Gone] 24) := ⟨_, rfl⟩
      have hbz : Below w1.heap.size w1 wz := by rw [hwz]; exact hb.alloc hb.size _
      have hcz : ChAt wz wr.heap.size 0 l[k] := by rw [hwz]; simp [ChAt]
      rw [← hwz]
      clear hwz q0 q1 q2 q3 q4 q5 q6 hc hb
      generalize l[k] = x at *
      obtain ⟨i, o, t, hi, ho, ht, hsee, him, hom, hto⟩ := more_cases x seen more by_ hge
      have hC0 := Below.refl wz.heap.size wz
      have hlz : wr.heap.size < wz.heap.size := hcz.lt
      obtain ⟨r0, r1, r2, r3, r4, r5, r6⟩ := hcz
      have r0 := calm_cell r0
      have r1 := calm_cell r1
      have r2 := calm_cell r2
      have r3 := calm_cell r3
      have r4 := calm_cell r4
      have r5 := calm_cell r5
      have r6 := calm_cell r6
      have hG := Lib.hid Hok.out.2.2.2.2.2.2
      cases i <;> cases o <;> cases t <;> first | (exact absurd (hto rfl) (by decide)) | skip
      all_goals
        try (have hI2 := him rfl)
        try (have hO2 := hom rfl)
        clear him hom hto
        simp only [Bool.not_false, Bool.not_true, Bool.and_true, Bool.and_false] at hsee
        go_wp2_with (first
          | (go_at_call 26; refine (calm (w := wz) (by assumption) (In_b _ _ _ _ (by assumption) _)).mono ?_; rintro e w' ⟨rfl, hC⟩)
          | (go_at_call 27; refine (calm (w := wz) (by assumption) (Out_b _ _ _ _ (by assumption) _)).mono ?_; rintro e w' ⟨rfl, hC⟩)
          | (go_at_call 28; refine (Took_b _ _ _ (by assumption) _ hG.out).mono ?_; rintro e w' ⟨rfl, rfl⟩)
          | (go_at_call 29; refine (calm (w := wz) (by assumption) (Sees_b _ _ _ _ (by assumption) _)).mono ?_; rintro e w' ⟨rfl, hC⟩))
        have s0 := cellP (r0 wz hC0)
        have s1 := cellP (r1 wz hC0)
        have s2 := cellP (r2 wz hC0)
        have s3 := cellP (r3 wz hC0)
        have s4 := cellP (r4 wz hC0)
        have s5 := cellP (r5 wz hC0)
        have s6 := cellP (r6 wz hC0)
        clear r0 r1 r2 r3 r4 r5 r6
        refine wp_region_calm (wz := wz) (by assumption) (by kernel_rfl) (by kernel_rfl) ?_
        repeat (first | go_big_quiet_skip | (go_big_quiet_want; go_big_quiet_op; first | go_big_quiet_on | (apply Exists.intro; refine ⟨?_, ?_⟩; (focus (intro p; first | (go_at_call 29; exact calmP p (Sees_b _ _ _ _ (by assumption) _)) | (go_at_call 26; exact calmP p (In_b _ _ _ _ (by assumption) _)) | (go_at_call 27; exact calmP p (Out_b _ _ _ _ (by assumption) _)))); go_big_quiet_on)))
        refine wpQuiet_nil ?_
        rintro w9 ⟨p9, rfl⟩
        have hC9 := p9.h
        clear s0 s1 s2 s3 s4 s5 s6
        go_wp2
        exact ⟨⟨k + 1, by omega, by go_num, hbz.trans (hC9.mono hbz.size)⟩, by simp [intOf]; omega⟩
    · obtain rfl : k = l.length := by omega
      go_wp2
      go_ret
      exact ⟨rfl, hb1.trans (hb.mono hb1.size)⟩
end Go.Proofs.Ytneoeokfffnonaa
