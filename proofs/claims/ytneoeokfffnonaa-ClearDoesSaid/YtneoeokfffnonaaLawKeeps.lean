/- The walk of the law ClearKeeps. -/
import Derived.Test.YtneoeokfffnonaaClBegun
namespace Go.Proofs.Ytneoeokfffnonaa
open Go.RowKit

set_option maxRecDepth 100000 in
set_option maxHeartbeats 2000000 in
theorem ClearKeeps_c (a : Option Addr) (cap : Nat) (l : List Ch) (less more : Int) (w : World) (hs : SlCh w a cap l) (hok : (∀ c ∈ l, c.ok) ∧ (a = none → cap = 0)) (_ : i64ok less) (_ : i64ok more) :
    Calls Try.prog 4 #[.slice a l.length cap, .int .i64 less, .int .i64 more] w fun e w' => e = .returned (.bool true) ∧ Below w.heap.size w w' := by
  have hm : l.length ≤ maxLen := Nat.le_trans hs.1 hs.2.1
  unfold maxLen at hm
  have HN := Lib.hid hok.2; clear hok
  go_enter Try.func4, Try.ntmps4
  go_wp2_with fail
  refine (clearBegun_c _).mono ?_
  rintro e w1 ⟨rfl, hb1⟩
  have hs1 := hs.below hb1
  clear hs
  by_cases hbig : 300 < l.length
  · go_wp2
    go_ret
    exact ⟨rfl, hb1⟩
  have hd1 : decide (300 < (l.length : Int)) = false := by simp; omega
  by_cases hless : more < less
  · go_wp2
    go_ret
    exact ⟨rfl, hb1⟩
  have hd2 : decide (more < less) = false := by simpa using hless
  have hle : less ≤ more := by omega
  have hsm : l.length ≤ 300 := by omega
  clear hless hbig
  have hcl := clearOf_le more l
  have HCC := Lib.hid (clearOf_clearOf less more l hle)
  go_wp2_with fail
  refine (Of_c a cap l more _ hs1 (by omega) HN.out).mono ?_
  rintro e w2 ⟨a2, cap2, rfl, ho2, hb2⟩
  have hs2 := hs1.below hb2
  have hx2 := hb1.trans (hb2.mono hb1.size)
  have ht2 : SlCh w2 a2 cap2 (clearOf more l) := ho2.slCh
  clear hs1 hb1 hb2 ho2
  have hgd := guard_Char
  obtain ⟨X, hX⟩ : ∃ X, X = clearOf more l := ⟨_, rfl⟩
  rw [← hX] at ht2 hcl ⊢
  have HX := Lib.hid hX; clear hX
  go_wp2
  go_loopw [8, 9] (fun s8 s9 wr => ∃ i k : Nat, i ≤ l.length ∧ k ≤ i ∧ s9 = .int .i64 i ∧ s8 = .int .i64 k ∧ Hid ((clearOf more (l.take i)).length = k) ∧ Later w2 wr) (fun _ s9 _ => l.length - (intOf s9).toNat)
  case atStart => exact ⟨0, 0, Nat.zero_le _, Nat.le_refl _, rfl, rfl, Lib.hid rfl, Later.refl _⟩
  case round =>
    obtain ⟨i, k, hi, hki, rfl, rfl, HK, hl⟩ := hrel
    by_cases hlt : i < l.length
    · obtain ⟨b, off, rfl, hc⟩ := (hs2.below hl).nth hlt
      obtain ⟨q0, q1, q2, q3, q4, q5, q6⟩ := hc
      have hlt' : (i : Int) < l.length := by omega
      have HS := Lib.hid (clearOf_snoc more l i hlt)
      have HA := Lib.hid (clearOf_at more l i hlt)
      generalize hx : l[i] = x at *
      have HXX := Lib.hid hx; clear hx
      go_wp2_with fail
      refine (Done_c x more _).mono ?_
      rintro e w3 ⟨rfl, hb3⟩
      have hl3 : Later w2 w3 := Later.trans hl hb3
      clear q0 q1 q2 q3 q4 q5 q6
      cases hd : doneB more x
      · obtain ⟨hkX', hxk'⟩ := HA.out hd
        have hkX : k < X.length := by rw [HX.out]; have := HK.out; omega
        have hxk : X[k] = x := by
          have h1 := HK.out; have h2 := HX.out; subst h2; subst h1; exact hxk'
        have HK2 := Lib.hid (show (clearOf more (l.take (i + 1))).length = k + 1 by rw [HS.out, hd, ← HK.out]; simp)
        obtain ⟨b', off', rfl, hc'⟩ := (ht2.below hl3).nth hkX
        rw [hxk] at hc'
        have hcc : ChAt w3 b (off + i * 7) x := by
          obtain ⟨_, _, he, h⟩ := (hs2.below hl3).nth hlt
          cases he; rw [HXX.out] at h; exact h
        obtain ⟨q0, q1, q2, q3, q4, q5, q6⟩ := hcc
        obtain ⟨r0, r1, r2, r3, r4, r5, r6⟩ := hc'
        have hkX'' : (k : Int) < X.length := by omega
        have hdg : decide ((X.length : Int) ≤ k) = false := by simp; omega
        have hnq := fun w => neq_Char x x w
        have hqq : x.eqB x = true := (Ch.eqB_iff x x).2 rfl
        clear hkX' hxk' hxk HS HA HK hd
        go_wp2
        go_quiet (fail)
        clear q0 q1 q2 q3 q4 q5 q6 r0 r1 r2 r3 r4 r5 r6 hnq
        have hl4 : Later w2 (w3.drewN nq) := bl_drewN hl3 nq
        go_wp2
        exact ⟨⟨i + 1, k + 1, by omega, by omega, by go_num, by go_num, HK2, hl4⟩, by simp [intOf]; omega⟩
      · have HK2 := Lib.hid (show (clearOf more (l.take (i + 1))).length = k by rw [HS.out, hd, ← HK.out]; simp)
        clear HS HA HK
        go_wp2
        exact ⟨⟨i + 1, k, by omega, by omega, by go_num, rfl, HK2, hl3⟩, by simp [intOf]; omega⟩
    · obtain rfl : i = l.length := by omega
      have hkX : k = X.length := by rw [HX.out, ← HK.out]; simp
      subst hkX
      have hsr := hs2.below hl
      have htr := ht2.below hl
      clear HK
      go_wp2_with fail
      refine (Of_c a cap l less _ hsr (by omega) HN.out).mono ?_
      rintro e w3 ⟨a3, cap3, rfl, ho3, hb3⟩
      have hl3 : Later w2 w3 := Later.trans hl hb3
      have hcl3 := clearOf_le less l
      go_wp2_with fail
      refine (Of_c a3 cap3 (clearOf less l) more _ ho3.slCh (by omega) (fun h => by
        rcases ho3.own with h0 | ⟨_, _, _, h1, _⟩
        · exact h0
        · rw [h] at h1; cases h1)).mono ?_
      rintro e w4 ⟨a4, cap4, rfl, ho4, hb4⟩
      have hl4 : Later w2 w4 := Later.trans hl3 hb4
      have ht4 : SlCh w4 a4 cap4 X := by have := ho4.slCh; rw [HCC.out, ← HX.out] at this; exact this
      have hlenX : (clearOf more (clearOf less l)).length = X.length := by rw [HCC.out, HX.out]
      rw [hlenX]
      clear hlenX ho4 ho3 hb4 hb3 hsr htr
      go_wp2_with fail
      refine (SameChars_c a4 a2 cap4 cap2 X X _ ht4 (ht2.below hl4)).mono ?_
      rintro e w5 ⟨rfl, hb5⟩
      have hdd : decide (X = X) = true := by simp
      clear ht4
      go_wp2
      go_ret
      exact ⟨by simp, (hx2.trans (Below.mono hl4 hx2.size)).trans (hb5.mono (by have := hx2.size; have := Below.size hl4; omega))⟩
end Go.Proofs.Ytneoeokfffnonaa
