/- The walk of the law CharsBehind. -/
import Derived.Test.YtneoeokfffnonaaChBegun
import Derived.Test.YtneoeokfffnonaaBehindP
namespace Go.Proofs.Ytneoeokfffnonaa
open Go.RowKit

theorem Count_n (a : Option Addr) (cap : Nat) (l : List Ch) (m : Nat) (hm : l.length = m) (seen by_ : Int) (r : Nat) (hr : (vis seen by_ l).length = r) (w : World) (hs : SlCh w a cap l) (hsz : l.length ≤ 140737488355328) :
    Calls Try.prog 34 #[.slice a m cap, .int .i64 seen, .int .i64 by_] w fun e w' => e = .returned (.int .i64 (r : Int)) ∧ Below w.heap.size w w' := by
  subst hm; subst hr; exact Count_c a cap l seen by_ w hs hsz

set_option maxRecDepth 100000 in
set_option maxHeartbeats 1000000 in
theorem CharsBehind_c (a : Option Addr) (cap : Nat) (l : List Ch) (seen by_ n : Int) (w : World) (hs : SlCh w a cap l) (hok : ∀ c ∈ l, c.ok) (ho1 : i64ok seen) (ho2 : i64ok by_) (hn : i64ok n) :
    Calls Try.prog 7 #[.slice a l.length cap, .int .i64 seen, .int .i64 by_, .int .i64 n] w fun e w' => e = .returned (.bool true) ∧ Below w.heap.size w w' := by
  have hm : l.length ≤ maxLen := Nat.le_trans hs.1 hs.2.1
  unfold maxLen at hm
  clear hok ho1 ho2
  have HN := Lib.hid hn; clear hn
  have hv := vis_le seen by_ l
  go_enter Try.func7, Try.ntmps7
  go_wp2_with fail
  refine (charsBegun_c _).mono ?_
  rintro e w1 ⟨rfl, hb1⟩
  have hs1 := hs.below hb1
  clear hs
  by_cases hbig : 300 < l.length
  · go_wp2
    go_ret
    exact ⟨rfl, hb1⟩
  have hsm : l.length ≤ 300 := by omega
  have hd1 : decide (300 < (l.length : Int)) = false := by simp; omega
  clear hbig
  by_cases hout : n < 0 ∨ ((vis seen by_ l).length : Int) < n
  · have HB := behind_no seen by_ l n hout
    go_wp2_with fail
    refine (Behind_n a cap l _ rfl seen by_ n _ HB _ hs1 (by omega) HN.out.1 HN.out.2).mono ?_
    rintro e w2 ⟨rfl, hb2⟩
    have hs2 := hs1.below hb2
    by_cases h0 : n < 0
    · go_wp2
      go_ret
      exact ⟨rfl, hb1.trans (hb2.mono hb1.size)⟩
    · have h1 : ((vis seen by_ l).length : Int) < n := by omega
      have hd2 : decide (n < 0) = false := by simpa using h0
      go_wp2_with fail
      refine (Count_n a cap l _ rfl seen by_ _ rfl _ hs2 (by omega)).mono ?_
      rintro e w3 ⟨rfl, hb3⟩
      go_wp2
      go_ret
      exact ⟨rfl, (hb1.trans (hb2.mono hb1.size)).trans (hb3.mono (by have := hb1.size; have := hb2.size; omega))⟩
  obtain ⟨m, rfl⟩ := Int.eq_ofNat_of_zero_le (show 0 ≤ n by omega)
  have hmv : m ≤ (vis seen by_ l).length := by omega
  have hd2 : decide ((m : Int) < 0) = false := by simp
  have hd3 : decide (((vis seen by_ l).length : Int) < (m : Int)) = false := by simp; omega
  clear hout
  rcases Nat.eq_zero_or_pos m with rfl | hpos
  · have HB : behind seen by_ l ((0 : Nat) : Int) = 0 := rfl
    go_wp2_with fail
    refine (Behind_n a cap l _ rfl seen by_ _ _ HB _ hs1 (by omega) HN.out.1 HN.out.2).mono ?_
    rintro e w2 ⟨rfl, hb2⟩
    have hs2 := hs1.below hb2
    go_wp2_with fail
    refine (Count_n a cap l _ rfl seen by_ _ rfl _ hs2 (by omega)).mono ?_
    rintro e w3 ⟨rfl, hb3⟩
    have hs3 := hs2.below hb3
    go_wp2_with fail
    refine (Count_n a cap (l.take 0) 0 (by simp) seen by_ 0 (by simp [vis]) _ (hs3.take 0) (by simp)).mono ?_
    rintro e w4 ⟨rfl, hb4⟩
    go_wp2
    go_ret
    exact ⟨rfl, ((hb1.trans (hb2.mono hb1.size)).trans (hb3.mono (by have := hb1.size; have := hb2.size; omega))).trans (hb4.mono (by have := hb1.size; have := hb2.size; have := hb3.size; omega))⟩
  · obtain ⟨k, hkl, HB, ht, hsee⟩ := behind_pos seen by_ l m hpos hmv
    have hz : ((m : Int) == 0) = false := by simp; omega
    have hp : decide (0 < (m : Int)) = true := by simp; omega
    obtain ⟨b, off, rfl, hc⟩ := hs1.nth hkl
    have HT := Lib.hid ht; clear ht
    obtain ⟨K, hK⟩ : ∃ K, K = k + 1 := ⟨_, rfl⟩
    have HB' : behind seen by_ l m = (K : Int) := by rw [HB, hK]; simp
    have hcap : K ≤ cap := by have := hs1.1; omega
    have hKl : K ≤ l.length := by omega
    have hK1 : 1 ≤ K := by omega
    have HK := Lib.hid hK; clear hK
    clear hc HB
    go_wp2_with fail
    refine (Behind_n _ cap l _ rfl seen by_ _ _ HB' _ hs1 (by omega) HN.out.1 HN.out.2).mono ?_
    rintro e w2 ⟨rfl, hb2⟩
    have hs2 := hs1.below hb2
    go_wp2_with fail
    refine (Count_n _ cap l _ rfl seen by_ _ rfl _ hs2 (by omega)).mono ?_
    rintro e w3 ⟨rfl, hb3⟩
    have hs3 := hs2.below hb3
    have hcap' : (K : Int) ≤ cap := by omega
    have hKl' : (K : Int) ≤ l.length := by omega
    have hd5 : decide ((l.length : Int) < (K : Int)) = false := by simp; omega
    have hd6 : decide ((K : Int) < 0) = false := by simp
    go_wp2_with fail
    refine (Count_n _ cap (l.take K) K (by simp; omega) seen by_ m (by rw [HK.out]; exact HT.out) _ (hs3.take K) (by simp; omega)).mono ?_
    rintro e w4 ⟨rfl, hb4⟩
    have hc4 := (hs3.below hb4).nth hkl
    obtain ⟨_, _, he, hc4⟩ := hc4
    cases he
    obtain ⟨r0, r1, r2, r3, r4, r5, r6⟩ := hc4
    generalize l[k] = x at *
    have hkl2 : (k : Int) < l.length := by omega
    have hk0 : (K : Int) - 1 = k := by have := HK.out; omega
    have hK0 : ((K : Int) == 0) = false := by simp; omega
    have hKp : decide (0 < (K : Int)) = true := by simp; omega
    clear HB' HT
    go_wp2_with fail
    refine (Sees_b x _ _ _ hsee _).mono ?_
    rintro e w5 ⟨rfl, hb5⟩
    clear r0 r1 r2 r3 r4 r5 r6
    go_wp2
    go_ret
    exact ⟨rfl, (((hb1.trans (hb2.mono hb1.size)).trans (hb3.mono (by have := hb1.size; have := hb2.size; omega))).trans (hb4.mono (by have := hb1.size; have := hb2.size; have := hb3.size; omega))).trans (hb5.mono (by have := hb1.size; have := hb2.size; have := hb3.size; have := hb4.size; omega))⟩
end Go.Proofs.Ytneoeokfffnonaa
