/- The walk of the law ClearSlides. -/
import Derived.Test.YtneoeokfffnonaaApartW
import Derived.Test.YtneoeokfffnonaaMarkW
import Derived.Test.YtneoeokfffnonaaMixT
import Derived.Test.YtneoeokfffnonaaLawBehind
import Derived.Deep.RegionWith
namespace Go.Proofs.Ytneoeokfffnonaa
open Go.RowKit

structure MkAt (w : World) (b : Nat) (m : Mk) : Prop where
  lt : b < w.heap.size
  c0 : w.cell? ⟨b, 0, none⟩ = some (.bool m.Start)
  c1 : w.cell? ⟨b, 1, none⟩ = some (.int .i64 m.By)
  c2 : w.cell? ⟨b, 2, none⟩ = some (.int .i64 m.No)
  c3 : w.cell? ⟨b, 3, none⟩ = some (.int .i64 m.K)
theorem MkAt.later {w w' : World} {b : Nat} {m : Mk} (h : MkAt w b m) (hl : Below w.heap.size w w') : MkAt w' b m :=
  ⟨Nat.lt_of_lt_of_le h.lt (Below.size hl), (Below.cell hl (p := ⟨b, 0, none⟩) h.lt).trans h.c0, (Below.cell hl (p := ⟨b, 1, none⟩) h.lt).trans h.c1, (Below.cell hl (p := ⟨b, 2, none⟩) h.lt).trans h.c2, (Below.cell hl (p := ⟨b, 3, none⟩) h.lt).trans h.c3⟩
theorem MkAt.new (w : World) (m : Mk) : MkAt (w.alloc (.cells #[.bool m.Start, .int .i64 m.By, .int .i64 m.No, .int .i64 m.K] 26)) w.heap.size m := by
  refine ⟨by simp, ?_, ?_, ?_, ?_⟩ <;> simp

set_option maxRecDepth 100000 in
set_option maxHeartbeats 2000000 in
theorem ClearSlides_c (a : Option Addr) (cap : Nat) (l : List Ch) (m : Mk) (least seen by_ : Int) (w : World) (hs : SlCh w a cap l) (hok : (∀ c ∈ l, c.ok) ∧ (a = none → cap = 0)) (_ : i64ok least) (_ : i64ok seen) (_ : i64ok by_) :
    Calls Try.prog 9 #[.slice a l.length cap, .agg #[.bool m.Start, .int .i64 m.By, .int .i64 m.No, .int .i64 m.K], .int .i64 least, .int .i64 seen, .int .i64 by_] w fun e w' => e = .returned (.bool true) ∧ Below w.heap.size w w' := by
  have hm : l.length ≤ maxLen := Nat.le_trans hs.1 hs.2.1
  unfold maxLen at hm
  have HN := Lib.hid hok.2; clear hok
  have hb0 := (Below.refl w.heap.size w).alloc (Nat.le_refl _) (.cells #[.bool m.Start, .int .i64 m.By, .int .i64 m.No, .int .i64 m.K] 26)
  have hs0 := hs.below hb0
  have hm0 := MkAt.new w m
  clear hs
  go_enter Try.func9, Try.ntmps9
  go_upto_region 1 with fail
  generalize hw0 : w.alloc (.cells #[.bool m.Start, .int .i64 m.By, .int .i64 m.No, .int .i64 m.K] 26) = w0 at *
  clear hw0
  have HM0 := Lib.hid hm0; clear hm0
  go_wp2_with fail
  refine (clearBegun_c _).mono ?_
  rintro e w1 ⟨rfl, hb1⟩
  have hs1 := hs0.below hb1
  have HM1 := Lib.hid (HM0.out.later hb1); clear HM0
  have hx1 := hb0.trans (hb1.mono hb0.size)
  clear hs0 hb1 hb0
  by_cases hbig : 300 < l.length
  · go_wp2
    go_ret
    exact ⟨rfl, hx1⟩
  have hsm : l.length ≤ 300 := by omega
  have hd1 : decide (300 < (l.length : Int)) = false := by simp; omega
  clear hbig
  go_wp2_with fail
  refine (apart_c a cap l _ hs1).mono ?_
  rintro e w2 ⟨r, rfl, hb2, hr⟩
  have hs2 := hs1.below hb2
  have HM2 := Lib.hid (HM1.out.later hb2); clear HM1
  have hx2 := hx1.trans (hb2.mono hx1.size)
  clear hs1 hb2 hx1
  cases r
  · clear hr
    go_wp2
    go_ret
    exact ⟨rfl, hx2⟩
  have HA := Lib.hid (hr rfl); clear hr
  by_cases hless : seen < least
  · go_wp2
    go_ret
    exact ⟨rfl, hx2⟩
  have hd2 : decide (seen < least) = false := by simpa using hless
  have hle : least ≤ seen := by omega
  clear hless
  obtain ⟨m0, m1, m2, m3, m4⟩ := HM2.out
  go_wp2_with fail
  refine (Place_c a cap l m _ hs2).mono ?_
  rintro e w3 ⟨rfl, hb3⟩
  have hs3 := hs2.below hb3
  have HM3 := Lib.hid (HM2.out.later hb3); clear HM2
  have hx3 := hx2.trans (hb3.mono hx2.size)
  clear hs2 hb3 hx2 m0 m1 m2 m3 m4
  obtain ⟨m0, m1, m2, m3, m4⟩ := HM3.out
  rcases placeOf_le l m with hpl | ⟨k, hk, hpl⟩
  · have Hf := Lib.hid (show (markAt l (slideAt least l m)).isSome = false by unfold slideAt; rw [hpl]; rfl)
    rw [hpl]
    clear hpl
    go_wp2_with fail
    refine (Slide_c a cap l m least _ hs3).mono ?_
    rintro e w4 ⟨rfl, hb4⟩
    generalize (markAt l (slideAt least l m)).getD Mk.zero = X
    rw [Hf.out]
    have hx4 := hx3.trans (hb4.mono hx3.size)
    clear hs3 HM3 m0 m1 m2 m3 m4
    have HB := Lib.hid (fun (o : Obj) => (hx4.alloc hx4.size o))
    go_wp2
    go_ret
    exact ⟨rfl, HB.out _⟩
  · obtain ⟨s, hs1, hs2⟩ := slide_place least l HA.out k hk
    have Hf := Lib.hid (show markAt l (slideAt least l m) = some s by unfold slideAt; rw [hpl, if_neg (by omega)]; exact hs1)
    have HS := Lib.hid hs2
    clear hs1 hs2
    have HC := Lib.hid (slide_count least seen by_ l k hle)
    have hcl := clearOf_le least l
    have hct := clearOf_le least (l.take k)
    have hct2 : (clearOf least (l.take k)).length ≤ (clearOf least l).length := by
      have e : clearOf least l = clearOf least (l.take k) ++ clearOf least (l.drop k) := by
        unfold clearOf; rw [← List.filter_append, List.take_append_drop]
      rw [e]; simp
    rw [hpl]
    clear hpl
    go_wp2_with fail
    refine (Slide_c a cap l m least _ hs3).mono ?_
    rintro e w4 ⟨rfl, hb4⟩
    rw [Hf.out]
    simp only [Option.getD_some, Option.isSome_some]
    have hs4 := hs3.below hb4
    have hx4 := hx3.trans (hb4.mono hx3.size)
    clear hs3 HM3 m0 m1 m2 m3 m4 hb4 hx3
    have hs4' := hs4.below ((Below.refl w4.heap.size w4).alloc (Nat.le_refl _) (.cells #[.bool s.Start, .int .i64 s.By, .int .i64 s.No, .int .i64 s.K] 26))
    have hm4' := MkAt.new w4 s
    have hx4' := hx4.alloc hx4.size (.cells #[.bool s.Start, .int .i64 s.By, .int .i64 s.No, .int .i64 s.K] 26)
    go_upto_region 7 with fail
    generalize hw4 : w4.alloc (.cells #[.bool s.Start, .int .i64 s.By, .int .i64 s.No, .int .i64 s.K] 26) = w5 at *
    clear hw4 hs4 hx4
    generalize w4.heap.size = B at *
    obtain ⟨X, hX⟩ : ∃ X, X = clearOf least l := ⟨_, rfl⟩
    obtain ⟨J, hJ⟩ : ∃ J, J = (clearOf least (l.take k)).length := ⟨_, rfl⟩
    obtain ⟨M, hM⟩ : ∃ M, M = (vis seen by_ (l.take k)).length := ⟨_, rfl⟩
    rw [← hX, ← hJ] at hct2
    rw [← hX] at hcl
    have HX := Lib.hid hX; have HJ := Lib.hid hJ; have HM := Lib.hid hM
    clear hX hJ hM hct w4
    have HKL := Lib.hid (show (l.take k).length = k by simp; omega)
    have HJL := Lib.hid (show (X.take J).length = J by simp; omega)
    have HMX := Lib.hid (show (vis seen by_ (X.take J)).length = M by rw [HM.out, HX.out, HJ.out, HC.out])
    have HPX := Lib.hid (show placeOf X s = (J : Int) by rw [HX.out, HJ.out, HS.out])
    clear HC HS HA
    go_wp2_with fail
    refine (Of_c a cap l least _ hs4' (by omega) HN.out).mono ?_
    rintro e w6 ⟨a5, cap5, rfl, ho, hb6⟩
    rw [← HX.out] at ho ⊢
    have hs6 := hs4'.below hb6
    have HM6 := Lib.hid (hm4'.later hb6)
    have hx6 := hx4'.trans (hb6.mono hx4'.size)
    have hsX := ho.slCh
    clear ho hs4' hm4' hx4' hb6
    obtain ⟨m0, m1, m2, m3, m4⟩ := HM6.out
    go_wp2_with fail
    refine (Place_c a5 cap5 X s _ hsX).mono ?_
    rintro e w7 ⟨rfl, hb7⟩
    rw [HPX.out]
    have hs5 := hs6.below hb7
    have hsX := hsX.below hb7
    have hx7 := hx6.trans (hb7.mono hx6.size)
    clear hs6 hx6 hb7 HM6 m0 m1 m2 m3 m4
    have e1 : decide ((l.length : Int) < (k : Int)) = false := by simp; omega
    have e2 : decide ((k : Int) < 0) = false := by simp
    have e3 : decide ((X.length : Int) < (J : Int)) = false := by simp; omega
    have e4 : decide ((J : Int) < 0) = false := by simp
    have e5 : (k : Int) ≤ cap := by have := hs5.1; omega
    have e6 : (J : Int) ≤ cap5 := by have := hsX.1; omega
    have e7 : k ≤ cap := by have := hs5.1; omega
    have e8 : J ≤ cap5 := by have := hsX.1; omega
    have hL : ∀ q : Lt w7, Later w7 q.v := fun q => q.h
    go_upto_region 13 with fail
    refine wp_region_mix [] [0, 1, 2, 3, 4, 5, 6, 7, 8, 9, 10, 11, 12, 13] (by kernel_rfl) (by kernel_rfl) ?_
    repeat (refine wpMix_step rfl (fun K hK => ?_); go_simp; first | (refine hK _ _ ?_; clear hK K) | (apply Exists.intro; refine ⟨?_, hK _ _ ?_⟩; (focus (intro p; (have hLp := hL p; first | (go_at_call_of 34 k; exact quietM p (Count_n a cap (l.take k) k HKL.out seen by_ M HM.out.symm _ ((hs5.below hLp).take k) (by rw [HKL.out]; omega))) | (go_at_call_of 34 J; exact quietM p (Count_n a5 cap5 (X.take J) J HJL.out seen by_ M HMX.out _ ((hsX.below hLp).take J) (by rw [HJL.out]; omega)))))); clear hK K))
    refine wpMix_nil ?_
    intro w8 hL8
    go_wp2
    go_ret
    exact ⟨rfl, hx7.trans (Below.mono hL8 hx7.size)⟩
end Go.Proofs.Ytneoeokfffnonaa
