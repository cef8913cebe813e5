/- The walk of the law ClearViews. -/
import Derived.Test.YtneoeokfffnonaaLawKeeps
namespace Go.Proofs.Ytneoeokfffnonaa
open Go.RowKit

theorem SameChars_b (a b : Option Addr) (capa capb : Nat) (l m : List Ch) (r : Bool) (hr : decide (l = m) = r) (w : World) (hs : SlCh w a capa l) (hs' : SlCh w b capb m) :
    Calls Try.prog 22 #[.slice a l.length capa, .slice b m.length capb] w fun e w' => e = .returned (.bool r) ∧ Below w.heap.size w w' := by
  subst hr; exact SameChars_c a b capa capb l m w hs hs'

set_option maxRecDepth 100000 in
set_option maxHeartbeats 2000000 in
theorem ClearViews_c (a : Option Addr) (cap : Nat) (l : List Ch) (least seen by_ : Int) (w : World) (hs : SlCh w a cap l) (hok : (∀ c ∈ l, c.ok) ∧ (a = none → cap = 0)) (_ : i64ok least) (_ : i64ok seen) (_ : i64ok by_) :
    Calls Try.prog 8 #[.slice a l.length cap, .int .i64 least, .int .i64 seen, .int .i64 by_] w fun e w' => e = .returned (.bool true) ∧ Below w.heap.size w w' := by
  have hm : l.length ≤ maxLen := Nat.le_trans hs.1 hs.2.1
  unfold maxLen at hm
  have HN := Lib.hid hok.2; clear hok
  go_enter Try.func8, Try.ntmps8
  go_wp2_with fail
  refine (clearBegun_c _).mono ?_
  rintro e w1 ⟨rfl, hb1⟩
  have hs1 := hs.below hb1
  clear hs
  by_cases hbig : 300 < l.length
  · go_wp2
    go_ret
    exact ⟨rfl, hb1⟩
  have hd1 : decide (300 < (l.length : Int)) = false := by simp; omega
  by_cases hless : seen < least
  · go_wp2
    go_ret
    exact ⟨rfl, hb1⟩
  have hd2 : decide (seen < least) = false := by simpa using hless
  have hle : least ≤ seen := by omega
  have hsm : l.length ≤ 300 := by omega
  clear hless hbig
  have hcl := clearOf_le least l
  have HV := Lib.hid (vis_clear least seen by_ l hle)
  have HID := Lib.hid (clearOf_idem least l)
  have hvl := vis_le seen by_ l
  go_wp2_with fail
  refine (Of_c a cap l least _ hs1 (by omega) HN.out).mono ?_
  rintro e w2 ⟨a2, cap2, rfl, ho2, hb2⟩
  have hs2 := hs1.below hb2
  have hx2 := hb1.trans (hb2.mono hb1.size)
  have ht2 : SlCh w2 a2 cap2 (clearOf least l) := ho2.slCh
  have hn2 : a2 = none → cap2 = 0 := fun h => by
    rcases ho2.own with h0 | ⟨_, _, _, h1, _⟩
    · exact h0
    · rw [h] at h1; cases h1
  have HN2 := Lib.hid hn2; clear hn2
  clear hs1 hb1 hb2 ho2
  obtain ⟨X, hX⟩ : ∃ X, X = clearOf least l := ⟨_, rfl⟩
  rw [← hX] at ht2 hcl ⊢
  have HX := Lib.hid hX; clear hX
  obtain ⟨S, hS⟩ : ∃ S, S = strOfNums (viewN seen by_ l) := ⟨_, rfl⟩
  have HS := Lib.hid hS; clear hS
  obtain ⟨m, hm1⟩ : ∃ m, m = (viewN seen by_ l).length := ⟨_, rfl⟩
  have HM := Lib.hid hm1; clear hm1
  have HVX := Lib.hid (show viewN seen by_ X = viewN seen by_ l by rw [HX.out]; unfold viewN; rw [HV.out])
  have hL : ∀ q : Lt w2, Later w2 q.v := fun q => q.h
  have ht5 : ∀ q : Lt w2, True := fun _ => trivial
  go_upto_region 6 with fail
  refine wp_region_mix [3, 8, 14] [0, 1, 2, 5, 6, 7, 3, 4, 8, 9, 10, 11, 12, 13, 15, 14, 16, 17, 18] (by kernel_rfl) (by kernel_rfl) ?_
  iterate 6 (refine wpMix_step rfl (fun K hK => ?_); go_simp; refine hK _ _ ?_; clear hK K)
  refine wpMix_step rfl (fun K hK => ?_)
  go_simp
  intro p
  refine (View_n a2 cap2 X _ rfl _ _ _ HVX.out m HM.out.symm _ (ht2.below (hL p)) (by omega)).mono ?_
  rintro e w3 ⟨a3, cap3, rfl, ho, hb3⟩
  refine ⟨_, rfl, hb3, hK _ _ ?_⟩
  clear hK K
  have hl3 : Later w2 w3 := (hL p).trans hb3
  clear hL hb3
  have hcv : ∀ q : Lt w3, Sem.run Try.prog (convert 45 9 (.slice a3 m cap3)) q.v = .ok (.string S) q.v := fun q => conv_view (ho.below q.h) S HS.out.symm
  clear ho
  have hL : ∀ q : Lt w3, Later w2 q.v := fun q => hl3.trans q.h
  iterate 1 (refine wpMix_step rfl (fun K hK => ?_); go_simp; refine hK _ _ ?_; clear hK K)
  refine wpMix_step rfl (fun K hK => ?_)
  go_simp
  intro p
  refine (View_n a cap l _ rfl _ _ _ rfl m HM.out.symm _ (hs2.below (hL p)) (by omega)).mono ?_
  rintro e w4 ⟨a4, cap4, rfl, ho, hb4⟩
  refine ⟨_, rfl, hb4, hK _ _ ?_⟩
  clear hK K hcv
  have hl4 : Later w2 w4 := (hL p).trans hb4
  clear hL hb4
  have hcv : ∀ q : Lt w4, Sem.run Try.prog (convert 45 9 (.slice a4 m cap4)) q.v = .ok (.string S) q.v := fun q => conv_view (ho.below q.h) S HS.out.symm
  clear ho
  have hL : ∀ q : Lt w4, Later w2 q.v := fun q => hl4.trans q.h
  iterate 6 (refine wpMix_step rfl (fun K hK => ?_); go_simp; refine hK _ _ ?_; clear hK K)
  refine wpMix_step rfl (fun K hK => ?_)
  go_simp
  intro p
  refine (Of_c a2 cap2 X least _ (ht2.below (hL p)) (by omega) HN2.out).mono ?_
  rintro e w5 ⟨a5, cap5, rfl, ho, hb5⟩
  have hsX : (clearOf least X).length = X.length := by rw [HX.out, HID.out]
  rw [hsX]
  clear hsX
  refine ⟨_, rfl, hb5, hK _ _ ?_⟩
  clear hK K hcv ht5
  have hl5 : Later w2 w5 := (hL p).trans hb5
  clear hL hb5
  have ht5' : SlCh w5 a5 cap5 X := by have := ho.slCh; rw [HX.out, HID.out, ← HX.out] at this; exact this
  clear ho
  have ht5 : ∀ q : Lt w5, SlCh q.v a5 cap5 X := fun q => ht5'.below q.h
  have hL : ∀ q : Lt w5, Later w2 q.v := fun q => hl5.trans q.h
  repeat (refine wpMix_step rfl (fun K hK => ?_); go_simp; first | (refine hK _ _ ?_; clear hK K) | (apply Exists.intro; refine ⟨?_, hK _ _ ?_⟩; (focus (intro p; (have hLp := hL p; first | (go_at_call 22; exact quietM p (SameChars_b _ _ _ _ X X true (by simp) _ (ht5 p) (ht2.below hLp)))))); clear hK K))
  refine wpMix_nil ?_
  intro w6 hL6
  have hl6 : Later w2 w6 := hl5.trans hL6
  clear hL hL6 ht5 ht5' hl5
  go_wp2
  go_loopw [10] (fun s9 wr => ∃ i : Nat, i ≤ l.length ∧ s9 = .int .i64 i ∧ Later w2 wr) (fun s9 _ => l.length - (intOf s9).toNat)
  case atStart => exact ⟨0, Nat.zero_le _, rfl, hl6⟩
  case round =>
    obtain ⟨i, hi, rfl, hl⟩ := hrel
    by_cases hlt : i < l.length
    · obtain ⟨b, off, rfl, hc⟩ := (hs2.below hl).nth hlt
      obtain ⟨q0, q1, q2, q3, q4, q5, q6⟩ := hc
      have hlt' : (i : Int) < l.length := by omega
      have hcc := fun (w3 : World) (hl3 : Later w2 w3) => (hs2.below hl3).nth hlt
      generalize hx : l[i] = x at *
      have HC := Lib.hid hcc; clear hcc
      clear hx
      have HDS := Lib.hid (done_sees least seen by_ x hle)
      go_wp2_with fail
      refine (Done_c x least _).mono ?_
      rintro e w3 ⟨rfl, hb3⟩
      have hl3 : Later w2 w3 := Later.trans hl hb3
      clear q0 q1 q2 q3 q4 q5 q6
      cases hd : doneB least x
      · go_wp2
        exact ⟨⟨i + 1, by omega, by go_num, hl3⟩, by simp [intOf]; omega⟩
      · have hsee := HDS.out hd
        obtain ⟨_, _, he, hc'⟩ := HC.out w3 hl3
        cases he
        obtain ⟨q0, q1, q2, q3, q4, q5, q6⟩ := hc'
        go_wp2_with fail
        refine (Sees_b x _ _ _ hsee _).mono ?_
        rintro e w4 ⟨rfl, hb4⟩
        clear q0 q1 q2 q3 q4 q5 q6
        have hl4 : Later w2 w4 := Later.trans hl3 hb4
        go_wp2
        exact ⟨⟨i + 1, by omega, by go_num, hl4⟩, by simp [intOf]; omega⟩
    · obtain rfl : i = l.length := by omega
      have hdd : decide ((X.length : Int) ≤ (l.length : Int)) = true := by simp; omega
      go_wp2
      go_ret
      exact ⟨rfl, hx2.trans (Below.mono hl hx2.size)⟩
end Go.Proofs.Ytneoeokfffnonaa
