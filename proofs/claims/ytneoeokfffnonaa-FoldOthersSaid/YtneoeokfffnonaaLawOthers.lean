/- The walk of the law FoldOthers. -/
import Derived.Test.YtneoeokfffnonaaFoBegun
import Derived.Test.YtneoeokfffnonaaFoldL
namespace Go.Proofs.Ytneoeokfffnonaa
open Go.RowKit

theorem doF_zero' {l : List Ch} {d : Dd} {number : Int} (h : (doF l d number).2 = 0) : mayDo l d = 0 := by
  rcases doF_cases l d number with ⟨h1, e⟩ | ⟨h1, _⟩ | ⟨h1, _⟩ | ⟨h1, _⟩
  · rw [e] at h; exact absurd h h1
  · exact h1
  · exact h1
  · exact h1
/-- What the law asks of the counts. -/
theorem others_count (l : List Ch) (d : Dd) (number : Int) (h : (doF l d number).2 = 0) (seen by_ : Int) (hne : (by_ == d.By) = false) (hlt : decide (seen < number) = false) :
    (d.Kind = 1 ∧ (vis seen by_ (doF l d number).1).length = (vis seen by_ l).length + d.Text.size) ∨
    (d.Kind = 2 ∧ (vis seen by_ (doF l d number).1).length ≤ (vis seen by_ l).length ∧ ((vis seen by_ l).length : Int) - d.Many ≤ (vis seen by_ (doF l d number).1).length ∧ 1 ≤ d.Many ∧ d.Many ≤ 200) := by
  rcases others_late l d number h seen by_ (by simpa using hne) (by simpa using hlt) with h1 | ⟨h1, h2, h3⟩
  · exact .inl h1
  · refine .inr ⟨h1, h2, h3, ?_⟩
    rcases (deedFault_zero (mayDo_zero (doF_zero' h)).1).2.2.2.2.2.2.2 with ⟨hk, _⟩ | ⟨_, h4, h5, _⟩
    · omega
    · exact ⟨h4, h5⟩

set_option maxRecDepth 100000 in
set_option maxHeartbeats 2000000 in
theorem FoldOthers_c (a : Option Addr) (cap : Nat) (l : List Ch) (d : Dd) (number seen by_ : Int) (w : World) (hs : SlCh w a cap l) (hok : (∀ c ∈ l, c.ok) ∧ (a = none → cap = 0)) (hd : d.ok) (_ : i64ok number) (_ : i64ok seen) (_ : i64ok by_) :
    Calls Try.prog 12 #[.slice a l.length cap, .agg #[.int .i64 d.Kind, .int .i64 d.By, .int .i64 d.No, .int .i64 d.Seen, .int .i64 d.At, .int .i64 d.Many, .string d.Text], .int .i64 number, .int .i64 seen, .int .i64 by_] w fun e w' => e = .returned (.bool true) ∧ Below w.heap.size w w' := by
  have HG := Lib.hid (fun c hc => (hok.1 c hc).2.2.2.2.2.2)
  have HN := Lib.hid hok.2; clear hok
  have HMN := Lib.hid hd.2.2.2.2.2.1; clear hd
  have hb0 := (Below.refl w.heap.size w).alloc (Nat.le_refl _) (.cells #[.int .i64 d.Kind, .int .i64 d.By, .int .i64 d.No, .int .i64 d.Seen, .int .i64 d.At, .int .i64 d.Many, .string d.Text] 54)
  have hd0 := DdAt.new w d
  have hs0 := hs.below hb0
  clear hs
  go_enter Try.func12, Try.ntmps12
  go_upto_region 1 with fail
  generalize hw0 : w.alloc (.cells #[.int .i64 d.Kind, .int .i64 d.By, .int .i64 d.No, .int .i64 d.Seen, .int .i64 d.At, .int .i64 d.Many, .string d.Text] 54) = w0 at *
  clear hw0
  go_wp2_with fail
  refine (foldBegun_c _).mono ?_
  rintro e w1 ⟨rfl, hb1⟩
  have hs1 := hs0.below hb1
  have hd1 := hd0.later hb1
  have hx1 := hb0.trans (hb1.mono hb0.size)
  clear hs0 hd0 hb0 hb1
  obtain ⟨dl, d0, d1, d2, d3, d4, d5, d6⟩ := hd1
  have hd1 : DdAt w1 w.heap.size d := ⟨dl, d0, d1, d2, d3, d4, d5, d6⟩
  by_cases hbig : 300 < l.length
  · clear hd1 d0 d2 d3 d4 d5
    go_wp2
    go_ret
    exact ⟨rfl, hx1⟩
  have hd300 : decide (300 < (l.length : Int)) = false := by simp; omega
  by_cases ht : 100 < d.Text.size
  · have hd100 : decide (100 < (d.Text.size : Int)) = true := by simp; omega
    clear hd1 d0 d2 d3 d4 d5
    go_wp2
    go_ret
    exact ⟨rfl, hx1⟩
  have hd100 : decide (100 < (d.Text.size : Int)) = false := by simp; omega
  cases hby : by_ == d.By
  case true =>
    clear hd1 d0 d2 d3 d4 d5
    go_wp2
    go_ret
    exact ⟨rfl, hx1⟩
  have hlen : l.length ≤ 300 := by omega
  have htx : d.Text.size ≤ 100 := by omega
  clear hbig ht
  go_wp2_with fail
  refine (Do_c a cap l d number _ hs1 HN.out (by omega) (by omega) HMN.out HG.out).mono ?_
  rintro e w2 ⟨a2, cap2, rfl, ho2, hb2⟩
  have hs2 := hs1.below hb2
  have hd2 := hd1.later hb2
  have hx2 := hx1.trans (hb2.mono hx1.size)
  have ht2 := ho2.slCh
  clear hs1 hd1 hx1 hb2 ho2 d0 d1 d2 d3 d4 d5 d6 dl
  have HE := Lib.hid (others_early l d number)
  have HC := Lib.hid (others_count l d number)
  have hRl := doF_len l d number
  generalize doF l d number = R at *
  obtain ⟨L2, c2⟩ := R
  simp only at *
  by_cases h0 : c2 = 0
  case neg =>
    have hne : (c2 != 0) = true := by simpa using h0
    clear h0 HE HC
    go_wp2
    go_ret
    exact ⟨rfl, hx2⟩
  subst h0
  cases hsn : decide (seen < number)
  case true =>
    have HV := Lib.hid (show viewN seen by_ L2 = viewN seen by_ l from HE.out rfl seen by_ (by simpa using hby) (by simpa using hsn))
    obtain ⟨S, hS⟩ : ∃ S, S = strOfNums (viewN seen by_ l) := ⟨_, rfl⟩
    have HS := Lib.hid hS; clear hS
    obtain ⟨m, hm1⟩ : ∃ m, m = (viewN seen by_ l).length := ⟨_, rfl⟩
    have HM := Lib.hid hm1; clear hm1
    clear HE HC hd2
    have hL : ∀ q : Lt w2, Later w2 q.v := fun q => q.h
    go_upto_region 9 with fail
    refine wp_region_mix [3, 8] [0, 1, 2, 5, 6, 7, 3, 4, 8, 9, 10, 11] (by kernel_rfl) (by kernel_rfl) ?_
    iterate 6 (refine wpMix_step rfl (fun K hK => ?_); go_simp; refine hK _ _ ?_; clear hK K)
    refine wpMix_step rfl (fun K hK => ?_)
    go_simp
    intro p
    refine (View_n a2 cap2 L2 _ rfl _ _ _ HV.out m HM.out.symm _ (ht2.below (hL p)) (by omega)).mono ?_
    rintro e w3 ⟨a3, cap3, rfl, ho, hb3⟩
    refine ⟨_, rfl, hb3, hK _ _ ?_⟩
    clear hK K
    have hl3 : Later w2 w3 := (hL p).trans hb3
    clear hL hb3
    have hcv : ∀ q : Lt w3, Sem.run Try.prog (convert 45 9 (.slice a3 m cap3)) q.v = .ok (.string S) q.v := fun q => conv_view (ho.below q.h) S HS.out.symm
    clear ho
    have hL : ∀ q : Lt w3, Later w2 q.v := fun q => hl3.trans q.h
    iterate 1 (refine wpMix_step rfl (fun K hK => ?_); go_simp; refine hK _ _ ?_; clear hK K)
    refine wpMix_step rfl (fun K hK => ?_)
    go_simp
    intro p
    refine (View_n a cap l _ rfl _ _ _ rfl m HM.out.symm _ (hs2.below (hL p)) (by omega)).mono ?_
    rintro e w4 ⟨a4, cap4, rfl, ho, hb4⟩
    refine ⟨_, rfl, hb4, hK _ _ ?_⟩
    clear hK K hcv
    have hl4 : Later w2 w4 := (hL p).trans hb4
    clear hL hb4
    have hcv : ∀ q : Lt w4, Sem.run Try.prog (convert 45 9 (.slice a4 m cap4)) q.v = .ok (.string S) q.v := fun q => conv_view (ho.below q.h) S HS.out.symm
    clear ho
    repeat (refine wpMix_step rfl (fun K hK => ?_); go_simp; refine hK _ _ ?_; clear hK K)
    refine wpMix_nil ?_
    intro w6 hL6
    have hl6 : Later w2 w6 := hl4.trans hL6
    have HX := Lib.hid (hx2.trans (Below.mono hl6 hx2.size))
    clear hL6 hl6 hl4 hl3 hcv
    go_wp2
    go_ret
    exact ⟨rfl, HX.out⟩
  case false =>
    have HC2 := Lib.hid (HC.out rfl seen by_ hby hsn)
    have hv1 := vis_le seen by_ l
    have hv2 := vis_le seen by_ L2
    clear HE HC
    go_wp2_with fail
    refine (Count_c a cap l _ _ _ hs2 (by omega)).mono ?_
    rintro e w3 ⟨rfl, hb3⟩
    have ht3 := ht2.below hb3
    have hd3 := hd2.later hb3
    have hx3 := hx2.trans (hb3.mono hx2.size)
    clear hs2 ht2 hd2 hx2 hb3
    go_wp2_with fail
    refine (Count_c a2 cap2 L2 _ _ _ ht3 (by omega)).mono ?_
    rintro e w4 ⟨rfl, hb4⟩
    have hd4 := hd3.later hb4
    have hx4 := hx3.trans (hb4.mono hx3.size)
    clear ht3 hd3 hx3 hb4
    generalize (vis seen by_ l).length = n1 at *
    generalize (vis seen by_ L2).length = n2 at *
    obtain ⟨dl, d0, d1, d2, d3, d4, d5, d6⟩ := hd4
    rcases HC2.out with ⟨hk, he⟩ | ⟨hk, h1, h2, h3, h4⟩
    · have hkB : (d.Kind == 1) = true := by rw [hk]; rfl
      have HXX := Lib.hid he
      have hee : ((n2 : Int) == (n1 : Int) + (d.Text.size : Int)) = true := by rw [beq_iff_eq]; omega
      clear hk he HC2
      go_wp2
      go_ret
      exact ⟨rfl, hx4⟩
    · have hkB : (d.Kind == 1) = false := by rw [hk]; rfl
      have hle : decide (n2 ≤ n1) = true := by simpa using h1
      have hsub : IntKind.i64.wrap ((n1 : Int) - d.Many) = (n1 : Int) - d.Many := by rw [IntKind.wrap_i64]; omega
      have hge : decide ((n1 : Int) - d.Many ≤ n2) = true := by simp; omega
      clear hk HC2
      cases hno : (number == 1073741824)
      all_goals
        go_wp2
        go_ret
        exact ⟨rfl, hx4⟩
end Go.Proofs.Ytneoeokfffnonaa
