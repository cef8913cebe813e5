/- The walk of the law CharsDoes. -/
import Derived.Test.YtneoeokfffnonaaChBegun
import Derived.Test.YtneoeokfffnonaaCalm
import Derived.Test.YtneoeokfffnonaaViewOf
import Derived.Test.YtneoeokfffnonaaListFault
import Derived.Test.YtneoeokfffnonaaLawBehind
import Derived.Test.YtneoeokfffnonaaMixT
namespace Go.Proofs.Ytneoeokfffnonaa
open Go.RowKit

theorem View_k {w W : World} (hC : Below w.heap.size w W) (a : Option Addr) (cap : Nat) (l : List Ch) (n : Nat) (hn : l.length = n) (seen by_ : Int) (ns : List Int) (hv : viewN seen by_ l = ns) (m : Nat) (hm : ns.length = m) (hs : SlCh w a cap l) (hsz : l.length ≤ 140737488355328) :
    Calls Try.prog 33 #[.slice a n cap, .int .i64 seen, .int .i64 by_] W fun e w' => ∃ a' cap', e = .returned (.slice a' m cap') ∧ OwnRow w' W.heap.size 5 1 a' m cap' (ns.map (Value.int .u8)) ∧ Below w.heap.size w w' :=
  (View_n a cap l n hn seen by_ ns hv m hm W (hs.below hC) hsz).mono fun _ _ ⟨a', cap', he, ho, hb⟩ => ⟨a', cap', he, ho, hC.trans (hb.mono hC.size)⟩

set_option maxRecDepth 100000 in
set_option maxHeartbeats 2000000 in
theorem CharsDoes_c (a : Option Addr) (cap : Nat) (l : List Ch) (c : Ch) (seen by_ n : Int) (w : World) (hs : SlCh w a cap l) (hok : ∀ c ∈ l, c.ok) (hco : c.ok) (_ : i64ok seen) (_ : i64ok by_) (hn : i64ok n) :
    Calls Try.prog 6 #[.slice a l.length cap, .agg #[.int .u8 c.C, .int .i64 c.By, .int .i64 c.No, .int .i64 c.K, .int .i64 c.In, .int .i64 c.Out, .int .i64 c.Gone], .int .i64 seen, .int .i64 by_, .int .i64 n] w fun e w' => e = .returned (.bool true) ∧ Below w.heap.size w w' := by
  have hm : l.length ≤ maxLen := Nat.le_trans hs.1 hs.2.1
  unfold maxLen at hm
  have HN := Lib.hid hn; clear hn
  have HOK := Lib.hid hok; clear hok
  have HCO := Lib.hid hco; clear hco
  have hG : ∀ c ∈ l, i64ok c.Gone := fun c hc => (HOK.out c hc).2.2.2.2.2.2
  have HG := Lib.hid hG; clear hG
  have hb0 := (Below.refl w.heap.size w).alloc (Nat.le_refl _) (.cells #[.int .u8 c.C, .int .i64 c.By, .int .i64 c.No, .int .i64 c.K, .int .i64 c.In, .int .i64 c.Out, .int .i64 c.Gone] 24)
  have hs0 := hs.below hb0
  have hc0 : ChAt (w.alloc (.cells #[.int .u8 c.C, .int .i64 c.By, .int .i64 c.No, .int .i64 c.K, .int .i64 c.In, .int .i64 c.Out, .int .i64 c.Gone] 24)) w.heap.size 0 c := by simp [ChAt]
  clear hs
  go_enter Try.func6, Try.ntmps6
  go_upto_region 1 with fail
  generalize hw0 : w.alloc (.cells #[.int .u8 c.C, .int .i64 c.By, .int .i64 c.No, .int .i64 c.K, .int .i64 c.In, .int .i64 c.Out, .int .i64 c.Gone] 24) = w0 at *
  clear hw0
  have HC0 := Lib.hid hc0; clear hc0
  go_wp2_with fail
  refine (charsBegun_c _).mono ?_
  rintro e w1 ⟨rfl, hb1⟩
  have hs1 := hs0.below hb1
  have hc1 := HC0.out.below hb1 HC0.out.lt
  have hx1 := hb0.trans (hb1.mono hb0.size)
  clear hs0 HC0 hb1 hb0
  by_cases hbig : 300 < l.length
  · clear hc1
    go_wp2
    go_ret
    exact ⟨rfl, hx1⟩
  have hsm : l.length ≤ 300 := by omega
  have hd1 : decide (300 < (l.length : Int)) = false := by simp; omega
  clear hbig
  have HC1 := Lib.hid hc1; clear hc1
  go_wp2_with fail
  refine (ViewOf_c a cap l _ _ _ hs1 HG.out).mono ?_
  rintro e w2 ⟨rfl, hb2⟩
  have hs2 := hs1.below hb2
  have hc2 := HC1.out.below hb2 HC1.out.lt
  have hx2 := hx1.trans (hb2.mono hx1.size)
  clear hs1 HC1 hb2 hx1
  have hC0 := Below.refl w2.heap.size w2
  have hlt2 := hc2.lt
  obtain ⟨r0, r1, r2, r3, r4, r5, r6⟩ := hc2
  have r0 := later_cell r0
  have r1 := later_cell r1
  have r2 := later_cell r2
  have r3 := later_cell r3
  have r4 := later_cell r4
  have r5 := later_cell r5
  have r6 := later_cell r6
  have hsz : (strOfNums (viewN seen by_ l)).size = (vis seen by_ l).length := by rw [strOfNums_size]; simp [viewN]
  obtain ⟨S, hS⟩ : ∃ S, S = strOfNums (viewN seen by_ l) := ⟨_, rfl⟩
  obtain ⟨m, hm1⟩ : ∃ m, m = (vis seen by_ l).length := ⟨_, rfl⟩
  rw [← hS, ← hm1] at hsz
  rw [← hS]
  have HS := Lib.hid hS; clear hS
  have HM := Lib.hid hm1; clear hm1
  have HVm : (viewN seen by_ l).length = m := by rw [HM.out]; simp [viewN]
  have HV := Lib.hid HVm; clear HVm
  have hL : ∀ q : Lt w2, Later w2 q.v := fun q => q.h
  go_upto_region 6 with fail
  refine wp_region_mix [9] [0, 1, 2, 3, 4, 5, 6, 7, 8, 11, 9, 10, 12, 13, 14, 15, 16, 17, 18, 19, 20, 21, 22, 23, 24, 25, 26, 27, 28, 29, 30, 31, 32, 33, 34, 35, 36, 37, 38, 39, 40, 41, 42, 43, 44, 45, 46, 47, 48, 49, 50, 51, 52, 53] (by kernel_rfl) (by kernel_rfl) ?_
  repeat (refine wpMix_step rfl (fun K hK => ?_); go_simp; first | (refine hK _ _ ?_; clear hK K) | (apply Exists.intro; refine ⟨?_, hK _ _ ?_⟩; (focus (intro p; (have hLp := hL p; first | (go_at_call 31; exact quietM_same p (Writer_c _ _)) | (go_at_call 32; exact quietM_same p (IsWriter_c _ _)) | (go_at_call 34; exact quietM p (Count_n a cap l _ rfl _ _ m HM.out.symm _ (hs2.below hLp) (by omega))) | (go_at_call 35; exact quietM p (Behind_c a cap l _ _ n _ (hs2.below hLp) (by omega) HN.out.1 HN.out.2)) | (go_at_call 36; exact quietM p (BehindOf_c a cap l _ _ n _ (hs2.below hLp) HG.out)) | (go_at_call 37; exact quietM p (Find_c a cap l c _ (hs2.below hLp))) | (go_at_call 19; exact quietM p (FindIn_c a cap l c _ (hs2.below hLp))) | (go_at_call 38; exact quietM p (Check_c a cap l n _ (hs2.below hLp))) | (go_at_call 39; exact quietM p (ListFault_c a cap l n _ (hs2.below hLp)))))); clear hK K))
  refine wpMix_step rfl (fun K hK => ?_)
  go_simp
  intro p
  refine (View_n a cap l _ rfl _ _ _ rfl m HV.out _ (hs2.below (hL p)) (by omega)).mono ?_
  rintro e w3 ⟨a', cap', rfl, ho, hb3⟩
  refine ⟨_, rfl, hb3, hK _ _ ?_⟩
  clear hK K
  have hl3 : Later w2 w3 := (hL p).trans hb3
  clear hL
  have hL : ∀ q : Lt w3, Later w2 q.v := fun q => hl3.trans q.h
  have hcv : ∀ q : Lt w3, Sem.run Try.prog (convert 45 9 (.slice a' m cap')) q.v = .ok (.string S) q.v := fun q => conv_view (ho.below q.h) S HS.out.symm
  clear ho
  repeat (refine wpMix_step rfl (fun K hK => ?_); go_simp; first | (refine hK _ _ ?_; clear hK K) | (apply Exists.intro; refine ⟨?_, hK _ _ ?_⟩; (focus (intro p; (have hLp := hL p; first | (go_at_call 31; exact quietM_same p (Writer_c _ _)) | (go_at_call 32; exact quietM_same p (IsWriter_c _ _)) | (go_at_call 34; exact quietM p (Count_n a cap l _ rfl _ _ m HM.out.symm _ (hs2.below hLp) (by omega))) | (go_at_call 35; exact quietM p (Behind_c a cap l _ _ n _ (hs2.below hLp) (by omega) HN.out.1 HN.out.2)) | (go_at_call 36; exact quietM p (BehindOf_c a cap l _ _ n _ (hs2.below hLp) HG.out)) | (go_at_call 37; exact quietM p (Find_c a cap l c _ (hs2.below hLp))) | (go_at_call 19; exact quietM p (FindIn_c a cap l c _ (hs2.below hLp))) | (go_at_call 38; exact quietM p (Check_c a cap l n _ (hs2.below hLp))) | (go_at_call 39; exact quietM p (ListFault_c a cap l n _ (hs2.below hLp)))))); clear hK K))
  refine wpMix_nil ?_
  intro w4 hL4
  have hl4 : Later w2 w4 := hl3.trans hL4
  clear hcv hL hL4 hb3
  go_wp2
  go_loopw [12] (fun i wr => ∃ k : Nat, k ≤ l.length ∧ i = .int .i64 k ∧ Later w2 wr) (fun i _ => l.length - (intOf i).toNat)
  case atStart => exact ⟨0, Nat.zero_le _, rfl, hl4⟩
  case round =>
    obtain ⟨k, hk, rfl, hlr⟩ := hrel
    by_cases hlt : k < l.length
    · obtain ⟨b, off, rfl, hc⟩ := (hs2.below hlr).nth hlt
      obtain ⟨q0, q1, q2, q3, q4, q5, q6⟩ := hc
      have q0 := later_cell q0
      have q1 := later_cell q1
      have q2 := later_cell q2
      have q3 := later_cell q3
      have q4 := later_cell q4
      have q5 := later_cell q5
      have q6 := later_cell q6
      have hlt' : (k : Int) < l.length := by omega
      have hL : ∀ q : Lt wr, Later w2 q.v := fun q => hlr.trans q.h
      have hL' : ∀ q : Lt wr, Later wr q.v := fun q => q.h
      generalize l[k] = x at *
      go_upto_region 11 with fail
      refine wp_region_mix [] [0, 1, 2, 3, 4, 5, 6, 7, 8, 9, 10, 11, 12] (by kernel_rfl) (by kernel_rfl) ?_
      repeat (refine wpMix_step rfl (fun K hK => ?_); go_simp; first | (refine hK _ _ ?_; clear hK K) | (apply Exists.intro; refine ⟨?_, hK _ _ ?_⟩; (focus (intro p; (have hLp := hL p; first | (go_at_call 40; exact quietM p (Same_c x c _)) | (go_at_call 41; exact quietM p (RSame_c x c _))))); clear hK K))
      refine wpMix_nil ?_
      intro w5 hL5
      have hl5 : Later w2 w5 := hlr.trans hL5
      clear q0 q1 q2 q3 q4 q5 q6 hL hL'
      go_wp2
      exact ⟨⟨k + 1, by omega, by go_num, hl5⟩, by simp [intOf]; omega⟩
    · obtain rfl : k = l.length := by omega
      have hL : ∀ q : Lt wr, Later w2 q.v := fun q => hlr.trans q.h
      have hGc := Lib.hid HCO.out.2.2.2.2.2.2
      go_upto_region 13 with fail
      refine wp_region_mix [] [0, 1, 2, 3, 4, 5, 6, 7, 8, 9, 10, 11, 12, 13, 14, 15, 16, 17, 18, 19, 20, 21, 22, 23, 24, 25, 26, 27, 28, 29, 30, 31] (by kernel_rfl) (by kernel_rfl) ?_
      repeat (refine wpMix_step rfl (fun K hK => ?_); go_simp; first | (refine hK _ _ ?_; clear hK K) | (apply Exists.intro; refine ⟨?_, hK _ _ ?_⟩; (focus (intro p; (have hLp := hL p; first | (go_at_call 26; exact quietM p (In_c c _ _ _)) | (go_at_call 42; exact quietM p (KnowsIn_c c _ _ _)) | (go_at_call 27; exact quietM p (Out_c c _ _ _)) | (go_at_call 43; exact quietM p (KnowsOut_c c _ _ _ hGc.out)) | (go_at_call 29; exact quietM p (Sees_c c _ _ _)) | (go_at_call 44; exact quietM p (RSees_c c _ _ _ hGc.out))))); clear hK K))
      refine wpMix_nil ?_
      intro w5 hL5
      have hl5 : Later w2 w5 := hlr.trans hL5
      go_wp2
      go_ret
      exact ⟨rfl, hx2.trans (Below.mono hl5 hx2.size)⟩
end Go.Proofs.Ytneoeokfffnonaa
