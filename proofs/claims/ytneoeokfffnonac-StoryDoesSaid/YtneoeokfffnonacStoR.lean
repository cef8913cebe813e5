/- The walks of the reference's Told and WhereIs. -/
import Derived.Test.YtneoeokfffnonacStoW
import Derived.Test.YtneoeokfffnonacRefW
import Derived.Test.YtneoeokfffnonacDkC
set_option linter.unusedVariables false
set_option linter.unusedSimpArgs false
namespace Go.Proofs.Ytneoeokfffnonac
open Go.RowKit
theorem RAllP_c (a : Option Addr) (cap : Nat) (ds : List Dd) (n : Nat) (hn : n ≤ ds.length) (w : World) (hs : SlDd w a cap ds) (hL : LOk ds) :
    Calls Try.prog 97 #[.slice a n cap] w fun e w' => ∃ a' cap' at_, e = .returned (.tuple #[.slice a' (pre ds n).length cap', .agg #[.int .i64 0, .int .i64 at_]]) ∧ SlCh w' a' cap' (pre ds n) ∧ Below w.heap.size w w' := by
  have h0 := take_all ds hL.all n
  have hl : (ds.take n).length = n := by rw [List.length_take]; omega
  have h1 := RAll_c a cap (ds.take n) w (hs.take n) (fun d hd => by
    have hd' := List.mem_of_mem_take hd
    obtain ⟨i, hi, rfl⟩ := List.getElem_of_mem hd'
    exact (fault_ok (mayDo_zero (pre_succ hL.all i hi).1).1).1) (by have := hL.len; omega)
  rw [hl] at h1
  refine h1.mono ?_
  rintro e w' ⟨a', cap', rfl, ho, hb⟩
  exact ⟨a', cap', (allF (ds.take n)).2.2, by rw [h0]; rfl, ho.slCh, hb⟩
section
variable {w : World} {a : Option Addr} {cap : Nat} {ds : List Dd}
theorem Told_no (n : Int) (hn : n < 0 ∨ (ds.length : Int) < n) : Calls Try.prog 55 #[.slice a ds.length cap, .int .i64 n] w fun e w' => e = .returned (.tuple #[.string ⟨#[]⟩, .slice none 0 0, .bool false]) ∧ Below w.heap.size w w' := by
  go_enter Try.func55, Try.ntmps55
  by_cases h0 : n < 0
  · have h0B : decide (n < 0) = true := decide_eq_true h0
    go_wp2
    all_goals
      go_ret3
      exact ⟨rfl, Below.refl _ _⟩
  · have h0B : decide (n < 0) = false := decide_eq_false h0
    have h1B : decide ((ds.length : Int) < n) = true := decide_eq_true (by omega)
    go_wp2
    all_goals
      go_ret3
      exact ⟨rfl, Below.refl _ _⟩
theorem pre_gone (hL : LOk ds) (n : Nat) (hn : n ≤ ds.length) : ∀ c ∈ pre ds n, i64ok c.Gone := fun c hc => by
  have := bad1_false ((hL.made n hn).good c hc).b1
  unfold i64ok; omega
set_option maxRecDepth 100000 in
set_option maxHeartbeats 800000 in
theorem Told_c (hs : SlDd w a cap ds) (n : Nat) (hn : n ≤ ds.length) (hL : LOk ds) : Calls Try.prog 55 #[.slice a ds.length cap, .int .i64 n] w fun e w' => ∃ a' cap',
    e = .returned (.tuple #[.string (strOfNums (txtL ds n)), .slice a' (bysL ds n).length cap', .bool true]) ∧ OwnRow w' w.heap.size 3 1 a' (bysL ds n).length cap' ((bysL ds n).map (Value.int .i64)) ∧ Below w.heap.size w w' := by
  have hlen := hL.len
  have hl200 : (pre ds n).length ≤ 200 := (hL.made n hn).max
  have HV := Lib.hid (show (vis n (-1) (pre ds n)).map Ch.By = bysL ds n from by rw [hL.vis_n n hn]; rfl)
  have HT := Lib.hid (hL.txt n hn)
  have HGO := Lib.hid (pre_gone hL n hn)
  have h0B : decide ((n : Int) < 0) = false := decide_eq_false (by omega)
  have h1B : decide ((ds.length : Int) < (n : Int)) = false := decide_eq_false (by omega)
  have hn1 : (n : Int) ≤ (ds.length : Int) := by omega
  have hn0 : (0 : Int) ≤ (n : Int) := by omega
  have hcap : ds.length ≤ cap := hs.1
  have hcn : (n : Int) ≤ (cap : Int) := by omega
  have HAL := Lib.hid (RAllP_c a cap ds n hn w hs hL)
  clear hs hL
  generalize pre ds n = l at *
  generalize bysL ds n = bs at *
  obtain ⟨S, hS⟩ : ∃ S, S = strOfNums (txtL ds n) := ⟨_, rfl⟩
  have HTX := Lib.hid (show strOfNums (textF l) = S from by rw [hS, HT.out])
  rw [← hS]
  clear hS HT
  go_enter Try.func55, Try.ntmps55
  go_wp2_with fail
  refine (HAL.out).mono ?_
  rintro e w3 ⟨a1, cap1, at_, rfl, hsl, hb3⟩
  have hb4 : ∀ o, Below w.heap.size w (w3.alloc o) := fun o => hb3.alloc hb3.size o
  have hs4 : ∀ o, SlCh (w3.alloc o) a1 cap1 l := fun o => hsl.below ((Below.refl w3.heap.size w3).alloc (Nat.le_refl _) o)
  have HB4 := Lib.hid hb4; have HS4 := Lib.hid hs4
  clear hb4 hs4 hb3 hsl HAL h0B h1B hn1 hcn hcap
  go_upto_region 4 with fail
  generalize hw4 : w3.alloc _ = w4
  have HB := Lib.hid (show Below w.heap.size w w4 from by rw [← hw4]; exact HB4.out _)
  have HS := Lib.hid (show SlCh w4 a1 cap1 l from by rw [← hw4]; exact HS4.out _)
  clear HB4 HS4 hw4
  go_wp2
  go_loopw [9, 10] (fun v i wr => ∃ (k : Nat) (a' : Option Addr) (cap' : Nat), k ≤ l.length ∧ i = (.int .i64 k) ∧ v = .slice a' (vis n (-1) (l.take k)).length cap' ∧ Hid (OwnRow wr w4.heap.size 3 1 a' (vis n (-1) (l.take k)).length cap' (((vis n (-1) (l.take k)).map Ch.By).map (Value.int .i64))) ∧ Hid (Below w4.heap.size w4 wr)) (fun _ i _ => l.length - (intOf i).toNat)
  case atStart => exact ⟨0, none, 0, Nat.zero_le _, rfl, rfl, Lib.hid (OwnRow.nil _ _ _ _ _), Lib.hid (Below.refl _ _)⟩
  case round =>
    obtain ⟨k, a', cap', hk, rfl, rfl, HOW, HBr⟩ := hrel
    have HSr := Lib.hid (HS.out.below HBr.out)
    by_cases hlt : k < l.length
    · have hgk : i64ok l[k].Gone := HGO.out _ (List.getElem_mem hlt)
      obtain ⟨b1, off1, rfl, hc⟩ := HSr.out.nth hlt
      have HC := Lib.hid hc
      have Hs := Lib.hid (vis_snoc n (-1) l k hlt)
      have Hb := Lib.hid (bys_snoc n (-1) l k hlt)
      have hvl : (vis n (-1) (l.take k)).length ≤ k := Nat.le_trans (vis_le ..) (by simp; omega)
      have hk0 : (0 : Int) ≤ (k : Int) := by omega
      obtain ⟨q0, q1, q2, q3, q4, q5, q6⟩ := hc
      go_wp2_with fail
      refine (RSees_c l[k] _ _ _ hgk).mono ?_
      rintro e w2 ⟨rfl, hb2⟩
      have HC2 := Lib.hid (HC.out.below hb2 HC.out.lt)
      have HOW2 := Lib.hid (HOW.out.below hb2)
      have HB2 := Lib.hid (HBr.out.trans (hb2.mono HBr.out.size))
      clear q0 q1 q2 q3 q4 q5 q6 hb2 HC HOW HSr HBr
      obtain ⟨q0, q1, q2, q3, q4, q5, q6⟩ := HC2.out
      cases hsee : l[k].sees n (-1)
      · have Hs2 := Lib.hid (show vis n (-1) (l.take (k + 1)) = vis n (-1) (l.take k) by rw [Hs.out, hsee]; simp)
        clear Hs Hb
        go_wp2
        exact ⟨⟨k + 1, a', cap', by omega, by go_num, by rw [Hs2.out], Lib.hid (by rw [Hs2.out]; exact HOW2.out), HB2⟩, by simp [intOf]; omega⟩
      · have Hs2 := Lib.hid (show (vis n (-1) (l.take (k + 1))).length = (vis n (-1) (l.take k)).length + 1 by rw [Hs.out, hsee]; simp)
        have Hb2 := Lib.hid (show (vis n (-1) (l.take (k + 1))).map Ch.By = (vis n (-1) (l.take k)).map Ch.By ++ [l[k].By] by rw [Hb.out, hsee]; simp)
        clear Hs Hb
        have hz := HB2.out.size
        go_wp2_with (at_builtin; refine wpList_append_new rfl (.tmp 38) (.tmp 44) 91 rfl w4.heap.size 3 1 8 Try.underlying91 ti_int a' _ cap' _ rfl HOW2.out 1 1 [.int .i64 l[k].By] rfl rfl (one1 rfl) (by omega) HB2.out.size ?_)
        intro a3 cap3 w3 hown3 hb3 hz3 hg3
        have Hfin := Lib.hid (show OwnRow w3 w4.heap.size 3 1 a3 (vis n (-1) (l.take (k + 1))).length cap3 (((vis n (-1) (l.take (k + 1))).map Ch.By).map (Value.int .i64)) from by
          rw [Hs2.out, Hb2.out, List.map_append, List.map_map]; exact hown3)
        have HB3 := Lib.hid (HB2.out.trans hb3)
        clear hown3 HOW2 q0 q1 q2 q3 q4 q5 q6 HC2 hb3 hg3 hz3
        go_wp2
        exact ⟨⟨k + 1, a3, cap3, by omega, by go_num, by rw [Hs2.out], Hfin, HB3⟩, by simp [intOf]; omega⟩
    · obtain rfl : k = l.length := by omega
      have Hs2 := Lib.hid (show l.take l.length = l by simp)
      have HVL := Lib.hid (show (vis n (-1) l).length = bs.length from by rw [← HV.out]; simp)
      go_wp2_with fail
      refine (RTextOf_c a1 cap1 l wr HSr.out HGO.out).mono ?_
      rintro e w5 ⟨rfl, hb5⟩
      have HOW4 := Lib.hid ((HOW.out.below hb5).mono HB.out.size)
      have HB4 := Lib.hid (HB.out.trans ((HBr.out.trans (hb5.mono HBr.out.size)).mono HB.out.size))
      have hown := HOW4.out
      rw [Hs2.out, HVL.out, HV.out] at hown
      have HOWN := Lib.hid hown
      rw [Hs2.out]
      clear hb5 HOW HSr HBr HOW4 hown
      go_wp2
      go_ret3
      exact ⟨a', cap', by rw [HVL.out, HTX.out]; rfl, HOWN.out, HB4.out⟩
set_option maxRecDepth 100000 in
set_option maxHeartbeats 800000 in
theorem WhereIs_c (hs : SlDd w a cap ds) (n : Nat) (hn : n ≤ ds.length) (hL : LOk ds) (x : Ch) : Calls Try.prog 59 #[.slice a ds.length cap, .int .i64 n, .agg #[.int .u8 x.C, .int .i64 x.By, .int .i64 x.No, .int .i64 x.K, .int .i64 x.In, .int .i64 x.Out, .int .i64 x.Gone]] w fun e w' => e = .returned (.int .i64 (whL ds n x)) ∧ Below w.heap.size w w' := by
  have hlen := hL.len
  have hl200 : (pre ds n).length ≤ 200 := (hL.made n hn).max
  have HW := Lib.hid (hL.wh n hn x)
  have HGO := Lib.hid (pre_gone hL n hn)
  have h0B : decide ((n : Int) < 0) = false := decide_eq_false (by omega)
  have h1B : decide ((ds.length : Int) < (n : Int)) = false := decide_eq_false (by omega)
  have hn1 : (n : Int) ≤ (ds.length : Int) := by omega
  have hn0 : (0 : Int) ≤ (n : Int) := by omega
  have hcap : ds.length ≤ cap := hs.1
  have hcn : (n : Int) ≤ (cap : Int) := by omega
  have hb0 := (Below.refl w.heap.size w).alloc (Nat.le_refl _) (.cells #[.int .u8 x.C, .int .i64 x.By, .int .i64 x.No, .int .i64 x.K, .int .i64 x.In, .int .i64 x.Out, .int .i64 x.Gone] 86)
  have HAL := Lib.hid (RAllP_c a cap ds n hn (w.alloc (.cells #[.int .u8 x.C, .int .i64 x.By, .int .i64 x.No, .int .i64 x.K, .int .i64 x.In, .int .i64 x.Out, .int .i64 x.Gone] 86)) (hs.below hb0) hL)
  have HX := Lib.hid (show ChAt (w.alloc (.cells #[.int .u8 x.C, .int .i64 x.By, .int .i64 x.No, .int .i64 x.K, .int .i64 x.In, .int .i64 x.Out, .int .i64 x.Gone] 86)) w.heap.size 0 x by simp [ChAt])
  have HB0 := Lib.hid hb0
  clear hs hL hb0
  generalize pre ds n = l at *
  generalize whL ds n x = R at *
  go_enter Try.func59, Try.ntmps59
  go_upto_region 1 with fail
  generalize hw0 : w.alloc _ = w0
  have hw0' : w.alloc (.cells #[.int .u8 x.C, .int .i64 x.By, .int .i64 x.No, .int .i64 x.K, .int .i64 x.In, .int .i64 x.Out, .int .i64 x.Gone] 86) = w0 := hw0
  rw [hw0'] at HAL HX HB0
  clear hw0 hw0'
  obtain ⟨X, hX⟩ : ∃ X, X = w.heap.size := ⟨_, rfl⟩
  have HXW := Lib.hid hX
  rw [← hX] at HX HB0 ⊢
  have hXl2 : X < w0.heap.size := HX.out.lt
  have hXl : X ≤ w0.heap.size := Nat.le_of_lt hXl2
  clear hX
  go_wp2_with fail
  refine (HAL.out).mono ?_
  rintro e w3 ⟨a1, cap1, at_, rfl, hsl, hb3⟩
  have hb4 : ∀ o, Below w0.heap.size w0 (w3.alloc o) := fun o => hb3.alloc hb3.size o
  have hs4 : ∀ o, SlCh (w3.alloc o) a1 cap1 l := fun o => hsl.below ((Below.refl w3.heap.size w3).alloc (Nat.le_refl _) o)
  have HB4 := Lib.hid hb4; have HS4 := Lib.hid hs4
  clear hb4 hs4 hb3 hsl HAL h0B h1B hn1 hcn hcap
  go_upto_region 4 with fail
  generalize hw4 : w3.alloc _ = w4
  have HB := Lib.hid (show Below w0.heap.size w0 w4 from by rw [← hw4]; exact HB4.out _)
  have HS := Lib.hid (show SlCh w4 a1 cap1 l from by rw [← hw4]; exact HS4.out _)
  clear HB4 HS4 hw4
  have HX4 := Lib.hid (HX.out.below HB.out hXl2)
  have HBX := Lib.hid (HB0.out.trans (HB.out.mono hXl))
  have hXl4 : X < w4.heap.size := HX4.out.lt
  clear HB HX HB0 hXl hXl2
  go_wp2
  go_loopw [9, 10] (fun s9 i wr => ∃ (k j : Nat), k ≤ l.length ∧ i = (.int .i64 k) ∧ s9 = (.int .i64 j) ∧ j ≤ k ∧ Hid (whFrom (fun c => c.sees n (-1)) x (l.drop k) j = R) ∧ Hid (Below w4.heap.size w4 wr)) (fun _ i _ => l.length - (intOf i).toNat)
  case atStart => exact ⟨0, 0, Nat.zero_le _, rfl, rfl, Nat.le_refl _, Lib.hid HW.out, Lib.hid (Below.refl _ _)⟩
  case round =>
    obtain ⟨k, j, hk, rfl, rfl, hj, HE, HB⟩ := hrel
    by_cases hlt : k < l.length
    · have hgk : i64ok l[k].Gone := HGO.out _ (List.getElem_mem hlt)
      obtain ⟨b1, off1, rfl, hc⟩ := HS.out.nth hlt
      have HC := Lib.hid (hc.below HB.out hc.lt)
      have HXr := Lib.hid (HX4.out.below HB.out HX4.out.lt)
      have HD := Lib.hid (show whFrom (fun c => c.sees n (-1)) x (l.drop k) j = if l[k].sees n (-1) then (if l[k].same x then (j : Int) else whFrom (fun c => c.sees n (-1)) x (l.drop (k + 1)) (j + 1)) else whFrom (fun c => c.sees n (-1)) x (l.drop (k + 1)) j by
        rw [List.drop_eq_getElem_cons hlt]; rfl)
      have hk0 : (0 : Int) ≤ (k : Int) := by omega
      clear hc
      obtain ⟨q0, q1, q2, q3, q4, q5, q6⟩ := HC.out
      go_wp2_with fail
      refine (RSees_c l[k] _ _ _ hgk).mono ?_
      rintro e w5 ⟨rfl, hb5⟩
      have HC5 := Lib.hid (HC.out.below hb5 HC.out.lt)
      have HX5 := Lib.hid (HXr.out.below hb5 HXr.out.lt)
      have HB5 := Lib.hid (HB.out.trans (hb5.mono HB.out.size))
      clear q0 q1 q2 q3 q4 q5 q6 hb5 HC HXr HB
      cases hsee : l[k].sees n (-1)
      · have HD2 := Lib.hid (show whFrom (fun c => c.sees n (-1)) x (l.drop (k + 1)) j = R by rw [← HE.out, HD.out, hsee]; simp)
        clear HD HE HC5 HX5
        go_wp2
        exact ⟨⟨k + 1, j, by omega, by go_num, rfl, by omega, HD2, HB5⟩, by simp [intOf]; omega⟩
      · have HM := Lib.hid hsee
        clear hsee
        go_upto_region 9 with fail
        obtain ⟨q0, q1, q2, q3, q4, q5, q6⟩ := HC5.out
        obtain ⟨y0, y1, y2, y3, y4, y5, y6⟩ := HX5.out
        have Q0 := later_cell q0
        have Q1 := later_cell q1
        have Q2 := later_cell q2
        have Q3 := later_cell q3
        have Q4 := later_cell q4
        have Q5 := later_cell q5
        have Q6 := later_cell q6
        have Y0 := later_cell y0
        have Y1 := later_cell y1
        have Y2 := later_cell y2
        have Y3 := later_cell y3
        have Y4 := later_cell y4
        have Y5 := later_cell y5
        have Y6 := later_cell y6
        have hL : ∀ q : Lt w5, Later w5 q.v := fun q => q.h
        clear q0 q1 q2 q3 q4 q5 q6 y0 y1 y2 y3 y4 y5 y6
        refine wp_region_mix [] [0, 1, 2, 3, 4, 5] (by kernel_rfl) (by kernel_rfl) ?_
        iterate 5 (refine wpMix_step rfl (fun K hK => ?_); go_simp; refine hK _ _ ?_; clear hK K)
        refine wpMix_step rfl (fun K hK => ?_)
        go_simp
        refine ⟨_, fun p => quietM p (RSame_c l[k] x _), hK _ _ ?_⟩
        clear hK K
        refine wpMix_nil ?_
        intro w6 hL6
        have HB6 := Lib.hid (HB5.out.trans (hL6.mono HB5.out.size))
        clear hL6 hL Q0 Q1 Q2 Q3 Q4 Q5 Q6 Y0 Y1 Y2 Y3 Y4 Y5 Y6 HC5 HX5 HB5
        cases hsm : l[k].same x
        · have HD2 := Lib.hid (show whFrom (fun c => c.sees n (-1)) x (l.drop (k + 1)) ((j + 1 : Nat) : Int) = R by rw [← HE.out, HD.out, HM.out, hsm]; simp)
          clear HD HE
          go_wp2
          exact ⟨⟨k + 1, j + 1, by omega, by go_num, by go_num, by omega, HD2, HB6⟩, by simp [intOf]; omega⟩
        · have HD2 := Lib.hid (show R = (j : Int) by rw [← HE.out, HD.out, HM.out, hsm]; simp)
          clear HD HE
          go_wp2
          go_ret
          exact ⟨by rw [HD2.out]; rfl, by rw [← HXW.out]; exact HBX.out.trans (HB6.out.mono (by omega))⟩
    · obtain rfl : k = l.length := by omega
      have HD2 := Lib.hid (show R = -1 by rw [← HE.out]; simp [whFrom])
      clear HE
      go_wp2
      go_ret
      exact ⟨by rw [HD2.out]; rfl, by rw [← HXW.out]; exact HBX.out.trans (HB.out.mono (by omega))⟩
set_option maxRecDepth 100000 in
theorem WhereIs_no (n : Int) (hn : n < 0 ∨ (ds.length : Int) < n) (x : Ch) : Calls Try.prog 59 #[.slice a ds.length cap, .int .i64 n, .agg #[.int .u8 x.C, .int .i64 x.By, .int .i64 x.No, .int .i64 x.K, .int .i64 x.In, .int .i64 x.Out, .int .i64 x.Gone]] w fun e w' => e = .returned (.int .i64 (-1)) ∧ Below w.heap.size w w' := by
  have HB := Lib.hid ((Below.refl w.heap.size w).alloc (Nat.le_refl _) (.cells #[.int .u8 x.C, .int .i64 x.By, .int .i64 x.No, .int .i64 x.K, .int .i64 x.In, .int .i64 x.Out, .int .i64 x.Gone] 86))
  go_enter Try.func59, Try.ntmps59
  by_cases h0 : n < 0
  · have h0B : decide (n < 0) = true := decide_eq_true h0
    go_wp2
    all_goals
      go_ret
      exact ⟨rfl, HB.out⟩
  · have h0B : decide (n < 0) = false := decide_eq_false h0
    have h1B : decide ((ds.length : Int) < n) = true := decide_eq_true (by omega)
    go_wp2
    all_goals
      go_ret
      exact ⟨rfl, HB.out⟩
/-- A story and the reference, at any number: the same texts, the same writers, the same place. -/
theorem story_any {L : List Dd} (hL : LOk L) (n : Int) (x : Ch) : ∃ (T : ByteArray) (c : Bool) (bs : List Int) (N : Nat) (R : Int), bs.length = N ∧
    (∀ W g, StoAt W g L → Calls Try.prog 53 #[.pointer (some ⟨g, 0, none⟩), .int .i64 n] W fun e w' => e = .returned (.tuple #[.string T, .bool c]) ∧ Below W.heap.size W w') ∧
    (∀ W g, StoAt W g L → Calls Try.prog 54 #[.pointer (some ⟨g, 0, none⟩), .int .i64 n] W fun e w' => ∃ a' cap', e = .returned (.tuple #[.slice a' N cap', .bool c]) ∧ SlInt w' a' cap' bs ∧ Below W.heap.size W w') ∧
    (∀ W g, StoAt W g L → Calls Try.prog 58 #[.pointer (some ⟨g, 0, none⟩), .int .i64 n, .agg #[.int .u8 x.C, .int .i64 x.By, .int .i64 x.No, .int .i64 x.K, .int .i64 x.In, .int .i64 x.Out, .int .i64 x.Gone]] W fun e w' => e = .returned (.int .i64 R) ∧ Below W.heap.size W w') ∧
    (∀ W a cap M, L.length = M → SlDd W a cap L → Calls Try.prog 55 #[.slice a M cap, .int .i64 n] W fun e w' => ∃ a' cap', e = .returned (.tuple #[.string T, .slice a' N cap', .bool c]) ∧ SlInt w' a' cap' bs ∧ Below W.heap.size W w') ∧
    (∀ W a cap M, L.length = M → SlDd W a cap L → Calls Try.prog 59 #[.slice a M cap, .int .i64 n, .agg #[.int .u8 x.C, .int .i64 x.By, .int .i64 x.No, .int .i64 x.K, .int .i64 x.In, .int .i64 x.Out, .int .i64 x.Gone]] W fun e w' => e = .returned (.int .i64 R) ∧ Below W.heap.size W w') := by
  have hlen : L.length ≤ 1000 := by have := hL.len; omega
  by_cases hn : n < 0 ∨ (L.length : Int) < n
  · refine ⟨⟨#[]⟩, false, [], 0, -1, rfl, fun W g h => SText_no h n hn hlen, fun W g h => (SBy_no h n hn hlen).mono ?_, fun W g h => SWhere_no h n hn hlen x, ?_, ?_⟩
    · rintro e w' ⟨rfl, hb⟩
      exact ⟨none, 0, rfl, ⟨Nat.le_refl _, Nat.zero_le _, fun i hi => absurd hi (Nat.not_lt_zero _)⟩, hb⟩
    · rintro W a cap M rfl h
      refine (Told_no n hn).mono ?_
      rintro e w' ⟨rfl, hb⟩
      exact ⟨none, 0, rfl, ⟨Nat.le_refl _, Nat.zero_le _, fun i hi => absurd hi (Nat.not_lt_zero _)⟩, hb⟩
    · rintro W a cap M rfl h
      exact WhereIs_no n hn x
  · obtain ⟨k, hk⟩ : ∃ k : Nat, n = (k : Int) := ⟨n.toNat, by omega⟩
    have hkl : k ≤ L.length := by omega
    refine ⟨strOfNums (txtL L k), true, bysL L k, (bysL L k).length, whL L k x, rfl, fun W g h => SText_z h n k hk hkl hL _ rfl, fun W g h => SBy_z h n k hk hkl hL _ rfl _ rfl, fun W g h => SWhere_z h n k hk hkl hL x _ rfl, ?_, ?_⟩
    · rintro W a cap M rfl h
      subst hk
      refine (Told_c h k hkl hL).mono ?_
      rintro e w' ⟨a', cap', rfl, ho, hb⟩
      exact ⟨a', cap', rfl, ho.slInt, hb⟩
    · rintro W a cap M rfl h
      subst hk
      exact WhereIs_c h k hkl hL x
end
end Go.Proofs.Ytneoeokfffnonac
