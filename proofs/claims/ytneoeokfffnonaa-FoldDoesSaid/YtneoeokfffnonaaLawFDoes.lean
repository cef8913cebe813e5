/- The walk of the law FoldDoes. -/
import Derived.Test.YtneoeokfffnonaaFoBegun
import Derived.Test.YtneoeokfffnonaaRefAllW
import Derived.Test.YtneoeokfffnonaaRefClW
import Derived.Test.YtneoeokfffnonaaCmpW
import Derived.Test.YtneoeokfffnonaaMixT
namespace Go.Proofs.Ytneoeokfffnonaa
open Go.RowKit

theorem Same_t (a b : Option Addr) (capa capb : Nat) (l : List Ch) (n : Nat) (hn : l.length = n) (w : World) (hs : SlCh w a capa l) (hs' : SlCh w b capb l) :
    Calls Try.prog 22 #[.slice a n capa, .slice b n capb] w fun e w' => e = .returned (.bool true) ∧ Below w.heap.size w w' := by
  subst hn
  refine (SameChars_c a b capa capb l l w hs hs').mono ?_
  rintro e w' ⟨rfl, hb⟩
  exact ⟨by simp, hb⟩

theorem guard_Fault : Try.prog.eqGuardType Try.prog.depth 60 = false := by kernel_rfl
theorem eql_Fault (x y : Int) (w : World) : (binOp .eql 60 (.agg #[.int .i64 x, .int .i64 y]) (.agg #[.int .i64 x, .int .i64 y])).run Try.prog w = .ok (.bool true) w := by
  have u3 := Try.underlying3
  have a3 := Try.isAgg3
  have z3 := Try.sizeOf3
  have hS : Try.prog.underlying 60 = some (.struct (Try.prog.fieldsOf 60)) := by kernel_rfl
  have hp : Try.prog.stoodInHeld 60 = false := by kernel_rfl
  rw [run_eql_struct, show (10000 : Nat) = 9999 + 1 from rfl, run_equalIn_agg w 9999 60 _ _ hS hp]
  simp only [Program.fieldsOf, Try.underlying60]
  go_simp

/-- What greatDeeds tells. -/
def GreatD (ds : List Dd) (w : World) (e : Ending) (w' : World) : Prop := ∃ r, e = .returned (.bool r) ∧ w' = w ∧ (r = false → ds.length ≤ 150 ∧ ∀ d ∈ ds, d.Text.size ≤ 100)

theorem greatDeeds_c (a : Option Addr) (cap : Nat) (ds : List Dd) (w : World) (hs : SlDd w a cap ds) :
    Calls Try.prog 46 #[.slice a ds.length cap] w (GreatD ds w) := by
  have hm : ds.length ≤ maxLen := Nat.le_trans hs.1 hs.2.1
  unfold maxLen at hm
  go_enter Try.func46, Try.ntmps46
  go_wp2
  go_loop [3] (fun s3 => ∃ k : Nat, k ≤ ds.length ∧ k ≤ 200 ∧ s3 = .int .i64 k ∧ Hid (∀ i (h : i < ds.length), i < k → ds[i].Text.size ≤ 100)) (fun s3 => ds.length - (intOf s3).toNat)
  case atStart => exact ⟨0, Nat.zero_le _, by omega, rfl, Lib.hid (fun i h h2 => by omega)⟩
  case round =>
    obtain ⟨k, hk, hk2, rfl, HP⟩ := hrel
    by_cases hlt : k < ds.length
    · have hltB : decide ((k : Int) < ds.length) = true := by simp; omega
      by_cases h200 : k < 200
      · have h2B : decide ((k : Int) < 200) = true := by simp; omega
        obtain ⟨b, off, rfl, hc⟩ := hs.nth hlt
        obtain ⟨q0, q1, q2, q3, q4, q5, q6⟩ := hc
        have HX := Lib.hid (fun (h : ds[k].Text.size ≤ 100) => show ∀ i (hi : i < ds.length), i < k + 1 → ds[i].Text.size ≤ 100 from fun i hi hik => by
          by_cases e : i < k
          · exact HP.out i hi e
          · obtain rfl : i = k := by omega
            exact h)
        generalize ds[k] = d at *
        have hlt' : (k : Int) < ds.length := by omega
        by_cases hz : 100 < d.Text.size
        · have hzB : decide (100 < (d.Text.size : Int)) = true := by simp; omega
          clear HX HP
          go_wp2
          go_ret
          exact ⟨true, rfl, rfl, fun h => by cases h⟩
        · have hzB : decide (100 < (d.Text.size : Int)) = false := by simp; omega
          have HX2 := Lib.hid (HX.out (by omega))
          clear HX HP
          go_wp2
          go_round
          case rel => exact ⟨k + 1, by omega, by omega, by go_num, HX2⟩
          case measure => simp [intOf]; omega
      · have h2B : decide ((k : Int) < 200) = false := by simp; omega
        have hbig : decide (150 < (ds.length : Int)) = true := by simp; omega
        clear HP
        go_wp2
        go_ret
        exact ⟨true, by simp, rfl, fun h => by cases h⟩
    · obtain rfl : k = ds.length := by omega
      have hltB : decide ((ds.length : Int) < ds.length) = false := by simp
      go_wp2
      go_ret
      refine ⟨_, rfl, rfl, fun h => ⟨by simp at h; omega, fun d hd => ?_⟩⟩
      obtain ⟨i, hi, rfl⟩ := List.getElem_of_mem hd
      exact HP.out i hi hi

set_option maxRecDepth 100000 in
set_option maxHeartbeats 2000000 in
theorem FoldDoes_c (a : Option Addr) (cap : Nat) (l : List Ch) (d : Dd) (number : Int) (aq : Option Addr) (capq : Nat) (ds : List Dd) (w : World) (hs : SlCh w a cap l) (hok : (∀ c ∈ l, c.ok) ∧ (a = none → cap = 0)) (hd : d.ok) (_ : i64ok number) (hq : SlDd w aq capq ds) (hqk : ∀ d ∈ ds, d.ok) :
    Calls Try.prog 10 #[.slice a l.length cap, .agg #[.int .i64 d.Kind, .int .i64 d.By, .int .i64 d.No, .int .i64 d.Seen, .int .i64 d.At, .int .i64 d.Many, .string d.Text], .int .i64 number, .slice aq ds.length capq] w fun e w' => e = .returned (.bool true) ∧ Below w.heap.size w w' := by
  have HG := Lib.hid (fun c hc => (hok.1 c hc).2.2.2.2.2.2)
  have HN := Lib.hid hok.2; clear hok
  have HMN := Lib.hid hd.2.2.2.2.2.1; clear hd
  have HQK := Lib.hid hqk; clear hqk
  have hb0 := (Below.refl w.heap.size w).alloc (Nat.le_refl _) (.cells #[.int .i64 d.Kind, .int .i64 d.By, .int .i64 d.No, .int .i64 d.Seen, .int .i64 d.At, .int .i64 d.Many, .string d.Text] 54)
  have hd0 := DdAt.new w d
  have hs0 := hs.below hb0
  have hq0 := hq.below hb0
  clear hs hq
  go_enter Try.func10, Try.ntmps10
  go_upto_region 1 with fail
  generalize hw0 : w.alloc (.cells #[.int .i64 d.Kind, .int .i64 d.By, .int .i64 d.No, .int .i64 d.Seen, .int .i64 d.At, .int .i64 d.Many, .string d.Text] 54) = w0 at *
  clear hw0
  go_wp2_with fail
  refine (foldBegun_c _).mono ?_
  rintro e w1 ⟨rfl, hb1⟩
  have hs1 := hs0.below hb1
  have hq1 := hq0.below hb1
  have hd1 := hd0.later hb1
  have hx1 := hb0.trans (hb1.mono hb0.size)
  clear hs0 hd0 hb0 hb1 hq0
  obtain ⟨dl, d0, d1, d2, d3, d4, d5, d6⟩ := hd1
  have hd1 : DdAt w1 w.heap.size d := ⟨dl, d0, d1, d2, d3, d4, d5, d6⟩
  by_cases hbig : 300 < l.length
  · clear hd1 d0 d2 d3 d4 d5
    go_wp2
    go_ret
    exact ⟨rfl, hx1⟩
  have hd300 : decide (300 < (l.length : Int)) = false := by simp; omega
  by_cases ht : 100 < d.Text.size
  · have hd100 : decide (100 < (d.Text.size : Int)) = true := by simp; omega
    clear hd1 d0 d2 d3 d4 d5
    go_wp2
    go_ret
    exact ⟨rfl, hx1⟩
  have hd100 : decide (100 < (d.Text.size : Int)) = false := by simp; omega
  have hlen : l.length ≤ 300 := by omega
  have htx : d.Text.size ≤ 100 := by omega
  have HTX := Lib.hid (show d.Text.size ≤ maxLen by unfold maxLen; omega)
  clear hbig ht
  go_wp2_with fail
  refine (greatDeeds_c aq capq ds _ hq1).mono ?_
  rintro e w2 ⟨r, rfl, rfl, hr⟩
  cases r
  case true =>
    clear hr
    go_wp2
    go_ret
    exact ⟨rfl, hx1⟩
  obtain ⟨hq150, hq100⟩ := hr rfl
  have HQT := Lib.hid (show ∀ x ∈ ds, x.Text.size ≤ maxLen from fun x hx => by have := hq100 x hx; unfold maxLen; omega)
  clear hr hq100
  go_wp2_with fail
  refine (Own_c a cap l _ hs1 (by omega)).mono ?_
  rintro e w3 ⟨ao, capo, rfl, ho3, hb3⟩
  have hs3 := hs1.below hb3
  have hq3 := hq1.below hb3
  have HD3 := Lib.hid (hd1.later hb3)
  have HO3 := Lib.hid ho3
  have hx3 := hx1.trans (hb3.mono hx1.size)
  clear hs1 hq1 hd1 d0 d1 d2 d3 d4 d5 d6 dl hb3 hx1 ho3
  obtain ⟨dl, d0, d1, d2, d3, d4, d5, d6⟩ := HD3.out
  go_wp2_with fail
  refine (Do_c ao capo l d number _ HO3.out.slCh HO3.out.nilcap (by omega) HTX.out HMN.out HG.out).mono ?_
  rintro e w4 ⟨ax, capx, rfl, hox, hb4⟩
  have hs4 := hs3.below hb4
  have hq4 := hq3.below hb4
  have HD4 := Lib.hid (HD3.out.later hb4)
  have HO4 := Lib.hid (HO3.out.below hb4)
  have HX4 := Lib.hid hox.slCh
  have hx4 := hx3.trans (hb4.mono hx3.size)
  clear hs3 hq3 HD3 HO3 d0 d1 d2 d3 d4 d5 d6 dl hb4 hx3 hox
  obtain ⟨dl, d0, d1, d2, d3, d4, d5, d6⟩ := HD4.out
  go_wp2_with fail
  refine (RDo_c a cap l d number _ hs4 HN.out (by omega) HTX.out HG.out).mono ?_
  rintro e w5 ⟨ay, capy, rfl, hoy, hb5⟩
  have hs5 := hs4.below hb5
  have hq5 := hq4.below hb5
  have HD5 := Lib.hid (HD4.out.later hb5)
  have HO5 := Lib.hid (HO4.out.below hb5)
  have HX5 := Lib.hid (HX4.out.below hb5)
  have HY5 := Lib.hid hoy.slCh
  have hx5 := hx4.trans (hb5.mono hx4.size)
  clear hs4 hq4 HD4 HO4 HX4 d0 d1 d2 d3 d4 d5 d6 dl hb5 hx4 hoy
  obtain ⟨X, hX⟩ : ∃ X, X = (doF l d number).1 := ⟨_, rfl⟩
  obtain ⟨NX, hNX⟩ : ∃ NX, NX = (doF l d number).1.length := ⟨_, rfl⟩
  rw [← hNX]
  rw [← hX] at hNX HX5 HY5
  have HNX := Lib.hid hNX.symm
  generalize (doF l d number).2 = cx
  clear hX hNX
  go_wp2_with fail
  refine (All_c aq capq ds _ hq5 (fun x hx => ⟨HQT.out x hx, (HQK.out x hx).2.2.2.2.2.1⟩) (by omega)).mono ?_
  rintro e w6 ⟨au, capu, rfl, hou, hb6⟩
  have hs6 := hs5.below hb6
  have hq6 := hq5.below hb6
  have HD6 := Lib.hid (HD5.out.later hb6)
  have HO6 := Lib.hid (HO5.out.below hb6)
  have HX6 := Lib.hid (HX5.out.below hb6)
  have HY6 := Lib.hid (HY5.out.below hb6)
  have HU6 := Lib.hid hou.slCh
  have hx6 := hx5.trans (hb6.mono hx5.size)
  clear hs5 hq5 HD5 HO5 HX5 HY5 hb6 hx5 hou
  obtain ⟨U, hU⟩ : ∃ U, U = (allF ds).1 := ⟨_, rfl⟩
  obtain ⟨NU, hNU⟩ : ∃ NU, NU = (allF ds).1.length := ⟨_, rfl⟩
  obtain ⟨f1, hf1⟩ : ∃ f1, f1 = (allF ds).2.1 := ⟨_, rfl⟩
  obtain ⟨f2, hf2⟩ : ∃ f2, f2 = (allF ds).2.2 := ⟨_, rfl⟩
  rw [← hNU, ← hf1, ← hf2]
  rw [← hU] at HU6
  have HNU := Lib.hid (show U.length = NU by rw [hU, hNU])
  have HAll := Lib.hid (show ∀ W, SlDd W aq capq ds → Calls Try.prog 50 #[.slice aq ds.length capq] W fun e w' => ∃ a' cap', e = .returned (.tuple #[.slice a' NU cap', .agg #[.int .i64 f1, .int .i64 f2]]) ∧ SlCh w' a' cap' U ∧ Below W.heap.size W w' from fun W h => by
    refine (RAll_c aq capq ds W h (fun x hx => HQT.out x hx) (by omega)).mono ?_
    rintro e w' ⟨a', cap', rfl, ho, hb⟩
    exact ⟨a', cap', by rw [hNU, hf1, hf2], by rw [hU]; exact ho.slCh, hb⟩)
  clear hU hNU hf1 hf2
  have hb7 := (Below.refl w6.heap.size w6).alloc (Nat.le_refl _) (.cells #[.int .i64 f1, .int .i64 f2] 60)
  have HF7 := Lib.hid (show (w6.alloc (.cells #[.int .i64 f1, .int .i64 f2] 60)).cell? ⟨w6.heap.size, 0, none⟩ = some (.int .i64 f1) ∧ (w6.alloc (.cells #[.int .i64 f1, .int .i64 f2] 60)).cell? ⟨w6.heap.size, 1, none⟩ = some (.int .i64 f2) from ⟨by simp, by simp⟩)
  have hlt7 : w6.heap.size < (w6.alloc (.cells #[.int .i64 f1, .int .i64 f2] 60)).heap.size := by simp
  go_upto_region 9 with fail
  generalize w6.alloc _ = w7 at *
  obtain ⟨G1, hG1⟩ : ∃ G1, G1 = w6.heap.size := ⟨_, rfl⟩
  rw [← hG1] at HF7 hlt7 ⊢
  clear hG1
  have hs7 := hs6.below hb7
  have hq7 := hq6.below hb7
  have HD7 := Lib.hid (HD6.out.later hb7)
  have HO7 := Lib.hid (HO6.out.below hb7)
  have HX7 := Lib.hid (HX6.out.below hb7)
  have HY7 := Lib.hid (HY6.out.below hb7)
  have HU7 := Lib.hid (HU6.out.below hb7)
  have hx7 := hx6.trans (hb7.mono hx6.size)
  clear hs6 hq6 HD6 HO6 HX6 HY6 HU6 hb7 hx6
  go_wp2_with fail
  refine (HAll.out _ hq7).mono ?_
  rintro e w8 ⟨av, capv, rfl, hov, hb8⟩
  have hs8 := hs7.below hb8
  have HD8 := Lib.hid (HD7.out.later hb8)
  have HO8 := Lib.hid (HO7.out.below hb8)
  have HX8 := Lib.hid (HX7.out.below hb8)
  have HY8 := Lib.hid (HY7.out.below hb8)
  have HU8 := Lib.hid (HU7.out.below hb8)
  have HV8 := Lib.hid hov
  have hlt8 : G1 < w8.heap.size := Nat.lt_of_lt_of_le hlt7 hb8.size
  have HF8 := Lib.hid (show w8.cell? ⟨G1, 0, none⟩ = some (.int .i64 f1) ∧ w8.cell? ⟨G1, 1, none⟩ = some (.int .i64 f2) from ⟨(hb8.cell (p := ⟨G1, 0, none⟩) hlt7).trans HF7.out.1, (hb8.cell (p := ⟨G1, 1, none⟩) hlt7).trans HF7.out.2⟩)
  have hx8 := hx7.trans (hb8.mono hx7.size)
  clear hs7 hq7 HD7 HO7 HX7 HY7 HU7 HF7 hb8 hx7 hov hlt7
  have hb9 := (Below.refl w8.heap.size w8).alloc (Nat.le_refl _) (.cells #[.int .i64 f1, .int .i64 f2] 60)
  have HH9 := Lib.hid (show (w8.alloc (.cells #[.int .i64 f1, .int .i64 f2] 60)).cell? ⟨w8.heap.size, 0, none⟩ = some (.int .i64 f1) ∧ (w8.alloc (.cells #[.int .i64 f1, .int .i64 f2] 60)).cell? ⟨w8.heap.size, 1, none⟩ = some (.int .i64 f2) from ⟨by simp, by simp⟩)
  go_upto_region 10 with fail
  generalize w8.alloc _ = w9 at *
  obtain ⟨G2, hG2⟩ : ∃ G2, G2 = w8.heap.size := ⟨_, rfl⟩
  rw [← hG2] at HH9 ⊢
  clear hG2
  have hs9 := hs8.below hb9
  have HD9 := Lib.hid (HD8.out.later hb9)
  have HO := Lib.hid (HO8.out.slCh.below hb9)
  have HX := Lib.hid (HX8.out.below hb9)
  have HY := Lib.hid (HY8.out.below hb9)
  have HU := Lib.hid (HU8.out.below hb9)
  have HV := Lib.hid (HV8.out.below hb9)
  have HF9 := Lib.hid (show w9.cell? ⟨G1, 0, none⟩ = some (.int .i64 f1) ∧ w9.cell? ⟨G1, 1, none⟩ = some (.int .i64 f2) from ⟨(hb9.cell (p := ⟨G1, 0, none⟩) hlt8).trans HF8.out.1, (hb9.cell (p := ⟨G1, 1, none⟩) hlt8).trans HF8.out.2⟩)
  have hx9 := hx8.trans (hb9.mono hx8.size)
  clear hs8 HD8 HO8 HX8 HY8 HU8 HV8 HF8 hb9 hx8 hlt8
  obtain ⟨S, hS⟩ : ∃ S, S = strOfNums (textF l) := ⟨_, rfl⟩
  have HT1 := Lib.hid (fun W (h : SlCh W a cap l) => show Calls Try.prog 53 #[.slice a l.length cap] W fun e w' => e = .returned (.string S) ∧ Below W.heap.size W w' by rw [hS]; exact Text_c a cap l W h (by omega))
  have HT2 := Lib.hid (fun W (h : SlCh W a cap l) => show Calls Try.prog 54 #[.slice a l.length cap] W fun e w' => e = .returned (.string S) ∧ Below W.heap.size W w' by rw [hS]; exact RTextOf_c a cap l W h HG.out)
  clear hS
  have hL : ∀ q : Lt w9, Later w9 q.v := fun q => q.h
  obtain ⟨dl, d0, d1, d2, d3, d4, d5, d6⟩ := HD9.out
  have r0 := later_cell d0
  have r1 := later_cell d1
  have r2 := later_cell d2
  have r3 := later_cell d3
  have r4 := later_cell d4
  have r5 := later_cell d5
  have r6 := later_cell d6
  have g0 := later_cell HF9.out.1
  have g1 := later_cell HF9.out.2
  have g2 := later_cell HH9.out.1
  have g3 := later_cell HH9.out.2
  have hgf := guard_Fault
  have hef := eql_Fault f1 f2
  have hL' : ∀ q : Lt w9, Later w9 q.v := fun q => q.h
  clear d0 d1 d2 d3 d4 d5 d6
  refine wp_region_mix [42, 45] [0, 1, 2, 3, 4, 5, 6, 7, 8, 9, 10, 11, 12, 13, 14, 15, 16, 17, 18, 19, 20, 21, 22, 23, 24, 25, 26, 27, 28, 29, 30, 31, 32, 33, 34, 35, 36, 37, 38, 39, 40, 41, 43, 44, 42, 45, 46, 47, 48] (by kernel_rfl) (by kernel_rfl) ?_
  repeat (refine wpMix_step rfl (fun K hK => ?_); go_simp; first | (refine hK _ _ ?_; clear hK K) | (apply Exists.intro; refine ⟨?_, hK _ _ ?_⟩; (focus (intro p; (have hLp := hL p; first | (go_at_call 51; exact quietM p (May_c ao capo l d _ (HO.out.below hLp) (by omega) HTX.out HMN.out)) | (go_at_call 52; exact quietM p (MayDo_c a cap l d _ (hs9.below hLp) (by omega) HTX.out HG.out)) | (go_at_call_of 22 NX; exact quietM p (Same_t ax ay capx capy X NX HNX.out _ (HX.out.below hLp) (HY.out.below hLp))) | (go_at_call_of 22 NU; exact quietM p (Same_t au av capu capv U NU HNU.out _ (HU.out.below hLp) (HV.out.below hLp))) | (go_at_call_of 22 l; exact quietM p (Same_t ao a capo cap l _ rfl _ (HO.out.below hLp) (hs9.below hLp))) | (go_at_call 53; exact quietM p (HT1.out _ (hs9.below hLp))) | (go_at_call 54; exact quietM p (HT2.out _ (hs9.below hLp)))))); clear hK K))
  refine wpMix_step rfl (fun K hK => ?_)
  go_simp
  intro p
  refine (New_c d number _ (by omega)).mono ?_
  rintro e w10 ⟨am, capm, rfl, hom, hb10⟩
  refine ⟨_, rfl, hb10, hK _ _ ?_⟩
  clear hK K
  have hl10 : Later w9 w10 := (hL p).trans hb10
  have HM1 := Lib.hid hom.slCh
  clear hom hb10 p hL hL'
  refine wpMix_step rfl (fun K hK => ?_)
  go_simp
  intro p
  refine (BytesOf_c d number _ (by omega)).mono ?_
  rintro e w11 ⟨an, capn, rfl, hon, hb11⟩
  refine ⟨_, rfl, hb11, hK _ _ ?_⟩
  clear hK K
  have HM9 := Lib.hid (HM1.out.below (p.h.trans hb11))
  have HN9 := Lib.hid hon.slCh
  have hl11 : Later w9 w11 := (hl10.trans p.h).trans hb11
  clear hon hb11 p HM1 hl10
  have HL11 := Lib.hid hl11; clear hl11
  have hL : ∀ q : Lt w11, Later w11 q.v := fun q => q.h
  obtain ⟨NW, hNW⟩ : ∃ NW, NW = (newOf d number).length := ⟨_, rfl⟩
  obtain ⟨W9, hW9⟩ : ∃ W9, W9 = newOf d number := ⟨_, rfl⟩
  rw [← hNW]
  rw [← hW9] at hNW HM9 HN9
  have HNW := Lib.hid hNW.symm
  clear hNW hW9
  repeat (refine wpMix_step rfl (fun K hK => ?_); go_simp; first | (refine hK _ _ ?_; clear hK K) | (apply Exists.intro; refine ⟨?_, hK _ _ ?_⟩; (focus (intro p; (have hLp := hL p; (go_at_call 22; exact quietM p (Same_t am an capm capn W9 NW HNW.out _ (HM9.out.below hLp) (HN9.out.below hLp)))))); clear hK K))
  refine wpMix_nil ?_
  intro w12 hL12
  have hl12 : Later w9 w12 := HL11.out.trans hL12
  have HE := Lib.hid (hx9.trans (Below.mono hl12 hx9.size))
  clear hL hl12 hL12
  go_wp2
  go_ret
  exact ⟨rfl, HE.out⟩
end Go.Proofs.Ytneoeokfffnonaa
