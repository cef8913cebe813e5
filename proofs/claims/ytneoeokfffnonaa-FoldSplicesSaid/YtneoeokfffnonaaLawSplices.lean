/- The walk of the law FoldSplices. -/
import Derived.Test.YtneoeokfffnonaaFoBegun
import Derived.Test.YtneoeokfffnonaaFoldL
import Derived.Test.YtneoeokfffnonaaStrP
namespace Go.Proofs.Ytneoeokfffnonaa
open Go.RowKit

theorem View_u (a : Option Addr) (cap : Nat) (l : List Ch) (seen by_ : Int) (w : World) (hs : SlCh w a cap l) (hsz : l.length ≤ 140737488355328) :
    Calls Try.prog 33 #[.slice a l.length cap, .int .i64 seen, .int .i64 by_] w fun e w' => ∃ a' cap', e = .returned (.slice a' (vis seen by_ l).length cap') ∧
      Sem.run Try.prog (convert 45 9 (.slice a' (vis seen by_ l).length cap')) w' = .ok (.string (strOfNums (viewN seen by_ l))) w' ∧ Below w.heap.size w w' :=
  (View_c a cap l seen by_ w hs hsz).mono fun _ _ ⟨a', cap', he, ho, hb⟩ => ⟨a', cap', he, run_convert_row (P := Try.prog) ho 45 Try.underlying45 Try.underlying5 9 Try.underlying9, hb⟩

set_option maxRecDepth 100000 in
set_option maxHeartbeats 2000000 in
theorem FoldSplices_c (a : Option Addr) (cap : Nat) (l : List Ch) (d : Dd) (number : Int) (w : World) (hs : SlCh w a cap l) (hok : (∀ c ∈ l, c.ok) ∧ (a = none → cap = 0)) (hd : d.ok) (_ : i64ok number) :
    Calls Try.prog 11 #[.slice a l.length cap, .agg #[.int .i64 d.Kind, .int .i64 d.By, .int .i64 d.No, .int .i64 d.Seen, .int .i64 d.At, .int .i64 d.Many, .string d.Text], .int .i64 number] w fun e w' => e = .returned (.bool true) ∧ Below w.heap.size w w' := by
  have HG := Lib.hid (fun c hc => (hok.1 c hc).2.2.2.2.2.2)
  have HN := Lib.hid hok.2; clear hok
  have HMN := Lib.hid hd.2.2.2.2.2.1; clear hd
  have hb0 := (Below.refl w.heap.size w).alloc (Nat.le_refl _) (.cells #[.int .i64 d.Kind, .int .i64 d.By, .int .i64 d.No, .int .i64 d.Seen, .int .i64 d.At, .int .i64 d.Many, .string d.Text] 54)
  have hd0 := DdAt.new w d
  have hs0 := hs.below hb0
  clear hs
  go_enter Try.func11, Try.ntmps11
  go_upto_region 1 with fail
  generalize hw0 : w.alloc (.cells #[.int .i64 d.Kind, .int .i64 d.By, .int .i64 d.No, .int .i64 d.Seen, .int .i64 d.At, .int .i64 d.Many, .string d.Text] 54) = w0 at *
  clear hw0
  go_wp2_with fail
  refine (foldBegun_c _).mono ?_
  rintro e w1 ⟨rfl, hb1⟩
  have hs1 := hs0.below hb1
  have hd1 := hd0.later hb1
  have hx1 := hb0.trans (hb1.mono hb0.size)
  clear hs0 hd0 hb0 hb1
  obtain ⟨dl, d0, d1, d2, d3, d4, d5, d6⟩ := hd1
  have hd1 : DdAt w1 w.heap.size d := ⟨dl, d0, d1, d2, d3, d4, d5, d6⟩
  by_cases hbig : 300 < l.length
  · clear hd1 d0 d2 d3 d4 d5
    go_wp2
    go_ret
    exact ⟨rfl, hx1⟩
  have hd300 : decide (300 < (l.length : Int)) = false := by simp; omega
  by_cases ht : 100 < d.Text.size
  · have hd100 : decide (100 < (d.Text.size : Int)) = true := by simp; omega
    clear hd1 d0 d2 d3 d4 d5
    go_wp2
    go_ret
    exact ⟨rfl, hx1⟩
  have hd100 : decide (100 < (d.Text.size : Int)) = false := by simp; omega
  have hlen : l.length ≤ 300 := by omega
  have htx : d.Text.size ≤ 100 := by omega
  clear hbig ht
  go_wp2_with fail
  refine (View_u a cap l d.Seen d.By _ hs1 (by omega)).mono ?_
  rintro e w2 ⟨a2, cap2, rfl, hcv2, hb2⟩
  have hs2 := hs1.below hb2
  have hd2 := hd1.later hb2
  have hx2 := hx1.trans (hb2.mono hx1.size)
  clear hs1 hd1 hx1 hb2 d0 d1 d2 d3 d4 d5 d6 dl
  obtain ⟨dl, d0, d1, d2, d3, d4, d5, d6⟩ := hd2
  have hd2 : DdAt w2 w.heap.size d := ⟨dl, d0, d1, d2, d3, d4, d5, d6⟩
  have hS1 : (strOfNums (viewN d.Seen d.By l)).size = (viewN d.Seen d.By l).length := strOfNums_size _
  have HSP := Lib.hid (splices l d number)
  have hvl := vis_le d.Seen d.By l
  rw [← viewN_length] at hvl hcv2
  rw [← viewN_length]
  generalize viewN d.Seen d.By l = V at *
  generalize hS : strOfNums V = S at *
  have HS := Lib.hid hS; clear hS
  go_wp2_with fail
  refine (Do_c a cap l d number _ hs2 HN.out (by omega) (by omega) HMN.out HG.out).mono ?_
  rintro e w3 ⟨a3, cap3, rfl, ho3, hb3⟩
  have hd3 := hd2.later hb3
  have hx3 := hx2.trans (hb3.mono hx2.size)
  have ht3 := ho3.slCh
  clear hs2 hd2 hx2 hb3 ho3 d0 d1 d2 d3 d4 d5 d6 dl hcv2
  have hRl := doF_len l d number
  have hR0 : (doF l d number).2 ≠ 0 → (doF l d number).1 = [] := by
    intro h
    rcases doF_cases l d number with ⟨h1, e⟩ | ⟨_, hn, e⟩ | ⟨h1, hn, hk, e⟩ | ⟨h1, hn, hk2, e⟩
    · rw [e]
    · rw [e]
    · rw [e] at h; exact absurd rfl h
    · rw [e] at h; exact absurd rfl h
  generalize doF l d number = R at *
  obtain ⟨L2, c2⟩ := R
  simp only at *
  by_cases h0 : c2 = 0
  case neg =>
    have hne : (c2 != 0) = true := by simpa using h0
    have hL2 := hR0 h0
    subst hL2
    clear h0 hR0 HSP
    go_wp2
    go_ret
    exact ⟨rfl, hx3⟩
  subst h0
  clear hR0
  obtain ⟨hA, hM, hAM, hcase⟩ := HSP.out rfl
  obtain ⟨dl, d0, d1, d2, d3, d4, d5, d6⟩ := hd3
  have hd3 : DdAt w3 w.heap.size d := ⟨dl, d0, d1, d2, d3, d4, d5, d6⟩
  have HCA := Lib.hid hcase; clear hcase HSP
  go_wp2_with fail
  refine (View_u a3 cap3 L2 d.Seen d.By _ ht3 (by omega)).mono ?_
  rintro e w4 ⟨a4, cap4, rfl, hcv4, hb4⟩
  have hd4 := hd3.later hb4
  have hx4 := hx3.trans (hb4.mono hx3.size)
  clear hd3 hx3 hb4 d0 d1 d2 d3 d4 d5 d6 dl ht3
  generalize viewN d.Seen d.By L2 = V2 at *
  generalize hT : strOfNums V2 = T2 at *
  have HT := Lib.hid hT; clear hT
  obtain ⟨dl, d0, d1, d2, d3, d4, d5, d6⟩ := hd4
  have hcmp : decide ((S.size : Int) < d.At) = false := by simp; omega
  rcases HCA.out with ⟨hk, hm0, hV⟩ | ⟨hk, hV⟩
  · have hkB : (d.Kind == 1) = true := by rw [hk]; rfl
    have HEQ := Lib.hid (show T2 = S.extract 0 d.At.toNat ++ d.Text ++ S.extract d.At.toNat V.length by rw [← HT.out, hV, splice_str, HS.out])
    clear hk hm0 hV HCA HT HS
    go_upto_region 13 with fail
    go_quiet (fail)
    go_wp2
    go_ret
    exact ⟨by rw [← HEQ.out]; simp, bl_drewN hx4 _⟩
  · have hkB : (d.Kind == 1) = false := by rw [hk]; rfl
    have HEQ := Lib.hid (show T2 = S.extract 0 d.At.toNat ++ S.extract (d.At + d.Many).toNat V.length by rw [← HT.out, hV, cut_str, HS.out])
    have hAM0 : 0 ≤ d.At + d.Many := by omega
    have hw : IntKind.i64.wrap (d.At + d.Many) = d.At + d.Many := by rw [IntKind.wrap_i64]; omega
    have hle : decide (d.At + d.Many ≤ (V.length : Int)) = true := by simpa using hAM
    clear hk hV HCA HT HS
    go_upto_region 14 with fail
    go_quiet (fail)
    go_wp2
    go_ret
    exact ⟨by rw [← HEQ.out]; simp, bl_drewN hx4 _⟩
end Go.Proofs.Ytneoeokfffnonaa
