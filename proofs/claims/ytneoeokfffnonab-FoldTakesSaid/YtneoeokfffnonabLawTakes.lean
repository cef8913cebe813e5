/- The walk of the law FoldTakes. -/
import Derived.Test.YtneoeokfffnonabFoBegun
import Derived.Test.YtneoeokfffnonabFoldL2
namespace Go.Proofs.Ytneoeokfffnonab
open Go.RowKit

theorem takes_b (l : List Ch) (d e : Dd) (hd : (d.Kind != 2) = false) (he : (e.Kind != 2) = false) (hne : (d.By == e.By) = false) (h1 : (doF l d 121).2 = 0) (h2 : (doF l e 121).2 = 0) :
    (doF (doF l d 121).1 e 122).2 = 0 ∧ (doF (doF l e 121).1 d 122).2 = 0 ∧ viewN 122 (-1) (doF (doF l d 121).1 e 122).1 = viewN 122 (-1) (doF (doF l e 121).1 d 122).1 :=
  takes l d e (by simpa using hd) (by simpa using he) (by simpa using hne) h1 h2

theorem Do_r (a : Option Addr) (cap : Nat) (l : List Ch) (d : Dd) (number : Int) (R : List Ch × Int) (hR : doF l d number = R) (w : World) (hs : SlCh w a cap l) (hnil : a = none → cap = 0) (hsz : l.length * 56 ≤ 140737488355328) (ht : d.Text.size ≤ maxLen) (hm : i64ok d.Many) (hG : ∀ c ∈ l, i64ok c.Gone) :
    Calls Try.prog 18 #[.slice a l.length cap, .agg #[.int .i64 d.Kind, .int .i64 d.By, .int .i64 d.No, .int .i64 d.Seen, .int .i64 d.At, .int .i64 d.Many, .string d.Text], .int .i64 number] w fun e w' => ∃ a' cap', e = .returned (.tuple #[.slice a' R.1.length cap', .int .i64 R.2]) ∧
      SlCh w' a' cap' R.1 ∧ (a' = none → cap' = 0) ∧ Below w.heap.size w w' := by
  subst hR
  exact (Do_c a cap l d number w hs hnil hsz ht hm hG).mono fun _ _ ⟨a', cap', he, ho, hb⟩ => ⟨a', cap', he, ho.slCh, ho.nilcap, hb⟩

set_option maxRecDepth 100000 in
set_option maxHeartbeats 2000000 in
theorem FoldTakes_c (a : Option Addr) (cap : Nat) (l : List Ch) (d e : Dd) (w : World) (hs : SlCh w a cap l) (hok : (∀ c ∈ l, c.ok) ∧ (a = none → cap = 0)) (hd : d.ok) (he : e.ok) :
    Calls Try.prog 4 #[.slice a l.length cap, .agg #[.int .i64 d.Kind, .int .i64 d.By, .int .i64 d.No, .int .i64 d.Seen, .int .i64 d.At, .int .i64 d.Many, .string d.Text], .agg #[.int .i64 e.Kind, .int .i64 e.By, .int .i64 e.No, .int .i64 e.Seen, .int .i64 e.At, .int .i64 e.Many, .string e.Text]] w fun e w' => e = .returned (.bool true) ∧ Below w.heap.size w w' := by
  have hG := fun c hc => (hok.1 c hc).2.2.2.2.2.2
  have HN := Lib.hid hok.2; clear hok
  have HTD := Lib.hid hd.2.2.2.2.2.2; have HTE := Lib.hid he.2.2.2.2.2.2
  have HMD := Lib.hid hd.2.2.2.2.2.1; have HME := Lib.hid he.2.2.2.2.2.1; clear hd he
  have HG := Lib.hid hG
  have HG1 := Lib.hid (doF_gone l d 121 hG)
  have HG2 := Lib.hid (doF_gone l e 121 hG); clear hG
  have hb0 := ((Below.refl w.heap.size w).alloc (Nat.le_refl _) (.cells #[.int .i64 d.Kind, .int .i64 d.By, .int .i64 d.No, .int .i64 d.Seen, .int .i64 d.At, .int .i64 d.Many, .string d.Text] 25)).alloc (by simp) (.cells #[.int .i64 e.Kind, .int .i64 e.By, .int .i64 e.No, .int .i64 e.Seen, .int .i64 e.At, .int .i64 e.Many, .string e.Text] 25)
  have hd0 := (DdAt.new w d).later ((Below.refl (w.alloc (.cells #[.int .i64 d.Kind, .int .i64 d.By, .int .i64 d.No, .int .i64 d.Seen, .int .i64 d.At, .int .i64 d.Many, .string d.Text] 25)).heap.size (w.alloc (.cells #[.int .i64 d.Kind, .int .i64 d.By, .int .i64 d.No, .int .i64 d.Seen, .int .i64 d.At, .int .i64 d.Many, .string d.Text] 25))).alloc (Nat.le_refl _) (.cells #[.int .i64 e.Kind, .int .i64 e.By, .int .i64 e.No, .int .i64 e.Seen, .int .i64 e.At, .int .i64 e.Many, .string e.Text] 25))
  have he0 := DdAt.new (w.alloc (.cells #[.int .i64 d.Kind, .int .i64 d.By, .int .i64 d.No, .int .i64 d.Seen, .int .i64 d.At, .int .i64 d.Many, .string d.Text] 25)) e
  have hs0 := hs.below hb0
  have hsz : (w.alloc (.cells #[.int .i64 d.Kind, .int .i64 d.By, .int .i64 d.No, .int .i64 d.Seen, .int .i64 d.At, .int .i64 d.Many, .string d.Text] 25)).heap.size = w.heap.size + 1 := by simp
  rw [hsz] at he0
  clear hs hsz
  go_enter Try.func4, Try.ntmps4
  go_upto_region 1 with fail
  generalize hw0 : (w.alloc (.cells #[.int .i64 d.Kind, .int .i64 d.By, .int .i64 d.No, .int .i64 d.Seen, .int .i64 d.At, .int .i64 d.Many, .string d.Text] 25)).alloc (.cells #[.int .i64 e.Kind, .int .i64 e.By, .int .i64 e.No, .int .i64 e.Seen, .int .i64 e.At, .int .i64 e.Many, .string e.Text] 25) = w0 at *
  clear hw0
  go_wp2_with fail
  refine (foldBegun_c _).mono ?_
  rintro e' w1 ⟨rfl, hb1⟩
  have hs1 := hs0.below hb1
  have hd1 := hd0.later hb1
  have he1 := he0.later hb1
  have hx1 := hb0.trans (hb1.mono hb0.size)
  clear hs0 hd0 hb0 hb1 he0
  obtain ⟨dl, d0, d1, d2, d3, d4, d5, d6⟩ := hd1
  have hd1 : DdAt w1 w.heap.size d := ⟨dl, d0, d1, d2, d3, d4, d5, d6⟩
  obtain ⟨el, e0, e1, e2, e3, e4, e5, e6⟩ := he1
  have he1 : DdAt w1 (w.heap.size + 1) e := ⟨el, e0, e1, e2, e3, e4, e5, e6⟩
  have HD1 := Lib.hid hd1
  have HE1 := Lib.hid he1
  clear hd1 he1
  by_cases hbig : 300 < l.length
  · clear d2 d3 d4 d5 d6 e2 e3 e4 e5 e6
    go_wp2
    go_ret
    exact ⟨rfl, hx1⟩
  have hd300 : decide (300 < (l.length : Int)) = false := by simp; omega
  cases hk1 : (d.Kind != 2)
  case true =>
    clear d2 d3 d4 d5 d6 e2 e3 e4 e5 e6
    go_wp2
    go_ret
    exact ⟨rfl, hx1⟩
  cases hk2 : (e.Kind != 2)
  case true =>
    clear d2 d3 d4 d5 d6 e2 e3 e4 e5 e6
    go_wp2
    go_ret
    exact ⟨rfl, hx1⟩
  cases hby : d.By == e.By
  case true =>
    clear d2 d3 d4 d5 d6 e2 e3 e4 e5 e6
    go_wp2
    go_ret
    exact ⟨rfl, hx1⟩
  have hlen : l.length ≤ 300 := by omega
  have HT := Lib.hid (takes_b l d e hk1 hk2 hby)
  have hl1 := doF_len l d 121
  have hl2 := doF_len l e 121
  obtain ⟨R1, hR1⟩ : ∃ R, doF l d 121 = R := ⟨_, rfl⟩
  obtain ⟨R2, hR2⟩ : ∃ R, doF l e 121 = R := ⟨_, rfl⟩
  have hl3 := doF_len R1.1 e 122
  have hl4 := doF_len R2.1 d 122
  rw [hR1] at HT HG1 hl1
  rw [hR2] at HT HG2 hl2
  obtain ⟨R3, hR3⟩ : ∃ R, doF R1.1 e 122 = R := ⟨_, rfl⟩
  obtain ⟨R4, hR4⟩ : ∃ R, doF R2.1 d 122 = R := ⟨_, rfl⟩
  rw [hR3] at HT hl3
  rw [hR4] at HT hl4
  obtain ⟨L1, c1⟩ := R1
  obtain ⟨L2, c2⟩ := R2
  obtain ⟨L3, c3⟩ := R3
  obtain ⟨L4, c4⟩ := R4
  simp only at *
  have H1 := Lib.hid hR1; have H2 := Lib.hid hR2; have H3 := Lib.hid hR3; have H4 := Lib.hid hR4
  clear hbig hR1 hR2 hR3 hR4
  go_wp2_with fail
  refine (Do_r a cap l d 121 _ H1.out _ hs1 HN.out (by omega) HTD.out HMD.out HG.out).mono ?_
  rintro e' w2 ⟨a2, cap2, rfl, ht2, hn2, hb2⟩
  have hs2 := hs1.below hb2
  have HD2 := Lib.hid (HD1.out.later hb2)
  have HE2 := Lib.hid (HE1.out.later hb2)
  have hx2 := hx1.trans (hb2.mono hx1.size)
  have HN2 := Lib.hid hn2
  clear hs1 hx1 hb2 d0 d1 d2 d3 d4 d5 d6 dl e0 e1 e2 e3 e4 e5 e6 el hn2 HD1 HE1
  obtain ⟨el, e0, e1, e2, e3, e4, e5, e6⟩ := HE2.out
  go_wp2_with fail
  refine (Do_r a cap l e 121 _ H2.out _ hs2 HN.out (by omega) HTE.out HME.out HG.out).mono ?_
  rintro e' w3 ⟨a3, cap3, rfl, ht3, hn3, hb3⟩
  have ht23 := ht2.below hb3
  have HD3 := Lib.hid (HD2.out.later hb3)
  have HE3 := Lib.hid (HE2.out.later hb3)
  have hx3 := hx2.trans (hb3.mono hx2.size)
  have HN3 := Lib.hid hn3
  clear hs2 hx2 hb3 e0 e1 e2 e3 e4 e5 e6 el hn3 HD2 HE2 ht2
  by_cases h1 : c1 = 0
  case neg =>
    have hne : (c1 != 0) = true := by simpa using h1
    clear h1
    go_wp2
    go_ret
    exact ⟨rfl, hx3⟩
  by_cases h2 : c2 = 0
  case neg =>
    have hne : (c2 != 0) = true := by simpa using h2
    subst h1
    clear h2
    go_wp2
    go_ret
    exact ⟨rfl, hx3⟩
  subst h1
  subst h2
  obtain ⟨r3, r4, hv⟩ := HT.out rfl rfl
  subst r3
  subst r4
  have HV := Lib.hid hv
  clear hv HT
  obtain ⟨el, e0, e1, e2, e3, e4, e5, e6⟩ := HE3.out
  go_wp2_with fail
  refine (Do_r a2 cap2 L1 e 122 _ H3.out _ ht23 HN2.out (by omega) HTE.out HME.out HG1.out).mono ?_
  rintro e' w4 ⟨a4, cap4, rfl, ht4, hn4, hb4⟩
  have ht34 := ht3.below hb4
  have HD4 := Lib.hid (HD3.out.later hb4)
  have hx4 := hx3.trans (hb4.mono hx3.size)
  clear hx3 hb4 e0 e1 e2 e3 e4 e5 e6 el hn4 HD3 HE3 ht3 ht23
  obtain ⟨dl, d0, d1, d2, d3, d4, d5, d6⟩ := HD4.out
  go_wp2_with fail
  refine (Do_r a3 cap3 L2 d 122 _ H4.out _ ht34 HN3.out (by omega) HTD.out HMD.out HG2.out).mono ?_
  rintro e' w5 ⟨a5, cap5, rfl, ht5, hn5, hb5⟩
  have ht45 := ht4.below hb5
  have hx5 := hx4.trans (hb5.mono hx4.size)
  clear hx4 hb5 d0 d1 d2 d3 d4 d5 d6 dl hn5 HD4 ht4 ht34
  obtain ⟨S, hS⟩ : ∃ S, S = strOfNums (viewN 122 (-1) L4) := ⟨_, rfl⟩
  have HS := Lib.hid hS; clear hS
  obtain ⟨m, hm1⟩ : ∃ m, m = (viewN 122 (-1) L4).length := ⟨_, rfl⟩
  have HM := Lib.hid hm1; clear hm1
  have hL : ∀ q : Lt w5, Later w5 q.v := fun q => q.h
  go_upto_region 12 with fail
  refine wp_region_mix [10, 15] [0, 1, 2, 3, 4, 5, 6, 7, 8, 9, 12, 13, 14, 10, 11, 15, 16, 17, 18, 19] (by kernel_rfl) (by kernel_rfl) ?_
  iterate 13 (refine wpMix_step rfl (fun K hK => ?_); go_simp; refine hK _ _ ?_; clear hK K)
  refine wpMix_step rfl (fun K hK => ?_)
  go_simp
  intro p
  refine (View_n a4 cap4 L3 _ rfl _ _ _ HV.out m HM.out.symm _ (ht45.below (hL p)) (by omega)).mono ?_
  rintro e' w6 ⟨a6, cap6, rfl, ho, hb6⟩
  refine ⟨_, rfl, hb6, hK _ _ ?_⟩
  clear hK K
  have hl6 : Later w5 w6 := (hL p).trans hb6
  clear hL hb6
  have hcv : ∀ q : Lt w6, Sem.run Try.prog (convert 37 9 (.slice a6 m cap6)) q.v = .ok (.string S) q.v := fun q => conv_view (ho.below q.h) S HS.out.symm
  clear ho
  have hL : ∀ q : Lt w6, Later w5 q.v := fun q => hl6.trans q.h
  iterate 1 (refine wpMix_step rfl (fun K hK => ?_); go_simp; refine hK _ _ ?_; clear hK K)
  refine wpMix_step rfl (fun K hK => ?_)
  go_simp
  intro p
  refine (View_n a5 cap5 L4 _ rfl _ _ _ rfl m HM.out.symm _ (ht5.below (hL p)) (by omega)).mono ?_
  rintro e' w7 ⟨a7, cap7, rfl, ho, hb7⟩
  refine ⟨_, rfl, hb7, hK _ _ ?_⟩
  clear hK K hcv
  have hl7 : Later w5 w7 := (hL p).trans hb7
  clear hL hb7
  have hcv : ∀ q : Lt w7, Sem.run Try.prog (convert 37 9 (.slice a7 m cap7)) q.v = .ok (.string S) q.v := fun q => conv_view (ho.below q.h) S HS.out.symm
  clear ho
  repeat (refine wpMix_step rfl (fun K hK => ?_); go_simp; refine hK _ _ ?_; clear hK K)
  refine wpMix_nil ?_
  intro w8 hL8
  have hl8 : Later w5 w8 := hl7.trans hL8
  have HX := Lib.hid (hx5.trans (Below.mono hl8 hx5.size))
  clear hL8 hl8 hl7 hl6 hcv
  go_wp2
  go_ret
  exact ⟨rfl, HX.out⟩
end Go.Proofs.Ytneoeokfffnonab
