/- The walk of the law FoldLists; greatDeeds; an array of four numbers. -/
import Derived.Test.YtneoeokfffnonabFoBegun
import Derived.Test.YtneoeokfffnonabFoldL3
import Derived.Test.YtneoeokfffnonabRefW
import Derived.Test.YtneoeokfffnonabCheckW
namespace Go.Proofs.Ytneoeokfffnonab
open Go.RowKit

/-- An array of four numbers at block A. -/
structure ArrI (w : World) (A : Nat) (f : Nat → Int) : Prop where
  lt : A < w.heap.size
  c : ∀ j, j < 4 → w.cell? ⟨A, j, none⟩ = some (.int .i64 (f j))
  fz : ∀ j, j < 4 → w.frozen? ⟨A, j, none⟩ = false
theorem ArrI.later {w w' : World} {A : Nat} {f : Nat → Int} (h : ArrI w A f) (hl : Below w.heap.size w w') : ArrI w' A f :=
  ⟨Nat.lt_of_lt_of_le h.lt hl.size, fun j hj => (hl.cell (p := ⟨A, j, none⟩) h.lt).trans (h.c j hj), fun j hj => (hl.frozen (p := ⟨A, j, none⟩) h.lt).trans (h.fz j hj)⟩
theorem ArrI.set {w : World} {A : Nat} {f : Nat → Int} (h : ArrI w A f) (i : Nat) (hi : i < 4) (v : Int) (g : Nat → Int) (hg : ∀ j, j < 4 → g j = if j = i then v else f j) : ArrI (w.setCell ⟨A, i, none⟩ (.int .i64 v)) A g := by
  refine ⟨by simpa using h.lt, fun j hj => ?_, fun j hj => by rw [World.frozen?_setCell]; exact h.fz j hj⟩
  rw [hg j hj]
  by_cases e : j = i
  · subst e; rw [if_pos rfl]; exact World.cell?_setCell_same _ _ _ (h.c j hj)
  · rw [if_neg e, World.cell?_setCell_other _ _ _ _ (fun h => e (by cases h; rfl))]; exact h.c j hj

/-- What greatDeeds tells. -/
def GreatD (ds : List Dd) (w : World) (e : Ending) (w' : World) : Prop := ∃ r, e = .returned (.bool r) ∧ w' = w ∧ (r = false → ds.length ≤ 150 ∧ ∀ d ∈ ds, d.Text.size ≤ 100)

theorem greatDeeds_c (a : Option Addr) (cap : Nat) (ds : List Dd) (w : World) (hs : SlDd w a cap ds) :
    Calls Try.prog 20 #[.slice a ds.length cap] w (GreatD ds w) := by
  have hm : ds.length ≤ maxLen := Nat.le_trans hs.1 hs.2.1
  unfold maxLen at hm
  go_enter Try.func20, Try.ntmps20
  go_wp2
  go_loop [3] (fun s3 => ∃ k : Nat, k ≤ ds.length ∧ k ≤ 200 ∧ s3 = .int .i64 k ∧ Hid (∀ i (h : i < ds.length), i < k → ds[i].Text.size ≤ 100)) (fun s3 => ds.length - (intOf s3).toNat)
  case atStart => exact ⟨0, Nat.zero_le _, by omega, rfl, Lib.hid (fun i h h2 => by omega)⟩
  case round =>
    obtain ⟨k, hk, hk2, rfl, HP⟩ := hrel
    by_cases hlt : k < ds.length
    · have hltB : decide ((k : Int) < ds.length) = true := by simp; omega
      by_cases h200 : k < 200
      · have h2B : decide ((k : Int) < 200) = true := by simp; omega
        obtain ⟨b, off, rfl, hc⟩ := hs.nth hlt
        obtain ⟨q0, q1, q2, q3, q4, q5, q6⟩ := hc
        have HX := Lib.hid (fun (h : ds[k].Text.size ≤ 100) => show ∀ i (hi : i < ds.length), i < k + 1 → ds[i].Text.size ≤ 100 from fun i hi hik => by
          by_cases e : i < k
          · exact HP.out i hi e
          · obtain rfl : i = k := by omega
            exact h)
        generalize ds[k] = d at *
        have hlt' : (k : Int) < ds.length := by omega
        by_cases hz : 100 < d.Text.size
        · have hzB : decide (100 < (d.Text.size : Int)) = true := by simp; omega
          clear HX HP
          go_wp2
          go_ret
          exact ⟨true, rfl, rfl, fun h => by cases h⟩
        · have hzB : decide (100 < (d.Text.size : Int)) = false := by simp; omega
          have HX2 := Lib.hid (HX.out (by omega))
          clear HX HP
          go_wp2
          go_round
          case rel => exact ⟨k + 1, by omega, by omega, by go_num, HX2⟩
          case measure => simp [intOf]; omega
      · have h2B : decide ((k : Int) < 200) = false := by simp; omega
        have hbig : decide (150 < (ds.length : Int)) = true := by simp; omega
        clear HP
        go_wp2
        go_ret
        exact ⟨true, by simp, rfl, fun h => by cases h⟩
    · obtain rfl : k = ds.length := by omega
      have hltB : decide ((ds.length : Int) < ds.length) = false := by simp
      go_wp2
      go_ret
      refine ⟨_, rfl, rfl, fun h => ⟨by simp at h; omega, fun d hd => ?_⟩⟩
      obtain ⟨i, hi, rfl⟩ := List.getElem_of_mem hd
      exact HP.out i hi hi

theorem sumText_snoc (ds : List Dd) (k : Nat) (h : k < ds.length) : sumText (ds.take (k + 1)) = sumText (ds.take k) + ds[k].Text.size := by
  unfold sumText; rw [List.take_succ_eq_append_getElem h, List.map_append, List.sum_append]; simp
theorem sumText_le (ds : List Dd) (h : ∀ d ∈ ds, d.Text.size ≤ 100) : ∀ k, sumText (ds.take k) ≤ 100 * k := by
  intro k
  induction k with
  | zero => simp [sumText]
  | succ k ih =>
    by_cases hk : k < ds.length
    · rw [sumText_snoc ds k hk]; have := h ds[k] (List.getElem_mem hk); omega
    · rw [List.take_of_length_le (by omega)] at *; omega

theorem Check_m (a : Option Addr) (cap : Nat) (l : List Ch) (log r : Int) (hr : listFault l log = r) (w : World) (hs : SlCh w a cap l) :
    Calls Try.prog 22 #[.slice a l.length cap, .int .i64 log] w fun e w' => e = .returned (.int .i64 r) ∧ Below w.heap.size w w' := by
  subst hr; exact Check_c a cap l log w hs

def NumTo (ds : List Dd) (k : Nat) : Prop := ∀ i (h : i < ds.length), i < k → isWriter ds[i].By = true ∧ ds[i].No = cntBy ds[i].By (ds.take i) + 1 ∧ ds[i].Seen ≤ i

set_option maxRecDepth 100000 in
set_option maxHeartbeats 4000000 in
theorem FoldLists_c (a : Option Addr) (cap : Nat) (ds : List Dd) (w : World) (hs : SlDd w a cap ds) (hok : ∀ d ∈ ds, d.ok) :
    Calls Try.prog 5 #[.slice a ds.length cap] w fun e w' => e = .returned (.bool true) ∧ Below w.heap.size w w' := by
  have HOK := Lib.hid hok; clear hok
  go_enter Try.func5, Try.ntmps5
  go_wp2_with fail
  refine (foldBegun_c _).mono ?_
  rintro e w1 ⟨rfl, hb1⟩
  have hs1 := hs.below hb1
  have HS0 := Lib.hid hs
  clear hs
  go_wp2_with fail
  refine (greatDeeds_c a cap ds _ hs1).mono ?_
  rintro e w2 ⟨r, rfl, rfl, hr⟩
  cases r
  case true =>
    clear hr
    go_wp2
    go_ret
    exact ⟨rfl, hb1⟩
  obtain ⟨hlen, hsz⟩ := hr rfl
  have HSL := Lib.hid (sumText_le ds hsz)
  have HSZ := Lib.hid hsz
  clear hr hsz
  have hba := hb1.alloc hb1.size (.cells #[.int .i64 0, .int .i64 0, .int .i64 0, .int .i64 0] 41)
  have hA : ArrI (w2.alloc (.cells #[.int .i64 0, .int .i64 0, .int .i64 0, .int .i64 0] 41)) w2.heap.size (fun w => cntBy w (ds.take 0)) := by
    refine ⟨by simp, fun j hj => ?_, fun j hj => by simp⟩
    rcases (show j = 0 ∨ j = 1 ∨ j = 2 ∨ j = 3 by omega) with rfl | rfl | rfl | rfl <;> simp [cntBy]
  have hAw : w.heap.size ≤ w2.heap.size := hb1.size
  clear hs1
  go_upto_region 6 with fail
  generalize hw3 : w2.alloc (.cells #[.int .i64 0, .int .i64 0, .int .i64 0, .int .i64 0] 41) = w3 at *
  clear hw3 hb1
  generalize w2.heap.size = A at *
  have hAr := Lib.hid hA; clear hA
  go_wp2
  go_loopw [4, 5] (fun s4 s5 wr => ∃ k : Nat, k ≤ ds.length ∧ s5 = .int .i64 k ∧ s4 = .int .i64 (sumText (ds.take k) : Nat) ∧ Below w.heap.size w wr ∧ Hid (ArrI wr A (fun w => cntBy w (ds.take k))) ∧ Hid (NumTo ds k)) (fun _ s5 _ => ds.length - (intOf s5).toNat)
  case atStart => exact ⟨0, Nat.zero_le _, rfl, rfl, hba, hAr, Lib.hid (fun i h h2 => by omega)⟩
  case round =>
    obtain ⟨k, hk, rfl, rfl, hb, HA, HN⟩ := hrel
    have HS := Lib.hid (HS0.out.below hb)
    by_cases hlt : k < ds.length
    · obtain ⟨bb, off, ha, hc⟩ := HS.out.nth hlt
      subst ha
      obtain ⟨q0, q1, q2, q3, q4, q5, q6⟩ := hc
      have hsn := sumText_snoc ds k hlt
      have hsl := HSL.out k
      have hcs := fun w => cntBy_snoc w ds k hlt
      have hsz := HSZ.out ds[k] (List.getElem_mem hlt)
      have HNN := Lib.hid (fun (h1 : isWriter ds[k].By = true) (h2 : ds[k].No = cntBy ds[k].By (ds.take k) + 1) (h3 : ds[k].Seen ≤ k) => show NumTo ds (k + 1) from fun i hi hik => by
        by_cases e : i < k
        · exact HN.out i hi e
        · obtain rfl : i = k := by omega
          exact ⟨h1, h2, h3⟩)
      have hcb : ∀ w, 0 ≤ cntBy w (ds.take k) ∧ cntBy w (ds.take k) ≤ 150 := fun w => ⟨cntBy_nonneg _ _, by
        unfold cntBy; have := List.length_filter_le (fun d : Dd => d.By == w) (ds.take k); rw [List.length_take] at this; omega⟩
      generalize hd : ds[k] = d at *
      clear hd
      have HSN := Lib.hid hsn; have HCS := Lib.hid hcs
      clear hsn hcs HN
      generalize hST : sumText (ds.take k) = ST at *
      clear hST
      have hbox := (Below.refl wr.heap.size wr).alloc (Nat.le_refl _) (.cells #[.int .i64 d.Kind, .int .i64 d.By, .int .i64 d.No, .int .i64 d.Seen, .int .i64 d.At, .int .i64 d.Many, .string d.Text] 25)
      have HAb := Lib.hid (HA.out.later hbox)
      have hbb := hb.trans (hbox.mono hb.size)
      have hAlt := HA.out.lt
      clear HS HA hbox
      obtain ⟨kind, by_, no, seen, at_, many, text⟩ := d
      simp only at *
      cases hW : isWriter by_
      case false =>
        clear HNN HSN HCS
        go_upto_region 11 with fail
        go_quiet ((go_at_call 21; exact Calls.quiet_of_same (IsWriter_c _ _)))
        go_wp2
        go_ret
        exact ⟨rfl, bl_drewN hbb _⟩
      case true =>
        rcases isWriter_cases hW with rfl | rfl | rfl | rfl
        · -- writer 0
          have ca : (wr.alloc (.cells #[.int .i64 kind, .int .i64 0, .int .i64 no, .int .i64 seen, .int .i64 at_, .int .i64 many, .string text] 25)).cell? ⟨A, 0, none⟩ = some (.int .i64 (cntBy 0 (ds.take k))) := HAb.out.c 0 (by omega)
          have cf := HAb.out.fz 0 (by omega)
          have hcB := hcb 0
          have HFIN := Lib.hid (fun (n : Nat) (hv : no = cntBy 0 (ds.take k) + 1) => (HAb.out.later (bl_drewN (Below.refl _ _) n)).set 0 (by omega) no (fun w => cntBy w (ds.take (k + 1))) (fun j hj => by
            rw [HCS.out, hv]
            rcases (show j = 0 ∨ j = 1 ∨ j = 2 ∨ j = 3 by omega) with rfl | rfl | rfl | rfl <;> simp))
          clear hcb HCS HAb
          generalize cntBy 0 (ds.take k) = nb at *
          have hinc : IntKind.i64.wrap (nb + 1) = nb + 1 := by rw [IntKind.wrap_i64]; omega
          cases h1 : (no != nb + 1)
          case true =>
            clear HNN HSN HFIN
            go_upto_region 11 with fail
            go_quiet ((go_at_call 21; exact Calls.quiet_of_same (IsWriter_c _ _)))
            go_wp2
            go_ret
            exact ⟨rfl, bl_drewN hbb _⟩
          case false =>
          cases h2 : decide ((k : Int) < seen)
          case true =>
            clear HNN HSN HFIN
            go_upto_region 11 with fail
            go_quiet ((go_at_call 21; exact Calls.quiet_of_same (IsWriter_c _ _)))
            go_wp2
            go_ret
            exact ⟨rfl, bl_drewN hbb _⟩
          case false =>
            have h1' : no = nb + 1 := by simpa using h1
            have HN2 := Lib.hid (HNN.out hW h1' (by have : ¬ (k : Int) < seen := by simpa using h2
                                                    omega))
            have HF2 := Lib.hid (fun n => HFIN.out n h1')
            have HB2 := Lib.hid (fun (n : Nat) v => (bl_drewN hbb n).setCell (p := ⟨A, 0, none⟩) hAw v)
            have hs1 : IntKind.i64.wrap ((ST : Int) + (text.size : Int)) = (ST : Int) + (text.size : Int) := by rw [IntKind.wrap_i64]; omega
            clear HNN HFIN h1'
            go_upto_region 11 with fail
            go_quiet ((go_at_call 21; exact Calls.quiet_of_same (IsWriter_c _ _)))
            go_wp2
            exact ⟨⟨k + 1, by omega, by go_num, by rw [HSN.out]; go_num, HB2.out _ _, Lib.hid (HF2.out _), HN2⟩, by simp [intOf]; omega⟩
        · -- writer 1
          have ca : (wr.alloc (.cells #[.int .i64 kind, .int .i64 1, .int .i64 no, .int .i64 seen, .int .i64 at_, .int .i64 many, .string text] 25)).cell? ⟨A, 1, none⟩ = some (.int .i64 (cntBy 1 (ds.take k))) := HAb.out.c 1 (by omega)
          have cf := HAb.out.fz 1 (by omega)
          have hcB := hcb 1
          have HFIN := Lib.hid (fun (n : Nat) (hv : no = cntBy 1 (ds.take k) + 1) => (HAb.out.later (bl_drewN (Below.refl _ _) n)).set 1 (by omega) no (fun w => cntBy w (ds.take (k + 1))) (fun j hj => by
            rw [HCS.out, hv]
            rcases (show j = 0 ∨ j = 1 ∨ j = 2 ∨ j = 3 by omega) with rfl | rfl | rfl | rfl <;> simp))
          clear hcb HCS HAb
          generalize cntBy 1 (ds.take k) = nb at *
          have hinc : IntKind.i64.wrap (nb + 1) = nb + 1 := by rw [IntKind.wrap_i64]; omega
          cases h1 : (no != nb + 1)
          case true =>
            clear HNN HSN HFIN
            go_upto_region 11 with fail
            go_quiet ((go_at_call 21; exact Calls.quiet_of_same (IsWriter_c _ _)))
            go_wp2
            go_ret
            exact ⟨rfl, bl_drewN hbb _⟩
          case false =>
          cases h2 : decide ((k : Int) < seen)
          case true =>
            clear HNN HSN HFIN
            go_upto_region 11 with fail
            go_quiet ((go_at_call 21; exact Calls.quiet_of_same (IsWriter_c _ _)))
            go_wp2
            go_ret
            exact ⟨rfl, bl_drewN hbb _⟩
          case false =>
            have h1' : no = nb + 1 := by simpa using h1
            have HN2 := Lib.hid (HNN.out hW h1' (by have : ¬ (k : Int) < seen := by simpa using h2
                                                    omega))
            have HF2 := Lib.hid (fun n => HFIN.out n h1')
            have HB2 := Lib.hid (fun (n : Nat) v => (bl_drewN hbb n).setCell (p := ⟨A, 1, none⟩) hAw v)
            have hs1 : IntKind.i64.wrap ((ST : Int) + (text.size : Int)) = (ST : Int) + (text.size : Int) := by rw [IntKind.wrap_i64]; omega
            clear HNN HFIN h1'
            go_upto_region 11 with fail
            go_quiet ((go_at_call 21; exact Calls.quiet_of_same (IsWriter_c _ _)))
            go_wp2
            exact ⟨⟨k + 1, by omega, by go_num, by rw [HSN.out]; go_num, HB2.out _ _, Lib.hid (HF2.out _), HN2⟩, by simp [intOf]; omega⟩
        · -- writer 2
          have ca : (wr.alloc (.cells #[.int .i64 kind, .int .i64 2, .int .i64 no, .int .i64 seen, .int .i64 at_, .int .i64 many, .string text] 25)).cell? ⟨A, 2, none⟩ = some (.int .i64 (cntBy 2 (ds.take k))) := HAb.out.c 2 (by omega)
          have cf := HAb.out.fz 2 (by omega)
          have hcB := hcb 2
          have HFIN := Lib.hid (fun (n : Nat) (hv : no = cntBy 2 (ds.take k) + 1) => (HAb.out.later (bl_drewN (Below.refl _ _) n)).set 2 (by omega) no (fun w => cntBy w (ds.take (k + 1))) (fun j hj => by
            rw [HCS.out, hv]
            rcases (show j = 0 ∨ j = 1 ∨ j = 2 ∨ j = 3 by omega) with rfl | rfl | rfl | rfl <;> simp))
          clear hcb HCS HAb
          generalize cntBy 2 (ds.take k) = nb at *
          have hinc : IntKind.i64.wrap (nb + 1) = nb + 1 := by rw [IntKind.wrap_i64]; omega
          cases h1 : (no != nb + 1)
          case true =>
            clear HNN HSN HFIN
            go_upto_region 11 with fail
            go_quiet ((go_at_call 21; exact Calls.quiet_of_same (IsWriter_c _ _)))
            go_wp2
            go_ret
            exact ⟨rfl, bl_drewN hbb _⟩
          case false =>
          cases h2 : decide ((k : Int) < seen)
          case true =>
            clear HNN HSN HFIN
            go_upto_region 11 with fail
            go_quiet ((go_at_call 21; exact Calls.quiet_of_same (IsWriter_c _ _)))
            go_wp2
            go_ret
            exact ⟨rfl, bl_drewN hbb _⟩
          case false =>
            have h1' : no = nb + 1 := by simpa using h1
            have HN2 := Lib.hid (HNN.out hW h1' (by have : ¬ (k : Int) < seen := by simpa using h2
                                                    omega))
            have HF2 := Lib.hid (fun n => HFIN.out n h1')
            have HB2 := Lib.hid (fun (n : Nat) v => (bl_drewN hbb n).setCell (p := ⟨A, 2, none⟩) hAw v)
            have hs1 : IntKind.i64.wrap ((ST : Int) + (text.size : Int)) = (ST : Int) + (text.size : Int) := by rw [IntKind.wrap_i64]; omega
            clear HNN HFIN h1'
            go_upto_region 11 with fail
            go_quiet ((go_at_call 21; exact Calls.quiet_of_same (IsWriter_c _ _)))
            go_wp2
            exact ⟨⟨k + 1, by omega, by go_num, by rw [HSN.out]; go_num, HB2.out _ _, Lib.hid (HF2.out _), HN2⟩, by simp [intOf]; omega⟩
        · -- writer 3
          have ca : (wr.alloc (.cells #[.int .i64 kind, .int .i64 3, .int .i64 no, .int .i64 seen, .int .i64 at_, .int .i64 many, .string text] 25)).cell? ⟨A, 3, none⟩ = some (.int .i64 (cntBy 3 (ds.take k))) := HAb.out.c 3 (by omega)
          have cf := HAb.out.fz 3 (by omega)
          have hcB := hcb 3
          have HFIN := Lib.hid (fun (n : Nat) (hv : no = cntBy 3 (ds.take k) + 1) => (HAb.out.later (bl_drewN (Below.refl _ _) n)).set 3 (by omega) no (fun w => cntBy w (ds.take (k + 1))) (fun j hj => by
            rw [HCS.out, hv]
            rcases (show j = 0 ∨ j = 1 ∨ j = 2 ∨ j = 3 by omega) with rfl | rfl | rfl | rfl <;> simp))
          clear hcb HCS HAb
          generalize cntBy 3 (ds.take k) = nb at *
          have hinc : IntKind.i64.wrap (nb + 1) = nb + 1 := by rw [IntKind.wrap_i64]; omega
          cases h1 : (no != nb + 1)
          case true =>
            clear HNN HSN HFIN
            go_upto_region 11 with fail
            go_quiet ((go_at_call 21; exact Calls.quiet_of_same (IsWriter_c _ _)))
            go_wp2
            go_ret
            exact ⟨rfl, bl_drewN hbb _⟩
          case false =>
          cases h2 : decide ((k : Int) < seen)
          case true =>
            clear HNN HSN HFIN
            go_upto_region 11 with fail
            go_quiet ((go_at_call 21; exact Calls.quiet_of_same (IsWriter_c _ _)))
            go_wp2
            go_ret
            exact ⟨rfl, bl_drewN hbb _⟩
          case false =>
            have h1' : no = nb + 1 := by simpa using h1
            have HN2 := Lib.hid (HNN.out hW h1' (by have : ¬ (k : Int) < seen := by simpa using h2
                                                    omega))
            have HF2 := Lib.hid (fun n => HFIN.out n h1')
            have HB2 := Lib.hid (fun (n : Nat) v => (bl_drewN hbb n).setCell (p := ⟨A, 3, none⟩) hAw v)
            have hs1 : IntKind.i64.wrap ((ST : Int) + (text.size : Int)) = (ST : Int) + (text.size : Int) := by rw [IntKind.wrap_i64]; omega
            clear HNN HFIN h1'
            go_upto_region 11 with fail
            go_quiet ((go_at_call 21; exact Calls.quiet_of_same (IsWriter_c _ _)))
            go_wp2
            exact ⟨⟨k + 1, by omega, by go_num, by rw [HSN.out]; go_num, HB2.out _ _, Lib.hid (HF2.out _), HN2⟩, by simp [intOf]; omega⟩
    · obtain rfl : k = ds.length := by omega
      have hnum : numbered ds := fun i hi => HN.out i hi hi
      have HLC := Lib.hid (lists_check ds hlen hnum)
      have HFA := Lib.hid (fun h => allFrom_fail ds [] 0 h)
      have HSUM := Lib.hid (show sumText (ds.take ds.length) = sumText ds by rw [List.take_length])
      have hs1 := HS.out
      have hok2 : ∀ d ∈ ds, d.Text.size ≤ maxLen ∧ i64ok d.Many := fun d hd => ⟨(HOK.out d hd).2.2.2.2.2.2, (HOK.out d hd).2.2.2.2.2.1⟩
      have HOK2 := Lib.hid hok2
      clear HA HN hnum hok2
      go_wp2_with fail
      refine (All_c a cap ds _ hs1 HOK2.out (by omega)).mono ?_
      rintro e w4 ⟨a4, cap4, rfl, ho4, hb4⟩
      have hx4 := hb.trans (hb4.mono hb.size)
      have ht4 := (ho4.slCh).below ((Below.refl w4.heap.size w4).alloc (Nat.le_refl _) (.cells #[.int .i64 (allF ds).2.1, .int .i64 (allF ds).2.2] 29))
      have hx5 := hx4.alloc hx4.size (.cells #[.int .i64 (allF ds).2.1, .int .i64 (allF ds).2.2] 29)
      clear ho4 hb4 hb hs1 HS
      unfold allF at *
      generalize allFrom [] 0 ds = R at *
      obtain ⟨L, c, at_⟩ := R
      simp only at *
      by_cases h0 : c = 0
      · subst h0
        obtain ⟨h1, h2⟩ := HLC.out rfl
        have HL := Lib.hid h1
        have h3 : ((L.length : Int) == ((sumText (ds.take ds.length) : Nat) : Int)) = true := by rw [beq_iff_eq, HSUM.out, h2]
        clear HLC HFA h1 h2
        generalize sumText (ds.take ds.length) = ST at *
        go_wp2_with fail
        refine (Check_m a4 cap4 L _ _ HL.out _ ht4).mono ?_
        rintro e w6 ⟨rfl, hb6⟩
        have hx6 := hx5.trans (hb6.mono hx5.size)
        go_wp2
        go_ret
        exact ⟨rfl, hx6⟩
      · have hne : (c != 0) = true := by simpa using h0
        have hL := HFA.out h0
        subst hL
        clear HLC HFA h0
        go_wp2
        go_ret
        exact ⟨rfl, hx5⟩
end Go.Proofs.Ytneoeokfffnonab
