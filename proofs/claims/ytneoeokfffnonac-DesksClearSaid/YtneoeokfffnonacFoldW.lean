/- The walks of layer 3: New and the reference's BytesOf, May and MayDo. -/
import Derived.Test.YtneoeokfffnonacDeedW
import Derived.Test.YtneoeokfffnonacInsertW
import Derived.Test.YtneoeokfffnonacViewOf
import Derived.Deep.RegionHeld3
set_option linter.unusedVariables false
set_option linter.unusedSimpArgs false
namespace Go.Proofs.Ytneoeokfffnonac
open Go.RowKit

/-- The box of a deed. -/
structure DdAt (w : World) (b : Nat) (d : Dd) : Prop where
  lt : b < w.heap.size
  c0 : w.cell? ⟨b, 0, none⟩ = some (.int .i64 d.Kind)
  c1 : w.cell? ⟨b, 1, none⟩ = some (.int .i64 d.By)
  c2 : w.cell? ⟨b, 2, none⟩ = some (.int .i64 d.No)
  c3 : w.cell? ⟨b, 3, none⟩ = some (.int .i64 d.Seen)
  c4 : w.cell? ⟨b, 4, none⟩ = some (.int .i64 d.At)
  c5 : w.cell? ⟨b, 5, none⟩ = some (.int .i64 d.Many)
  c6 : w.cell? ⟨b, 6, none⟩ = some (.string d.Text)
theorem DdAt.new (w : World) (d : Dd) : DdAt (w.alloc (.cells #[.int .i64 d.Kind, .int .i64 d.By, .int .i64 d.No, .int .i64 d.Seen, .int .i64 d.At, .int .i64 d.Many, .string d.Text] 24)) w.heap.size d := by
  refine ⟨by simp, ?_, ?_, ?_, ?_, ?_, ?_, ?_⟩ <;> simp
theorem DdAt.of_block {w w' : World} {b : Nat} {d : Dd} (h : DdAt w b d) (hs : w.heap.size ≤ w'.heap.size) (hb : w'.heap[b]? = w.heap[b]?) : DdAt w' b d := by
  have k : ∀ o, w'.cell? ⟨b, o, none⟩ = w.cell? ⟨b, o, none⟩ := fun o => World.cell?_of_block (w := w) hb
  exact ⟨Nat.lt_of_lt_of_le h.lt hs, (k _).trans h.c0, (k _).trans h.c1, (k _).trans h.c2, (k _).trans h.c3, (k _).trans h.c4, (k _).trans h.c5, (k _).trans h.c6⟩
theorem DdAt.later {w w' : World} {b : Nat} {d : Dd} (h : DdAt w b d) (hl : Below w.heap.size w w') : DdAt w' b d := h.of_block hl.size (hl.block b h.lt)

theorem below_drew (w : World) (B : Nat) : Below B w w.drew := ⟨rfl, rfl, rfl, Nat.le_refl _, fun _ _ => rfl⟩

theorem newOf_snoc (d : Dd) (n : Int) (k : Nat) (h : k < d.Text.size) : (newOf d n).take (k + 1) = (newOf d n).take k ++ [⟨(d.Text[k].toNat : Int), d.By, d.No, k, n, 0, 0⟩] := by
  have hl : k < (newOf d n).length := by rw [newOf_length]; exact h
  have hb : k < (bytesOf d.Text).length := by rw [bytesOf_length]; exact h
  have e : (bytesOf d.Text)[k] = (d.Text[k].toNat : Int) := by
    have := bytesOf_get d.Text k h; rw [List.getElem?_eq_getElem hb] at this; exact Option.some.inj this
  have g : (newOf d n)[k] = ⟨(bytesOf d.Text)[k], d.By, d.No, k, n, 0, 0⟩ := by simp [newOf]
  rw [List.take_succ_eq_append_getElem hl, g, e]

set_option maxHeartbeats 1000000 in
theorem New_c (d : Dd) (n : Int) (w : World) (hs : d.Text.size * 56 ≤ 140737488355328) :
    Calls Try.prog 88 #[.agg #[.int .i64 d.Kind, .int .i64 d.By, .int .i64 d.No, .int .i64 d.Seen, .int .i64 d.At, .int .i64 d.Many, .string d.Text], .int .i64 n] w fun e w' => ∃ a' cap', e = .returned (.slice a' (newOf d n).length cap') ∧
      OwnRow w' w.heap.size 86 7 a' (newOf d n).length cap' (flat (newOf d n)) ∧ Below w.heap.size w w' := by
  have HL := Lib.hid (newOf_length d n)
  have hb0 := (Below.refl w.heap.size w).alloc (Nat.le_refl _) (.cells #[.int .i64 d.Kind, .int .i64 d.By, .int .i64 d.No, .int .i64 d.Seen, .int .i64 d.At, .int .i64 d.Many, .string d.Text] 24)
  have hd0 := DdAt.new w d
  have hsz : d.Text.size ≤ 9223372036854775807 := by omega
  go_enter Try.func88, Try.ntmps88
  go_upto_region 1 with fail
  generalize hw0 : w.alloc (.cells #[.int .i64 d.Kind, .int .i64 d.By, .int .i64 d.No, .int .i64 d.Seen, .int .i64 d.At, .int .i64 d.Many, .string d.Text] 24) = w0 at *
  clear hw0
  obtain ⟨dlt, d0, d1, d2, d3, d4, d5, d6⟩ := hd0
  go_wp2
  go_loopw [5, 6, 10] (fun s5 s6 i wr => ∃ (k : Nat) (a' : Option Addr) (cap' : Nat), k ≤ d.Text.size ∧ i = .int .i64 k ∧ s5 = .slice a' k cap' ∧ OwnRow wr w0.heap.size 86 7 a' k cap' (flat ((newOf d n).take k)) ∧ Below w0.heap.size w0 wr) (fun _ _ i _ => d.Text.size - (intOf i).toNat)
  case atStart => exact ⟨0, none, 0, Nat.zero_le _, rfl, rfl, OwnRow.nil _ _ _ _ _, Below.refl _ _⟩
  case round =>
    obtain ⟨k, a', cap', hk, rfl, rfl, hown, hb1⟩ := hrel
    obtain ⟨hc1, hf1⟩ := bcell hb1
    by_cases hlt : k < d.Text.size
    · have HS := Lib.hid (newOf_snoc d n k hlt)
      have HO := Lib.hid hown; clear hown
      have c1 := (hc1 _ 1 dlt).trans d1
      have c2 := (hc1 _ 2 dlt).trans d2
      have c6 := (hc1 _ 6 dlt).trans d6
      have hlt' : (k : Int) < d.Text.size := by omega
      have hk0 : (0 : Int) ≤ (k : Int) := by omega
      clear hc1 hf1 d0 d1 d2 d3 d4 d5 d6
      go_upto_region 5 with fail
      go_region_held3 (fun w' => w'.cell? ⟨w.heap.size, 1, none⟩ = some (.int .i64 d.By) ∧ w'.cell? ⟨w.heap.size, 2, none⟩ = some (.int .i64 d.No) ∧ w'.cell? ⟨w.heap.size, 6, none⟩ = some (.string d.Text))
        (first
          | go_keep
          | exact ⟨(hb3.cell (p := ⟨w.heap.size, 1, none⟩) dlt).trans c1, (hb3.cell (p := ⟨w.heap.size, 2, none⟩) dlt).trans c2, (hb3.cell (p := ⟨w.heap.size, 6, none⟩) dlt).trans c6⟩)
        ((refine step_append_new (wb := wr.drew) rfl _ _ 41 rfl w0.heap.size 86 7 56 Try.underlying41 ti_Char a' k cap' _ rfl HO.out.drew 1 1 _ rfl rfl (Ch.cells_one ⟨(d.Text[k].toNat : Int), d.By, d.No, k, n, 0, 0⟩) (by omega) hb1.size ?_
          intro a3 cap3 w3 hown3 hb3 hz3 hg3))
      have hfin : OwnRow w3 w0.heap.size 86 7 a3 (k + 1) cap3 (flat ((newOf d n).take (k + 1))) := by
        rw [HS.out, flat_append]; exact hown3
      have HFin := Lib.hid hfin
      have hbn : Below w0.heap.size w0 w3 := hb1.trans ((below_drew wr _).trans hb3)
      clear hfin hown3 HO HS c1 c2 c6
      go_wp2
      exact ⟨⟨k + 1, a3, cap3, by omega, by go_num, rfl, HFin.out, hbn⟩, by simp [intOf]; omega⟩
    · obtain rfl : k = d.Text.size := by omega
      have HT := Lib.hid (show (newOf d n).take d.Text.size = newOf d n by rw [← HL.out]; exact List.take_length)
      have HE := Lib.hid (show Below w.heap.size w wr from hb0.trans (hb1.mono hb0.size))
      have HO := Lib.hid (hown.mono hb0.size)
      have c6 := (hc1 _ 6 dlt).trans d6
      clear hc1 hf1 hown d0 d1 d2 d3 d4 d5 d6
      go_wp2
      go_ret
      refine ⟨a', cap', by rw [HL.out]; rfl, ?_, HE.out⟩
      rw [HL.out, ← HT.out]; exact HO.out
set_option maxHeartbeats 1000000 in
theorem BytesOf_c (d : Dd) (n : Int) (w : World) (hs : d.Text.size * 56 ≤ 140737488355328) :
    Calls Try.prog 108 #[.agg #[.int .i64 d.Kind, .int .i64 d.By, .int .i64 d.No, .int .i64 d.Seen, .int .i64 d.At, .int .i64 d.Many, .string d.Text], .int .i64 n] w fun e w' => ∃ a' cap', e = .returned (.slice a' (newOf d n).length cap') ∧
      OwnRow w' w.heap.size 86 7 a' (newOf d n).length cap' (flat (newOf d n)) ∧ Below w.heap.size w w' := by
  have HL := Lib.hid (newOf_length d n)
  have hb0 := (Below.refl w.heap.size w).alloc (Nat.le_refl _) (.cells #[.int .i64 d.Kind, .int .i64 d.By, .int .i64 d.No, .int .i64 d.Seen, .int .i64 d.At, .int .i64 d.Many, .string d.Text] 24)
  have hd0 := DdAt.new w d
  have hsz : d.Text.size ≤ 9223372036854775807 := by omega
  go_enter Try.func108, Try.ntmps108
  go_upto_region 1 with fail
  generalize hw0 : w.alloc (.cells #[.int .i64 d.Kind, .int .i64 d.By, .int .i64 d.No, .int .i64 d.Seen, .int .i64 d.At, .int .i64 d.Many, .string d.Text] 24) = w0 at *
  clear hw0
  obtain ⟨dlt, d0, d1, d2, d3, d4, d5, d6⟩ := hd0
  go_wp2
  go_loopw [5, 6] (fun s5 i wr => ∃ (k : Nat) (a' : Option Addr) (cap' : Nat), k ≤ d.Text.size ∧ i = .int .i64 k ∧ s5 = .slice a' k cap' ∧ OwnRow wr w0.heap.size 86 7 a' k cap' (flat ((newOf d n).take k)) ∧ Below w0.heap.size w0 wr) (fun _ i _ => d.Text.size - (intOf i).toNat)
  case atStart => exact ⟨0, none, 0, Nat.zero_le _, rfl, rfl, OwnRow.nil _ _ _ _ _, Below.refl _ _⟩
  case round =>
    obtain ⟨k, a', cap', hk, rfl, rfl, hown, hb1⟩ := hrel
    obtain ⟨hc1, hf1⟩ := bcell hb1
    by_cases hlt : k < d.Text.size
    · have HS := Lib.hid (newOf_snoc d n k hlt)
      have HO := Lib.hid hown; clear hown
      have c1 := (hc1 _ 1 dlt).trans d1
      have c2 := (hc1 _ 2 dlt).trans d2
      have c6 := (hc1 _ 6 dlt).trans d6
      have hlt' : (k : Int) < d.Text.size := by omega
      have hk0 : (0 : Int) ≤ (k : Int) := by omega
      clear hc1 hf1 d0 d1 d2 d3 d4 d5 d6
      go_upto_region 5 with fail
      go_region_held3 (fun w' => w'.cell? ⟨w.heap.size, 1, none⟩ = some (.int .i64 d.By) ∧ w'.cell? ⟨w.heap.size, 2, none⟩ = some (.int .i64 d.No) ∧ w'.cell? ⟨w.heap.size, 6, none⟩ = some (.string d.Text))
        (first
          | go_keep
          | exact ⟨(hb3.cell (p := ⟨w.heap.size, 1, none⟩) dlt).trans c1, (hb3.cell (p := ⟨w.heap.size, 2, none⟩) dlt).trans c2, (hb3.cell (p := ⟨w.heap.size, 6, none⟩) dlt).trans c6⟩)
        ((refine step_append_new (wb := wr.drew) rfl _ _ 41 rfl w0.heap.size 86 7 56 Try.underlying41 ti_Char a' k cap' _ rfl HO.out.drew 1 1 _ rfl rfl (Ch.cells_one ⟨(d.Text[k].toNat : Int), d.By, d.No, k, n, 0, 0⟩) (by omega) hb1.size ?_
          intro a3 cap3 w3 hown3 hb3 hz3 hg3))
      have hfin : OwnRow w3 w0.heap.size 86 7 a3 (k + 1) cap3 (flat ((newOf d n).take (k + 1))) := by
        rw [HS.out, flat_append]; exact hown3
      have HFin := Lib.hid hfin
      have hbn : Below w0.heap.size w0 w3 := hb1.trans ((below_drew wr _).trans hb3)
      clear hfin hown3 HO HS c1 c2 c6
      go_wp2
      exact ⟨⟨k + 1, a3, cap3, by omega, by go_num, rfl, HFin.out, hbn⟩, by simp [intOf]; omega⟩
    · obtain rfl : k = d.Text.size := by omega
      have HT := Lib.hid (show (newOf d n).take d.Text.size = newOf d n by rw [← HL.out]; exact List.take_length)
      have HE := Lib.hid (show Below w.heap.size w wr from hb0.trans (hb1.mono hb0.size))
      have HO := Lib.hid (hown.mono hb0.size)
      have c6 := (hc1 _ 6 dlt).trans d6
      clear hc1 hf1 hown d0 d1 d2 d3 d4 d5 d6
      go_wp2
      go_ret
      refine ⟨a', cap', by rw [HL.out]; rfl, ?_, HE.out⟩
      rw [HL.out, ← HT.out]; exact HO.out

set_option maxHeartbeats 1000000 in
theorem May_c (a : Option Addr) (cap : Nat) (l : List Ch) (d : Dd) (w : World) (hs : SlCh w a cap l) (hsz : l.length ≤ 140737488355328) (ht : d.Text.size ≤ maxLen) (_ : i64ok d.Many) :
    Calls Try.prog 85 #[.slice a l.length cap, .agg #[.int .i64 d.Kind, .int .i64 d.By, .int .i64 d.No, .int .i64 d.Seen, .int .i64 d.At, .int .i64 d.Many, .string d.Text]] w fun e w' => e = .returned (.int .i64 (mayDo l d)) ∧ Below w.heap.size w w' := by
  have hb0 := (Below.refl w.heap.size w).alloc (Nat.le_refl _) (.cells #[.int .i64 d.Kind, .int .i64 d.By, .int .i64 d.No, .int .i64 d.Seen, .int .i64 d.At, .int .i64 d.Many, .string d.Text] 24)
  have hd0 := DdAt.new w d
  have hs0 := hs.below hb0
  have hv := vis_le d.Seen d.By l
  have hti : d.Text.size ≤ maxLen := ht
  clear ht
  clear hs
  go_enter Try.func85, Try.ntmps85
  go_upto_region 1 with fail
  generalize hw0 : w.alloc (.cells #[.int .i64 d.Kind, .int .i64 d.By, .int .i64 d.No, .int .i64 d.Seen, .int .i64 d.At, .int .i64 d.Many, .string d.Text] 24) = w0 at *
  clear hw0
  obtain ⟨dlt, d0, d1, d2, d3, d4, d5, d6⟩ := hd0
  have hd0 : DdAt w0 w.heap.size d := ⟨dlt, d0, d1, d2, d3, d4, d5, d6⟩
  go_wp2_with fail
  refine (DCheck_c d _ hti).mono ?_
  rintro e w1 ⟨rfl, hb1⟩
  have hd1 := hd0.later hb1
  have hx1 := hb0.trans (hb1.mono hb0.size)
  have hs1 := hs0.below hb1
  clear hb1 hd0 d0 d1 d2 d3 d4 d5 d6 dlt hs0 hb0 hti
  by_cases hf : deedFault d = 0
  case neg =>
    have Hf := Lib.hid (show mayDo l d = deedFault d by unfold mayDo; rw [if_neg hf])
    have hne : (deedFault d != 0) = true := by simpa using hf
    clear hf
    go_wp2
    go_ret
    exact ⟨by rw [Hf.out]; rfl, hx1⟩
  have Hf := Lib.hid (show mayDo l d = if ((vis d.Seen d.By l).length : Int) < d.At + d.Many then 1 else if 200 < l.length + d.Text.size then 9 else 0 by unfold mayDo; rw [if_pos hf])
  rw [hf]
  have hz := deedFault_zero hf
  obtain ⟨_, _, _, _, hse, hat, hat2, hq⟩ := hz
  have htx : d.Text.size ≤ 20 := by
    rcases hq with ⟨_, _, h⟩ | ⟨_, _, _, h⟩
    · unfold textOk at h; simp only [Bool.and_eq_true, decide_eq_true_eq] at h; exact h.1.2
    · omega
  obtain ⟨N, hN⟩ : ∃ N, N = (vis d.Seen d.By l).length := ⟨_, rfl⟩
  rw [← hN] at hv Hf
  have hC : ∀ w, SlCh w a cap l → Calls Try.prog 111 #[.slice a l.length cap, .int .i64 d.Seen, .int .i64 d.By] w fun e w' => e = .returned (.int .i64 (N : Nat)) ∧ Below w.heap.size w w' := fun w hs => by
    rw [hN]; exact Count_c a cap l _ _ w hs hsz
  have HC := Lib.hid hC
  clear hf hN hC
  obtain ⟨dl, d0, d1, d2, d3, d4, d5, d6⟩ := hd1
  have hd1 : DdAt w1 w.heap.size d := ⟨dl, d0, d1, d2, d3, d4, d5, d6⟩
  go_wp2_with fail
  refine (HC.out _ hs1).mono ?_
  rintro e w2 ⟨rfl, hb2⟩
  have HX := Lib.hid (hx1.trans (hb2.mono hx1.size))
  have hd2 := hd1.later hb2
  clear hb2 hd1 dl d0 d1 d2 d3 d4 d5 d6 hs1 hx1 HC
  obtain ⟨B, hB1, hB2⟩ : ∃ B : Bool, decide ((200 : Int) < (l.length : Int) + (d.Text.size : Int)) = B ∧ (if 200 < l.length + d.Text.size then (9 : Int) else 0) = if B then 9 else 0 := by
    by_cases h : 200 < l.length + d.Text.size
    · exact ⟨true, by simp; omega, by rw [if_pos h]; rfl⟩
    · exact ⟨false, by simp; omega, by rw [if_neg h]; rfl⟩
  have HB2 := Lib.hid hB2; clear hB2
  rcases hq with ⟨hk, hm0, _⟩ | ⟨hk, hm1, hm2, ht0⟩
  · by_cases h1 : (N : Int) < d.At
    · have Hf2 := Lib.hid (show mayDo l d = 1 by rw [Hf.out, if_pos (by omega)])
      obtain ⟨kind, by_, no, seen, at_, many, text⟩ := d
      simp only at *
      subst hk; subst hm0
      obtain ⟨dl, d0, d1, d2, d3, d4, d5, d6⟩ := hd2
      clear Hf hB1 HB2
      go_wp2
      go_ret
      exact ⟨by rw [Hf2.out]; rfl, HX.out⟩
    · have Hf2 := Lib.hid (show mayDo l d = if B then 9 else 0 by rw [Hf.out, if_neg (by omega), HB2.out])
      obtain ⟨kind, by_, no, seen, at_, many, text⟩ := d
      simp only at *
      subst hk; subst hm0
      obtain ⟨dl, d0, d1, d2, d3, d4, d5, d6⟩ := hd2
      clear Hf HB2
      cases B
      all_goals
        go_wp2
        go_ret
        exact ⟨by rw [Hf2.out]; rfl, HX.out⟩
  · clear ht0
    by_cases h1 : (N : Int) < d.At
    · have Hf2 := Lib.hid (show mayDo l d = 1 by rw [Hf.out, if_pos (by omega)])
      obtain ⟨kind, by_, no, seen, at_, many, text⟩ := d
      simp only at *
      subst hk
      obtain ⟨dl, d0, d1, d2, d3, d4, d5, d6⟩ := hd2
      clear Hf hB1 HB2
      go_wp2
      go_ret
      exact ⟨by rw [Hf2.out]; rfl, HX.out⟩
    · have hsub : IntKind.i64.wrap ((N : Int) - d.At) = (N : Int) - d.At := by rw [IntKind.wrap_i64]; omega
      by_cases h2 : (N : Int) - d.At < d.Many
      · have Hf2 := Lib.hid (show mayDo l d = 1 by rw [Hf.out, if_pos (by omega)])
        obtain ⟨kind, by_, no, seen, at_, many, text⟩ := d
        simp only at *
        subst hk
        obtain ⟨dl, d0, d1, d2, d3, d4, d5, d6⟩ := hd2
        have hh : decide ((N : Int) - at_ < many) = true := by simpa using h2
        clear Hf hB1 HB2
        go_wp2
        go_ret
        exact ⟨by rw [Hf2.out]; rfl, HX.out⟩
      · have Hf2 := Lib.hid (show mayDo l d = if B then 9 else 0 by rw [Hf.out, if_neg (by omega), HB2.out])
        obtain ⟨kind, by_, no, seen, at_, many, text⟩ := d
        simp only at *
        subst hk
        obtain ⟨dl, d0, d1, d2, d3, d4, d5, d6⟩ := hd2
        have hh : decide ((N : Int) - at_ < many) = false := by simpa using h2
        clear Hf HB2
        cases B
        all_goals
          go_wp2
          go_ret
          exact ⟨by rw [Hf2.out]; rfl, HX.out⟩
end Go.Proofs.Ytneoeokfffnonac
