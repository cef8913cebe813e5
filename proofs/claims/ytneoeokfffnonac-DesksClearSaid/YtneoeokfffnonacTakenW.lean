/- The walk of layer 3's taken. -/
import Derived.Test.YtneoeokfffnonacDoW
set_option linter.unusedVariables false
set_option linter.unusedSimpArgs false
namespace Go.Proofs.Ytneoeokfffnonac
open Go.RowKit

theorem idxV_snoc (l : List Nat) (k : Nat) : idxV (l ++ [k]) = idxV l ++ [.int .i64 (k : Int)] := by simp [idxV]

set_option maxHeartbeats 1000000 in
theorem taken_c (a : Option Addr) (cap : Nat) (l : List Ch) (d : Dd) (w : World) (hs : SlCh w a cap l) (hsz : l.length ≤ 140737488355) (hat : 0 ≤ d.At ∧ d.At ≤ 1000) (hmany : 0 ≤ d.Many ∧ d.Many ≤ 1000) :
    Calls Try.prog 89 #[.slice a l.length cap, .agg #[.int .i64 d.Kind, .int .i64 d.By, .int .i64 d.No, .int .i64 d.Seen, .int .i64 d.At, .int .i64 d.Many, .string d.Text]] w fun e w' => ∃ a' cap', e = .returned (.slice a' (takenTo l d l.length).length cap') ∧
      OwnRow w' w.heap.size 3 1 a' (takenTo l d l.length).length cap' (idxV (takenTo l d l.length)) ∧ Below w.heap.size w w' := by
  have hb0 := (Below.refl w.heap.size w).alloc (Nat.le_refl _) (.cells #[.int .i64 d.Kind, .int .i64 d.By, .int .i64 d.No, .int .i64 d.Seen, .int .i64 d.At, .int .i64 d.Many, .string d.Text] 24)
  have hd0 := DdAt.new w d
  have hs0 := hs.below hb0
  clear hs
  obtain ⟨hat1, hat2⟩ := hat
  obtain ⟨hm1, hm2⟩ := hmany
  go_enter Try.func89, Try.ntmps89
  go_upto_region 1 with fail
  generalize hw0 : w.alloc (.cells #[.int .i64 d.Kind, .int .i64 d.By, .int .i64 d.No, .int .i64 d.Seen, .int .i64 d.At, .int .i64 d.Many, .string d.Text] 24) = w0 at *
  clear hw0
  go_wp2
  go_loopw [5, 6, 11] (fun s5 s6 s11 wr => ∃ (k : Nat) (a' : Option Addr) (cap' : Nat), k ≤ l.length ∧ s11 = .int .i64 k ∧ s6 = .int .i64 (cntTo l d k : Nat) ∧ s5 = .slice a' (takenTo l d k).length cap' ∧
    OwnRow wr w0.heap.size 3 1 a' (takenTo l d k).length cap' (idxV (takenTo l d k)) ∧ Below w0.heap.size w0 wr) (fun _ _ s11 _ => l.length - (intOf s11).toNat)
  case atStart => exact ⟨0, none, 0, Nat.zero_le _, rfl, rfl, rfl, OwnRow.nil _ _ _ _ _, Below.refl _ _⟩
  case round =>
    obtain ⟨k, a', cap', hk, rfl, rfl, rfl, hown, hb⟩ := hrel
    by_cases hlt : k < l.length
    · obtain ⟨dl, d0, d1, d2, d3, d4, d5, d6⟩ := hd0.later hb
      have hdk : DdAt wr w.heap.size d := ⟨dl, d0, d1, d2, d3, d4, d5, d6⟩
      obtain ⟨bb, off, rfl, hc⟩ := hs0.nth hlt
      obtain ⟨q0, q1, q2, q3, q4, q5, q6⟩ := hc.below hb hc.lt
      have HT := Lib.hid (takenTo_snoc l d k)
      have HI := Lib.hid (isTaken_at l d k hlt)
      have HN := Lib.hid (cntTo_snoc l d k hlt)
      have hcl := cntTo_le l d k
      have htl := takenTo_le l d k
      have HO := Lib.hid hown; clear hown
      generalize hx : l[k] = x at *
      clear hx
      go_wp2_with fail
      refine (Sees_c x _ _ _).mono ?_
      rintro e w2 ⟨rfl, hb2⟩
      have hz2 := hb2.size
      simp at hz2
      have hbx : Below wr.heap.size wr w2 := ((Below.refl wr.heap.size wr).alloc (Nat.le_refl _) _).trans (hb2.mono (by simp))
      have hb02 : Below w0.heap.size w0 w2 := hb.trans (hbx.mono hb.size)
      have HO2 := Lib.hid ((HO.out.alloc _).below hb2)
      have hd2 := hdk.later hbx
      obtain ⟨hc2, hf2⟩ := bcell hb2
      clear HO q0 q1 q2 q3 q4 q5 q6 hdk dl d0 d1 d2 d3 d4 d5 d6 hb2 hbx hc
      generalize cntTo l d k = N at *
      obtain ⟨dl, d0, d1, d2, d3, d4, d5, d6⟩ := hd2
      clear d0 d1 d2 d3 d6
      cases hsee : x.sees d.Seen d.By
      · have HT2 := Lib.hid (show takenTo l d (k + 1) = takenTo l d k by rw [HT.out, HI.out, hsee]; simp)
        have HN2 := Lib.hid (show cntTo l d (k + 1) = N by rw [HN.out, hsee]; rfl)
        clear HT HI HN d4 d5
        go_wp2
        exact ⟨⟨k + 1, a', cap', by omega, by go_num, by rw [HN2.out], by rw [HT2.out], by rw [HT2.out]; exact HO2.out, hb02⟩, by simp [intOf]; omega⟩
      · have HN2 := Lib.hid (show cntTo l d (k + 1) = N + 1 by rw [HN.out, hsee]; rfl)
        by_cases h1 : d.At ≤ (N : Int)
        · by_cases h2 : (N : Int) < d.At + d.Many
          · have HT2 := Lib.hid (show takenTo l d (k + 1) = takenTo l d k ++ [k] by rw [HT.out, HI.out, hsee]; simp [h1, h2])
            clear HT HI HN
            go_wp2_with (at_builtin; refine wpList_append_new rfl (.tmp 35) (.tmp 37) 91 rfl w0.heap.size 3 1 8 Try.underlying91 ti_int a' _ cap' _ rfl HO2.out 1 1 [.int .i64 (k : Int)] rfl rfl (one1 rfl) (by omega) hb02.size ?_)
            intro a3 cap3 w3 hown3 hb3 hz3 hg3
            have HO3 := Lib.hid (show OwnRow w3 w0.heap.size 3 1 a3 (takenTo l d (k + 1)).length cap3 (idxV (takenTo l d (k + 1))) by rw [HT2.out, idxV_snoc, List.length_append]; exact hown3)
            clear hown3 HO2
            go_wp2
            exact ⟨⟨k + 1, a3, cap3, by omega, by go_num, by rw [HN2.out]; go_num, by rw [HT2.out]; simp, HO3.out, hb02.trans hb3⟩, by simp [intOf]; omega⟩
          · have HT2 := Lib.hid (show takenTo l d (k + 1) = takenTo l d k by rw [HT.out, HI.out, hsee]; simp [h2])
            have h2' : decide ((N : Int) < d.At + d.Many) = false := by simpa using h2
            clear HT HI HN
            go_wp2
            exact ⟨⟨k + 1, a', cap', by omega, by go_num, by rw [HN2.out]; go_num, by rw [HT2.out], by rw [HT2.out]; exact HO2.out, hb02⟩, by simp [intOf]; omega⟩
        · have HT2 := Lib.hid (show takenTo l d (k + 1) = takenTo l d k by rw [HT.out, HI.out, hsee]; simp [h1])
          have h1' : decide (d.At ≤ (N : Int)) = false := by simpa using h1
          clear HT HI HN
          go_wp2
          exact ⟨⟨k + 1, a', cap', by omega, by go_num, by rw [HN2.out]; go_num, by rw [HT2.out], by rw [HT2.out]; exact HO2.out, hb02⟩, by simp [intOf]; omega⟩
    · obtain rfl : k = l.length := by omega
      have HE := Lib.hid (hb0.trans (hb.mono hb0.size))
      have HO := Lib.hid (hown.mono hb0.size); clear hown
      go_wp2
      go_ret
      exact ⟨a', cap', rfl, HO.out, HE.out⟩
end Go.Proofs.Ytneoeokfffnonac
