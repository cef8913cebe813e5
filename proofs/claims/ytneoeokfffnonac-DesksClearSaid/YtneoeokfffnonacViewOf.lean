/- The walk of the reference's ViewOf. -/
import Derived.Test.YtneoeokfffnonacRefW
set_option linter.unusedVariables false
set_option linter.unusedSimpArgs false
namespace Go.Proofs.Ytneoeokfffnonac
open Go.RowKit

theorem viewN_snoc (seen by_ : Int) (l : List Ch) (k : Nat) (h : k < l.length) : viewN seen by_ (l.take (k + 1)) = viewN seen by_ (l.take k) ++ (if l[k].sees seen by_ then [l[k].C] else []) := by
  unfold viewN; rw [vis_snoc seen by_ l k h, List.map_append]; congr 1; split <;> rfl

theorem conv_new (w : World) (c : Int) : Sem.run Try.prog (convert 66 9 (.slice (some ⟨w.heap.size, 0, none⟩) 1 1)) (w.alloc (.cells #[.int .u8 c] 5)) = .ok (.string (strOfNums [c])) (w.alloc (.cells #[.int .u8 c] 5)) :=
  run_convert_bytes_arg _ 66 5 Try.underlying66 Try.underlying5 w.heap.size 0 1 1 [c] rfl (fun i hi => by
    have : i = 0 := by omega
    subst this; simp) 9 Try.underlying9

theorem ViewOf_c (a : Option Addr) (cap : Nat) (l : List Ch) (seen by_ : Int) (w : World) (hs : SlCh w a cap l) (hg : ∀ c ∈ l, i64ok c.Gone) :
    Calls Try.prog 77 #[.slice a l.length cap, .int .i64 seen, .int .i64 by_] w fun e w' => e = .returned (.string (strOfNums (viewN seen by_ l))) ∧ Below w.heap.size w w' := by
  have hm : l.length ≤ maxLen := Nat.le_trans hs.1 hs.2.1
  unfold maxLen at hm
  have HG := Lib.hid hg; clear hg
  go_enter Try.func77, Try.ntmps77
  go_wp2
  go_loopw [7, 8] (fun s i wr => ∃ k : Nat, k ≤ l.length ∧ i = .int .i64 k ∧ s = .string (strOfNums (viewN seen by_ (l.take k))) ∧ Below w.heap.size w wr) (fun _ i _ => l.length - (intOf i).toNat)
  case atStart => exact ⟨0, Nat.zero_le _, rfl, rfl, Below.refl _ _⟩
  case round =>
    obtain ⟨k, hk, rfl, rfl, hb⟩ := hrel
    by_cases hlt : k < l.length
    · obtain ⟨b, off, rfl, hc⟩ := hs.nth hlt
      obtain ⟨q0, q1, q2, q3, q4, q5, q6⟩ := hc.below hb hc.lt
      have hlt' : (k : Int) < l.length := by omega
      have Hs := Lib.hid (viewN_snoc seen by_ l k hlt)
      have hvl : (viewN seen by_ (l.take k)).length ≤ k := by
        unfold viewN; rw [List.length_map]; exact Nat.le_trans (vis_le ..) (by simp; omega)
      go_wp2_with fail
      refine (RSees_c l[k] _ _ _ (HG.out _ (List.getElem_mem hlt))).mono ?_
      rintro e w2 ⟨rfl, hb2⟩
      have hbx : Below w.heap.size w w2 := hb.trans (hb2.mono hb.size)
      clear q1 q2 q3 q4 q5 q6
      cases hsee : l[k].sees seen by_
      · have Hs2 := Lib.hid (show viewN seen by_ (l.take (k + 1)) = viewN seen by_ (l.take k) by rw [Hs.out, hsee]; simp)
        clear Hs q0
        go_wp2
        exact ⟨⟨k + 1, by omega, by go_num, by rw [Hs2.out], hbx⟩, by simp [intOf]; omega⟩
      · have Hs2 := Lib.hid (show viewN seen by_ (l.take (k + 1)) = viewN seen by_ (l.take k) ++ [l[k].C] by rw [Hs.out, hsee]; simp)
        clear Hs
        have q0' := (hc.below hbx hc.lt).1
        clear q0
        have hcv := conv_new w2 l[k].C
        have hsz1 : (strOfNums (viewN seen by_ (l.take k))).size + (strOfNums [l[k].C]).size ≤ 9223372036854775807 := by rw [strOfNums_size, strOfNums_size]; simp; omega
        go_wp2
        exact ⟨⟨k + 1, by omega, by go_num, by rw [Hs2.out, strOfNums_append], hbx.alloc hbx.size _⟩, by simp [intOf]; omega⟩
    · obtain rfl : k = l.length := by omega
      have Hs2 := Lib.hid (show l.take l.length = l by simp)
      go_wp2
      go_ret
      exact ⟨by rw [Hs2.out]; rfl, hb⟩
end Go.Proofs.Ytneoeokfffnonac
